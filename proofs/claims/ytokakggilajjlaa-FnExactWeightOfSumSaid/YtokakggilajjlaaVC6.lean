/- Contracts: SoWeight and its law. Conditions: told by each spec. -/
import Derived.Test.YtokakggilajjlaaVC5
set_option linter.unusedVariables false
set_option linter.unusedSimpArgs false
namespace Go.Proofs.Ytokakggilajjlaa.V
open Go
attribute [go_sem] marks_length
def weF (x : HT [Kn.int .i64]) : Option Int := if 0 ≤ x.1 ∧ x.1 ≤ 1048576 then some (1 - 2 * (x.1 % 2)) else none
def p_we1 : PF0 Try.prog := ⟨152, entB Try.func152 rfl rfl, [.int .i64], .int .i64, weF, sp_we1, good_we1, fun xs y h K hK => by
  unfold weF at h
  split at h
  · rename_i hc
    injection h with h; subst h
    exact ⟨hc, hK⟩
  · cases h⟩
@[go_sem] theorem p_we1_f : p_we1.f = 152 := rfl
@[go_sem] theorem p_we1_v : Rv.val (.one (.pf p_we1.ks p_we1.r p_we1.g)) = Rv.val (.one (.pf [.int .i64] (.int .i64) weF)) := rfl
theorem weF_ok (m : Nat) (h : m ≤ 6) : weF (((m : Nat) : Int), ()) = some (1 - 2 * ((m % 2 : Nat) : Int)) := by
  unfold weF
  rw [if_pos (by show (0 : Int) ≤ ((m : Nat) : Int) ∧ ((m : Nat) : Int) ≤ 1048576; omega)]; rfl
def sp_weight1 : List Cv → List Obj' → Tree
  | [.one (.ro (.int .i64) w), .one (.v (.int .i64 k))], [] => .need (isW w = true ∧ k = 1) (.ret (ow 0) [rwi (trimL (soL w (2 ^ (w.length / 2))))])
  | _, _ => .fail
set_option maxHeartbeats 4000000 in
set_option maxRecDepth 100000 in
theorem good_weight1 : Good Try.prog 99 sp_weight1 := by
  refine good_ofF Try.func99 rfl _ rfl _ rfl (tab [c_twistSum, c_trimmed] [p_we1]) (fun X cs os0 K hok hos hK => ?_)
  clear hos; unfold sp_weight1 at hK
  split at hK
  case h_2 => exact hK.elim
  rename_i w k
  refine ⟨by simp, by simp, ?_⟩
  simp only [go_sem] at hK hok
  simp (maxSteps := 4000000) only [go_sem, Try.f99, ↓brB_t, ↓brB_f, Nat.reduceAdd, Int.reduceLE, Int.reduceLT, Int.reduceNeg, decide_true, decide_false, Bool.and_self, Nat.succ_eq_add_one, Int.toNat_natCast, Nat.beq_refl, Bool.and_true, Bool.true_and, Bool.false_or, Bool.or_true, List.all_cons, List.all_nil, Nat.reduceMul, Nat.add_zero, Nat.zero_add, List.length_nil, List.length_cons, dite_true, List.nil_append, Nat.reduceBEq, reduceDIte, reduceIte, reduceCtorEq, Bool.or_false, Bool.true_or, Bool.and_false, Bool.false_and, Bool.not_true, Bool.not_false, Option.isSome_some, Option.isSome_none, Option.getD_some, List.getElem?_cons_zero, List.getElem?_cons_succ, eq_self, and_self, List.take_succ_cons, List.take_zero, List.drop_succ_cons, List.drop_zero]
  obtain ⟨⟨hw, rfl⟩, hK⟩ := hK
  clear hok
  refine brB_intro (fun h => absurd h (by decide)) (fun _ => brB_intro (fun _ => ?_) (fun h => absurd h (by decide)))
  refine ⟨⟨hw, weF_ok⟩, brB_intro (fun h => ?_) (fun h => ?_)⟩
  · rw [of_decide_eq_true h] at hK
    exact retN [352] rfl hK
  · exact retN [368] rfl hK
def c_weight1 : Ctr Try.prog := ⟨99, ent Try.func99 rfl rfl, [], sp_weight1, good_weight1⟩
@[go_sem] theorem c_weight1_f : c_weight1.f = 99 := rfl
@[go_sem] theorem c_weight1_ms : c_weight1.ms = [] := rfl
@[go_sem] theorem c_weight1_sp : c_weight1.spec = sp_weight1 := rfl
attribute [go_sem] sp_weight1
def sp_kindOk : List Cv → List Obj' → Tree
  | [.one (.v (.int .i64 k))], [] => .ret (vb (inB k 0 3)) []
  | _, _ => .fail
set_option maxHeartbeats 4000000 in
set_option maxRecDepth 100000 in
theorem good_kindOk : Good Try.prog 98 sp_kindOk := by
  refine good_ofF Try.func98 rfl _ rfl _ rfl (tab [c_in]) (fun X cs os0 K hok hos hK => ?_)
  clear hos; unfold sp_kindOk at hK
  split at hK
  case h_2 => exact hK.elim
  rename_i k
  refine ⟨by simp, by simp, ?_⟩
  simp only [go_sem] at hK hok
  simp (maxSteps := 4000000) only [go_sem, Try.f98, ↓brB_t, ↓brB_f, Nat.reduceAdd, Int.reduceLE, Int.reduceLT, Int.reduceNeg, decide_true, decide_false, Bool.and_self, Nat.succ_eq_add_one, Int.toNat_natCast, Nat.beq_refl, Bool.and_true, Bool.true_and, Bool.false_or, Bool.or_true, List.all_cons, List.all_nil, Nat.reduceMul, Nat.add_zero, Nat.zero_add, List.length_nil, List.length_cons, dite_true, List.nil_append, Nat.reduceBEq, reduceDIte, reduceIte, reduceCtorEq, Bool.or_false, Bool.true_or, Bool.and_false, Bool.false_and, Bool.not_true, Bool.not_false, Option.isSome_some, Option.isSome_none, Option.getD_some, List.getElem?_cons_zero, List.getElem?_cons_succ, eq_self, and_self, List.take_succ_cons, List.take_zero, List.drop_succ_cons, List.drop_zero]
  exact ret0 hK
def c_kindOk : Ctr Try.prog := ⟨98, ent Try.func98 rfl rfl, [], sp_kindOk, good_kindOk⟩
@[go_sem] theorem c_kindOk_f : c_kindOk.f = 98 := rfl
@[go_sem] theorem c_kindOk_ms : c_kindOk.ms = [] := rfl
@[go_sem] theorem c_kindOk_sp : c_kindOk.spec = sp_kindOk := rfl
attribute [go_sem] sp_kindOk
def resL (r : List Int × Int) : Tree := .ret (.tup [.one (.own 0), .one (.v (.int .i64 r.2))]) [rwi r.1]
attribute [go_sem] resL
def soR (w : List Int) : List Int × Int := if isW w then (trimL (soL w (2 ^ (w.length / 2))), 0) else ([], 1)
theorem so1 {w : List Int} (h : isW w = false) : soR w = ([], 1) := by rw [soR, h]; rfl
theorem so0 {w : List Int} (h : isW w = true) : soR w = (trimL (soL w (2 ^ (w.length / 2))), 0) := by rw [soR, h]; rfl
theorem soR_len (w : List Int) : (soR w).1.length ≤ 1048576 := by
  unfold soR
  split
  · rename_i g
    have w1 := (Go.Proofs.Ytokakggilajjlaa.L.word_range g).1
    have := trim_len (soL w (2 ^ (w.length / 2)))
    rw [soL, acc_len] at this
    show (trimL (soL w (2 ^ (w.length / 2)))).length ≤ _
    rw [soL]; omega
  · exact Nat.zero_le _
def sp_lawL : List Cv → List Obj' → Tree
  | [.one (.ro (.int .i64) w)], [] => .ret (vb true) []
  | _, _ => .fail
end Go.Proofs.Ytokakggilajjlaa.V
