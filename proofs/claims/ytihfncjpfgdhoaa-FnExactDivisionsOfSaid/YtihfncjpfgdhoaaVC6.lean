/- Contracts: SoWeight and its law. Conditions: told by each spec. -/
import Derived.Test.YtihfncjpfgdhoaaVC5
set_option linter.unusedVariables false
set_option linter.unusedSimpArgs false
namespace Go.Proofs.Ytihfncjpfgdhoaa.V
open Go
attribute [go_sem] marks_length
def weF (x : HT [Kn.int .i64]) : Option Int := if 0 ≤ x.1 ∧ x.1 ≤ 1048576 then some (1 - 2 * (x.1 % 2)) else none
def p_we1 : PF0 Try.prog := ⟨119, entB Try.func119 rfl rfl, [.int .i64], .int .i64, weF, sp_we1, good_we1, fun xs y h K hK => by
  unfold weF at h
  split at h
  · rename_i hc
    injection h with h; subst h
    exact ⟨hc, hK⟩
  · cases h⟩
@[go_sem] theorem p_we1_f : p_we1.f = 119 := rfl
@[go_sem] theorem p_we1_v : Rv.val (.one (.pf p_we1.ks p_we1.r p_we1.g)) = Rv.val (.one (.pf [.int .i64] (.int .i64) weF)) := rfl
theorem weF_ok (m : Nat) (h : m ≤ 6) : weF (((m : Nat) : Int), ()) = some (1 - 2 * ((m % 2 : Nat) : Int)) := by
  unfold weF
  rw [if_pos (by show (0 : Int) ≤ ((m : Nat) : Int) ∧ ((m : Nat) : Int) ≤ 1048576; omega)]; rfl
def sp_weight1 : List Cv → List Obj' → Tree
  | [.one (.ro (.int .i64) w), .one (.v (.int .i64 k))], [] => .need (isW w = true ∧ k = 1) (.ret (ow 0) [rwi (trimL (soL w (2 ^ (w.length / 2))))])
  | _, _ => .fail
set_option maxHeartbeats 4000000 in
set_option maxRecDepth 100000 in
theorem good_weight1 : Good Try.prog 88 sp_weight1 := by
  refine good_ofF Try.func88 rfl _ rfl _ rfl (tab [c_twistSum, c_trimmed] [p_we1]) (fun X cs os0 K hok hos hK => ?_)
  clear hos; unfold sp_weight1 at hK
  split at hK
  case h_2 => exact hK.elim
  rename_i w k
  refine ⟨by simp, by simp, ?_⟩
  simp only [go_sem] at hK hok
  simp (maxSteps := 4000000) only [go_sem, Try.f88, ↓brB_t, ↓brB_f, Nat.reduceAdd, Int.reduceLE, Int.reduceLT, Int.reduceNeg, decide_true, decide_false, Bool.and_self, Nat.succ_eq_add_one, Int.toNat_natCast, Nat.beq_refl, Bool.and_true, Bool.true_and, Bool.false_or, Bool.or_true, List.all_cons, List.all_nil, Nat.reduceMul, Nat.add_zero, Nat.zero_add, List.length_nil, List.length_cons, dite_true, List.nil_append, Nat.reduceBEq, reduceDIte, reduceIte, reduceCtorEq, Bool.or_false, Bool.true_or, Bool.and_false, Bool.false_and, Bool.not_true, Bool.not_false, Option.isSome_some, Option.isSome_none, Option.getD_some, List.getElem?_cons_zero, List.getElem?_cons_succ, eq_self, and_self, List.take_succ_cons, List.take_zero, List.drop_succ_cons, List.drop_zero]
  obtain ⟨⟨hw, rfl⟩, hK⟩ := hK
  clear hok
  refine brB_intro (fun h => absurd h (by decide)) (fun _ => brB_intro (fun _ => ?_) (fun h => absurd h (by decide)))
  refine ⟨⟨hw, weF_ok⟩, brB_intro (fun h => ?_) (fun h => ?_)⟩
  · rw [of_decide_eq_true h] at hK
    exact retN [352] rfl hK
  · exact retN [368] rfl hK
def c_weight1 : Ctr Try.prog := ⟨88, ent Try.func88 rfl rfl, [], sp_weight1, good_weight1, []⟩
@[go_sem] theorem c_weight1_f : c_weight1.f = 88 := rfl
@[go_sem] theorem c_weight1_ms : c_weight1.ms = [] := rfl
@[go_sem] theorem c_weight1_sp : c_weight1.spec = sp_weight1 := rfl
@[go_sem] theorem c_weight1_fz : c_weight1.fz = [] := rfl
attribute [go_sem] sp_weight1
def sp_kindOk : List Cv → List Obj' → Tree
  | [.one (.v (.int .i64 k))], [] => .ret (vb (inB k 0 3)) []
  | _, _ => .fail
set_option maxHeartbeats 4000000 in
set_option maxRecDepth 100000 in
theorem good_kindOk : Good Try.prog 87 sp_kindOk := by
  refine good_ofF Try.func87 rfl _ rfl _ rfl (tab [c_in]) (fun X cs os0 K hok hos hK => ?_)
  clear hos; unfold sp_kindOk at hK
  split at hK
  case h_2 => exact hK.elim
  rename_i k
  refine ⟨by simp, by simp, ?_⟩
  simp only [go_sem] at hK hok
  simp (maxSteps := 4000000) only [go_sem, Try.f87, ↓brB_t, ↓brB_f, Nat.reduceAdd, Int.reduceLE, Int.reduceLT, Int.reduceNeg, decide_true, decide_false, Bool.and_self, Nat.succ_eq_add_one, Int.toNat_natCast, Nat.beq_refl, Bool.and_true, Bool.true_and, Bool.false_or, Bool.or_true, List.all_cons, List.all_nil, Nat.reduceMul, Nat.add_zero, Nat.zero_add, List.length_nil, List.length_cons, dite_true, List.nil_append, Nat.reduceBEq, reduceDIte, reduceIte, reduceCtorEq, Bool.or_false, Bool.true_or, Bool.and_false, Bool.false_and, Bool.not_true, Bool.not_false, Option.isSome_some, Option.isSome_none, Option.getD_some, List.getElem?_cons_zero, List.getElem?_cons_succ, eq_self, and_self, List.take_succ_cons, List.take_zero, List.drop_succ_cons, List.drop_zero]
  exact ret0 hK
def c_kindOk : Ctr Try.prog := ⟨87, ent Try.func87 rfl rfl, [], sp_kindOk, good_kindOk, []⟩
@[go_sem] theorem c_kindOk_f : c_kindOk.f = 87 := rfl
@[go_sem] theorem c_kindOk_ms : c_kindOk.ms = [] := rfl
@[go_sem] theorem c_kindOk_sp : c_kindOk.spec = sp_kindOk := rfl
@[go_sem] theorem c_kindOk_fz : c_kindOk.fz = [] := rfl
attribute [go_sem] sp_kindOk
def resL (r : List Int × Int) : Tree := .ret (.tup [.one (.own 0), .one (.v (.int .i64 r.2))]) [rwi r.1]
attribute [go_sem] resL
def soR (w : List Int) : List Int × Int := if isW w then (trimL (soL w (2 ^ (w.length / 2))), 0) else ([], 1)
theorem so1 {w : List Int} (h : isW w = false) : soR w = ([], 1) := by rw [soR, h]; rfl
theorem so0 {w : List Int} (h : isW w = true) : soR w = (trimL (soL w (2 ^ (w.length / 2))), 0) := by rw [soR, h]; rfl
theorem soR_len (w : List Int) : (soR w).1.length ≤ 1048576 := by
  unfold soR
  split
  · rename_i g
    have w1 := (Go.Proofs.Ytihfncjpfgdhoaa.L.word_range g).1
    have := trim_len (soL w (2 ^ (w.length / 2)))
    rw [soL, acc_len] at this
    show (trimL (soL w (2 ^ (w.length / 2)))).length ≤ _
    rw [soL]; omega
  · exact Nat.zero_le _
def sp_kind1 : List Cv → List Obj' → Tree
  | [.one (.ro (.int .i64) w), .one (.v (.int .i64 k))], [] => .need (k = 1) (resL (soR w))
  | _, _ => .fail
set_option maxHeartbeats 4000000 in
set_option maxRecDepth 100000 in
theorem good_kind1 : Good Try.prog 47 sp_kind1 := by
  refine good_ofF Try.func47 rfl _ rfl _ rfl (tab [c_IsWord, c_kindOk, c_weight1]) (fun X cs os0 K hok hos hK => ?_)
  clear hos; unfold sp_kind1 at hK
  split at hK
  case h_2 => exact hK.elim
  rename_i w k
  refine ⟨by simp, by simp, ?_⟩
  simp only [go_sem] at hK hok
  simp (maxSteps := 4000000) only [go_sem, Try.f47, ↓brB_t, ↓brB_f, Nat.reduceAdd, Int.reduceLE, Int.reduceLT, Int.reduceNeg, decide_true, decide_false, Bool.and_self, Nat.succ_eq_add_one, Int.toNat_natCast, Nat.beq_refl, Bool.and_true, Bool.true_and, Bool.false_or, Bool.or_true, List.all_cons, List.all_nil, Nat.reduceMul, Nat.add_zero, Nat.zero_add, List.length_nil, List.length_cons, dite_true, List.nil_append, Nat.reduceBEq, reduceDIte, reduceIte, reduceCtorEq, Bool.or_false, Bool.true_or, Bool.and_false, Bool.false_and, Bool.not_true, Bool.not_false, Option.isSome_some, Option.isSome_none, Option.getD_some, List.getElem?_cons_zero, List.getElem?_cons_succ, eq_self, and_self, List.take_succ_cons, List.take_zero, List.drop_succ_cons, List.drop_zero]
  obtain ⟨rfl, hK⟩ := hK
  clear hok
  refine brB_intro (fun h1 => retM [⟨.reg 4 0, 16, 2, .int .i64⟩] rfl (retN [16] rfl (by rw [so1 (nb h1)] at hK; exact hK))) (fun h1 => brB_intro (fun h2 => absurd h2 (by decide)) (fun _ => ?_))
  rw [so0 (nb' h1)] at hK
  exact ⟨⟨nb' h1, rfl⟩, retN [272] rfl hK⟩
def c_kind1 : Ctr Try.prog := ⟨47, ent Try.func47 rfl rfl, [], sp_kind1, good_kind1, []⟩
@[go_sem] theorem c_kind1_f : c_kind1.f = 47 := rfl
@[go_sem] theorem c_kind1_ms : c_kind1.ms = [] := rfl
@[go_sem] theorem c_kind1_sp : c_kind1.spec = sp_kind1 := rfl
@[go_sem] theorem c_kind1_fz : c_kind1.fz = [] := rfl
attribute [go_sem] sp_kind1
def sp_so : List Cv → List Obj' → Tree
  | [.one (.ro (.int .i64) w)], [] => resL (soR w)
  | _, _ => .fail
set_option maxHeartbeats 4000000 in
set_option maxRecDepth 100000 in
theorem good_soI : Good Try.prog 45 sp_so := by
  refine good_ofF Try.func45 rfl _ rfl _ rfl (tab [c_kind1]) (fun X cs os0 K hok hos hK => ?_)
  clear hos; unfold sp_so at hK
  split at hK
  case h_2 => exact hK.elim
  rename_i w
  refine ⟨by simp, by simp, ?_⟩
  simp only [go_sem] at hK hok
  simp (maxSteps := 4000000) only [go_sem, Try.f45, ↓brB_t, ↓brB_f, Nat.reduceAdd, Int.reduceLE, Int.reduceLT, Int.reduceNeg, decide_true, decide_false, Bool.and_self, Nat.succ_eq_add_one, Int.toNat_natCast, Nat.beq_refl, Bool.and_true, Bool.true_and, Bool.false_or, Bool.or_true, List.all_cons, List.all_nil, Nat.reduceMul, Nat.add_zero, Nat.zero_add, List.length_nil, List.length_cons, dite_true, List.nil_append, Nat.reduceBEq, reduceDIte, reduceIte, reduceCtorEq, Bool.or_false, Bool.true_or, Bool.and_false, Bool.false_and, Bool.not_true, Bool.not_false, Option.isSome_some, Option.isSome_none, Option.getD_some, List.getElem?_cons_zero, List.getElem?_cons_succ, eq_self, and_self, List.take_succ_cons, List.take_zero, List.drop_succ_cons, List.drop_zero]
  exact ⟨trivial, retN [96] rfl hK⟩
def c_soI : Ctr Try.prog := ⟨45, ent Try.func45 rfl rfl, [], sp_so, good_soI, []⟩
@[go_sem] theorem c_soI_f : c_soI.f = 45 := rfl
@[go_sem] theorem c_soI_ms : c_soI.ms = [] := rfl
@[go_sem] theorem c_soI_sp : c_soI.spec = sp_so := rfl
@[go_sem] theorem c_soI_fz : c_soI.fz = [] := rfl
attribute [go_sem] sp_so
set_option maxHeartbeats 4000000 in
set_option maxRecDepth 100000 in
theorem good_soS : Good Try.prog 44 sp_so := by
  refine good_ofF Try.func44 rfl _ rfl _ rfl (tab [c_l01Is, c_l05W1]) (fun X cs os0 K hok hos hK => ?_)
  clear hos; unfold sp_so at hK
  split at hK
  case h_2 => exact hK.elim
  rename_i w
  refine ⟨by simp, by simp, ?_⟩
  simp only [go_sem] at hK hok
  simp (maxSteps := 4000000) only [go_sem, Try.f44, ↓brB_t, ↓brB_f, Nat.reduceAdd, Int.reduceLE, Int.reduceLT, Int.reduceNeg, decide_true, decide_false, Bool.and_self, Nat.succ_eq_add_one, Int.toNat_natCast, Nat.beq_refl, Bool.and_true, Bool.true_and, Bool.false_or, Bool.or_true, List.all_cons, List.all_nil, Nat.reduceMul, Nat.add_zero, Nat.zero_add, List.length_nil, List.length_cons, dite_true, List.nil_append, Nat.reduceBEq, reduceDIte, reduceIte, reduceCtorEq, Bool.or_false, Bool.true_or, Bool.and_false, Bool.false_and, Bool.not_true, Bool.not_false, Option.isSome_some, Option.isSome_none, Option.getD_some, List.getElem?_cons_zero, List.getElem?_cons_succ, eq_self, and_self, List.take_succ_cons, List.take_zero, List.drop_succ_cons, List.drop_zero]
  clear hok
  refine brB_intro (fun h1 => retM [⟨.reg 2 0, 16, 2, .int .i64⟩] rfl (retN [16] rfl (by rw [so1 (nb h1)] at hK; exact hK))) (fun h1 => ?_)
  rw [so0 (nb' h1)] at hK
  exact ⟨⟨nb' h1, trivial⟩, retN [144] rfl hK⟩
def c_soS : Ctr Try.prog := ⟨44, ent Try.func44 rfl rfl, [], sp_so, good_soS, []⟩
@[go_sem] theorem c_soS_f : c_soS.f = 44 := rfl
@[go_sem] theorem c_soS_ms : c_soS.ms = [] := rfl
@[go_sem] theorem c_soS_sp : c_soS.spec = sp_so := rfl
@[go_sem] theorem c_soS_fz : c_soS.fz = [] := rfl
attribute [go_sem] sp_so
def sp_lawL : List Cv → List Obj' → Tree
  | [.one (.ro (.int .i64) w)], [] => .ret (vb true) []
  | _, _ => .fail
set_option maxHeartbeats 4000000 in
set_option maxRecDepth 100000 in
theorem good_lawSoWeight : Good Try.prog 13 sp_lawL := by
  refine good_ofF Try.func13 rfl _ rfl _ rfl (tab [c_to, c_soS, c_soI, c_eqS, c_mark, c_held]) (fun X cs os0 K hok hos hK => ?_)
  clear hos; unfold sp_lawL at hK
  split at hK
  case h_2 => exact hK.elim
  rename_i w
  refine ⟨by simp, by simp, ?_⟩
  simp only [go_sem] at hK hok
  simp (maxSteps := 4000000) only [go_sem, Try.f13, ↓brB_t, ↓brB_f, Nat.reduceAdd, Int.reduceLE, Int.reduceLT, Int.reduceNeg, decide_true, decide_false, Bool.and_self, Nat.succ_eq_add_one, Int.toNat_natCast, Nat.beq_refl, Bool.and_true, Bool.true_and, Bool.false_or, Bool.or_true, List.all_cons, List.all_nil, Nat.reduceMul, Nat.add_zero, Nat.zero_add, List.length_nil, List.length_cons, dite_true, List.nil_append, Nat.reduceBEq, reduceDIte, reduceIte, reduceCtorEq, Bool.or_false, Bool.true_or, Bool.and_false, Bool.false_and, Bool.not_true, Bool.not_false, Option.isSome_some, Option.isSome_none, Option.getD_some, List.getElem?_cons_zero, List.getElem?_cons_succ, eq_self, and_self, List.take_succ_cons, List.take_zero, List.drop_succ_cons, List.drop_zero]
  have hr := soR_len w
  generalize soR w = r at *
  clear hok
  refine brB_intro (fun _ => ret0 hK) (fun h1 => ?_)
  have h1 := of_decide_eq_false h1
  exact ⟨by omega, by omega, by omega, ⟨trivial, trivial, by omega⟩, brB_intro (fun h2 => by have := of_decide_eq_true h2; omega) (fun _ => ⟨⟨trivial, trivial, by omega⟩, ⟨trivial, trivial, by omega⟩, brB_intro (fun h2 => by have := of_decide_eq_true h2; omega) (fun _ => ⟨by omega, ⟨trivial, trivial, by omega⟩, brB_intro (fun h2 => by have := of_decide_eq_true h2; omega) (fun _ => ret0 hK)⟩)⟩)⟩
end Go.Proofs.Ytihfncjpfgdhoaa.V
