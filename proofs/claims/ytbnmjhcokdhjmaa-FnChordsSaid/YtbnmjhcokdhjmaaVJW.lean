/- Contracts: joined words. Conditions: told by each spec. -/
import Derived.Test.YtbnmjhcokdhjmaaVB
import Derived.Test.YtbnmjhcokdhjmaaVW2
import Derived.Test.YtbnmjhcokdhjmaaVL
set_option linter.unusedVariables false
set_option linter.unusedSimpArgs false
namespace Go.Proofs.Ytbnmjhcokdhjmaa.V
open Go
/-- The joined word. -/
def joL (a b : List Int) : List Int := a ++ b.map fun x => w64 (x + (a.length / 2 : Nat))
theorem joL_s {a b : List Int} {i : Nat} (h : i < b.length) : joL a (b.take (i + 1)) = joL a (b.take i) ++ [w64 (b.getD i 0 + (a.length / 2 : Nat))] := by
  rw [joL, joL, List.take_succ_eq_append_getElem h, List.map_append, getD_eq h, List.append_assoc]; rfl
theorem joL_len (a b : List Int) : (joL a b).length = a.length + b.length := by rw [joL, List.length_append, List.length_map]
def sp_join : List Cv → List Obj' → Tree
  | [.one (.ro (.int .i64) a), .one (.ro (.int .i64) b)], [] => .need (a.length < 1000000 ∧ b.length < 1000000) (.ret (ow 0) [rwi (joL a b)])
  | _, _ => .fail
set_option maxHeartbeats 4000000 in
set_option maxRecDepth 100000 in
theorem good_joinI : Good Try.prog 68 sp_join := by
  refine good_ofF Try.func68 rfl _ rfl _ rfl (tab [c_clone, c_chords]) (fun X cs os0 K hok hos hK => ?_)
  clear hos; unfold sp_join at hK
  split at hK
  case h_2 => exact hK.elim
  rename_i a b
  refine ⟨by simp, by simp, ?_⟩
  simp only [go_sem] at hK hok
  simp (maxSteps := 4000000) only [go_sem, Try.f68, ↓brB_t, ↓brB_f, Nat.reduceAdd, Int.reduceLE, Int.reduceLT, Int.reduceNeg, decide_true, decide_false, Bool.and_self, Nat.succ_eq_add_one, Int.toNat_natCast, Nat.beq_refl, Bool.and_true, Bool.true_and, Bool.false_or, Bool.or_true, List.all_cons, List.all_nil, Nat.reduceMul, Nat.add_zero, Nat.zero_add, List.length_nil, List.length_cons, dite_true, List.nil_append, Nat.reduceBEq, reduceDIte, reduceIte, reduceCtorEq, Bool.or_false, Bool.true_or, Bool.and_false, Bool.false_and, Bool.not_true, Bool.not_false, Option.isSome_some, Option.isSome_none, Option.getD_some, List.getElem?_cons_zero, List.getElem?_cons_succ, eq_self, and_self, List.take_succ_cons, List.take_zero, List.drop_succ_cons, List.drop_zero]
  obtain ⟨⟨h1, h2⟩, hK⟩ := hK
  clear hok
  refine ⟨by omega, ?_⟩
  refine loop_okF (T := tab [c_clone, c_chords]) [0, 5, 10, 11, 12] [(16, 160)] (fun i : Nat => ⟨25, [(0, ri a), (5, ow 16), (10, ri b), (11, vi (b.length : Nat)), (12, vi i)], [(16, rwi (joL a (b.take i)))]⟩)
    (fun i => i ≤ b.length) (fun i => b.length - i) 0 rfl (by rw [show joL a (b.take 0) = a by simp [joL]]; rfl) (Nat.zero_le _) (fun i hi => ?_)
  have hjl := joL_len a (b.take i)
  have htl : (b.take i).length = i := by rw [List.length_take]; omega
  simp only [go_sem, ↓brB_t, ↓brB_f, Nat.reduceAdd, Int.reduceLE, Int.reduceLT, Int.reduceNeg, decide_true, decide_false, Bool.and_self, Nat.succ_eq_add_one, Int.toNat_natCast, Nat.beq_refl, Bool.and_true, Bool.true_and, Bool.false_or, Bool.or_true, List.all_cons, List.all_nil, Nat.reduceMul, Nat.add_zero, Nat.zero_add, List.length_nil, List.length_cons, dite_true, List.nil_append, Nat.reduceBEq, reduceDIte, reduceIte, reduceCtorEq, Bool.or_false, Bool.true_or, Bool.and_false, Bool.false_and, Bool.not_true, Bool.not_false, Option.isSome_some, Option.isSome_none, Option.getD_some, List.getElem?_cons_zero, List.getElem?_cons_succ, eq_self, and_self, List.take_succ_cons, List.take_zero, List.drop_succ_cons, List.drop_zero]
  refine brB_intro (fun h3 => ?_) (fun h3 => ?_)
  · have h3 := of_decide_eq_true h3
    have hs := joL_s (a := a) (b := b) (i := i) (by omega)
    have hw1 : w64 ((i : Int) + 1) = ((i + 1 : Nat) : Int) := w64_s (n := b.length) (by omega) (by omega)
    refine ⟨⟨by omega, by omega⟩, by omega, i + 1, [(16, 368)], by omega, by omega, rfl, ?_⟩
    rw [hw1, hs]; rfl
  · have h3 := of_decide_eq_false h3
    have e : i = b.length := by omega
    subst e
    rw [List.take_length]
    exact retN [16] rfl hK
def c_joinI : Ctr Try.prog := ⟨68, ent Try.func68 rfl rfl, [], sp_join, good_joinI, []⟩
@[go_sem] theorem c_joinI_f : c_joinI.f = 68 := rfl
@[go_sem] theorem c_joinI_ms : c_joinI.ms = [] := rfl
@[go_sem] theorem c_joinI_sp : c_joinI.spec = sp_join := rfl
@[go_sem] theorem c_joinI_fz : c_joinI.fz = [] := rfl
attribute [go_sem] sp_join
set_option maxHeartbeats 4000000 in
set_option maxRecDepth 100000 in
theorem good_joinS : Good Try.prog 70 sp_join := by
  refine good_ofF Try.func70 rfl _ rfl _ rfl (tab [c_own]) (fun X cs os0 K hok hos hK => ?_)
  clear hos; unfold sp_join at hK
  split at hK
  case h_2 => exact hK.elim
  rename_i a b
  refine ⟨by simp, by simp, ?_⟩
  simp only [go_sem] at hK hok
  simp (maxSteps := 4000000) only [go_sem, Try.f70, ↓brB_t, ↓brB_f, Nat.reduceAdd, Int.reduceLE, Int.reduceLT, Int.reduceNeg, decide_true, decide_false, Bool.and_self, Nat.succ_eq_add_one, Int.toNat_natCast, Nat.beq_refl, Bool.and_true, Bool.true_and, Bool.false_or, Bool.or_true, List.all_cons, List.all_nil, Nat.reduceMul, Nat.add_zero, Nat.zero_add, List.length_nil, List.length_cons, dite_true, List.nil_append, Nat.reduceBEq, reduceDIte, reduceIte, reduceCtorEq, Bool.or_false, Bool.true_or, Bool.and_false, Bool.false_and, Bool.not_true, Bool.not_false, Option.isSome_some, Option.isSome_none, Option.getD_some, List.getElem?_cons_zero, List.getElem?_cons_succ, eq_self, and_self, List.take_succ_cons, List.take_zero, List.drop_succ_cons, List.drop_zero]
  obtain ⟨⟨h1, h2⟩, hK⟩ := hK
  clear hok
  refine ⟨by omega, ?_⟩
  refine loop_okF (T := tab [c_own]) [0, 1, 5, 6] [(16, 144)] (fun i : Nat => ⟨27, [(0, ri a), (1, ri b), (5, ow 16), (6, vi i)], [(16, rwi (joL a (b.take i)))]⟩)
    (fun i => i ≤ b.length) (fun i => b.length - i) 0 rfl (by rw [show joL a (b.take 0) = a by simp [joL]]; rfl) (Nat.zero_le _) (fun i hi => ?_)
  have hjl := joL_len a (b.take i)
  have htl : (b.take i).length = i := by rw [List.length_take]; omega
  simp only [go_sem, ↓brB_t, ↓brB_f, Nat.reduceAdd, Int.reduceLE, Int.reduceLT, Int.reduceNeg, decide_true, decide_false, Bool.and_self, Nat.succ_eq_add_one, Int.toNat_natCast, Nat.beq_refl, Bool.and_true, Bool.true_and, Bool.false_or, Bool.or_true, List.all_cons, List.all_nil, Nat.reduceMul, Nat.add_zero, Nat.zero_add, List.length_nil, List.length_cons, dite_true, List.nil_append, Nat.reduceBEq, reduceDIte, reduceIte, reduceCtorEq, Bool.or_false, Bool.true_or, Bool.and_false, Bool.false_and, Bool.not_true, Bool.not_false, Option.isSome_some, Option.isSome_none, Option.getD_some, List.getElem?_cons_zero, List.getElem?_cons_succ, eq_self, and_self, List.take_succ_cons, List.take_zero, List.drop_succ_cons, List.drop_zero]
  refine brB_intro (fun h3 => ?_) (fun h3 => ?_)
  · have h3 := of_decide_eq_true h3
    have hs := joL_s (a := a) (b := b) (i := i) (by omega)
    have hw1 : w64 ((i : Int) + 1) = ((i + 1 : Nat) : Int) := w64_s (n := b.length) (by omega) (by omega)
    have hq : w64 ((a.length : Int).tdiv 2) = ((a.length / 2 : Nat) : Int) := by
      rw [Int.tdiv_eq_ediv_of_nonneg (by omega), w64_id (by omega) (by omega)]; omega
    rw [hq, hw1]
    refine ⟨⟨by omega, by omega⟩, by omega, by omega, i + 1, [(16, 416)], by omega, by omega, rfl, ?_⟩
    rw [hs]; rfl
  · have h3 := of_decide_eq_false h3
    have e : i = b.length := by omega
    subst e
    rw [List.take_length]
    exact retN [16] rfl hK
def c_joinS : Ctr Try.prog := ⟨70, ent Try.func70 rfl rfl, [], sp_join, good_joinS, []⟩
@[go_sem] theorem c_joinS_f : c_joinS.f = 70 := rfl
@[go_sem] theorem c_joinS_ms : c_joinS.ms = [] := rfl
@[go_sem] theorem c_joinS_sp : c_joinS.spec = sp_join := rfl
@[go_sem] theorem c_joinS_fz : c_joinS.fz = [] := rfl
attribute [go_sem] sp_join
end Go.Proofs.Ytbnmjhcokdhjmaa.V
