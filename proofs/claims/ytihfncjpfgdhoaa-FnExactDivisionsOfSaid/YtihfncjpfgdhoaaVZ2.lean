/- Contracts: how many divisions there are, both sides, the law. Conditions: told by each spec. -/
import Derived.Test.YtihfncjpfgdhoaaVZe
set_option linter.unusedVariables false
set_option linter.unusedSimpArgs false
namespace Go.Proofs.Ytihfncjpfgdhoaa.V
open Go
theorem inBz {x a b : Int} (h : inB x a b = true) : a ≤ x ∧ x ≤ b := by simpa [inB] using h
def sp_upOk : List Cv → List Obj' → Tree
  | [.one (.v (.int .i64 n))], [] => .ret (vb (inB n 0 4)) []
  | _, _ => .fail
set_option maxHeartbeats 4000000 in
set_option maxRecDepth 100000 in
theorem good_upOk : Good Try.prog 82 sp_upOk := by
  refine good_ofF Try.func82 rfl _ rfl _ rfl (tab [c_in]) (fun X cs os0 K hok hos hK => ?_)
  clear hos; unfold sp_upOk at hK
  split at hK
  case h_2 => exact hK.elim
  rename_i n
  refine ⟨by simp, by simp, ?_⟩
  simp only [go_sem] at hK hok
  simp (maxSteps := 4000000) only [go_sem, Try.f82, ↓brB_t, ↓brB_f, Nat.reduceAdd, Int.reduceLE, Int.reduceLT, Int.reduceNeg, decide_true, decide_false, Bool.and_self, Nat.succ_eq_add_one, Int.toNat_natCast, Nat.beq_refl, Bool.and_true, Bool.true_and, Bool.false_or, Bool.or_true, List.all_cons, List.all_nil, Nat.reduceMul, Nat.add_zero, Nat.zero_add, List.length_nil, List.length_cons, dite_true, List.nil_append, Nat.reduceBEq, reduceDIte, reduceIte, reduceCtorEq, Bool.or_false, Bool.true_or, Bool.and_false, Bool.false_and, Bool.not_true, Bool.not_false, Option.isSome_some, Option.isSome_none, Option.getD_some, List.getElem?_cons_zero, List.getElem?_cons_succ, eq_self, and_self, List.take_succ_cons, List.take_zero, List.drop_succ_cons, List.drop_zero]
  exact ret0 hK
def c_upOk : Ctr Try.prog := ⟨82, ent Try.func82 rfl rfl, [], sp_upOk, good_upOk, []⟩
@[go_sem] theorem c_upOk_f : c_upOk.f = 82 := rfl
@[go_sem] theorem c_upOk_ms : c_upOk.ms = [] := rfl
@[go_sem] theorem c_upOk_sp : c_upOk.spec = sp_upOk := rfl
@[go_sem] theorem c_upOk_fz : c_upOk.fz = [] := rfl
attribute [go_sem] sp_upOk
def divR (n : Int) : Int × Int := if inB n 0 4 then (cntD n.toNat, 0) else (0, 2)
def sp_divOf : List Cv → List Obj' → Tree
  | [.one (.v (.int .i64 n))], [] => .ret (.tup [.one (.v (.int .i64 (divR n).1)), .one (.v (.int .i64 (divR n).2))]) []
  | _, _ => .fail
set_option maxHeartbeats 4000000 in
set_option maxRecDepth 100000 in
theorem good_divS : Good Try.prog 40 sp_divOf := by
  refine good_ofF Try.func40 rfl _ rfl _ rfl (tab [c_l01In]) (fun X cs os0 K hok hos hK => ?_)
  clear hos; unfold sp_divOf at hK
  split at hK
  case h_2 => exact hK.elim
  rename_i n
  refine ⟨by simp, by simp, ?_⟩
  simp only [go_sem] at hK hok
  simp (maxSteps := 4000000) only [go_sem, Try.f40, ↓brB_t, ↓brB_f, Nat.reduceAdd, Int.reduceLE, Int.reduceLT, Int.reduceNeg, decide_true, decide_false, Bool.and_self, Nat.succ_eq_add_one, Int.toNat_natCast, Nat.beq_refl, Bool.and_true, Bool.true_and, Bool.false_or, Bool.or_true, List.all_cons, List.all_nil, Nat.reduceMul, Nat.add_zero, Nat.zero_add, List.length_nil, List.length_cons, dite_true, List.nil_append, Nat.reduceBEq, reduceDIte, reduceIte, reduceCtorEq, Bool.or_false, Bool.true_or, Bool.and_false, Bool.false_and, Bool.not_true, Bool.not_false, Option.isSome_some, Option.isSome_none, Option.getD_some, List.getElem?_cons_zero, List.getElem?_cons_succ, eq_self, and_self, List.take_succ_cons, List.take_zero, List.drop_succ_cons, List.drop_zero]
  clear hok
  refine brB_intro (fun h => ret0 ?_) (fun h => ?_)
  · have e : divR n = (0, 2) := by rw [divR, if_neg (by rw [nb h]; decide)]
    rw [e] at hK; exact hK
  · have hr := inBz (nb' h)
    have e : divR n = (cntD n.toNat, 0) := by rw [divR, if_pos (nb' h)]
    rw [e] at hK
    exact ⟨⟨hr.1, by show n < 5; omega⟩, ret0 hK⟩
def c_divS : Ctr Try.prog := ⟨40, ent Try.func40 rfl rfl, [], sp_divOf, good_divS, []⟩
@[go_sem] theorem c_divS_f : c_divS.f = 40 := rfl
@[go_sem] theorem c_divS_ms : c_divS.ms = [] := rfl
@[go_sem] theorem c_divS_sp : c_divS.spec = sp_divOf := rfl
@[go_sem] theorem c_divS_fz : c_divS.fz = [] := rfl
attribute [go_sem] sp_divOf
/-- The word of n chords that are apart. -/
def apL (n : Nat) : List Int := (List.range n).flatMap fun i : Nat => [(i : Int), (i : Int)]
theorem apL_s (n : Nat) : apL (n + 1) = apL n ++ [(n : Int), (n : Int)] := by
  rw [apL, List.range_succ, List.flatMap_append]; rfl
theorem apL_len (n : Nat) : (apL n).length = 2 * n := by
  induction n with
  | zero => rfl
  | succ n ih => rw [apL_s, List.length_append, ih]; rfl
theorem apL_w : ∀ n, n < 5 → isW (apL n) = true := by decide +kernel
set_option maxHeartbeats 4000000 in
set_option maxRecDepth 100000 in
theorem good_divI : Good Try.prog 41 sp_divOf := by
  refine good_ofF Try.func41 rfl _ rfl _ rfl (tab [c_upOk, c_div0]) (fun X cs os0 K hok hos hK => ?_)
  clear hos; unfold sp_divOf at hK
  split at hK
  case h_2 => exact hK.elim
  rename_i n
  refine ⟨by simp, by simp, ?_⟩
  simp only [go_sem] at hK hok
  simp (maxSteps := 4000000) only [go_sem, Try.f41, ↓brB_t, ↓brB_f, Nat.reduceAdd, Int.reduceLE, Int.reduceLT, Int.reduceNeg, decide_true, decide_false, Bool.and_self, Nat.succ_eq_add_one, Int.toNat_natCast, Nat.beq_refl, Bool.and_true, Bool.true_and, Bool.false_or, Bool.or_true, List.all_cons, List.all_nil, Nat.reduceMul, Nat.add_zero, Nat.zero_add, List.length_nil, List.length_cons, dite_true, List.nil_append, Nat.reduceBEq, reduceDIte, reduceIte, reduceCtorEq, Bool.or_false, Bool.true_or, Bool.and_false, Bool.false_and, Bool.not_true, Bool.not_false, Option.isSome_some, Option.isSome_none, Option.getD_some, List.getElem?_cons_zero, List.getElem?_cons_succ, eq_self, and_self, List.take_succ_cons, List.take_zero, List.drop_succ_cons, List.drop_zero]
  clear hok
  refine brB_intro (fun h => ret0 ?_) (fun h => ?_)
  · have e : divR n = (0, 2) := by rw [divR, if_neg (by rw [nb h]; decide)]
    rw [e] at hK; exact hK
  · have hr := inBz (nb' h)
    have e : divR n = (cntD n.toNat, 0) := by rw [divR, if_pos (nb' h)]
    rw [e] at hK
    clear e h
    obtain ⟨N, rfl⟩ : ∃ N : Nat, n = N := ⟨n.toNat, by omega⟩
    rw [Int.toNat_natCast] at hK
    refine loop_okF (T := tab [c_upOk, c_div0]) [4, 5, 11, 12] [(16, 80), (17, 176)] (fun i : Nat => ⟨25, [(4, .val (.one (.ptr 16 0))), (5, ow 17), (11, vi N), (12, vi i)], [(16, .box 2 [.v (.int .i64 0)]), (17, rwi (apL i))]⟩)
      (fun i => i ≤ N) (fun i => N - i) 0 rfl rfl (Nat.zero_le _) (fun i hi => ?_)
    simp only [go_sem, ↓brB_t, ↓brB_f, Nat.reduceAdd, Int.reduceLE, Int.reduceLT, Int.reduceNeg, decide_true, decide_false, Bool.and_self, Nat.succ_eq_add_one, Int.toNat_natCast, Nat.beq_refl, Bool.and_true, Bool.true_and, Bool.false_or, Bool.or_true, List.all_cons, List.all_nil, Nat.reduceMul, Nat.add_zero, Nat.zero_add, List.length_nil, List.length_cons, dite_true, List.nil_append, Nat.reduceBEq, reduceDIte, reduceIte, reduceCtorEq, Bool.or_false, Bool.true_or, Bool.and_false, Bool.false_and, Bool.not_true, Bool.not_false, Option.isSome_some, Option.isSome_none, Option.getD_some, List.getElem?_cons_zero, List.getElem?_cons_succ, eq_self, and_self, List.take_succ_cons, List.take_zero, List.drop_succ_cons, List.drop_zero]
    have hal := apL_len i
    refine brB_intro (fun h1 => ?_) (fun h1 => ?_)
    · have h1 := of_decide_eq_true h1
      rw [show w64 ((i : Int) + 1) = ((i + 1 : Nat) : Int) from w64_s (n := N) (by omega) (by omega)]
      rw [← apL_s]
      exact ⟨by omega, i + 1, [(16, 16), (17, 320)], by omega, by omega, rfl, rfl⟩
    · have h1 := of_decide_eq_false h1
      have e : i = N := by omega
      subst e
      have h2 : (apL i).length / 2 = i := by omega
      have h0 : (0 : Int) + cntD ((apL i).length / 2) = cntD i := by rw [h2, Int.zero_add]
      rw [h0]
      exact ⟨⟨apL_w i (by omega), by omega, trivial⟩, ret0 hK⟩
def c_divI : Ctr Try.prog := ⟨41, ent Try.func41 rfl rfl, [], sp_divOf, good_divI, []⟩
@[go_sem] theorem c_divI_f : c_divI.f = 41 := rfl
@[go_sem] theorem c_divI_ms : c_divI.ms = [] := rfl
@[go_sem] theorem c_divI_sp : c_divI.spec = sp_divOf := rfl
@[go_sem] theorem c_divI_fz : c_divI.fz = [] := rfl
attribute [go_sem] sp_divOf
def sp_lawI1 : List Cv → List Obj' → Tree
  | [.one (.v (.int .i64 n))], [] => .ret (vb true) []
  | _, _ => .fail
set_option maxHeartbeats 4000000 in
set_option maxRecDepth 100000 in
theorem good_lawDivisionsOf : Good Try.prog 11 sp_lawI1 := by
  refine good_ofF Try.func11 rfl _ rfl _ rfl (tab [c_divS, c_divI]) (fun X cs os0 K hok hos hK => ?_)
  clear hos; unfold sp_lawI1 at hK
  split at hK
  case h_2 => exact hK.elim
  rename_i n
  refine ⟨by simp, by simp, ?_⟩
  simp only [go_sem] at hK hok
  simp (maxSteps := 4000000) only [go_sem, Try.f11, ↓brB_t, ↓brB_f, Nat.reduceAdd, Int.reduceLE, Int.reduceLT, Int.reduceNeg, decide_true, decide_false, Bool.and_self, Nat.succ_eq_add_one, Int.toNat_natCast, Nat.beq_refl, Bool.and_true, Bool.true_and, Bool.false_or, Bool.or_true, List.all_cons, List.all_nil, Nat.reduceMul, Nat.add_zero, Nat.zero_add, List.length_nil, List.length_cons, dite_true, List.nil_append, Nat.reduceBEq, reduceDIte, reduceIte, reduceCtorEq, Bool.or_false, Bool.true_or, Bool.and_false, Bool.false_and, Bool.not_true, Bool.not_false, Option.isSome_some, Option.isSome_none, Option.getD_some, List.getElem?_cons_zero, List.getElem?_cons_succ, eq_self, and_self, List.take_succ_cons, List.take_zero, List.drop_succ_cons, List.drop_zero]
  generalize divR n = r at *
  clear hok
  exact ret0 hK
end Go.Proofs.Ytihfncjpfgdhoaa.V
