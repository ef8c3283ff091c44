/- Contracts: what a sum is, by the program. Conditions: told by each spec. -/
import Derived.Test.YtokakggilajjlaaVS4
set_option linter.unusedVariables false
set_option linter.unusedSimpArgs false
namespace Go.Proofs.Ytokakggilajjlaa.V
open Go
set_option maxHeartbeats 4000000 in
set_option maxRecDepth 100000 in
theorem good_IsSum : Good Try.prog 54 sp_isS := by
  refine good_ofF Try.func54 rfl _ rfl _ rfl (tab [c_isPrime, c_IsWord, c_in, c_wordOrder]) (fun X cs os0 K hok hos hK => ?_)
  clear hos; unfold sp_isS at hK
  split at hK
  case h_2 => exact hK.elim
  rename_i p ts
  refine ⟨by simp, by simp, ?_⟩
  simp only [go_sem] at hK hok
  simp (maxSteps := 4000000) only [go_sem, Try.f54, ↓brB_t, ↓brB_f, Nat.reduceAdd, Int.reduceLE, Int.reduceLT, Int.reduceNeg, decide_true, decide_false, Bool.and_self, Nat.succ_eq_add_one, Int.toNat_natCast, Nat.beq_refl, Bool.and_true, Bool.true_and, Bool.false_or, Bool.or_true, List.all_cons, List.all_nil, Nat.reduceMul, Nat.add_zero, Nat.zero_add, List.length_nil, List.length_cons, dite_true, List.nil_append, Nat.reduceBEq, reduceDIte, reduceIte, reduceCtorEq, Bool.or_false, Bool.true_or, Bool.and_false, Bool.false_and, Bool.not_true, Bool.not_false, Option.isSome_some, Option.isSome_none, Option.getD_some, List.getElem?_cons_zero, List.getElem?_cons_succ, eq_self, and_self, List.take_succ_cons, List.take_zero, List.drop_succ_cons, List.drop_zero]
  clear hok
  unfold isS at hK
  refine brB_intro (fun h => ret0 (by rw [snb h] at hK; exact hK)) (fun h => ?_)
  rw [snb' h, Bool.true_and] at hK
  refine brB_intro (fun h2 => ret0 ?_) (fun h2 => ?_)
  · have h2 := of_decide_eq_true h2
    rw [decide_eq_false (by omega)] at hK; exact hK
  have h2 := of_decide_eq_false h2
  rw [decide_eq_true (by omega), Bool.true_and] at hK
  refine loop_okF (T := tab [c_isPrime, c_IsWord, c_in, c_wordOrder]) [1, 16, 17, 18] [(16, 32)] (fun i : Nat => ⟨54, [(1, .val (.one (.ptr 16 0))), (16, .val (.one (.ro kTerm ts))), (17, vi (ts.length : Nat)), (18, vi i)], [(16, .box 28 [.v (.int .i64 p), .ro kTerm ts])]⟩)
    (fun i => i ≤ ts.length ∧ (List.range i).all (termB p ts) = true) (fun i => ts.length - i) 0 rfl rfl ⟨Nat.zero_le _, rfl⟩ (fun i hi => ?_)
  obtain ⟨hi, hm⟩ := hi
  simp only [go_sem, ↓brB_t, ↓brB_f, Nat.reduceAdd, Int.reduceLE, Int.reduceLT, Int.reduceNeg, decide_true, decide_false, Bool.and_self, Nat.succ_eq_add_one, Int.toNat_natCast, Nat.beq_refl, Bool.and_true, Bool.true_and, Bool.false_or, Bool.or_true, List.all_cons, List.all_nil, Nat.reduceMul, Nat.add_zero, Nat.zero_add, List.length_nil, List.length_cons, dite_true, List.nil_append, Nat.reduceBEq, reduceDIte, reduceIte, reduceCtorEq, Bool.or_false, Bool.true_or, Bool.and_false, Bool.false_and, Bool.not_true, Bool.not_false, Option.isSome_some, Option.isSome_none, Option.getD_some, List.getElem?_cons_zero, List.getElem?_cons_succ, eq_self, and_self, List.take_succ_cons, List.take_zero, List.drop_succ_cons, List.drop_zero]
  refine brB_intro (fun h1 => ?_) (fun h1 => ret0 ?_)
  · have h1 := of_decide_eq_true h1
    have hw : w64 ((i : Int) + 1) = ((i + 1 : Nat) : Int) := w64_s (n := ts.length) (by omega) (by omega)
    have no : termB p ts i = false → K (vb false) [] := fun h => by rw [all_rn (i := i) (by omega) h] at hK; exact hK
    refine ⟨⟨by omega, by omega⟩, brB_intro (fun h3 => ⟨by kernel_rfl, ret0 (no ?_)⟩) (fun h3 => brB_intro (fun h4 => ⟨by kernel_rfl, ret0 (no ?_)⟩) (fun h4 => brB_intro (fun h5 => ?_) (fun h5 => ⟨by kernel_rfl, i + 1, [(16, 16)], ⟨by omega, all_rs hm ?_⟩, by omega, rfl, by rw [hw]; rfl⟩)))⟩
    · rw [termB, snb h3]; rfl
    · rw [termB, snb' h3, snb h4]; rfl
    · have h5 := of_decide_eq_true h5
      have e1 : w64 ((i : Int) - 1) = ((i - 1 : Nat) : Int) := by rw [w64_id (by omega) (by omega)]; omega
      simp only [e1, Int.toNat_natCast, order_before]
      refine ⟨⟨by omega, by omega⟩, by kernel_rfl, brB_intro (fun h6 => ret0 (no ?_)) (fun h6 => ⟨i + 1, [(16, 16)], ⟨by omega, all_rs hm ?_⟩, by omega, rfl, by rw [hw]; rfl⟩)⟩
      · rw [termB, snb' h3, snb' h4, decide_eq_false (by omega), snb h6]; rfl
      · rw [termB, snb' h3, snb' h4, snb' h6]; simp
    · have h5 := of_decide_eq_false h5
      rw [termB, snb' h3, snb' h4, decide_eq_true (by omega)]; rfl
  · have h1 := of_decide_eq_false h1
    have e : i = ts.length := by omega
    subst e
    rw [hm] at hK; exact hK
def c_IsSum : Ctr Try.prog := ⟨54, ent Try.func54 rfl rfl, [], sp_isS, good_IsSum, []⟩
@[go_sem] theorem c_IsSum_f : c_IsSum.f = 54 := rfl
@[go_sem] theorem c_IsSum_ms : c_IsSum.ms = [] := rfl
@[go_sem] theorem c_IsSum_sp : c_IsSum.spec = sp_isS := rfl
@[go_sem] theorem c_IsSum_fz : c_IsSum.fz = [] := rfl
attribute [go_sem] sp_isS
end Go.Proofs.Ytokakggilajjlaa.V
