/- The law of joined sums. Conditions: none. -/
import Derived.Test.YtokakggilajjlaaVJ2
set_option linter.unusedVariables false
set_option linter.unusedSimpArgs false
namespace Go.Proofs.Ytokakggilajjlaa.V
open Go
theorem jR_len (p : Int) (ts : TermL) (q : Int) (us : TermL) : (jR p ts q us).1.2.length ≤ 200 ∧ ∀ x ∈ (jR p ts q us).1.2, x.1.length ≤ 12 := by
  unfold jR
  split
  · split
    · rename_i h
      split
      · exact ⟨Nat.zero_le _, fun x hx => by cases hx⟩
      · rename_i h2
        exact ⟨Nat.le_of_not_lt h2, jS_q (q := fun u => u.length ≤ 12) fun y hy => of_decide_eq_true (List.all_eq_true.1 h y hy)⟩
    · exact ⟨Nat.zero_le _, fun x hx => by cases hx⟩
  · exact ⟨Nat.zero_le _, fun x hx => by cases hx⟩
def sp_lawSS : List Cv → List Obj' → Tree
  | [.agg [.v (.int .i64 p), .ro (.pr (.sl 2 (.int .i64)) (.int .i64)) ts], .agg [.v (.int .i64 q), .ro (.pr (.sl 2 (.int .i64)) (.int .i64)) us]], [] => .ret (vb true) []
  | _, _ => .fail
set_option maxHeartbeats 4000000 in
set_option maxRecDepth 100000 in
theorem good_lawJoinSums : Good Try.prog 4 sp_lawSS := by
  refine good_ofF Try.func4 rfl _ rfl _ rfl (tab [c_szSum, c_toSum, c_jOfS, c_jOf, c_eqSum, c_markSum, c_heldSum]) (fun X cs os0 K hok hos hK => ?_)
  clear hos; unfold sp_lawSS at hK
  split at hK
  case h_2 => exact hK.elim
  rename_i p ts q us
  refine ⟨by simp, by simp, ?_⟩
  simp only [go_sem] at hK hok
  simp (maxSteps := 4000000) only [go_sem, Try.f4, ↓brB_t, ↓brB_f, Nat.reduceAdd, Int.reduceLE, Int.reduceLT, Int.reduceNeg, decide_true, decide_false, Bool.and_self, Nat.succ_eq_add_one, Int.toNat_natCast, Nat.beq_refl, Bool.and_true, Bool.true_and, Bool.false_or, Bool.or_true, List.all_cons, List.all_nil, Nat.reduceMul, Nat.add_zero, Nat.zero_add, List.length_nil, List.length_cons, dite_true, List.nil_append, Nat.reduceBEq, reduceDIte, reduceIte, reduceCtorEq, Bool.or_false, Bool.true_or, Bool.and_false, Bool.false_and, Bool.not_true, Bool.not_false, Option.isSome_some, Option.isSome_none, Option.getD_some, List.getElem?_cons_zero, List.getElem?_cons_succ, eq_self, and_self, List.take_succ_cons, List.take_zero, List.drop_succ_cons, List.drop_zero]
  have hr := jR_len p ts q us
  generalize jR p ts q us = r at *
  clear hok
  refine ⟨trivial, brB_intro (fun _ => ret0 hK) (fun h1 => ?_)⟩
  have h1 := of_decide_eq_false h1
  have hz : ts.length + szT ts ≤ 1048576 := by split at h1 <;> omega
  rw [if_neg (by omega)] at h1 ⊢
  refine ⟨by omega, brB_intro (fun _ => ret0 hK) (fun h2 => ?_)⟩
  have h2 := of_decide_eq_false h2
  have hz2 : us.length + szT us ≤ 1048576 := by split at h2 <;> omega
  have a1 : ts.length ≤ 1099511627776 ∧ ∀ x ∈ (ts : TermL), x.1.length ≤ 1099511627776 := ⟨by omega, fun x hx => by have := szT_mem hx; omega⟩
  have a2 : us.length ≤ 1099511627776 ∧ ∀ x ∈ (us : TermL), x.1.length ≤ 1099511627776 := ⟨by omega, fun x hx => by have := szT_mem hx; omega⟩
  have hb := szT_le12 hr.2
  have hb2 := hr.1
  clear h1 h2 hr
  generalize szT r.1.2 = z at *
  exact ⟨a1, a2, by kernel_rfl, a1, a2, a1, by kernel_rfl, a2, by kernel_rfl, ⟨trivial, by omega⟩, ⟨by omega, by omega⟩, brB_intro (fun h2 => by have := of_decide_eq_true h2; omega) (fun _ => ⟨⟨trivial, by omega⟩, ⟨trivial, by omega⟩, brB_intro (fun h2 => by have := of_decide_eq_true h2; omega) (fun _ => ⟨a1, a2, by kernel_rfl, ⟨trivial, by omega⟩, brB_intro (fun h2 => by have := of_decide_eq_true h2; omega) (fun _ => ret0 hK)⟩)⟩)⟩
end Go.Proofs.Ytokakggilajjlaa.V
