/- Contract of the law of RotateGauss. Conditions: told by each spec. -/
import Derived.Test.YtihfncjpfgdhoaaVW14
set_option linter.unusedVariables false
set_option linter.unusedSimpArgs false
namespace Go.Proofs.Ytihfncjpfgdhoaa.V
open Go
attribute [go_sem] resG marks_length
def sp_lawGi : List Cv → List Obj' → Tree
  | [.agg [.ro (.int .i64) w, .ro (.int .i64) hs, .ro (.int .i64) ss], .one (.v (.int .i64 k))], [] => .ret (vb true) []
  | _, _ => .fail
set_option maxHeartbeats 4000000 in
set_option maxRecDepth 100000 in
theorem good_lawRotateGauss : Good Try.prog 7 sp_lawGi := by
  refine good_ofF Try.func7 rfl _ rfl _ rfl (tab [c_szG, c_toG, c_rotateS, c_rotateI, c_eqG, c_markG, c_heldG]) (fun X cs os0 K hok hos hK => ?_)
  clear hos; unfold sp_lawGi at hK
  split at hK
  case h_2 => exact hK.elim
  rename_i w hs ss k
  refine ⟨by simp, by simp, ?_⟩
  simp only [go_sem] at hK hok
  simp (maxSteps := 4000000) only [go_sem, Try.f7, ↓brB_t, ↓brB_f, Nat.reduceAdd, Int.reduceLE, Int.reduceLT, Int.reduceNeg, decide_true, decide_false, Bool.and_self, Nat.succ_eq_add_one, Int.toNat_natCast, Nat.beq_refl, Bool.and_true, Bool.true_and, Bool.false_or, Bool.or_true, List.all_cons, List.all_nil, Nat.reduceMul, Nat.add_zero, Nat.zero_add, List.length_nil, List.length_cons, dite_true, List.nil_append, Nat.reduceBEq, reduceDIte, reduceIte, reduceCtorEq, Bool.or_false, Bool.true_or, Bool.and_false, Bool.false_and, Bool.not_true, Bool.not_false, Option.isSome_some, Option.isSome_none, Option.getD_some, List.getElem?_cons_zero, List.getElem?_cons_succ, eq_self, and_self, List.take_succ_cons, List.take_zero, List.drop_succ_cons, List.drop_zero]
  have hr := rotR_len w hs ss k
  generalize rotR w hs ss k = r at *
  have r1 := hr.1
  have r2 := hr.2.1
  have r3 := hr.2.2
  clear hok hr
  refine ⟨trivial, brB_intro (fun _ => ret0 hK) (fun h1 => ?_)⟩
  have hz : (w.length : Int) + hs.length + ss.length ≤ 1048576 := by
    have h1 := of_decide_eq_false h1; split at h1 <;> omega
  have a1 : w.length ≤ 1099511627776 ∧ hs.length ≤ 1099511627776 ∧ ss.length ≤ 1099511627776 := ⟨by omega, by omega, by omega⟩
  exact ⟨a1, a1, a1, by kernel_rfl, ⟨trivial, by omega⟩, brB_intro (fun h2 => by have := of_decide_eq_true h2; omega) (fun _ => ⟨⟨trivial, by omega⟩, ⟨trivial, by omega⟩, brB_intro (fun h2 => by have := of_decide_eq_true h2; omega) (fun _ => ⟨a1, ⟨trivial, by omega⟩, brB_intro (fun h2 => by have := of_decide_eq_true h2; omega) (fun _ => ret0 hK)⟩)⟩)⟩
end Go.Proofs.Ytihfncjpfgdhoaa.V
