/- The plain law of FnExactReverseGauss. Conditions: none. -/
import Derived.Test.YtokcklkjnjffnaaKGaussLaw
import Derived.Test.YtokcklkjnjffnaaKGaussHelp
import Derived.Test.YtokcklkjnjffnaaPEx0
import Derived.Test.YtokcklkjnjffnaaPAx0
import Derived.Test.YtokcklkjnjffnaaPLx0
namespace Go.Proofs.Ytokcklkjnjffnaa.Pure
open Go.RowKit Go.Proofs.Ytokcklkjnjffnaa.PE Go.Proofs.Ytokcklkjnjffnaa.PA Go.Proofs.Ytokcklkjnjffnaa.K Go.Proofs.YtokcklkjnjffnaaW.PrintWords Go.Proofs.YtokcklkjnjffnaaW.PrintLast
set_option linter.unusedVariables false

theorem FnExactReverseGauss (l0 l1 l2 : List Int) (h0 : l0.length ≤ maxLen) (h1 : l1.length ≤ maxLen) (h2 : l2.length ≤ maxLen) (hwf : ∀ x ∈ l0, (Lit.int .i64 x).wf = true) : ∃ k, laws_FnExactReverseGauss.f k l0 l1 l2 = some true := by
  refine Ev.rounds ?_
  unfold laws_FnExactReverseGauss.f
  rcases sz_gauss l0 l1 l2 h0 h1 h2 with ⟨t, ht, hn⟩ | ⟨t, ht, hn, a0, a1, a2⟩
  · exact ev_const ht (ev_pos hn (ev_some _))
  refine ev_const ht (ev_neg (by omega) ?_)
  obtain ⟨a, b, c, d, ha, hb, hc, hs, hi⟩ := reverse_eq l0 l1 l2 (fun x hx => wf_in64 (hwf x hx)) a1 a2
  refine Ev.bind (ev_toGauss l0 l1 l2 a0 a1 a2) (Ev.bind hs (Ev.bind (ev_toGauss l0 l1 l2 a0 a1 a2) (Ev.bind hi (Ev.bind (ev_eqGauss_same a b c (by omega) (by omega) (by omega)) (ev_pos rfl ?_)))))
  refine Ev.step (fun n => by rw [laws_FnExactReverseGauss.j0]) ?_
  refine ev_neg (by simp) (Ev.bind (ev_toGauss l0 l1 l2 a0 a1 a2) (Ev.bind (ev_eqGauss_same l0 l1 l2 a0 a1 a2) (ev_pos rfl (Ev.bind (ev_markGauss l0 l1 l2 1 (by omega) (by omega) a0 a1 a2) (ev_neg (by show ¬ (1 + (l0.length : Int) + l1.length + l2.length < 0); omega) (Ev.bind (ev_eqGauss_same a b c (by omega) (by omega) (by omega)) (ev_pos rfl ?_)))))))
  refine Ev.step (fun n => by rw [laws_FnExactReverseGauss.j1]) ?_
  refine ev_neg (by simp) (Ev.bind (ev_markGauss a b c 1 (by omega) (by omega) (by omega) (by omega) (by omega)) (Ev.bind (ev_heldGauss a.length b.length c.length 1 (by omega) (by omega) (by omega) (by omega) (by omega)) (ev_neg (by omega) (ev_pos rfl (Ev.bind (ev_toGauss l0 l1 l2 a0 a1 a2) (Ev.bind hi (Ev.bind (ev_eqGauss_same a b c (by omega) (by omega) (by omega)) (ev_pos rfl ?_))))))))
  refine Ev.step (fun n => by rw [laws_FnExactReverseGauss.j2]) ?_
  exact ev_neg (by simp) (Ev.bind (ev_heldGauss a.length b.length c.length 1 (by omega) (by omega) (by omega) (by omega) (by omega)) (ev_neg (by omega) (ev_pos rfl (ev_some _))))
end Go.Proofs.Ytokcklkjnjffnaa.Pure
