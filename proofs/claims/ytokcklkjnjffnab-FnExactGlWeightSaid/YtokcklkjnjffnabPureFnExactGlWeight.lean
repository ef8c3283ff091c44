/- The plain law of FnExactGlWeight. Conditions: none. -/
import Derived.Test.YtokcklkjnjffnabKGlLaw
import Derived.Test.YtokcklkjnjffnabKLaw
import Derived.Test.YtokcklkjnjffnabPEx0
import Derived.Test.YtokcklkjnjffnabPEx1
import Derived.Test.YtokcklkjnjffnabPAx0
namespace Go.Proofs.Ytokcklkjnjffnab.Pure
open Go.RowKit Go.Proofs.Ytokcklkjnjffnab.PE Go.Proofs.Ytokcklkjnjffnab.PA Go.Proofs.Ytokcklkjnjffnab.K Go.Proofs.YtokcklkjnjffnabW.PrintWords Go.Proofs.YtokcklkjnjffnabW.PrintLast
set_option linter.unusedVariables false

theorem FnExactGlWeight : laws_FnExactGlWeight.Pure := by
  intro l hm h8 hwf
  refine Ev.rounds ?_
  unfold laws_FnExactGlWeight.f
  refine ev_if (fun _ => ev_some _) (fun h => ?_)
  have hl : l.length ≤ 1048576 := by omega
  obtain ⟨a, b, hr, h1, h2⟩ := gl_eq l (fun x hx => wf_in64 (hwf x hx))
  have hr1 : (a, b).1.length ≤ 20 := hr
  refine Ev.bind (ev_toInt l hl) (Ev.bind h1 (Ev.bind (ev_toInt l hl) (Ev.bind h2 (Ev.bind (ev_eqInt _ _ (by omega)) ?_))))
  refine ev_pos (by simp) ?_
  refine Ev.step (fun n => by rw [laws_FnExactGlWeight.j0]) ?_
  refine ev_neg (by simp) (Ev.bind (ev_toInt l hl) (Ev.bind (ev_eqInt _ _ (by omega)) (ev_pos (by simp) (Ev.bind (ev_mark l 1 (by omega) (by omega)) (ev_neg (by show ¬ (1 + (l.length : Int) < 0); omega) (Ev.bind (ev_eqInt _ _ (by omega)) (ev_pos (by simp) ?_)))))))
  refine Ev.step (fun n => by rw [laws_FnExactGlWeight.j1]) ?_
  refine ev_neg (by simp) (Ev.bind (ev_mark _ 1 (by omega) (by omega)) (Ev.bind (ev_held _ 1 (by omega) (by omega)) (ev_neg (by omega) (ev_pos rfl (Ev.bind (ev_toInt l hl) (Ev.bind h2 (Ev.bind (ev_eqInt _ _ (by omega)) (ev_pos (by simp) ?_))))))))
  refine Ev.step (fun n => by rw [laws_FnExactGlWeight.j2]) ?_
  exact ev_neg (by simp) (Ev.bind (ev_held _ 1 (by omega) (by omega)) (ev_neg (by omega) (ev_pos rfl (ev_some _))))
end Go.Proofs.Ytokcklkjnjffnab.Pure
