/- The plain law of FnExactUntransformCounts. Conditions: none. -/
import Derived.Test.YtmoodakaecmkgaaKUntransLaw
import Derived.Test.YtmoodakaecmkgaaKLaw
import Derived.Test.YtmoodakaecmkgaaKExt
import Derived.Test.YtmoodakaecmkgaaPBx0
import Derived.Test.YtmoodakaecmkgaaPBx1
namespace Go.Proofs.Ytmoodakaecmkgaa.Pure
open Go.RowKit Go.Proofs.Ytmoodakaecmkgaa.PB Go.Proofs.Ytmoodakaecmkgaa.PA Go.Proofs.Ytmoodakaecmkgaa.K Go.Proofs.YtmoodakaecmkgaaW.PrintWords Go.Proofs.YtmoodakaecmkgaaW.PrintLast
set_option linter.unusedVariables false

theorem FnExactUntransformCounts : laws_FnExactUntransformCounts.Pure := by
  intro l hm h8 hwf
  refine Ev.rounds ?_
  unfold laws_FnExactUntransformCounts.f
  refine ev_if (fun _ => ev_some _) (fun h => ?_)
  have hl : l.length ≤ 1048576 := by omega
  have hr : (untransI l).1.length ≤ 1048577 := untransI_length l
  refine Ev.bind (ev_toInt l hl) (Ev.bind (ev_specUntrans l (by omega)) (Ev.bind (ev_toInt l hl) (ev_const rfl (Ev.bind (ev_eqInt _ _ (by omega)) ?_))))
  refine ev_pos (by simp) ?_
  refine Ev.step (fun n => by rw [laws_FnExactUntransformCounts.j0]) ?_
  refine ev_neg (by simp) (Ev.bind (ev_toInt l hl) (Ev.bind (ev_eqInt _ _ (by omega)) (ev_pos (by simp) (Ev.bind (ev_mark l 1 (by omega) (by omega)) (ev_neg (by show ¬ (1 + (l.length : Int) < 0); omega) (Ev.bind (ev_eqInt _ _ (by omega)) (ev_pos (by simp) ?_)))))))
  refine Ev.step (fun n => by rw [laws_FnExactUntransformCounts.j1]) ?_
  refine ev_neg (by simp) (Ev.bind (ev_mark _ 1 (by omega) (by omega)) (Ev.bind (ev_held _ 1 (by omega) (by omega)) (ev_neg (by omega) (ev_pos rfl (Ev.bind (ev_toInt l hl) (ev_const rfl (Ev.bind (ev_eqInt _ _ (by omega)) (ev_pos (by simp) ?_))))))))
  refine Ev.step (fun n => by rw [laws_FnExactUntransformCounts.j2]) ?_
  exact ev_neg (by simp) (Ev.bind (ev_held _ 1 (by omega) (by omega)) (ev_neg (by omega) (ev_pos rfl (ev_some _))))
end Go.Proofs.Ytmoodakaecmkgaa.Pure
