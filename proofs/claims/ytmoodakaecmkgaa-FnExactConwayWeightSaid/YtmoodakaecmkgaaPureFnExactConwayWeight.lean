/- The plain law of FnExactConwayWeight. Conditions: none. -/
import Derived.Test.YtmoodakaecmkgaaKCirc
import Derived.Test.YtmoodakaecmkgaaKLaw
import Derived.Test.YtmoodakaecmkgaaKCount
import Derived.Test.YtmoodakaecmkgaaPEx0
import Derived.Test.YtmoodakaecmkgaaPEx1
import Derived.Test.YtmoodakaecmkgaaPAx0
import Derived.Test.YtmoodakaecmkgaaPAx15
import Derived.Test.YtmoodakaecmkgaaPAx18
import Derived.Test.YtmoodakaecmkgaaPAx19
import Derived.Test.YtmoodakaecmkgaaPAx22
import Derived.Test.YtmoodakaecmkgaaPCx0
namespace Go.Proofs.Ytmoodakaecmkgaa.Pure
open Go.RowKit Go.Proofs.Ytmoodakaecmkgaa.PE Go.Proofs.Ytmoodakaecmkgaa.PC Go.Proofs.Ytmoodakaecmkgaa.PA Go.Proofs.Ytmoodakaecmkgaa.K Go.Proofs.YtmoodakaecmkgaaW.PrintWords Go.Proofs.YtmoodakaecmkgaaW.PrintLast
set_option linter.unusedVariables false

theorem conway_eq (l : List Int) (h64 : Ok64 l) : ∃ a b : Int, Ev (fun k => spec_ConwayWeight.f k l) (a, b) ∧ Ev (fun k => impl_ConwayWeight.f k l) (a, b) := by
  cases hw : isWordL l with
  | false =>
    refine ⟨0, 1, ?_, ?_⟩
    · unfold spec_ConwayWeight.f
      exact Ev.bind (ev_specIs l) (ev_neg (by simp [hw]) (ev_some _))
    · unfold impl_ConwayWeight.f
      exact Ev.bind (ev_isWord l h64) (ev_neg (by simp [hw]) (ev_some _))
  | true =>
    obtain ⟨n, hW⟩ := word_of l hw
    have hlen := hW.len
    have hsm := hW.small
    have h2 : (l.length : Int) / 2 = n := by omega
    obtain ⟨c, hc1, hc2, hs, hi⟩ := ev_circles0 hW (List.replicate n false) (by simp) (fun i hi => by
      unfold rdOf
      rw [Int.toNat_natCast, List.getD_eq_getElem?_getD, List.getElem?_replicate]
      split <;> rfl)
    have hnone : spec_l05None.f l = some (List.replicate n false) := by
      unfold spec_l05None.f
      rw [h2, wrap_id (by omega) (by omega), if_pos (by omega), if_pos (by omega), Int.toNat_natCast]
    have hu : IntKind.u64.wrap (wrap64 ((l.length : Int) / 2)) = n := by
      rw [h2, wrap_id (by omega) (by omega)]
      show (n : Int) % 18446744073709551616 = n
      omega
    have hwt : Ev (fun k => spec_l05Weight.f k l 3) (if c = 1 then [1] else []) := by
      unfold spec_l05Weight.f
      refine ev_const rfl ?_
      rw [hu]
      refine ev_pos (by omega) (ev_neg (by omega) (ev_neg (by omega) (ev_neg (by omega) (ev_const hnone (Ev.bind hs ?_)))))
      refine ev_if (fun h => ?_) (fun h => ?_)
      · rw [if_pos h]; exact ev_some _
      · rw [if_neg h]; exact ev_some _
    have hcon : Ev (fun k => impl_conway.f k l) (if c = 1 then 1 else 0) := by
      unfold impl_conway.f
      refine Ev.bind hi ?_
      refine ev_if (fun h => ?_) (fun h => ?_)
      · rw [if_pos h]; exact ev_some _
      · rw [if_neg h]; exact ev_some _
    refine ⟨if c = 1 then 1 else 0, 0, ?_, ?_⟩
    · unfold spec_ConwayWeight.f
      refine Ev.bind (ev_specIs l) (ev_pos hw (Ev.bind hwt (ev_eq (ev_some _) ?_)))
      split <;> rfl
    · unfold impl_ConwayWeight.f
      exact Ev.bind (ev_isWord l h64) (ev_pos hw (Ev.bind hcon (ev_some _)))

theorem FnExactConwayWeight : laws_FnExactConwayWeight.Pure := by
  intro l hm h8 hwf
  refine Ev.rounds ?_
  unfold laws_FnExactConwayWeight.f
  refine ev_if (fun _ => ev_some _) (fun h => ?_)
  have hl : l.length ≤ 1048576 := by omega
  obtain ⟨a, b, h1, h2⟩ := conway_eq l (fun x hx => wf_in64 (hwf x hx))
  refine Ev.bind (ev_toInt l hl) (Ev.bind h1 (Ev.bind (ev_toInt l hl) (Ev.bind h2 ?_)))
  refine ev_pos rfl ?_
  refine Ev.step (fun n => by rw [laws_FnExactConwayWeight.j0]) ?_
  exact ev_neg (by simp) (Ev.bind (ev_toInt l hl) (Ev.bind (ev_eqInt _ _ (by omega)) (ev_pos (by simp) (ev_some _))))
end Go.Proofs.Ytmoodakaecmkgaa.Pure
