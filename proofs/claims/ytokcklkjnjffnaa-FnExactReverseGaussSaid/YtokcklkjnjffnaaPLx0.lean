/- Laid by this session's myprint.py over the kit's printer: contracts of functions of the program. Conditions: in each. -/
import Derived.Test.YtokcklkjnjffnaaPEx0
import Derived.Test.YtokcklkjnjffnaaPEx2
import Derived.Test.YtokcklkjnjffnaaPAx0
import Derived.Test.YtokcklkjnjffnaaPAx1
import Derived.Test.YtokcklkjnjffnaaPAx11
import Derived.Test.YtokcklkjnjffnaaPAx12
import Derived.Test.YtokcklkjnjffnaaPAx8
import Derived.Test.YtokcklkjnjffnaaPAx9
namespace Go.Proofs.Ytokcklkjnjffnaa.PE
open Go.RowKit Go.Proofs.YtokcklkjnjffnaaW.PrintWords Go.Proofs.YtokcklkjnjffnaaW.PrintLast Go.Proofs.YtokcklkjnjffnaaW.PrintMore
attribute [local go_sem] max2_int min2_int max_two min_two max_three min_three max_four min_four   -- for this text's walks alone
open Go.Proofs.Ytokcklkjnjffnaa.K Go.Proofs.Ytokcklkjnjffnaa.PA
set_option linter.unusedVariables false
set_option linter.unusedSimpArgs false

/-! ### laws_FnExactReverseGauss: function 9 -/
mutual
def laws_FnExactReverseGauss.j0 : Nat → Int → Int → Bool → List Int → List Int → List Int → List Int → List Int → List Int → List Int → List Int → List Int → List Int → List Int → List Int → Option (Bool)
  | 0, _, _, _, _, _, _, _, _, _, _, _, _, _, _, _ => none
  | k + 1, x5, x8, x40, x130000, x130001, x130002, x151000, x151001, x151002, x161000, x161001, x161002, x172000, x172001, x172002 => if x40 = true then (some false) else ((laws_toGauss.f k x130000 x130001 x130002).bind fun bt173 => ((laws_eqGauss.f k x161000 x161001 x161002 bt173.1 bt173.2.1 bt173.2.2).bind fun t182 => (if t182 = true then ((laws_markGauss.f k x161000 x161001 x161002 1).bind fun bt183 => (if bt183.1 < 0 then (laws_FnExactReverseGauss.j1 k x5 true x130000 x130001 x130002 x151000 x151001 x151002 x172000 x172001 x172002) else ((laws_eqGauss.f k x172000 x172001 x172002 x151000 x151001 x151002).bind fun t187 => (if t187 = true then (laws_FnExactReverseGauss.j1 k x5 (x8 != x5) x130000 x130001 x130002 x151000 x151001 x151002 x172000 x172001 x172002) else (laws_FnExactReverseGauss.j1 k x5 true x130000 x130001 x130002 x151000 x151001 x151002 x172000 x172001 x172002))))) else (some false))))
def laws_FnExactReverseGauss.j1 : Nat → Int → Bool → List Int → List Int → List Int → List Int → List Int → List Int → List Int → List Int → List Int → Option (Bool)
  | 0, _, _, _, _, _, _, _, _, _, _, _ => none
  | k + 1, x5, x61, x130000, x130001, x130002, x151000, x151001, x151002, x172000, x172001, x172002 => if x61 = true then (some false) else ((laws_markGauss.f k x172000 x172001 x172002 1).bind fun bt188 => ((laws_heldGauss.f k bt188.2.1 bt188.2.2.1 bt188.2.2.2 1).bind fun t192 => (if t192 < 0 then (some false) else (if t192 = bt188.1 then ((laws_toGauss.f k x130000 x130001 x130002).bind fun bt193 => ((impl_ReverseGauss.f k bt193.1 bt193.2.1 bt193.2.2).bind fun bt202 => ((laws_eqGauss.f k bt202.1 bt202.2.1 bt202.2.2.1 x151000 x151001 x151002).bind fun t213 => (if t213 = true then (laws_FnExactReverseGauss.j2 k bt188.1 (bt202.2.2.2 != x5) bt188.2.1 bt188.2.2.1 bt188.2.2.2) else (laws_FnExactReverseGauss.j2 k bt188.1 true bt188.2.1 bt188.2.2.1 bt188.2.2.2))))) else (some false)))))
def laws_FnExactReverseGauss.j2 : Nat → Int → Bool → List Int → List Int → List Int → Option (Bool)
  | 0, _, _, _, _, _ => none
  | k + 1, x10, x87, x172000, x172001, x172002 => if x87 = true then (some false) else ((laws_heldGauss.f k x172000 x172001 x172002 1).bind fun t214 => (if t214 < 0 then (some false) else (if t214 = x10 then (some true) else (some false))))
end
def laws_FnExactReverseGauss.f (k : Nat) (l0_0 : List Int) (l0_1 : List Int) (l0_2 : List Int) : Option (Bool) := (laws_szGauss.f l0_0 l0_1 l0_2 1048576).bind fun t130 => (if t130 < 0 then (some true) else ((laws_toGauss.f k l0_0 l0_1 l0_2).bind fun bt131 => ((spec_ReverseGauss.f k bt131.1 bt131.2.1 bt131.2.2).bind fun bt140 => ((laws_toGauss.f k l0_0 l0_1 l0_2).bind fun bt151 => ((impl_ReverseGauss.f k bt151.1 bt151.2.1 bt151.2.2).bind fun bt161 => ((laws_eqGauss.f k bt161.1 bt161.2.1 bt161.2.2.1 bt140.1 bt140.2.1 bt140.2.2.1).bind fun t172 => (if t172 = true then (laws_FnExactReverseGauss.j0 k bt140.2.2.2 bt161.2.2.2 (bt161.2.2.2 != bt140.2.2.2) l0_0 l0_1 l0_2 bt140.1 bt140.2.1 bt140.2.2.1 bt151.1 bt151.2.1 bt151.2.2 bt161.1 bt161.2.1 bt161.2.2.1) else (laws_FnExactReverseGauss.j0 k bt140.2.2.2 bt161.2.2.2 true l0_0 l0_1 l0_2 bt140.1 bt140.2.1 bt140.2.2.1 bt151.1 bt151.2.1 bt151.2.2 bt161.1 bt161.2.1 bt161.2.2.1))))))))
theorem laws_FnExactReverseGauss.mono_l : ∀ k, (∀ y0 y1 y2 y3 y4 y5 y6 y7 y8 y9 y10 y11 y12 y13 y14, LeO (laws_FnExactReverseGauss.j0 k y0 y1 y2 y3 y4 y5 y6 y7 y8 y9 y10 y11 y12 y13 y14) (laws_FnExactReverseGauss.j0 (k + 1) y0 y1 y2 y3 y4 y5 y6 y7 y8 y9 y10 y11 y12 y13 y14)) ∧ (∀ y0 y1 y2 y3 y4 y5 y6 y7 y8 y9 y10, LeO (laws_FnExactReverseGauss.j1 k y0 y1 y2 y3 y4 y5 y6 y7 y8 y9 y10) (laws_FnExactReverseGauss.j1 (k + 1) y0 y1 y2 y3 y4 y5 y6 y7 y8 y9 y10)) ∧ (∀ y0 y1 y2 y3 y4, LeO (laws_FnExactReverseGauss.j2 k y0 y1 y2 y3 y4) (laws_FnExactReverseGauss.j2 (k + 1) y0 y1 y2 y3 y4))
  | 0 => ⟨fun _ _ _ _ _ _ _ _ _ _ _ _ _ _ _ r h => by simp [laws_FnExactReverseGauss.j0] at h, fun _ _ _ _ _ _ _ _ _ _ _ r h => by simp [laws_FnExactReverseGauss.j1] at h, fun _ _ _ _ _ r h => by simp [laws_FnExactReverseGauss.j2] at h⟩
  | k + 1 => by
    obtain ⟨ih0, ih1, ih2⟩ := laws_FnExactReverseGauss.mono_l k
    refine ⟨?_, ?_, ?_⟩
    · intro y0 y1 y2 y3 y4 y5 y6 y7 y8 y9 y10 y11 y12 y13 y14
      unfold laws_FnExactReverseGauss.j0
      repeat' first
      | (with_reducible exact ih0 _ _ _ _ _ _ _ _ _ _ _ _ _ _ _)
      | (with_reducible exact ih1 _ _ _ _ _ _ _ _ _ _ _)
      | (with_reducible exact ih2 _ _ _ _ _)
      | (with_reducible exact impl_ReverseGauss.mono _ _ _ _)
      | (with_reducible exact laws_eqGauss.mono _ _ _ _ _ _ _)
      | (with_reducible exact laws_heldGauss.mono _ _ _ _ _)
      | (with_reducible exact laws_markGauss.mono _ _ _ _ _)
      | (with_reducible exact laws_toGauss.mono _ _ _ _)
      | (with_reducible exact spec_ReverseGauss.mono _ _ _ _)
      | (with_reducible exact LeO.refl _)
      | (with_reducible exact LeO.none _)
      | (with_reducible refine LeO.ite ?_ ?_)
      | (with_reducible refine LeO.bind ?_ (fun _ => ?_))
      | exact ih0 _ _ _ _ _ _ _ _ _ _ _ _ _ _ _
      | exact ih1 _ _ _ _ _ _ _ _ _ _ _
      | exact ih2 _ _ _ _ _
      | exact impl_ReverseGauss.mono _ _ _ _
      | exact laws_eqGauss.mono _ _ _ _ _ _ _
      | exact laws_heldGauss.mono _ _ _ _ _
      | exact laws_markGauss.mono _ _ _ _ _
      | exact laws_toGauss.mono _ _ _ _
      | exact spec_ReverseGauss.mono _ _ _ _
      | exact LeO.none _
      | refine LeO.ite ?_ ?_
      | refine LeO.bind ?_ (fun _ => ?_)
    · intro y0 y1 y2 y3 y4 y5 y6 y7 y8 y9 y10
      unfold laws_FnExactReverseGauss.j1
      repeat' first
      | (with_reducible exact ih0 _ _ _ _ _ _ _ _ _ _ _ _ _ _ _)
      | (with_reducible exact ih1 _ _ _ _ _ _ _ _ _ _ _)
      | (with_reducible exact ih2 _ _ _ _ _)
      | (with_reducible exact impl_ReverseGauss.mono _ _ _ _)
      | (with_reducible exact laws_eqGauss.mono _ _ _ _ _ _ _)
      | (with_reducible exact laws_heldGauss.mono _ _ _ _ _)
      | (with_reducible exact laws_markGauss.mono _ _ _ _ _)
      | (with_reducible exact laws_toGauss.mono _ _ _ _)
      | (with_reducible exact spec_ReverseGauss.mono _ _ _ _)
      | (with_reducible exact LeO.refl _)
      | (with_reducible exact LeO.none _)
      | (with_reducible refine LeO.ite ?_ ?_)
      | (with_reducible refine LeO.bind ?_ (fun _ => ?_))
      | exact ih0 _ _ _ _ _ _ _ _ _ _ _ _ _ _ _
      | exact ih1 _ _ _ _ _ _ _ _ _ _ _
      | exact ih2 _ _ _ _ _
      | exact impl_ReverseGauss.mono _ _ _ _
      | exact laws_eqGauss.mono _ _ _ _ _ _ _
      | exact laws_heldGauss.mono _ _ _ _ _
      | exact laws_markGauss.mono _ _ _ _ _
      | exact laws_toGauss.mono _ _ _ _
      | exact spec_ReverseGauss.mono _ _ _ _
      | exact LeO.none _
      | refine LeO.ite ?_ ?_
      | refine LeO.bind ?_ (fun _ => ?_)
    · intro y0 y1 y2 y3 y4
      unfold laws_FnExactReverseGauss.j2
      repeat' first
      | (with_reducible exact ih0 _ _ _ _ _ _ _ _ _ _ _ _ _ _ _)
      | (with_reducible exact ih1 _ _ _ _ _ _ _ _ _ _ _)
      | (with_reducible exact ih2 _ _ _ _ _)
      | (with_reducible exact impl_ReverseGauss.mono _ _ _ _)
      | (with_reducible exact laws_eqGauss.mono _ _ _ _ _ _ _)
      | (with_reducible exact laws_heldGauss.mono _ _ _ _ _)
      | (with_reducible exact laws_markGauss.mono _ _ _ _ _)
      | (with_reducible exact laws_toGauss.mono _ _ _ _)
      | (with_reducible exact spec_ReverseGauss.mono _ _ _ _)
      | (with_reducible exact LeO.refl _)
      | (with_reducible exact LeO.none _)
      | (with_reducible refine LeO.ite ?_ ?_)
      | (with_reducible refine LeO.bind ?_ (fun _ => ?_))
      | exact ih0 _ _ _ _ _ _ _ _ _ _ _ _ _ _ _
      | exact ih1 _ _ _ _ _ _ _ _ _ _ _
      | exact ih2 _ _ _ _ _
      | exact impl_ReverseGauss.mono _ _ _ _
      | exact laws_eqGauss.mono _ _ _ _ _ _ _
      | exact laws_heldGauss.mono _ _ _ _ _
      | exact laws_markGauss.mono _ _ _ _ _
      | exact laws_toGauss.mono _ _ _ _
      | exact spec_ReverseGauss.mono _ _ _ _
      | exact LeO.none _
      | refine LeO.ite ?_ ?_
      | refine LeO.bind ?_ (fun _ => ?_)
theorem laws_FnExactReverseGauss.mono : ∀ a0 a1 a2 k, LeO (laws_FnExactReverseGauss.f k a0 a1 a2) (laws_FnExactReverseGauss.f (k + 1) a0 a1 a2) := by
  intro a0 a1 a2 k
  obtain ⟨ih0, ih1, ih2⟩ := laws_FnExactReverseGauss.mono_l k
  unfold laws_FnExactReverseGauss.f
  repeat' first
      | (with_reducible exact ih0 _ _ _ _ _ _ _ _ _ _ _ _ _ _ _)
      | (with_reducible exact ih1 _ _ _ _ _ _ _ _ _ _ _)
      | (with_reducible exact ih2 _ _ _ _ _)
      | (with_reducible exact impl_ReverseGauss.mono _ _ _ _)
      | (with_reducible exact laws_eqGauss.mono _ _ _ _ _ _ _)
      | (with_reducible exact laws_heldGauss.mono _ _ _ _ _)
      | (with_reducible exact laws_markGauss.mono _ _ _ _ _)
      | (with_reducible exact laws_toGauss.mono _ _ _ _)
      | (with_reducible exact spec_ReverseGauss.mono _ _ _ _)
      | (with_reducible exact LeO.refl _)
      | (with_reducible exact LeO.none _)
      | (with_reducible refine LeO.ite ?_ ?_)
      | (with_reducible refine LeO.bind ?_ (fun _ => ?_))
      | exact ih0 _ _ _ _ _ _ _ _ _ _ _ _ _ _ _
      | exact ih1 _ _ _ _ _ _ _ _ _ _ _
      | exact ih2 _ _ _ _ _
      | exact impl_ReverseGauss.mono _ _ _ _
      | exact laws_eqGauss.mono _ _ _ _ _ _ _
      | exact laws_heldGauss.mono _ _ _ _ _
      | exact laws_markGauss.mono _ _ _ _ _
      | exact laws_toGauss.mono _ _ _ _
      | exact spec_ReverseGauss.mono _ _ _ _
      | exact LeO.none _
      | refine LeO.ite ?_ ?_
      | refine LeO.bind ?_ (fun _ => ?_)

end Go.Proofs.Ytokcklkjnjffnaa.PE
