/- impl.TransformCounts and impl.UntransformCounts in the form that printed callers ask. Conditions: none. -/
import Derived.Test.YtmoodakaecmkgaaKUntrans
set_option linter.unusedVariables false
set_option linter.unusedSimpArgs false
namespace Go.Proofs.Ytmoodakaecmkgaa.K
open Go.RowKit Go.Proofs.YtmoodakaecmkgaaW.PrintWords Go.Proofs.YtmoodakaecmkgaaW.PrintLast Go.Proofs.YtmoodakaecmkgaaW.PrintMore

def impl_TransformCounts.f (l0 : List Int) : Option (List Int × Int) := some (transI l0)
theorem impl_TransformCounts.calls (A0 : Option Addr) (c0 : Nat) (l0 : List Int) (r1 : List Int) (r2 : Int) (w : World) (hr0 : Kd.C (Kd.int .i64) w A0 l0.length l0) (hc0 : l0.length ≤ c0) (h : impl_TransformCounts.f l0 = some (r1, r2)) :
    Calls Try.prog 18 #[.slice A0 l0.length c0] w fun e w' => ∃ v0_ : Value, e = .returned (.tuple #[v0_, .int .i64 r2]) ∧ Kd.R (Kd.int .i64) 2 w' w.heap.size (fun _ => True) v0_ r1 ∧ Below w.heap.size w w' := by
  have e := Option.some.inj h
  have e1 : r1 = (transI l0).1 := by rw [e]
  have e2 : r2 = (transI l0).2 := by rw [e]
  subst e1 e2
  exact c_Trans A0 c0 l0 w hr0
def impl_UntransformCounts.f (l0 : List Int) : Option (List Int × Int) := some (untransI l0)
theorem impl_UntransformCounts.calls (A0 : Option Addr) (c0 : Nat) (l0 : List Int) (r1 : List Int) (r2 : Int) (w : World) (hr0 : Kd.C (Kd.int .i64) w A0 l0.length l0) (hc0 : l0.length ≤ c0) (h : impl_UntransformCounts.f l0 = some (r1, r2)) :
    Calls Try.prog 13 #[.slice A0 l0.length c0] w fun e w' => ∃ v0_ : Value, e = .returned (.tuple #[v0_, .int .i64 r2]) ∧ Kd.R (Kd.int .i64) 2 w' w.heap.size (fun _ => True) v0_ r1 ∧ Below w.heap.size w w' := by
  have e := Option.some.inj h
  have e1 : r1 = (untransI l0).1 := by rw [e]
  have e2 : r2 = (untransI l0).2 := by rw [e]
  subst e1 e2
  exact c_Untrans A0 c0 l0 w hr0
end Go.Proofs.Ytmoodakaecmkgaa.K
