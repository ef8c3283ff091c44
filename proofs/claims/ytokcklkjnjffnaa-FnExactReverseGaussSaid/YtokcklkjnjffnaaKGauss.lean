/- Contracts of the Gauss words' own tests: slices.ContainsFunc at impl.IsGauss's closures, in the form that printed callers ask. Conditions: none. -/
import Derived.Test.YtokcklkjnjffnaaKSlices
import Derived.Test.YtokcklkjnjffnaaKRows
set_option linter.unusedVariables false
set_option linter.unusedSimpArgs false
namespace Go.Proofs.Ytokcklkjnjffnaa.K
open Go.RowKit Go.Proofs.YtokcklkjnjffnaaW.PrintWords Go.Proofs.YtokcklkjnjffnaaW.PrintLast Go.Proofs.YtokcklkjnjffnaaW.PrintMore

theorem c_inG (a b c : Int) (w : World) : Calls Try.prog 54 #[.int .i64 a, .int .i64 b, .int .i64 c] w fun e w' => e = .returned (.bool (inB a b c)) ∧ w = w' := by
  by_cases h : b ≤ a
  · have hd : decide (b ≤ a) = true := decide_eq_true h
    clear h
    go_enter Try.func54, Try.ntmps54
    go_wp2
    go_ret
    exact ⟨by rw [inB, hd]; rfl, rfl⟩
  · have hd : decide (b ≤ a) = false := decide_eq_false h
    clear h
    go_enter Try.func54, Try.ntmps54
    go_wp2
    go_ret
    exact ⟨by rw [inB, hd]; rfl, rfl⟩
def isHeadB (x : Int) : Bool := inB x 0 1
def isSignB (x : Int) : Bool := (x == 1) || (x == -1)
theorem c_isHead (a : Int) (w : World) : Calls Try.prog 117 #[.int .i64 a] w fun e w' => e = .returned (.bool (isHeadB a)) ∧ w = w' := by
  go_enter Try.func117, Try.ntmps117
  go_wp2_with (go_at_call 54; refine (c_inG _ _ _ _).mono ?_; rintro e w1 ⟨rfl, rfl⟩)
  go_ret
  exact ⟨rfl, rfl⟩
theorem c_isSign (a : Int) (w : World) : Calls Try.prog 119 #[.int .i64 a] w fun e w' => e = .returned (.bool (isSignB a)) ∧ w = w' := by
  by_cases h : a = 1
  · subst h
    go_enter Try.func119, Try.ntmps119
    go_wp2
    go_ret
    exact ⟨rfl, rfl⟩
  · have h1 : (a == 1) = false := beq_eq_false_iff_ne.mpr h
    have hs : isSignB a = (a == -1) := by unfold isSignB; rw [h1, Bool.false_or]
    go_enter Try.func119, Try.ntmps119
    go_wp2
    go_ret
    rw [hs]
    exact ⟨rfl, rfl⟩
theorem r_IG1 (x : Int) (w : World) : Runs Try.prog (.func (.func 116) #[] #[]) #[.int .i64 x] w fun e w' => e = .returned (.bool (!isHeadB x)) ∧ Drawn0 w w' := by
  refine ⟨116, _, _, _, rfl, Try.func116, by kernel_rfl, rfl, ?_⟩
  show Calls _ _ #[.int .i64 x] _ _
  go_enter Try.func116, Try.ntmps116
  go_wp2_with (go_at_call 117; refine (c_isHead _ _).mono ?_; rintro e w1 ⟨rfl, rfl⟩)
  go_ret
  exact ⟨rfl, Drawn0.refl _⟩
theorem r_IG2 (x : Int) (w : World) : Runs Try.prog (.func (.func 118) #[] #[]) #[.int .i64 x] w fun e w' => e = .returned (.bool (!isSignB x)) ∧ Drawn0 w w' := by
  refine ⟨118, _, _, _, rfl, Try.func118, by kernel_rfl, rfl, ?_⟩
  show Calls _ _ #[.int .i64 x] _ _
  go_enter Try.func118, Try.ntmps118
  go_wp2_with (go_at_call 119; refine (c_isSign _ _).mono ?_; rintro e w1 ⟨rfl, rfl⟩)
  go_ret
  exact ⟨rfl, Drawn0.refl _⟩
def anyNoHead.f (l0 : List Int) : Option Bool := some (l0.any fun x => !isHeadB x)
theorem anyNoHead.calls (A0 : Option Addr) (c0 : Nat) (l0 : List Int) (r : Bool) (w : World) (hr0 : Kd.C (Kd.int .i64) w A0 l0.length l0) (hc0 : l0.length ≤ c0) (h : anyNoHead.f l0 = some r) :
    Calls Try.prog 52 #[.slice A0 l0.length c0, .func (.func 116) #[] #[]] w fun e w' => e = .returned (.bool r) ∧ Drawn0 w w' := by
  obtain rfl := Option.some.inj h
  exact containsFunc step_drawn A0 c0 l0 _ _ w hr0 (fun x _ w1 hw1 => (r_IG1 x w1).mono fun e w2 hh => hh)
def anyNoSign.f (l0 : List Int) : Option Bool := some (l0.any fun x => !isSignB x)
theorem anyNoSign.calls (A0 : Option Addr) (c0 : Nat) (l0 : List Int) (r : Bool) (w : World) (hr0 : Kd.C (Kd.int .i64) w A0 l0.length l0) (hc0 : l0.length ≤ c0) (h : anyNoSign.f l0 = some r) :
    Calls Try.prog 52 #[.slice A0 l0.length c0, .func (.func 118) #[] #[]] w fun e w' => e = .returned (.bool r) ∧ Drawn0 w w' := by
  obtain rfl := Option.some.inj h
  exact containsFunc step_drawn A0 c0 l0 _ _ w hr0 (fun x _ w1 hw1 => (r_IG2 x w1).mono fun e w2 hh => hh)
end Go.Proofs.Ytokcklkjnjffnaa.K
