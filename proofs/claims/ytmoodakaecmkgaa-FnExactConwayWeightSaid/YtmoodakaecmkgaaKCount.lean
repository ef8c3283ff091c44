/- impl.countOf and impl.ConwayWeight. Conditions: told by .f. -/
import Derived.Test.YtmoodakaecmkgaaKBase
import Derived.Test.YtmoodakaecmkgaaKRows
import Derived.Test.YtmoodakaecmkgaaPAx0
import Derived.Test.YtmoodakaecmkgaaPAx22
import Derived.Test.YtmoodakaecmkgaaPCx0
import Derived.Test.YtmoodakaecmkgaaPCx1
set_option linter.unusedVariables false
set_option linter.unusedSimpArgs false
namespace Go.Proofs.Ytmoodakaecmkgaa.K
open Go.RowKit Go.Proofs.Ytmoodakaecmkgaa.PA Go.Proofs.Ytmoodakaecmkgaa.PC Go.Proofs.YtmoodakaecmkgaaW.PrintWords Go.Proofs.YtmoodakaecmkgaaW.PrintLast Go.Proofs.YtmoodakaecmkgaaW.PrintMore

set_option maxHeartbeats 1000000 in
set_option maxRecDepth 100000 in
theorem c_countOf (k : Nat) (A0 : Option Addr) (c0 : Nat) (l : List Int) (fv : Value) (b : Bool) (r1 r2 : Int) (w : World) (hr : CI w A0 l.length l) (hc : l.length ≤ c0) (hb : impl_IsWord.f k l = some b)
    (hf : b = true → r2 = 0 ∧ ∀ w1, Below w.heap.size w w1 → Runs Try.prog fv #[.slice A0 l.length c0] w1 fun e w' => e = .returned (.int .i64 r1) ∧ Below w1.heap.size w1 w')
    (hn : b = false → r1 = 0 ∧ r2 = 1) :
    Calls Try.prog 45 #[.slice A0 l.length c0, fv] w fun e w' => e = .returned (.tuple #[.int .i64 r1, .int .i64 r2]) ∧ Below w.heap.size w w' := by
  have HR := Aside0.mk hr
  have HC := Aside0.mk hc
  have HI := Aside0.mk hb
  have HF := Aside0.mk hf
  have HN := Aside0.mk hn
  clear hr hb hf hc hn
  cases b with
  | true =>
    obtain rfl := (HF.out rfl).1
    have HF2 := Aside0.mk (HF.out rfl).2
    clear HF HN
    go_enter Try.func45, Try.ntmps45
    go_wp2_with (first
      | (go_at_call 49; refine (impl_IsWord.calls k A0 c0 l true _ HR.out HC.out HI.out).mono ?_; rintro e w1 ⟨rfl, hb1⟩; have HB := Aside0.mk hb1; clear hb1)
      | ((with_reducible refine gate_dst (N := 11) rfl ?_); refine goesV (some 11) rfl rfl rfl (fv := fv) rfl #[.slice A0 l.length c0] (by (try simp only [List.map_toArray, List.map_cons, List.map_nil]); rfl) ?_; refine (HF2.out _ HB.out).mono ?_; rintro e w2 ⟨rfl, hb2⟩; refine ⟨_, rfl, ?_⟩; have HB2 := Aside0.mk (below_then HB.out HB.out.size hb2); clear hb2))
    go_ret2
    exact ⟨rfl, HB2.out⟩
  | false =>
    obtain ⟨rfl, rfl⟩ := HN.out rfl
    clear HF HN
    go_enter Try.func45, Try.ntmps45
    go_wp2_with (first
      | (go_at_call 49; refine (impl_IsWord.calls k A0 c0 l false _ HR.out HC.out HI.out).mono ?_; rintro e w1 ⟨rfl, hb1⟩; have HB := Aside0.mk hb1; clear hb1))
    go_ret2
    exact ⟨rfl, HB.out⟩

def impl_ConwayWeight.f (k : Nat) (l0 : List Int) : Option (Int × Int) := (impl_IsWord.f k l0).bind fun b => if b = true then (impl_conway.f k l0).bind fun r => some (r, 0) else some (0, 1)
theorem impl_ConwayWeight.mono : ∀ a0 k, LeO (impl_ConwayWeight.f k a0) (impl_ConwayWeight.f (k + 1) a0) := by
  intro a0 k
  unfold impl_ConwayWeight.f
  refine LeO.bind (impl_IsWord.mono _ _) (fun _ => ?_)
  refine LeO.ite (LeO.bind (impl_conway.mono _ _) (fun _ => LeO.refl _)) (LeO.refl _)
set_option maxHeartbeats 1000000 in
set_option maxRecDepth 100000 in
theorem impl_ConwayWeight.calls (k : Nat) (A0 : Option Addr) (c0 : Nat) (l0 : List Int) (r1 : Int) (r2 : Int) (w : World) (hr0 : Kd.C (Kd.int .i64) w A0 l0.length l0) (hc0 : l0.length ≤ c0) (h : impl_ConwayWeight.f k l0 = some (r1, r2)) :
    Calls Try.prog 24 #[.slice A0 l0.length c0] w fun e w' => e = .returned (.tuple #[.int .i64 r1, .int .i64 r2]) ∧ Below w.heap.size w w' := by
  obtain ⟨b, hb, h⟩ := Option.bind_eq_some_iff.mp h
  have key : (b = true → r2 = 0 ∧ impl_conway.f k l0 = some r1) ∧ (b = false → r1 = 0 ∧ r2 = 1) := by
    cases b with
    | true =>
      obtain ⟨r, hr, h⟩ := Option.bind_eq_some_iff.mp h
      obtain ⟨rfl, rfl⟩ := Prod.mk.inj (Option.some.inj h)
      exact ⟨fun _ => ⟨rfl, hr⟩, fun h => by cases h⟩
    | false =>
      obtain ⟨rfl, rfl⟩ := Prod.mk.inj (Option.some.inj h)
      exact ⟨(fun h => by cases h), fun _ => ⟨rfl, rfl⟩⟩
  obtain ⟨hr, hn⟩ := key
  have HR := Aside0.mk hr0
  have HC := Aside0.mk hc0
  have HI := Aside0.mk hb
  have HX := Aside0.mk hr
  have HN := Aside0.mk hn
  clear hr0 hc0 hb hr h hn
  go_enter Try.func24, Try.ntmps24
  go_wp2_with (first
    | (go_at_call 45; refine (c_countOf k A0 c0 l0 (.func (.func 46) #[] #[]) b r1 r2 _ HR.out HC.out HI.out (fun hb1 => ⟨(HX.out hb1).1, fun w1 hw1 => ⟨_, _, #[], #[], rfl, Try.func46, by kernel_rfl, rfl, by simpa using impl_conway.calls k A0 c0 l0 r1 w1 (Kd.C_below HR.out hw1) HC.out (HX.out hb1).2⟩⟩) HN.out).mono ?_; rintro e w1 ⟨rfl, hb1⟩; have HB := Aside0.mk hb1; clear hb1))
  go_ret2
  exact ⟨rfl, HB.out⟩
end Go.Proofs.Ytmoodakaecmkgaa.K
