/- impl.weight at the kind of gl, in the form that printed callers ask. Conditions: told by .f (it tells nothing of other kinds). -/
import Derived.Test.YtokcklkjnjffnabKBase
import Derived.Test.YtokcklkjnjffnabKRows
import Derived.Test.YtokcklkjnjffnabKEv
import Derived.Test.YtokcklkjnjffnabPAx0
import Derived.Test.YtokcklkjnjffnabPAx5
set_option linter.unusedVariables false
set_option linter.unusedSimpArgs false
namespace Go.Proofs.Ytokcklkjnjffnab.K
open Go.RowKit Go.Proofs.Ytokcklkjnjffnab.PA Go.Proofs.YtokcklkjnjffnabW.PrintWords Go.Proofs.YtokcklkjnjffnabW.PrintLast Go.Proofs.YtokcklkjnjffnabW.PrintMore

def glL (c : Int) : List Int := (List.replicate (c + 1).toNat 0).set c.toNat 1
def impl_weight.f (k : Nat) (l0 : List Int) (a1 : Int) : Option (List Int) := if a1 = 0 then (impl_borders.f k l0).bind fun c => if 0 ≤ c ∧ c < 1000000 then some (glL c) else none else none
theorem impl_weight.mono : ∀ a0 a1 k, LeO (impl_weight.f k a0 a1) (impl_weight.f (k + 1) a0 a1) := by
  intro a0 a1 k
  unfold impl_weight.f
  exact LeO.ite (LeO.bind (impl_borders.mono _ _) (fun _ => LeO.refl _)) (LeO.refl _)
set_option maxHeartbeats 1000000 in
set_option maxRecDepth 100000 in
theorem impl_weight.calls (k : Nat) (A0 : Option Addr) (c0 : Nat) (l0 : List Int) (a1 : Int) (r : List Int) (w : World) (hr0 : Kd.C (Kd.int .i64) w A0 l0.length l0) (hc0 : l0.length ≤ c0) (h : impl_weight.f k l0 a1 = some r) :
    Calls Try.prog 121 #[.slice A0 l0.length c0, .int .i64 a1] w fun e w' => ∃ v0_ : Value, e = .returned (v0_) ∧ Kd.R (Kd.int .i64) 2 w' w.heap.size (fun _ => True) v0_ r ∧ Below w.heap.size w w' := by
  unfold impl_weight.f at h
  split at h
  case isFalse => cases h
  rename_i h0
  subst h0
  obtain ⟨c, hc, h⟩ := Option.bind_eq_some_iff.mp h
  split at h
  case isFalse => cases h
  rename_i hcb
  obtain ⟨hc1, hc2⟩ := hcb
  obtain rfl := Option.some.inj h
  have HR := Aside0.mk hr0
  have HC := Aside0.mk hc0
  have HX := Aside0.mk hc
  clear hr0 hc0 hc h
  obtain ⟨m, rfl⟩ : ∃ m : Nat, c = m := ⟨c.toNat, by omega⟩
  have hm : m < 1000000 := by omega
  clear hc1 hc2
  have hgl : glL (m : Int) = (List.replicate (m + 1) 0).set m 1 := by
    unfold glL
    rw [show ((m : Int) + 1).toNat = m + 1 by omega, Int.toNat_natCast]
  rw [hgl]
  clear hgl
  have hd1 : decide ((m : Int) < (m : Int) + 1) = true := decide_eq_true (by omega)
  go_enter Try.func121, Try.ntmps121
  go_wp2_with (first
    | ((with_reducible refine gate_callee (f := 195) rfl ?_); refine goesL_ (some 10) rfl rfl Try.func195 (by kernel_rfl) rfl #[.slice A0 l0.length c0] rfl (by (try simp only [List.map_toArray, List.map_cons, List.map_nil]); rfl) ?_; refine (impl_borders.calls k A0 c0 l0 (m : Int) _ HR.out HC.out HX.out).mono ?_; rintro e w1 ⟨rfl, hb1⟩; refine ⟨_, rfl, ?_⟩; have HB1 := Aside0.mk hb1; clear hb1)
    | ((with_reducible refine gate_dst (N := 12) rfl ?_); refine mkI (w0 := w) w.heap.size (ok := fun _ => True) rfl rfl rfl ((m : Int) + 1) rfl rfl (by omega) (by omega) trivial HB1.out HB1.out.size ?_; intro v2 w2 ho hb2 _ _; rw [show ((m : Int) + 1).toNat = m + 1 by omega] at ho; have HO := Aside0.mk ho; have HB2 := Aside0.mk hb2; clear ho hb2 HB1; obtain ⟨g, cap, eo, hgb, hgl, _⟩ := Kd.R_form HO.out (by simp); rw [List.length_replicate] at eo; subst eo)
    | ((with_reducible refine gate_callee (f := 195) rfl ?_); refine goesL_ (some 15) rfl rfl Try.func195 (by kernel_rfl) rfl #[.slice A0 l0.length c0] rfl (by (try simp only [List.map_toArray, List.map_cons, List.map_nil]); rfl) ?_; refine (impl_borders.calls k A0 c0 l0 (m : Int) _ (Kd.C_below HR.out HB2.out) HC.out HX.out).mono ?_; rintro e w3 ⟨rfl, hb3⟩; refine ⟨_, rfl, ?_⟩; have HO3 := Aside0.mk (Kd.R_below HO.out hb3); have HB3 := Aside0.mk (below_then HB2.out HB2.out.size hb3); clear hb3 HO HB2; obtain ⟨ad, hA, hcc⟩ := Kd.at_int (Kd.R_reads' HO3.out).2.2 m (by omega) (by simp; omega); obtain rfl := Option.some.inj hA; rw [add_plain, Int.toNat_natCast] at hcc)
    | ((with_reducible refine gate_store (t := 2) (p := 16) rfl ?_); refine putI (w0 := w) rfl rfl rfl (m : Int) (List.replicate (m + 1) 0) 1 rfl (by rw [Int.toNat_natCast]) rfl HO3.out (by omega) (by omega) HB3.out ?_; intro w4 ho4 hb4 hg4; rw [Int.toNat_natCast] at ho4; have HO4 := Aside0.mk ho4; have HB4 := Aside0.mk hb4; clear ho4 hb4 hg4))
  go_ret
  exact ⟨_, rfl, HO4.out, HB4.out⟩
end Go.Proofs.Ytokcklkjnjffnab.K
