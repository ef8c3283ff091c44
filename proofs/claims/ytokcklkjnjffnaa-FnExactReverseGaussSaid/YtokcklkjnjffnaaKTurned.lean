/- impl.turnedHeads at any test, and at impl.every in the form that printed callers ask. Conditions: the test runs at the places. -/
import Derived.Test.YtokcklkjnjffnaaKClone
import Derived.Test.YtokcklkjnjffnaaKPure
import Derived.Test.YtokcklkjnjffnaaKEv
set_option linter.unusedVariables false
set_option linter.unusedSimpArgs false
namespace Go.Proofs.Ytokcklkjnjffnaa.K
open Go.RowKit Go.Proofs.YtokcklkjnjffnaaW.PrintWords Go.Proofs.YtokcklkjnjffnaaW.PrintLast Go.Proofs.YtokcklkjnjffnaaW.PrintMore

/-- The Heads below place k turned, where p says so. -/
def turnTo (p : Nat → Bool) (l : List Int) (k : Nat) : List Int := l.mapIdx fun i x => if decide (i < k) && p i then wrap64 (1 - x) else x
def turnL (p : Nat → Bool) (l : List Int) : List Int := l.mapIdx fun i x => if p i then wrap64 (1 - x) else x
theorem turnTo_length (p : Nat → Bool) (l : List Int) (k : Nat) : (turnTo p l k).length = l.length := by simp [turnTo]
theorem turnTo_zero (p : Nat → Bool) (l : List Int) : turnTo p l 0 = l := by
  refine List.ext_getElem (by simp [turnTo]) fun i h1 h2 => ?_
  simp [turnTo]
theorem turnTo_all (p : Nat → Bool) (l : List Int) : turnTo p l l.length = turnL p l := by
  refine List.ext_getElem (by simp [turnTo, turnL]) fun i h1 h2 => ?_
  have : i < l.length := by simpa [turnTo] using h1
  simp [turnTo, turnL, this]
theorem turnTo_rd (p : Nat → Bool) (l : List Int) (k : Nat) (h : k < l.length) : rd (turnTo p l k) k = rd l k := by
  unfold rd
  rw [Int.toNat_natCast, List.getD_eq_getElem?_getD, List.getD_eq_getElem?_getD, List.getElem?_eq_getElem (by rw [turnTo_length]; exact h), List.getElem?_eq_getElem h]
  simp [turnTo]
theorem turnTo_hit (p : Nat → Bool) (l : List Int) (k : Nat) (h : k < l.length) (hp : p k = true) : (turnTo p l k).set k (wrap64 (1 - rd l k)) = turnTo p l (k + 1) := by
  refine List.ext_getElem (by simp [turnTo]) fun i h1 h2 => ?_
  have hi : i < l.length := by simpa [turnTo] using h1
  have hrd : rd l k = l[k] := by
    unfold rd
    rw [Int.toNat_natCast, List.getD_eq_getElem?_getD, List.getElem?_eq_getElem h]
    rfl
  rw [List.getElem_set]
  by_cases e : k = i
  · subst e
    simp [turnTo, hp, hrd]
  · rw [if_neg e]
    simp only [turnTo, List.getElem_mapIdx]
    have : decide (i < k) = decide (i < k + 1) := decide_eq_decide.mpr (by omega)
    rw [this]
theorem turnTo_miss (p : Nat → Bool) (l : List Int) (k : Nat) (hp : p k = false) : turnTo p l k = turnTo p l (k + 1) := by
  refine List.ext_getElem (by simp [turnTo]) fun i h1 h2 => ?_
  simp only [turnTo, List.getElem_mapIdx]
  by_cases e : i = k
  · subst e; simp [hp]
  · have : decide (i < k) = decide (i < k + 1) := decide_eq_decide.mpr (by omega)
    rw [this]

set_option maxHeartbeats 1000000 in
set_option maxRecDepth 100000 in
theorem c_turnedHeads (A0 : Option Addr) (c0 : Nat) (l : List Int) (fv : Value) (p : Nat → Bool) (w : World) (hr : CI w A0 l.length l) (hc : l.length ≤ c0) (hl : l.length < 1099511627776)
    (hp : ∀ i : Nat, i < l.length → ∀ w1, Below w.heap.size w w1 → Runs Try.prog fv #[.int .i64 i] w1 fun e w2 => e = .returned (.bool (p i)) ∧ Below w1.heap.size w1 w2) :
    Calls Try.prog 81 #[.slice A0 l.length c0, fv] w fun e w' => ∃ v : Value, e = .returned v ∧ RI w' w.heap.size (fun _ => True) v (turnL p l) ∧ Below w.heap.size w w' := by
  have HR := Aside0.mk hr
  have HC := Aside0.mk hc
  have HP := Aside0.mk hp
  have HX := Aside0.mk (show slices_Clone_int64_int64.f l = some l by unfold slices_Clone_int64_int64.f; rw [if_pos (by omega)])
  clear hr hp hc
  go_enter Try.func81, Try.ntmps81
  go_wp2_with (first
    | (go_at_call 120; refine (slices_Clone_int64_int64.calls A0 c0 l l _ HR.out HC.out HX.out).mono ?_; rintro e w1 ⟨v1, rfl, ho, hb⟩; have HO := Aside0.mk ho; have HB := Aside0.mk hb; clear ho hb; obtain ⟨Ao, co, eo⟩ := Kd.R_slice HO.out; subst eo))
  go_loopw [11] (fun i wr => ∃ k : Nat, k ≤ l.length ∧ i = .int .i64 (k : Int) ∧ Aside0 (RI wr w.heap.size (fun _ => True) (.slice Ao l.length co) (turnTo p l k)) ∧ Aside0 (Below w.heap.size w wr)) (fun i _ => l.length - (intOf i).toNat)
  case atStart => exact ⟨0, Nat.zero_le _, rfl, ⟨by rw [turnTo_zero]; exact HO.out⟩, HB⟩
  case round =>
    clear HO HB
    obtain ⟨k, hk, rfl, HO, HB⟩ := hrel
    by_cases hlt : k < l.length
    · have hrun := Aside0.mk (HP.out k hlt wr HB.out)
      have h1 : decide (k < l.length) = true := decide_eq_true hlt
      cases hpk : p k with
      | true =>
        rw [hpk] at hrun
        have HPK := Aside0.mk hpk
        clear hpk
        obtain ⟨y, hy⟩ : ∃ y, y = rd l k := ⟨_, rfl⟩
        have HY := Aside0.mk hy
        clear hy
        obtain ⟨g, cap, eo, hg, hgl, _⟩ := Kd.R_form HO.out (by rw [turnTo_length]; omega)
        rw [turnTo_length] at eo
        injection eo with ea _ ec
        subst ea ec
        have HT := Aside0.mk (turnTo_rd p l k hlt)
        go_wp2_with (first
          | ((with_reducible refine gate_dst (N := 16) rfl ?_); refine goesV (some 16) rfl rfl rfl (fv := fv) rfl #[.int .i64 (k : Int)] (by (try simp only [List.map_toArray, List.map_cons, List.map_nil]); rfl) ?_; refine hrun.out.mono ?_; rintro e w2 ⟨rfl, h2⟩; refine ⟨_, rfl, ?_⟩; have HO2 := Aside0.mk (Kd.R_below HO.out h2); have HB2 := Aside0.mk (below_then HB.out HB.out.size h2); clear h2; obtain ⟨ad, hA, hcc⟩ := Kd.at_int (Kd.R_reads' HO2.out).2.2 k (by omega) (by rw [turnTo_length]; omega); obtain rfl := Option.some.inj hA; rw [add_plain, HT.out, ← HY.out, Int.toNat_natCast] at hcc)
          | ((with_reducible refine gate_store (t := 2) (p := 24) rfl ?_); refine putI (w0 := w) rfl rfl rfl (k : Int) (turnTo p l k) (wrap64 (1 - y)) rfl (by rw [Int.toNat_natCast]) rfl HO2.out (by omega) (by omega) HB2.out ?_; intro w3 ho3 hb3 hg3; rw [Int.toNat_natCast, HY.out, turnTo_hit p l k hlt HPK.out] at ho3; have HO3 := Aside0.mk ho3; have HB3 := Aside0.mk hb3; clear ho3 hb3 hg3))
        go_roundw
        case rel => exact ⟨k + 1, hlt, by go_num, HO3, HB3⟩
        case measure => simp [intOf]; omega
      | false =>
        rw [hpk] at hrun
        have HPK := Aside0.mk hpk
        clear hpk
        go_wp2_with (first
          | ((with_reducible refine gate_dst (N := 16) rfl ?_); refine goesV (some 16) rfl rfl rfl (fv := fv) rfl #[.int .i64 (k : Int)] (by (try simp only [List.map_toArray, List.map_cons, List.map_nil]); rfl) ?_; refine hrun.out.mono ?_; rintro e w2 ⟨rfl, h2⟩; refine ⟨_, rfl, ?_⟩; have HO2 := Aside0.mk (Kd.R_below HO.out h2); have HB2 := Aside0.mk (below_then HB.out HB.out.size h2); clear h2))
        go_roundw
        case rel => exact ⟨k + 1, hlt, by go_num, ⟨by rw [← turnTo_miss p l k HPK.out]; exact HO2.out⟩, HB2⟩
        case measure => simp [intOf]; omega
    · have hke : k = l.length := by omega
      subst hke
      go_wp2
      go_ret
      exact ⟨_, rfl, by rw [← turnTo_all]; exact HO.out, HB.out⟩

theorem r_every (x : Int) (w : World) : Runs Try.prog (.func (.func 82) #[] #[]) #[.int .i64 x] w fun e w' => e = .returned (.bool true) ∧ Below w.heap.size w w' := by
  refine ⟨82, _, _, _, rfl, Try.func82, by kernel_rfl, rfl, ?_⟩
  show Calls _ _ #[.int .i64 x] _ _
  go_enter Try.func82, Try.ntmps82
  go_wp2
  go_ret
  exact ⟨rfl, Below.refl _ _⟩
def turnedAll.f (l0 : List Int) : Option (List Int) := if l0.length < 1099511627776 then some (turnL (fun _ => true) l0) else none
theorem turnedAll.calls (A0 : Option Addr) (c0 : Nat) (l0 : List Int) (r : List Int) (w : World) (hr0 : Kd.C (Kd.int .i64) w A0 l0.length l0) (hc0 : l0.length ≤ c0) (h : turnedAll.f l0 = some r) :
    Calls Try.prog 81 #[.slice A0 l0.length c0, .func (.func 82) #[] #[]] w fun e w' => ∃ v0_ : Value, e = .returned (v0_) ∧ Kd.R (Kd.int .i64) 2 w' w.heap.size (fun _ => True) v0_ r ∧ Below w.heap.size w w' := by
  unfold turnedAll.f at h
  split at h
  case isFalse => cases h
  rename_i hl
  obtain rfl := Option.some.inj h
  exact c_turnedHeads A0 c0 l0 _ _ w hr0 hc0 hl (fun i _ w1 _ => r_every i w1)
end Go.Proofs.Ytokcklkjnjffnaa.K
