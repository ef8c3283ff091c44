/- Contracts of Go's slices functions at []int64 that take a predicate. Conditions: the predicate runs at the elements. -/
import Derived.Test.YtbnmjhcokdhjmaaKRows
import Derived.Test.YtbnmjhcokdhjmaaProg
set_option linter.unusedVariables false
set_option linter.unusedSimpArgs false
namespace Go.Proofs.Ytbnmjhcokdhjmaa.K
open Go.RowKit Go.Proofs.YtbnmjhcokdhjmaaW.PrintWords Go.Proofs.YtbnmjhcokdhjmaaW.PrintLast Go.Proofs.YtbnmjhcokdhjmaaW.PrintMore

/-- Where the first element is that meets p, counted from i; -1 without one. -/
def idxFrom (p : Int → Bool) (l : List Int) (i : Nat) : Int := match l.findIdx? p with | some j => (i + j : Nat) | none => -1

/-- The predicate p, as a function value computes it; the world goes by R. -/
def PredOn (P : Program) (R : World → World → Prop) (fv : Value) (p : Int → Bool) (l : List Int) (w : World) : Prop :=
  ∀ x ∈ l, ∀ w1, R w w1 → Runs P fv #[.int .i64 x] w1 fun e w2 => e = .returned (.bool (p x)) ∧ R w1 w2

theorem idxFrom_hit (p : Int → Bool) (l : List Int) (k : Nat) (h : k < l.length) (hp : p (rd l k) = true) : idxFrom p (l.drop k) k = k := by
  rw [drop_at l k h]
  simp [idxFrom, List.findIdx?_cons, hp]
theorem idxFrom_miss (p : Int → Bool) (l : List Int) (k : Nat) (h : k < l.length) (hp : p (rd l k) = false) : idxFrom p (l.drop k) k = idxFrom p (l.drop (k + 1)) (k + 1) := by
  rw [drop_at l k h]
  simp only [idxFrom, List.findIdx?_cons, hp]
  cases h : (l.drop (k + 1)).findIdx? p with
  | none => simp [h]
  | some j => simp [h]; omega

theorem idx_any (p : Int → Bool) (l : List Int) : decide (0 ≤ idxFrom p l 0) = l.any p := by
  unfold idxFrom
  cases h : l.findIdx? p with
  | none =>
    rw [List.findIdx?_eq_none_iff] at h
    have : l.any p = false := by simpa using h
    rw [this]
    rfl
  | some j =>
    have h2 : l.any p = true := by
      have := List.findIdx?_isSome (xs := l) (p := p)
      rw [h] at this
      simpa using this.symm
    rw [h2]
    simp

set_option maxHeartbeats 1000000 in
set_option maxRecDepth 100000 in
theorem indexFunc {R : World → World → Prop} (hR : Step R) (A0 : Option Addr) (c0 : Nat) (l : List Int) (fv : Value) (p : Int → Bool) (w : World)
    (hr : Kd.C (Kd.int .i64) w A0 l.length l) (hp : PredOn Try.prog R fv p l w) :
    Calls Try.prog 126 #[.slice A0 l.length c0, fv] w fun e w' => e = .returned (.int .i64 (idxFrom p l 0)) ∧ R w w' := by
  have HR := Aside0.mk hr
  have HP := Aside0.mk hp
  have hm : l.length ≤ 9223372036854775807 := hr.2.1
  clear hr hp
  go_enter Try.func126, Try.ntmps126
  go_wp2
  go_loopw [8] (fun i wr => ∃ k : Nat, k ≤ l.length ∧ i = .int .i64 k ∧ Aside0 (idxFrom p l 0 = idxFrom p (l.drop k) k) ∧ Aside0 (R w wr)) (fun i _ => l.length - (intOf i).toNat)
  case atStart => exact ⟨0, Nat.zero_le _, rfl, ⟨rfl⟩, ⟨hR.refl _⟩⟩
  case round =>
    obtain ⟨k, hk, rfl, HI, HW⟩ := hrel
    by_cases hlt : k < l.length
    · obtain ⟨ad, hA, hc⟩ := Kd.at_int (Kd.C_below HR.out (hR.below HW.out)) k (by omega) (by omega)
      subst hA
      have hrun := Aside0.mk (HP.out (rd l k) (rd_mem l k hlt) wr HW.out)
      simp only [Int.toNat_natCast] at hc
      go_wp2_with ((with_reducible refine gate_dst (N := 16) rfl ?_); refine goesV (some 16) rfl rfl rfl (fv := fv) rfl #[.int .i64 (rd l k)] (by (try simp only [List.map_toArray, List.map_cons, List.map_nil]); rfl) ?_; refine hrun.out.mono ?_; rintro e w2 ⟨rfl, h2⟩; have H2 := Aside0.mk h2; clear h2; refine ⟨_, rfl, ?_⟩)
      · have hpt : p (rd l k) = true := by assumption
        go_ret
        exact ⟨by rw [HI.out, idxFrom_hit p l k hlt hpt]; rfl, hR.trans HW.out H2.out⟩
      · have hpf : p (rd l k) = false := by assumption
        go_roundw
        case rel => exact ⟨k + 1, hlt, by go_num, ⟨by rw [HI.out, idxFrom_miss p l k hlt hpf]⟩, ⟨hR.trans HW.out H2.out⟩⟩
        case measure => simp [intOf]; omega
    · have hke : k = l.length := by omega
      go_wp2
      go_ret
      exact ⟨by rw [HI.out, hke, List.drop_length]; rfl, HW.out⟩

end Go.Proofs.Ytbnmjhcokdhjmaa.K
