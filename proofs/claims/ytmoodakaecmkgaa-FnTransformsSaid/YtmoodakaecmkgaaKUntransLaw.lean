/- Plain law: the reference's UntransformCounts answers as the program's. Conditions: none. -/
import Derived.Test.YtmoodakaecmkgaaKTransLaw
import Derived.Test.YtmoodakaecmkgaaPAx0
import Derived.Test.YtmoodakaecmkgaaPAx2
set_option linter.unusedVariables false
set_option linter.unusedSimpArgs false
namespace Go.Proofs.Ytmoodakaecmkgaa.K
open Go.RowKit Go.Proofs.YtmoodakaecmkgaaW.PrintWords Go.Proofs.YtmoodakaecmkgaaW.PrintLast Go.Proofs.YtmoodakaecmkgaaW.PrintMore Go.Proofs.Ytmoodakaecmkgaa.PA

theorem untrans_l2 (x0 x4 : List Int) (k x8 : Int) (hk : 1 ≤ k) (d : Nat) : ∀ (xs : List Int) (i : Nat) (r : List Int × Int), k ≤ i → xs.length < 1000000 → xs.length - i = d → i ≤ xs.length → Small xs →
    Ev (fun n => spec_UntransformCounts.l1 n x0 x4 (passFrom xs k.toNat i d) k (wrap64 (x8 - 1))) r → Ev (fun n => spec_UntransformCounts.l2 n x0 x4 xs k x8 i) r := by
  induction d with
  | zero =>
    intro xs i r h1 hl hd hi hs hr
    refine Ev.step (fun n => ?_) hr
    simp only [spec_UntransformCounts.l2]
    rw [if_neg (by omega)]
    rfl
  | succ d ih =>
    intro xs i r h1 hl hd hi hs hr
    have e1 : wrap64 ((i : Int) - k) = i - k := wrap_id (by omega) (by omega)
    have e2 : wrap64 ((i : Int) + 1) = i + 1 := wrap_id (by omega) (by omega)
    have g1 := hs.getD i
    have g2 := hs.getD (i - k.toNat)
    have r1 : rd xs i = xs.getD i 0 := by unfold rd; rw [Int.toNat_natCast]
    have r2 : rd xs ((i : Int) - k) = xs.getD (i - k.toNat) 0 := by unfold rd; rw [show ((i : Int) - k).toNat = i - k.toNat by omega]
    have e3 : wrap64 (rd xs i + rd xs ((i : Int) - k)) = xs.getD i 0 + xs.getD (i - k.toNat) 0 := by rw [r1, r2]; exact wrap_id (by omega) (by omega)
    have e4 : mn (xs.getD i 0 + xs.getD (i - k.toNat) 0) 2000000000 = min (xs.getD i 0 + xs.getD (i - k.toNat) 0) 2000000000 := by unfold mn; split <;> omega
    rw [passFrom] at hr
    have := ih (xs.set i (min (xs.getD i 0 + xs.getD (i - k.toNat) 0) 2000000000)) (i + 1) r (by omega) (by simpa using hl) (by simp; omega) (by simp; omega) (hs.set _ (by omega) (by omega)) hr
    refine Ev.step (fun n => ?_) this
    simp only [spec_UntransformCounts.l2]
    rw [e1, e2, e3, e4, if_pos (by omega), if_pos (by omega), if_pos (by omega), if_pos (by omega), Int.toNat_natCast]
    rfl

theorem untrans_l1 (x0 x4 : List Int) (k : Int) (hk : 1 ≤ k) (m : Nat) (hm : m < 1000000) : ∀ (xs : List Int) (r : List Int × Int), k ≤ xs.length → xs.length < 1000000 → Small xs →
    Ev (fun n => spec_UntransformCounts.l0 n x0 x4 (passes xs k.toNat m) (wrap64 (k + 1))) r → Ev (fun n => spec_UntransformCounts.l1 n x0 x4 xs k m) r := by
  induction m with
  | zero =>
    intro xs r hkl hl hs hr
    refine Ev.step (fun n => ?_) hr
    simp only [spec_UntransformCounts.l1]
    rw [if_neg (by omega)]
    rfl
  | succ m ih =>
    intro xs r hkl hl hs hr
    have hp : (pass xs k.toNat).length = xs.length := pass_length _ _
    have e : wrap64 (((m + 1 : Nat) : Int) - 1) = m := by rw [wrap_id (by omega) (by omega)]; omega
    have h1 := ih (by omega) (pass xs k.toNat) r (by omega) (by omega) (pass_small _ hs) hr
    have h2 := untrans_l2 x0 x4 k ((m + 1 : Nat) : Int) hk (xs.length - k.toNat) xs k.toNat r (by omega) hl rfl (by omega) hs (by rw [e]; exact h1)
    rw [show ((k.toNat : Nat) : Int) = k by omega] at h2
    refine Ev.step (fun n => ?_) h2
    simp only [spec_UntransformCounts.l1]
    rw [if_pos (by omega)]

theorem untrans_l0 (l : List Int) (hl : l.length ≤ 21) (hg : ∀ i, i < l.length → 0 ≤ rd l i ∧ rd l i ≤ 1000000000) (d : Nat) : ∀ (xs os : List Int) (k : Nat), 1 ≤ k → l.length - k = d → k ≤ l.length → xs.length = l.length → Small xs → os.length ≤ k →
    Ev (fun n => spec_UntransformCounts.l0 n l os xs k) (untransFrom l xs os k d) := by
  induction d with
  | zero =>
    intro xs os k hk hd hkl hx hs ho
    refine Ev.step (f := fun _ => some (os, 0)) (fun n => ?_) (ev_some _)
    simp only [spec_UntransformCounts.l0]
    rw [if_neg (by omega)]
  | succ d ih =>
    intro xs os k hk hd hkl hx hs ho
    have hlt : k < l.length := by omega
    have c1 : (k : Int) < l.length := by omega
    have c2 : (0 : Int) ≤ k := by omega
    have c3 : (k : Int) < xs.length := by omega
    have c4 : os.length < 17592186044416 := by omega
    have g1 := hg k hlt
    have g2 := hs.getD k
    have r1 : rd l k = l.getD k 0 := by unfold rd; rw [Int.toNat_natCast]
    have r2 : rd xs k = xs.getD k 0 := by unfold rd; rw [Int.toNat_natCast]
    have E1 := Aside0.mk (show wrap64 (rd l k - rd xs k) = l.getD k 0 - xs.getD k 0 by rw [r1, r2]; rw [r1] at g1; exact wrap_id (by omega) (by omega))
    have E2 := Aside0.mk (show wrap64 ((k : Int) + 1) = k + 1 from wrap_id (by omega) (by omega))
    clear r1 r2
    rw [untransFrom]
    by_cases h : inB (l.getD k 0 - xs.getD k 0) 0 1000 = true
    · rw [if_pos h]
      have hb := h
      simp only [inB, Bool.and_eq_true, decide_eq_true_eq] at hb
      obtain ⟨m, hm⟩ : ∃ m : Nat, l.getD k 0 - xs.getD k 0 = m := ⟨(l.getD k 0 - xs.getD k 0).toNat, by omega⟩
      rw [hm] at h hb ⊢
      rw [Int.toNat_natCast]
      have h0 := ih (passes xs k m) (os ++ [(m : Int)]) (k + 1) (by omega) (by omega) (by omega) (by rw [passes_length, hx]) (passes_small _ _ _ hs) (by simp; omega)
      rw [show (((k + 1 : Nat) : Int)) = (k : Int) + 1 by omega] at h0
      have h1 := untrans_l1 l (os ++ [(m : Int)]) k (by omega) m (by omega) xs _ (by omega) (by omega) hs (by rw [E2.out, Int.toNat_natCast]; exact h0)
      refine Ev.step (fun n => ?_) h1
      simp only [spec_UntransformCounts.l0]
      rw [E1.out, hm, if_pos c1, if_pos c2, if_pos c3, l01In_f, h]
      simp only [Option.bind_some, if_true]
      rw [if_pos c4]
    · rw [if_neg h]
      refine Ev.step (f := fun _ => some ([], 5)) (fun n => ?_) (ev_some _)
      simp only [spec_UntransformCounts.l0]
      rw [E1.out, if_pos c1, if_pos c2, if_pos c3, l01In_f]
      simp only [Option.bind_some]
      rw [if_neg h]

theorem ev_specUntrans (l : List Int) (hl : l.length < 1099511627776) : Ev (fun k => spec_UntransformCounts.f k l) (untransI l) := by
  have bad : Ev (fun k => spec_UntransformCounts.j0 k l true) ([], 2) := Ev.step (f := fun _ => some ([], 2)) (fun n => by simp only [spec_UntransformCounts.j0]; rw [if_pos trivial]) (ev_some _)
  unfold spec_UntransformCounts.f untransI
  by_cases h : l.length < 1 ∨ 21 < l.length ∨ badIn 1000000000 l = true ∨ l.getD 0 0 ≠ 1
  · rw [if_pos h]
    refine ev_if (fun _ => bad) fun h1 => ev_if (fun _ => bad) fun h2 => ev_pos (by omega) (ev_if (fun h3 => Ev.bind (ev_counts l _ hl) ?_) (fun _ => bad))
    have h4 : badIn 1000000000 l = true := by
      rcases h with h | h | h | h
      · omega
      · omega
      · exact h
      · exact absurd h3 h
    rw [h4]
    exact bad
  · rw [if_neg h]
    simp only [not_or] at h
    obtain ⟨h1, h2, h3, h4⟩ := h
    have h3 := Bool.eq_false_iff.mpr h3
    refine ev_neg (by omega) (ev_neg (by omega) (ev_pos (by omega) (ev_pos (show rd l 0 = 1 by simpa [rd] using h4) (Ev.bind (ev_counts l _ hl) ?_))))
    rw [h3]
    have T := untrans_l0 l (by omega) (fun i hi => by
      have h1 : inB (rd l i) 0 1000000000 = true := by simpa [badIn] using List.any_eq_false.1 h3 _ (rd_mem l i hi)
      simp only [inB, Bool.and_eq_true, decide_eq_true_eq] at h1
      exact h1) (l.length - 1) (startL (l.length - 1)) [] 1 (by omega) rfl (by omega) (by simp [startL]; omega) (startL_small' _) (by simp)
    refine Ev.step (fun n => ?_) T
    simp only [spec_UntransformCounts.j0]
    rw [if_neg (by simp), if_pos (by omega), if_pos (by omega)]
    simp only [Option.bind_some, List.length_replicate]
    rw [if_pos (by omega), show ((l.length : Int)).toNat = l.length by omega, show (0 : Int).toNat = 0 from rfl]
    obtain ⟨m, hm⟩ : ∃ m, l.length = m + 1 := ⟨l.length - 1, by omega⟩
    rw [hm, List.replicate_succ]
    rfl
end Go.Proofs.Ytmoodakaecmkgaa.K
