/- What impl.spread computes, as passes over a list. Conditions: the numbers are from 0 to 2000000000. -/
import Derived.Test.YtmoodakaecmkgaaKPure
import Derived.Test.YtmoodakaecmkgaaPAx0
import Derived.Test.YtmoodakaecmkgaaPAx4
set_option linter.unusedVariables false
set_option linter.unusedSimpArgs false
namespace Go.Proofs.Ytmoodakaecmkgaa.K
open Go.RowKit Go.Proofs.YtmoodakaecmkgaaW.PrintWords Go.Proofs.YtmoodakaecmkgaaW.PrintLast Go.Proofs.YtmoodakaecmkgaaW.PrintMore
open Go.Proofs.Ytmoodakaecmkgaa.PA

def Small (l : List Int) : Prop := ∀ x ∈ l, 0 ≤ x ∧ x ≤ 2000000000
theorem Small.getD {l : List Int} (h : Small l) (i : Nat) : 0 ≤ l.getD i 0 ∧ l.getD i 0 ≤ 2000000000 := by
  rw [List.getD_eq_getElem?_getD]
  cases e : l[i]? with
  | none => simp
  | some x =>
    have := h x (List.mem_of_getElem? e)
    simpa using this
theorem Small.set {l : List Int} (h : Small l) (i : Nat) {y : Int} (h0 : 0 ≤ y) (h1 : y ≤ 2000000000) : Small (l.set i y) := by
  intro x hx
  rcases List.mem_or_eq_of_mem_set hx with h2 | h2
  · exact h x h2
  · subst h2; exact ⟨h0, h1⟩
theorem passFrom_small (k d : Nat) : ∀ (l : List Int) (i : Nat), Small l → Small (passFrom l k i d) := by
  induction d with
  | zero => intro l i h; exact h
  | succ d ih =>
    intro l i h
    rw [passFrom]
    have h1 := h.getD i
    have h2 := h.getD (i - k)
    exact ih _ _ (h.set i (by omega) (by omega))
theorem pass_small {l : List Int} (k : Nat) (h : Small l) : Small (pass l k) := passFrom_small _ _ _ _ h
theorem passes_small (k n : Nat) : ∀ l : List Int, Small l → Small (passes l k n) := by
  induction n with
  | zero => intro l h; exact h
  | succ n ih => intro l h; exact ih _ (pass_small k h)

/-- The inner loop of one pass. -/
theorem spread_l1 (k x7 x8 : Int) (hk : 0 ≤ k) (d : Nat) : ∀ (l : List Int) (i : Int) (r : List Int), k ≤ i → l.length < 1000000 → (l.length : Int) - i = d → Small l →
    (∃ n, impl_spread.l0 n (passFrom l k.toNat i.toNat d) k x7 (wrap64 (x8 + 1)) = some r) → ∃ n, impl_spread.l1 n l k i x7 x8 = some r := by
  induction d with
  | zero =>
    intro l i r h1 hl hd hs hr
    obtain ⟨n, hn⟩ := hr
    refine ⟨n + 1, ?_⟩
    simp only [impl_spread.l1]
    rw [if_neg (by omega)]
    exact hn
  | succ d ih =>
    intro l i r h1 hl hd hs hr
    have e1 : wrap64 (i - k) = i - k := by unfold wrap64; omega
    have e2 : wrap64 (i + 1) = i + 1 := by unfold wrap64; omega
    have g1 := hs.getD i.toNat
    have g2 := hs.getD (i - k).toNat
    have e3 : wrap64 (rd l i + rd l (i - k)) = rd l i + rd l (i - k) := by unfold rd wrap64; omega
    have e4 : mn (rd l i + rd l (i - k)) 2000000000 = min (l.getD i.toNat 0 + l.getD (i.toNat - k.toNat) 0) 2000000000 := by
      unfold mn rd
      rw [show (i - k).toNat = i.toNat - k.toNat by omega]
      split <;> omega
    have g3 : (i - k).toNat = i.toNat - k.toNat := by omega
    rw [g3] at g2
    obtain ⟨n, hn⟩ := ih (l.set i.toNat (min (l.getD i.toNat 0 + l.getD (i.toNat - k.toNat) 0) 2000000000)) (i + 1) r (by omega) (by simpa using hl) (by simp; omega) (hs.set _ (by omega) (by omega)) (by
      obtain ⟨n, hn⟩ := hr
      refine ⟨n, ?_⟩
      rw [← hn, passFrom, show (i + 1).toNat = i.toNat + 1 by omega])
    refine ⟨n + 1, ?_⟩
    simp only [impl_spread.l1]
    rw [e1, e2, e3, e4, if_pos (by omega), if_pos (by omega), if_pos (by omega), if_pos (by omega)]
    exact hn

theorem spread_l0 (k x7 : Int) (hk : 0 ≤ k) (d : Nat) : ∀ (l : List Int) (x8 : Int), 0 ≤ x8 → x8 ≤ x7 → x7 < 1000000 → x7 - x8 = d → k ≤ l.length → l.length < 1000000 → Small l →
    ∃ n, impl_spread.l0 n l k x7 x8 = some (passes l k.toNat d) := by
  induction d with
  | zero =>
    intro l x8 h0 h1 h2 hd hkl hl hs
    exact ⟨1, by simp only [impl_spread.l0]; rw [if_neg (by omega)]; rfl⟩
  | succ d ih =>
    intro l x8 h0 h1 h2 hd hkl hl hs
    have e1 : wrap64 (x8 + 1) = x8 + 1 := by unfold wrap64; omega
    have hp : (pass l k.toNat).length = l.length := pass_length _ _
    obtain ⟨n, hn⟩ := ih (pass l k.toNat) (x8 + 1) (by omega) (by omega) h2 (by omega) (by omega) (by omega) (pass_small _ hs)
    obtain ⟨n2, hn2⟩ := spread_l1 k x7 x8 hk (l.length - k.toNat) l k _ (by omega) hl (by omega) hs ⟨n, by rw [e1]; exact hn⟩
    exact ⟨n2 + 1, by simp only [impl_spread.l0]; rw [if_pos (by omega)]; exact hn2⟩

theorem spread_f (l : List Int) (k often : Int) (hk : 0 ≤ k) (hkl : k ≤ l.length) (hl : l.length < 1000000) (h0 : 0 ≤ often) (h1 : often < 1000000) (hs : Small l) :
    ∃ n, impl_spread.f n l k often = some (passes l k.toNat often.toNat) := by
  obtain ⟨n, hn⟩ := spread_l0 k often hk often.toNat l 0 (by omega) h0 h1 (by omega) hkl hl hs
  exact ⟨n, hn⟩
end Go.Proofs.Ytmoodakaecmkgaa.K
