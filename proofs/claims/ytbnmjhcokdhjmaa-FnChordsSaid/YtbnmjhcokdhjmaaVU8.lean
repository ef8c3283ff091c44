/- Rows of bytes that a law is handed. Conditions: none. -/
import Derived.Test.YtbnmjhcokdhjmaaVB
set_option linter.unusedVariables false
set_option linter.unusedSimpArgs false
namespace Go.Proofs.Ytbnmjhcokdhjmaa.V
open Go
theorem row_in8 {P : Program} {w : World} {a : Option Addr} {len cap : Nat} {zs : List Int}
    (h : (a = none ∧ len = 0 ∧ cap = 0 ∧ zs = []) ∨ ∃ x, a = some x ∧ len ≤ cap ∧ cap ≤ maxLen ∧ zs.length = cap ∧ (∀ i, i < zs.length → w.cell? (x.add i) = some (.int .u8 (zs.getD i 0))) ∧ ∀ n ∈ zs, (Lit.int .u8 n).wf = true) :
    ∃ l : List Int, AV P (EW w) (.ro (.int .u8) l) (.slice a len cap) := by
  rcases h with ⟨rfl, rfl, rfl, rfl⟩ | ⟨x, rfl, h1, h2, h3, h4, h5⟩
  · exact ⟨[], none, 0, rfl, Nat.le_refl _, Nat.zero_le _, fun j hj => absurd hj (by simp)⟩
  · have hl : (zs.take len).length = len := by rw [List.length_take]; omega
    refine ⟨zs.take len, some x, cap, by rw [hl], by rw [hl]; exact h1, by rw [hl]; omega, fun j hj => ?_⟩
    rw [hl] at hj
    have hc := h4 j (by omega)
    have hz : zs.getD j 0 = zs[j] := by rw [List.getD_eq_getElem?_getD, List.getElem?_eq_getElem (by omega)]; rfl
    have hs : x.spot = none := by
      have hc := h4 0 (by omega)
      rw [Addr.add, if_pos (by rfl)] at hc
      unfold World.cell? at hc
      split at hc
      · split at hc
        · cases hc
        · rename_i hs
          cases he : x.spot with
          | none => rfl
          | some y => exact absurd (by rw [he]; rfl) hs
      · cases hc
    obtain ⟨xb, xo, xs⟩ := x
    obtain rfl : xs = none := hs
    rw [Addr.add_lit] at hc
    refine ⟨xb, xo, [.int .u8 zs[j]], rfl, World.block_lt_of_cell? w _ hc, ⟨by rw [List.getElem_take], ?_⟩, rfl, fun i hi => ?_⟩
    · rw [List.getElem_take]
      have := h5 zs[j] (List.getElem_mem _)
      simp only [Lit.wf, min64, max64, Bool.and_eq_true, decide_eq_true_eq] at this
      exact this
    · have hi : i = 0 := by simpa using hi
      subst hi
      rw [hz] at hc
      show w.cell? ⟨xb, xo + (j * 1 + 0), none⟩ = _
      rw [Nat.mul_one, Nat.add_zero]
      exact hc
end Go.Proofs.Ytbnmjhcokdhjmaa.V
