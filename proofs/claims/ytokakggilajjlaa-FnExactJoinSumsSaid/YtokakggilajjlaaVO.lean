/- Data that a law is handed, told by kinds. Conditions: the types' descriptions. -/
import Derived.Test.YtokakggilajjlaaVB
import Derived.ChangeSame
import Derived.WideShapes
set_option linter.unusedVariables false
set_option linter.unusedSimpArgs false
namespace Go.Proofs.Ytokakggilajjlaa.V
open Go Go.ChangeShapes
/-- Data of a type read as data of a kind. -/
def Opens (P : Program) (w : World) (t : TypeId) (k : Kn) : Prop :=
  ∀ (H : Type) (enc : TypeId × Value → H) (base : Nat) (spare : Nat → Bool) (held : Bool) (fuel : Nat) (cs : List Value) (x : DataW H × List MemPlace), DataW.trod enc P w base spare held fuel t cs = some x → ∃ y : k.T, Rep (fun b => b < w.heap.size) w k y cs
theorem opens_int {P : Program} {w : World} {t : TypeId} (ht : P.underlying t = some (.int .i64)) : Opens P w t (.int .i64) := by
  intro H enc base spare held fuel cs x h
  obtain ⟨n, rfl, _, hw⟩ := DataW.trod_int ht h
  refine ⟨n, rfl, ?_⟩
  simp only [Lit.wf, min64, max64, Bool.and_eq_true, decide_eq_true_eq] at hw
  exact hw
theorem opens_sl {P : Program} {w : World} {t e : TypeId} {te : Nat} {k : Kn} (ht : P.underlying t = some (.slice e)) (hc : P.cellsOf e = k.cells) (ho : Opens P w e k) : Opens P w t (.sl te k) := by
  intro H enc base spare held fuel cs x h
  rcases DataW.trod_slice ht h with ⟨rfl, _⟩ | ⟨a, len, cap, elems, rest, n, _, rfl, _, _, hl, hm, hlen, hel, _, _⟩
  · exact ⟨[], .slice none 0 0, rfl, none, 0, rfl, Nat.le_refl _, Nat.zero_le _, fun j hj => absurd hj (by simp)⟩
  · have each : ∀ i : Fin len, ∃ z : k.T, ∃ c : List Value, Rep (fun b => b < w.heap.size) w k z c ∧ ∀ j, j < k.cells → w.cell? ((a.add (i * k.cells)).add j) = c[j]? := by
      intro i
      have h1 := hel i i.2
      rw [List.getElem?_eq_getElem (by rw [hlen]; exact i.2), Option.bind_eq_some_iff] at h1
      obtain ⟨c, h2, h3⟩ := h1
      obtain ⟨z, hz⟩ := ho H enc base spare held n c _ h3
      rw [hc] at h2
      exact ⟨z, c, hz, (World.cells?_some h2).2.2⟩
    refine ⟨List.ofFn fun i : Fin len => Classical.choose (each i), .slice (some a) len cap, rfl, some a, cap, by rw [List.length_ofFn], by rw [List.length_ofFn]; exact hl, by rw [List.length_ofFn]; omega, fun j hj => ?_⟩
    have hj' : j < len := by rwa [List.length_ofFn] at hj
    obtain ⟨c, h1, h2⟩ := Classical.choose_spec (each ⟨j, hj'⟩)
    have hcl : c.length = k.cells := h1.length
    have hpos := k.cells_pos
    have hspot : a.spot = none := by
      obtain ⟨c0, h3, h4⟩ := Classical.choose_spec (each ⟨0, by omega⟩)
      have h5 := h4 0 hpos
      have hc0 : c0.length = k.cells := h3.length
      rw [Nat.zero_mul, show (a.add 0).add 0 = a from rfl, List.getElem?_eq_getElem (by omega)] at h5
      unfold World.cell? at h5
      split at h5
      · split at h5
        · cases h5
        · rename_i hs
          cases he : a.spot with
          | none => rfl
          | some y => exact absurd (by rw [he]; rfl) hs
      · cases h5
    obtain ⟨b, o, s⟩ := a
    obtain rfl : s = none := hspot
    have h6 : ∀ i (hi : i < c.length), w.cell? ⟨b, o + (j * k.cells + i), none⟩ = some c[i] := fun i hi => by
      have := h2 i (by omega)
      rw [Addr.add_lit, Addr.add_lit, List.getElem?_eq_getElem hi, Nat.add_assoc] at this
      exact this
    refine ⟨b, o, c, rfl, World.block_lt_of_cell? w _ (h6 0 (by omega)), ?_, hcl, h6⟩
    rw [List.getElem_ofFn]; exact h1
theorem opens_pr {P : Program} {w : World} {t : TypeId} {f0 f1 : Field} {a b : Kn} (ht : P.underlying t = some (.struct #[f0, f1])) (hc : P.cellsOf t = a.cells + b.cells) (ha : P.cellsOf f0.type = a.cells) (hb : P.cellsOf f1.type = b.cells) (o0 : f0.offset = 0) (o1 : f1.offset = a.cells)
    (h0 : Opens P w f0.type a) (h1 : Opens P w f1.type b) : Opens P w t (.pr a b) := by
  intro H enc base spare held fuel cs x h
  obtain ⟨y0, y1, n, _, hl, k0, k1⟩ := trod_struct2 ht h
  rw [ha, o0, List.drop_zero] at k0
  rw [hb, o1] at k1
  obtain ⟨z0, r0⟩ := h0 H enc base spare held n _ _ k0
  obtain ⟨z1, r1⟩ := h1 H enc base spare held n _ _ k1
  refine ⟨(z0, z1), cs.take a.cells, (cs.drop a.cells).take b.cells, ?_, r0, r1⟩
  rw [List.take_of_length_le (l := cs.drop a.cells) (by rw [List.length_drop]; omega), List.take_append_drop]
/-- A struct that a law is handed. -/
theorem opens_cv {P : Program} {w : World} {t : TypeId} {fs : Array Field} {a b : Kn} (ht : P.underlying t = some (.struct fs)) (ho : Opens P w t (.pr a b)) {H : Type} {enc : TypeId × Value → H} {base b0 : Nat} {spare : Nat → Bool} {held : Bool} {r : Reach} {v : Value} {d : DataW H} {p : List MemPlace}
    (hv : Value.okWide P w r b0 t v) (h : DataW.Trod enc P w base spare held t v d p) : ∃ y : (Kn.pr a b).T, CV P (EW w) (cvK (.pr a b) y) v := by
  obtain ⟨cs, rfl, _⟩ := WideShapes.okWide_struct ht hv
  obtain ⟨fuel, hf⟩ := h
  obtain ⟨y, hy⟩ := ho H enc base spare held fuel _ _ hf
  exact ⟨y, cvK_ok ⟨hy, cs, rfl⟩⟩
end Go.Proofs.Ytokakggilajjlaa.V
