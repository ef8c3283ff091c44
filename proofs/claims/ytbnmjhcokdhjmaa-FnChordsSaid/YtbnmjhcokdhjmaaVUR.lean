/- Plain law: crossings of joined words, lengths of words of some chords. Conditions: words. -/
import Derived.Test.YtbnmjhcokdhjmaaVUQ
set_option linter.unusedVariables false
set_option linter.unusedSectionVars false
set_option linter.unusedSimpArgs false
namespace Go.Proofs.Ytbnmjhcokdhjmaa.V
open Go
open Go.Proofs.Ytbnmjhcokdhjmaa.K (normalL normFrom metBy twiceL)
theorem even_len {w : List Int} (hw : isW w = true) : w.length = 2 * (w.length / 2) := by
  obtain ⟨n, hn⟩ := Go.Proofs.Ytbnmjhcokdhjmaa.L.word_of w (by rw [← Go.Proofs.Ytbnmjhcokdhjmaa.L.isW_eq]; exact hw)
  have := hn.len
  omega
section
variable {a b : List Int} (ha : isW a = true) (hb : isW b = true) (hl : a.length + b.length ≤ 12)
include ha hb hl
theorem join_half : (joL a b).length / 2 = a.length / 2 + b.length / 2 := by
  have := even_len ha
  have := even_len hb
  rw [joL_len]; omega
theorem pl_a {i : Nat} (hi : i < a.length / 2) : pl1 (joL a b) i = pl1 a i ∧ pl2 (joL a b) i = pl2 a i := by
  have hh := join_half ha hb hl
  obtain ⟨x, y, xy, yl, p1, p2, _, _, g1, g2, _⟩ := pl_two (y_two ha (i := (i : Int)) (by omega) (by omega))
  have e : ∀ j, j < a.length → (joL a b).getD j 0 = a.getD j 0 := fun j hj => by
    rw [joL, List.getD_eq_getElem?_getD, List.getElem?_append_left hj, List.getD_eq_getElem?_getD]
  have h := pl_of (w := joL a b) (x := (i : Int)) (a := x) (b := y) (y_two (joL_isW ha hb hl) (by omega) (by omega)) xy (by rw [joL_len]; omega) (by rw [e x (by omega)]; exact g1) (by rw [e y yl]; exact g2)
  rw [p1, p2]; exact h
theorem pl_b {i : Nat} (hi : i < b.length / 2) : pl1 (joL a b) ((a.length / 2 + i : Nat) : Int) = pl1 b i + a.length ∧ pl2 (joL a b) ((a.length / 2 + i : Nat) : Int) = pl2 b i + a.length := by
  have hh := join_half ha hb hl
  obtain ⟨x, y, xy, yl, p1, p2, _, _, g1, g2, _⟩ := pl_two (y_two hb (i := (i : Int)) (by omega) (by omega))
  have e : ∀ j, j < b.length → (joL a b).getD (a.length + j) 0 = b.getD j 0 + ((a.length / 2 : Nat) : Int) := fun j hj => by
    rw [joL_eq ha hb, List.getD_eq_getElem?_getD, List.getElem?_append_right (by omega), show a.length + j - a.length = j by omega, List.getElem?_map, List.getD_eq_getElem?_getD, List.getElem?_eq_getElem hj]
    rfl
  have h := pl_of (w := joL a b) (x := ((a.length / 2 + i : Nat) : Int)) (a := a.length + x) (b := a.length + y) (y_two (joL_isW ha hb hl) (by omega) (by omega)) (by omega) (by rw [joL_len]; omega) (by rw [e x (by omega), g1]; omega) (by rw [e y yl, g2]; omega)
  rw [p1, p2, h.1, h.2]
  omega
theorem cr_aa {i k : Nat} (hi : i < a.length / 2) (hk : k < a.length / 2) : crI (joL a b) i k = crI a i k := by
  unfold crI crB
  rw [(pl_a ha hb hl hi).1, (pl_a ha hb hl hi).2, (pl_a ha hb hl hk).1, (pl_a ha hb hl hk).2]
theorem cr_bb {i k : Nat} (hi : i < b.length / 2) (hk : k < b.length / 2) : crI (joL a b) (a.length / 2 + i) (a.length / 2 + k) = crI b i k := by
  unfold crI crB inS
  rw [(pl_b ha hb hl hi).1, (pl_b ha hb hl hi).2, (pl_b ha hb hl hk).1, (pl_b ha hb hl hk).2]
  rw [show decide (((a.length / 2 + i : Nat) : Int) ≠ ((a.length / 2 + k : Nat) : Int)) = decide ((i : Int) ≠ (k : Int)) from decide_eq_decide.2 (by omega),
    show decide (pl1 b (i : Int) + (a.length : Int) < pl1 b (k : Int) + a.length) = decide (pl1 b (i : Int) < pl1 b (k : Int)) from decide_eq_decide.2 (by omega),
    show decide (pl1 b (k : Int) + (a.length : Int) < pl2 b (i : Int) + a.length) = decide (pl1 b (k : Int) < pl2 b (i : Int)) from decide_eq_decide.2 (by omega),
    show decide (pl1 b (i : Int) + (a.length : Int) < pl2 b (k : Int) + a.length) = decide (pl1 b (i : Int) < pl2 b (k : Int)) from decide_eq_decide.2 (by omega),
    show decide (pl2 b (k : Int) + (a.length : Int) < pl2 b (i : Int) + a.length) = decide (pl2 b (k : Int) < pl2 b (i : Int)) from decide_eq_decide.2 (by omega)]
theorem cr_ab {i k : Nat} (hi : i < a.length / 2) (hk : k < b.length / 2) : crI (joL a b) i (a.length / 2 + k) = 0 := by
  obtain ⟨x, y, xy, yl, p1, p2, _⟩ := pl_two (y_two ha (i := (i : Int)) (by omega) (by omega))
  obtain ⟨u, v, uv, vl, q1, q2, _⟩ := pl_two (y_two hb (i := (k : Int)) (by omega) (by omega))
  unfold crI crB inS
  rw [(pl_a ha hb hl hi).1, (pl_a ha hb hl hi).2, (pl_b ha hb hl hk).1, (pl_b ha hb hl hk).2, p1, p2, q1, q2]
  rw [decide_eq_false (show ¬ ((u : Int) + a.length < y) by omega), decide_eq_false (show ¬ ((v : Int) + a.length < y) by omega)]
  simp
theorem cN_join : cN (joL a b) ((joL a b).length / 2) = cN a (a.length / 2) + cN b (b.length / 2) := by
  have hA : ∀ n, n ≤ a.length / 2 → cN (joL a b) n = cN a n := fun n => by
    induction n with
    | zero => intro _; rfl
    | succ n ih =>
      intro h
      rw [cN_s, cN_s, ih (by omega)]
      congr 1
      exact rsum_eq fun i hi => cr_aa ha hb hl (by omega) (by omega)
  have hS : ∀ (f : Nat → Int) (m n : Nat), ((List.range (m + n)).map f).sum = ((List.range m).map f).sum + ((List.range n).map fun j => f (m + j)).sum := fun f m n => by
    induction n with
    | zero => simp
    | succ n ih => rw [← Nat.add_assoc, rsum_s, rsum_s, ih]; omega
  have hB : ∀ n, n ≤ b.length / 2 → cN (joL a b) (a.length / 2 + n) = cN a (a.length / 2) + cN b n := fun n => by
    induction n with
    | zero => intro _; rw [Nat.add_zero, hA _ (Nat.le_refl _)]; simp [cN]
    | succ n ih =>
      intro h
      rw [← Nat.add_assoc, cN_s, cN_s, ih (by omega)]
      have e : cK (joL a b) (a.length / 2 + n) = cK b n := by
        unfold cK
        rw [hS, rsum_0 fun i hi => cr_ab ha hb hl hi (by omega), Int.zero_add]
        exact rsum_eq fun i hi => cr_bb ha hb hl (by omega) (by omega)
      rw [e]; omega
  rw [join_half ha hb hl, hB _ (Nat.le_refl _)]
end
/-! ### words of some chords -/
theorem filter_in_len (w : List Int) : ∀ s : List Int, s.Nodup → (w.filter fun x => decide (x ∈ s)).length = (s.map fun y => w.count y).sum
  | [], _ => by simp
  | y :: s, h => by
    obtain ⟨h1, h2⟩ := List.nodup_cons.1 h
    rw [List.map_cons, List.sum_cons, ← filter_in_len w s h2]
    induction w with
    | nil => rfl
    | cons z w ih =>
      simp only [List.mem_cons] at ih
      rw [List.filter_cons, List.filter_cons, List.count_cons]
      by_cases e : z = y
      · subst e
        simp only [List.mem_cons, true_or, decide_true, if_true, List.length_cons, h1, decide_false, Bool.false_eq_true, if_false, beq_self_eq_true]
        omega
      · by_cases hz : z ∈ s
        · simp only [List.mem_cons, e, hz, or_true, decide_true, if_true, List.length_cons, false_or]
          simp only [beq_iff_eq, e, if_false]
          omega
        · simp only [List.mem_cons, e, hz, or_self, decide_false, Bool.false_eq_true, if_false]
          simp only [beq_iff_eq, e, if_false]
          omega
end Go.Proofs.Ytbnmjhcokdhjmaa.V
