/- Plain laws of words: what a word is, its range, its places, new names. Conditions: in each. -/
import Derived.Test.YtbnmjhcokdhjmaaVW2
set_option linter.unusedVariables false
set_option linter.unusedSectionVars false
set_option linter.unusedSimpArgs false
namespace Go.Proofs.Ytbnmjhcokdhjmaa.L
open Go Go.RowKit Go.Proofs.YtbnmjhcokdhjmaaW.PrintWords Go.Proofs.YtbnmjhcokdhjmaaW.PrintLast Go.Proofs.YtbnmjhcokdhjmaaW.PrintMore Go.Proofs.Ytbnmjhcokdhjmaa.K

def isWordL (l : List Int) : Bool := decide (l.length ≤ 12) && (twiceL l && decide (normalL l = l))

theorem rd_lt (l : List Int) (i : Nat) (h : i < l.length) : rd l i = l[i] := by
  unfold rd
  rw [Int.toNat_natCast, List.getD_eq_getElem?_getD, List.getElem?_eq_getElem h]
  rfl
theorem take_snoc (l : List Int) (i : Nat) (h : i < l.length) : l.take (i + 1) = l.take i ++ [rd l i] := by
  rw [rd_lt l i h, List.take_succ_eq_append_getElem h]

/-! ### what a word is -/
/-- The numbers of a word of n chords. -/
structure Word (l : List Int) (n : Nat) : Prop where
  len : l.length = 2 * n
  small : n ≤ 6
  range : ∀ j, j < l.length → 0 ≤ rd l j ∧ rd l j < n
  two : ∀ i, i < n → l.count (i : Int) = 2
theorem normFrom_range (l : List Int) : ∀ met, ∀ y ∈ normFrom met l, 0 ≤ y ∧ y < ((metBy met l).length : Int) := by
  have hmono : ∀ (l : List Int) (met : List Int), met.length ≤ (metBy met l).length := by
    intro l
    induction l with
    | nil => intro met; exact Nat.le_refl _
    | cons x r ih =>
      intro met
      rw [metBy]
      split
      · exact ih met
      · have := ih (met ++ [x])
        simp at this
        omega
  induction l with
  | nil => intro met y hy; simp [normFrom] at hy
  | cons x r ih =>
    intro met y hy
    rw [normFrom] at hy
    rw [metBy]
    cases h : met.idxOf? x with
    | some j =>
      rw [h] at hy
      simp only at hy ⊢
      rcases List.mem_cons.mp hy with rfl | hy
      · have h1 := idxOf?_lt h
        have h2 := hmono r met
        omega
      · exact ih met y hy
    | none =>
      rw [h] at hy
      simp only at hy ⊢
      rcases List.mem_cons.mp hy with rfl | hy
      · have h2 := hmono r (met ++ [x])
        simp at h2
        omega
      · exact ih (met ++ [x]) y hy
theorem normFrom_onto (l : List Int) : ∀ met (k : Nat), met.length ≤ k → k < (metBy met l).length → (k : Int) ∈ normFrom met l := by
  induction l with
  | nil => intro met k h1 h2; simp [metBy] at h2; omega
  | cons x r ih =>
    intro met k h1 h2
    rw [metBy] at h2
    rw [normFrom]
    cases h : met.idxOf? x with
    | some j =>
      rw [h] at h2
      exact List.mem_cons_of_mem _ (ih met k h1 h2)
    | none =>
      rw [h] at h2
      simp only at h2 ⊢
      by_cases e : k = met.length
      · subst e; exact List.mem_cons_self
      · exact List.mem_cons_of_mem _ (ih (met ++ [x]) k (by simp; omega) h2)
/-- A list whose numbers are 0 to n - 1, each twice, has 2 n elements. -/
theorem length_of_counts (n : Nat) : ∀ (l : List Int), (∀ y ∈ l, 0 ≤ y ∧ y < (n : Int)) → (∀ i : Nat, i < n → l.count (i : Int) = 2) → l.length = 2 * n := by
  induction n with
  | zero =>
    intro l h _
    cases l with
    | nil => rfl
    | cons y r =>
      have := h y List.mem_cons_self
      omega
  | succ n ih =>
    intro l h h2
    have h3 := ih (l.filter (fun y => y != (n : Int))) (fun y hy => by
      obtain ⟨hy1, hy2⟩ := List.mem_filter.mp hy
      have := h y hy1
      have : y ≠ (n : Int) := by simpa using hy2
      omega) (fun i hi => by
      rw [List.count_filter (by have : (i : Int) ≠ n := by omega
                                simpa using this)]
      exact h2 i (by omega))
    have h4 : l.length = (l.filter (fun y => y != (n : Int))).length + l.count (n : Int) := by
      clear h h2 h3 ih
      induction l with
      | nil => rfl
      | cons y r ihr =>
        by_cases e : y = (n : Int)
        · subst e; simp; omega
        · have h5 : (y != (n : Int)) = true := by simpa using e
          rw [List.filter_cons, if_pos h5, List.count_cons]
          simp [e]
          omega
    have := h2 n (by omega)
    omega
theorem word_of (l : List Int) (h : isWordL l = true) : ∃ n, Word l n := by
  unfold isWordL at h
  simp only [Bool.and_eq_true, decide_eq_true_eq] at h
  obtain ⟨h12, ht, hn⟩ := h
  have hr : ∀ y ∈ l, 0 ≤ y ∧ y < ((metBy [] l).length : Int) := by
    intro y hy
    exact normFrom_range l [] y (by
      have : normFrom [] l = l := hn
      rw [this]; exact hy)
  have hc : ∀ i : Nat, i < (metBy [] l).length → l.count (i : Int) = 2 := by
    intro i hi
    have hm : (i : Int) ∈ l := by
      have h5 := normFrom_onto l [] i (by simp) hi
      have : normFrom [] l = l := hn
      rw [this] at h5
      exact h5
    have := List.all_eq_true.mp ht _ hm
    simpa using this
  have hlen := length_of_counts _ l hr hc
  exact ⟨_, hlen, by omega, fun j hj => hr _ (rd_mem l j hj), hc⟩

theorem word_range {w : List Int} (hw : isWordL w = true) : w.length ≤ 12 ∧ ∀ x ∈ w, 0 ≤ x ∧ x < ((w.length / 2 : Nat) : Int) := by
  unfold isWordL at hw
  simp only [Bool.and_eq_true, decide_eq_true_eq] at hw
  obtain ⟨h12, ht, hn⟩ := hw
  have hN : normFrom [] w = w := hn
  have hr : ∀ y ∈ w, 0 ≤ y ∧ y < ((metBy [] w).length : Int) := by
    intro y hy
    exact normFrom_range w [] y (by rw [hN]; exact hy)
  have hc : ∀ i : Nat, i < (metBy [] w).length → w.count (i : Int) = 2 := by
    intro i hi
    have h5 := normFrom_onto w [] i (by simp) hi
    rw [hN] at h5
    have := List.all_eq_true.mp ht _ h5
    simpa using this
  have := length_of_counts _ w hr hc
  refine ⟨h12, fun x hx => ?_⟩
  have := hr x hx
  omega
/-- a and b are the places of x. -/
structure Two (l : List Int) (x : Int) (a b : Nat) : Prop where
  ab : a < b
  bl : b < l.length
  ra : rd l a = x
  rb : rd l b = x
  only : ∀ j, j < l.length → rd l j = x → j = a ∨ j = b
theorem rd_append_left (s t : List Int) (j : Nat) (h : j < s.length) : rd (s ++ t) j = rd s j := by
  unfold rd
  rw [Int.toNat_natCast, List.getD_eq_getElem?_getD, List.getD_eq_getElem?_getD, List.getElem?_append_left h]
theorem rd_append_right (s t : List Int) (j : Nat) : rd (s ++ t) ((s.length + j : Nat) : Int) = rd t j := by
  unfold rd
  rw [Int.toNat_natCast, Int.toNat_natCast, List.getD_eq_getElem?_getD, List.getD_eq_getElem?_getD, List.getElem?_append_right (by omega), Nat.add_sub_cancel_left]
theorem rd_cons_zero (x : Int) (t : List Int) : rd (x :: t) ((0 : Nat) : Int) = x := rfl
theorem rd_cons_succ (x : Int) (t : List Int) (j : Nat) : rd (x :: t) ((j + 1 : Nat) : Int) = rd t j := by
  unfold rd
  rw [Int.toNat_natCast, Int.toNat_natCast, List.getD_cons_succ]
theorem rd_not_mem (s : List Int) (x : Int) (h : x ∉ s) (j : Nat) (hj : j < s.length) : rd s j ≠ x := fun e => h (e ▸ rd_mem s j hj)
theorem two_of_count (l : List Int) (x : Int) (h : l.count x = 2) : ∃ a b, Two l x a b := by
  obtain ⟨s, t, rfl, hs⟩ := List.eq_append_cons_of_mem (List.count_pos_iff.mp (show 0 < l.count x by omega))
  have h0 : s.count x = 0 := List.count_eq_zero.mpr hs
  rw [List.count_append, List.count_cons_self, h0] at h
  obtain ⟨s2, t2, rfl, hs2⟩ := List.eq_append_cons_of_mem (List.count_pos_iff.mp (show 0 < t.count x by omega))
  have h1 : s2.count x = 0 := List.count_eq_zero.mpr hs2
  rw [List.count_append, List.count_cons_self, h1] at h
  have ht2 : x ∉ t2 := List.count_eq_zero.mp (by omega)
  refine ⟨s.length, s.length + (s2.length + 1), by omega, by simp, ?_, ?_, fun j hj e => ?_⟩
  · have := rd_append_right s (x :: (s2 ++ x :: t2)) 0
    rw [Nat.add_zero] at this
    rw [this, rd_cons_zero]
  · rw [rd_append_right, rd_cons_succ]
    have := rd_append_right s2 (x :: t2) 0
    rw [Nat.add_zero] at this
    rw [this, rd_cons_zero]
  · rcases Nat.lt_or_ge j s.length with h1 | h1
    · rw [rd_append_left _ _ _ h1] at e
      exact absurd e (rd_not_mem s x hs j h1)
    · obtain ⟨k, rfl⟩ : ∃ k, j = s.length + k := ⟨j - s.length, by omega⟩
      rw [rd_append_right] at e
      match k with
      | 0 => exact Or.inl rfl
      | k + 1 =>
        rw [rd_cons_succ] at e
        right
        rcases Nat.lt_or_ge k s2.length with h2 | h2
        · rw [rd_append_left _ _ _ h2] at e
          exact absurd e (rd_not_mem s2 x hs2 k h2)
        · obtain ⟨u, rfl⟩ : ∃ u, k = s2.length + u := ⟨k - s2.length, by omega⟩
          rw [rd_append_right] at e
          match u with
          | 0 => omega
          | u + 1 =>
            rw [rd_cons_succ] at e
            simp only [List.length_append, List.length_cons] at hj
            exact absurd e (rd_not_mem t2 x ht2 u (by omega))

/-! ### mates -/
open Classical in
/-- The other place of the chord at j. -/
noncomputable def mate (l : List Int) (j : Nat) : Nat := if h : ∃ k, k < l.length ∧ k ≠ j ∧ rd l k = rd l j then Classical.choose h else 0
theorem Two.mate_a {l : List Int} {x : Int} {a b : Nat} (h : Two l x a b) : mate l a = b := by
  have hex : ∃ k, k < l.length ∧ k ≠ a ∧ rd l k = rd l a := ⟨b, h.bl, by have := h.ab; omega, by rw [h.rb, h.ra]⟩
  unfold mate
  rw [dif_pos hex]
  obtain ⟨h1, h2, h3⟩ := Classical.choose_spec hex
  rcases h.only _ h1 (by rw [h3, h.ra]) with e | e
  · exact absurd e h2
  · exact e
theorem Two.mate_b {l : List Int} {x : Int} {a b : Nat} (h : Two l x a b) : mate l b = a := by
  have hex : ∃ k, k < l.length ∧ k ≠ b ∧ rd l k = rd l b := ⟨a, by have := h.ab; have := h.bl; omega, by have := h.ab; omega, by rw [h.ra, h.rb]⟩
  unfold mate
  rw [dif_pos hex]
  obtain ⟨h1, h2, h3⟩ := Classical.choose_spec hex
  rcases h.only _ h1 (by rw [h3, h.rb]) with e | e
  · exact e
  · exact absurd e h2
section
variable {l : List Int} {n : Nat} (hw : Word l n)
include hw
theorem Word.at_ (j : Nat) (hj : j < l.length) : ∃ (i a b : Nat), i < n ∧ rd l j = i ∧ Two l i a b ∧ (j = a ∨ j = b) := by
  obtain ⟨h0, h1⟩ := hw.range j hj
  obtain ⟨i, hi⟩ : ∃ i : Nat, rd l j = i := ⟨(rd l j).toNat, by omega⟩
  obtain ⟨a, b, ht⟩ := two_of_count l i (hw.two i (by omega))
  exact ⟨i, a, b, by omega, hi, ht, ht.only j hj hi⟩
theorem Word.mate_lt (j : Nat) (hj : j < l.length) : mate l j < l.length ∧ mate l (mate l j) = j ∧ rd l (mate l j) = rd l j := by
  obtain ⟨i, a, b, hi, hr, ht, rfl | rfl⟩ := hw.at_ j hj
  · rw [ht.mate_a, ht.mate_b]
    exact ⟨ht.bl, rfl, by rw [ht.rb, hr]⟩
  · rw [ht.mate_b, ht.mate_a]
    exact ⟨by have := ht.ab; have := ht.bl; omega, rfl, by rw [ht.ra, hr]⟩
end

theorem idxOf?_map (f : Int → Int) (x : Int) : ∀ met : List Int, (∀ y ∈ met, f y = f x → y = x) → (met.map f).idxOf? (f x) = met.idxOf? x := by
  intro met
  induction met with
  | nil => intro _; rfl
  | cons y r ih =>
    intro h
    rw [List.map_cons, List.idxOf?_cons, List.idxOf?_cons, ih fun z hz => h z (by simp [hz])]
    have : (f y == f x) = (y == x) := by
      by_cases e : y = x
      · subst e; simp
      · have h2 : f y ≠ f x := fun e2 => e (h y (by simp) e2)
        rw [beq_eq_false_iff_ne.mpr h2, beq_eq_false_iff_ne.mpr e]
    rw [this]
theorem normFrom_map (f : Int → Int) (l : List Int) : ∀ met : List Int, (∀ x ∈ met ++ l, ∀ y ∈ met ++ l, f x = f y → x = y) → normFrom (met.map f) (l.map f) = normFrom met l := by
  induction l with
  | nil => intro met _; rfl
  | cons x r ih =>
    intro met h
    rw [List.map_cons, normFrom, normFrom, idxOf?_map f x met fun y hy => h y (by simp [hy]) x (by simp)]
    cases hx : met.idxOf? x with
    | some j =>
      show (j : Int) :: _ = (j : Int) :: _
      rw [ih met fun a ha b hb => h a (by simp at ha ⊢; rcases ha with ha | ha <;> simp [ha]) b (by simp at hb ⊢; rcases hb with hb | hb <;> simp [hb])]
    | none =>
      have := ih (met ++ [x]) fun a ha b hb => h a (by simpa [or_assoc] using ha) b (by simpa [or_assoc] using hb)
      rw [List.map_append, List.map_cons, List.map_nil] at this
      rw [this, List.length_map]
/-- Two new numbers give the same normal word. -/
theorem normal_new (a b c : List Int) (u v : Int) (hu : u ∉ a ++ b ++ c) (hv : v ∉ a ++ b ++ c) : normalL (a ++ [u] ++ b ++ [u] ++ c) = normalL (a ++ [v] ++ b ++ [v] ++ c) := by
  have hmap : ∀ l : List Int, v ∉ l → l.map (fun x => if x = v then u else x) = l := by
    intro l hl
    induction l with
    | nil => rfl
    | cons x r ih =>
      simp only [List.mem_cons, not_or] at hl
      rw [List.map_cons, ih hl.2, if_neg (fun e => hl.1 e.symm)]
  simp only [List.mem_append, not_or] at hu hv
  have e : a ++ [u] ++ b ++ [u] ++ c = (a ++ [v] ++ b ++ [v] ++ c).map (fun x => if x = v then u else x) := by
    simp only [List.map_append, hmap a hv.1.1, hmap b hv.1.2, hmap c hv.2, List.map_cons, List.map_nil, if_true]
  rw [e]
  unfold normalL
  have := normFrom_map (fun x => if x = v then u else x) (a ++ [v] ++ b ++ [v] ++ c) [] (by
    have cls : ∀ z ∈ [] ++ (a ++ [v] ++ b ++ [v] ++ c), z = v ∨ (z ≠ u) := by
      intro z hz
      by_cases ez : z = v
      · exact Or.inl ez
      · refine Or.inr fun e2 => ?_
        subst e2
        simp only [List.nil_append, List.mem_append, List.mem_singleton] at hz
        rcases hz with (((hz | hz) | hz) | hz) | hz
        · exact hu.1.1 hz
        · exact ez hz
        · exact hu.1.2 hz
        · exact ez hz
        · exact hu.2 hz
    intro x hx y hy hxy
    by_cases e1 : x = v <;> by_cases e2 : y = v
    · rw [e1, e2]
    · rw [if_pos e1, if_neg e2] at hxy
      rcases cls y hy with h | h
      · exact absurd h e2
      · exact absurd hxy.symm h
    · rw [if_neg e1, if_pos e2] at hxy
      rcases cls x hx with h | h
      · exact absurd h e1
      · exact absurd hxy h
    · rw [if_neg e1, if_neg e2] at hxy
      exact hxy)
  exact this
/-! ### tests -/

/-! ### words as the contracts tell them -/
theorem isW_eq (l : List Int) : V.isW l = isWordL l := rfl
theorem gauss_parts {w h s : List Int} (hg : V.isG w h s = true) : isWordL w = true ∧ h.length = w.length / 2 ∧ s.length = w.length / 2 := by
  unfold V.isG at hg
  simp only [Bool.and_eq_true, decide_eq_true_eq] at hg
  exact ⟨hg.1, hg.2.1, hg.2.2.1⟩
end Go.Proofs.Ytbnmjhcokdhjmaa.L
