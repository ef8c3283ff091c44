/- Plain law: joined words are words, their crossings are those of both. Conditions: words. -/
import Derived.Test.YtbnmjhcokdhjmaaVUP
set_option linter.unusedVariables false
set_option linter.unusedSimpArgs false
namespace Go.Proofs.Ytbnmjhcokdhjmaa.V
open Go
open Go.Proofs.Ytbnmjhcokdhjmaa.K (normalL normFrom metBy twiceL)
theorem normFrom_app : ∀ (a b met : List Int), normFrom met (a ++ b) = normFrom met a ++ normFrom (metBy met a) b
  | [], b, met => by simp [normFrom, metBy]
  | x :: a, b, met => by
    rw [List.cons_append, normFrom, normFrom, metBy]
    cases met.idxOf? x with
    | some j => simp only [normFrom_app a b met, List.cons_append]
    | none => simp only [normFrom_app a b (met ++ [x]), List.cons_append]
theorem idx_shift {M met : List Int} {f : Int → Int} {x : Int} (hM : f x ∉ M) (hi : ∀ y ∈ met, f y = f x → y = x) : (M ++ met.map f).idxOf? (f x) = (met.idxOf? x).map (· + M.length) := by
  unfold List.idxOf?
  rw [List.findIdx?_append]
  have h1 : List.findIdx? (fun y => y == f x) M = none := by
    rw [List.findIdx?_eq_none_iff]
    intro y hy
    simp only [beq_eq_false_iff_ne, ne_eq]
    rintro rfl
    exact hM hy
  have h2 : List.findIdx? (fun y => y == f x) (met.map f) = List.findIdx? (fun y => y == x) met := by
    rw [List.findIdx?_map]
    have : ∀ l : List Int, (∀ y ∈ l, f y = f x → y = x) → List.findIdx? ((fun y => y == f x) ∘ f) l = List.findIdx? (fun y => y == x) l := fun l => by
      induction l with
      | nil => intro _; rfl
      | cons z l ih =>
        intro h
        rw [List.findIdx?_cons, List.findIdx?_cons, ih fun y hy => h y (List.mem_cons_of_mem _ hy)]
        have e : (((fun y => y == f x) ∘ f) z) = (z == x) := by
          simp only [Function.comp_apply]
          rw [Bool.eq_iff_iff]
          simp only [beq_iff_eq]
          exact ⟨h z List.mem_cons_self, fun e => by rw [e]⟩
        rw [e]
    exact this met hi
  rw [h1, h2]
  simp
theorem normFrom_shift (M : List Int) (f : Int → Int) : ∀ (l met : List Int), (∀ x ∈ l, ∀ y ∈ met ++ l, f y = f x → y = x) → (∀ x ∈ l, f x ∉ M) → normFrom (M ++ met.map f) (l.map f) = (normFrom met l).map (fun y => y + (M.length : Int))
  | [], met, _, _ => by simp [normFrom]
  | x :: l, met, hi, hM => by
    rw [List.map_cons, normFrom, normFrom, idx_shift (hM x List.mem_cons_self) (fun y hy => hi x List.mem_cons_self y (List.mem_append_left _ hy))]
    cases h : met.idxOf? x with
    | some j =>
      have ih := normFrom_shift M f l met (fun z hz y hy => hi z (List.mem_cons_of_mem _ hz) y (by
        rcases List.mem_append.1 hy with hy | hy
        · exact List.mem_append_left _ hy
        · exact List.mem_append_right _ (List.mem_cons_of_mem _ hy))) (fun z hz => hM z (List.mem_cons_of_mem _ hz))
      simp only [Option.map_some, List.map_cons, ih]
      congr 1
    | none =>
      have ih := normFrom_shift M f l (met ++ [x]) (fun z hz y hy => hi z (List.mem_cons_of_mem _ hz) y (by
        rcases List.mem_append.1 hy with hy | hy
        · rcases List.mem_append.1 hy with hy | hy
          · exact List.mem_append_left _ hy
          · rw [List.mem_singleton.1 hy]; exact List.mem_append_right _ List.mem_cons_self
        · exact List.mem_append_right _ (List.mem_cons_of_mem _ hy))) (fun z hz => hM z (List.mem_cons_of_mem _ hz))
      rw [List.map_append, List.map_singleton, ← List.append_assoc] at ih
      simp only [Option.map_none, List.map_cons, ih]
      congr 1
      rw [List.length_append, List.length_map]
      omega
theorem half_met {w : List Int} (hw : isW w = true) : (metBy [] w).length = w.length / 2 := by
  have hn := isW_normal hw
  have h2 : twiceL w = true := by
    unfold isW at hw
    rw [Bool.and_eq_true, Bool.and_eq_true] at hw
    exact hw.2.1
  have hr : ∀ y ∈ w, 0 ≤ y ∧ y < ((metBy [] w).length : Int) := fun y hy => Go.Proofs.Ytbnmjhcokdhjmaa.L.normFrom_range w [] y (by
    have : normFrom [] w = w := hn
    rw [this]; exact hy)
  have hc : ∀ i : Nat, i < (metBy [] w).length → w.count (i : Int) = 2 := fun i hi => by
    have hm : (i : Int) ∈ w := by
      have h5 := Go.Proofs.Ytbnmjhcokdhjmaa.L.normFrom_onto w [] i (by simp) hi
      have : normFrom [] w = w := hn
      rw [this] at h5
      exact h5
    have := List.all_eq_true.mp h2 _ hm
    simpa using this
  have := Go.Proofs.Ytbnmjhcokdhjmaa.L.length_of_counts _ w hr hc
  omega
theorem y_range {w : List Int} (hw : isW w = true) : ∀ x ∈ w, 0 ≤ x ∧ x < ((w.length / 2 : Nat) : Int) := (Go.Proofs.Ytbnmjhcokdhjmaa.L.word_range (by rw [← Go.Proofs.Ytbnmjhcokdhjmaa.L.isW_eq]; exact hw)).2
theorem joL_eq {a b : List Int} (ha : isW a = true) (hb : isW b = true) : joL a b = a ++ b.map fun x => x + ((a.length / 2 : Nat) : Int) := by
  have h1 := y_len ha
  have h2 := y_len hb
  rw [joL]
  congr 1
  refine List.map_congr_left fun x hx => ?_
  have := y_range hb x hx
  exact w64_id (by omega) (by omega)
theorem count_shift (b : List Int) (m x : Int) : (b.map fun y => y + m).count x = b.count (x - m) := by
  rw [List.count, List.countP_map, List.count]
  refine List.countP_congr fun y _ => ?_
  simp only [Function.comp_apply, beq_iff_eq]
  omega
theorem joL_isW {a b : List Int} (ha : isW a = true) (hb : isW b = true) (hl : a.length + b.length ≤ 12) : isW (joL a b) = true := by
  have ra := y_range ha
  have rb := y_range hb
  have hna := isW_normal ha
  have hnb := isW_normal hb
  have hma := half_met ha
  have ta : twiceL a = true := by
    unfold isW at ha
    rw [Bool.and_eq_true, Bool.and_eq_true] at ha
    exact ha.2.1
  have tb : twiceL b = true := by
    unfold isW at hb
    rw [Bool.and_eq_true, Bool.and_eq_true] at hb
    exact hb.2.1
  rw [joL_eq ha hb]
  generalize hm : ((a.length / 2 : Nat) : Int) = m at *
  have hmet : ∀ x ∈ metBy [] a, x < m := fun x hx => by
    have hs : ∀ (l met : List Int), ∀ x ∈ metBy met l, x ∈ met ∨ x ∈ l := by
      intro l
      induction l with
      | nil => intro met x hx; exact .inl (by simpa [metBy] using hx)
      | cons z l ih =>
        intro met x hx
        rw [metBy] at hx
        cases h : met.idxOf? z with
        | some j =>
          rw [h] at hx
          rcases ih met x hx with h1 | h1
          · exact .inl h1
          · exact .inr (List.mem_cons_of_mem _ h1)
        | none =>
          rw [h] at hx
          rcases ih (met ++ [z]) x hx with h1 | h1
          · rcases List.mem_append.1 h1 with h1 | h1
            · exact .inl h1
            · exact .inr (by rw [List.mem_singleton.1 h1]; exact List.mem_cons_self)
          · exact .inr (List.mem_cons_of_mem _ h1)
    rcases hs a [] x hx with h | h
    · cases h
    · exact (ra x h).2
  have hn : normalL (a ++ b.map fun x => x + m) = a ++ b.map fun x => x + m := by
    show normFrom [] _ = _
    rw [normFrom_app]
    have e1 : normFrom [] a = a := hna
    have e2 := normFrom_shift (metBy [] a) (fun x => x + m) b [] (fun x _ y _ e => by have e : y + m = x + m := e; omega) (fun x hx hc => by
      have h1 : x + m < m := hmet _ hc
      have := rb x hx
      omega)
    have e3 : normFrom [] b = b := hnb
    simp only [List.map_nil, List.append_nil] at e2
    rw [e1, e2, e3, hma, hm]
  unfold isW
  rw [hn, decide_eq_true (rfl : (a ++ b.map fun x => x + m) = _), Bool.and_true, Bool.and_eq_true]
  refine ⟨decide_eq_true (by rw [List.length_append, List.length_map]; exact hl), ?_⟩
  unfold twiceL at *
  rw [List.all_eq_true] at *
  intro x hx
  rw [List.count_append, count_shift]
  rcases List.mem_append.1 hx with hx | hx
  · have h1 := ta x hx
    have h2 : b.count (x - m) = 0 := List.count_eq_zero.2 fun h => by
      have := rb _ h
      have := ra x hx
      omega
    rw [h2, Nat.add_zero]; exact h1
  · obtain ⟨y, hy, rfl⟩ := List.mem_map.1 hx
    have h1 := tb y hy
    have h2 : a.count (y + m) = 0 := List.count_eq_zero.2 fun h => by
      have := ra _ h
      have := rb y hy
      omega
    rw [h2, Nat.zero_add, show y + m - m = y by omega]; exact h1
end Go.Proofs.Ytbnmjhcokdhjmaa.V
