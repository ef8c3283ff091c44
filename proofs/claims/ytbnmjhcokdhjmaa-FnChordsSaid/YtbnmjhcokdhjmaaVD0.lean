/- Words of some chords of a word are words. Conditions: in each. No program. -/
import Derived.Test.YtbnmjhcokdhjmaaVW2
import Derived.Test.YtbnmjhcokdhjmaaVL
set_option linter.unusedVariables false
set_option linter.unusedSimpArgs false
namespace Go.Proofs.Ytbnmjhcokdhjmaa.V
open Go
open Go.Proofs.Ytbnmjhcokdhjmaa.K (normFrom normalL metBy idxOf?_lt idxOf?_snoc normFrom_length normalL_length twiceL)
theorem idx_keep (l : List Int) : ∀ (met : List Int) (x : Int), x ∈ met → (metBy met l).idxOf? x = met.idxOf? x := by
  induction l with
  | nil => intro met x _; rfl
  | cons y r ih =>
    intro met x hx
    rw [metBy]
    cases h : met.idxOf? y with
    | some j => exact ih met x hx
    | none =>
      show (metBy (met ++ [y]) r).idxOf? x = _
      rw [ih (met ++ [y]) x (List.mem_append_left _ hx), idxOf?_snoc met y x h, if_neg]
      intro e
      have : y ∉ met := by simpa [List.idxOf?_eq_none_iff] using h
      exact this (e ▸ hx)
theorem mem_metBy (l : List Int) : ∀ (met : List Int) (x : Int), x ∈ met ∨ x ∈ l → x ∈ metBy met l := by
  induction l with
  | nil => intro met x h; simpa [metBy] using h
  | cons y r ih =>
    intro met x h
    rw [metBy]
    cases hy : met.idxOf? y with
    | some j =>
      refine ih met x ?_
      rcases h with h | h
      · exact .inl h
      · rcases List.mem_cons.1 h with e | h
        · subst e
          exact .inl (Decidable.byContradiction fun hn => by
            rw [List.idxOf?_eq_none_iff.2 hn] at hy; cases hy)
        · exact .inr h
    | none =>
      refine ih (met ++ [y]) x ?_
      rcases h with h | h
      · exact .inl (List.mem_append_left _ h)
      · rcases List.mem_cons.1 h with e | h
        · exact .inl (List.mem_append_right _ (by simp [e]))
        · exact .inr h
def gI (m : List Int) (x : Int) : Int := (((m.idxOf? x).getD 0 : Nat) : Int)
theorem normFrom_map' (l : List Int) : ∀ met : List Int, normFrom met l = l.map (gI (metBy met l)) := by
  induction l with
  | nil => intro met; rfl
  | cons x r ih =>
    intro met
    rw [normFrom, metBy]
    cases h : met.idxOf? x with
    | some j =>
      have hx : x ∈ met := Decidable.byContradiction fun hn => by rw [List.idxOf?_eq_none_iff.2 hn] at h; cases h
      show (j : Int) :: normFrom met r = gI (metBy met r) x :: r.map (gI (metBy met r))
      rw [ih met, gI, idx_keep r met x hx, h]; rfl
    | none =>
      show (met.length : Int) :: normFrom (met ++ [x]) r = gI (metBy (met ++ [x]) r) x :: r.map (gI (metBy (met ++ [x]) r))
      rw [ih (met ++ [x]), gI, idx_keep r (met ++ [x]) x (by simp), idxOf?_snoc met x x h, if_pos rfl]; rfl
theorem idx_some {m : List Int} {x : Int} (h : x ∈ m) : ∃ i, m.idxOf? x = some i ∧ m[i]? = some x := by
  cases hx : m.idxOf? x with
  | none => rw [List.idxOf?_eq_none_iff] at hx; exact absurd h hx
  | some i =>
    rw [List.idxOf?, List.findIdx?_eq_some_iff_getElem] at hx
    obtain ⟨h1, h2, _⟩ := hx
    exact ⟨i, rfl, by rw [List.getElem?_eq_getElem h1]; simpa using h2⟩
theorem gI_inj {m : List Int} {x y : Int} (hx : x ∈ m) (hy : y ∈ m) (h : gI m x = gI m y) : x = y := by
  obtain ⟨i, h1, h2⟩ := idx_some hx
  obtain ⟨j, h3, h4⟩ := idx_some hy
  unfold gI at h
  rw [h1, h3] at h
  have : i = j := by
    have h : ((i : Nat) : Int) = ((j : Nat) : Int) := h
    omega
  subst this
  rw [h2] at h4
  injection h4
theorem normalL_gI (l : List Int) : normalL l = l.map (gI (metBy [] l)) := normFrom_map' l []
theorem normal_idem (l : List Int) : normalL (normalL l) = normalL l := by
  have h := Go.Proofs.Ytbnmjhcokdhjmaa.L.normFrom_map (gI (metBy [] l)) l [] (fun x hx y hy e => gI_inj (mem_metBy l [] x (.inr (by simpa using hx))) (mem_metBy l [] y (.inr (by simpa using hy))) e)
  rw [← normalL_gI] at h
  exact h
theorem count_gI {l : List Int} {x : Int} (hx : x ∈ l) : (l.map (gI (metBy [] l))).count (gI (metBy [] l) x) = l.count x := by
  rw [List.count, List.countP_map, List.count]
  refine List.countP_congr fun y hy => ?_
  simp only [Function.comp_apply, beq_iff_eq]
  exact ⟨fun e => gI_inj (mem_metBy l [] y (.inr hy)) (mem_metBy l [] x (.inr hx)) e, fun e => by rw [e]⟩
theorem normal_isW {l : List Int} (hl : l.length ≤ 12) (ht : twiceL l = true) : isW (normalL l) = true := by
  unfold isW
  rw [normalL_length, decide_eq_true hl, normal_idem, decide_eq_true (rfl : normalL l = normalL l), Bool.true_and, Bool.and_true]
  unfold twiceL at ht ⊢
  rw [List.all_eq_true] at ht ⊢
  intro y hy
  rw [normalL_gI] at hy ⊢
  obtain ⟨x, hx, rfl⟩ := List.mem_map.1 hy
  rw [count_gI hx]
  exact ht x hx
theorem twice_filter {l : List Int} (p : Int → Bool) (ht : twiceL l = true) : twiceL (l.filter p) = true := by
  unfold twiceL at ht ⊢
  rw [List.all_eq_true] at ht ⊢
  intro y hy
  obtain ⟨h1, h2⟩ := List.mem_filter.1 hy
  rw [List.count_filter h2]
  exact ht y h1
theorem filter_isW {w : List Int} (p : Int → Bool) (hw : isW w = true) : isW (normalL (w.filter p)) = true := by
  unfold isW at hw
  rw [Bool.and_eq_true, Bool.and_eq_true] at hw
  exact normal_isW (Nat.le_trans (List.length_filter_le _ _) (of_decide_eq_true hw.1)) (twice_filter p hw.2.1)
end Go.Proofs.Ytbnmjhcokdhjmaa.V
