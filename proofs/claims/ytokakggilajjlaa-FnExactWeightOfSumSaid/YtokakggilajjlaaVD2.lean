/- Words of some chords of a word are words; how many chords they have. Conditions: in each. No program. -/
import Derived.Test.YtokakggilajjlaaVC5
import Derived.Test.YtokakggilajjlaaVD1
set_option linter.unusedVariables false
set_option linter.unusedSimpArgs false
namespace Go.Proofs.Ytokakggilajjlaa.V
open Go
open Go.Proofs.Ytokakggilajjlaa.K (normFrom normalL metBy idxOf?_lt idxOf?_snoc normFrom_length normalL_length twiceL)
theorem idx_keep (l : List Int) : ∀ (met : List Int) (x : Int), x ∈ met → (metBy met l).idxOf? x = met.idxOf? x := by
  induction l with
  | nil => intro met x _; rfl
  | cons y r ih =>
    intro met x hx
    rw [metBy]
    cases h : met.idxOf? y with
    | some j => exact ih met x hx
    | none =>
      show (metBy (met ++ [y]) r).idxOf? x = _
      rw [ih (met ++ [y]) x (List.mem_append_left _ hx), idxOf?_snoc met y x h, if_neg]
      intro e
      have : y ∉ met := by simpa [List.idxOf?_eq_none_iff] using h
      exact this (e ▸ hx)
theorem mem_metBy (l : List Int) : ∀ (met : List Int) (x : Int), x ∈ met ∨ x ∈ l → x ∈ metBy met l := by
  induction l with
  | nil => intro met x h; simpa [metBy] using h
  | cons y r ih =>
    intro met x h
    rw [metBy]
    cases hy : met.idxOf? y with
    | some j =>
      refine ih met x ?_
      rcases h with h | h
      · exact .inl h
      · rcases List.mem_cons.1 h with e | h
        · subst e
          exact .inl (Decidable.byContradiction fun hn => by
            rw [List.idxOf?_eq_none_iff.2 hn] at hy; cases hy)
        · exact .inr h
    | none =>
      refine ih (met ++ [y]) x ?_
      rcases h with h | h
      · exact .inl (List.mem_append_left _ h)
      · rcases List.mem_cons.1 h with e | h
        · exact .inl (List.mem_append_right _ (by simp [e]))
        · exact .inr h
def gI (m : List Int) (x : Int) : Int := (((m.idxOf? x).getD 0 : Nat) : Int)
theorem normFrom_map' (l : List Int) : ∀ met : List Int, normFrom met l = l.map (gI (metBy met l)) := by
  induction l with
  | nil => intro met; rfl
  | cons x r ih =>
    intro met
    rw [normFrom, metBy]
    cases h : met.idxOf? x with
    | some j =>
      have hx : x ∈ met := Decidable.byContradiction fun hn => by rw [List.idxOf?_eq_none_iff.2 hn] at h; cases h
      show (j : Int) :: normFrom met r = gI (metBy met r) x :: r.map (gI (metBy met r))
      rw [ih met, gI, idx_keep r met x hx, h]; rfl
    | none =>
      show (met.length : Int) :: normFrom (met ++ [x]) r = gI (metBy (met ++ [x]) r) x :: r.map (gI (metBy (met ++ [x]) r))
      rw [ih (met ++ [x]), gI, idx_keep r (met ++ [x]) x (by simp), idxOf?_snoc met x x h, if_pos rfl]; rfl
theorem idx_some {m : List Int} {x : Int} (h : x ∈ m) : ∃ i, m.idxOf? x = some i ∧ m[i]? = some x := by
  cases hx : m.idxOf? x with
  | none => rw [List.idxOf?_eq_none_iff] at hx; exact absurd h hx
  | some i =>
    rw [List.idxOf?, List.findIdx?_eq_some_iff_getElem] at hx
    obtain ⟨h1, h2, _⟩ := hx
    exact ⟨i, rfl, by rw [List.getElem?_eq_getElem h1]; simpa using h2⟩
theorem gI_inj {m : List Int} {x y : Int} (hx : x ∈ m) (hy : y ∈ m) (h : gI m x = gI m y) : x = y := by
  obtain ⟨i, h1, h2⟩ := idx_some hx
  obtain ⟨j, h3, h4⟩ := idx_some hy
  unfold gI at h
  rw [h1, h3] at h
  have : i = j := by
    have h : ((i : Nat) : Int) = ((j : Nat) : Int) := h
    omega
  subst this
  rw [h2] at h4
  injection h4
theorem normalL_gI (l : List Int) : normalL l = l.map (gI (metBy [] l)) := normFrom_map' l []
theorem normal_idem (l : List Int) : normalL (normalL l) = normalL l := by
  have h := Go.Proofs.Ytokakggilajjlaa.L.normFrom_map (gI (metBy [] l)) l [] (fun x hx y hy e => gI_inj (mem_metBy l [] x (.inr (by simpa using hx))) (mem_metBy l [] y (.inr (by simpa using hy))) e)
  rw [← normalL_gI] at h
  exact h
theorem count_gI {l : List Int} {x : Int} (hx : x ∈ l) : (l.map (gI (metBy [] l))).count (gI (metBy [] l) x) = l.count x := by
  rw [List.count, List.countP_map, List.count]
  refine List.countP_congr fun y hy => ?_
  simp only [Function.comp_apply, beq_iff_eq]
  exact ⟨fun e => gI_inj (mem_metBy l [] y (.inr hy)) (mem_metBy l [] x (.inr hx)) e, fun e => by rw [e]⟩
theorem normal_isW {l : List Int} (hl : l.length ≤ 12) (ht : twiceL l = true) : isW (normalL l) = true := by
  unfold isW
  rw [normalL_length, decide_eq_true hl, normal_idem, decide_eq_true (rfl : normalL l = normalL l), Bool.true_and, Bool.and_true]
  unfold twiceL at ht ⊢
  rw [List.all_eq_true] at ht ⊢
  intro y hy
  rw [normalL_gI] at hy ⊢
  obtain ⟨x, hx, rfl⟩ := List.mem_map.1 hy
  rw [count_gI hx]
  exact ht x hx
theorem twice_filter {l : List Int} (p : Int → Bool) (ht : twiceL l = true) : twiceL (l.filter p) = true := by
  unfold twiceL at ht ⊢
  rw [List.all_eq_true] at ht ⊢
  intro y hy
  obtain ⟨h1, h2⟩ := List.mem_filter.1 hy
  rw [List.count_filter h2]
  exact ht y h1
theorem filter_isW {w : List Int} (p : Int → Bool) (hw : isW w = true) : isW (normalL (w.filter p)) = true := by
  unfold isW at hw
  rw [Bool.and_eq_true, Bool.and_eq_true] at hw
  exact normal_isW (Nat.le_trans (List.length_filter_le _ _) (of_decide_eq_true hw.1)) (twice_filter p hw.2.1)
/-! ### how many chords -/
def sumR (f : Nat → Nat) : Nat → Nat
  | 0 => 0
  | n + 1 => sumR f n + f n
theorem sumR_add (f g : Nat → Nat) : ∀ n, sumR (fun j => f j + g j) n = sumR f n + sumR g n
  | 0 => rfl
  | n + 1 => by rw [sumR, sumR, sumR, sumR_add f g n]; omega
theorem sumR_zero {f : Nat → Nat} : ∀ {n : Nat}, (∀ j, j < n → f j = 0) → sumR f n = 0
  | 0, _ => rfl
  | n + 1, h => by rw [sumR, sumR_zero (fun j hj => h j (by omega)), h n (by omega)]
theorem sumR_at {a : Nat} {v : Nat} : ∀ {n : Nat}, a < n → sumR (fun j => if j = a then v else 0) n = v
  | n + 1, h => by
    rw [sumR]
    by_cases e : n = a
    · rw [if_pos e, sumR_zero (fun j hj => by rw [if_neg (by omega)])]; omega
    · rw [if_neg e, sumR_at (by omega)]; omega
theorem sumR_congr {f g : Nat → Nat} : ∀ {n : Nat}, (∀ j, j < n → f j = g j) → sumR f n = sumR g n
  | 0, _ => rfl
  | n + 1, h => by rw [sumR, sumR, sumR_congr (fun j hj => h j (by omega)), h n (by omega)]
theorem filter_len (p : Nat → Bool) (n : Nat) : ∀ (l : List Int), (∀ x ∈ l, 0 ≤ x ∧ x < (n : Int)) → (l.filter fun x => p x.toNat).length = sumR (fun j => if p j = true then l.count (j : Int) else 0) n
  | [], _ => by rw [sumR_zero (fun j _ => by simp)]; rfl
  | x :: l, h => by
    have hx := h x (List.mem_cons_self ..)
    obtain ⟨a, rfl⟩ : ∃ a : Nat, x = a := ⟨x.toNat, by omega⟩
    have ih := filter_len p n l (fun y hy => h y (List.mem_cons_of_mem _ hy))
    have e : sumR (fun j => if p j = true then ((a : Int) :: l).count (j : Int) else 0) n = sumR (fun j => (if p j = true then l.count (j : Int) else 0) + (if j = a then (if p a = true then 1 else 0) else 0)) n := by
      refine sumR_congr fun j hj => ?_
      rw [List.count_cons]
      by_cases e : j = a
      · subst e; split <;> simp
      · have : ¬ ((a : Int) == (j : Int)) = true := by simp; omega
        rw [if_neg e, if_neg this]
        split <;> rfl
    rw [e, sumR_add, sumR_at (by omega), ← ih, List.filter_cons]
    rw [Int.toNat_natCast]
    split
    · rfl
    · rfl
theorem sumR_two (p : Nat → Bool) : ∀ n, sumR (fun j => if p j = true then 2 else 0) n = 2 * sumR (fun j => if p j = true then 1 else 0) n
  | 0 => rfl
  | n + 1 => by rw [sumR, sumR, sumR_two p n]; split <;> omega
theorem sumR_not (p : Nat → Bool) : ∀ n, sumR (fun j => if p j = true then 1 else 0) n + sumR (fun j => if (!p j) = true then 1 else 0) n = n
  | 0 => rfl
  | n + 1 => by
    have := sumR_not p n
    rw [sumR, sumR]
    by_cases h : p n = true
    · rw [if_pos h, if_neg (by rw [h]; decide)]; omega
    · rw [if_neg h, if_pos (by simpa using h)]; omega
theorem some_len {w : List Int} {n : Nat} (hw : Go.Proofs.Ytokakggilajjlaa.L.Word w n) (hr : ∀ x ∈ w, 0 ≤ x ∧ x < (n : Int)) (p : Nat → Bool) : (normalL (w.filter fun x => p x.toNat)).length = 2 * sumR (fun j => if p j = true then 1 else 0) n := by
  rw [normalL_length, filter_len p n w hr, ← sumR_two]
  exact sumR_congr fun j hj => by rw [hw.two j hj]
theorem pop_sum (c : Nat) : ∀ n, popTo n c = sumR (fun j => if bitB c j = true then 1 else 0) n
  | 0 => rfl
  | n + 1 => by
    rw [popTo, sumR, pop_sum c n]
    congr 1
    have : bit c n < 2 := Nat.mod_lt _ (by omega)
    unfold bitB
    by_cases h : bit c n = 1
    · rw [decide_eq_true h, if_pos rfl]; exact h
    · rw [decide_eq_false h, if_neg (by decide)]; omega
/-! ### words of the chords that a code chooses -/
def kw (w : List Int) (c : Nat) : List Int := normalL (w.filter fun x => bitB c x.toNat)
def kr (w : List Int) (c : Nat) : List Int := normalL (w.filter fun x => !bitB c x.toNat)
theorem kw_len {w : List Int} {n c : Nat} (hw : Go.Proofs.Ytokakggilajjlaa.L.Word w n) (hr : ∀ x ∈ w, 0 ≤ x ∧ x < (n : Int)) : (kw w c).length = 2 * popTo n c := by rw [kw, some_len hw hr, pop_sum]
theorem kr_len {w : List Int} {n c : Nat} (hw : Go.Proofs.Ytokakggilajjlaa.L.Word w n) (hr : ∀ x ∈ w, 0 ≤ x ∧ x < (n : Int)) : popTo n c + (kr w c).length / 2 = n := by
  rw [kr, some_len hw hr (fun j => !bitB c j), pop_sum]
  have := sumR_not (bitB c) n
  omega
theorem bit_flip : ∀ n, n < 7 → ∀ c, c < 64 → c < 2 ^ n → ∀ j, j < 7 → j < n → bitB (2 ^ n - 1 - c) j = !bitB c j := by decide +kernel
/-- Where the free weight of a choice goes. -/
def frC (w : List Int) (c : Nat) : Nat := min (popTo (w.length / 2) c + circ (kr w c) (fun _ => false) - 1) (w.length / 2 + 1)
def frW (w : List Int) (c : Nat) : List Int := accL (w.length / 2 + 2) (frC w) sgn2 c
theorem frC_eq {w : List Int} {n c : Nat} (hw : isW w = true) (hn : Go.Proofs.Ytokakggilajjlaa.L.Word w n) (hr : ∀ x ∈ w, 0 ≤ x ∧ x < (n : Int)) : frC w c = popTo n c + circ (kr w c) (fun _ => false) - 1 ∧ frC w c ≤ n := by
  have hl := hn.len
  have e : w.length / 2 = n := by omega
  have h1 : isW (kr w c) = true := filter_isW _ hw
  obtain ⟨m, hm⟩ := Go.Proofs.Ytokakggilajjlaa.L.word_of (kr w c) h1
  have h2 := circ_le hm (fun _ => false)
  have h3 := hm.len
  have h4 := kr_len (c := c) hn hr
  have h5 := circ_pos (kr w c) (fun _ => false)
  unfold frC
  rw [e]
  omega
end Go.Proofs.Ytokakggilajjlaa.V
