/- How many chords words of some chords have. Conditions: in each. No program. -/
import Derived.Test.YtihfncjpfgdhoaaVC5
import Derived.Test.YtihfncjpfgdhoaaVD1
import Derived.Test.YtihfncjpfgdhoaaVD0
set_option linter.unusedVariables false
set_option linter.unusedSimpArgs false
namespace Go.Proofs.Ytihfncjpfgdhoaa.V
open Go
open Go.Proofs.Ytihfncjpfgdhoaa.K (normFrom normalL metBy idxOf?_lt idxOf?_snoc normFrom_length normalL_length twiceL)
/-! ### how many chords -/
def sumR (f : Nat → Nat) : Nat → Nat
  | 0 => 0
  | n + 1 => sumR f n + f n
theorem sumR_add (f g : Nat → Nat) : ∀ n, sumR (fun j => f j + g j) n = sumR f n + sumR g n
  | 0 => rfl
  | n + 1 => by rw [sumR, sumR, sumR, sumR_add f g n]; omega
theorem sumR_zero {f : Nat → Nat} : ∀ {n : Nat}, (∀ j, j < n → f j = 0) → sumR f n = 0
  | 0, _ => rfl
  | n + 1, h => by rw [sumR, sumR_zero (fun j hj => h j (by omega)), h n (by omega)]
theorem sumR_at {a : Nat} {v : Nat} : ∀ {n : Nat}, a < n → sumR (fun j => if j = a then v else 0) n = v
  | n + 1, h => by
    rw [sumR]
    by_cases e : n = a
    · rw [if_pos e, sumR_zero (fun j hj => by rw [if_neg (by omega)])]; omega
    · rw [if_neg e, sumR_at (by omega)]; omega
theorem sumR_congr {f g : Nat → Nat} : ∀ {n : Nat}, (∀ j, j < n → f j = g j) → sumR f n = sumR g n
  | 0, _ => rfl
  | n + 1, h => by rw [sumR, sumR, sumR_congr (fun j hj => h j (by omega)), h n (by omega)]
theorem filter_len (p : Nat → Bool) (n : Nat) : ∀ (l : List Int), (∀ x ∈ l, 0 ≤ x ∧ x < (n : Int)) → (l.filter fun x => p x.toNat).length = sumR (fun j => if p j = true then l.count (j : Int) else 0) n
  | [], _ => by rw [sumR_zero (fun j _ => by simp)]; rfl
  | x :: l, h => by
    have hx := h x (List.mem_cons_self ..)
    obtain ⟨a, rfl⟩ : ∃ a : Nat, x = a := ⟨x.toNat, by omega⟩
    have ih := filter_len p n l (fun y hy => h y (List.mem_cons_of_mem _ hy))
    have e : sumR (fun j => if p j = true then ((a : Int) :: l).count (j : Int) else 0) n = sumR (fun j => (if p j = true then l.count (j : Int) else 0) + (if j = a then (if p a = true then 1 else 0) else 0)) n := by
      refine sumR_congr fun j hj => ?_
      rw [List.count_cons]
      by_cases e : j = a
      · subst e; split <;> simp
      · have : ¬ ((a : Int) == (j : Int)) = true := by simp; omega
        rw [if_neg e, if_neg this]
        split <;> rfl
    rw [e, sumR_add, sumR_at (by omega), ← ih, List.filter_cons]
    rw [Int.toNat_natCast]
    split
    · rfl
    · rfl
theorem sumR_two (p : Nat → Bool) : ∀ n, sumR (fun j => if p j = true then 2 else 0) n = 2 * sumR (fun j => if p j = true then 1 else 0) n
  | 0 => rfl
  | n + 1 => by rw [sumR, sumR, sumR_two p n]; split <;> omega
theorem sumR_not (p : Nat → Bool) : ∀ n, sumR (fun j => if p j = true then 1 else 0) n + sumR (fun j => if (!p j) = true then 1 else 0) n = n
  | 0 => rfl
  | n + 1 => by
    have := sumR_not p n
    rw [sumR, sumR]
    by_cases h : p n = true
    · rw [if_pos h, if_neg (by rw [h]; decide)]; omega
    · rw [if_neg h, if_pos (by simpa using h)]; omega
theorem some_len {w : List Int} {n : Nat} (hw : Go.Proofs.Ytihfncjpfgdhoaa.L.Word w n) (hr : ∀ x ∈ w, 0 ≤ x ∧ x < (n : Int)) (p : Nat → Bool) : (normalL (w.filter fun x => p x.toNat)).length = 2 * sumR (fun j => if p j = true then 1 else 0) n := by
  rw [normalL_length, filter_len p n w hr, ← sumR_two]
  exact sumR_congr fun j hj => by rw [hw.two j hj]
theorem pop_sum (c : Nat) : ∀ n, popTo n c = sumR (fun j => if bitB c j = true then 1 else 0) n
  | 0 => rfl
  | n + 1 => by
    rw [popTo, sumR, pop_sum c n]
    congr 1
    have : bit c n < 2 := Nat.mod_lt _ (by omega)
    unfold bitB
    by_cases h : bit c n = 1
    · rw [decide_eq_true h, if_pos rfl]; exact h
    · rw [decide_eq_false h, if_neg (by decide)]; omega
/-! ### words of the chords that a code chooses -/
def kw (w : List Int) (c : Nat) : List Int := normalL (w.filter fun x => bitB c x.toNat)
def kr (w : List Int) (c : Nat) : List Int := normalL (w.filter fun x => !bitB c x.toNat)
theorem kw_len {w : List Int} {n c : Nat} (hw : Go.Proofs.Ytihfncjpfgdhoaa.L.Word w n) (hr : ∀ x ∈ w, 0 ≤ x ∧ x < (n : Int)) : (kw w c).length = 2 * popTo n c := by rw [kw, some_len hw hr, pop_sum]
theorem kr_len {w : List Int} {n c : Nat} (hw : Go.Proofs.Ytihfncjpfgdhoaa.L.Word w n) (hr : ∀ x ∈ w, 0 ≤ x ∧ x < (n : Int)) : popTo n c + (kr w c).length / 2 = n := by
  rw [kr, some_len hw hr (fun j => !bitB c j), pop_sum]
  have := sumR_not (bitB c) n
  omega
theorem bit_flip : ∀ n, n < 7 → ∀ c, c < 64 → c < 2 ^ n → ∀ j, j < 7 → j < n → bitB (2 ^ n - 1 - c) j = !bitB c j := by decide +kernel
/-- Where the free weight of a choice goes. -/
def frC (w : List Int) (c : Nat) : Nat := min (popTo (w.length / 2) c + circ (kr w c) (fun _ => false) - 1) (w.length / 2 + 1)
def frW (w : List Int) (c : Nat) : List Int := accL (w.length / 2 + 2) (frC w) sgn2 c
theorem frC_eq {w : List Int} {n c : Nat} (hw : isW w = true) (hn : Go.Proofs.Ytihfncjpfgdhoaa.L.Word w n) (hr : ∀ x ∈ w, 0 ≤ x ∧ x < (n : Int)) : frC w c = popTo n c + circ (kr w c) (fun _ => false) - 1 ∧ frC w c ≤ n := by
  have hl := hn.len
  have e : w.length / 2 = n := by omega
  have h1 : isW (kr w c) = true := filter_isW _ hw
  obtain ⟨m, hm⟩ := Go.Proofs.Ytihfncjpfgdhoaa.L.word_of (kr w c) h1
  have h2 := circ_le hm (fun _ => false)
  have h3 := hm.len
  have h4 := kr_len (c := c) hn hr
  have h5 := circ_pos (kr w c) (fun _ => false)
  unfold frC
  rw [e]
  omega
end Go.Proofs.Ytihfncjpfgdhoaa.V
