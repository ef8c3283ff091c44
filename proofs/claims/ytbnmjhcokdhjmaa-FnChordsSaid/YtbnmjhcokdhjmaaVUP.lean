/- Plain law: chords that are added can be deleted, crossings of joined words, words of some chords. Conditions: words. -/
import Derived.Test.YtbnmjhcokdhjmaaVXA
import Derived.Test.YtbnmjhcokdhjmaaVJW
import Derived.Test.YtbnmjhcokdhjmaaVUw
set_option linter.unusedVariables false
set_option linter.unusedSimpArgs false
namespace Go.Proofs.Ytbnmjhcokdhjmaa.V
open Go
open Go.Proofs.Ytbnmjhcokdhjmaa.K (normalL)
theorem isW_normal {w : List Int} (h : isW w = true) : normalL w = w := by
  unfold isW at h
  rw [Bool.and_eq_true, Bool.and_eq_true] at h
  exact of_decide_eq_true h.2.2
theorem normal_inj {l : List Int} (f : Int → Int) (h : ∀ x ∈ l, ∀ y ∈ l, f x = f y → x = y) : normalL (l.map f) = normalL l :=
  Go.Proofs.Ytbnmjhcokdhjmaa.L.normFrom_map f l [] (fun x hx y hy e => h x (by simpa using hx) y (by simpa using hy) e)
theorem filter_map_inj {l : List Int} {f : Int → Int} {m : Int} (hm : m ∈ l) (h : ∀ x ∈ l, ∀ y ∈ l, f x = f y → x = y) : (l.map f).filter (fun x => !decide (x = f m)) = (l.filter fun x => !decide (x = m)).map f := by
  rw [List.filter_map]
  congr 1
  refine List.filter_congr fun x hx => ?_
  simp only [Function.comp_apply]
  congr 1
  rw [decide_eq_decide]
  exact ⟨h x hx m hm, fun e => by rw [e]⟩
/-- A chord that is added can be deleted. -/
theorem del_add {w : List Int} (hw : isW w = true) {p q : Nat} (hpq : p ≤ q) (hq : q ≤ w.length) : wtL (addL w p q) ((addL w p q).getD p 0) = w := by
  have h9 : (99 : Int) ∉ w := w_notin hw (by have := y_len hw; omega)
  have hmid := take_pq hpq (w := w)
  rw [← hmid] at h9
  obtain ⟨A, B, C, hA, hABC, hL⟩ : ∃ A B C : List Int, A.length = p ∧ w = A ++ B ++ C ∧ addL w p q = normalL (A ++ [99] ++ B ++ [99] ++ C) := ⟨w.take p, (w.take q).drop p, w.drop q, by rw [List.length_take]; omega, hmid.symm, rfl⟩
  rw [hmid, hABC] at h9
  rw [hL, wtL, normalL_gI (A ++ [99] ++ B ++ [99] ++ C)]
  have hinj : ∀ x ∈ A ++ [99] ++ B ++ [99] ++ C, ∀ y ∈ A ++ [99] ++ B ++ [99] ++ C, gI (Go.Proofs.Ytbnmjhcokdhjmaa.K.metBy [] (A ++ [99] ++ B ++ [99] ++ C)) x = gI (Go.Proofs.Ytbnmjhcokdhjmaa.K.metBy [] (A ++ [99] ++ B ++ [99] ++ C)) y → x = y := fun x hx y hy e => gI_inj (mem_metBy _ [] x (.inr hx)) (mem_metBy _ [] y (.inr hy)) e
  generalize gI (Go.Proofs.Ytbnmjhcokdhjmaa.K.metBy [] (A ++ [99] ++ B ++ [99] ++ C)) = g at *
  have hg : ((A ++ [99] ++ B ++ [99] ++ C).map g).getD p 0 = g 99 := by
    rw [List.getD_eq_getElem?_getD, List.getElem?_map, List.append_assoc, List.append_assoc, List.append_assoc, List.getElem?_append_right (by omega), hA, Nat.sub_self]
    rfl
  have hm : (99 : Int) ∈ A ++ [99] ++ B ++ [99] ++ C := by simp
  rw [hg, filter_map_inj hm hinj]
  have hf : (A ++ [99] ++ B ++ [99] ++ C).filter (fun x => !decide (x = 99)) = A ++ B ++ C := by
    have hk : ∀ l : List Int, 99 ∉ l → l.filter (fun x => !decide (x = 99)) = l := fun l hl => List.filter_eq_self.2 fun x hx => by
      have : x ≠ 99 := fun e => hl (e ▸ hx)
      simp [this]
    simp only [List.mem_append, not_or] at h9
    obtain ⟨⟨h1, h2⟩, h3⟩ := h9
    simp only [List.filter_append, hk A h1, hk B h2, hk C h3]
    simp
  rw [hf, normal_inj g (fun x hx y hy e => hinj x (by simp only [List.mem_append] at hx ⊢; simp only [List.mem_singleton]; rcases hx with (h | h) | h <;> simp [h]) y (by simp only [List.mem_append] at hy ⊢; simp only [List.mem_singleton]; rcases hy with (h | h) | h <;> simp [h]) e), ← hABC]
  exact isW_normal hw
/-! ### crossings -/
def cK (w : List Int) (k : Nat) : Int := ((List.range k).map fun i => crI w i k).sum
/-- The number of crossings of the first n chords. -/
def cN (w : List Int) (n : Nat) : Int := ((List.range n).map (cK w)).sum
theorem sum_snoc (l : List Int) (x : Int) : (l ++ [x]).sum = l.sum + x := by rw [List.sum_append]; simp
theorem cN_s (w : List Int) (n : Nat) : cN w (n + 1) = cN w n + cK w n := by rw [cN, List.range_succ, List.map_append, List.map_singleton, sum_snoc]; rfl
def rN (f : Nat → Nat → Int) (m n : Nat) : Int := ((List.range m).map fun i => ((List.range n).map (f i)).sum).sum
theorem rsum_s (f : Nat → Int) (n : Nat) : ((List.range (n + 1)).map f).sum = ((List.range n).map f).sum + f n := by rw [List.range_succ, List.map_append, List.map_singleton, sum_snoc]
theorem rsum_add (f g : Nat → Int) : ∀ n, ((List.range n).map fun i => f i + g i).sum = ((List.range n).map f).sum + ((List.range n).map g).sum
  | 0 => rfl
  | n + 1 => by rw [rsum_s, rsum_s, rsum_s, rsum_add f g n]; omega
theorem rsum_eq {f g : Nat → Int} {n : Nat} (h : ∀ i, i < n → f i = g i) : ((List.range n).map f).sum = ((List.range n).map g).sum := congrArg List.sum (List.map_congr_left fun i hi => h i (List.mem_range.1 hi))
theorem rsum_0 {f : Nat → Int} {n : Nat} (h : ∀ i, i < n → f i = 0) : ((List.range n).map f).sum = 0 := by
  rw [rsum_eq h]
  induction n with
  | zero => rfl
  | succ n ih => rw [rsum_s, ih fun i hi => h i (by omega)]; rfl
theorem crI_symm {w : List Int} (hw : isW w = true) {i k : Nat} (hi : i < w.length / 2) (hk : k < w.length / 2) : crI w i k = crI w k i := by
  unfold crI
  rw [cr_symm (y_two hw (by omega) (by omega)) (y_two hw (by omega) (by omega))]
theorem crI_self (w : List Int) (i : Nat) : crI w i i = 0 := by
  unfold crI crB
  simp
/-- Rows have each crossing twice. -/
theorem rows_two {w : List Int} (hw : isW w = true) : ∀ n, n ≤ w.length / 2 → rN (crI w) n n = 2 * cN w n
  | 0, _ => rfl
  | n + 1, h => by
    have ih := rows_two hw n (by omega)
    have e1 : rN (crI w) (n + 1) (n + 1) = rN (crI w) n n + ((List.range n).map fun i => crI w i n).sum + ((List.range n).map (crI w n)).sum := by
      unfold rN
      rw [rsum_s, rsum_s (crI w n), crI_self, Int.add_zero]
      congr 1
      rw [← rsum_add]
      exact rsum_eq fun i _ => rsum_s (crI w i) n
    have e2 : ((List.range n).map (crI w n)).sum = ((List.range n).map fun i => crI w i n).sum := rsum_eq fun i hi => crI_symm hw (by omega) (by omega)
    rw [e1, e2, ih, cN_s]
    show _ = 2 * (cN w n + ((List.range n).map fun i => crI w i n).sum)
    omega
theorem crI_01 (w : List Int) (i k : Nat) : 0 ≤ crI w i k ∧ crI w i k ≤ 1 := by unfold crI; split <;> omega
theorem cK_le (w : List Int) (k : Nat) : ∀ n, 0 ≤ ((List.range n).map fun i => crI w i k).sum ∧ ((List.range n).map fun i => crI w i k).sum ≤ n
  | 0 => by simp
  | n + 1 => by
    have h1 := cK_le w k n
    have h2 := crI_01 w n k
    rw [rsum_s]
    omega
theorem cN_le (w : List Int) : ∀ n, 0 ≤ cN w n ∧ cN w n ≤ n * n
  | 0 => by simp [cN]
  | n + 1 => by
    have h1 := cN_le w n
    have h2 : 0 ≤ cK w n ∧ cK w n ≤ n := cK_le w n n
    rw [cN_s]
    have : ((n + 1 : Nat) : Int) * ((n + 1 : Nat) : Int) = n * n + 2 * n + 1 := by
      rw [Int.natCast_add, Int.add_mul, Int.mul_add]
      simp; omega
    omega
/-! ### words joined -/
theorem pl_of {w : List Int} {x : Int} {a b : Nat} (hc : w.count x = 2) (hab : a < b) (hb : b < w.length) (h1 : w.getD a 0 = x) (h2 : w.getD b 0 = x) : pl1 w x = a ∧ pl2 w x = b := by
  obtain ⟨a', b', ab, bl, p1, p2, _, _, _, _, only⟩ := pl_two hc
  have e1 := only a (by omega) h1
  have e2 := only b hb h2
  rw [p1, p2]
  omega
end Go.Proofs.Ytbnmjhcokdhjmaa.V
