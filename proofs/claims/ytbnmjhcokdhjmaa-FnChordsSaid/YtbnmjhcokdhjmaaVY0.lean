/- Plain law: parts of crossing rows, found in two ways. Conditions: crossings are mutual. -/
import Derived.Test.YtbnmjhcokdhjmaaVW12
set_option linter.unusedVariables false
set_option linter.unusedSimpArgs false
namespace Go.Proofs.Ytbnmjhcokdhjmaa.V
open Go
/-- Reached from i. -/
inductive Rch (r : Nat → Nat → Bool) (n i : Nat) : Nat → Prop
  | base : Rch r n i i
  | step {a b : Nat} : Rch r n i a → b < n → r a b = true → Rch r n i b
section
variable {r : Nat → Nat → Bool} {n i : Nat}
theorem Rch.trans {a b : Nat} (h : Rch r n i a) (k : Rch r n a b) : Rch r n i b := by
  induction k with
  | base => exact h
  | step _ hb hr ih => exact ih.step hb hr
theorem Rch.lt {a : Nat} (hi : i < n) (h : Rch r n i a) : a < n := by
  cases h with
  | base => exact hi
  | step _ hb _ => exact hb
theorem Rch.symm {a : Nat} (hs : ∀ a b, a < n → b < n → r a b = r b a) (hi : i < n) (h : Rch r n i a) : Rch r n a i := by
  induction h with
  | base => exact .base
  | step h1 hb hr ih =>
    have ha := h1.lt hi
    exact (Rch.step .base ha (by rw [hs _ _ hb ha]; exact hr)).trans ih
end
/-- Met from one of the first ones. -/
def seenP (r : Nat → Nat → Bool) (n m k : Nat) : Prop := ∃ j, j < m ∧ Rch r n j k
open Classical in
/-- A row of truth values. -/
noncomputable def boolL (n : Nat) (q : Nat → Prop) : List Bool := (List.range n).map fun k => decide (q k)
open Classical in
/-- All that are reached from one. -/
noncomputable def compL (r : Nat → Nat → Bool) (n i : Nat) : List Int := ((List.range n).filter fun k => decide (Rch r n i k)).map fun k : Nat => (k : Int)
open Classical in
/-- The parts whose least ones are below m. -/
noncomputable def partsL (r : Nat → Nat → Bool) (n : Nat) : Nat → List (List Int)
  | 0 => []
  | m + 1 => if seenP r n m m then partsL r n m else partsL r n m ++ [compL r n m]
theorem boolL_len (n : Nat) (q : Nat → Prop) : (boolL n q).length = n := by rw [boolL, List.length_map, List.length_range]
theorem boolL_at {n : Nat} {q : Nat → Prop} {k : Nat} (h : k < n) {d : Bool} : (boolL n q).getD k d = true ↔ q k := by
  rw [boolL, List.getD_eq_getElem?_getD, List.getElem?_map, List.getElem?_range h]
  simp
theorem boolL_no {n : Nat} {q : Nat → Prop} {k : Nat} (h : k < n) {d : Bool} : (boolL n q).getD k d = false ↔ ¬ q k := by
  rw [← boolL_at (q := q) h (d := d)]; simp
theorem boolL_eq {n : Nat} {p q : Nat → Prop} (h : ∀ k, k < n → (p k ↔ q k)) : boolL n p = boolL n q := by
  unfold boolL
  refine List.map_congr_left fun k hk => ?_
  rw [decide_eq_decide]
  exact h k (List.mem_range.1 hk)
theorem boolL_set {n : Nat} {q : Nat → Prop} {k : Nat} (h : k < n) : (boolL n q).set k true = boolL n fun j => q j ∨ j = k := by
  unfold boolL
  apply List.ext_getElem?
  intro t
  rw [List.getElem?_set]
  by_cases ht : t < n
  · by_cases e : k = t
    · subst e
      rw [if_pos rfl, if_pos (by simpa using h), List.getElem?_map, List.getElem?_range h]
      simp
    · rw [if_neg e, List.getElem?_map, List.getElem?_map, List.getElem?_range ht]
      simp [Ne.symm e]
  · rw [if_neg (by omega), List.getElem?_eq_none (by simpa using Nat.le_of_not_lt ht), List.getElem?_eq_none (by simpa using Nat.le_of_not_lt ht)]
theorem boolL_none (n : Nat) : List.replicate n false = boolL n fun _ => False := by
  unfold boolL
  apply List.ext_getElem?
  intro t
  by_cases ht : t < n
  · rw [List.getElem?_map, List.getElem?_range ht, List.getElem?_replicate, if_pos ht]; simp
  · rw [List.getElem?_eq_none (by simpa using Nat.le_of_not_lt ht), List.getElem?_eq_none (by simpa using Nat.le_of_not_lt ht)]
section
variable {r : Nat → Nat → Bool} {n : Nat}
theorem seen_s {m k : Nat} : seenP r n (m + 1) k ↔ seenP r n m k ∨ Rch r n m k := by
  constructor
  · rintro ⟨j, hj, h⟩
    by_cases e : j = m
    · subst e; exact .inr h
    · exact .inl ⟨j, by omega, h⟩
  · rintro (⟨j, hj, h⟩ | h)
    · exact ⟨j, by omega, h⟩
    · exact ⟨m, by omega, h⟩
theorem seen_skip {m k : Nat} (h : seenP r n m m) : seenP r n (m + 1) k ↔ seenP r n m k := by
  rw [seen_s]
  refine ⟨fun h2 => h2.elim id fun h2 => ?_, .inl⟩
  obtain ⟨j, hj, h3⟩ := h
  exact ⟨j, hj, h3.trans h2⟩
theorem seen_apart (hs : ∀ a b, a < n → b < n → r a b = r b a) {m k : Nat} (hm : m < n) (h : ¬ seenP r n m m) (hk : Rch r n m k) : ¬ seenP r n m k := by
  rintro ⟨j, hj, h2⟩
  exact h ⟨j, hj, h2.trans (hk.symm hs hm)⟩
/-- Found from i so far. -/
structure Fnd (r : Nat → Nat → Bool) (n i : Nat) (pt : List Nat) : Prop where
  nodup : pt.Nodup
  own : i ∈ pt
  all : ∀ a ∈ pt, Rch r n i a
theorem Fnd.one (i : Nat) : Fnd r n i [i] := ⟨by simp, by simp, fun a ha => by rw [List.mem_singleton.1 ha]; exact .base⟩
theorem Fnd.add {i a b : Nat} {pt : List Nat} (h : Fnd r n i pt) (ha : a ∈ pt) (hb : b < n) (hr : r a b = true) (hn : b ∉ pt) : Fnd r n i (pt ++ [b]) := by
  refine ⟨?_, List.mem_append_left _ h.own, fun c hc => ?_⟩
  · rw [List.nodup_append]
    refine ⟨h.nodup, by simp, fun x hx y hy => ?_⟩
    rw [List.mem_singleton.1 hy]
    rintro rfl
    exact hn hx
  · rcases List.mem_append.1 hc with hc | hc
    · exact h.all c hc
    · rw [List.mem_singleton.1 hc]
      exact (h.all a ha).step hb hr
theorem nodup_le : ∀ (n : Nat) (pt : List Nat), pt.Nodup → (∀ a ∈ pt, a < n) → pt.length ≤ n := by
  intro n pt h1 h2
  have h3 : pt ⊆ List.range n := fun a ha => List.mem_range.2 (h2 a ha)
  have := List.Nodup.length_le_of_subset h1 h3
  simpa using this
theorem Fnd.lt {i : Nat} {pt : List Nat} (h : Fnd r n i pt) (hi : i < n) : ∀ a ∈ pt, a < n := fun a ha => (h.all a ha).lt hi
theorem Fnd.len {i : Nat} {pt : List Nat} (h : Fnd r n i pt) (hi : i < n) : pt.length ≤ n := nodup_le n pt h.nodup (h.lt hi)
/-- All are found, once all of their own are. -/
theorem Fnd.done {i : Nat} {pt : List Nat} (h : Fnd r n i pt) (hc : ∀ a ∈ pt, ∀ b, b < n → r a b = true → b ∈ pt) (k : Nat) : k ∈ pt ↔ Rch r n i k := by
  refine ⟨h.all k, fun hk => ?_⟩
  induction hk with
  | base => exact h.own
  | step _ hb hr ih => exact hc _ ih _ hb hr
end
/-- Numbers in order. -/
def sortI (l : List Int) : List Int := l.mergeSort fun x y => decide (x ≤ y)
theorem sortI_perm (l : List Int) : (sortI l).Perm l := List.mergeSort_perm ..
theorem sortI_up (l : List Int) : (sortI l).Pairwise (· ≤ ·) := by
  have := List.pairwise_mergeSort (le := fun x y : Int => decide (x ≤ y)) (fun a b c h k => by simp at *; omega) (fun a b => by simp; omega) l
  exact this.imp fun h => by simpa using h
theorem up_unique : ∀ {a b : List Int}, a.Pairwise (· ≤ ·) → b.Pairwise (· ≤ ·) → a.Perm b → a = b
  | [], b, _, _, h => by rw [h.nil_eq]
  | x :: a, [], _, _, h => by have := h.length_eq; simp at this
  | x :: a, y :: b, h1, h2, h => by
    obtain ⟨p1, p2⟩ := List.pairwise_cons.1 h1
    obtain ⟨q1, q2⟩ := List.pairwise_cons.1 h2
    have e : x = y := by
      have hx := h.mem_iff.1 (List.mem_cons_self (a := x) (l := a))
      have hy := h.mem_iff.2 (List.mem_cons_self (a := y) (l := b))
      rcases List.mem_cons.1 hx with e | hx
      · exact e
      · rcases List.mem_cons.1 hy with e | hy
        · exact e.symm
        · have := q1 x hx
          have := p1 y hy
          omega
    subst e
    rw [up_unique p2 q2 h.cons_inv]
theorem sortI_eq {a b : List Int} (hb : b.Pairwise (· ≤ ·)) (h : a.Perm b) : sortI a = b := up_unique (sortI_up a) hb ((sortI_perm a).trans h)
theorem compL_up (r : Nat → Nat → Bool) (n i : Nat) : (compL r n i).Pairwise (· ≤ ·) := by
  unfold compL
  rw [List.pairwise_map]
  have h : (List.range n).Pairwise (· < ·) := List.pairwise_lt_range
  exact (List.Pairwise.filter _ h).imp fun h => by omega
theorem comp_sort {r : Nat → Nat → Bool} {n i : Nat} {pt : List Nat} (hi : i < n) (hn : pt.Nodup) (h : ∀ k, k ∈ pt ↔ Rch r n i k) : sortI (pt.map fun k : Nat => (k : Int)) = compL r n i := by
  refine sortI_eq (compL_up r n i) ?_
  unfold compL
  refine List.Perm.map _ ?_
  rw [List.perm_ext_iff_of_nodup hn (List.Pairwise.filter _ List.nodup_range)]
  intro a
  rw [h a, List.mem_filter, List.mem_range]
  simp only [decide_eq_true_eq]
  exact ⟨fun k => ⟨k.lt hi, k⟩, fun k => k.2⟩
end Go.Proofs.Ytbnmjhcokdhjmaa.V
