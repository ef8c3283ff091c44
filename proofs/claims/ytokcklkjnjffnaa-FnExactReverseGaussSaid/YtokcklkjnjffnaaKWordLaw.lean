/- Plain law: what is a word, told by the reference and by the program alike. Conditions: numbers of 64 bits. -/
import Derived.Test.YtokcklkjnjffnaaKWord
import Derived.Test.YtokcklkjnjffnaaKEv
import Derived.Test.YtokcklkjnjffnaaPAx0
import Derived.Test.YtokcklkjnjffnaaPAx1
import Derived.Test.YtokcklkjnjffnaaPAx10
import Derived.Test.YtokcklkjnjffnaaPAx2
import Derived.Test.YtokcklkjnjffnaaPAx3
import Derived.Test.YtokcklkjnjffnaaPAx9
set_option linter.unusedVariables false
set_option linter.unusedSimpArgs false
namespace Go.Proofs.Ytokcklkjnjffnaa.K
open Go.RowKit Go.Proofs.YtokcklkjnjffnaaW.PrintWords Go.Proofs.YtokcklkjnjffnaaW.PrintLast Go.Proofs.YtokcklkjnjffnaaW.PrintMore Go.Proofs.Ytokcklkjnjffnaa.PA

def isWordL (l : List Int) : Bool := decide (l.length ≤ 12) && (twiceL l && decide (normalL l = l))

theorem rd_lt (l : List Int) (i : Nat) (h : i < l.length) : rd l i = l[i] := by
  unfold rd
  rw [Int.toNat_natCast, List.getD_eq_getElem?_getD, List.getElem?_eq_getElem h]
  rfl
theorem take_snoc (l : List Int) (i : Nat) (h : i < l.length) : l.take (i + 1) = l.take i ++ [rd l i] := by
  rw [rd_lt l i h, List.take_succ_eq_append_getElem h]

/-! ### twice -/
theorem twice_l1 (l : List Int) (hl : l.length ≤ 4096) (i : Nat) (hi : i < l.length) (b : Bool) (hb : l.count (rd l i) = 2 → ∃ n, spec_l01Twice.l0 n l ((i : Int) + 1) = some b) (hb2 : l.count (rd l i) ≠ 2 → b = false) (d : Nat) :
    ∀ (j : Nat) (c : Int), l.length - j = d → j ≤ l.length → c = ((l.take j).count (rd l i) : Int) → ∃ n, spec_l01Twice.l1 n l i c j = some b := by
  induction d with
  | zero =>
    intro j c hd hj hc
    rw [List.take_of_length_le (by omega)] at hc
    by_cases h2 : l.count (rd l i) = 2
    · obtain ⟨n, hn⟩ := hb h2
      refine ⟨n + 1, ?_⟩
      simp only [spec_l01Twice.l1]
      rw [if_neg (by omega), if_pos (by omega), wrap_id (by omega) (by omega)]
      exact hn
    · refine ⟨1, ?_⟩
      simp only [spec_l01Twice.l1]
      rw [if_neg (by omega), if_neg (by omega), hb2 h2]
  | succ d ih =>
    intro j c hd hj hc
    have hlt : j < l.length := by omega
    have hcl : (l.take j).count (rd l i) ≤ 4096 := Nat.le_trans List.count_le_length (by rw [List.length_take]; omega)
    by_cases he : rd l j = rd l i
    · obtain ⟨n, hn⟩ := ih (j + 1) (c + 1) (by omega) (by omega) (by rw [take_snoc l j hlt, List.count_append, he]; simp; omega)
      refine ⟨n + 1, ?_⟩
      simp only [spec_l01Twice.l1]
      rw [if_pos (by omega), if_pos (by omega), if_pos (by omega), if_pos (by omega), if_pos he, wrap_id (by omega) (by omega), wrap_id (by omega) (by omega)]
      exact hn
    · obtain ⟨n, hn⟩ := ih (j + 1) c (by omega) (by omega) (by
        have h0 : List.count (rd l i) [rd l j] = 0 := List.count_eq_zero.mpr (by simpa using fun h => he h.symm)
        rw [take_snoc l j hlt, List.count_append, h0]; omega)
      refine ⟨n + 1, ?_⟩
      simp only [spec_l01Twice.l1]
      rw [if_pos (by omega), if_pos (by omega), if_pos (by omega), if_pos (by omega), if_neg he, wrap_id (by omega) (by omega)]
      exact hn
theorem twice_l0 (l : List Int) (hl : l.length ≤ 4096) (d : Nat) : ∀ (i : Nat), l.length - i = d → i ≤ l.length →
    ∃ n, spec_l01Twice.l0 n l i = some ((l.drop i).all fun x => l.count x == 2) := by
  induction d with
  | zero =>
    intro i hd hi
    refine ⟨1, ?_⟩
    simp only [spec_l01Twice.l0]
    rw [if_neg (by omega), List.drop_of_length_le (by omega)]
    rfl
  | succ d ih =>
    intro i hd hi
    have hlt : i < l.length := by omega
    obtain ⟨n, hn⟩ := twice_l1 l hl i hlt ((l.drop i).all fun x => l.count x == 2) (fun h2 => by
      obtain ⟨n, hn⟩ := ih (i + 1) (by omega) (by omega)
      refine ⟨n, ?_⟩
      rw [drop_at l i hlt, List.all_cons, h2]
      simpa using hn) (fun h2 => by rw [drop_at l i hlt, List.all_cons]; simp [h2]) l.length 0 0 (by omega) (by omega) (by simp)
    refine ⟨n + 1, ?_⟩
    simp only [spec_l01Twice.l0]
    rw [if_pos (by omega)]
    exact hn
theorem ev_specTwice (l : List Int) (hl : l.length ≤ 4096) : Ev (fun k => spec_l01Twice.f k l) (twiceL l) := by
  refine ev_of (fun k => spec_l01Twice.mono _ _) ?_
  obtain ⟨n, hn⟩ := twice_l0 l hl l.length 0 (by omega) (by omega)
  exact ⟨n, by simpa [spec_l01Twice.f, twiceL] using hn⟩

/-! ### normal -/
/-- The place at which the reference's inner loop ends: the last one; in a list without doubles it is the only one. -/
theorem normal_l1 (l : List Int) (met out : List Int) (i : Nat) (hi : i < l.length) (hm : met.length ≤ i) (ho : out.length = i) (hl : l.length ≤ 4096) (hnd : met.Nodup) (r : List Int)
    (h1 : ∀ p, met.idxOf? (rd l i) = some p → ∃ n, spec_l01Normal.l0 n l met (out ++ [(p : Int)]) ((i : Int) + 1) = some r)
    (h2 : met.idxOf? (rd l i) = none → ∃ n, spec_l01Normal.l0 n l (met ++ [rd l i]) (out ++ [(met.length : Int)]) ((i : Int) + 1) = some r) (d : Nat) :
    ∀ (j : Nat) (a : Int), met.length - j = d → j ≤ met.length → (a = -1 ∧ ¬ rd l i ∈ met.take j ∨ ∃ p : Nat, a = p ∧ p < j ∧ met.idxOf? (rd l i) = some p) → ∃ n, spec_l01Normal.l1 n l met out i a j = some r := by
  induction d with
  | zero =>
    intro j a hd hj ha
    rcases ha with ⟨ha, hno⟩ | ⟨p, ha, hp, hidx⟩
    · rw [List.take_of_length_le (by omega)] at hno
      obtain ⟨n, hn⟩ := h2 (by simpa [List.idxOf?_eq_none_iff] using hno)
      refine ⟨n + 1, ?_⟩
      simp only [spec_l01Normal.l1]
      rw [if_neg (by omega), if_pos (by omega), if_pos (by omega), if_pos (by omega), if_pos (by omega), if_pos (by omega), wrap_id (by omega) (by omega)]
      exact hn
    · obtain ⟨n, hn⟩ := h1 p hidx
      refine ⟨n + 1, ?_⟩
      simp only [spec_l01Normal.l1]
      rw [if_neg (by omega), if_neg (by omega), if_pos (by omega), wrap_id (by omega) (by omega), ha]
      exact hn
  | succ d ih =>
    intro j a hd hj ha
    have hlt : j < met.length := by clear ha; omega
    have hd1 : met.length - (j + 1) = d := by clear ha; omega
    have hj1 : j + 1 ≤ met.length := by clear ha; omega
    by_cases he : rd met j = rd l i
    · have hget : met[j] = rd l i := by rw [← rd_lt met j hlt, he]
      obtain ⟨n, hn⟩ := ih (j + 1) j hd1 hj1 (Or.inr ⟨j, rfl, Nat.lt_succ_self j, by
        rw [List.idxOf?, List.findIdx?_eq_some_iff_findIdx_eq]
        refine ⟨hlt, ?_⟩
        rw [List.findIdx_eq hlt]
        refine ⟨by simp [hget], fun q hq => ?_⟩
        have : met[q] ≠ met[j] := (List.pairwise_iff_getElem.mp hnd) q j (by omega) hlt hq
        rw [hget] at this
        simpa using this⟩)
      refine ⟨n + 1, ?_⟩
      simp only [spec_l01Normal.l1]
      rw [if_pos (by omega), if_pos (by omega), if_pos (by omega), if_pos (by omega), if_pos he, wrap_id (by omega) (by omega)]
      exact hn
    · obtain ⟨n, hn⟩ := ih (j + 1) a hd1 hj1 (by
        rcases ha with ⟨ha, hno⟩ | ⟨p, ha, hp, hidx⟩
        · refine Or.inl ⟨ha, ?_⟩
          rw [take_snoc met j hlt]
          simp only [List.mem_append, List.mem_singleton, not_or]
          exact ⟨hno, fun h => he h.symm⟩
        · exact Or.inr ⟨p, ha, by omega, hidx⟩)
      refine ⟨n + 1, ?_⟩
      simp only [spec_l01Normal.l1]
      rw [if_pos (by omega), if_pos (by omega), if_pos (by omega), if_pos (by omega), if_neg he, wrap_id (by omega) (by omega)]
      exact hn
theorem normal_l0 (l : List Int) (hl : l.length ≤ 4096) (d : Nat) : ∀ (met out : List Int) (i : Nat), l.length - i = d → i ≤ l.length → met.length ≤ i → out.length = i → met.Nodup →
    ∃ n, spec_l01Normal.l0 n l met out i = some (out ++ normFrom met (l.drop i)) := by
  induction d with
  | zero =>
    intro met out i hd hi hm ho hnd
    refine ⟨1, ?_⟩
    simp only [spec_l01Normal.l0]
    rw [if_neg (by omega), List.drop_of_length_le (by omega), normFrom, List.append_nil]
  | succ d ih =>
    intro met out i hd hi hm ho hnd
    have hlt : i < l.length := by omega
    obtain ⟨n, hn⟩ := normal_l1 l met out i hlt hm ho hl hnd (out ++ normFrom met (l.drop i)) (fun p hp => by
        obtain ⟨n, hn⟩ := ih met (out ++ [(p : Int)]) (i + 1) (by omega) (by omega) (by omega) (by simp; omega) hnd
        refine ⟨n, ?_⟩
        rw [drop_at l i hlt, normFrom, hp]
        simpa using hn) (fun hp => by
        obtain ⟨n, hn⟩ := ih (met ++ [rd l i]) (out ++ [(met.length : Int)]) (i + 1) (by omega) (by omega) (by simp; omega) (by simp; omega) (by
          rw [List.nodup_append]
          refine ⟨hnd, by simp, ?_⟩
          intro a ha b hb e
          obtain rfl : b = rd l i := by simpa using hb
          subst e
          exact (List.idxOf?_eq_none_iff.mp hp) ha)
        refine ⟨n, ?_⟩
        rw [drop_at l i hlt, normFrom, hp]
        simpa using hn) met.length 0 (-1) (by omega) (by omega) (Or.inl ⟨rfl, by simp⟩)
    refine ⟨n + 1, ?_⟩
    simp only [spec_l01Normal.l0]
    rw [if_pos (by omega)]
    exact hn
theorem ev_specNormal (l : List Int) (hl : l.length ≤ 4096) : Ev (fun k => spec_l01Normal.f k l) (normalL l) := by
  refine ev_of (fun k => spec_l01Normal.mono _ _) ?_
  obtain ⟨n, hn⟩ := normal_l0 l hl l.length [] [] 0 (by omega) (by omega) (by simp) rfl (by simp)
  exact ⟨n, by simpa [spec_l01Normal.f, normalL] using hn⟩

/-! ### same -/
theorem same_l0 (a b : List Int) (hl : a.length < 1099511627776) (hab : a.length = b.length) (d : Nat) : ∀ (i : Nat), a.length - i = d → i ≤ a.length →
    ∃ n, spec_l01Same.l0 n a b i = some (decide (a.drop i = b.drop i)) := by
  induction d with
  | zero =>
    intro i hd hi
    refine ⟨1, ?_⟩
    simp only [spec_l01Same.l0]
    rw [if_neg (by omega), List.drop_of_length_le (by omega), List.drop_of_length_le (by omega)]
    rfl
  | succ d ih =>
    intro i hd hi
    have hlt : i < a.length := by omega
    obtain ⟨n, hn⟩ := ih (i + 1) (by omega) (by omega)
    refine ⟨n + 1, ?_⟩
    simp only [spec_l01Same.l0]
    rw [if_pos (by omega), if_pos (by omega), if_pos (by omega), wrap_id (by omega) (by omega), drop_at a i hlt, drop_at b i (by omega)]
    by_cases h : rd a i = rd b i
    · rw [if_pos h]
      refine (show spec_l01Same.l0 n a b ((i : Int) + 1) = _ from hn).trans ?_
      simp [h]
    · rw [if_neg h]
      simp [h]
theorem ev_specSame (a b : List Int) (hl : a.length < 1099511627776) : Ev (fun k => spec_l01Same.f k a b) (decide (a = b)) := by
  refine ev_of (fun k => spec_l01Same.mono _ _ _) ?_
  by_cases h : a.length = b.length
  · obtain ⟨n, hn⟩ := same_l0 a b hl h a.length 0 (by omega) (by omega)
    refine ⟨n, ?_⟩
    unfold spec_l01Same.f
    rw [if_pos (by omega)]
    exact hn
  · refine ⟨0, ?_⟩
    unfold spec_l01Same.f
    rw [if_neg (by omega)]
    have : ¬ a = b := fun e => h (by rw [e])
    simp [this]
theorem equal_l0 (a b : List Int) (hl : a.length < 1099511627776) (hab : a.length = b.length) (d : Nat) : ∀ (i : Nat), a.length - i = d → i ≤ a.length →
    ∃ n, slices_Equal_int64_int64.l0 n a b a.length i = some (decide (a.drop i = b.drop i)) := by
  induction d with
  | zero =>
    intro i hd hi
    refine ⟨1, ?_⟩
    simp only [slices_Equal_int64_int64.l0]
    rw [if_neg (by omega), List.drop_of_length_le (by omega), List.drop_of_length_le (by omega)]
    rfl
  | succ d ih =>
    intro i hd hi
    have hlt : i < a.length := by omega
    obtain ⟨n, hn⟩ := ih (i + 1) (by omega) (by omega)
    refine ⟨n + 1, ?_⟩
    simp only [slices_Equal_int64_int64.l0]
    rw [if_pos (by omega), if_pos (by omega), if_pos (by omega), if_pos (by omega), wrap_id (by omega) (by omega), drop_at a i hlt, drop_at b i (by omega)]
    by_cases h : rd a i = rd b i
    · rw [if_pos h]
      refine (show slices_Equal_int64_int64.l0 n a b a.length ((i : Int) + 1) = _ from hn).trans ?_
      simp [h]
    · rw [if_neg h]
      simp [h]
theorem ev_equal (a b : List Int) (hl : a.length < 1099511627776) : Ev (fun k => slices_Equal_int64_int64.f k a b) (decide (a = b)) := by
  refine ev_of (fun k => slices_Equal_int64_int64.mono _ _ _) ?_
  by_cases h : a.length = b.length
  · obtain ⟨n, hn⟩ := equal_l0 a b hl h a.length 0 (by omega) (by omega)
    refine ⟨n, ?_⟩
    unfold slices_Equal_int64_int64.f
    rw [if_pos (by omega)]
    exact hn
  · refine ⟨0, ?_⟩
    unfold slices_Equal_int64_int64.f
    rw [if_neg (by omega)]
    have : ¬ a = b := fun e => h (by rw [e])
    simp [this]

/-! ### words -/
theorem ev_specIs (l : List Int) : Ev (fun k => spec_l01Is.f k l) (isWordL l) := by
  unfold spec_l01Is.f isWordL
  refine ev_if (fun h => ?_) (fun h => ?_)
  · rw [show decide (l.length ≤ 12) = true from decide_eq_true (by omega), Bool.true_and]
    refine Ev.bind (ev_specTwice l (by omega)) ?_
    refine ev_if (fun ht => ?_) (fun ht => ?_)
    · rw [ht, Bool.true_and]
      refine Ev.bind (ev_specNormal l (by omega)) (Ev.bind (ev_specSame _ _ (by rw [normalL_length]; omega)) (ev_some _))
    · rw [Bool.eq_false_iff.mpr ht, Bool.false_and]
      exact ev_some _
  · rw [show decide (l.length ≤ 12) = false from decide_eq_false (by omega), Bool.false_and]
    exact ev_some _
theorem ev_isWord (l : List Int) (h64 : Ok64 l) : Ev (fun k => impl_IsWord.f k l) (isWordL l) := by
  unfold impl_IsWord.f isWordL
  refine ev_if (fun h => ?_) (fun h => ?_)
  · rw [show decide (l.length ≤ 12) = true from decide_eq_true (by omega), Bool.true_and]
    refine ev_const (show impl_twice.f l = some (twiceL l) by unfold impl_twice.f; rw [if_pos ⟨by omega, h64⟩]) ?_
    refine ev_if (fun ht => ?_) (fun ht => ?_)
    · rw [ht, Bool.true_and]
      refine ev_const (show impl_normal.f l = some (normalL l) by unfold impl_normal.f; rw [if_pos ⟨by omega, h64⟩]) (Ev.bind (ev_equal _ _ (by rw [normalL_length]; omega)) (ev_some _))
    · rw [Bool.eq_false_iff.mpr ht, Bool.false_and]
      exact ev_some _
  · rw [show decide (l.length ≤ 12) = false from decide_eq_false (by omega), Bool.false_and]
    exact ev_some _

/-! ### what a word is -/
/-- The numbers of a word of n chords. -/
structure Word (l : List Int) (n : Nat) : Prop where
  len : l.length = 2 * n
  small : n ≤ 6
  range : ∀ j, j < l.length → 0 ≤ rd l j ∧ rd l j < n
  two : ∀ i, i < n → l.count (i : Int) = 2
theorem normFrom_range (l : List Int) : ∀ met, ∀ y ∈ normFrom met l, 0 ≤ y ∧ y < ((metBy met l).length : Int) := by
  have hmono : ∀ (l : List Int) (met : List Int), met.length ≤ (metBy met l).length := by
    intro l
    induction l with
    | nil => intro met; exact Nat.le_refl _
    | cons x r ih =>
      intro met
      rw [metBy]
      split
      · exact ih met
      · have := ih (met ++ [x])
        simp at this
        omega
  induction l with
  | nil => intro met y hy; simp [normFrom] at hy
  | cons x r ih =>
    intro met y hy
    rw [normFrom] at hy
    rw [metBy]
    cases h : met.idxOf? x with
    | some j =>
      rw [h] at hy
      simp only at hy ⊢
      rcases List.mem_cons.mp hy with rfl | hy
      · have h1 := idxOf?_lt h
        have h2 := hmono r met
        omega
      · exact ih met y hy
    | none =>
      rw [h] at hy
      simp only at hy ⊢
      rcases List.mem_cons.mp hy with rfl | hy
      · have h2 := hmono r (met ++ [x])
        simp at h2
        omega
      · exact ih (met ++ [x]) y hy
theorem normFrom_onto (l : List Int) : ∀ met (k : Nat), met.length ≤ k → k < (metBy met l).length → (k : Int) ∈ normFrom met l := by
  induction l with
  | nil => intro met k h1 h2; simp [metBy] at h2; omega
  | cons x r ih =>
    intro met k h1 h2
    rw [metBy] at h2
    rw [normFrom]
    cases h : met.idxOf? x with
    | some j =>
      rw [h] at h2
      exact List.mem_cons_of_mem _ (ih met k h1 h2)
    | none =>
      rw [h] at h2
      simp only at h2 ⊢
      by_cases e : k = met.length
      · subst e; exact List.mem_cons_self
      · exact List.mem_cons_of_mem _ (ih (met ++ [x]) k (by simp; omega) h2)
/-- A list whose numbers are 0 to n - 1, each twice, has 2 n elements. -/
theorem length_of_counts (n : Nat) : ∀ (l : List Int), (∀ y ∈ l, 0 ≤ y ∧ y < (n : Int)) → (∀ i : Nat, i < n → l.count (i : Int) = 2) → l.length = 2 * n := by
  induction n with
  | zero =>
    intro l h _
    cases l with
    | nil => rfl
    | cons y r =>
      have := h y List.mem_cons_self
      omega
  | succ n ih =>
    intro l h h2
    have h3 := ih (l.filter (fun y => y != (n : Int))) (fun y hy => by
      obtain ⟨hy1, hy2⟩ := List.mem_filter.mp hy
      have := h y hy1
      have : y ≠ (n : Int) := by simpa using hy2
      omega) (fun i hi => by
      rw [List.count_filter (by have : (i : Int) ≠ n := by omega
                                simpa using this)]
      exact h2 i (by omega))
    have h4 : l.length = (l.filter (fun y => y != (n : Int))).length + l.count (n : Int) := by
      clear h h2 h3 ih
      induction l with
      | nil => rfl
      | cons y r ihr =>
        by_cases e : y = (n : Int)
        · subst e; simp; omega
        · have h5 : (y != (n : Int)) = true := by simpa using e
          rw [List.filter_cons, if_pos h5, List.count_cons]
          simp [e]
          omega
    have := h2 n (by omega)
    omega
theorem word_of (l : List Int) (h : isWordL l = true) : ∃ n, Word l n := by
  unfold isWordL at h
  simp only [Bool.and_eq_true, decide_eq_true_eq] at h
  obtain ⟨h12, ht, hn⟩ := h
  have hr : ∀ y ∈ l, 0 ≤ y ∧ y < ((metBy [] l).length : Int) := by
    intro y hy
    exact normFrom_range l [] y (by
      have : normFrom [] l = l := hn
      rw [this]; exact hy)
  have hc : ∀ i : Nat, i < (metBy [] l).length → l.count (i : Int) = 2 := by
    intro i hi
    have hm : (i : Int) ∈ l := by
      have h5 := normFrom_onto l [] i (by simp) hi
      have : normFrom [] l = l := hn
      rw [this] at h5
      exact h5
    have := List.all_eq_true.mp ht _ hm
    simpa using this
  have hlen := length_of_counts _ l hr hc
  exact ⟨_, hlen, by omega, fun j hj => hr _ (rd_mem l j hj), hc⟩

end Go.Proofs.Ytokcklkjnjffnaa.K
