/- Packed texts of this session's: KWordLaw, KSlices, KGauss, KRenum, PAx9, PAx10, PAx7, PEx0, PEx2, KGaussLaw, PAx14. Conditions: in each. -/
import Derived.Test.YtihfncjpfgdhoaaProg
import Derived.Test.YtihfncjpfgdhoaaZe0
set_option linter.unusedVariables false
set_option linter.unusedSimpArgs false
set_option linter.unusedSectionVars false
section
namespace Go.Proofs.Ytihfncjpfgdhoaa.K
open Go.RowKit Go.Proofs.YtihfncjpfgdhoaaW.PrintWords Go.Proofs.YtihfncjpfgdhoaaW.PrintLast Go.Proofs.YtihfncjpfgdhoaaW.PrintMore Go.Proofs.Ytihfncjpfgdhoaa.PA
def isWordL (l : List Int) : Bool := decide (l.length ≤ 12) && (twiceL l && decide (normalL l = l))
theorem rd_lt (l : List Int) (i : Nat) (h : i < l.length) : rd l i = l[i] := by
  unfold rd
  rw [Int.toNat_natCast, List.getD_eq_getElem?_getD, List.getElem?_eq_getElem h]
  rfl
theorem take_snoc (l : List Int) (i : Nat) (h : i < l.length) : l.take (i + 1) = l.take i ++ [rd l i] := by
  rw [rd_lt l i h, List.take_succ_eq_append_getElem h]
theorem twice_l1 (l : List Int) (hl : l.length ≤ 4096) (i : Nat) (hi : i < l.length) (b : Bool) (hb : l.count (rd l i) = 2 → ∃ n, spec_l01Twice.l0 n l ((i : Int) + 1) = some b) (hb2 : l.count (rd l i) ≠ 2 → b = false) (d : Nat) :
    ∀ (j : Nat) (c : Int), l.length - j = d → j ≤ l.length → c = ((l.take j).count (rd l i) : Int) → ∃ n, spec_l01Twice.l1 n l i c j = some b := by
  induction d with
  | zero =>
    intro j c hd hj hc
    rw [List.take_of_length_le (by omega)] at hc
    by_cases h2 : l.count (rd l i) = 2
    · obtain ⟨n, hn⟩ := hb h2
      refine ⟨n + 1, ?_⟩
      simp only [spec_l01Twice.l1]
      rw [if_neg (by omega), if_pos (by omega), wrap_id (by omega) (by omega)]
      exact hn
    · refine ⟨1, ?_⟩
      simp only [spec_l01Twice.l1]
      rw [if_neg (by omega), if_neg (by omega), hb2 h2]
  | succ d ih =>
    intro j c hd hj hc
    have hlt : j < l.length := by omega
    have hcl : (l.take j).count (rd l i) ≤ 4096 := Nat.le_trans List.count_le_length (by rw [List.length_take]; omega)
    by_cases he : rd l j = rd l i
    · obtain ⟨n, hn⟩ := ih (j + 1) (c + 1) (by omega) (by omega) (by rw [take_snoc l j hlt, List.count_append, he]; simp; omega)
      refine ⟨n + 1, ?_⟩
      simp only [spec_l01Twice.l1]
      rw [if_pos (by omega), if_pos (by omega), if_pos (by omega), if_pos (by omega), if_pos he, wrap_id (by omega) (by omega), wrap_id (by omega) (by omega)]
      exact hn
    · obtain ⟨n, hn⟩ := ih (j + 1) c (by omega) (by omega) (by
        have h0 : List.count (rd l i) [rd l j] = 0 := List.count_eq_zero.mpr (by simpa using fun h => he h.symm)
        rw [take_snoc l j hlt, List.count_append, h0]; omega)
      refine ⟨n + 1, ?_⟩
      simp only [spec_l01Twice.l1]
      rw [if_pos (by omega), if_pos (by omega), if_pos (by omega), if_pos (by omega), if_neg he, wrap_id (by omega) (by omega)]
      exact hn
theorem twice_l0 (l : List Int) (hl : l.length ≤ 4096) (d : Nat) : ∀ (i : Nat), l.length - i = d → i ≤ l.length →
    ∃ n, spec_l01Twice.l0 n l i = some ((l.drop i).all fun x => l.count x == 2) := by
  induction d with
  | zero =>
    intro i hd hi
    refine ⟨1, ?_⟩
    simp only [spec_l01Twice.l0]
    rw [if_neg (by omega), List.drop_of_length_le (by omega)]
    rfl
  | succ d ih =>
    intro i hd hi
    have hlt : i < l.length := by omega
    obtain ⟨n, hn⟩ := twice_l1 l hl i hlt ((l.drop i).all fun x => l.count x == 2) (fun h2 => by
      obtain ⟨n, hn⟩ := ih (i + 1) (by omega) (by omega)
      refine ⟨n, ?_⟩
      rw [drop_at l i hlt, List.all_cons, h2]
      simpa using hn) (fun h2 => by rw [drop_at l i hlt, List.all_cons]; simp [h2]) l.length 0 0 (by omega) (by omega) (by simp)
    refine ⟨n + 1, ?_⟩
    simp only [spec_l01Twice.l0]
    rw [if_pos (by omega)]
    exact hn
theorem ev_specTwice (l : List Int) (hl : l.length ≤ 4096) : Ev (fun k => spec_l01Twice.f k l) (twiceL l) := by
  refine ev_of (fun k => spec_l01Twice.mono _ _) ?_
  obtain ⟨n, hn⟩ := twice_l0 l hl l.length 0 (by omega) (by omega)
  exact ⟨n, by simpa [spec_l01Twice.f, twiceL] using hn⟩
theorem normal_l1 (l : List Int) (met out : List Int) (i : Nat) (hi : i < l.length) (hm : met.length ≤ i) (ho : out.length = i) (hl : l.length ≤ 4096) (hnd : met.Nodup) (r : List Int)
    (h1 : ∀ p, met.idxOf? (rd l i) = some p → ∃ n, spec_l01Normal.l0 n l met (out ++ [(p : Int)]) ((i : Int) + 1) = some r)
    (h2 : met.idxOf? (rd l i) = none → ∃ n, spec_l01Normal.l0 n l (met ++ [rd l i]) (out ++ [(met.length : Int)]) ((i : Int) + 1) = some r) (d : Nat) :
    ∀ (j : Nat) (a : Int), met.length - j = d → j ≤ met.length → (a = -1 ∧ ¬ rd l i ∈ met.take j ∨ ∃ p : Nat, a = p ∧ p < j ∧ met.idxOf? (rd l i) = some p) → ∃ n, spec_l01Normal.l1 n l met out i a j = some r := by
  induction d with
  | zero =>
    intro j a hd hj ha
    rcases ha with ⟨ha, hno⟩ | ⟨p, ha, hp, hidx⟩
    · rw [List.take_of_length_le (by omega)] at hno
      obtain ⟨n, hn⟩ := h2 (by simpa [List.idxOf?_eq_none_iff] using hno)
      refine ⟨n + 1, ?_⟩
      simp only [spec_l01Normal.l1]
      rw [if_neg (by omega), if_pos (by omega), if_pos (by omega), if_pos (by omega), if_pos (by omega), if_pos (by omega), wrap_id (by omega) (by omega)]
      exact hn
    · obtain ⟨n, hn⟩ := h1 p hidx
      refine ⟨n + 1, ?_⟩
      simp only [spec_l01Normal.l1]
      rw [if_neg (by omega), if_neg (by omega), if_pos (by omega), wrap_id (by omega) (by omega), ha]
      exact hn
  | succ d ih =>
    intro j a hd hj ha
    have hlt : j < met.length := by clear ha; omega
    have hd1 : met.length - (j + 1) = d := by clear ha; omega
    have hj1 : j + 1 ≤ met.length := by clear ha; omega
    by_cases he : rd met j = rd l i
    · have hget : met[j] = rd l i := by rw [← rd_lt met j hlt, he]
      obtain ⟨n, hn⟩ := ih (j + 1) j hd1 hj1 (Or.inr ⟨j, rfl, Nat.lt_succ_self j, by
        rw [List.idxOf?, List.findIdx?_eq_some_iff_findIdx_eq]
        refine ⟨hlt, ?_⟩
        rw [List.findIdx_eq hlt]
        refine ⟨by simp [hget], fun q hq => ?_⟩
        have : met[q] ≠ met[j] := (List.pairwise_iff_getElem.mp hnd) q j (by omega) hlt hq
        rw [hget] at this
        simpa using this⟩)
      refine ⟨n + 1, ?_⟩
      simp only [spec_l01Normal.l1]
      rw [if_pos (by omega), if_pos (by omega), if_pos (by omega), if_pos (by omega), if_pos he, wrap_id (by omega) (by omega)]
      exact hn
    · obtain ⟨n, hn⟩ := ih (j + 1) a hd1 hj1 (by
        rcases ha with ⟨ha, hno⟩ | ⟨p, ha, hp, hidx⟩
        · refine Or.inl ⟨ha, ?_⟩
          rw [take_snoc met j hlt]
          simp only [List.mem_append, List.mem_singleton, not_or]
          exact ⟨hno, fun h => he h.symm⟩
        · exact Or.inr ⟨p, ha, by omega, hidx⟩)
      refine ⟨n + 1, ?_⟩
      simp only [spec_l01Normal.l1]
      rw [if_pos (by omega), if_pos (by omega), if_pos (by omega), if_pos (by omega), if_neg he, wrap_id (by omega) (by omega)]
      exact hn
theorem normal_l0 (l : List Int) (hl : l.length ≤ 4096) (d : Nat) : ∀ (met out : List Int) (i : Nat), l.length - i = d → i ≤ l.length → met.length ≤ i → out.length = i → met.Nodup →
    ∃ n, spec_l01Normal.l0 n l met out i = some (out ++ normFrom met (l.drop i)) := by
  induction d with
  | zero =>
    intro met out i hd hi hm ho hnd
    refine ⟨1, ?_⟩
    simp only [spec_l01Normal.l0]
    rw [if_neg (by omega), List.drop_of_length_le (by omega), normFrom, List.append_nil]
  | succ d ih =>
    intro met out i hd hi hm ho hnd
    have hlt : i < l.length := by omega
    obtain ⟨n, hn⟩ := normal_l1 l met out i hlt hm ho hl hnd (out ++ normFrom met (l.drop i)) (fun p hp => by
        obtain ⟨n, hn⟩ := ih met (out ++ [(p : Int)]) (i + 1) (by omega) (by omega) (by omega) (by simp; omega) hnd
        refine ⟨n, ?_⟩
        rw [drop_at l i hlt, normFrom, hp]
        simpa using hn) (fun hp => by
        obtain ⟨n, hn⟩ := ih (met ++ [rd l i]) (out ++ [(met.length : Int)]) (i + 1) (by omega) (by omega) (by simp; omega) (by simp; omega) (by
          rw [List.nodup_append]
          refine ⟨hnd, by simp, ?_⟩
          intro a ha b hb e
          obtain rfl : b = rd l i := by simpa using hb
          subst e
          exact (List.idxOf?_eq_none_iff.mp hp) ha)
        refine ⟨n, ?_⟩
        rw [drop_at l i hlt, normFrom, hp]
        simpa using hn) met.length 0 (-1) (by omega) (by omega) (Or.inl ⟨rfl, by simp⟩)
    refine ⟨n + 1, ?_⟩
    simp only [spec_l01Normal.l0]
    rw [if_pos (by omega)]
    exact hn
theorem ev_specNormal (l : List Int) (hl : l.length ≤ 4096) : Ev (fun k => spec_l01Normal.f k l) (normalL l) := by
  refine ev_of (fun k => spec_l01Normal.mono _ _) ?_
  obtain ⟨n, hn⟩ := normal_l0 l hl l.length [] [] 0 (by omega) (by omega) (by simp) rfl (by simp)
  exact ⟨n, by simpa [spec_l01Normal.f, normalL] using hn⟩
theorem same_l0 (a b : List Int) (hl : a.length < 1099511627776) (hab : a.length = b.length) (d : Nat) : ∀ (i : Nat), a.length - i = d → i ≤ a.length →
    ∃ n, spec_l01Same.l0 n a b i = some (decide (a.drop i = b.drop i)) := by
  induction d with
  | zero =>
    intro i hd hi
    refine ⟨1, ?_⟩
    simp only [spec_l01Same.l0]
    rw [if_neg (by omega), List.drop_of_length_le (by omega), List.drop_of_length_le (by omega)]
    rfl
  | succ d ih =>
    intro i hd hi
    have hlt : i < a.length := by omega
    obtain ⟨n, hn⟩ := ih (i + 1) (by omega) (by omega)
    refine ⟨n + 1, ?_⟩
    simp only [spec_l01Same.l0]
    rw [if_pos (by omega), if_pos (by omega), if_pos (by omega), wrap_id (by omega) (by omega), drop_at a i hlt, drop_at b i (by omega)]
    by_cases h : rd a i = rd b i
    · rw [if_pos h]
      refine (show spec_l01Same.l0 n a b ((i : Int) + 1) = _ from hn).trans ?_
      simp [h]
    · rw [if_neg h]
      simp [h]
theorem ev_specSame (a b : List Int) (hl : a.length < 1099511627776) : Ev (fun k => spec_l01Same.f k a b) (decide (a = b)) := by
  refine ev_of (fun k => spec_l01Same.mono _ _ _) ?_
  by_cases h : a.length = b.length
  · obtain ⟨n, hn⟩ := same_l0 a b hl h a.length 0 (by omega) (by omega)
    refine ⟨n, ?_⟩
    unfold spec_l01Same.f
    rw [if_pos (by omega)]
    exact hn
  · refine ⟨0, ?_⟩
    unfold spec_l01Same.f
    rw [if_neg (by omega)]
    have : ¬ a = b := fun e => h (by rw [e])
    simp [this]
theorem equal_l0 (a b : List Int) (hl : a.length < 1099511627776) (hab : a.length = b.length) (d : Nat) : ∀ (i : Nat), a.length - i = d → i ≤ a.length →
    ∃ n, slices_Equal_int64_int64.l0 n a b a.length i = some (decide (a.drop i = b.drop i)) := by
  induction d with
  | zero =>
    intro i hd hi
    refine ⟨1, ?_⟩
    simp only [slices_Equal_int64_int64.l0]
    rw [if_neg (by omega), List.drop_of_length_le (by omega), List.drop_of_length_le (by omega)]
    rfl
  | succ d ih =>
    intro i hd hi
    have hlt : i < a.length := by omega
    obtain ⟨n, hn⟩ := ih (i + 1) (by omega) (by omega)
    refine ⟨n + 1, ?_⟩
    simp only [slices_Equal_int64_int64.l0]
    rw [if_pos (by omega), if_pos (by omega), if_pos (by omega), if_pos (by omega), wrap_id (by omega) (by omega), drop_at a i hlt, drop_at b i (by omega)]
    by_cases h : rd a i = rd b i
    · rw [if_pos h]
      refine (show slices_Equal_int64_int64.l0 n a b a.length ((i : Int) + 1) = _ from hn).trans ?_
      simp [h]
    · rw [if_neg h]
      simp [h]
theorem ev_equal (a b : List Int) (hl : a.length < 1099511627776) : Ev (fun k => slices_Equal_int64_int64.f k a b) (decide (a = b)) := by
  refine ev_of (fun k => slices_Equal_int64_int64.mono _ _ _) ?_
  by_cases h : a.length = b.length
  · obtain ⟨n, hn⟩ := equal_l0 a b hl h a.length 0 (by omega) (by omega)
    refine ⟨n, ?_⟩
    unfold slices_Equal_int64_int64.f
    rw [if_pos (by omega)]
    exact hn
  · refine ⟨0, ?_⟩
    unfold slices_Equal_int64_int64.f
    rw [if_neg (by omega)]
    have : ¬ a = b := fun e => h (by rw [e])
    simp [this]
theorem ev_specIs (l : List Int) : Ev (fun k => spec_l01Is.f k l) (isWordL l) := by
  unfold spec_l01Is.f isWordL
  refine ev_if (fun h => ?_) (fun h => ?_)
  · rw [show decide (l.length ≤ 12) = true from decide_eq_true (by omega), Bool.true_and]
    refine Ev.bind (ev_specTwice l (by omega)) ?_
    refine ev_if (fun ht => ?_) (fun ht => ?_)
    · rw [ht, Bool.true_and]
      refine Ev.bind (ev_specNormal l (by omega)) (Ev.bind (ev_specSame _ _ (by rw [normalL_length]; omega)) (ev_some _))
    · rw [Bool.eq_false_iff.mpr ht, Bool.false_and]
      exact ev_some _
  · rw [show decide (l.length ≤ 12) = false from decide_eq_false (by omega), Bool.false_and]
    exact ev_some _
theorem ev_isWord (l : List Int) (h64 : Ok64 l) : Ev (fun k => impl_IsWord.f k l) (isWordL l) := by
  unfold impl_IsWord.f isWordL
  refine ev_if (fun h => ?_) (fun h => ?_)
  · rw [show decide (l.length ≤ 12) = true from decide_eq_true (by omega), Bool.true_and]
    refine ev_const (show impl_twice.f l = some (twiceL l) by unfold impl_twice.f; rw [if_pos ⟨by omega, h64⟩]) ?_
    refine ev_if (fun ht => ?_) (fun ht => ?_)
    · rw [ht, Bool.true_and]
      refine ev_const (show impl_normal.f l = some (normalL l) by unfold impl_normal.f; rw [if_pos ⟨by omega, h64⟩]) (Ev.bind (ev_equal _ _ (by rw [normalL_length]; omega)) (ev_some _))
    · rw [Bool.eq_false_iff.mpr ht, Bool.false_and]
      exact ev_some _
  · rw [show decide (l.length ≤ 12) = false from decide_eq_false (by omega), Bool.false_and]
    exact ev_some _
structure Word (l : List Int) (n : Nat) : Prop where
  len : l.length = 2 * n
  small : n ≤ 6
  range : ∀ j, j < l.length → 0 ≤ rd l j ∧ rd l j < n
  two : ∀ i, i < n → l.count (i : Int) = 2
theorem normFrom_range (l : List Int) : ∀ met, ∀ y ∈ normFrom met l, 0 ≤ y ∧ y < ((metBy met l).length : Int) := by
  have hmono : ∀ (l : List Int) (met : List Int), met.length ≤ (metBy met l).length := by
    intro l
    induction l with
    | nil => intro met; exact Nat.le_refl _
    | cons x r ih =>
      intro met
      rw [metBy]
      split
      · exact ih met
      · have := ih (met ++ [x])
        simp at this
        omega
  induction l with
  | nil => intro met y hy; simp [normFrom] at hy
  | cons x r ih =>
    intro met y hy
    rw [normFrom] at hy
    rw [metBy]
    cases h : met.idxOf? x with
    | some j =>
      rw [h] at hy
      simp only at hy ⊢
      rcases List.mem_cons.mp hy with rfl | hy
      · have h1 := idxOf?_lt h
        have h2 := hmono r met
        omega
      · exact ih met y hy
    | none =>
      rw [h] at hy
      simp only at hy ⊢
      rcases List.mem_cons.mp hy with rfl | hy
      · have h2 := hmono r (met ++ [x])
        simp at h2
        omega
      · exact ih (met ++ [x]) y hy
theorem normFrom_onto (l : List Int) : ∀ met (k : Nat), met.length ≤ k → k < (metBy met l).length → (k : Int) ∈ normFrom met l := by
  induction l with
  | nil => intro met k h1 h2; simp [metBy] at h2; omega
  | cons x r ih =>
    intro met k h1 h2
    rw [metBy] at h2
    rw [normFrom]
    cases h : met.idxOf? x with
    | some j =>
      rw [h] at h2
      exact List.mem_cons_of_mem _ (ih met k h1 h2)
    | none =>
      rw [h] at h2
      simp only at h2 ⊢
      by_cases e : k = met.length
      · subst e; exact List.mem_cons_self
      · exact List.mem_cons_of_mem _ (ih (met ++ [x]) k (by simp; omega) h2)
theorem length_of_counts (n : Nat) : ∀ (l : List Int), (∀ y ∈ l, 0 ≤ y ∧ y < (n : Int)) → (∀ i : Nat, i < n → l.count (i : Int) = 2) → l.length = 2 * n := by
  induction n with
  | zero =>
    intro l h _
    cases l with
    | nil => rfl
    | cons y r =>
      have := h y List.mem_cons_self
      omega
  | succ n ih =>
    intro l h h2
    have h3 := ih (l.filter (fun y => y != (n : Int))) (fun y hy => by
      obtain ⟨hy1, hy2⟩ := List.mem_filter.mp hy
      have := h y hy1
      have : y ≠ (n : Int) := by simpa using hy2
      omega) (fun i hi => by
      rw [List.count_filter (by have : (i : Int) ≠ n := by omega
                                simpa using this)]
      exact h2 i (by omega))
    have h4 : l.length = (l.filter (fun y => y != (n : Int))).length + l.count (n : Int) := by
      clear h h2 h3 ih
      induction l with
      | nil => rfl
      | cons y r ihr =>
        by_cases e : y = (n : Int)
        · subst e; simp; omega
        · have h5 : (y != (n : Int)) = true := by simpa using e
          rw [List.filter_cons, if_pos h5, List.count_cons]
          simp [e]
          omega
    have := h2 n (by omega)
    omega
theorem word_of (l : List Int) (h : isWordL l = true) : ∃ n, Word l n := by
  unfold isWordL at h
  simp only [Bool.and_eq_true, decide_eq_true_eq] at h
  obtain ⟨h12, ht, hn⟩ := h
  have hr : ∀ y ∈ l, 0 ≤ y ∧ y < ((metBy [] l).length : Int) := by
    intro y hy
    exact normFrom_range l [] y (by
      have : normFrom [] l = l := hn
      rw [this]; exact hy)
  have hc : ∀ i : Nat, i < (metBy [] l).length → l.count (i : Int) = 2 := by
    intro i hi
    have hm : (i : Int) ∈ l := by
      have h5 := normFrom_onto l [] i (by simp) hi
      have : normFrom [] l = l := hn
      rw [this] at h5
      exact h5
    have := List.all_eq_true.mp ht _ hm
    simpa using this
  have hlen := length_of_counts _ l hr hc
  exact ⟨_, hlen, by omega, fun j hj => hr _ (rd_mem l j hj), hc⟩
end Go.Proofs.Ytihfncjpfgdhoaa.K
end
section
namespace Go.Proofs.Ytihfncjpfgdhoaa.K
open Go.RowKit Go.Proofs.YtihfncjpfgdhoaaW.PrintWords Go.Proofs.YtihfncjpfgdhoaaW.PrintLast Go.Proofs.YtihfncjpfgdhoaaW.PrintMore
def idxFrom (p : Int → Bool) (l : List Int) (i : Nat) : Int := match l.findIdx? p with | some j => (i + j : Nat) | none => -1
def PredOn (P : Program) (R : World → World → Prop) (fv : Value) (p : Int → Bool) (l : List Int) (w : World) : Prop :=
  ∀ x ∈ l, ∀ w1, R w w1 → Runs P fv #[.int .i64 x] w1 fun e w2 => e = .returned (.bool (p x)) ∧ R w1 w2
theorem idxFrom_hit (p : Int → Bool) (l : List Int) (k : Nat) (h : k < l.length) (hp : p (rd l k) = true) : idxFrom p (l.drop k) k = k := by
  rw [drop_at l k h]
  simp [idxFrom, List.findIdx?_cons, hp]
theorem idxFrom_miss (p : Int → Bool) (l : List Int) (k : Nat) (h : k < l.length) (hp : p (rd l k) = false) : idxFrom p (l.drop k) k = idxFrom p (l.drop (k + 1)) (k + 1) := by
  rw [drop_at l k h]
  simp only [idxFrom, List.findIdx?_cons, hp]
  cases h : (l.drop (k + 1)).findIdx? p with
  | none => simp [h]
  | some j => simp [h]; omega
theorem idx_any (p : Int → Bool) (l : List Int) : decide (0 ≤ idxFrom p l 0) = l.any p := by
  unfold idxFrom
  cases h : l.findIdx? p with
  | none =>
    rw [List.findIdx?_eq_none_iff] at h
    have : l.any p = false := by simpa using h
    rw [this]
    rfl
  | some j =>
    have h2 : l.any p = true := by
      have := List.findIdx?_isSome (xs := l) (p := p)
      rw [h] at this
      simpa using this.symm
    rw [h2]
    simp
set_option maxHeartbeats 1000000 in
set_option maxRecDepth 100000 in
theorem indexFunc {R : World → World → Prop} (hR : Step R) (A0 : Option Addr) (c0 : Nat) (l : List Int) (fv : Value) (p : Int → Bool) (w : World)
    (hr : Kd.C (Kd.int .i64) w A0 l.length l) (hp : PredOn Try.prog R fv p l w) :
    Calls Try.prog 122 #[.slice A0 l.length c0, fv] w fun e w' => e = .returned (.int .i64 (idxFrom p l 0)) ∧ R w w' := by
  have HR := Aside0.mk hr
  have HP := Aside0.mk hp
  have hm : l.length ≤ 9223372036854775807 := hr.2.1
  clear hr hp
  go_enter Try.func122, Try.ntmps122
  go_wp2
  go_loopw [8] (fun i wr => ∃ k : Nat, k ≤ l.length ∧ i = .int .i64 k ∧ Aside0 (idxFrom p l 0 = idxFrom p (l.drop k) k) ∧ Aside0 (R w wr)) (fun i _ => l.length - (intOf i).toNat)
  case atStart => exact ⟨0, Nat.zero_le _, rfl, ⟨rfl⟩, ⟨hR.refl _⟩⟩
  case round =>
    obtain ⟨k, hk, rfl, HI, HW⟩ := hrel
    by_cases hlt : k < l.length
    · obtain ⟨ad, hA, hc⟩ := Kd.at_int (Kd.C_below HR.out (hR.below HW.out)) k (by omega) (by omega)
      subst hA
      have hrun := Aside0.mk (HP.out (rd l k) (rd_mem l k hlt) wr HW.out)
      simp only [Int.toNat_natCast] at hc
      go_wp2_with ((with_reducible refine gate_dst (N := 16) rfl ?_); refine goesV (some 16) rfl rfl rfl (fv := fv) rfl #[.int .i64 (rd l k)] (by (try simp only [List.map_toArray, List.map_cons, List.map_nil]); rfl) ?_; refine hrun.out.mono ?_; rintro e w2 ⟨rfl, h2⟩; have H2 := Aside0.mk h2; clear h2; refine ⟨_, rfl, ?_⟩)
      · have hpt : p (rd l k) = true := by assumption
        go_ret
        exact ⟨by rw [HI.out, idxFrom_hit p l k hlt hpt]; rfl, hR.trans HW.out H2.out⟩
      · have hpf : p (rd l k) = false := by assumption
        go_roundw
        case rel => exact ⟨k + 1, hlt, by go_num, ⟨by rw [HI.out, idxFrom_miss p l k hlt hpf]⟩, ⟨hR.trans HW.out H2.out⟩⟩
        case measure => simp [intOf]; omega
    · have hke : k = l.length := by omega
      go_wp2
      go_ret
      exact ⟨by rw [HI.out, hke, List.drop_length]; rfl, HW.out⟩
theorem containsFunc {R : World → World → Prop} (hR : Step R) (A0 : Option Addr) (c0 : Nat) (l : List Int) (fv : Value) (p : Int → Bool) (w : World)
    (hr : Kd.C (Kd.int .i64) w A0 l.length l) (hp : PredOn Try.prog R fv p l w) :
    Calls Try.prog 96 #[.slice A0 l.length c0, fv] w fun e w' => e = .returned (.bool (l.any p)) ∧ R w w' := by
  have HR := Aside0.mk hr
  have HP := Aside0.mk hp
  clear hr hp
  have HE := Aside0.mk (idx_any p l)
  go_enter Try.func96, Try.ntmps96
  go_wp2_with (go_at_call 122; refine (indexFunc hR A0 c0 l fv p _ HR.out HP.out).mono ?_; rintro e w1 ⟨rfl, h1⟩; have H1 := Aside0.mk h1; clear h1)
  go_ret
  exact ⟨by rw [← HE.out]; rfl, H1.out⟩
end Go.Proofs.Ytihfncjpfgdhoaa.K
end
section
namespace Go.Proofs.Ytihfncjpfgdhoaa.K
open Go.RowKit Go.Proofs.YtihfncjpfgdhoaaW.PrintWords Go.Proofs.YtihfncjpfgdhoaaW.PrintLast Go.Proofs.YtihfncjpfgdhoaaW.PrintMore
theorem c_inG (a b c : Int) (w : World) : Calls Try.prog 81 #[.int .i64 a, .int .i64 b, .int .i64 c] w fun e w' => e = .returned (.bool (inB a b c)) ∧ w = w' := by
  by_cases h : b ≤ a
  · have hd : decide (b ≤ a) = true := decide_eq_true h
    clear h
    go_enter Try.func81, Try.ntmps81
    go_wp2
    go_ret
    exact ⟨by rw [inB, hd]; rfl, rfl⟩
  · have hd : decide (b ≤ a) = false := decide_eq_false h
    clear h
    go_enter Try.func81, Try.ntmps81
    go_wp2
    go_ret
    exact ⟨by rw [inB, hd]; rfl, rfl⟩
def isHeadB (x : Int) : Bool := inB x 0 1
def isSignB (x : Int) : Bool := (x == 1) || (x == -1)
theorem c_isHead (a : Int) (w : World) : Calls Try.prog 76 #[.int .i64 a] w fun e w' => e = .returned (.bool (isHeadB a)) ∧ w = w' := by
  go_enter Try.func76, Try.ntmps76
  go_wp2_with (go_at_call 81; refine (c_inG _ _ _ _).mono ?_; rintro e w1 ⟨rfl, rfl⟩)
  go_ret
  exact ⟨rfl, rfl⟩
theorem c_isSign (a : Int) (w : World) : Calls Try.prog 77 #[.int .i64 a] w fun e w' => e = .returned (.bool (isSignB a)) ∧ w = w' := by
  by_cases h : a = 1
  · subst h
    go_enter Try.func77, Try.ntmps77
    go_wp2
    go_ret
    exact ⟨rfl, rfl⟩
  · have h1 : (a == 1) = false := beq_eq_false_iff_ne.mpr h
    have hs : isSignB a = (a == -1) := by unfold isSignB; rw [h1, Bool.false_or]
    go_enter Try.func77, Try.ntmps77
    go_wp2
    go_ret
    rw [hs]
    exact ⟨rfl, rfl⟩
theorem r_IG1 (x : Int) (w : World) : Runs Try.prog (.func (.func 97) #[] #[]) #[.int .i64 x] w fun e w' => e = .returned (.bool (!isHeadB x)) ∧ Drawn0 w w' := by
  refine ⟨97, _, _, _, rfl, Try.func97, by kernel_rfl, rfl, ?_⟩
  show Calls _ _ #[.int .i64 x] _ _
  go_enter Try.func97, Try.ntmps97
  go_wp2_with (go_at_call 76; refine (c_isHead _ _).mono ?_; rintro e w1 ⟨rfl, rfl⟩)
  go_ret
  exact ⟨rfl, Drawn0.refl _⟩
theorem r_IG2 (x : Int) (w : World) : Runs Try.prog (.func (.func 98) #[] #[]) #[.int .i64 x] w fun e w' => e = .returned (.bool (!isSignB x)) ∧ Drawn0 w w' := by
  refine ⟨98, _, _, _, rfl, Try.func98, by kernel_rfl, rfl, ?_⟩
  show Calls _ _ #[.int .i64 x] _ _
  go_enter Try.func98, Try.ntmps98
  go_wp2_with (go_at_call 77; refine (c_isSign _ _).mono ?_; rintro e w1 ⟨rfl, rfl⟩)
  go_ret
  exact ⟨rfl, Drawn0.refl _⟩
def anyNoHead.f (l0 : List Int) : Option Bool := some (l0.any fun x => !isHeadB x)
theorem anyNoHead.calls (A0 : Option Addr) (c0 : Nat) (l0 : List Int) (r : Bool) (w : World) (hr0 : Kd.C (Kd.int .i64) w A0 l0.length l0) (hc0 : l0.length ≤ c0) (h : anyNoHead.f l0 = some r) :
    Calls Try.prog 96 #[.slice A0 l0.length c0, .func (.func 97) #[] #[]] w fun e w' => e = .returned (.bool r) ∧ Drawn0 w w' := by
  obtain rfl := Option.some.inj h
  exact containsFunc step_drawn A0 c0 l0 _ _ w hr0 (fun x _ w1 hw1 => (r_IG1 x w1).mono fun e w2 hh => hh)
def anyNoSign.f (l0 : List Int) : Option Bool := some (l0.any fun x => !isSignB x)
theorem anyNoSign.calls (A0 : Option Addr) (c0 : Nat) (l0 : List Int) (r : Bool) (w : World) (hr0 : Kd.C (Kd.int .i64) w A0 l0.length l0) (hc0 : l0.length ≤ c0) (h : anyNoSign.f l0 = some r) :
    Calls Try.prog 96 #[.slice A0 l0.length c0, .func (.func 98) #[] #[]] w fun e w' => e = .returned (.bool r) ∧ Drawn0 w w' := by
  obtain rfl := Option.some.inj h
  exact containsFunc step_drawn A0 c0 l0 _ _ w hr0 (fun x _ w1 hw1 => (r_IG2 x w1).mono fun e w2 hh => hh)
end Go.Proofs.Ytihfncjpfgdhoaa.K
end
section
namespace Go.Proofs.Ytihfncjpfgdhoaa.K
open Go.RowKit Go.Proofs.YtihfncjpfgdhoaaW.PrintWords Go.Proofs.YtihfncjpfgdhoaaW.PrintLast Go.Proofs.YtihfncjpfgdhoaaW.PrintMore
theorem law_map_bool : Try.prog.underlying 84 = some (.map 2 4) := Try.underlying84
theorem zero_bool (w : World) : (zeroValue 4).run Try.prog w = .ok (.bool false) w := by kernel_rfl
def seenOf (met : List Int) : Lit → Option Value
  | .int .i64 x => if x ∈ met then some (.bool true) else none
  | _ => none
theorem seenOf_get (met : List Int) (x : Int) : (seenOf met (.int .i64 x)).getD (.bool false) = .bool (decide (x ∈ met)) := by
  simp only [seenOf]
  split <;> rename_i h <;> simp [h]
theorem seenOf_snoc (met : List Int) (x : Int) (kl : Lit) : seenOf (met ++ [x]) kl = if kl.sameKey (.int .i64 x) = true then some (.bool true) else seenOf met kl := by
  cases kl with
  | int q y => cases q <;> simp [seenOf, Lit.sameKey]; by_cases e : y = x <;> simp [e]
  | _ => simp [seenOf, Lit.sameKey]
theorem seenOf_again (met : List Int) (x : Int) (hx : x ∈ met) (kl : Lit) : seenOf met kl = if kl.sameKey (.int .i64 x) = true then some (.bool true) else seenOf met kl := by
  cases kl with
  | int q y => cases q <;> simp [seenOf, Lit.sameKey]; intro e; subst e; simp [hx]
  | _ => simp [seenOf, Lit.sameKey]
def Sep (u v : Value) : Prop := ∀ k, u.ownBlock = some k → some k ≠ v.ownBlock
structure RenSt (w W : World) (mb gb gr : Nat) (v7 cH cS vH vS : Value) (N H S : List Int) (s : Nat) (m : Lit → Option Value) : Prop where
  map : MapV W Try.prog 2 mb s m
  blk : W.heap[gb]? = some (.cells #[v7, cH, cS] 34 (0, 0))
  res : W.heap[gr]? = some (.cells #[.slice none 0 0, .slice none 0 0, .slice none 0 0] 34 (0, 0))
  r7 : RI W w.heap.size (fun _ => True) v7 N
  rH : RI W w.heap.size (fun _ => True) vH H
  rS : RI W w.heap.size (fun _ => True) vS S
  s7H : Sep vH v7
  s7S : Sep vS v7
  sHS : Sep vH vS
  sSH : Sep vS vH
  bel : Below w.heap.size w W
  gB : w.heap.size ≤ gb
  mB : w.heap.size ≤ mb
  ne : gr ≠ gb
theorem blk_of_map {W : World} {P : Program} {k : TypeId} {b s : Nat} {m : Lit → Option Value} (h : MapV W P k b s m) {g : Nat} {cs : Array Value} {t : TypeId} {fr : Nat × Nat} (hb : W.heap[g]? = some (.cells cs t fr)) : g ≠ b := by
  obtain ⟨D, ⟨es, clock, h1, _⟩, _⟩ := h
  intro e
  subst e
  rw [hb] at h1
  cases h1
section
variable {w W W2 : World} {mb gb gr : Nat} {v7 cH cS vH vS : Value} {N H S : List Int} {s : Nat} {m : Lit → Option Value}
theorem RenSt.map_ne (h : RenSt w W mb gb gr v7 cH cS vH vS N H S s m) {v : Value} {l : List Int} (hv : RI W w.heap.size (fun _ => True) v l) : some mb ≠ v.ownBlock := by
  intro e
  obtain ⟨cells, hc⟩ := Kd.R_typed hv mb e.symm
  exact blk_of_map h.map hc rfl
theorem RenSt.blk_ne (h : RenSt w W mb gb gr v7 cH cS vH vS N H S s m) {v : Value} {l : List Int} (hv : RI W w.heap.size (fun _ => True) v l) : some gb ≠ v.ownBlock ∧ some gr ≠ v.ownBlock :=
  ⟨Kd.R_ne hv h.blk (by decide), Kd.R_ne hv h.res (by decide)⟩
theorem RenSt.below (h : RenSt w W mb gb gr v7 cH cS vH vS N H S s m) (hb : Below W.heap.size W W2) : RenSt w W2 mb gb gr v7 cH cS vH vS N H S s m :=
  ⟨h.map.below hb, (hb.block gb (blk_lt h.blk)).trans h.blk, (hb.block gr (blk_lt h.res)).trans h.res, Kd.R_below h.r7 hb, Kd.R_below h.rH hb, Kd.R_below h.rS hb, h.s7H, h.s7S, h.sHS, h.sSH, below_then h.bel h.bel.size hb, h.gB, h.mB, h.ne⟩
theorem RenSt.stored (h : RenSt w W mb gb gr v7 cH cS vH vS N H S s m) {s2 : Nat} {m2 : Lit → Option Value} (hm : MapV W2 Try.prog 2 mb s2 m2) (hg : W.grownBy W2 (some mb)) : RenSt w W2 mb gb gr v7 cH cS vH vS N H S s2 m2 := by
  have nb := blk_of_map h.map h.blk
  have nr := blk_of_map h.map h.res
  refine ⟨hm, (hg.block gb (blk_lt h.blk) (by simpa using nb)).trans h.blk, (hg.block gr (blk_lt h.res) (by simpa using nr)).trans h.res, Kd.R_grown2 h.r7 rfl hg ?_, Kd.R_grown2 h.rH rfl hg ?_, Kd.R_grown2 h.rS rfl hg ?_, h.s7H, h.s7S, h.sHS, h.sSH, h.bel.grown hg h.bel.size ?_, h.gB, h.mB, h.ne⟩
  · intro k hk; cases hk; exact h.map_ne h.r7
  · intro k hk; cases hk; exact h.map_ne h.rH
  · intro k hk; cases hk; exact h.map_ne h.rS
  · intro k hk; cases hk; exact h.mB
theorem RenSt.appH (h : RenSt w W mb gb gr v7 cH cS vH vS N H S s m) {v : Value} {H2 : List Int} (hr : RI W2 w.heap.size (fun _ => True) v H2) (hb : Below w.heap.size w W2) (hg : W.grownBy W2 vH.ownBlock) (hat : v.ownBlock = vH.ownBlock ∨ ∃ b, v.ownBlock = some b ∧ W.heap.size ≤ b) : RenSt w W2 mb gb gr v7 cH cS v vS N H2 S s m := by
  have hx := h.blk_ne h.rH
  have hmb := h.map_ne h.rH
  have new : ∀ {u : Value} {l : List Int}, RI W w.heap.size (fun _ => True) u l → Sep vH u → Sep v u ∧ Sep u v := fun {u l} hu hs => by
    have key : ∀ k, v.ownBlock = some k → some k ≠ u.ownBlock := fun k hk => by
      rcases hat with e | ⟨b, e, hle⟩
      · exact hs k (e ▸ hk)
      · intro e2
        have h1 := Kd.R_lt hu k e2.symm
        rw [e] at hk
        injection hk with hk
        omega
    exact ⟨key, fun k hk e => key k e.symm hk.symm⟩
  refine ⟨h.map.kept hg hmb, (hg.block gb (blk_lt h.blk) hx.1).trans h.blk, (hg.block gr (blk_lt h.res) hx.2).trans h.res, Kd.R_grown2 h.r7 rfl hg (fun k hk => h.s7H k hk), hr, Kd.R_grown2 h.rS rfl hg (fun k hk => h.sHS k hk), (new h.r7 h.s7H).1, h.s7S, (new h.rS h.sHS).1, (new h.rS h.sHS).2, hb, h.gB, h.mB, h.ne⟩
theorem RenSt.swap_ (h : RenSt w W mb gb gr v7 cH cS vH vS N H S s m) {v : Value} {S2 : List Int} (hr : RI W2 w.heap.size (fun _ => True) v S2) (hb : Below w.heap.size w W2) (hg : W.grownBy W2 vS.ownBlock) (hat : v.ownBlock = vS.ownBlock ∨ ∃ b, v.ownBlock = some b ∧ W.heap.size ≤ b) : RenSt w W2 mb gb gr v7 cH cS vH v N H S2 s m := by
  have hx := h.blk_ne h.rS
  have hmb := h.map_ne h.rS
  have new : ∀ {u : Value} {l : List Int}, RI W w.heap.size (fun _ => True) u l → Sep vS u → Sep v u ∧ Sep u v := fun {u l} hu hs => by
    have key : ∀ k, v.ownBlock = some k → some k ≠ u.ownBlock := fun k hk => by
      rcases hat with e | ⟨b, e, hle⟩
      · exact hs k (e ▸ hk)
      · intro e2
        have h1 := Kd.R_lt hu k e2.symm
        rw [e] at hk
        injection hk with hk
        omega
    exact ⟨key, fun k hk e => key k e.symm hk.symm⟩
  refine ⟨h.map.kept hg hmb, (hg.block gb (blk_lt h.blk) hx.1).trans h.blk, (hg.block gr (blk_lt h.res) hx.2).trans h.res, Kd.R_grown2 h.r7 rfl hg (fun k hk => h.s7S k hk), Kd.R_grown2 h.rH rfl hg (fun k hk => h.sSH k hk), hr, h.s7H, (new h.r7 h.s7S).1, (new h.rH h.sSH).2, (new h.rH h.sSH).1, hb, h.gB, h.mB, h.ne⟩
theorem heap_put (W : World) (g j : Nat) (u : Value) (k : Nat) (h : k ≠ g) : (W.setCell ⟨g, j, none⟩ u).heap[k]? = W.heap[k]? := Below.heap_setCell W ⟨g, j, none⟩ u k h
theorem RenSt.puts (h : RenSt w W mb gb gr v7 cH cS vH vS N H S s m) : RenSt w ((W.setCell ⟨gb, 1, none⟩ vH).setCell ⟨gb, 2, none⟩ vS) mb gb gr v7 vH vS vH vS N H S s m := by
  have nb := blk_of_map h.map h.blk
  have row : ∀ {v : Value} {l : List Int}, RI W w.heap.size (fun _ => True) v l → RI ((W.setCell ⟨gb, 1, none⟩ vH).setCell ⟨gb, 2, none⟩ vS) w.heap.size (fun _ => True) v l := fun {v l} hv =>
    Kd.R_mono (Kd.R_far (Kd.R_far (Kd.R_far1 hv rfl (h.blk_ne hv).1) (p := ⟨gb, 1, none⟩) (fun _ hk => hk.2) vH) (p := ⟨gb, 2, none⟩) (fun _ hk => hk.2) vS) (fun _ _ => trivial)
  refine ⟨h.map.block ((heap_put _ _ _ _ _ (Ne.symm nb)).trans (heap_put _ _ _ _ _ (Ne.symm nb))), blk_put (cs := #[v7, vH, cS]) (blk_put h.blk 1 vH rfl) 2 vS rfl, ((heap_put _ _ _ _ _ h.ne).trans (heap_put _ _ _ _ _ h.ne)).trans h.res, row h.r7, row h.rH, row h.rS, h.s7H, h.s7S, h.sHS, h.sSH, below_set (below_set h.bel h.gB) h.gB, h.gB, h.mB, h.ne⟩
theorem bel_of_grown (hg : W.grownBy W2 none) : Below W.heap.size W W2 := ⟨hg.os, hg.tape, hg.output, hg.size, fun i hi => hg.block i hi (by simp)⟩
theorem held_ (h : RenSt w W mb gb gr v7 cH cS vH vS N H S s m) {a1 a2 : Addr} {u1 u2 : Value} (h1 : w.cell? a1 = some u1) (h2 : w.cell? a2 = some u2) : W.cell? ⟨gb, 1, none⟩ = some cH ∧ W.cell? ⟨gb, 2, none⟩ = some cS ∧ W.cell? a1 = some u1 ∧ W.cell? a2 = some u2 :=
  ⟨(blk_cell h.blk 1).trans rfl, (blk_cell h.blk 2).trans rfl, (h.bel.cell (World.block_lt_of_cell? w _ h1)).trans h1, (h.bel.cell (World.block_lt_of_cell? w _ h2)).trans h2⟩
end
theorem repsI {W : World} {base : Nat} (y : Int) : Reps ((Kd.int .i64).M W base fun _ => False) (Kd.int .i64).sz [y] [.int .i64 y] := Reps.one (p := y) (v := .int .i64 y) rfl (Reps.none _ _)
theorem metBy_length (l : List Int) : ∀ met, (metBy met l).length ≤ met.length + l.length := by
  induction l with
  | nil => intro met; exact Nat.le_refl _
  | cons x r ih =>
    intro met
    rw [metBy]
    split
    · have := ih met; simp only [List.length_cons]; omega
    · have := ih (met ++ [x]); simp only [List.length_cons, List.length_append, List.length_nil] at this ⊢; omega
def firsts (l hs : List Int) : List Int := (metBy [] l).map fun x => rd hs x
theorem metBy_append (l t : List Int) : ∀ met, metBy met (l ++ t) = metBy (metBy met l) t := by
  induction l with
  | nil => intro met; rfl
  | cons x r ih =>
    intro met
    rw [List.cons_append, metBy, metBy]
    split <;> exact ih _
theorem metBy_one (met : List Int) (x : Int) : metBy met [x] = if x ∈ met then met else met ++ [x] := by
  rw [metBy]
  cases h : met.idxOf? x with
  | some j =>
    have hx : x ∈ met := by
      have : ¬ met.idxOf? x = none := by rw [h]; simp
      rw [List.idxOf?_eq_none_iff] at this
      simpa using this
    simp [hx, metBy]
  | none =>
    have hx : x ∉ met := by simpa [List.idxOf?_eq_none_iff] using h
    simp [hx, metBy]
theorem metBy_snoc (l : List Int) (k : Int) (h0 : 0 ≤ k) (h : k < l.length) : metBy [] (l.take (k + 1).toNat) = if rd l k ∈ metBy [] (l.take k.toNat) then metBy [] (l.take k.toNat) else metBy [] (l.take k.toNat) ++ [rd l k] := by
  rw [take_snoc' l k h0 h, metBy_append, metBy_one]
set_option maxHeartbeats 2000000 in
set_option maxRecDepth 100000 in
theorem c_renumbered (A0 A1 A2 : Option Addr) (c0 c1 c2 : Nat) (l hs ss : List Int) (w : World) (hl : l.length < 1099511627776) (h64 : Ok64 l) (hr0 : CI w A0 l.length l) (hr1 : CI w A1 hs.length hs) (hr2 : CI w A2 ss.length ss)
    (hin : ∀ x ∈ l, 0 ≤ x ∧ x < hs.length ∧ x < ss.length) :
    Calls Try.prog 71 #[.slice A0 l.length c0, .slice A1 hs.length c1, .slice A2 ss.length c2] w fun e w' => ∃ v0_ v1_ v2_ : Value, e = .returned (.agg #[v0_, v1_, v2_]) ∧
      RI w' w.heap.size (fun _ => True) v0_ (normalL l) ∧ RI w' w.heap.size (fun _ => True) v1_ (firsts l hs) ∧ RI w' w.heap.size (fun _ => True) v2_ (firsts l ss) ∧ Sep v1_ v0_ ∧ Sep v2_ v0_ ∧ Sep v1_ v2_ ∧ Sep v2_ v1_ ∧ Below w.heap.size w w' := by
  have HR := Aside0.mk hr0
  have HR1 := Aside0.mk hr1
  have HR2 := Aside0.mk hr2
  have H64 := Aside0.mk h64
  have HIN := Aside0.mk hin
  clear hr0 hr1 hr2 h64 hin
  go_enter Try.func71, Try.ntmps71
  go_wp2_with (first
    | (go_at_call 92; refine (c_normal A0 c0 l _ hl H64.out (Kd.C_alloc HR.out _)).mono ?_; rintro e w1 ⟨v7, rfl, ho, hb⟩; have HO := Aside0.mk ho; have HB := Aside0.mk hb; clear ho hb; obtain ⟨A7, c7, e7⟩ := Kd.R_slice HO.out; subst e7)
    | ((with_reducible refine gate_dst (N := 14) rfl ?_); refine mapMake rfl rfl rfl law_map_bool ?_; intro w2 hM hg hb hsz; have HM := Aside0.mk hM; have HG := Aside0.mk hb; clear hM hg hb))
  have hsz1 : w.heap.size + 1 ≤ w1.heap.size := by have := HB.out.size; simpa using this
  have h0st : RenSt w (w2.alloc (.cells #[.slice A7 (normalL l).length c7, .slice none 0 0, .slice none 0 0] 34)) w1.heap.size (w1.heap.size + 1) w.heap.size (.slice A7 (normalL l).length c7) (.slice none 0 0) (.slice none 0 0) (.slice none 0 0) (.slice none 0 0) (normalL l) [] [] 0 (seenOf []) := by
    have hbel1 : Below w.heap.size w w1 := by
      have h1 : Below w.heap.size w (w.alloc (.cells #[.slice none 0 0, .slice none 0 0, .slice none 0 0] 34)) := below_alloc (Below.refl _ _) _
      exact below_then h1 h1.size HB.out
    have hbel2 : Below w.heap.size w w2 := below_then hbel1 hbel1.size HG.out
    have hal : Below w2.heap.size w2 (w2.alloc (.cells #[.slice A7 (normalL l).length c7, .slice none 0 0, .slice none 0 0] 34)) := below_alloc (Below.refl _ _) _
    refine ⟨(HM.out.congr (fun kl _ => by cases kl with | int q x => cases q <;> rfl | _ => rfl)).below hal, ?_, ?_, Kd.R_below (Kd.R_below (Kd.R_lower HO.out (by simp)) HG.out) hal, Kd.R_nil _ _ _ _ _, Kd.R_nil _ _ _ _ _, ?_, ?_, ?_, ?_, below_then hbel2 hbel2.size hal, by omega, by omega, by omega⟩
    · rw [← hsz]; exact heap_alloc_new _ _
    · rw [hal.block _ (by omega), HG.out.block _ (by omega), HB.out.block _ (by simp)]; exact heap_alloc_new _ _
    all_goals (intro k hk; simp [Value.ownBlock] at hk)
  have HST := Aside0.mk h0st
  clear h0st HM HO HG
  go_loopw [19] (fun i wr => ∃ (k : Int), 0 ≤ k ∧ k ≤ l.length ∧ i = .int .i64 k ∧ Aside0 (∃ s AH cH AS cS, s ≤ k.toNat ∧ RenSt w wr w1.heap.size (w1.heap.size + 1) w.heap.size (.slice A7 (normalL l).length c7) (.slice AH (firsts (l.take k.toNat) hs).length cH) (.slice AS (firsts (l.take k.toNat) ss).length cS) (.slice AH (firsts (l.take k.toNat) hs).length cH) (.slice AS (firsts (l.take k.toNat) ss).length cS) (normalL l) (firsts (l.take k.toNat) hs) (firsts (l.take k.toNat) ss) s (seenOf (metBy [] (l.take k.toNat))))) (fun i _ => l.length - (intOf i).toNat)
  case atStart => exact ⟨0, by omega, by omega, rfl, ⟨0, none, 0, none, 0, Nat.le_refl _, HST.out⟩⟩
  case round =>
    clear HST HB
    obtain ⟨k, hk0, hk, rfl, ⟨s, AH, cH, AS, cS, hs1, hst⟩⟩ := hrel
    have HST := Aside0.mk hst
    have HS := Aside0.mk hs1
    clear hst hs1
    by_cases hlt : k < l.length
    · obtain ⟨ad, hA, hc⟩ := Kd.at_int (Kd.C_below HR.out HST.out.bel) k (by omega) (by omega)
      subst hA
      have HMS := Aside0.mk (metBy_snoc l k hk0 hlt)
      obtain ⟨x, hx⟩ : ∃ x, x = rd l k := ⟨_, rfl⟩
      rw [← hx] at hc HMS
      have hxm : x ∈ l := by
        have := rd_mem l k.toNat (by omega)
        rw [show ((k.toNat : Nat) : Int) = k by omega, ← hx] at this
        exact this
      have HK := Aside0.mk (key_i64 (in64_wf (H64.out x hxm)))
      have hxr := HIN.out x hxm
      clear hx hxm
      have HGT := Aside0.mk (seenOf_get (metBy [] (l.take k.toNat)) x)
      by_cases hin : x ∈ metBy [] (l.take k.toNat)
      · rw [decide_eq_true hin] at HGT
        rw [if_pos hin] at HMS
        have HIX := Aside0.mk hin
        clear hin
        go_wp2_with (first
          | ((with_reducible refine gate_dst (N := 25) rfl ?_); refine mapLook rfl rfl law_i64 law_map_bool (zero_bool _) HST.out.map rfl (.int .i64 x) (.int .i64 x) rfl HK.out trivial ?_; rw [HGT.out])
          | (at_mapUpdate; refine mapStore rfl rfl law_i64 law_map_bool HST.out.map (by have := HS.out; omega) rfl (.int .i64 x) (.bool true) (.int .i64 x) rfl rfl HK.out trivial ?_; intro w3 hM3 hg3; obtain ⟨s2, hs2, hM4⟩ : ∃ s2, s2 ≤ s + 1 ∧ MapV w3 Try.prog 2 w1.heap.size s2 (seenOf (metBy [] (l.take k.toNat))) := ⟨_, by split <;> omega, hM3.congr (fun kl _ => seenOf_again _ x HIX.out kl)⟩; have HST3 := Aside0.mk (HST.out.stored hM4 hg3); have HS2 := Aside0.mk hs2; clear HST hM3 hM4 hg3 hs2))
        go_roundw
        case rel =>
          refine ⟨k + 1, by omega, by omega, rfl, ⟨s2, AH, cH, AS, cS, by have := HS.out; have := HS2.out; omega, ?_⟩⟩
          have e1 : firsts (l.take (k + 1).toNat) hs = firsts (l.take k.toNat) hs := by unfold firsts; rw [HMS.out]
          have e2 : firsts (l.take (k + 1).toNat) ss = firsts (l.take k.toNat) ss := by unfold firsts; rw [HMS.out]
          rw [e1, e2, HMS.out]
          exact HST3.out
        case measure => simp [intOf]; omega
      · rw [decide_eq_false hin] at HGT
        rw [if_neg hin] at HMS
        have HIX := Aside0.mk hin
        clear hin
        go_wp2_with (first
          | ((with_reducible refine gate_dst (N := 25) rfl ?_); refine mapLook rfl rfl law_i64 law_map_bool (zero_bool _) HST.out.map rfl (.int .i64 x) (.int .i64 x) rfl HK.out trivial ?_; rw [HGT.out]))
        have HLT := Aside0.mk (metBy_length (l.take k.toNat) [])
        obtain ⟨ad1, hA1, hh1⟩ := Kd.at_int HR1.out x hxr.1 hxr.2.1
        obtain ⟨ad2, hA2, hh2⟩ := Kd.at_int HR2.out x hxr.1 hxr.2.2
        subst hA1 hA2
        have HA1 := Aside0.mk hh1
        have HA2 := Aside0.mk hh2
        have d0 := eq_true hxr.1
        have d1 := eq_true hxr.2.1
        have d2 := eq_true hxr.2.2
        clear hh1 hh2 hxr
        have HN1 : Aside0 (firsts (l.take (k + 1).toNat) hs = firsts (l.take k.toNat) hs ++ [rd hs x]) := ⟨by unfold firsts; rw [HMS.out, List.map_append]; rfl⟩
        have HN2 : Aside0 (firsts (l.take (k + 1).toNat) ss = firsts (l.take k.toNat) ss ++ [rd ss x]) := ⟨by unfold firsts; rw [HMS.out, List.map_append]; rfl⟩
        have HLN : Aside0 ((firsts (l.take k.toNat) hs).length < 1099511627776 ∧ (firsts (l.take k.toNat) ss).length < 1099511627776) := ⟨by
          have h1 := HLT.out
          rw [List.length_take, List.length_nil] at h1
          unfold firsts
          rw [List.length_map, List.length_map]
          omega⟩
        obtain ⟨met, hmet⟩ : ∃ met, met = metBy [] (l.take k.toNat) := ⟨_, rfl⟩
        obtain ⟨Hl, hHl⟩ : ∃ Hl, Hl = firsts (l.take k.toNat) hs := ⟨_, rfl⟩
        obtain ⟨Sl, hSl⟩ : ∃ Sl, Sl = firsts (l.take k.toNat) ss := ⟨_, rfl⟩
        rw [← hmet, ← hHl, ← hSl] at HST
        rw [← hHl] at HN1
        rw [← hSl] at HN2
        rw [← hHl, ← hSl] at HLN
        rw [← hmet] at HMS HIX
        clear HGT HLT hmet hHl hSl
        -- REGION 7: laid by gen_renum.py
        refine start_ (n := 20) (S := fun w' => w'.cell? ⟨w1.heap.size + 1, 1, none⟩ = some (.slice AH Hl.length cH) ∧ w'.cell? ⟨w1.heap.size + 1, 2, none⟩ = some (.slice AS Sl.length cS) ∧ w'.cell? (ad1.add x.toNat) = some (.int .i64 (rd hs x)) ∧ w'.cell? (ad2.add x.toNat) = some (.int .i64 (rd ss x))) (ds := [17, 19]) #[false, false, false, false, false, false, false, false, false, false, false, false, false, false, false, false, false, false, false, false] (by kernel_rfl) rfl rfl (held_ (HST.out.below (below_drew1 (Below.refl _ _))) HA1.out HA2.out) (fun hHeld => ?_)
        have n0_ := Aside0.mk (HST.out.below (below_drew1 (Below.refl _ _)))
        clear HST
        have HST := n0_
        clear n0_
        generalize wr.drew = wd at HST hHeld ⊢
        refine pure_ (i := 0) (N := some 27) (v := ?_) (a' := ?_) #[true, false, false, false, false, false, false, false, false, false, false, false, false, false, false, false, false, false, false, false] rfl rfl (by kernel_rfl) (fun _ _ _ h => h) (Or.inl ⟨by rfl, ?_⟩) ?_ ?_
        rotate_left
        · intro w'
          go_simp
          with_reducible rfl
        rotate_left
        · simp only [Act.put, List.setIfInBounds_toArray, List.set_cons_zero, List.set_cons_succ, i64_w, i32_w]
          rfl
        refine pure_ (i := 2) (N := some 29) (v := ?_) (a' := ?_) #[true, false, true, false, false, false, false, false, false, false, false, false, false, false, false, false, false, false, false, false] rfl rfl (by kernel_rfl) (fun _ _ _ h => h) (Or.inl ⟨by rfl, ?_⟩) ?_ ?_
        rotate_left
        · intro w'
          go_simp
          with_reducible rfl
        rotate_left
        · simp only [Act.put, List.setIfInBounds_toArray, List.set_cons_zero, List.set_cons_succ, i64_w, i32_w]
          rfl
        refine pure_ (i := 3) (N := some 30) (v := ?_) (a' := ?_) #[true, false, true, true, false, false, false, false, false, false, false, false, false, false, false, false, false, false, false, false] rfl rfl (by kernel_rfl) (fun _ _ _ h => h) (Or.inl ⟨by rfl, ?_⟩) ?_ ?_
        rotate_left
        · intro w'
          go_simp
          with_reducible rfl
        rotate_left
        · simp only [Act.put, List.setIfInBounds_toArray, List.set_cons_zero, List.set_cons_succ, i64_w, i32_w]
          rfl
        refine pure_ (i := 8) (N := some 35) (v := ?_) (a' := ?_) #[true, false, true, true, false, false, false, false, true, false, false, false, false, false, false, false, false, false, false, false] rfl rfl (by kernel_rfl) (fun _ _ _ h => h) (Or.inl ⟨by rfl, ?_⟩) ?_ ?_
        rotate_left
        · intro w'
          go_simp
          with_reducible rfl
        rotate_left
        · simp only [Act.put, List.setIfInBounds_toArray, List.set_cons_zero, List.set_cons_succ, i64_w, i32_w]
          rfl
        refine pure_ (i := 10) (N := some 37) (v := ?_) (a' := ?_) #[true, false, true, true, false, false, false, false, true, false, true, false, false, false, false, false, false, false, false, false] rfl rfl (by kernel_rfl) (fun _ _ _ h => h) (Or.inl ⟨by rfl, ?_⟩) ?_ ?_
        rotate_left
        · intro w'
          go_simp
          with_reducible rfl
        rotate_left
        · simp only [Act.put, List.setIfInBounds_toArray, List.set_cons_zero, List.set_cons_succ, i64_w, i32_w]
          rfl
        refine pure_ (i := 11) (N := some 38) (v := ?_) (a' := ?_) #[true, false, true, true, false, false, false, false, true, false, true, true, false, false, false, false, false, false, false, false] rfl rfl (by kernel_rfl) (fun _ _ _ h => h) (Or.inl ⟨by rfl, ?_⟩) ?_ ?_
        rotate_left
        · intro w'
          go_simp
          with_reducible rfl
        rotate_left
        · simp only [Act.put, List.setIfInBounds_toArray, List.set_cons_zero, List.set_cons_succ, i64_w, i32_w]
          rfl
        refine take_ (i := 1) (N := some 28) (v := ?_) (a' := ?_) #[true, true, true, true, false, false, false, false, true, false, true, true, false, false, false, false, false, false, false, false] rfl rfl (by kernel_rfl) (fun _ _ _ h => h) (Or.inl ⟨by rfl, ?_⟩) hHeld ?_ ?_
        rotate_left
        · rintro w' ⟨s0, s1, s2, s3⟩
          go_simp
          with_reducible rfl
        rotate_left
        · simp only [Act.put, List.setIfInBounds_toArray, List.set_cons_zero, List.set_cons_succ, i64_w, i32_w]
          rfl
        refine take_ (i := 4) (N := some 31) (v := ?_) (a' := ?_) #[true, true, true, true, true, false, false, false, true, false, true, true, false, false, false, false, false, false, false, false] rfl rfl (by kernel_rfl) (fun _ _ _ h => h) (Or.inl ⟨by rfl, ?_⟩) hHeld ?_ ?_
        rotate_left
        · rintro w' ⟨s0, s1, s2, s3⟩
          go_simp
          with_reducible rfl
        rotate_left
        · simp only [Act.put, List.setIfInBounds_toArray, List.set_cons_zero, List.set_cons_succ, i64_w, i32_w]
          rfl
        refine take_ (i := 5) (N := some 32) (v := ?_) (a' := ?_) #[true, true, true, true, true, true, false, false, true, false, true, true, false, false, false, false, false, false, false, false] rfl rfl (by kernel_rfl) (fun _ _ _ h => h) (Or.inl ⟨by rfl, ?_⟩) hHeld ?_ ?_
        rotate_left
        · rintro w' ⟨s0, s1, s2, s3⟩
          go_simp
          with_reducible rfl
        rotate_left
        · simp only [Act.put, List.setIfInBounds_toArray, List.set_cons_zero, List.set_cons_succ, i64_w, i32_w]
          rfl
        refine take_ (i := 9) (N := some 36) (v := ?_) (a' := ?_) #[true, true, true, true, true, true, false, false, true, true, true, true, false, false, false, false, false, false, false, false] rfl rfl (by kernel_rfl) (fun _ _ _ h => h) (Or.inl ⟨by rfl, ?_⟩) hHeld ?_ ?_
        rotate_left
        · rintro w' ⟨s0, s1, s2, s3⟩
          go_simp
          with_reducible rfl
        rotate_left
        · simp only [Act.put, List.setIfInBounds_toArray, List.set_cons_zero, List.set_cons_succ, i64_w, i32_w]
          rfl
        refine take_ (i := 12) (N := some 39) (v := ?_) (a' := ?_) #[true, true, true, true, true, true, false, false, true, true, true, true, true, false, false, false, false, false, false, false] rfl rfl (by kernel_rfl) (fun _ _ _ h => h) (Or.inl ⟨by rfl, ?_⟩) hHeld ?_ ?_
        rotate_left
        · rintro w' ⟨s0, s1, s2, s3⟩
          go_simp
          with_reducible rfl
        rotate_left
        · simp only [Act.put, List.setIfInBounds_toArray, List.set_cons_zero, List.set_cons_succ, i64_w, i32_w]
          rfl
        refine take_ (i := 13) (N := some 40) (v := ?_) (a' := ?_) #[true, true, true, true, true, true, false, false, true, true, true, true, true, true, false, false, false, false, false, false] rfl rfl (by kernel_rfl) (fun _ _ _ h => h) (Or.inl ⟨by rfl, ?_⟩) hHeld ?_ ?_
        rotate_left
        · rintro w' ⟨s0, s1, s2, s3⟩
          go_simp
          with_reducible rfl
        rotate_left
        · simp only [Act.put, List.setIfInBounds_toArray, List.set_cons_zero, List.set_cons_succ, i64_w, i32_w]
          rfl
        obtain ⟨B0, hB0⟩ : ∃ B0, B0 = wd.heap.size := ⟨_, rfl⟩
        have HBH : Aside0 (∀ k_, (Value.slice AH Hl.length cH).ownBlock = some k_ → k_ < B0) := ⟨fun k_ hk_ => by rw [hB0]; exact Kd.R_lt HST.out.rH k_ hk_⟩
        have HBS : Aside0 (∀ k_, (Value.slice AS Sl.length cS).ownBlock = some k_ → k_ < B0) := ⟨fun k_ hk_ => by rw [hB0]; exact Kd.R_lt HST.out.rS k_ hk_⟩
        have HZ : Aside0 (B0 ≤ wd.heap.size) := ⟨by rw [hB0]; exact Nat.le_refl _⟩
        clear hB0
        refine join_ (σ := Value × Value × (Option Addr × Nat) × (Option Addr × Nat)) 3 #[true, true, true, true, true, true, true, true, true, true, true, true, true, true, true, true, true, false, false, false] (fun s_ => [(33, s_.1), (41, s_.2.1), (43, .pointer (some ⟨w1.heap.size + 1, 1, none⟩)), (34, .slice s_.2.2.1.1 (Hl ++ [rd hs x]).length s_.2.2.1.2), (42, .slice s_.2.2.2.1 (Sl ++ [rd ss x]).length s_.2.2.2.2)]) (fun s_ w' => RenSt w w' w1.heap.size (w1.heap.size + 1) w.heap.size (.slice A7 (normalL l).length c7) (.slice AH Hl.length cH) (.slice AS Sl.length cS) (.slice s_.2.2.1.1 (Hl ++ [rd hs x]).length s_.2.2.1.2) (.slice s_.2.2.2.1 (Sl ++ [rd ss x]).length s_.2.2.2.2) (normalL l) (Hl ++ [rd hs x]) (Sl ++ [rd ss x]) s (seenOf met)) ?_ ?_
        rotate_left
        · intro hCont
          refine two_ (i := 6) (j := 14) (Ni := some 33) (Nj := some 41) #[true, true, true, true, true, true, true, false, true, true, true, true, true, true, false, false, false, false, false, false] #[true, true, true, true, true, true, false, false, true, true, true, true, true, true, true, false, false, false, false, false] rfl rfl rfl rfl (by kernel_rfl) (by decide) (by decide) (fun K hK => ?_) (fun K hK => ?_)
          · skip
            refine Kd.R_lit_step (Kd.int .i64) w.heap.size 2 (w0 := w) (by rfl) (N := 33) rfl (xs := [(rd hs x)]) (inner := [.int .i64 (rd hs x)]) (ok := fun k_ => B0 ≤ k_) (okp := fun _ => False) ?hr (repsI (rd hs x)) (fun _ h => h.elim) HZ.out HST.out.bel HST.out.bel.size (by simp) ?_
            case hr => first | (go_simp; done) | (go_simp; rfl)
            intro v33 w33 ho hb hg hnew
            have hbw := bel_of_grown hg
            have n0_ := Aside0.mk (HST.out.below hbw)
            have n1_ := Aside0.mk (Nat.le_trans HZ.out hbw.size)
            have n2_ := Aside0.mk ho
            clear HST HZ 
            have HST := n0_
            have HZ := n1_
            have HF33 := n2_
            clear n0_ n1_ n2_ ho hb hg hnew hbw 
            obtain ⟨A33, c33, e33⟩ := Kd.R_slice HF33.out
            subst e33
            refine hK.out _ _ (held_ HST.out HA1.out HA2.out) (fun hHeld => ?_)
            clear hK K
            refine norm_ (a' := ?_) ?_ ?_
            rotate_left
            · show Act.put _ (some 33) _ = _
              simp only [Act.put, List.setIfInBounds_toArray, List.set_cons_zero, List.set_cons_succ, i64_w, i32_w]
              rfl
            refine two_ (i := 7) (j := 14) (Ni := some 34) (Nj := some 41) #[true, true, true, true, true, true, true, true, true, true, true, true, true, true, false, false, false, false, false, false] #[true, true, true, true, true, true, true, false, true, true, true, true, true, true, true, false, false, false, false, false] rfl rfl rfl rfl (by kernel_rfl) (by decide) (by decide) (fun K hK => ?_) (fun K hK => ?_)
            · skip
              refine Kd.R_append_rows_step (Kd.int .i64) (w0 := w) w.heap.size (by rfl) (.tmp 28) (.tmp 33) 22 2 (.int .i64 0) 8 rfl Try.underlying22 info2 rfl (by decide) (by omega) (.slice AH Hl.length cH) Hl [(rd hs x)] A33 1 c33 (fun _ => True) (fun _ => False) rfl rfl HST.out.rH (Kd.R_reads' HF33.out).2.2 (fun _ _ h => h) (fun _ h => h.elim) (fun _ _ => trivial) HST.out.bel HST.out.bel.size (by have := HLN.out; omega) ?_
              intro v34 w34 ho hb hg hat
              obtain ⟨A34, c34, e34⟩ := Kd.R_slice ho
              subst e34
              have n0_ := Aside0.mk (HST.out.appH ho hb hg hat)
              have n1_ := Aside0.mk (Nat.le_trans HZ.out hg.size)
              clear HST HZ HF33
              have HST := n0_
              have HZ := n1_
              clear n0_ n1_ ho hb hg hat 
              refine hK.out _ _ (held_ HST.out HA1.out HA2.out) (fun hHeld => ?_)
              clear hK K
              refine norm_ (a' := ?_) ?_ ?_
              rotate_left
              · show Act.put _ (some 34) _ = _
                simp only [Act.put, List.setIfInBounds_toArray, List.set_cons_zero, List.set_cons_succ, i64_w, i32_w]
                rfl
              refine pure_ (i := 16) (N := some 43) (v := ?_) (a' := ?_) #[true, true, true, true, true, true, true, true, true, true, true, true, true, true, false, false, true, false, false, false] rfl rfl (by kernel_rfl) (fun _ _ _ h => h) (Or.inl ⟨by rfl, ?_⟩) ?_ ?_
              rotate_left
              · intro w'
                go_simp
                with_reducible rfl
              rotate_left
              · simp only [Act.put, List.setIfInBounds_toArray, List.set_cons_zero, List.set_cons_succ, i64_w, i32_w]
                rfl
              refine one_ (i := 14) (N := some 41) #[true, true, true, true, true, true, true, true, true, true, true, true, true, true, true, false, true, false, false, false] rfl rfl (by kernel_rfl) (by decide) (fun K hK => ?_)
              refine Kd.R_lit_step (Kd.int .i64) w.heap.size 2 (w0 := w) (by rfl) (N := 41) rfl (xs := [(rd ss x)]) (inner := [.int .i64 (rd ss x)]) (ok := fun k_ => B0 ≤ k_) (okp := fun _ => False) ?hr (repsI (rd ss x)) (fun _ h => h.elim) HZ.out HST.out.bel HST.out.bel.size (by simp) ?_
              case hr => first | (go_simp; done) | (go_simp; rfl)
              intro v41 w41 ho hb hg hnew
              have hbw := bel_of_grown hg
              have n0_ := Aside0.mk (HST.out.below hbw)
              have n1_ := Aside0.mk (Nat.le_trans HZ.out hbw.size)
              have n2_ := Aside0.mk ho
              clear HST HZ 
              have HST := n0_
              have HZ := n1_
              have HF41 := n2_
              clear n0_ n1_ n2_ ho hb hg hnew hbw 
              obtain ⟨A41, c41, e41⟩ := Kd.R_slice HF41.out
              subst e41
              refine hK.out _ _ (held_ HST.out HA1.out HA2.out) (fun hHeld => ?_)
              clear hK K
              refine norm_ (a' := ?_) ?_ ?_
              rotate_left
              · show Act.put _ (some 41) _ = _
                simp only [Act.put, List.setIfInBounds_toArray, List.set_cons_zero, List.set_cons_succ, i64_w, i32_w]
                rfl
              refine one_ (i := 15) (N := some 42) #[true, true, true, true, true, true, true, true, true, true, true, true, true, true, true, true, true, false, false, false] rfl rfl (by kernel_rfl) (by decide) (fun K hK => ?_)
              refine Kd.R_append_rows_step (Kd.int .i64) (w0 := w) w.heap.size (by rfl) (.tmp 36) (.tmp 41) 22 2 (.int .i64 0) 8 rfl Try.underlying22 info2 rfl (by decide) (by omega) (.slice AS Sl.length cS) Sl [(rd ss x)] A41 1 c41 (fun _ => True) (fun _ => False) rfl rfl HST.out.rS (Kd.R_reads' HF41.out).2.2 (fun _ _ h => h) (fun _ h => h.elim) (fun _ _ => trivial) HST.out.bel HST.out.bel.size (by have := HLN.out; omega) ?_
              intro v42 w42 ho hb hg hat
              obtain ⟨A42, c42, e42⟩ := Kd.R_slice ho
              subst e42
              have n0_ := Aside0.mk (HST.out.swap_ ho hb hg hat)
              have n1_ := Aside0.mk (Nat.le_trans HZ.out hg.size)
              clear HST HZ HF41
              have HST := n0_
              have HZ := n1_
              clear n0_ n1_ ho hb hg hat 
              refine hK.out _ _ (held_ HST.out HA1.out HA2.out) (fun hHeld => ?_)
              clear hK K
              refine norm_ (a' := ?_) ?_ ?_
              rotate_left
              · show Act.put _ (some 42) _ = _
                simp only [Act.put, List.setIfInBounds_toArray, List.set_cons_zero, List.set_cons_succ, i64_w, i32_w]
                rfl
              exact norm_ (by simp only [putAll, Act.put, List.setIfInBounds_toArray, List.set_cons_zero, List.set_cons_succ]) (hCont (.slice A33 [rd hs x].length c33, .slice A41 [rd ss x].length c41, (A34, c34), (A42, c42)) _ HST.out)
            · skip
              refine Kd.R_lit_step (Kd.int .i64) w.heap.size 2 (w0 := w) (by rfl) (N := 41) rfl (xs := [(rd ss x)]) (inner := [.int .i64 (rd ss x)]) (ok := fun k_ => B0 ≤ k_) (okp := fun _ => False) ?hr (repsI (rd ss x)) (fun _ h => h.elim) HZ.out HST.out.bel HST.out.bel.size (by simp) ?_
              case hr => first | (go_simp; done) | (go_simp; rfl)
              intro v41 w41 ho hb hg hnew
              have hbw := bel_of_grown hg
              have n0_ := Aside0.mk (HST.out.below hbw)
              have n1_ := Aside0.mk (Nat.le_trans HZ.out hbw.size)
              have mHF33_ := Aside0.mk (Kd.R_below HF33.out hbw)
              have n2_ := Aside0.mk ho
              clear HST HZ HF33
              have HST := n0_
              have HZ := n1_
              have HF33 := mHF33_
              have HF41 := n2_
              clear n0_ n1_ n2_ ho hb hg hnew hbw mHF33_
              obtain ⟨A41, c41, e41⟩ := Kd.R_slice HF41.out
              subst e41
              refine hK.out _ _ (held_ HST.out HA1.out HA2.out) (fun hHeld => ?_)
              clear hK K
              refine norm_ (a' := ?_) ?_ ?_
              rotate_left
              · show Act.put _ (some 41) _ = _
                simp only [Act.put, List.setIfInBounds_toArray, List.set_cons_zero, List.set_cons_succ, i64_w, i32_w]
                rfl
              refine one_ (i := 7) (N := some 34) #[true, true, true, true, true, true, true, true, true, true, true, true, true, true, true, false, false, false, false, false] rfl rfl (by kernel_rfl) (by decide) (fun K hK => ?_)
              refine Kd.R_append_rows_step (Kd.int .i64) (w0 := w) w.heap.size (by rfl) (.tmp 28) (.tmp 33) 22 2 (.int .i64 0) 8 rfl Try.underlying22 info2 rfl (by decide) (by omega) (.slice AH Hl.length cH) Hl [(rd hs x)] A33 1 c33 (fun _ => True) (fun _ => False) rfl rfl HST.out.rH (Kd.R_reads' HF33.out).2.2 (fun _ _ h => h) (fun _ h => h.elim) (fun _ _ => trivial) HST.out.bel HST.out.bel.size (by have := HLN.out; omega) ?_
              intro v34 w34 ho hb hg hat
              obtain ⟨A34, c34, e34⟩ := Kd.R_slice ho
              subst e34
              have n0_ := Aside0.mk (HST.out.appH ho hb hg hat)
              have n1_ := Aside0.mk (Nat.le_trans HZ.out hg.size)
              have mHF41_ := Aside0.mk (Kd.R_grown HF41.out hg (fun k_ hk_ e_ => Nat.not_lt.2 hk_ (HBH.out k_ e_.symm)))
              clear HST HZ HF33 HF41
              have HST := n0_
              have HZ := n1_
              have HF41 := mHF41_
              clear n0_ n1_ ho hb hg hat mHF41_
              refine hK.out _ _ (held_ HST.out HA1.out HA2.out) (fun hHeld => ?_)
              clear hK K
              refine norm_ (a' := ?_) ?_ ?_
              rotate_left
              · show Act.put _ (some 34) _ = _
                simp only [Act.put, List.setIfInBounds_toArray, List.set_cons_zero, List.set_cons_succ, i64_w, i32_w]
                rfl
              refine pure_ (i := 16) (N := some 43) (v := ?_) (a' := ?_) #[true, true, true, true, true, true, true, true, true, true, true, true, true, true, true, false, true, false, false, false] rfl rfl (by kernel_rfl) (fun _ _ _ h => h) (Or.inl ⟨by rfl, ?_⟩) ?_ ?_
              rotate_left
              · intro w'
                go_simp
                with_reducible rfl
              rotate_left
              · simp only [Act.put, List.setIfInBounds_toArray, List.set_cons_zero, List.set_cons_succ, i64_w, i32_w]
                rfl
              refine one_ (i := 15) (N := some 42) #[true, true, true, true, true, true, true, true, true, true, true, true, true, true, true, true, true, false, false, false] rfl rfl (by kernel_rfl) (by decide) (fun K hK => ?_)
              refine Kd.R_append_rows_step (Kd.int .i64) (w0 := w) w.heap.size (by rfl) (.tmp 36) (.tmp 41) 22 2 (.int .i64 0) 8 rfl Try.underlying22 info2 rfl (by decide) (by omega) (.slice AS Sl.length cS) Sl [(rd ss x)] A41 1 c41 (fun _ => True) (fun _ => False) rfl rfl HST.out.rS (Kd.R_reads' HF41.out).2.2 (fun _ _ h => h) (fun _ h => h.elim) (fun _ _ => trivial) HST.out.bel HST.out.bel.size (by have := HLN.out; omega) ?_
              intro v42 w42 ho hb hg hat
              obtain ⟨A42, c42, e42⟩ := Kd.R_slice ho
              subst e42
              have n0_ := Aside0.mk (HST.out.swap_ ho hb hg hat)
              have n1_ := Aside0.mk (Nat.le_trans HZ.out hg.size)
              clear HST HZ HF41
              have HST := n0_
              have HZ := n1_
              clear n0_ n1_ ho hb hg hat 
              refine hK.out _ _ (held_ HST.out HA1.out HA2.out) (fun hHeld => ?_)
              clear hK K
              refine norm_ (a' := ?_) ?_ ?_
              rotate_left
              · show Act.put _ (some 42) _ = _
                simp only [Act.put, List.setIfInBounds_toArray, List.set_cons_zero, List.set_cons_succ, i64_w, i32_w]
                rfl
              exact norm_ (by simp only [putAll, Act.put, List.setIfInBounds_toArray, List.set_cons_zero, List.set_cons_succ]) (hCont (.slice A33 [rd hs x].length c33, .slice A41 [rd ss x].length c41, (A34, c34), (A42, c42)) _ HST.out)
          · skip
            refine Kd.R_lit_step (Kd.int .i64) w.heap.size 2 (w0 := w) (by rfl) (N := 41) rfl (xs := [(rd ss x)]) (inner := [.int .i64 (rd ss x)]) (ok := fun k_ => B0 ≤ k_) (okp := fun _ => False) ?hr (repsI (rd ss x)) (fun _ h => h.elim) HZ.out HST.out.bel HST.out.bel.size (by simp) ?_
            case hr => first | (go_simp; done) | (go_simp; rfl)
            intro v41 w41 ho hb hg hnew
            have hbw := bel_of_grown hg
            have n0_ := Aside0.mk (HST.out.below hbw)
            have n1_ := Aside0.mk (Nat.le_trans HZ.out hbw.size)
            have n2_ := Aside0.mk ho
            clear HST HZ 
            have HST := n0_
            have HZ := n1_
            have HF41 := n2_
            clear n0_ n1_ n2_ ho hb hg hnew hbw 
            obtain ⟨A41, c41, e41⟩ := Kd.R_slice HF41.out
            subst e41
            refine hK.out _ _ (held_ HST.out HA1.out HA2.out) (fun hHeld => ?_)
            clear hK K
            refine norm_ (a' := ?_) ?_ ?_
            rotate_left
            · show Act.put _ (some 41) _ = _
              simp only [Act.put, List.setIfInBounds_toArray, List.set_cons_zero, List.set_cons_succ, i64_w, i32_w]
              rfl
            refine one_ (i := 6) (N := some 33) #[true, true, true, true, true, true, true, false, true, true, true, true, true, true, true, false, false, false, false, false] rfl rfl (by kernel_rfl) (by decide) (fun K hK => ?_)
            refine Kd.R_lit_step (Kd.int .i64) w.heap.size 2 (w0 := w) (by rfl) (N := 33) rfl (xs := [(rd hs x)]) (inner := [.int .i64 (rd hs x)]) (ok := fun k_ => B0 ≤ k_) (okp := fun _ => False) ?hr (repsI (rd hs x)) (fun _ h => h.elim) HZ.out HST.out.bel HST.out.bel.size (by simp) ?_
            case hr => first | (go_simp; done) | (go_simp; rfl)
            intro v33 w33 ho hb hg hnew
            have hbw := bel_of_grown hg
            have n0_ := Aside0.mk (HST.out.below hbw)
            have n1_ := Aside0.mk (Nat.le_trans HZ.out hbw.size)
            have mHF41_ := Aside0.mk (Kd.R_below HF41.out hbw)
            have n2_ := Aside0.mk ho
            clear HST HZ HF41
            have HST := n0_
            have HZ := n1_
            have HF41 := mHF41_
            have HF33 := n2_
            clear n0_ n1_ n2_ ho hb hg hnew hbw mHF41_
            obtain ⟨A33, c33, e33⟩ := Kd.R_slice HF33.out
            subst e33
            refine hK.out _ _ (held_ HST.out HA1.out HA2.out) (fun hHeld => ?_)
            clear hK K
            refine norm_ (a' := ?_) ?_ ?_
            rotate_left
            · show Act.put _ (some 33) _ = _
              simp only [Act.put, List.setIfInBounds_toArray, List.set_cons_zero, List.set_cons_succ, i64_w, i32_w]
              rfl
            refine one_ (i := 7) (N := some 34) #[true, true, true, true, true, true, true, true, true, true, true, true, true, true, true, false, false, false, false, false] rfl rfl (by kernel_rfl) (by decide) (fun K hK => ?_)
            refine Kd.R_append_rows_step (Kd.int .i64) (w0 := w) w.heap.size (by rfl) (.tmp 28) (.tmp 33) 22 2 (.int .i64 0) 8 rfl Try.underlying22 info2 rfl (by decide) (by omega) (.slice AH Hl.length cH) Hl [(rd hs x)] A33 1 c33 (fun _ => True) (fun _ => False) rfl rfl HST.out.rH (Kd.R_reads' HF33.out).2.2 (fun _ _ h => h) (fun _ h => h.elim) (fun _ _ => trivial) HST.out.bel HST.out.bel.size (by have := HLN.out; omega) ?_
            intro v34 w34 ho hb hg hat
            obtain ⟨A34, c34, e34⟩ := Kd.R_slice ho
            subst e34
            have n0_ := Aside0.mk (HST.out.appH ho hb hg hat)
            have n1_ := Aside0.mk (Nat.le_trans HZ.out hg.size)
            have mHF41_ := Aside0.mk (Kd.R_grown HF41.out hg (fun k_ hk_ e_ => Nat.not_lt.2 hk_ (HBH.out k_ e_.symm)))
            clear HST HZ HF33 HF41
            have HST := n0_
            have HZ := n1_
            have HF41 := mHF41_
            clear n0_ n1_ ho hb hg hat mHF41_
            refine hK.out _ _ (held_ HST.out HA1.out HA2.out) (fun hHeld => ?_)
            clear hK K
            refine norm_ (a' := ?_) ?_ ?_
            rotate_left
            · show Act.put _ (some 34) _ = _
              simp only [Act.put, List.setIfInBounds_toArray, List.set_cons_zero, List.set_cons_succ, i64_w, i32_w]
              rfl
            refine pure_ (i := 16) (N := some 43) (v := ?_) (a' := ?_) #[true, true, true, true, true, true, true, true, true, true, true, true, true, true, true, false, true, false, false, false] rfl rfl (by kernel_rfl) (fun _ _ _ h => h) (Or.inl ⟨by rfl, ?_⟩) ?_ ?_
            rotate_left
            · intro w'
              go_simp
              with_reducible rfl
            rotate_left
            · simp only [Act.put, List.setIfInBounds_toArray, List.set_cons_zero, List.set_cons_succ, i64_w, i32_w]
              rfl
            refine one_ (i := 15) (N := some 42) #[true, true, true, true, true, true, true, true, true, true, true, true, true, true, true, true, true, false, false, false] rfl rfl (by kernel_rfl) (by decide) (fun K hK => ?_)
            refine Kd.R_append_rows_step (Kd.int .i64) (w0 := w) w.heap.size (by rfl) (.tmp 36) (.tmp 41) 22 2 (.int .i64 0) 8 rfl Try.underlying22 info2 rfl (by decide) (by omega) (.slice AS Sl.length cS) Sl [(rd ss x)] A41 1 c41 (fun _ => True) (fun _ => False) rfl rfl HST.out.rS (Kd.R_reads' HF41.out).2.2 (fun _ _ h => h) (fun _ h => h.elim) (fun _ _ => trivial) HST.out.bel HST.out.bel.size (by have := HLN.out; omega) ?_
            intro v42 w42 ho hb hg hat
            obtain ⟨A42, c42, e42⟩ := Kd.R_slice ho
            subst e42
            have n0_ := Aside0.mk (HST.out.swap_ ho hb hg hat)
            have n1_ := Aside0.mk (Nat.le_trans HZ.out hg.size)
            clear HST HZ HF41
            have HST := n0_
            have HZ := n1_
            clear n0_ n1_ ho hb hg hat 
            refine hK.out _ _ (held_ HST.out HA1.out HA2.out) (fun hHeld => ?_)
            clear hK K
            refine norm_ (a' := ?_) ?_ ?_
            rotate_left
            · show Act.put _ (some 42) _ = _
              simp only [Act.put, List.setIfInBounds_toArray, List.set_cons_zero, List.set_cons_succ, i64_w, i32_w]
              rfl
            exact norm_ (by simp only [putAll, Act.put, List.setIfInBounds_toArray, List.set_cons_zero, List.set_cons_succ]) (hCont (.slice A33 [rd hs x].length c33, .slice A41 [rd ss x].length c41, (A34, c34), (A42, c42)) _ HST.out)
        rintro ⟨v33, v41, ⟨A34, c34⟩, ⟨A42, c42⟩⟩ w5 h5
        have h5' : RenSt w w5 w1.heap.size (w1.heap.size + 1) w.heap.size (.slice A7 (normalL l).length c7) (.slice AH Hl.length cH) (.slice AS Sl.length cS) (.slice A34 (Hl ++ [rd hs x]).length c34) (.slice A42 (Sl ++ [rd ss x]).length c42) (normalL l) (Hl ++ [rd hs x]) (Sl ++ [rd ss x]) s (seenOf met) := h5
        have HST5 := Aside0.mk h5'
        clear h5 h5' HST HZ HBH HBS hHeld
        have hc0 : w5.cell? ⟨w1.heap.size + 1, 0, none⟩ = some (.slice A7 (normalL l).length c7) := (blk_cell HST5.out.blk 0).trans rfl
        have hc1 : w5.cell? ⟨w1.heap.size + 1, 1, none⟩ = some (.slice AH Hl.length cH) := (blk_cell HST5.out.blk 1).trans rfl
        have hc2 : w5.cell? ⟨w1.heap.size + 1, 2, none⟩ = some (.slice AS Sl.length cS) := (blk_cell HST5.out.blk 2).trans rfl
        have hf1 := blk_frozen HST5.out.blk 1
        have hf2 := blk_frozen HST5.out.blk 2
        refine norm_ (a' := ?_) ?_ ?_
        rotate_left
        · simp only [putAll, Act.put, List.setIfInBounds_toArray, List.set_cons_zero, List.set_cons_succ]
          rfl
        obtain ⟨nH, hnH⟩ : ∃ n_, n_ = (Hl ++ [rd hs x]).length := ⟨_, rfl⟩
        obtain ⟨nS, hnS⟩ : ∃ n_, n_ = (Sl ++ [rd ss x]).length := ⟨_, rfl⟩
        rw [← hnH, ← hnS] at HST5 ⊢
        have HNH := Aside0.mk hnH
        have HNS := Aside0.mk hnS
        clear hnH hnS
        refine last_ (i := 17) (N := none) #[true, true, true, true, true, true, true, true, true, true, true, true, true, true, true, true, true, true, false, false] rfl rfl (by kernel_rfl) (by decide) (fun K hK => ?_)
        refine skip_ (w1 := ?_) (by rfl) rfl ?_ ?_
        rotate_left
        · go_simp
          rfl
        refine hK.out _ _ ?_
        clear hK K
        refine pure_ (i := 18) (N := some 44) (v := ?_) (a' := ?_) #[true, true, true, true, true, true, true, true, true, true, true, true, true, true, true, true, true, true, true, false] rfl rfl (by kernel_rfl) (fun _ _ _ h => h) (Or.inl ⟨by rfl, ?_⟩) ?_ ?_
        rotate_left
        · intro w'
          go_simp
          with_reducible rfl
        rotate_left
        · simp only [Act.put, List.setIfInBounds_toArray, List.set_cons_zero, List.set_cons_succ, i64_w, i32_w]
          rfl
        refine last_ (i := 19) (N := none) #[true, true, true, true, true, true, true, true, true, true, true, true, true, true, true, true, true, true, true, true] rfl rfl (by kernel_rfl) (by decide) (fun K hK => ?_)
        refine skip_ (w1 := ?_) (by rfl) rfl ?_ ?_
        rotate_left
        · go_simp
          rfl
        refine hK.out _ _ ?_
        clear hK K
        refine done_ (by kernel_rfl) ?_
        have HST6 := Aside0.mk HST5.out.puts
        clear hc0 hc1 hc2 hf1 hf2 HST5
        -- END OF REGION 7
        go_wp2_with (first
          | (at_mapUpdate; refine mapStore rfl rfl law_i64 law_map_bool HST6.out.map (by have := HS.out; omega) rfl (.int .i64 x) (.bool true) (.int .i64 x) rfl rfl HK.out trivial ?_; intro w3 hM3 hg3; obtain ⟨s2, hs2, hM4⟩ : ∃ s2, s2 ≤ s + 1 ∧ MapV w3 Try.prog 2 w1.heap.size s2 (seenOf (met ++ [x])) := ⟨_, by split <;> omega, hM3.congr (fun kl _ => seenOf_snoc _ x kl)⟩; have HST7 := Aside0.mk (HST6.out.stored hM4 hg3); have HS2 := Aside0.mk hs2; clear HST6 hM3 hM4 hg3 hs2))
        go_roundw
        case rel =>
          refine ⟨k + 1, by omega, by omega, rfl, ⟨s2, A34, c34, A42, c42, by have := HS.out; have := HS2.out; omega, ?_⟩⟩
          rw [HN1.out, HN2.out, HMS.out]
          have h7 := HST7.out
          rw [HNH.out, HNS.out] at h7
          exact h7
        case measure => simp [intOf]; omega
    · obtain rfl : k = l.length := by omega
      have e1 : l.take ((l.length : Int)).toNat = l := by rw [show ((l.length : Int)).toNat = l.length by omega, List.take_length]
      rw [e1] at HST
      have hb1 := HST.out.blk
      have hb2 := HST.out.res
      have hne := HST.out.ne
      have hc0 : wr.cell? ⟨w1.heap.size + 1, 0, none⟩ = some (.slice A7 (normalL l).length c7) := (blk_cell hb1 0).trans rfl
      have hc1 : wr.cell? ⟨w1.heap.size + 1, 1, none⟩ = some (.slice AH (firsts l hs).length cH) := (blk_cell hb1 1).trans rfl
      have hc2 : wr.cell? ⟨w1.heap.size + 1, 2, none⟩ = some (.slice AS (firsts l ss).length cS) := (blk_cell hb1 2).trans rfl
      have hd0 : wr.cell? ⟨w.heap.size, 0, none⟩ = some (.slice none 0 0) := (blk_cell hb2 0).trans rfl
      have hd1 : wr.cell? ⟨w.heap.size, 1, none⟩ = some (.slice none 0 0) := (blk_cell hb2 1).trans rfl
      have hd2 : wr.cell? ⟨w.heap.size, 2, none⟩ = some (.slice none 0 0) := (blk_cell hb2 2).trans rfl
      have hf0 := blk_frozen hb2 0
      have hf1 := blk_frozen hb2 1
      have hf2 := blk_frozen hb2 2
      have HB1 := Aside0.mk hb1
      have HB2 := Aside0.mk hb2
      clear hb1 hb2
      go_wp2
      refine bodyPost_ret (results_cell_row rfl _ _ w.heap.size 34 #[.slice A7 (normalL l).length c7, .slice AH (firsts l hs).length cH, .slice AS (firsts l ss).length cS] (0, 0) _ rfl (blk_put (cs := #[.slice A7 (normalL l).length c7, .slice AH (firsts l hs).length cH, .slice none 0 0]) (blk_put (cs := #[.slice A7 (normalL l).length c7, .slice none 0 0, .slice none 0 0]) (blk_put HB2.out 0 _ rfl) 1 _ rfl) 2 _ rfl) Try.underlying34 rfl (by kernel_rfl)) rfl ?_
      have row : ∀ {v : Value} {l_ : List Int}, RI wr w.heap.size (fun _ => True) v l_ → some w.heap.size ≠ v.ownBlock → ∀ u0 u1 u2, RI (((wr.setCell ⟨w.heap.size, 0, none⟩ u0).setCell ⟨w.heap.size, 1, none⟩ u1).setCell ⟨w.heap.size, 2, none⟩ u2) w.heap.size (fun _ => True) v l_ := fun {v l_} hv hne u0 u1 u2 =>
        Kd.R_mono (Kd.R_far (Kd.R_far (Kd.R_far (Kd.R_far1 hv rfl hne) (p := ⟨w.heap.size, 0, none⟩) (fun _ hk => hk.2) u0) (p := ⟨w.heap.size, 1, none⟩) (fun _ hk => hk.2) u1) (p := ⟨w.heap.size, 2, none⟩) (fun _ hk => hk.2) u2) (fun _ _ => trivial)
      exact ⟨_, _, _, rfl, row HST.out.r7 (HST.out.blk_ne HST.out.r7).2 _ _ _, row HST.out.rH (HST.out.blk_ne HST.out.rH).2 _ _ _, row HST.out.rS (HST.out.blk_ne HST.out.rS).2 _ _ _, HST.out.s7H, HST.out.s7S, HST.out.sHS, HST.out.sSH, below_set (below_set (below_set HST.out.bel (Nat.le_refl _)) (Nat.le_refl _)) (Nat.le_refl _)⟩
def impl_renumbered.f (l0 l1 l2 : List Int) : Option (List Int × List Int × List Int) := if l0.length < 1099511627776 ∧ Ok64 l0 ∧ (∀ x ∈ l0, 0 ≤ x ∧ x < l1.length ∧ x < l2.length) then some (normalL l0, firsts l0 l1, firsts l0 l2) else none
theorem impl_renumbered.calls (A0 : Option Addr) (c0 : Nat) (l0 : List Int) (A1 : Option Addr) (c1 : Nat) (l1 : List Int) (A2 : Option Addr) (c2 : Nat) (l2 : List Int) (r1 : List Int) (r2 : List Int) (r3 : List Int) (w : World) (hr0 : Kd.C (Kd.int .i64) w A0 l0.length l0) (hc0 : l0.length ≤ c0) (hr1 : Kd.C (Kd.int .i64) w A1 l1.length l1) (hc1 : l1.length ≤ c1) (hr2 : Kd.C (Kd.int .i64) w A2 l2.length l2) (hc2 : l2.length ≤ c2) (h : impl_renumbered.f l0 l1 l2 = some (r1, r2, r3)) :
    Calls Try.prog 71 #[.slice A0 l0.length c0, .slice A1 l1.length c1, .slice A2 l2.length c2] w fun e w' => ∃ v0_ v1_ v2_ : Value, e = .returned (.agg #[v0_, v1_, v2_]) ∧ Kd.R (Kd.int .i64) 2 w' w.heap.size (fun k_ => some k_ ≠ (v1_ : Value).ownBlock ∧ some k_ ≠ (v2_ : Value).ownBlock) v0_ r1 ∧ Kd.R (Kd.int .i64) 2 w' w.heap.size (fun k_ => some k_ ≠ (v0_ : Value).ownBlock ∧ some k_ ≠ (v2_ : Value).ownBlock) v1_ r2 ∧ Kd.R (Kd.int .i64) 2 w' w.heap.size (fun k_ => some k_ ≠ (v0_ : Value).ownBlock ∧ some k_ ≠ (v1_ : Value).ownBlock) v2_ r3 ∧ Below w.heap.size w w' := by
  unfold impl_renumbered.f at h
  split at h
  case isFalse => cases h
  rename_i hh
  simp only [Option.some.injEq, Prod.mk.injEq] at h
  obtain ⟨rfl, rfl, rfl⟩ := h
  refine (c_renumbered A0 A1 A2 c0 c1 c2 l0 l1 l2 w hh.1 hh.2.1 hr0 hr1 hr2 hh.2.2).mono ?_
  rintro e w' ⟨v0, v1, v2, rfl, h0, h1, h2, s10, s20, s12, s21, hb⟩
  have sep : ∀ {u v : Value} {lu : List Int}, Kd.R (Kd.int .i64) 2 w' w.heap.size (fun _ => True) u lu → ∀ k, u.ownBlock = some k → k < w'.heap.size := fun hu k hk => Kd.R_lt hu k hk
  refine ⟨v0, v1, v2, rfl, ?_, ?_, ?_, hb⟩
  · exact ⟨fun k hk => ⟨fun e => s10 k e.symm hk.symm, fun e => s20 k e.symm hk.symm⟩, h0.2⟩
  · exact ⟨fun k hk => ⟨s10 k hk, s12 k hk⟩, h1.2⟩
  · exact ⟨fun k hk => ⟨s20 k hk, s21 k hk⟩, h2.2⟩
end Go.Proofs.Ytihfncjpfgdhoaa.K
end
section
namespace Go.Proofs.Ytihfncjpfgdhoaa.PA
open Go.RowKit Go.Proofs.YtihfncjpfgdhoaaW.PrintWords Go.Proofs.YtihfncjpfgdhoaaW.PrintLast Go.Proofs.YtihfncjpfgdhoaaW.PrintMore
attribute [local go_sem] max2_int min2_int max_two min_two max_three min_three max_four min_four   -- for this text's walks alone
open Go.Proofs.Ytihfncjpfgdhoaa.K
/-! ### spec_l07Order: function 103 -/
mutual
def spec_l07Order.l0 : Nat → List Int → List Int → Int → Option (List Int)
  | 0, _, _, _ => none
  | k + 1, x0, x3, x4 => if x4 < (x0.length : Int) then (spec_l07Order.l1 k x0 x3 x4 false 0) else (some x3)
def spec_l07Order.l1 : Nat → List Int → List Int → Int → Bool → Int → Option (List Int)
  | 0, _, _, _, _, _ => none
  | k + 1, x0, x3, x4, x5, x6 => if x6 < (x3.length : Int) then (if x5 = true then (spec_l07Order.l1 k x0 x3 x4 true (wrap64 (x6 + 1))) else (if 0 ≤ x6 then (if 0 ≤ x4 then (if x4 < (x0.length : Int) then (spec_l07Order.l1 k x0 x3 x4 ((rd x3 x6) == (rd x0 x4)) (wrap64 (x6 + 1))) else (none)) else (none)) else (none))) else (if x5 = true then (spec_l07Order.l0 k x0 x3 (wrap64 (x4 + 1))) else (if 0 ≤ x4 then (if x4 < (x0.length : Int) then (if x3.length < 17592186044416 then (spec_l07Order.l0 k x0 (x3 ++ [rd x0 x4]) (wrap64 (x4 + 1))) else (none)) else (none)) else (none)))
end
def spec_l07Order.f (k : Nat) (l0 : List Int) : Option (List Int) := spec_l07Order.l0 k l0 (([] : List Int)) 0
theorem spec_l07Order.mono_l : ∀ k, (∀ y0 y1 y2, LeO (spec_l07Order.l0 k y0 y1 y2) (spec_l07Order.l0 (k + 1) y0 y1 y2)) ∧ (∀ y0 y1 y2 y3 y4, LeO (spec_l07Order.l1 k y0 y1 y2 y3 y4) (spec_l07Order.l1 (k + 1) y0 y1 y2 y3 y4))
  | 0 => ⟨fun _ _ _ r h => by simp [spec_l07Order.l0] at h, fun _ _ _ _ _ r h => by simp [spec_l07Order.l1] at h⟩
  | k + 1 => by
    obtain ⟨ih0, ih1⟩ := spec_l07Order.mono_l k
    refine ⟨?_, ?_⟩
    · intro y0 y1 y2
      unfold spec_l07Order.l0
      repeat' first
      | (with_reducible exact ih0 _ _ _)
      | (with_reducible exact ih1 _ _ _ _ _)
      | (with_reducible exact LeO.refl _)
      | (with_reducible exact LeO.none _)
      | (with_reducible refine LeO.ite ?_ ?_)
      | (with_reducible refine LeO.bind ?_ (fun _ => ?_))
      | exact ih0 _ _ _
      | exact ih1 _ _ _ _ _
      | exact LeO.none _
      | refine LeO.ite ?_ ?_
      | refine LeO.bind ?_ (fun _ => ?_)
    · intro y0 y1 y2 y3 y4
      unfold spec_l07Order.l1
      repeat' first
      | (with_reducible exact ih0 _ _ _)
      | (with_reducible exact ih1 _ _ _ _ _)
      | (with_reducible exact LeO.refl _)
      | (with_reducible exact LeO.none _)
      | (with_reducible refine LeO.ite ?_ ?_)
      | (with_reducible refine LeO.bind ?_ (fun _ => ?_))
      | exact ih0 _ _ _
      | exact ih1 _ _ _ _ _
      | exact LeO.none _
      | refine LeO.ite ?_ ?_
      | refine LeO.bind ?_ (fun _ => ?_)
theorem spec_l07Order.mono : ∀ a0 k, LeO (spec_l07Order.f k a0) (spec_l07Order.f (k + 1) a0) := by
  intro a0 k
  obtain ⟨ih0, ih1⟩ := spec_l07Order.mono_l k
  unfold spec_l07Order.f
  repeat' first
      | (with_reducible exact ih0 _ _ _)
      | (with_reducible exact ih1 _ _ _ _ _)
      | (with_reducible exact LeO.refl _)
      | (with_reducible exact LeO.none _)
      | (with_reducible refine LeO.ite ?_ ?_)
      | (with_reducible refine LeO.bind ?_ (fun _ => ?_))
      | exact ih0 _ _ _
      | exact ih1 _ _ _ _ _
      | exact LeO.none _
      | refine LeO.ite ?_ ?_
      | refine LeO.bind ?_ (fun _ => ?_)
set_option maxHeartbeats 8000000 in
set_option maxRecDepth 100000 in
theorem spec_l07Order.calls (k : Nat) (A0 : Option Addr) (c0 : Nat) (l0 : List Int) (r : List Int) (w : World) (hr0 : Kd.C (Kd.int .i64) w A0 l0.length l0) (hc0 : l0.length ≤ c0) (h : spec_l07Order.f k l0 = some r) :
    Calls Try.prog 103 #[.slice A0 l0.length c0] w fun e w' => ∃ v0_ : Value, e = .returned (v0_) ∧ Kd.R (Kd.int .i64) 2 w' w.heap.size (fun _ => True) v0_ r ∧ Below w.heap.size w w' := by
  have HR0 := Aside0.mk hr0
  have HC0 := Aside0.mk hc0
  clear hr0 hc0
  have HB := mk0 (Below.refl w.heap.size w)
  have H : (spec_l07Order.l0 k l0 (([] : List Int)) 0) = some r := h
  clear h
  obtain ⟨y180, hy180⟩ : ∃ y_ : List Int, y_ = (([] : List Int)) := ⟨_, rfl⟩
  replace H : (spec_l07Order.l0 k l0 y180 0) = some r := by first | (rw [hy180]; with_reducible exact H) | (have H2_ := (Option.bind_some _ _).symm.trans H; rw [hy180]; with_reducible exact H2_) | (have H2_ := (Option.bind_some _ _).symm.trans H; with_reducible exact H2_) | with_reducible exact H | (rw [hy180]; exact H) | exact H
  have Ny180 := Aside0.mk hy180
  clear hy180
  have H' := Aside0.mk H
  clear H
  go_enter Try.func103, Try.ntmps103
  go_wp2_with (first | ((with_reducible refine gate_dst (N := 7) rfl ?_); refine Kd.R_lit (Kd.int .i64) _ 2 ?hg (N := 7) ?hd (xs := ([] : List Int)) (inner := []) (ok := fun _ => True) (okp := fun _ => True) ?hr ?hp (fun _ hk => hk) trivial (Below.refl _ _) (Nat.le_refl _) (by simp) ?_; (case hd => rfl); (case hg => rfl); (case hr => first | (go_simp; done) | (go_simp; rfl)); (case hp => exact (Reps.none _ _)); intro v181 w2 ho3 hb hg_ hnew_; clear hg_ hnew_; (first | rw [← Ny180.out] at ho3 | (simp only [Int.reduceToNat] at ho3; rw [← Ny180.out] at ho3)); have n0_ := mk0 (Kd.R_lower ho3 (below_size (by repeat (first | exact HB.out | apply below_alloc | apply pw_below_drewN | apply below_drew1)))); have n1_ := mk0 (below_step (by repeat (first | exact HB.out | apply below_alloc | apply pw_below_drewN | apply below_drew1)) hb); clear HB; have HO182 := n0_; have HB := n1_; clear n0_ n1_; clear hb ho3))
  repeat (go_quiet (first | ((with_reducible refine gate_dst (N := 7) rfl ?_); refine Kd.R_lit (Kd.int .i64) _ 2 ?hg (N := 7) ?hd (xs := ([] : List Int)) (inner := []) (ok := fun _ => True) (okp := fun _ => True) ?hr ?hp (fun _ hk => hk) trivial (Below.refl _ _) (Nat.le_refl _) (by simp) ?_; (case hd => rfl); (case hg => rfl); (case hr => first | (go_simp; done) | (go_simp; rfl)); (case hp => exact (Reps.none _ _)); intro v181 w2 ho3 hb hg_ hnew_; clear hg_ hnew_; (first | rw [← Ny180.out] at ho3 | (simp only [Int.reduceToNat] at ho3; rw [← Ny180.out] at ho3)); have n0_ := mk0 (Kd.R_lower ho3 (below_size (by repeat (first | exact HB.out | apply below_alloc | apply pw_below_drewN | apply below_drew1)))); have n1_ := mk0 (below_step (by repeat (first | exact HB.out | apply below_alloc | apply pw_below_drewN | apply below_drew1)) hb); clear HB; have HO182 := n0_; have HB := n1_; clear n0_ n1_; clear hb ho3)); try go_wp2_with (first | ((with_reducible refine gate_dst (N := 7) rfl ?_); refine Kd.R_lit (Kd.int .i64) _ 2 ?hg (N := 7) ?hd (xs := ([] : List Int)) (inner := []) (ok := fun _ => True) (okp := fun _ => True) ?hr ?hp (fun _ hk => hk) trivial (Below.refl _ _) (Nat.le_refl _) (by simp) ?_; (case hd => rfl); (case hg => rfl); (case hr => first | (go_simp; done) | (go_simp; rfl)); (case hp => exact (Reps.none _ _)); intro v181 w2 ho3 hb hg_ hnew_; clear hg_ hnew_; (first | rw [← Ny180.out] at ho3 | (simp only [Int.reduceToNat] at ho3; rw [← Ny180.out] at ho3)); have n0_ := mk0 (Kd.R_lower ho3 (below_size (by repeat (first | exact HB.out | apply below_alloc | apply pw_below_drewN | apply below_drew1)))); have n1_ := mk0 (below_step (by repeat (first | exact HB.out | apply below_alloc | apply pw_below_drewN | apply below_drew1)) hb); clear HB; have HO182 := n0_; have HB := n1_; clear n0_ n1_; clear hb ho3)))
  go_loopg [3, 4] k (fun kq v3 v4 w' => ∃ (x3_1 : List Int) (x4_1 : Int), v4 = .int .i64 x4_1 ∧ Aside0 (spec_l07Order.l0 kq l0 x3_1 x4_1 = some r) ∧ Aside0 (kq ≤ k) ∧ Aside0 (Kd.R (Kd.int .i64) 2 w' w.heap.size (fun _ => True) v3 x3_1) ∧ Aside0 (Below w.heap.size w w'))
  case atStart => exact ⟨(y180), (0), (by first | rfl | (simp; done) | (simp [*]; done)), H', ⟨Nat.le_refl _⟩, ⟨by exact HO182.out⟩, ⟨by repeat (first | exact HB.out | apply below_alloc | apply pw_below_drewN | apply below_drew1)⟩⟩
  case round =>
    clear H'
    try clear c1
    try clear p2
    obtain ⟨x3_1, x4_1, rfl, HA, HK1, HO_3, HB⟩ := hrel
    cases gk with
    | zero => exact absurd HA.out (by simp [spec_l07Order.l0])
    | succ k1 =>
      have H := HA.out
      clear HA
      simp only [spec_l07Order.l0] at H
      by_cases c4 : x4_1 < (l0.length : Int)
      · rw [if_pos c4] at H
        have c4b0 : decide (x4_1 < (l0.length : Int)) = true := decide_eq_true c4
        clear c4
        have H' := Aside0.mk H
        clear H
        go_wp2
        repeat (go_quiet (fail); try go_wp2)
        go_loopg [5, 6] k1 (fun kq v5 v6 w' => ∃ (x5_2 : Bool) (x6_2 : Int), v5 = .bool x5_2 ∧ v6 = .int .i64 x6_2 ∧ Aside0 (spec_l07Order.l1 kq l0 x3_1 x4_1 x5_2 x6_2 = some r) ∧ Aside0 (kq ≤ k1) ∧ Aside0 (Kd.R (Kd.int .i64) 2 w' w.heap.size (fun _ => True) u3 x3_1) ∧ Aside0 (Below w.heap.size w w'))
        case atStart => exact ⟨(false), (0), (by first | rfl | (simp; done) | (simp [*]; done)), (by first | rfl | (simp; done) | (simp [*]; done)), H', ⟨Nat.le_refl _⟩, ⟨by exact HO_3.out⟩, ⟨by repeat (first | exact HB.out | apply below_alloc | apply pw_below_drewN | apply below_drew1)⟩⟩
        case round =>
          clear H'
          try clear c1
          try clear p2
          try clear c4
          try clear c4b0
          try clear p2
          obtain ⟨x5_2, x6_2, rfl, rfl, HA, HK2, HO_3, HB⟩ := hrel
          cases gk with
          | zero => exact absurd HA.out (by simp [spec_l07Order.l1])
          | succ k2 =>
            have H := HA.out
            clear HA
            simp only [spec_l07Order.l1] at H
            by_cases c5 : x6_2 < (x3_1.length : Int)
            · rw [if_pos c5] at H
              have c5b0 : decide (x6_2 < (x3_1.length : Int)) = true := decide_eq_true c5
              clear c5
              by_cases c6 : x5_2 = true
              · subst c6
                have H1 : (spec_l07Order.l1 k2 l0 x3_1 x4_1 true (wrap64 (x6_2 + 1))) = some r := by rw [if_pos rfl] at H; exact H
                clear H
                have H := H1
                clear H1
                have H' := Aside0.mk H
                clear H
                obtain ⟨Ao7, co7, eo7⟩ := Kd.R_slice HO_3.out
                subst eo7
                go_wp2
                repeat (go_quiet (fail); try go_wp2)
                go_roundg k2
                case measure => have := HK1.out; have := HK2.out; omega
                case rel => exact ⟨(true), (wrap64 (x6_2 + 1)), (by first | rfl | (simp; done) | (simp [*]; done)), (by first | rfl | (simp; done) | (simp [*]; done)), H', ⟨by have := HK1.out; have := HK2.out; omega⟩, ⟨by exact HO_3.out⟩, ⟨by repeat (first | exact HB.out | apply below_alloc | apply pw_below_drewN | apply below_drew1)⟩⟩
              · replace c6 := Bool.eq_false_iff.mpr c6
                subst c6
                have H1 : (if 0 ≤ x6_2 then (if 0 ≤ x4_1 then (if x4_1 < (l0.length : Int) then (spec_l07Order.l1 k2 l0 x3_1 x4_1 ((rd x3_1 x6_2) == (rd l0 x4_1)) (wrap64 (x6_2 + 1))) else (none)) else (none)) else (none)) = some r := by rw [if_neg (show ¬ (false = true) by decide)] at H; exact H
                clear H
                have H := H1
                clear H1
                by_cases c8 : 0 ≤ x6_2
                · rw [if_pos c8] at H
                  have c8b0 : decide (0 ≤ x6_2) = true := decide_eq_true c8
                  clear c8
                  by_cases c9 : 0 ≤ x4_1
                  · rw [if_pos c9] at H
                    have c9b0 : decide (0 ≤ x4_1) = true := decide_eq_true c9
                    clear c9
                    by_cases c10 : x4_1 < (l0.length : Int)
                    · rw [if_pos c10] at H
                      have c10b0 : decide (x4_1 < (l0.length : Int)) = true := decide_eq_true c10
                      clear c10
                      have H' := Aside0.mk H
                      clear H
                      obtain ⟨Ao11, co11, eo11⟩ := Kd.R_slice HO_3.out
                      subst eo11
                      have p183 : 0 ≤ (x6_2 : Int) := of_decide_eq_true (by first | (with_reducible assumption) | assumption)
                      have q183 : x6_2 < (x3_1.length : Int) := of_decide_eq_true (by first | (with_reducible assumption) | assumption)
                      obtain ⟨ad183, e183, hx183_0⟩ := Kd.at_int (Kd.R_reads' HO_3.out).2.2 x6_2 p183 q183
                      cases e183
                      replace p183 := eq_true p183
                      replace q183 := eq_true q183
                      have p184 : 0 ≤ (x4_1 : Int) := of_decide_eq_true (by first | (with_reducible assumption) | assumption)
                      have q184 : x4_1 < (l0.length : Int) := of_decide_eq_true (by first | (with_reducible assumption) | assumption)
                      obtain ⟨ad184, e184, hx184_0⟩ := Kd.at_int HR0.out x4_1 p184 q184
                      cases e184
                      replace hx184_0 := (HB.out.cell (World.block_lt_of_cell? w _ hx184_0)).trans hx184_0
                      replace p184 := eq_true p184
                      replace q184 := eq_true q184
                      go_wp2
                      repeat (go_quiet (fail); try go_wp2)
                      go_roundg k2
                      case measure => have := HK1.out; have := HK2.out; omega
                      case rel => exact ⟨(((rd x3_1 x6_2) == (rd l0 x4_1))), (wrap64 (x6_2 + 1)), (by first | rfl | (simp; done) | (simp [*]; done)), (by first | rfl | (simp; done) | (simp [*]; done)), H', ⟨by have := HK1.out; have := HK2.out; omega⟩, ⟨by exact HO_3.out⟩, ⟨by repeat (first | exact HB.out | apply below_alloc | apply pw_below_drewN | apply below_drew1)⟩⟩
                    · rw [if_neg c10] at H
                      exact absurd H (by simp)
                  · rw [if_neg c9] at H
                    exact absurd H (by simp)
                · rw [if_neg c8] at H
                  exact absurd H (by simp)
            · rw [if_neg c5] at H
              have c5b0 : decide (x6_2 < (x3_1.length : Int)) = false := decide_eq_false c5
              clear c5
              by_cases c12 : x5_2 = true
              · subst c12
                have H1 : (spec_l07Order.l0 k2 l0 x3_1 (wrap64 (x4_1 + 1))) = some r := by rw [if_pos rfl] at H; exact H
                clear H
                have H := H1
                clear H1
                have H' := Aside0.mk H
                clear H
                obtain ⟨Ao13, co13, eo13⟩ := Kd.R_slice HO_3.out
                subst eo13
                go_wp2
                repeat (go_quiet (fail); try go_wp2)
                go_roundg k2
                case measure => have := HK1.out; have := HK2.out; omega
                case rel => exact ⟨(x3_1), (wrap64 (x4_1 + 1)), (by first | rfl | (simp; done) | (simp [*]; done)), H', ⟨by have := HK1.out; have := HK2.out; omega⟩, ⟨by exact HO_3.out⟩, ⟨by repeat (first | exact HB.out | apply below_alloc | apply pw_below_drewN | apply below_drew1)⟩⟩
              · replace c12 := Bool.eq_false_iff.mpr c12
                subst c12
                have H1 : (if 0 ≤ x4_1 then (if x4_1 < (l0.length : Int) then (if x3_1.length < 17592186044416 then (spec_l07Order.l0 k2 l0 (x3_1 ++ [rd l0 x4_1]) (wrap64 (x4_1 + 1))) else (none)) else (none)) else (none)) = some r := by rw [if_neg (show ¬ (false = true) by decide)] at H; exact H
                clear H
                have H := H1
                clear H1
                by_cases c14 : 0 ≤ x4_1
                · rw [if_pos c14] at H
                  have c14b0 : decide (0 ≤ x4_1) = true := decide_eq_true c14
                  clear c14
                  by_cases c15 : x4_1 < (l0.length : Int)
                  · rw [if_pos c15] at H
                    have c15b0 : decide (x4_1 < (l0.length : Int)) = true := decide_eq_true c15
                    clear c15
                    by_cases c16 : x3_1.length < 17592186044416
                    · rw [if_pos c16] at H
                      have LMc16 := Aside0.mk c16
                      clear c16
                      obtain ⟨y186, hy186⟩ : ∃ y_ : List Int, y_ = (x3_1 ++ [rd l0 x4_1]) := ⟨_, rfl⟩
                      replace H : (spec_l07Order.l0 k2 l0 y186 (wrap64 (x4_1 + 1))) = some r := by first | (rw [hy186]; with_reducible exact H) | (have H2_ := (Option.bind_some _ _).symm.trans H; rw [hy186]; with_reducible exact H2_) | (have H2_ := (Option.bind_some _ _).symm.trans H; with_reducible exact H2_) | with_reducible exact H | (rw [hy186]; exact H) | exact H
                      have Ny186 := Aside0.mk hy186
                      clear hy186
                      have H' := Aside0.mk H
                      clear H
                      obtain ⟨Ao17, co17, eo17⟩ := Kd.R_slice HO_3.out
                      subst eo17
                      have p185 : 0 ≤ (x4_1 : Int) := of_decide_eq_true (by first | (with_reducible assumption) | assumption)
                      have q185 : x4_1 < (l0.length : Int) := of_decide_eq_true (by first | (with_reducible assumption) | assumption)
                      obtain ⟨ad185, e185, hx185_0⟩ := Kd.at_int HR0.out x4_1 p185 q185
                      cases e185
                      replace hx185_0 := (HB.out.cell (World.block_lt_of_cell? w _ hx185_0)).trans hx185_0
                      replace p185 := eq_true p185
                      replace q185 := eq_true q185
                      go_wp2_with (first | ((with_reducible refine gate_builtin (b := .append) (xs := #[.tmp 34, .tmp 39]) rfl ?_); at_builtin; refine Kd.R_append (Kd.int .i64) (w0 := w) w.heap.size rfl (.tmp 34) (.tmp 39) 22 2 (.int .i64 0) 8 rfl Try.underlying22 info2 rfl (by decide) (by omega) (.slice Ao17 x3_1.length co17) x3_1 (rd l0 x4_1) [.int .i64 (rd l0 x4_1)] (fun _ => True) (fun _ => False) rfl rfl ?aP (fun _ hk => hk.elim) ?aF ?aO ?aB ?aS ?aL ?_; (case aP => exact rfl); (case aB => exact (by repeat (first | exact HB.out | apply below_alloc | apply pw_below_drewN | apply below_drew1))); (case aF => exact (fun _ _ => trivial)); (case aO => exact HO_3.out); (case aS => exact (below_size (by repeat (first | exact HB.out | apply below_alloc | apply pw_below_drewN | apply below_drew1)))); (case aL => have := LMc16.out; omega); intro v187 w18 ho hb hg hat; rw [← Ny186.out] at ho; have n0_ := mk0 (hb); have n1_ := mk0 (ho); clear HB; clear HO_3; have HB := n0_; have HO188 := n1_; clear n0_ n1_; clear ho hb hg hat))
                      repeat (go_quiet (first | ((with_reducible refine gate_builtin (b := .append) (xs := #[.tmp 34, .tmp 39]) rfl ?_); at_builtin; refine Kd.R_append (Kd.int .i64) (w0 := w) w.heap.size rfl (.tmp 34) (.tmp 39) 22 2 (.int .i64 0) 8 rfl Try.underlying22 info2 rfl (by decide) (by omega) (.slice Ao17 x3_1.length co17) x3_1 (rd l0 x4_1) [.int .i64 (rd l0 x4_1)] (fun _ => True) (fun _ => False) rfl rfl ?aP (fun _ hk => hk.elim) ?aF ?aO ?aB ?aS ?aL ?_; (case aP => exact rfl); (case aB => exact (by repeat (first | exact HB.out | apply below_alloc | apply pw_below_drewN | apply below_drew1))); (case aF => exact (fun _ _ => trivial)); (case aO => exact HO_3.out); (case aS => exact (below_size (by repeat (first | exact HB.out | apply below_alloc | apply pw_below_drewN | apply below_drew1)))); (case aL => have := LMc16.out; omega); intro v187 w18 ho hb hg hat; rw [← Ny186.out] at ho; have n0_ := mk0 (hb); have n1_ := mk0 (ho); clear HB; clear HO_3; have HB := n0_; have HO188 := n1_; clear n0_ n1_; clear ho hb hg hat)); try go_wp2_with (first | ((with_reducible refine gate_builtin (b := .append) (xs := #[.tmp 34, .tmp 39]) rfl ?_); at_builtin; refine Kd.R_append (Kd.int .i64) (w0 := w) w.heap.size rfl (.tmp 34) (.tmp 39) 22 2 (.int .i64 0) 8 rfl Try.underlying22 info2 rfl (by decide) (by omega) (.slice Ao17 x3_1.length co17) x3_1 (rd l0 x4_1) [.int .i64 (rd l0 x4_1)] (fun _ => True) (fun _ => False) rfl rfl ?aP (fun _ hk => hk.elim) ?aF ?aO ?aB ?aS ?aL ?_; (case aP => exact rfl); (case aB => exact (by repeat (first | exact HB.out | apply below_alloc | apply pw_below_drewN | apply below_drew1))); (case aF => exact (fun _ _ => trivial)); (case aO => exact HO_3.out); (case aS => exact (below_size (by repeat (first | exact HB.out | apply below_alloc | apply pw_below_drewN | apply below_drew1)))); (case aL => have := LMc16.out; omega); intro v187 w18 ho hb hg hat; rw [← Ny186.out] at ho; have n0_ := mk0 (hb); have n1_ := mk0 (ho); clear HB; clear HO_3; have HB := n0_; have HO188 := n1_; clear n0_ n1_; clear ho hb hg hat)))
                      go_roundg k2
                      case measure => have := HK1.out; have := HK2.out; omega
                      case rel => exact ⟨(y186), (wrap64 (x4_1 + 1)), (by first | rfl | (simp; done) | (simp [*]; done)), H', ⟨by have := HK1.out; have := HK2.out; omega⟩, ⟨by exact HO188.out⟩, ⟨by repeat (first | exact HB.out | apply below_alloc | apply pw_below_drewN | apply below_drew1)⟩⟩
                    · rw [if_neg c16] at H
                      exact absurd H (by simp)
                  · rw [if_neg c15] at H
                    exact absurd H (by simp)
                · rw [if_neg c14] at H
                  exact absurd H (by simp)
      · rw [if_neg c4] at H
        have c4b0 : decide (x4_1 < (l0.length : Int)) = false := decide_eq_false c4
        clear c4
        obtain rfl := Option.some.inj H
        go_wp2
        repeat (go_quiet (fail); try go_wp2)
        go_ret
        exact ⟨_, by first | rfl | (simp [errW_none, errW_some] <;> rfl) | (simp [*, errW_none, errW_some] <;> rfl), by exact HO_3.out, by repeat (first | exact HB.out | apply below_alloc | apply pw_below_drewN | apply below_drew1)⟩
end Go.Proofs.Ytihfncjpfgdhoaa.PA
end
section
namespace Go.Proofs.Ytihfncjpfgdhoaa.PA
open Go.RowKit Go.Proofs.YtihfncjpfgdhoaaW.PrintWords Go.Proofs.YtihfncjpfgdhoaaW.PrintLast Go.Proofs.YtihfncjpfgdhoaaW.PrintMore
attribute [local go_sem] max2_int min2_int max_two min_two max_three min_three max_four min_four   -- for this text's walks alone
open Go.Proofs.Ytihfncjpfgdhoaa.K
/-! ### spec_l07Normal: function 68 -/
def spec_l07Normal.l0 : Nat → List Int → List Int → List Int → Int → List Int → List Int → List Int → Option (List Int × List Int × List Int)
  | 0, _, _, _, _, _, _, _ => none
  | k + 1, x1, x2, x7, x9, x203000, x203001, x203002 => if x9 < (x7.length : Int) then (if 0 ≤ x9 then (if 0 ≤ (rd x7 x9) then (if (rd x7 x9) < (x1.length : Int) then (if x203001.length < 17592186044416 then (if (rd x7 x9) < (x2.length : Int) then (if x203002.length < 17592186044416 then (spec_l07Normal.l0 k x1 x2 x7 (wrap64 (x9 + 1)) x203000 (x203001 ++ [rd x1 (rd x7 x9)]) (x203002 ++ [rd x2 (rd x7 x9)])) else (none)) else (none)) else (none)) else (none)) else (none)) else (none)) else (some (x203000, x203001, x203002))
def spec_l07Normal.f (k : Nat) (l0 : List Int) (l1 : List Int) (l2 : List Int) : Option (List Int × List Int × List Int) := (spec_l07Order.f k l0).bind fun t190 => ((spec_l01Normal.f k l0).bind fun t193 => (spec_l07Normal.l0 k l1 l2 t190 0 t193 (([] : List Int)) (([] : List Int))))
theorem spec_l07Normal.mono_l : ∀ k, (∀ y0 y1 y2 y3 y4 y5 y6, LeO (spec_l07Normal.l0 k y0 y1 y2 y3 y4 y5 y6) (spec_l07Normal.l0 (k + 1) y0 y1 y2 y3 y4 y5 y6))
  | 0 => fun _ _ _ _ _ _ _ r h => by simp [spec_l07Normal.l0] at h
  | k + 1 => by
    have ih0 := spec_l07Normal.mono_l k
    · intro y0 y1 y2 y3 y4 y5 y6
      unfold spec_l07Normal.l0
      repeat' first
      | (with_reducible exact ih0 _ _ _ _ _ _ _)
      | (with_reducible exact spec_l01Normal.mono _ _)
      | (with_reducible exact spec_l07Order.mono _ _)
      | (with_reducible exact LeO.refl _)
      | (with_reducible exact LeO.none _)
      | (with_reducible refine LeO.ite ?_ ?_)
      | (with_reducible refine LeO.bind ?_ (fun _ => ?_))
      | exact ih0 _ _ _ _ _ _ _
      | exact spec_l01Normal.mono _ _
      | exact spec_l07Order.mono _ _
      | exact LeO.none _
      | refine LeO.ite ?_ ?_
      | refine LeO.bind ?_ (fun _ => ?_)
theorem spec_l07Normal.mono : ∀ a0 a1 a2 k, LeO (spec_l07Normal.f k a0 a1 a2) (spec_l07Normal.f (k + 1) a0 a1 a2) := by
  intro a0 a1 a2 k
  have ih0 := spec_l07Normal.mono_l k
  unfold spec_l07Normal.f
  repeat' first
      | (with_reducible exact ih0 _ _ _ _ _ _ _)
      | (with_reducible exact spec_l01Normal.mono _ _)
      | (with_reducible exact spec_l07Order.mono _ _)
      | (with_reducible exact LeO.refl _)
      | (with_reducible exact LeO.none _)
      | (with_reducible refine LeO.ite ?_ ?_)
      | (with_reducible refine LeO.bind ?_ (fun _ => ?_))
      | exact ih0 _ _ _ _ _ _ _
      | exact spec_l01Normal.mono _ _
      | exact spec_l07Order.mono _ _
      | exact LeO.none _
      | refine LeO.ite ?_ ?_
      | refine LeO.bind ?_ (fun _ => ?_)
def spec_l07Normal.T5 : Bool × List (List Nat × List Nat) := (true, [([], []), ([0], [0]), ([], []), ([], []), ([], []), ([3, 4], [3, 4]), ([5], [5]), ([2, 6], [2, 6]), ([7], [7]), ([8], [8]), ([1, 9], [1, 9]), ([0, 1, 2, 3, 4, 5, 6, 7, 8, 9, 10], []), ([11, 10, 10, 0, 1, 2, 3, 4, 5, 6, 7, 8, 9, 10], [10, 11])])
def spec_l07Normal.B5 : List Nat := [0, 1, 0, 0, 0, 24, 56, 124, 252, 508, 1023, 2047, 4095]
theorem spec_l07Normal.tab5 : rtab .any (opsOf Try.f68 5) = spec_l07Normal.T5 := by kernel_rfl
theorem spec_l07Normal.bits5 : waitsOk spec_l07Normal.T5.2 spec_l07Normal.B5 = true := by kernel_rfl
def spec_l07Normal.T6 : Bool × List (List Nat × List Nat) := (true, [([], []), ([0], [0]), ([], []), ([], []), ([], []), ([3, 4], [3, 4]), ([5], [5]), ([2, 6], [2, 6]), ([7], [7]), ([8], [8]), ([1, 9], [1, 9]), ([0, 1, 2, 3, 4, 5, 6, 7, 8, 9, 10], []), ([11, 10, 10, 0, 1, 2, 3, 4, 5, 6, 7, 8, 9, 10], [10, 11])])
def spec_l07Normal.B6 : List Nat := [0, 1, 0, 0, 0, 24, 56, 124, 252, 508, 1023, 2047, 4095]
theorem spec_l07Normal.tab6 : rtab .any (opsOf Try.f68 6) = spec_l07Normal.T6 := by kernel_rfl
theorem spec_l07Normal.bits6 : waitsOk spec_l07Normal.T6.2 spec_l07Normal.B6 = true := by kernel_rfl
set_option maxHeartbeats 8000000 in
set_option maxRecDepth 100000 in
theorem spec_l07Normal.calls (k : Nat) (A0 : Option Addr) (c0 : Nat) (l0 : List Int) (A1 : Option Addr) (c1 : Nat) (l1 : List Int) (A2 : Option Addr) (c2 : Nat) (l2 : List Int) (r1 : List Int) (r2 : List Int) (r3 : List Int) (w : World) (hr0 : Kd.C (Kd.int .i64) w A0 l0.length l0) (hc0 : l0.length ≤ c0) (hr1 : Kd.C (Kd.int .i64) w A1 l1.length l1) (hc1 : l1.length ≤ c1) (hr2 : Kd.C (Kd.int .i64) w A2 l2.length l2) (hc2 : l2.length ≤ c2) (h : spec_l07Normal.f k l0 l1 l2 = some (r1, r2, r3)) :
    Calls Try.prog 68 #[.slice A0 l0.length c0, .slice A1 l1.length c1, .slice A2 l2.length c2] w fun e w' => ∃ v0_ v1_ v2_ : Value, e = .returned (.agg #[v0_, v1_, v2_]) ∧ Kd.R (Kd.int .i64) 2 w' w.heap.size (fun k_ => some k_ ≠ (v1_ : Value).ownBlock ∧ some k_ ≠ (v2_ : Value).ownBlock) v0_ r1 ∧ Kd.R (Kd.int .i64) 2 w' w.heap.size (fun k_ => some k_ ≠ (v0_ : Value).ownBlock ∧ some k_ ≠ (v2_ : Value).ownBlock) v1_ r2 ∧ Kd.R (Kd.int .i64) 2 w' w.heap.size (fun k_ => some k_ ≠ (v0_ : Value).ownBlock ∧ some k_ ≠ (v1_ : Value).ownBlock) v2_ r3 ∧ Below w.heap.size w w' := by
  have hu34 := Try.underlying34
  have HR0 := Aside0.mk hr0
  have HC0 := Aside0.mk hc0
  clear hr0 hc0
  have HR1 := Aside0.mk hr1
  have HC1 := Aside0.mk hc1
  clear hr1 hc1
  have HR2 := Aside0.mk hr2
  have HC2 := Aside0.mk hc2
  clear hr2 hc2
  have HB := mk0 (Below.refl w.heap.size w)
  have H : ((spec_l07Order.f k l0).bind fun t190 => ((spec_l01Normal.f k l0).bind fun t193 => (spec_l07Normal.l0 k l1 l2 t190 0 t193 (([] : List Int)) (([] : List Int))))) = some (r1, r2, r3) := h
  clear h
  replace H := Option.bind_eq_some_iff.mp H
  obtain ⟨t190, A40, H⟩ := H
  replace H : ((spec_l01Normal.f k l0).bind fun t193 => (spec_l07Normal.l0 k l1 l2 t190 0 t193 (([] : List Int)) (([] : List Int)))) = some (r1, r2, r3) := H
  have A4 := Aside0.mk A40
  clear A40
  replace H := Option.bind_eq_some_iff.mp H
  obtain ⟨t193, A50, H⟩ := H
  replace H : (spec_l07Normal.l0 k l1 l2 t190 0 t193 (([] : List Int)) (([] : List Int))) = some (r1, r2, r3) := H
  have A5 := Aside0.mk A50
  clear A50
  obtain ⟨y196, hy196⟩ : ∃ y_ : List Int, y_ = (([] : List Int)) := ⟨_, rfl⟩
  replace H : (spec_l07Normal.l0 k l1 l2 t190 0 t193 y196 (([] : List Int))) = some (r1, r2, r3) := by first | (rw [hy196]; with_reducible exact H) | (have H2_ := (Option.bind_some _ _).symm.trans H; rw [hy196]; with_reducible exact H2_) | (have H2_ := (Option.bind_some _ _).symm.trans H; with_reducible exact H2_) | with_reducible exact H | (rw [hy196]; exact H) | exact H
  have Ny196 := Aside0.mk hy196
  clear hy196
  obtain ⟨y199, hy199⟩ : ∃ y_ : List Int, y_ = (([] : List Int)) := ⟨_, rfl⟩
  replace H : (spec_l07Normal.l0 k l1 l2 t190 0 t193 y196 y199) = some (r1, r2, r3) := by first | (rw [hy199]; with_reducible exact H) | (have H2_ := (Option.bind_some _ _).symm.trans H; rw [hy199]; with_reducible exact H2_) | (have H2_ := (Option.bind_some _ _).symm.trans H; with_reducible exact H2_) | with_reducible exact H | (rw [hy199]; exact H) | exact H
  have Ny199 := Aside0.mk hy199
  clear hy199
  have H' := Aside0.mk H
  clear H
  go_enter Try.func68, Try.ntmps68
  go_wp2_with (first | ((with_reducible refine gate_dst (N := 6) rfl ?_); refine box_event ?hg (N := 6) ?hd (cs := #[.slice none 0 0, .slice none 0 0, .slice none 0 0]) (t := 34) ?hr ?_; (case hd => rfl); (case hg => rfl); (case hr => first | (go_simp; done) | (go_simp; rfl)); intro gb189 hg w6 hbox hb; have n0_ := mk0 (below_step HB.out hb); have n1_ := mk0 (hbox); have n2_ := mk0 ((by rw [hg]; exact (below_size HB.out) : w.heap.size ≤ gb189)); have n3_ := mk0 ((by rw [hg]; exact (below_size HB.out) : w.heap.size ≤ gb189)); clear HB; have HB := n0_; have BK189 := n1_; have GW189 := n2_; have GE189 := n3_; clear n0_ n1_ n2_ n3_; clear hb hbox hg) | ((with_reducible refine gate_callee (f := 103) rfl ?_); refine goesL_ (some 11) rfl rfl Try.func103 (by kernel_rfl) rfl #[.slice A0 l0.length c0] rfl (by (try simp only [List.map_toArray, List.map_cons, List.map_nil]); rfl) ?_; (with_reducible refine (spec_l07Order.calls k _ _ l0 t190 _ ?side1 ?side2 A4.out).mono ?_); (case side1 => exact (Kd.C_below HR0.out HB.out)); (case side2 => exact HC0.out); rintro e w7 ⟨v191, rfl, ho0, hb⟩; refine ⟨_, rfl, ?_⟩; have n0_ := mk0 (Kd.R_lower ho0 (below_size (by repeat (first | exact HB.out | refine below_set ?_ GE189.out)))); have n1_ := mk0 (blk_below (by exact BK189.out) hb); have n2_ := mk0 (below_step (by repeat (first | exact HB.out | refine below_set ?_ GE189.out)) hb); clear BK189; clear HB; have HO192 := n0_; have BK189 := n1_; have HB := n2_; clear n0_ n1_ n2_; (try clear hb); (try clear hb2); (try clear hk); (try clear hi); (try clear ho0)) | ((with_reducible refine gate_callee (f := 89) rfl ?_); refine goesL_ (some 13) rfl rfl Try.func89 (by kernel_rfl) rfl #[.slice A0 l0.length c0] rfl (by (try simp only [List.map_toArray, List.map_cons, List.map_nil]); rfl) ?_; (with_reducible refine (spec_l01Normal.calls k _ _ l0 t193 _ ?side1 ?side2 A5.out).mono ?_); (case side1 => exact (Kd.C_below HR0.out HB.out)); (case side2 => exact HC0.out); rintro e w8 ⟨v194, rfl, ho0, hb⟩; refine ⟨_, rfl, ?_⟩; have n0_ := mk0 (Kd.R_elder' HO192.out (Kd.R_base ho0) hb); have n1_ := mk0 (Kd.R_lower (Kd.R_new' ho0 (Kd.R_lt HO192.out)) (below_size (by repeat (first | exact HB.out | refine below_set ?_ GE189.out)))); have n2_ := mk0 (blk_below (by exact BK189.out) hb); have n3_ := mk0 (below_step (by repeat (first | exact HB.out | refine below_set ?_ GE189.out)) hb); clear HO192; clear BK189; clear HB; have HO192 := n0_; have HO195 := n1_; have BK189 := n2_; have HB := n3_; clear n0_ n1_ n2_ n3_; (try clear hb); (try clear hb2); (try clear hk); (try clear hi); (try clear ho0)) | ((with_reducible refine gate_dst (N := 14) rfl ?_); refine Kd.R_lit (Kd.int .i64) _ 2 ?hg (N := 14) ?hd (xs := ([] : List Int)) (inner := []) (ok := fun _ => True) (okp := fun _ => True) ?hr ?hp (fun _ hk => hk) trivial (Below.refl _ _) (Nat.le_refl _) (by simp) ?_; (case hd => rfl); (case hg => rfl); (case hr => first | (go_simp; done) | (go_simp; rfl)); (case hp => exact (Reps.none _ _)); intro v197 w9 ho10 hb hg_ hnew_; clear hg_ hnew_; (first | rw [← Ny196.out] at ho10 | (simp only [Int.reduceToNat] at ho10; rw [← Ny196.out] at ho10)); have n0_ := mk0 (Kd.R_elder' HO192.out (Kd.R_base ho10) hb); have n1_ := mk0 (Kd.R_elder' HO195.out (Kd.R_base ho10) hb); have n2_ := mk0 (Kd.R_lower (Kd.R_new' (Kd.R_new' ho10 (Kd.R_lt HO192.out)) (Kd.R_lt HO195.out)) (below_size (by repeat (first | exact HB.out | refine below_set ?_ GE189.out)))); have n3_ := mk0 (blk_below (by exact BK189.out) hb); have n4_ := mk0 (below_step (by repeat (first | exact HB.out | refine below_set ?_ GE189.out)) hb); clear HO192; clear HO195; clear BK189; clear HB; have HO192 := n0_; have HO195 := n1_; have HO198 := n2_; have BK189 := n3_; have HB := n4_; clear n0_ n1_ n2_ n3_ n4_; clear hb ho10) | ((with_reducible refine gate_dst (N := 15) rfl ?_); refine Kd.R_lit (Kd.int .i64) _ 2 ?hg (N := 15) ?hd (xs := ([] : List Int)) (inner := []) (ok := fun _ => True) (okp := fun _ => True) ?hr ?hp (fun _ hk => hk) trivial (Below.refl _ _) (Nat.le_refl _) (by simp) ?_; (case hd => rfl); (case hg => rfl); (case hr => first | (go_simp; done) | (go_simp; rfl)); (case hp => exact (Reps.none _ _)); intro v200 w11 ho12 hb hg_ hnew_; clear hg_ hnew_; (first | rw [← Ny199.out] at ho12 | (simp only [Int.reduceToNat] at ho12; rw [← Ny199.out] at ho12)); have n0_ := mk0 (Kd.R_elder' HO192.out (Kd.R_base ho12) hb); have n1_ := mk0 (Kd.R_elder' HO195.out (Kd.R_base ho12) hb); have n2_ := mk0 (Kd.R_elder' HO198.out (Kd.R_base ho12) hb); have n3_ := mk0 (Kd.R_lower (Kd.R_new' (Kd.R_new' (Kd.R_new' ho12 (Kd.R_lt HO192.out)) (Kd.R_lt HO195.out)) (Kd.R_lt HO198.out)) (below_size (by repeat (first | exact HB.out | refine below_set ?_ GE189.out)))); have n4_ := mk0 (blk_below (by exact BK189.out) hb); have n5_ := mk0 (below_step (by repeat (first | exact HB.out | refine below_set ?_ GE189.out)) hb); clear HO192; clear HO195; clear HO198; clear BK189; clear HB; have HO192 := n0_; have HO195 := n1_; have HO198 := n2_; have HO201 := n3_; have BK189 := n4_; have HB := n5_; clear n0_ n1_ n2_ n3_ n4_ n5_; clear hb ho12; obtain ⟨Ao13, co13, eo13⟩ := Kd.R_slice HO201.out; subst eo13; obtain ⟨Ao14, co14, eo14⟩ := Kd.R_slice HO198.out; subst eo14; obtain ⟨Ao15, co15, eo15⟩ := Kd.R_slice HO195.out; subst eo15) | ((with_reducible refine gate_dst (N := 8) rfl ?_); refine box_event ?hg (N := 8) ?hd (cs := #[.slice none 0 0, .slice none 0 0, .slice none 0 0]) (t := 34) ?hr ?_; (case hd => rfl); (case hg => rfl); (case hr => first | (go_simp; done) | (go_simp; rfl)); intro gb202 hg w16 hbox hb; have n0_ := mk0 (Kd.R_below HO192.out hb); have n1_ := mk0 (Kd.R_below HO195.out hb); have n2_ := mk0 (Kd.R_below HO198.out hb); have n3_ := mk0 (Kd.R_below HO201.out hb); have n4_ := mk0 (blk_below (by exact BK189.out) hb); have n5_ := mk0 (below_step (by repeat (first | exact HB.out | refine below_set ?_ GE189.out)) hb); have n6_ := mk0 (hbox); have n7_ := mk0 ((by rw [hg]; exact (below_size (by repeat (first | exact HB.out | refine below_set ?_ GE189.out))) : w.heap.size ≤ gb202)); have n8_ := mk0 ((by rw [hg]; exact (below_size (by repeat (first | exact HB.out | refine below_set ?_ GE189.out))) : w.heap.size ≤ gb202)); have n9_ := mk0 ((by rw [hg]; exact Nat.ne_of_lt (blk_lt (g := gb189) (o := .cells #[.slice none 0 0, .slice none 0 0, .slice none 0 0] 34 (0, 0)) (by exact BK189.out)) : gb189 ≠ gb202)); have n10_ := mk0 ((by rw [hg]; exact Nat.ne_of_gt (blk_lt (g := gb189) (o := .cells #[.slice none 0 0, .slice none 0 0, .slice none 0 0] 34 (0, 0)) (by exact BK189.out)) : gb202 ≠ gb189)); clear HO192; clear HO195; clear HO198; clear HO201; clear BK189; clear HB; have HO192 := n0_; have HO195 := n1_; have HO198 := n2_; have HO201 := n3_; have BK189 := n4_; have HB := n5_; have BK202 := n6_; have GW202 := n7_; have GE202 := n8_; have NB189_202 := n9_; have NB202_189 := n10_; clear n0_ n1_ n2_ n3_ n4_ n5_ n6_ n7_ n8_ n9_ n10_; clear hb hbox hg; have hnb17 := NB202_189.out; have hnc17 := NB189_202.out; obtain ⟨hcz18_0, hcz18_1, hcz18_2⟩ := bc3 BK202.out; obtain ⟨hfz18_0, hfz18_1, hfz18_2⟩ := bf3 BK202.out))
  go_loopg [9] k (fun kq v9 w' => ∃ (x9_1 : Int) (x203001_1 : List Int) (x203002_1 : List Int) (u203001 : Value) (u203002 : Value), v9 = .int .i64 x9_1 ∧ Aside0 (spec_l07Normal.l0 kq l1 l2 t190 x9_1 t193 x203001_1 x203002_1 = some (r1, r2, r3)) ∧ Aside0 (kq ≤ k) ∧ Aside0 (Kd.R (Kd.int .i64) 2 w' w.heap.size (fun k_ => some k_ ≠ ((.slice Ao15 t193.length co15) : Value).ownBlock ∧ some k_ ≠ (u203001 : Value).ownBlock ∧ some k_ ≠ (u203002 : Value).ownBlock) v191 t190) ∧ Aside0 (Kd.R (Kd.int .i64) 2 w' w.heap.size (fun k_ => some k_ ≠ (v191 : Value).ownBlock ∧ some k_ ≠ (u203001 : Value).ownBlock ∧ some k_ ≠ (u203002 : Value).ownBlock) (.slice Ao15 t193.length co15) t193) ∧ Aside0 (Kd.R (Kd.int .i64) 2 w' w.heap.size (fun k_ => some k_ ≠ (v191 : Value).ownBlock ∧ some k_ ≠ ((.slice Ao15 t193.length co15) : Value).ownBlock ∧ some k_ ≠ (u203002 : Value).ownBlock) u203001 x203001_1) ∧ Aside0 (Kd.R (Kd.int .i64) 2 w' w.heap.size (fun k_ => some k_ ≠ (v191 : Value).ownBlock ∧ some k_ ≠ ((.slice Ao15 t193.length co15) : Value).ownBlock ∧ some k_ ≠ (u203001 : Value).ownBlock) u203002 x203002_1) ∧ Aside0 (w'.heap[gb189]? = some (.cells #[(.slice none 0 0), (.slice none 0 0), (.slice none 0 0)] 34 (0, 0))) ∧ Aside0 (w'.heap[gb202]? = some (.cells #[(.slice Ao15 t193.length co15), u203001, u203002] 34 (0, 0))) ∧ Aside0 (Below w.heap.size w w'))
  case atStart => exact ⟨(0), (y196), (y199), (.slice Ao14 y196.length co14), (.slice Ao13 y199.length co13), (by first | rfl | (simp; done) | (simp [*]; done)), H', ⟨Nat.le_refl _⟩, ⟨by exact Kd.R_mono (Kd.R_far (p := ⟨gb202, 2, none⟩) (Kd.R_far (p := ⟨gb202, 1, none⟩) (Kd.R_far (p := ⟨gb202, 0, none⟩) (Kd.R_types HO192.out BK202.out (by decide)) (fun _ hk => hk.2) (.slice Ao15 t193.length co15)) (fun _ hk => hk.2) (.slice Ao14 y196.length co14)) (fun _ hk => hk.2) (.slice Ao13 y199.length co13)) (fun _ hk => ⟨hk.1.1.1.2, ⟨hk.1.1.2, hk.1.2⟩⟩)⟩, ⟨by exact Kd.R_mono (Kd.R_far (p := ⟨gb202, 2, none⟩) (Kd.R_far (p := ⟨gb202, 1, none⟩) (Kd.R_far (p := ⟨gb202, 0, none⟩) (Kd.R_types HO195.out BK202.out (by decide)) (fun _ hk => hk.2) (.slice Ao15 t193.length co15)) (fun _ hk => hk.2) (.slice Ao14 y196.length co14)) (fun _ hk => hk.2) (.slice Ao13 y199.length co13)) (fun _ hk => ⟨hk.1.1.1.2, ⟨hk.1.1.2, hk.1.2⟩⟩)⟩, ⟨by exact Kd.R_mono (Kd.R_far (p := ⟨gb202, 2, none⟩) (Kd.R_far (p := ⟨gb202, 1, none⟩) (Kd.R_far (p := ⟨gb202, 0, none⟩) (Kd.R_types HO198.out BK202.out (by decide)) (fun _ hk => hk.2) (.slice Ao15 t193.length co15)) (fun _ hk => hk.2) (.slice Ao14 y196.length co14)) (fun _ hk => hk.2) (.slice Ao13 y199.length co13)) (fun _ hk => ⟨hk.1.1.1.2, ⟨hk.1.1.2, hk.1.2⟩⟩)⟩, ⟨by exact Kd.R_mono (Kd.R_far (p := ⟨gb202, 2, none⟩) (Kd.R_far (p := ⟨gb202, 1, none⟩) (Kd.R_far (p := ⟨gb202, 0, none⟩) (Kd.R_types HO201.out BK202.out (by decide)) (fun _ hk => hk.2) (.slice Ao15 t193.length co15)) (fun _ hk => hk.2) (.slice Ao14 y196.length co14)) (fun _ hk => hk.2) (.slice Ao13 y199.length co13)) (fun _ hk => ⟨hk.1.1.1.2, ⟨hk.1.1.2, hk.1.2⟩⟩)⟩, ⟨by refine blk_far ?_ NB189_202.out _; refine blk_far ?_ NB189_202.out _; refine blk_far ?_ NB189_202.out _; exact BK189.out⟩, ⟨by refine blk_put (cs := #[.slice Ao15 t193.length co15, .slice Ao14 y196.length co14, .slice none 0 0]) ?_ 2 _ rfl; refine blk_put (cs := #[.slice Ao15 t193.length co15, .slice none 0 0, .slice none 0 0]) ?_ 1 _ rfl; refine blk_put (cs := #[.slice none 0 0, .slice none 0 0, .slice none 0 0]) ?_ 0 _ rfl; exact BK202.out⟩, ⟨by repeat (first | exact HB.out | refine below_set ?_ GE189.out | refine below_set ?_ GE202.out)⟩⟩
  case round =>
    clear H'
    try clear c1
    try clear c2
    try clear p2
    try clear c6
    try clear c8
    try clear c10
    try clear c17
    try clear hcz18_0
    try clear hcz18_1
    try clear hcz18_2
    try clear hfz18_0
    try clear hfz18_1
    try clear hfz18_2
    obtain ⟨x9_1, x203001_1, x203002_1, u203001, u203002, rfl, HA, HK1, HO_7, HO_203000, HO_203001, HO_203002, BK189, BK202, HB⟩ := hrel
    cases gk with
    | zero => exact absurd HA.out (by simp [spec_l07Normal.l0])
    | succ k1 =>
      have H := HA.out
      clear HA
      simp only [spec_l07Normal.l0] at H
      by_cases c19 : x9_1 < (t190.length : Int)
      · rw [if_pos c19] at H
        have c19b0 : decide (x9_1 < (t190.length : Int)) = true := decide_eq_true c19
        clear c19
        by_cases c20 : 0 ≤ x9_1
        · rw [if_pos c20] at H
          have c20b0 : decide (0 ≤ x9_1) = true := decide_eq_true c20
          clear c20
          by_cases c21 : 0 ≤ (rd t190 x9_1)
          · rw [if_pos c21] at H
            have c21b0 : decide (0 ≤ (rd t190 x9_1)) = true := decide_eq_true c21
            clear c21
            by_cases c22 : (rd t190 x9_1) < (l1.length : Int)
            · rw [if_pos c22] at H
              have c22b0 : decide ((rd t190 x9_1) < (l1.length : Int)) = true := decide_eq_true c22
              clear c22
              by_cases c23 : x203001_1.length < 17592186044416
              · rw [if_pos c23] at H
                have LMc23 := Aside0.mk c23
                clear c23
                obtain ⟨y205, hy205⟩ : ∃ y_ : List Int, y_ = (x203001_1 ++ [rd l1 (rd t190 x9_1)]) := ⟨_, rfl⟩
                replace H : (if (rd t190 x9_1) < (l2.length : Int) then (if x203002_1.length < 17592186044416 then (spec_l07Normal.l0 k1 l1 l2 t190 (wrap64 (x9_1 + 1)) t193 y205 (x203002_1 ++ [rd l2 (rd t190 x9_1)])) else (none)) else (none)) = some (r1, r2, r3) := by first | (rw [hy205]; with_reducible exact H) | (have H2_ := (Option.bind_some _ _).symm.trans H; rw [hy205]; with_reducible exact H2_) | (have H2_ := (Option.bind_some _ _).symm.trans H; with_reducible exact H2_) | with_reducible exact H | (rw [hy205]; exact H) | exact H
                have Ny205 := Aside0.mk hy205
                clear hy205
                by_cases c24 : (rd t190 x9_1) < (l2.length : Int)
                · rw [if_pos c24] at H
                  have c24b0 : decide ((rd t190 x9_1) < (l2.length : Int)) = true := decide_eq_true c24
                  clear c24
                  by_cases c25 : x203002_1.length < 17592186044416
                  · rw [if_pos c25] at H
                    have LMc25 := Aside0.mk c25
                    clear c25
                    obtain ⟨y210, hy210⟩ : ∃ y_ : List Int, y_ = (x203002_1 ++ [rd l2 (rd t190 x9_1)]) := ⟨_, rfl⟩
                    replace H : (spec_l07Normal.l0 k1 l1 l2 t190 (wrap64 (x9_1 + 1)) t193 y205 y210) = some (r1, r2, r3) := by first | (rw [hy210]; with_reducible exact H) | (have H2_ := (Option.bind_some _ _).symm.trans H; rw [hy210]; with_reducible exact H2_) | (have H2_ := (Option.bind_some _ _).symm.trans H; with_reducible exact H2_) | with_reducible exact H | (rw [hy210]; exact H) | exact H
                    have Ny210 := Aside0.mk hy210
                    clear hy210
                    have H' := Aside0.mk H
                    clear H
                    obtain ⟨Ao26, co26, eo26⟩ := Kd.R_slice HO_7.out
                    subst eo26
                    try go_wp2
                    have n0_ := mk0 (Kd.R_drew HO_7.out)
                    have n1_ := mk0 (Kd.R_drew HO_203000.out)
                    have n2_ := mk0 (Kd.R_drew HO_203001.out)
                    have n3_ := mk0 (Kd.R_drew HO_203002.out)
                    have n4_ := mk0 (blk_drew BK189.out)
                    have n5_ := mk0 (blk_drew BK202.out)
                    have n6_ := mk0 (below_drew1 HB.out)
                    clear HO_7
                    clear HO_203000
                    clear HO_203001
                    clear HO_203002
                    clear BK189
                    clear BK202
                    clear HB
                    have HO_7 := n0_
                    have HO_203000 := n1_
                    have HO_203001 := n2_
                    have HO_203002 := n3_
                    have BK189 := n4_
                    have BK202 := n5_
                    have HB := n6_
                    clear n0_ n1_ n2_ n3_ n4_ n5_ n6_
                    have p203 : 0 ≤ (x9_1 : Int) := of_decide_eq_true (by first | (with_reducible assumption) | assumption)
                    have q203 : x9_1 < (t190.length : Int) := of_decide_eq_true (by first | (with_reducible assumption) | assumption)
                    obtain ⟨ad203, e203, hx203_0⟩ := Kd.at_int (Kd.R_reads' HO_7.out).2.2 x9_1 p203 q203
                    cases e203
                    replace p203 := eq_true p203
                    replace q203 := eq_true q203
                    have p204 : 0 ≤ ((rd t190 x9_1) : Int) := of_decide_eq_true (by first | (with_reducible assumption) | assumption)
                    have q204 : (rd t190 x9_1) < (l1.length : Int) := of_decide_eq_true (by first | (with_reducible assumption) | assumption)
                    obtain ⟨ad204, e204, hx204_0⟩ := Kd.at_int HR1.out (rd t190 x9_1) p204 q204
                    have hw204_0 := hx204_0
                    cases e204
                    replace hx204_0 := (HB.out.cell (World.block_lt_of_cell? w _ hx204_0)).trans hx204_0
                    replace p204 := eq_true p204
                    replace q204 := eq_true q204
                    refine start_ (n := 13) (S := fun w' => w'.cell? ⟨gb202, 0, none⟩ = some (.slice Ao15 t193.length co15) ∧ w'.cell? ⟨gb202, 1, none⟩ = some (u203001) ∧ w'.cell? ⟨gb202, 2, none⟩ = some (u203002) ∧ w'.cell? (ad203.add (x9_1).toNat) = some (.int .i64 (rd t190 x9_1)) ∧ w'.cell? (ad204.add ((rd t190 x9_1)).toNat) = some (.int .i64 (rd l1 (rd t190 x9_1)))) (ds := [10, 12]) (bl 13 0) (by kernel_rfl) rfl rfl ⟨(blk_cell BK202.out 0).trans rfl, (blk_cell BK202.out 1).trans rfl, (blk_cell BK202.out 2).trans rfl, hx203_0, ((HB.out.cell (World.block_lt_of_cell? w _ hw204_0)).trans hw204_0)⟩ (fun hHeld => ?_); refine with_tabW spec_l07Normal.tab5 spec_l07Normal.bits5 (fun HT_ HW_ => ?_)
                    generalize wr.drew = w27 at HO_7 HO_203000 HO_203001 HO_203002 BK189 BK202 HB hx203_0 hx204_0 hHeld ⊢
                    refine pure_ (i := 0) (N := some 23) (v := ?_) (a' := ?_) (bl 13 1) rfl rfl (any_of HT_.out (by kernel_rfl)) (fun _ _ _ h => h) (Or.inl ⟨by rfl, ?_⟩) ?_ ?_; rotate_left; (focus intro w'; go_simp; with_reducible rfl); rotate_left; (focus simp only [Act.put, List.setIfInBounds_toArray, List.set_cons_zero, List.set_cons_succ, i64_w, i32_w]; rfl)
                    refine pure_ (i := 2) (N := some 25) (v := ?_) (a' := ?_) (bl 13 5) rfl rfl (any_of HT_.out (by kernel_rfl)) (fun _ _ _ h => h) (Or.inl ⟨by rfl, ?_⟩) ?_ ?_; rotate_left; (focus intro w'; go_simp; with_reducible rfl); rotate_left; (focus simp only [Act.put, List.setIfInBounds_toArray, List.set_cons_zero, List.set_cons_succ, i64_w, i32_w]; rfl)
                    refine pure_ (i := 3) (N := some 26) (v := ?_) (a' := ?_) (bl 13 13) rfl rfl (any_of HT_.out (by kernel_rfl)) (fun _ _ _ h => h) (Or.inl ⟨by rfl, ?_⟩) ?_ ?_; rotate_left; (focus intro w'; go_simp; with_reducible rfl); rotate_left; (focus simp only [Act.put, List.setIfInBounds_toArray, List.set_cons_zero, List.set_cons_succ, i64_w, i32_w]; rfl)
                    refine pure_ (i := 4) (N := some 27) (v := ?_) (a' := ?_) (bl 13 29) rfl rfl (any_of HT_.out (by kernel_rfl)) (fun _ _ _ h => h) (Or.inl ⟨by rfl, ?_⟩) ?_ ?_; rotate_left; (focus intro w'; go_simp; with_reducible rfl); rotate_left; (focus simp only [Act.put, List.setIfInBounds_toArray, List.set_cons_zero, List.set_cons_succ, i64_w, i32_w]; rfl)
                    refine pure_ (i := 5) (N := some 28) (v := ?_) (a' := ?_) (bl 13 61) rfl rfl (any_of HT_.out (by kernel_rfl)) (fun _ _ _ h => h) (Or.inl ⟨by rfl, ?_⟩) ?_ ?_; rotate_left; (focus intro w'; go_simp; with_reducible rfl); rotate_left; (focus simp only [Act.put, List.setIfInBounds_toArray, List.set_cons_zero, List.set_cons_succ, i64_w, i32_w]; rfl)
                    refine take_ (i := 1) (N := some 24) (v := ?_) (a' := ?_) (bl 13 63) rfl rfl (take_ofW HT_.out HW_.out (by kernel_rfl)) (fun _ _ _ h => h) (Or.inl ⟨by rfl, ?_⟩) hHeld ?_ ?_; rotate_left; (focus rintro w' ⟨s0, s1, s2, s3, s4⟩; go_simp; with_reducible rfl); rotate_left; (focus simp only [Act.put, List.setIfInBounds_toArray, List.set_cons_zero, List.set_cons_succ, i64_w, i32_w]; rfl)
                    refine take_ (i := 6) (N := some 29) (v := ?_) (a' := ?_) (bl 13 127) rfl rfl (take_ofW HT_.out HW_.out (by kernel_rfl)) (fun _ _ _ h => h) (Or.inl ⟨by rfl, ?_⟩) hHeld ?_ ?_; rotate_left; (focus rintro w' ⟨s0, s1, s2, s3, s4⟩; go_simp; with_reducible rfl); rotate_left; (focus simp only [Act.put, List.setIfInBounds_toArray, List.set_cons_zero, List.set_cons_succ, i64_w, i32_w]; rfl)
                    refine pure_ (i := 7) (N := some 30) (v := ?_) (a' := ?_) (bl 13 255) rfl rfl (any_of HT_.out (by kernel_rfl)) (fun _ _ _ h => h) (Or.inl ⟨by rfl, ?_⟩) ?_ ?_; rotate_left; (focus intro w'; go_simp; with_reducible rfl); rotate_left; (focus simp only [Act.put, List.setIfInBounds_toArray, List.set_cons_zero, List.set_cons_succ, i64_w, i32_w]; rfl)
                    refine take_ (i := 8) (N := some 31) (v := ?_) (a' := ?_) (bl 13 511) rfl rfl (take_ofW HT_.out HW_.out (by kernel_rfl)) (fun _ _ _ h => h) (Or.inl ⟨by rfl, ?_⟩) hHeld ?_ ?_; rotate_left; (focus rintro w' ⟨s0, s1, s2, s3, s4⟩; go_simp; with_reducible rfl); rotate_left; (focus simp only [Act.put, List.setIfInBounds_toArray, List.set_cons_zero, List.set_cons_succ, i64_w, i32_w]; rfl)
                    refine one_ (i := 9) (N := some 32) (bl 13 1023) rfl rfl (one_of HT_.out (by kernel_rfl)) (by decide) (fun K hK => ?_)
                    refine value_ (w1 := ?_) (v := ?_) (by rfl) rfl ?_ ?_
                    rotate_left 2
                    · go_simp
                      constructor
                      · rfl
                      · rfl
                    refine hK.out _ _ ⟨(blk_cell (blk_alloc BK202.out _) 0).trans rfl, (blk_cell (blk_alloc BK202.out _) 1).trans rfl, (blk_cell (blk_alloc BK202.out _) 2).trans rfl, (World.cell?_alloc_lt _ _ _ (World.block_lt_of_cell? _ _ (hHeld.2.2.2.1))).trans (hHeld.2.2.2.1), (World.cell?_alloc_lt _ _ _ (World.block_lt_of_cell? _ _ (((HB.out.cell (World.block_lt_of_cell? w _ hw204_0)).trans hw204_0)))).trans (((HB.out.cell (World.block_lt_of_cell? w _ hw204_0)).trans hw204_0))⟩ (fun hHeld => ?_)
                    clear hK K
                    refine norm_ (a' := ?_) ?_ ?_
                    rotate_left
                    · show Act.put _ (some 32) _ = _
                      simp only [Act.put, List.setIfInBounds_toArray, List.set_cons_zero, List.set_cons_succ, i64_w, i32_w]
                      rfl
                    refine last_ (i := 10) (N := some 33) (bl 13 2047) rfl rfl (one_of HT_.out (by kernel_rfl)) (by decide) (fun K hK => ?_)
                    refine Kd.R_append_step (Kd.int .i64) (w0 := w) w.heap.size (by rfl) (.tmp 24) (.tmp 32) 22 2 (.int .i64 0) 8 rfl Try.underlying22 info2 rfl (by decide) (by omega) u203001 x203001_1 (rd l1 (rd t190 x9_1)) [.int .i64 (rd l1 (rd t190 x9_1))] (fun k_ => some k_ ≠ (.slice (some ad203) t190.length co26 : Value).ownBlock ∧ some k_ ≠ (.slice Ao15 t193.length co15 : Value).ownBlock ∧ some k_ ≠ (u203002 : Value).ownBlock) (fun _ => False) rfl rfl ?aP (fun _ hk => hk.elim) ?aF ?aO ?aB ?aS ?aL ?_
                    (case aP => exact rfl)
                    (case aB => exact (by repeat (first | exact HB.out | refine below_set ?_ GE189.out | refine below_set ?_ GE202.out)))
                    (case aF => exact (fun k_ hk => ⟨Kd.fresh' (Kd.R_lt HO_7.out) k_ hk, Kd.fresh' (Kd.R_lt HO_203000.out) k_ hk, Kd.fresh' (Kd.R_lt HO_203002.out) k_ hk⟩))
                    (case aO => exact HO_203001.out)
                    (case aS => exact (below_size (by repeat (first | exact HB.out | refine below_set ?_ GE189.out | refine below_set ?_ GE202.out))))
                    (case aL => have := LMc23.out; omega)
                    intro v206 w28 ho hb hg hat
                    rw [← Ny205.out] at ho
                    have n0_ := mk0 (Kd.R_after (ok := (fun k_ => some k_ ≠ (.slice Ao15 t193.length co15 : Value).ownBlock ∧ some k_ ≠ (u203002 : Value).ownBlock)) (by exact Kd.R_mono HO_7.out (fun _ hk => ⟨⟨hk.1, hk.2.2⟩, hk.2.1⟩)) hg hat)
                    have n1_ := mk0 (Kd.R_after (ok := (fun k_ => some k_ ≠ (.slice (some ad203) t190.length co26 : Value).ownBlock ∧ some k_ ≠ (u203002 : Value).ownBlock)) (by exact Kd.R_mono HO_203000.out (fun _ hk => ⟨⟨hk.1, hk.2.2⟩, hk.2.1⟩)) hg hat)
                    have n2_ := mk0 (Kd.R_after (ok := (fun k_ => some k_ ≠ (.slice (some ad203) t190.length co26 : Value).ownBlock ∧ some k_ ≠ (.slice Ao15 t193.length co15 : Value).ownBlock)) (by exact Kd.R_mono HO_203002.out (fun _ hk => ⟨⟨hk.1, hk.2.1⟩, hk.2.2⟩)) hg hat)
                    have n3_ := mk0 (blk_grown (g := gb189) (o := .cells #[.slice none 0 0, .slice none 0 0, .slice none 0 0] 34 (0, 0)) (by exact BK189.out) hg (Kd.R_ne HO_203001.out BK189.out (by decide)))
                    have n4_ := mk0 (blk_grown (g := gb202) (o := .cells #[.slice Ao15 t193.length co15, u203001, u203002] 34 (0, 0)) (by exact BK202.out) hg (Kd.R_ne HO_203001.out BK202.out (by decide)))
                    have n5_ := mk0 (hb)
                    have n6_ := mk0 (ho)
                    clear HO_7
                    clear HO_203000
                    clear HO_203002
                    clear BK189
                    clear BK202
                    clear HB
                    clear HO_203001
                    have HO_7 := n0_
                    have HO_203000 := n1_
                    have HO_203002 := n2_
                    have BK189 := n3_
                    have BK202 := n4_
                    have HB := n5_
                    have HO207 := n6_
                    clear n0_ n1_ n2_ n3_ n4_ n5_ n6_
                    clear ho hb hg hat
                    obtain ⟨Ao29, co29, eo29⟩ := Kd.R_slice HO207.out
                    (first | subst eo29 | (injection eo29 with f1_ f2_ f3_; have f4_ := f1_.symm; have f5_ := f3_.symm; clear f1_ f2_ f3_; subst f4_; subst f5_))
                    refine hK.out _ _ ?_
                    clear hK K
                    refine norm_ (a' := ?_) ?_ ?_
                    rotate_left
                    · show Act.put _ (some 33) _ = _
                      simp only [Act.put, List.setIfInBounds_toArray, List.set_cons_zero, List.set_cons_succ, i64_w, i32_w]
                      rfl
                    refine pure_ (i := 11) (N := some 34) (v := ?_) (a' := ?_) (bl 13 4095) rfl rfl (any_of HT_.out (by kernel_rfl)) (fun _ _ _ h => h) (Or.inl ⟨by rfl, ?_⟩) ?_ ?_; rotate_left; (focus intro w'; go_simp; with_reducible rfl); rotate_left; (focus simp only [Act.put, List.setIfInBounds_toArray, List.set_cons_zero, List.set_cons_succ, i64_w, i32_w]; rfl)
                    refine last_ (i := 12) (N := none) (bl 13 8191) rfl rfl (one_of HT_.out (by kernel_rfl)) (by decide) (fun K hK => ?_)
                    have hs30 : w28.cell? ⟨gb202, 1, none⟩ = some (u203001) := (blk_cell BK202.out 1).trans rfl
                    have hfs30 := blk_frozen BK202.out 1
                    have hns30_0 := NB189_202.out
                    have hms30_0 := NB202_189.out
                    refine skip_ (w1 := ?_) (by rfl) rfl ?_ ?_
                    rotate_left
                    · go_simp
                      rfl
                    refine hK.out _ _ ?_
                    clear hK K
                    refine done_ (done_of HT_.out (by kernel_rfl)) ?_
                    try go_wp2
                    have n0_ : Aside0 (Kd.R (Kd.int .i64) 2 (w28.setCell ⟨gb202, 1, none⟩ (.slice Ao29 y205.length co29)) w.heap.size (fun k_ => some k_ ≠ (.slice Ao15 t193.length co15 : Value).ownBlock ∧ some k_ ≠ (u203002 : Value).ownBlock ∧ some k_ ≠ (.slice Ao29 y205.length co29 : Value).ownBlock) (.slice (some ad203) t190.length co26) t190) := ⟨by exact Kd.R_mono (Kd.R_far (p := ⟨gb202, 1, none⟩) (Kd.R_types HO_7.out BK202.out (by decide)) (fun _ hk => hk.2) (.slice Ao29 y205.length co29)) (fun _ hk => ⟨hk.1.1.1, ⟨hk.1.1.2, hk.1.2⟩⟩)⟩
                    have n1_ : Aside0 (Kd.R (Kd.int .i64) 2 (w28.setCell ⟨gb202, 1, none⟩ (.slice Ao29 y205.length co29)) w.heap.size (fun k_ => some k_ ≠ (.slice (some ad203) t190.length co26 : Value).ownBlock ∧ some k_ ≠ (u203002 : Value).ownBlock ∧ some k_ ≠ (.slice Ao29 y205.length co29 : Value).ownBlock) (.slice Ao15 t193.length co15) t193) := ⟨by exact Kd.R_mono (Kd.R_far (p := ⟨gb202, 1, none⟩) (Kd.R_types HO_203000.out BK202.out (by decide)) (fun _ hk => hk.2) (.slice Ao29 y205.length co29)) (fun _ hk => ⟨hk.1.1.1, ⟨hk.1.1.2, hk.1.2⟩⟩)⟩
                    have n2_ : Aside0 (Kd.R (Kd.int .i64) 2 (w28.setCell ⟨gb202, 1, none⟩ (.slice Ao29 y205.length co29)) w.heap.size (fun k_ => some k_ ≠ (.slice (some ad203) t190.length co26 : Value).ownBlock ∧ some k_ ≠ (.slice Ao15 t193.length co15 : Value).ownBlock ∧ some k_ ≠ (.slice Ao29 y205.length co29 : Value).ownBlock) u203002 x203002_1) := ⟨by exact Kd.R_mono (Kd.R_far (p := ⟨gb202, 1, none⟩) (Kd.R_types HO_203002.out BK202.out (by decide)) (fun _ hk => hk.2) (.slice Ao29 y205.length co29)) (fun _ hk => ⟨hk.1.1.1, ⟨hk.1.1.2, hk.1.2⟩⟩)⟩
                    have n3_ : Aside0 (Kd.R (Kd.int .i64) 2 (w28.setCell ⟨gb202, 1, none⟩ (.slice Ao29 y205.length co29)) w.heap.size (fun k_ => some k_ ≠ (.slice (some ad203) t190.length co26 : Value).ownBlock ∧ some k_ ≠ (.slice Ao15 t193.length co15 : Value).ownBlock ∧ some k_ ≠ (u203002 : Value).ownBlock) (.slice Ao29 y205.length co29) y205) := ⟨by exact Kd.R_mono (Kd.R_far (p := ⟨gb202, 1, none⟩) (Kd.R_types HO207.out BK202.out (by decide)) (fun _ hk => hk.2) (.slice Ao29 y205.length co29)) (fun _ hk => ⟨hk.1.1, ⟨hk.1.2.1, hk.1.2.2⟩⟩)⟩
                    have n4_ : Aside0 ((w28.setCell ⟨gb202, 1, none⟩ (.slice Ao29 y205.length co29)).heap[gb189]? = some (.cells #[.slice none 0 0, .slice none 0 0, .slice none 0 0] 34 (0, 0))) := ⟨by refine blk_far ?_ NB189_202.out _; exact BK189.out⟩
                    have n5_ : Aside0 ((w28.setCell ⟨gb202, 1, none⟩ (.slice Ao29 y205.length co29)).heap[gb202]? = some (.cells #[.slice Ao15 t193.length co15, .slice Ao29 y205.length co29, u203002] 34 (0, 0))) := ⟨by refine blk_put (cs := #[.slice Ao15 t193.length co15, u203001, u203002]) ?_ 1 _ rfl; exact BK202.out⟩
                    have n6_ : Aside0 (Below w.heap.size w (w28.setCell ⟨gb202, 1, none⟩ (.slice Ao29 y205.length co29))) := ⟨by repeat (first | exact HB.out | refine below_set ?_ GE189.out | refine below_set ?_ GE202.out)⟩
                    (try clear HO_7)
                    (try clear HO_203000)
                    (try clear HO_203002)
                    (try clear HO207)
                    (try clear BK189)
                    (try clear BK202)
                    (try clear HB)
                    generalize (w28.setCell ⟨gb202, 1, none⟩ (.slice Ao29 y205.length co29)) = w31 at n0_ n1_ n2_ n3_ n4_ n5_ n6_ ⊢
                    have HO_7 := n0_
                    have HO_203000 := n1_
                    have HO_203002 := n2_
                    have HO207 := n3_
                    have BK189 := n4_
                    have BK202 := n5_
                    have HB := n6_
                    clear n0_ n1_ n2_ n3_ n4_ n5_ n6_
                    have n0_ := mk0 (Kd.R_drew HO_7.out)
                    have n1_ := mk0 (Kd.R_drew HO_203000.out)
                    have n2_ := mk0 (Kd.R_drew HO_203002.out)
                    have n3_ := mk0 (Kd.R_drew HO207.out)
                    have n4_ := mk0 (blk_drew BK189.out)
                    have n5_ := mk0 (blk_drew BK202.out)
                    have n6_ := mk0 (below_drew1 HB.out)
                    clear HO_7
                    clear HO_203000
                    clear HO_203002
                    clear HO207
                    clear BK189
                    clear BK202
                    clear HB
                    have HO_7 := n0_
                    have HO_203000 := n1_
                    have HO_203002 := n2_
                    have HO207 := n3_
                    have BK189 := n4_
                    have BK202 := n5_
                    have HB := n6_
                    clear n0_ n1_ n2_ n3_ n4_ n5_ n6_
                    have p208 : 0 ≤ (x9_1 : Int) := of_decide_eq_true (by first | (with_reducible assumption) | assumption)
                    have q208 : x9_1 < (t190.length : Int) := of_decide_eq_true (by first | (with_reducible assumption) | assumption)
                    obtain ⟨ad208, e208, hx208_0⟩ := Kd.at_int (Kd.R_reads' HO_7.out).2.2 x9_1 p208 q208
                    obtain rfl : ad203 = ad208 := (by injection e208)
                    replace p208 := eq_true p208
                    replace q208 := eq_true q208
                    have p209 : 0 ≤ ((rd t190 x9_1) : Int) := of_decide_eq_true (by first | (with_reducible assumption) | assumption)
                    have q209 : (rd t190 x9_1) < (l2.length : Int) := of_decide_eq_true (by first | (with_reducible assumption) | assumption)
                    obtain ⟨ad209, e209, hx209_0⟩ := Kd.at_int HR2.out (rd t190 x9_1) p209 q209
                    have hw209_0 := hx209_0
                    cases e209
                    replace hx209_0 := (HB.out.cell (World.block_lt_of_cell? w _ hx209_0)).trans hx209_0
                    replace p209 := eq_true p209
                    replace q209 := eq_true q209
                    refine start_ (n := 13) (S := fun w' => w'.cell? ⟨gb202, 0, none⟩ = some (.slice Ao15 t193.length co15) ∧ w'.cell? ⟨gb202, 1, none⟩ = some (.slice Ao29 y205.length co29) ∧ w'.cell? ⟨gb202, 2, none⟩ = some (u203002) ∧ w'.cell? (ad203.add (x9_1).toNat) = some (.int .i64 (rd t190 x9_1)) ∧ w'.cell? (ad209.add ((rd t190 x9_1)).toNat) = some (.int .i64 (rd l2 (rd t190 x9_1)))) (ds := [10, 12]) (bl 13 0) (by kernel_rfl) rfl rfl ⟨(blk_cell BK202.out 0).trans rfl, (blk_cell BK202.out 1).trans rfl, (blk_cell BK202.out 2).trans rfl, hx208_0, ((HB.out.cell (World.block_lt_of_cell? w _ hw209_0)).trans hw209_0)⟩ (fun hHeld => ?_); refine with_tabW spec_l07Normal.tab6 spec_l07Normal.bits6 (fun HT_ HW_ => ?_)
                    generalize w31.drew = w32 at HO_7 HO_203000 HO_203002 HO207 BK189 BK202 HB hx208_0 hx209_0 hHeld ⊢
                    refine pure_ (i := 0) (N := some 35) (v := ?_) (a' := ?_) (bl 13 1) rfl rfl (any_of HT_.out (by kernel_rfl)) (fun _ _ _ h => h) (Or.inl ⟨by rfl, ?_⟩) ?_ ?_; rotate_left; (focus intro w'; go_simp; with_reducible rfl); rotate_left; (focus simp only [Act.put, List.setIfInBounds_toArray, List.set_cons_zero, List.set_cons_succ, i64_w, i32_w]; rfl)
                    refine pure_ (i := 2) (N := some 37) (v := ?_) (a' := ?_) (bl 13 5) rfl rfl (any_of HT_.out (by kernel_rfl)) (fun _ _ _ h => h) (Or.inl ⟨by rfl, ?_⟩) ?_ ?_; rotate_left; (focus intro w'; go_simp; with_reducible rfl); rotate_left; (focus simp only [Act.put, List.setIfInBounds_toArray, List.set_cons_zero, List.set_cons_succ, i64_w, i32_w]; rfl)
                    refine pure_ (i := 3) (N := some 38) (v := ?_) (a' := ?_) (bl 13 13) rfl rfl (any_of HT_.out (by kernel_rfl)) (fun _ _ _ h => h) (Or.inl ⟨by rfl, ?_⟩) ?_ ?_; rotate_left; (focus intro w'; go_simp; with_reducible rfl); rotate_left; (focus simp only [Act.put, List.setIfInBounds_toArray, List.set_cons_zero, List.set_cons_succ, i64_w, i32_w]; rfl)
                    refine pure_ (i := 4) (N := some 39) (v := ?_) (a' := ?_) (bl 13 29) rfl rfl (any_of HT_.out (by kernel_rfl)) (fun _ _ _ h => h) (Or.inl ⟨by rfl, ?_⟩) ?_ ?_; rotate_left; (focus intro w'; go_simp; with_reducible rfl); rotate_left; (focus simp only [Act.put, List.setIfInBounds_toArray, List.set_cons_zero, List.set_cons_succ, i64_w, i32_w]; rfl)
                    refine pure_ (i := 5) (N := some 40) (v := ?_) (a' := ?_) (bl 13 61) rfl rfl (any_of HT_.out (by kernel_rfl)) (fun _ _ _ h => h) (Or.inl ⟨by rfl, ?_⟩) ?_ ?_; rotate_left; (focus intro w'; go_simp; with_reducible rfl); rotate_left; (focus simp only [Act.put, List.setIfInBounds_toArray, List.set_cons_zero, List.set_cons_succ, i64_w, i32_w]; rfl)
                    refine take_ (i := 1) (N := some 36) (v := ?_) (a' := ?_) (bl 13 63) rfl rfl (take_ofW HT_.out HW_.out (by kernel_rfl)) (fun _ _ _ h => h) (Or.inl ⟨by rfl, ?_⟩) hHeld ?_ ?_; rotate_left; (focus rintro w' ⟨s0, s1, s2, s3, s4⟩; go_simp; with_reducible rfl); rotate_left; (focus simp only [Act.put, List.setIfInBounds_toArray, List.set_cons_zero, List.set_cons_succ, i64_w, i32_w]; rfl)
                    refine take_ (i := 6) (N := some 41) (v := ?_) (a' := ?_) (bl 13 127) rfl rfl (take_ofW HT_.out HW_.out (by kernel_rfl)) (fun _ _ _ h => h) (Or.inl ⟨by rfl, ?_⟩) hHeld ?_ ?_; rotate_left; (focus rintro w' ⟨s0, s1, s2, s3, s4⟩; go_simp; with_reducible rfl); rotate_left; (focus simp only [Act.put, List.setIfInBounds_toArray, List.set_cons_zero, List.set_cons_succ, i64_w, i32_w]; rfl)
                    refine pure_ (i := 7) (N := some 42) (v := ?_) (a' := ?_) (bl 13 255) rfl rfl (any_of HT_.out (by kernel_rfl)) (fun _ _ _ h => h) (Or.inl ⟨by rfl, ?_⟩) ?_ ?_; rotate_left; (focus intro w'; go_simp; with_reducible rfl); rotate_left; (focus simp only [Act.put, List.setIfInBounds_toArray, List.set_cons_zero, List.set_cons_succ, i64_w, i32_w]; rfl)
                    refine take_ (i := 8) (N := some 43) (v := ?_) (a' := ?_) (bl 13 511) rfl rfl (take_ofW HT_.out HW_.out (by kernel_rfl)) (fun _ _ _ h => h) (Or.inl ⟨by rfl, ?_⟩) hHeld ?_ ?_; rotate_left; (focus rintro w' ⟨s0, s1, s2, s3, s4⟩; go_simp; with_reducible rfl); rotate_left; (focus simp only [Act.put, List.setIfInBounds_toArray, List.set_cons_zero, List.set_cons_succ, i64_w, i32_w]; rfl)
                    refine one_ (i := 9) (N := some 44) (bl 13 1023) rfl rfl (one_of HT_.out (by kernel_rfl)) (by decide) (fun K hK => ?_)
                    refine value_ (w1 := ?_) (v := ?_) (by rfl) rfl ?_ ?_
                    rotate_left 2
                    · go_simp
                      constructor
                      · rfl
                      · rfl
                    refine hK.out _ _ ⟨(blk_cell (blk_alloc BK202.out _) 0).trans rfl, (blk_cell (blk_alloc BK202.out _) 1).trans rfl, (blk_cell (blk_alloc BK202.out _) 2).trans rfl, (World.cell?_alloc_lt _ _ _ (World.block_lt_of_cell? _ _ (hHeld.2.2.2.1))).trans (hHeld.2.2.2.1), (World.cell?_alloc_lt _ _ _ (World.block_lt_of_cell? _ _ (((HB.out.cell (World.block_lt_of_cell? w _ hw209_0)).trans hw209_0)))).trans (((HB.out.cell (World.block_lt_of_cell? w _ hw209_0)).trans hw209_0))⟩ (fun hHeld => ?_)
                    clear hK K
                    refine norm_ (a' := ?_) ?_ ?_
                    rotate_left
                    · show Act.put _ (some 44) _ = _
                      simp only [Act.put, List.setIfInBounds_toArray, List.set_cons_zero, List.set_cons_succ, i64_w, i32_w]
                      rfl
                    refine last_ (i := 10) (N := some 45) (bl 13 2047) rfl rfl (one_of HT_.out (by kernel_rfl)) (by decide) (fun K hK => ?_)
                    refine Kd.R_append_step (Kd.int .i64) (w0 := w) w.heap.size (by rfl) (.tmp 36) (.tmp 44) 22 2 (.int .i64 0) 8 rfl Try.underlying22 info2 rfl (by decide) (by omega) u203002 x203002_1 (rd l2 (rd t190 x9_1)) [.int .i64 (rd l2 (rd t190 x9_1))] (fun k_ => some k_ ≠ (.slice (some ad203) t190.length co26 : Value).ownBlock ∧ some k_ ≠ (.slice Ao15 t193.length co15 : Value).ownBlock ∧ some k_ ≠ (.slice Ao29 y205.length co29 : Value).ownBlock) (fun _ => False) rfl rfl ?aP (fun _ hk => hk.elim) ?aF ?aO ?aB ?aS ?aL ?_
                    (case aP => exact rfl)
                    (case aB => exact (by repeat (first | exact HB.out | refine below_set ?_ GE189.out | refine below_set ?_ GE202.out)))
                    (case aF => exact (fun k_ hk => ⟨Kd.fresh' (Kd.R_lt HO_7.out) k_ hk, Kd.fresh' (Kd.R_lt HO_203000.out) k_ hk, Kd.fresh' (Kd.R_lt HO207.out) k_ hk⟩))
                    (case aO => exact HO_203002.out)
                    (case aS => exact (below_size (by repeat (first | exact HB.out | refine below_set ?_ GE189.out | refine below_set ?_ GE202.out))))
                    (case aL => have := LMc25.out; omega)
                    intro v211 w33 ho hb hg hat
                    rw [← Ny210.out] at ho
                    have n0_ := mk0 (Kd.R_after (ok := (fun k_ => some k_ ≠ (.slice Ao15 t193.length co15 : Value).ownBlock ∧ some k_ ≠ (.slice Ao29 y205.length co29 : Value).ownBlock)) (by exact Kd.R_mono HO_7.out (fun _ hk => ⟨⟨hk.1, hk.2.2⟩, hk.2.1⟩)) hg hat)
                    have n1_ := mk0 (Kd.R_after (ok := (fun k_ => some k_ ≠ (.slice (some ad203) t190.length co26 : Value).ownBlock ∧ some k_ ≠ (.slice Ao29 y205.length co29 : Value).ownBlock)) (by exact Kd.R_mono HO_203000.out (fun _ hk => ⟨⟨hk.1, hk.2.2⟩, hk.2.1⟩)) hg hat)
                    have n2_ := mk0 (blk_grown (g := gb189) (o := .cells #[.slice none 0 0, .slice none 0 0, .slice none 0 0] 34 (0, 0)) (by exact BK189.out) hg (Kd.R_ne HO_203002.out BK189.out (by decide)))
                    have n3_ := mk0 (blk_grown (g := gb202) (o := .cells #[.slice Ao15 t193.length co15, .slice Ao29 y205.length co29, u203002] 34 (0, 0)) (by exact BK202.out) hg (Kd.R_ne HO_203002.out BK202.out (by decide)))
                    have n4_ := mk0 (Kd.R_after (ok := (fun k_ => some k_ ≠ (.slice (some ad203) t190.length co26 : Value).ownBlock ∧ some k_ ≠ (.slice Ao15 t193.length co15 : Value).ownBlock)) (by exact Kd.R_mono HO207.out (fun _ hk => ⟨⟨hk.1, hk.2.1⟩, hk.2.2⟩)) hg hat)
                    have n5_ := mk0 (hb)
                    have n6_ := mk0 (ho)
                    clear HO_7
                    clear HO_203000
                    clear BK189
                    clear BK202
                    clear HO207
                    clear HB
                    clear HO_203002
                    have HO_7 := n0_
                    have HO_203000 := n1_
                    have BK189 := n2_
                    have BK202 := n3_
                    have HO207 := n4_
                    have HB := n5_
                    have HO212 := n6_
                    clear n0_ n1_ n2_ n3_ n4_ n5_ n6_
                    clear ho hb hg hat
                    obtain ⟨Ao34, co34, eo34⟩ := Kd.R_slice HO212.out
                    (first | subst eo34 | (injection eo34 with f1_ f2_ f3_; have f4_ := f1_.symm; have f5_ := f3_.symm; clear f1_ f2_ f3_; subst f4_; subst f5_))
                    refine hK.out _ _ ?_
                    clear hK K
                    refine norm_ (a' := ?_) ?_ ?_
                    rotate_left
                    · show Act.put _ (some 45) _ = _
                      simp only [Act.put, List.setIfInBounds_toArray, List.set_cons_zero, List.set_cons_succ, i64_w, i32_w]
                      rfl
                    refine pure_ (i := 11) (N := some 46) (v := ?_) (a' := ?_) (bl 13 4095) rfl rfl (any_of HT_.out (by kernel_rfl)) (fun _ _ _ h => h) (Or.inl ⟨by rfl, ?_⟩) ?_ ?_; rotate_left; (focus intro w'; go_simp; with_reducible rfl); rotate_left; (focus simp only [Act.put, List.setIfInBounds_toArray, List.set_cons_zero, List.set_cons_succ, i64_w, i32_w]; rfl)
                    refine last_ (i := 12) (N := none) (bl 13 8191) rfl rfl (one_of HT_.out (by kernel_rfl)) (by decide) (fun K hK => ?_)
                    have hs35 : w33.cell? ⟨gb202, 2, none⟩ = some (u203002) := (blk_cell BK202.out 2).trans rfl
                    have hfs35 := blk_frozen BK202.out 2
                    have hns35_0 := NB189_202.out
                    have hms35_0 := NB202_189.out
                    refine skip_ (w1 := ?_) (by rfl) rfl ?_ ?_
                    rotate_left
                    · go_simp
                      rfl
                    refine hK.out _ _ ?_
                    clear hK K
                    refine done_ (done_of HT_.out (by kernel_rfl)) ?_
                    try go_wp2
                    go_roundg k1
                    case measure => have := HK1.out; omega
                    case rel => exact ⟨(wrap64 (x9_1 + 1)), (y205), (y210), (.slice Ao29 y205.length co29), (.slice Ao34 y210.length co34), (by first | rfl | (simp; done) | (simp [*]; done)), H', ⟨by have := HK1.out; omega⟩, ⟨by exact Kd.R_mono (Kd.R_far (p := ⟨gb202, 2, none⟩) (Kd.R_types HO_7.out BK202.out (by decide)) (fun _ hk => hk.2) (.slice Ao34 y210.length co34)) (fun _ hk => ⟨hk.1.1.1, ⟨hk.1.1.2, hk.1.2⟩⟩)⟩, ⟨by exact Kd.R_mono (Kd.R_far (p := ⟨gb202, 2, none⟩) (Kd.R_types HO_203000.out BK202.out (by decide)) (fun _ hk => hk.2) (.slice Ao34 y210.length co34)) (fun _ hk => ⟨hk.1.1.1, ⟨hk.1.1.2, hk.1.2⟩⟩)⟩, ⟨by exact Kd.R_mono (Kd.R_far (p := ⟨gb202, 2, none⟩) (Kd.R_types HO207.out BK202.out (by decide)) (fun _ hk => hk.2) (.slice Ao34 y210.length co34)) (fun _ hk => ⟨hk.1.1.1, ⟨hk.1.1.2, hk.1.2⟩⟩)⟩, ⟨by exact Kd.R_mono (Kd.R_far (p := ⟨gb202, 2, none⟩) (Kd.R_types HO212.out BK202.out (by decide)) (fun _ hk => hk.2) (.slice Ao34 y210.length co34)) (fun _ hk => ⟨hk.1.1, ⟨hk.1.2.1, hk.1.2.2⟩⟩)⟩, ⟨by refine blk_far ?_ NB189_202.out _; exact BK189.out⟩, ⟨by refine blk_put (cs := #[.slice Ao15 t193.length co15, .slice Ao29 y205.length co29, u203002]) ?_ 2 _ rfl; exact BK202.out⟩, ⟨by repeat (first | exact HB.out | refine below_set ?_ GE189.out | refine below_set ?_ GE202.out)⟩⟩
                  · rw [if_neg c25] at H
                    exact absurd H (by simp)
                · rw [if_neg c24] at H
                  exact absurd H (by simp)
              · rw [if_neg c23] at H
                exact absurd H (by simp)
            · rw [if_neg c22] at H
              exact absurd H (by simp)
          · rw [if_neg c21] at H
            exact absurd H (by simp)
        · rw [if_neg c20] at H
          exact absurd H (by simp)
      · rw [if_neg c19] at H
        have c19b0 : decide (x9_1 < (t190.length : Int)) = false := decide_eq_false c19
        clear c19
        simp only [Option.some.injEq, Prod.mk.injEq] at H
        obtain ⟨rfl, rfl, rfl⟩ := H
        obtain ⟨Ao36, co36, eo36⟩ := Kd.R_slice HO_7.out
        subst eo36
        have hnb37 := NB202_189.out
        have hnc37 := NB189_202.out
        obtain ⟨hcz38_0, hcz38_1, hcz38_2⟩ := bc3 BK202.out
        obtain ⟨hfz38_0, hfz38_1, hfz38_2⟩ := bf3 BK202.out
        obtain ⟨hcz39_0, hcz39_1, hcz39_2⟩ := bc3 BK189.out
        obtain ⟨hfz39_0, hfz39_1, hfz39_2⟩ := bf3 BK189.out
        obtain ⟨Ao40, co40, eo40⟩ := Kd.R_slice HO_203001.out
        subst eo40
        obtain ⟨Ao41, co41, eo41⟩ := Kd.R_slice HO_203002.out
        subst eo41
        go_wp2
        refine bodyPost_ret (results_cell_row rfl _ _ gb189 34 #[.slice Ao15 t193.length co15, .slice Ao40 x203001_1.length co40, .slice Ao41 x203002_1.length co41] (0, 0) _ rfl (by refine blk_put (cs := #[.slice Ao15 t193.length co15, .slice Ao40 x203001_1.length co40, .slice none 0 0]) ?_ 2 _ rfl; refine blk_put (cs := #[.slice Ao15 t193.length co15, .slice none 0 0, .slice none 0 0]) ?_ 1 _ rfl; refine blk_put (cs := #[.slice none 0 0, .slice none 0 0, .slice none 0 0]) ?_ 0 _ rfl; exact BK189.out) Try.underlying34 rfl (by kernel_rfl)) rfl ?_
        exact ⟨_, _, _, by first | rfl | (simp [errW_none, errW_some] <;> rfl) | (simp [*, errW_none, errW_some] <;> rfl), by exact Kd.R_mono (Kd.R_far (p := ⟨gb189, 2, none⟩) (Kd.R_far (p := ⟨gb189, 1, none⟩) (Kd.R_far (p := ⟨gb189, 0, none⟩) (Kd.R_types HO_203000.out BK189.out (by decide)) (fun _ hk => hk.2) (.slice Ao15 t193.length co15)) (fun _ hk => hk.2) (.slice Ao40 x203001_1.length co40)) (fun _ hk => hk.2) (.slice Ao41 x203002_1.length co41)) (fun _ hk => ⟨hk.1.2.1, hk.1.2.2⟩), by exact Kd.R_mono (Kd.R_far (p := ⟨gb189, 2, none⟩) (Kd.R_far (p := ⟨gb189, 1, none⟩) (Kd.R_far (p := ⟨gb189, 0, none⟩) (Kd.R_types HO_203001.out BK189.out (by decide)) (fun _ hk => hk.2) (.slice Ao15 t193.length co15)) (fun _ hk => hk.2) (.slice Ao40 x203001_1.length co40)) (fun _ hk => hk.2) (.slice Ao41 x203002_1.length co41)) (fun _ hk => ⟨hk.1.2.1, hk.1.2.2⟩), by exact Kd.R_mono (Kd.R_far (p := ⟨gb189, 2, none⟩) (Kd.R_far (p := ⟨gb189, 1, none⟩) (Kd.R_far (p := ⟨gb189, 0, none⟩) (Kd.R_types HO_203002.out BK189.out (by decide)) (fun _ hk => hk.2) (.slice Ao15 t193.length co15)) (fun _ hk => hk.2) (.slice Ao40 x203001_1.length co40)) (fun _ hk => hk.2) (.slice Ao41 x203002_1.length co41)) (fun _ hk => ⟨hk.1.2.1, hk.1.2.2⟩), by repeat (first | exact HB.out | refine below_set ?_ GE189.out | refine below_set ?_ GE202.out)⟩
end Go.Proofs.Ytihfncjpfgdhoaa.PA
end
section
namespace Go.Proofs.Ytihfncjpfgdhoaa.PA
open Go.RowKit Go.Proofs.YtihfncjpfgdhoaaW.PrintWords Go.Proofs.YtihfncjpfgdhoaaW.PrintLast Go.Proofs.YtihfncjpfgdhoaaW.PrintMore
attribute [local go_sem] max2_int min2_int max_two min_two max_three min_three max_four min_four   -- for this text's walks alone
open Go.Proofs.Ytihfncjpfgdhoaa.K
/-! ### spec_l07Is: function 56 -/
mutual
def spec_l07Is.j0 : Nat → Int → Bool → List Int → List Int → List Int → Option (Bool)
  | 0, _, _, _, _, _ => none
  | k + 1, x3, x26, x170000, x170001, x170002 => if x26 = true then (some false) else (spec_l07Is.l0 k x3 0 x170000 x170001 x170002)
def spec_l07Is.l0 : Nat → Int → Int → List Int → List Int → List Int → Option (Bool)
  | 0, _, _, _, _, _ => none
  | k + 1, x3, x4, x170000, x170001, x170002 => if x4 < x3 then (if 0 ≤ x4 then (if x4 < (x170001.length : Int) then ((spec_l01In.f (rd x170001 x4) 0 1).bind fun t172 => (if t172 = true then (if x4 < (x170002.length : Int) then (if (rd x170002 x4) = 1 then (spec_l07Is.l0 k x3 (wrap64 (x4 + 1)) x170000 x170001 x170002) else (if (rd x170002 x4) = (-1) then (spec_l07Is.l0 k x3 (wrap64 (x4 + 1)) x170000 x170001 x170002) else (some false))) else (none)) else (some false))) else (none)) else (none)) else (some true)
end
def spec_l07Is.f (k : Nat) (l0_0 : List Int) (l0_1 : List Int) (l0_2 : List Int) : Option (Bool) := (spec_l01Is.f k l0_0).bind fun t170 => (if t170 = true then (if (l0_1.length : Int) = (wrap64 ((l0_0.length : Int) / 2)) then (spec_l07Is.j0 k (wrap64 ((l0_0.length : Int) / 2)) ((l0_2.length : Int) != (wrap64 ((l0_0.length : Int) / 2))) l0_0 l0_1 l0_2) else (spec_l07Is.j0 k (wrap64 ((l0_0.length : Int) / 2)) true l0_0 l0_1 l0_2)) else (spec_l07Is.j0 k (wrap64 ((l0_0.length : Int) / 2)) true l0_0 l0_1 l0_2))
theorem spec_l07Is.mono_l : ∀ k, (∀ y0 y1 y2 y3 y4, LeO (spec_l07Is.j0 k y0 y1 y2 y3 y4) (spec_l07Is.j0 (k + 1) y0 y1 y2 y3 y4)) ∧ (∀ y0 y1 y2 y3 y4, LeO (spec_l07Is.l0 k y0 y1 y2 y3 y4) (spec_l07Is.l0 (k + 1) y0 y1 y2 y3 y4))
  | 0 => ⟨fun _ _ _ _ _ r h => by simp [spec_l07Is.j0] at h, fun _ _ _ _ _ r h => by simp [spec_l07Is.l0] at h⟩
  | k + 1 => by
    obtain ⟨ih0, ih1⟩ := spec_l07Is.mono_l k
    refine ⟨?_, ?_⟩
    · intro y0 y1 y2 y3 y4
      unfold spec_l07Is.j0
      repeat' first
      | (with_reducible exact ih0 _ _ _ _ _)
      | (with_reducible exact ih1 _ _ _ _ _)
      | (with_reducible exact spec_l01Is.mono _ _)
      | (with_reducible exact LeO.refl _)
      | (with_reducible exact LeO.none _)
      | (with_reducible refine LeO.ite ?_ ?_)
      | (with_reducible refine LeO.bind ?_ (fun _ => ?_))
      | exact ih0 _ _ _ _ _
      | exact ih1 _ _ _ _ _
      | exact spec_l01Is.mono _ _
      | exact LeO.none _
      | refine LeO.ite ?_ ?_
      | refine LeO.bind ?_ (fun _ => ?_)
    · intro y0 y1 y2 y3 y4
      unfold spec_l07Is.l0
      repeat' first
      | (with_reducible exact ih0 _ _ _ _ _)
      | (with_reducible exact ih1 _ _ _ _ _)
      | (with_reducible exact spec_l01Is.mono _ _)
      | (with_reducible exact LeO.refl _)
      | (with_reducible exact LeO.none _)
      | (with_reducible refine LeO.ite ?_ ?_)
      | (with_reducible refine LeO.bind ?_ (fun _ => ?_))
      | exact ih0 _ _ _ _ _
      | exact ih1 _ _ _ _ _
      | exact spec_l01Is.mono _ _
      | exact LeO.none _
      | refine LeO.ite ?_ ?_
      | refine LeO.bind ?_ (fun _ => ?_)
theorem spec_l07Is.mono : ∀ a0 a1 a2 k, LeO (spec_l07Is.f k a0 a1 a2) (spec_l07Is.f (k + 1) a0 a1 a2) := by
  intro a0 a1 a2 k
  obtain ⟨ih0, ih1⟩ := spec_l07Is.mono_l k
  unfold spec_l07Is.f
  repeat' first
      | (with_reducible exact ih0 _ _ _ _ _)
      | (with_reducible exact ih1 _ _ _ _ _)
      | (with_reducible exact spec_l01Is.mono _ _)
      | (with_reducible exact LeO.refl _)
      | (with_reducible exact LeO.none _)
      | (with_reducible refine LeO.ite ?_ ?_)
      | (with_reducible refine LeO.bind ?_ (fun _ => ?_))
      | exact ih0 _ _ _ _ _
      | exact ih1 _ _ _ _ _
      | exact spec_l01Is.mono _ _
      | exact LeO.none _
      | refine LeO.ite ?_ ?_
      | refine LeO.bind ?_ (fun _ => ?_)
set_option maxHeartbeats 8000000 in
set_option maxRecDepth 100000 in
theorem spec_l07Is.calls (k : Nat) (A0_0 : Option Addr) (c0_0 : Nat) (l0_0 : List Int) (A0_1 : Option Addr) (c0_1 : Nat) (l0_1 : List Int) (A0_2 : Option Addr) (c0_2 : Nat) (l0_2 : List Int) (r : Bool) (w : World) (hr0_0 : Kd.C (Kd.int .i64) w A0_0 l0_0.length l0_0) (hc0_0 : l0_0.length ≤ c0_0) (hr0_1 : Kd.C (Kd.int .i64) w A0_1 l0_1.length l0_1) (hc0_1 : l0_1.length ≤ c0_1) (hr0_2 : Kd.C (Kd.int .i64) w A0_2 l0_2.length l0_2) (hc0_2 : l0_2.length ≤ c0_2) (h : spec_l07Is.f k l0_0 l0_1 l0_2 = some r) :
    Calls Try.prog 56 #[.agg #[.slice A0_0 l0_0.length c0_0, .slice A0_1 l0_1.length c0_1, .slice A0_2 l0_2.length c0_2]] w fun e w' => e = .returned (.bool r) ∧ Below w.heap.size w w' := by
  have hu34 := Try.underlying34
  have HR0_0 := Aside0.mk hr0_0
  have HC0_0 := Aside0.mk hc0_0
  clear hr0_0 hc0_0
  have HR0_1 := Aside0.mk hr0_1
  have HC0_1 := Aside0.mk hc0_1
  clear hr0_1 hc0_1
  have HR0_2 := Aside0.mk hr0_2
  have HC0_2 := Aside0.mk hc0_2
  clear hr0_2 hc0_2
  have HB := mk0 (Below.refl w.heap.size w)
  have H : ((spec_l01Is.f k l0_0).bind fun t170 => (if t170 = true then (if (l0_1.length : Int) = (wrap64 ((l0_0.length : Int) / 2)) then (spec_l07Is.j0 k (wrap64 ((l0_0.length : Int) / 2)) ((l0_2.length : Int) != (wrap64 ((l0_0.length : Int) / 2))) l0_0 l0_1 l0_2) else (spec_l07Is.j0 k (wrap64 ((l0_0.length : Int) / 2)) true l0_0 l0_1 l0_2)) else (spec_l07Is.j0 k (wrap64 ((l0_0.length : Int) / 2)) true l0_0 l0_1 l0_2))) = some r := h
  clear h
  have HC2 := Aside0.mk H
  clear H
  go_enter Try.func56, Try.ntmps56
  go_upto_region 2 with (first | ((with_reducible refine gate_dst (N := 1) rfl ?_); (try (refine gate_guard (by rfl) ?_; dsimp only)); refine box_event ?hg (N := 1) ?hd (cs := #[.slice A0_0 l0_0.length c0_0, .slice A0_1 l0_1.length c0_1, .slice A0_2 l0_2.length c0_2]) (t := 34) ?hr ?_; (case hd => rfl); (case hg => rfl); (case hr => first | (go_simp; done) | (go_simp; rfl)); intro gb169 hg w3 hbox hb; have n0_ := mk0 (below_step (by repeat (first | exact HB.out | apply below_alloc | apply pw_below_drewN | apply below_drew1)) hb); have n1_ := mk0 (hbox); have n2_ := mk0 ((by rw [hg]; exact (below_size (by repeat (first | exact HB.out | apply below_alloc | apply pw_below_drewN | apply below_drew1))) : w.heap.size ≤ gb169)); have n3_ := mk0 ((by rw [hg]; exact (below_size (by repeat (first | exact HB.out | apply below_alloc | apply pw_below_drewN | apply below_drew1))) : w.heap.size ≤ gb169)); clear HB; have HB := n0_; have BK169 := n1_; have GW169 := n2_; have GE169 := n3_; clear n0_ n1_ n2_ n3_; clear hb hbox hg; obtain ⟨hcz4_0, hcz4_1, hcz4_2⟩ := bc3 BK169.out; obtain ⟨hfz4_0, hfz4_1, hfz4_2⟩ := bf3 BK169.out))
  (try simp only [Act.put, List.setIfInBounds_toArray, List.set_cons_zero, List.set_cons_succ])
  go_cut [26] (fun v26 wc => ∃ (kq : Nat) (x26_1 : Bool), v26 = .bool x26_1 ∧ Aside0 (spec_l07Is.j0 kq (wrap64 ((l0_0.length : Int) / 2)) x26_1 l0_0 l0_1 l0_2 = some r) ∧ Aside0 (kq ≤ k) ∧ Aside0 (wc.heap[gb169]? = some (.cells #[(.slice A0_0 l0_0.length c0_0), (.slice A0_1 l0_1.length c0_1), (.slice A0_2 l0_2.length c0_2)] 34 (0, 0))) ∧ Aside0 (Below w.heap.size w wc))
  case first =>
    have H := HC2.out
    clear HC2
    replace H := Option.bind_eq_some_iff.mp H
    obtain ⟨t170, A50, H⟩ := H
    replace H : (if t170 = true then (if (l0_1.length : Int) = (wrap64 ((l0_0.length : Int) / 2)) then (spec_l07Is.j0 k (wrap64 ((l0_0.length : Int) / 2)) ((l0_2.length : Int) != (wrap64 ((l0_0.length : Int) / 2))) l0_0 l0_1 l0_2) else (spec_l07Is.j0 k (wrap64 ((l0_0.length : Int) / 2)) true l0_0 l0_1 l0_2)) else (spec_l07Is.j0 k (wrap64 ((l0_0.length : Int) / 2)) true l0_0 l0_1 l0_2)) = some r := H
    have A5 := Aside0.mk A50
    clear A50
    by_cases c6 : t170 = true
    · subst c6
      have H1 : (if (l0_1.length : Int) = (wrap64 ((l0_0.length : Int) / 2)) then (spec_l07Is.j0 k (wrap64 ((l0_0.length : Int) / 2)) ((l0_2.length : Int) != (wrap64 ((l0_0.length : Int) / 2))) l0_0 l0_1 l0_2) else (spec_l07Is.j0 k (wrap64 ((l0_0.length : Int) / 2)) true l0_0 l0_1 l0_2)) = some r := by rw [if_pos rfl] at H; exact H
      clear H
      have H := H1
      clear H1
      by_cases c7 : (l0_1.length : Int) = (wrap64 ((l0_0.length : Int) / 2))
      · rw [if_pos c7] at H
        have c7b0 : ((l0_1.length : Int) == (wrap64 ((l0_0.length : Int) / 2))) = true := beq_iff_eq.mpr c7
        have c7b1 : ((l0_1.length : Int) != (wrap64 ((l0_0.length : Int) / 2))) = false := bne_eq_false_iff_eq.mpr c7
        clear c7
        (first | rw [c7b0] | (simp only [i64_w, i32_w]; rw [c7b0]) | skip)
        have H' := Aside0.mk H
        clear H
        obtain ⟨hcz8_0, hcz8_1, hcz8_2⟩ := bc3 BK169.out
        obtain ⟨hfz8_0, hfz8_1, hfz8_2⟩ := bf3 BK169.out
        go_wp2_with (first | ((with_reducible refine gate_callee (f := 85) rfl ?_); refine goesL_ (some 11) rfl rfl Try.func85 (by kernel_rfl) rfl #[.slice A0_0 l0_0.length c0_0] rfl (by (try simp only [List.map_toArray, List.map_cons, List.map_nil]); rfl) ?_; (with_reducible refine (spec_l01Is.calls k _ _ l0_0 true _ ?side1 ?side2 A5.out).mono ?_); (case side1 => exact (Kd.C_below HR0_0.out HB.out)); (case side2 => exact HC0_0.out); rintro e w9 ⟨rfl, hb⟩; refine ⟨_, rfl, ?_⟩; have n0_ := mk0 (blk_below (by exact BK169.out) hb); have n1_ := mk0 (below_step (by repeat (first | exact HB.out | apply below_alloc | apply pw_below_drewN | apply below_drew1 | refine below_set ?_ GE169.out)) hb); clear BK169; clear HB; have BK169 := n0_; have HB := n1_; clear n0_ n1_; (try clear hb); (try clear hb2); (try clear hk); (try clear hi); obtain ⟨hcz10_0, hcz10_1, hcz10_2⟩ := bc3 BK169.out; obtain ⟨hfz10_0, hfz10_1, hfz10_2⟩ := bf3 BK169.out))
        go_meet
        case rel => exact ⟨_, (((l0_2.length : Int) != (wrap64 ((l0_0.length : Int) / 2)))), (by first | rfl | (simp; done) | (simp [*]; done)), H', ⟨by first | omega | exact Nat.le_refl _⟩, ⟨by exact BK169.out⟩, ⟨by repeat (first | exact HB.out | apply below_alloc | apply pw_below_drewN | apply below_drew1 | refine below_set ?_ GE169.out)⟩⟩
      · rw [if_neg c7] at H
        have c7b0 : ((l0_1.length : Int) == (wrap64 ((l0_0.length : Int) / 2))) = false := beq_eq_false_iff_ne.mpr c7
        have c7b1 : ((l0_1.length : Int) != (wrap64 ((l0_0.length : Int) / 2))) = true := bne_iff_ne.mpr c7
        (first | rw [c7b0] | (simp only [i64_w, i32_w]; rw [c7b0]) | skip)
        have H' := Aside0.mk H
        clear H
        obtain ⟨hcz11_0, hcz11_1, hcz11_2⟩ := bc3 BK169.out
        obtain ⟨hfz11_0, hfz11_1, hfz11_2⟩ := bf3 BK169.out
        go_wp2_with (first | ((with_reducible refine gate_callee (f := 85) rfl ?_); refine goesL_ (some 11) rfl rfl Try.func85 (by kernel_rfl) rfl #[.slice A0_0 l0_0.length c0_0] rfl (by (try simp only [List.map_toArray, List.map_cons, List.map_nil]); rfl) ?_; (with_reducible refine (spec_l01Is.calls k _ _ l0_0 true _ ?side1 ?side2 A5.out).mono ?_); (case side1 => exact (Kd.C_below HR0_0.out HB.out)); (case side2 => exact HC0_0.out); rintro e w12 ⟨rfl, hb⟩; refine ⟨_, rfl, ?_⟩; have n0_ := mk0 (blk_below (by exact BK169.out) hb); have n1_ := mk0 (below_step (by repeat (first | exact HB.out | apply below_alloc | apply pw_below_drewN | apply below_drew1 | refine below_set ?_ GE169.out)) hb); clear BK169; clear HB; have BK169 := n0_; have HB := n1_; clear n0_ n1_; (try clear hb); (try clear hb2); (try clear hk); (try clear hi); obtain ⟨hcz13_0, hcz13_1, hcz13_2⟩ := bc3 BK169.out; obtain ⟨hfz13_0, hfz13_1, hfz13_2⟩ := bf3 BK169.out))
        go_meet
        case rel => exact ⟨_, (true), (by first | rfl | (simp; done) | (simp [*]; done)), H', ⟨by first | omega | exact Nat.le_refl _⟩, ⟨by exact BK169.out⟩, ⟨by repeat (first | exact HB.out | apply below_alloc | apply pw_below_drewN | apply below_drew1 | refine below_set ?_ GE169.out)⟩⟩
    · replace c6 := Bool.eq_false_iff.mpr c6
      subst c6
      have H1 : (spec_l07Is.j0 k (wrap64 ((l0_0.length : Int) / 2)) true l0_0 l0_1 l0_2) = some r := by rw [if_neg (show ¬ (false = true) by decide)] at H; exact H
      clear H
      have H := H1
      clear H1
      have H' := Aside0.mk H
      clear H
      obtain ⟨hcz14_0, hcz14_1, hcz14_2⟩ := bc3 BK169.out
      obtain ⟨hfz14_0, hfz14_1, hfz14_2⟩ := bf3 BK169.out
      go_wp2_with (first | ((with_reducible refine gate_callee (f := 85) rfl ?_); refine goesL_ (some 11) rfl rfl Try.func85 (by kernel_rfl) rfl #[.slice A0_0 l0_0.length c0_0] rfl (by (try simp only [List.map_toArray, List.map_cons, List.map_nil]); rfl) ?_; (with_reducible refine (spec_l01Is.calls k _ _ l0_0 false _ ?side1 ?side2 A5.out).mono ?_); (case side1 => exact (Kd.C_below HR0_0.out HB.out)); (case side2 => exact HC0_0.out); rintro e w15 ⟨rfl, hb⟩; refine ⟨_, rfl, ?_⟩; have n0_ := mk0 (blk_below (by exact BK169.out) hb); have n1_ := mk0 (below_step (by repeat (first | exact HB.out | apply below_alloc | apply pw_below_drewN | apply below_drew1 | refine below_set ?_ GE169.out)) hb); clear BK169; clear HB; have BK169 := n0_; have HB := n1_; clear n0_ n1_; (try clear hb); (try clear hb2); (try clear hk); (try clear hi)))
      go_meet
      case rel => exact ⟨_, (true), (by first | rfl | (simp; done) | (simp [*]; done)), H', ⟨by first | omega | exact Nat.le_refl _⟩, ⟨by exact BK169.out⟩, ⟨by repeat (first | exact HB.out | apply below_alloc | apply pw_below_drewN | apply below_drew1 | refine below_set ?_ GE169.out)⟩⟩
  case rest =>
    clear HC2
    try clear p2
    try clear c5
    try clear c6
    try clear p6
    try clear c7
    try clear c7b0
    try clear c7b1
    try clear c8
    try clear hcz10_0
    try clear hcz10_1
    try clear hcz10_2
    try clear hcz11_0
    try clear hcz11_1
    try clear hcz11_2
    try clear hcz13_0
    try clear hcz13_1
    try clear hcz13_2
    try clear hcz14_0
    try clear hcz14_1
    try clear hcz14_2
    try clear hcz4_0
    try clear hcz4_1
    try clear hcz4_2
    try clear hcz8_0
    try clear hcz8_1
    try clear hcz8_2
    try clear hfz10_0
    try clear hfz10_1
    try clear hfz10_2
    try clear hfz11_0
    try clear hfz11_1
    try clear hfz11_2
    try clear hfz13_0
    try clear hfz13_1
    try clear hfz13_2
    try clear hfz14_0
    try clear hfz14_1
    try clear hfz14_2
    try clear hfz4_0
    try clear hfz4_1
    try clear hfz4_2
    try clear hfz8_0
    try clear hfz8_1
    try clear hfz8_2
    obtain ⟨kq, x26_1, rfl, HA, HJ1, BK169, HB⟩ := hcut
    cases kq with
    | zero => exact absurd HA.out (by simp [spec_l07Is.j0])
    | succ kj1 =>
      have H := HA.out
      clear HA
      simp only [spec_l07Is.j0] at H
      by_cases c16 : x26_1 = true
      · subst c16
        have H1 : (some false) = some r := by rw [if_pos rfl] at H; exact H
        clear H
        have H := H1
        clear H1
        obtain rfl := Option.some.inj H
        go_wp2
        go_ret
        exact ⟨by first | rfl | (simp [errW_none, errW_some] <;> rfl) | (simp [*, errW_none, errW_some] <;> rfl), by repeat (first | exact HB.out | apply below_alloc | apply pw_below_drewN | apply below_drew1 | refine below_set ?_ GE169.out)⟩
      · replace c16 := Bool.eq_false_iff.mpr c16
        subst c16
        have H1 : (spec_l07Is.l0 kj1 (wrap64 ((l0_0.length : Int) / 2)) 0 l0_0 l0_1 l0_2) = some r := by rw [if_neg (show ¬ (false = true) by decide)] at H; exact H
        clear H
        have H := H1
        clear H1
        have H' := Aside0.mk H
        clear H
        go_wp2
        go_loopg [4] kj1 (fun kq v4 w' => ∃ (x4_2 : Int), v4 = .int .i64 x4_2 ∧ Aside0 (spec_l07Is.l0 kq (wrap64 ((l0_0.length : Int) / 2)) x4_2 l0_0 l0_1 l0_2 = some r) ∧ Aside0 (kq ≤ kj1) ∧ Aside0 (w'.heap[gb169]? = some (.cells #[(.slice A0_0 l0_0.length c0_0), (.slice A0_1 l0_1.length c0_1), (.slice A0_2 l0_2.length c0_2)] 34 (0, 0))) ∧ Aside0 (Below w.heap.size w w'))
        case atStart => exact ⟨(0), (by first | rfl | (simp; done) | (simp [*]; done)), H', ⟨Nat.le_refl _⟩, ⟨by exact BK169.out⟩, ⟨by repeat (first | exact HB.out | apply below_alloc | apply pw_below_drewN | apply below_drew1 | refine below_set ?_ GE169.out)⟩⟩
        case round =>
          clear H'
          try clear c1
          try clear p2
          try clear c5
          try clear c6
          try clear p6
          try clear c7
          try clear c7b0
          try clear c7b1
          try clear c8
          try clear c16
          try clear hcz10_0
          try clear hcz10_1
          try clear hcz10_2
          try clear hcz11_0
          try clear hcz11_1
          try clear hcz11_2
          try clear hcz13_0
          try clear hcz13_1
          try clear hcz13_2
          try clear hcz14_0
          try clear hcz14_1
          try clear hcz14_2
          try clear hcz4_0
          try clear hcz4_1
          try clear hcz4_2
          try clear hcz8_0
          try clear hcz8_1
          try clear hcz8_2
          try clear hfz10_0
          try clear hfz10_1
          try clear hfz10_2
          try clear hfz11_0
          try clear hfz11_1
          try clear hfz11_2
          try clear hfz13_0
          try clear hfz13_1
          try clear hfz13_2
          try clear hfz14_0
          try clear hfz14_1
          try clear hfz14_2
          try clear hfz4_0
          try clear hfz4_1
          try clear hfz4_2
          try clear hfz8_0
          try clear hfz8_1
          try clear hfz8_2
          try clear p2
          try clear p6
          obtain ⟨x4_2, rfl, HA, HK2, BK169, HB⟩ := hrel
          cases gk with
          | zero => exact absurd HA.out (by simp [spec_l07Is.l0])
          | succ k2 =>
            have H := HA.out
            clear HA
            simp only [spec_l07Is.l0] at H
            by_cases c17 : x4_2 < (wrap64 ((l0_0.length : Int) / 2))
            · rw [if_pos c17] at H
              have c17b0 : decide (x4_2 < (wrap64 ((l0_0.length : Int) / 2))) = true := decide_eq_true c17
              clear c17
              by_cases c18 : 0 ≤ x4_2
              · rw [if_pos c18] at H
                have c18b0 : decide (0 ≤ x4_2) = true := decide_eq_true c18
                clear c18
                by_cases c19 : x4_2 < (l0_1.length : Int)
                · rw [if_pos c19] at H
                  have c19b0 : decide (x4_2 < (l0_1.length : Int)) = true := decide_eq_true c19
                  clear c19
                  replace H := Option.bind_eq_some_iff.mp H
                  obtain ⟨t172, A200, H⟩ := H
                  replace H : (if t172 = true then (if x4_2 < (l0_2.length : Int) then (if (rd l0_2 x4_2) = 1 then (spec_l07Is.l0 k2 (wrap64 ((l0_0.length : Int) / 2)) (wrap64 (x4_2 + 1)) l0_0 l0_1 l0_2) else (if (rd l0_2 x4_2) = (-1) then (spec_l07Is.l0 k2 (wrap64 ((l0_0.length : Int) / 2)) (wrap64 (x4_2 + 1)) l0_0 l0_1 l0_2) else (some false))) else (none)) else (some false)) = some r := H
                  have A20 := Aside0.mk A200
                  clear A200
                  by_cases c21 : t172 = true
                  · subst c21
                    have H1 : (if x4_2 < (l0_2.length : Int) then (if (rd l0_2 x4_2) = 1 then (spec_l07Is.l0 k2 (wrap64 ((l0_0.length : Int) / 2)) (wrap64 (x4_2 + 1)) l0_0 l0_1 l0_2) else (if (rd l0_2 x4_2) = (-1) then (spec_l07Is.l0 k2 (wrap64 ((l0_0.length : Int) / 2)) (wrap64 (x4_2 + 1)) l0_0 l0_1 l0_2) else (some false))) else (none)) = some r := by rw [if_pos rfl] at H; exact H
                    clear H
                    have H := H1
                    clear H1
                    by_cases c22 : x4_2 < (l0_2.length : Int)
                    · rw [if_pos c22] at H
                      have c22b0 : decide (x4_2 < (l0_2.length : Int)) = true := decide_eq_true c22
                      clear c22
                      by_cases c23 : (rd l0_2 x4_2) = 1
                      · rw [if_pos c23] at H
                        have c23b0 : ((rd l0_2 x4_2) == 1) = true := beq_iff_eq.mpr c23
                        have c23b1 : ((rd l0_2 x4_2) != 1) = false := bne_eq_false_iff_eq.mpr c23
                        clear c23
                        have H' := Aside0.mk H
                        clear H
                        obtain ⟨hcz24_0, hcz24_1, hcz24_2⟩ := bc3 BK169.out
                        obtain ⟨hfz24_0, hfz24_1, hfz24_2⟩ := bf3 BK169.out
                        have p171 : 0 ≤ (x4_2 : Int) := of_decide_eq_true (by first | (with_reducible assumption) | assumption)
                        have q171 : x4_2 < (l0_1.length : Int) := of_decide_eq_true (by first | (with_reducible assumption) | assumption)
                        obtain ⟨ad171, e171, hx171_0⟩ := Kd.at_int HR0_1.out x4_2 p171 q171
                        cases e171
                        replace hx171_0 := (HB.out.cell (World.block_lt_of_cell? w _ hx171_0)).trans hx171_0
                        replace p171 := eq_true p171
                        replace q171 := eq_true q171
                        go_wp2_with (first | ((with_reducible refine gate_callee (f := 49) rfl ?_); refine goesL_ (some 37) rfl rfl Try.func49 (by kernel_rfl) rfl #[.int .i64 (rd l0_1 x4_2), .int .i64 0, .int .i64 1] rfl (by (try simp only [List.map_toArray, List.map_cons, List.map_nil]); rfl) ?_; (with_reducible refine (spec_l01In.calls (rd l0_1 x4_2) 0 1 true _ A20.out).mono ?_); rintro e w' ⟨rfl, ⟨nd, rfl⟩⟩; refine ⟨_, rfl, ?_⟩; have p173 : 0 ≤ (x4_2 : Int) := of_decide_eq_true (by first | (with_reducible assumption) | assumption); have q173 : x4_2 < (l0_2.length : Int) := of_decide_eq_true (by first | (with_reducible assumption) | assumption); obtain ⟨ad173, e173, hx173_0⟩ := Kd.at_int HR0_2.out x4_2 p173 q173; cases e173; replace hx173_0 := (HB.out.cell (World.block_lt_of_cell? w _ hx173_0)).trans hx173_0; replace p173 := eq_true p173; replace q173 := eq_true q173))
                        go_roundg k2
                        case measure => have := HJ1.out; have := HK2.out; omega
                        case rel => exact ⟨(wrap64 (x4_2 + 1)), (by first | rfl | (simp; done) | (simp [*]; done)), H', ⟨by have := HJ1.out; have := HK2.out; omega⟩, ⟨by exact BK169.out⟩, ⟨by repeat (first | exact HB.out | apply below_alloc | apply pw_below_drewN | apply below_drew1 | refine below_set ?_ GE169.out)⟩⟩
                      · rw [if_neg c23] at H
                        have c23b0 : ((rd l0_2 x4_2) == 1) = false := beq_eq_false_iff_ne.mpr c23
                        have c23b1 : ((rd l0_2 x4_2) != 1) = true := bne_iff_ne.mpr c23
                        by_cases c25 : (rd l0_2 x4_2) = (-1)
                        · rw [if_pos c25] at H
                          have c25b0 : ((rd l0_2 x4_2) == (-1)) = true := beq_iff_eq.mpr c25
                          have c25b1 : ((rd l0_2 x4_2) != (-1)) = false := bne_eq_false_iff_eq.mpr c25
                          clear c25
                          have H' := Aside0.mk H
                          clear H
                          obtain ⟨hcz26_0, hcz26_1, hcz26_2⟩ := bc3 BK169.out
                          obtain ⟨hfz26_0, hfz26_1, hfz26_2⟩ := bf3 BK169.out
                          have p171 : 0 ≤ (x4_2 : Int) := of_decide_eq_true (by first | (with_reducible assumption) | assumption)
                          have q171 : x4_2 < (l0_1.length : Int) := of_decide_eq_true (by first | (with_reducible assumption) | assumption)
                          obtain ⟨ad171, e171, hx171_0⟩ := Kd.at_int HR0_1.out x4_2 p171 q171
                          cases e171
                          replace hx171_0 := (HB.out.cell (World.block_lt_of_cell? w _ hx171_0)).trans hx171_0
                          replace p171 := eq_true p171
                          replace q171 := eq_true q171
                          go_wp2_with (first | ((with_reducible refine gate_callee (f := 49) rfl ?_); refine goesL_ (some 37) rfl rfl Try.func49 (by kernel_rfl) rfl #[.int .i64 (rd l0_1 x4_2), .int .i64 0, .int .i64 1] rfl (by (try simp only [List.map_toArray, List.map_cons, List.map_nil]); rfl) ?_; (with_reducible refine (spec_l01In.calls (rd l0_1 x4_2) 0 1 true _ A20.out).mono ?_); rintro e w' ⟨rfl, ⟨nd, rfl⟩⟩; refine ⟨_, rfl, ?_⟩; have p173 : 0 ≤ (x4_2 : Int) := of_decide_eq_true (by first | (with_reducible assumption) | assumption); have q173 : x4_2 < (l0_2.length : Int) := of_decide_eq_true (by first | (with_reducible assumption) | assumption); obtain ⟨ad173, e173, hx173_0⟩ := Kd.at_int HR0_2.out x4_2 p173 q173; cases e173; replace hx173_0 := (HB.out.cell (World.block_lt_of_cell? w _ hx173_0)).trans hx173_0; replace p173 := eq_true p173; replace q173 := eq_true q173; have p174 : 0 ≤ (x4_2 : Int) := of_decide_eq_true (by first | (with_reducible assumption) | assumption); have q174 : x4_2 < (l0_2.length : Int) := of_decide_eq_true (by first | (with_reducible assumption) | assumption); obtain ⟨ad174, e174, hx174_0⟩ := Kd.at_int HR0_2.out x4_2 p174 q174; obtain rfl : ad173 = ad174 := (by injection e174); replace hx174_0 := (HB.out.cell (World.block_lt_of_cell? w _ hx174_0)).trans hx174_0; replace p174 := eq_true p174; replace q174 := eq_true q174))
                          go_roundg k2
                          case measure => have := HJ1.out; have := HK2.out; omega
                          case rel => exact ⟨(wrap64 (x4_2 + 1)), (by first | rfl | (simp; done) | (simp [*]; done)), H', ⟨by have := HJ1.out; have := HK2.out; omega⟩, ⟨by exact BK169.out⟩, ⟨by repeat (first | exact HB.out | apply below_alloc | apply pw_below_drewN | apply below_drew1 | refine below_set ?_ GE169.out)⟩⟩
                        · rw [if_neg c25] at H
                          have c25b0 : ((rd l0_2 x4_2) == (-1)) = false := beq_eq_false_iff_ne.mpr c25
                          have c25b1 : ((rd l0_2 x4_2) != (-1)) = true := bne_iff_ne.mpr c25
                          obtain rfl := Option.some.inj H
                          obtain ⟨hcz27_0, hcz27_1, hcz27_2⟩ := bc3 BK169.out
                          obtain ⟨hfz27_0, hfz27_1, hfz27_2⟩ := bf3 BK169.out
                          have p171 : 0 ≤ (x4_2 : Int) := of_decide_eq_true (by first | (with_reducible assumption) | assumption)
                          have q171 : x4_2 < (l0_1.length : Int) := of_decide_eq_true (by first | (with_reducible assumption) | assumption)
                          obtain ⟨ad171, e171, hx171_0⟩ := Kd.at_int HR0_1.out x4_2 p171 q171
                          cases e171
                          replace hx171_0 := (HB.out.cell (World.block_lt_of_cell? w _ hx171_0)).trans hx171_0
                          replace p171 := eq_true p171
                          replace q171 := eq_true q171
                          go_wp2_with (first | ((with_reducible refine gate_callee (f := 49) rfl ?_); refine goesL_ (some 37) rfl rfl Try.func49 (by kernel_rfl) rfl #[.int .i64 (rd l0_1 x4_2), .int .i64 0, .int .i64 1] rfl (by (try simp only [List.map_toArray, List.map_cons, List.map_nil]); rfl) ?_; (with_reducible refine (spec_l01In.calls (rd l0_1 x4_2) 0 1 true _ A20.out).mono ?_); rintro e w' ⟨rfl, ⟨nd, rfl⟩⟩; refine ⟨_, rfl, ?_⟩; have p173 : 0 ≤ (x4_2 : Int) := of_decide_eq_true (by first | (with_reducible assumption) | assumption); have q173 : x4_2 < (l0_2.length : Int) := of_decide_eq_true (by first | (with_reducible assumption) | assumption); obtain ⟨ad173, e173, hx173_0⟩ := Kd.at_int HR0_2.out x4_2 p173 q173; cases e173; replace hx173_0 := (HB.out.cell (World.block_lt_of_cell? w _ hx173_0)).trans hx173_0; replace p173 := eq_true p173; replace q173 := eq_true q173; have p174 : 0 ≤ (x4_2 : Int) := of_decide_eq_true (by first | (with_reducible assumption) | assumption); have q174 : x4_2 < (l0_2.length : Int) := of_decide_eq_true (by first | (with_reducible assumption) | assumption); obtain ⟨ad174, e174, hx174_0⟩ := Kd.at_int HR0_2.out x4_2 p174 q174; obtain rfl : ad173 = ad174 := (by injection e174); replace hx174_0 := (HB.out.cell (World.block_lt_of_cell? w _ hx174_0)).trans hx174_0; replace p174 := eq_true p174; replace q174 := eq_true q174))
                          go_ret
                          exact ⟨by first | rfl | (simp [errW_none, errW_some] <;> rfl) | (simp [*, errW_none, errW_some] <;> rfl), by repeat (first | exact HB.out | apply below_alloc | apply pw_below_drewN | apply below_drew1 | refine below_set ?_ GE169.out)⟩
                    · rw [if_neg c22] at H
                      exact absurd H (by simp)
                  · replace c21 := Bool.eq_false_iff.mpr c21
                    subst c21
                    have H1 : (some false) = some r := by rw [if_neg (show ¬ (false = true) by decide)] at H; exact H
                    clear H
                    have H := H1
                    clear H1
                    obtain rfl := Option.some.inj H
                    obtain ⟨hcz28_0, hcz28_1, hcz28_2⟩ := bc3 BK169.out
                    obtain ⟨hfz28_0, hfz28_1, hfz28_2⟩ := bf3 BK169.out
                    have p171 : 0 ≤ (x4_2 : Int) := of_decide_eq_true (by first | (with_reducible assumption) | assumption)
                    have q171 : x4_2 < (l0_1.length : Int) := of_decide_eq_true (by first | (with_reducible assumption) | assumption)
                    obtain ⟨ad171, e171, hx171_0⟩ := Kd.at_int HR0_1.out x4_2 p171 q171
                    cases e171
                    replace hx171_0 := (HB.out.cell (World.block_lt_of_cell? w _ hx171_0)).trans hx171_0
                    replace p171 := eq_true p171
                    replace q171 := eq_true q171
                    go_wp2_with (first | ((with_reducible refine gate_callee (f := 49) rfl ?_); refine goesL_ (some 37) rfl rfl Try.func49 (by kernel_rfl) rfl #[.int .i64 (rd l0_1 x4_2), .int .i64 0, .int .i64 1] rfl (by (try simp only [List.map_toArray, List.map_cons, List.map_nil]); rfl) ?_; (with_reducible refine (spec_l01In.calls (rd l0_1 x4_2) 0 1 false _ A20.out).mono ?_); rintro e w' ⟨rfl, ⟨nd, rfl⟩⟩; refine ⟨_, rfl, ?_⟩))
                    go_ret
                    exact ⟨by first | rfl | (simp [errW_none, errW_some] <;> rfl) | (simp [*, errW_none, errW_some] <;> rfl), by repeat (first | exact HB.out | apply below_alloc | apply pw_below_drewN | apply below_drew1 | refine below_set ?_ GE169.out)⟩
                · rw [if_neg c19] at H
                  exact absurd H (by simp)
              · rw [if_neg c18] at H
                exact absurd H (by simp)
            · rw [if_neg c17] at H
              have c17b0 : decide (x4_2 < (wrap64 ((l0_0.length : Int) / 2))) = false := decide_eq_false c17
              clear c17
              obtain rfl := Option.some.inj H
              go_wp2
              go_ret
              exact ⟨by first | rfl | (simp [errW_none, errW_some] <;> rfl) | (simp [*, errW_none, errW_some] <;> rfl), by repeat (first | exact HB.out | apply below_alloc | apply pw_below_drewN | apply below_drew1 | refine below_set ?_ GE169.out)⟩
end Go.Proofs.Ytihfncjpfgdhoaa.PA
end
section
namespace Go.Proofs.Ytihfncjpfgdhoaa.PE
open Go.RowKit Go.Proofs.YtihfncjpfgdhoaaW.PrintWords Go.Proofs.YtihfncjpfgdhoaaW.PrintLast Go.Proofs.YtihfncjpfgdhoaaW.PrintMore
attribute [local go_sem] max2_int min2_int max_two min_two max_three min_three max_four min_four   -- for this text's walks alone
open Go.Proofs.Ytihfncjpfgdhoaa.K Go.Proofs.Ytihfncjpfgdhoaa.PA
def errW : Option Int → Value
  | none => .nilIface
  | some c => .iface 0 (.int .i64 c)
theorem errW_none : errW none = .nilIface := rfl
theorem errW_some (c : Int) : errW (some c) = .iface 0 (.int .i64 c) := rfl
end Go.Proofs.Ytihfncjpfgdhoaa.PE
end
section
namespace Go.Proofs.Ytihfncjpfgdhoaa.PE
open Go.RowKit Go.Proofs.YtihfncjpfgdhoaaW.PrintWords Go.Proofs.YtihfncjpfgdhoaaW.PrintLast Go.Proofs.YtihfncjpfgdhoaaW.PrintMore
attribute [local go_sem] max2_int min2_int max_two min_two max_three min_three max_four min_four   -- for this text's walks alone
open Go.Proofs.Ytihfncjpfgdhoaa.K Go.Proofs.Ytihfncjpfgdhoaa.PA
/-! ### impl_IsGauss: function 58 -/
def impl_IsGauss.j0 : Nat → Bool → List Int → List Int → List Int → Option (Bool)
  | 0, _, _, _, _ => none
  | k + 1, x25, x102000, x102001, x102002 => if x25 = true then (some false) else ((anyNoHead.f x102001).bind fun t105 => (if t105 = true then (some false) else ((anyNoSign.f x102002).bind fun t106 => (some (!t106)))))
def impl_IsGauss.f (k : Nat) (l0_0 : List Int) (l0_1 : List Int) (l0_2 : List Int) : Option (Bool) := (impl_IsWord.f k l0_0).bind fun t102 => (if t102 = true then ((impl_chords.f l0_0).bind fun t103 => (if (l0_1.length : Int) = t103 then ((impl_chords.f l0_0).bind fun t104 => (impl_IsGauss.j0 k ((l0_2.length : Int) != t104) l0_0 l0_1 l0_2)) else (impl_IsGauss.j0 k true l0_0 l0_1 l0_2))) else (impl_IsGauss.j0 k true l0_0 l0_1 l0_2))
theorem impl_IsGauss.mono_l : ∀ k, (∀ y0 y1 y2 y3, LeO (impl_IsGauss.j0 k y0 y1 y2 y3) (impl_IsGauss.j0 (k + 1) y0 y1 y2 y3))
  | 0 => fun _ _ _ _ r h => by simp [impl_IsGauss.j0] at h
  | k + 1 => by
    have ih0 := impl_IsGauss.mono_l k
    · intro y0 y1 y2 y3
      unfold impl_IsGauss.j0
      repeat' first
      | (with_reducible exact ih0 _ _ _ _)
      | (with_reducible exact impl_IsWord.mono _ _)
      | (with_reducible exact LeO.refl _)
      | (with_reducible exact LeO.none _)
      | (with_reducible refine LeO.ite ?_ ?_)
      | (with_reducible refine LeO.bind ?_ (fun _ => ?_))
      | exact ih0 _ _ _ _
      | exact impl_IsWord.mono _ _
      | exact LeO.none _
      | refine LeO.ite ?_ ?_
      | refine LeO.bind ?_ (fun _ => ?_)
theorem impl_IsGauss.mono : ∀ a0 a1 a2 k, LeO (impl_IsGauss.f k a0 a1 a2) (impl_IsGauss.f (k + 1) a0 a1 a2) := by
  intro a0 a1 a2 k
  have ih0 := impl_IsGauss.mono_l k
  unfold impl_IsGauss.f
  repeat' first
      | (with_reducible exact ih0 _ _ _ _)
      | (with_reducible exact impl_IsWord.mono _ _)
      | (with_reducible exact LeO.refl _)
      | (with_reducible exact LeO.none _)
      | (with_reducible refine LeO.ite ?_ ?_)
      | (with_reducible refine LeO.bind ?_ (fun _ => ?_))
      | exact ih0 _ _ _ _
      | exact impl_IsWord.mono _ _
      | exact LeO.none _
      | refine LeO.ite ?_ ?_
      | refine LeO.bind ?_ (fun _ => ?_)
def impl_IsGauss.T1 : Bool × List (List Nat × List Nat) := (true, [([], []), ([0], [0]), ([1], [1]), ([2], [2]), ([3, 2], [3]), ([4], [4]), ([5, 4], [4, 5]), ([6, 4], [4, 6]), ([4], [4]), ([8, 4], [4, 8]), ([9, 4, 4], [4, 9]), ([7, 10, 4], [4, 7, 10]), ([4, 11], [4, 11]), ([12, 10], [12]), ([13], [13]), ([14, 13], [13, 14]), ([15, 13], [13, 15]), ([13], [13]), ([17, 13], [13, 17]), ([18, 13, 13], [13, 18]), ([16, 19, 13], [13, 16, 19]), ([13, 20], [13, 20])])
def impl_IsGauss.B1 : List Nat := [0, 1, 3, 7, 15, 31, 63, 127, 31, 287, 799, 2047, 4095, 8191, 16383, 32767, 65535, 16383, 147455, 409599, 1048575, 2097151]
theorem impl_IsGauss.tab1 : rtab .any (opsOf Try.f58 1) = impl_IsGauss.T1 := by kernel_rfl
theorem impl_IsGauss.bits1 : waitsOk impl_IsGauss.T1.2 impl_IsGauss.B1 = true := by kernel_rfl
set_option maxHeartbeats 8000000 in
set_option maxRecDepth 100000 in
theorem impl_IsGauss.calls (k : Nat) (A0_0 : Option Addr) (c0_0 : Nat) (l0_0 : List Int) (A0_1 : Option Addr) (c0_1 : Nat) (l0_1 : List Int) (A0_2 : Option Addr) (c0_2 : Nat) (l0_2 : List Int) (r : Bool) (w : World) (hr0_0 : Kd.C (Kd.int .i64) w A0_0 l0_0.length l0_0) (hc0_0 : l0_0.length ≤ c0_0) (hr0_1 : Kd.C (Kd.int .i64) w A0_1 l0_1.length l0_1) (hc0_1 : l0_1.length ≤ c0_1) (hr0_2 : Kd.C (Kd.int .i64) w A0_2 l0_2.length l0_2) (hc0_2 : l0_2.length ≤ c0_2) (h : impl_IsGauss.f k l0_0 l0_1 l0_2 = some r) :
    Calls Try.prog 58 #[.agg #[.slice A0_0 l0_0.length c0_0, .slice A0_1 l0_1.length c0_1, .slice A0_2 l0_2.length c0_2]] w fun e w' => e = .returned (.bool r) ∧ Below w.heap.size w w' := by
  have hu34 := Try.underlying34
  have HR0_0 := Aside0.mk hr0_0
  have HC0_0 := Aside0.mk hc0_0
  clear hr0_0 hc0_0
  have HR0_1 := Aside0.mk hr0_1
  have HC0_1 := Aside0.mk hc0_1
  clear hr0_1 hc0_1
  have HR0_2 := Aside0.mk hr0_2
  have HC0_2 := Aside0.mk hc0_2
  clear hr0_2 hc0_2
  have HB := mk0 (Below.refl w.heap.size w)
  have H : ((impl_IsWord.f k l0_0).bind fun t102 => (if t102 = true then ((impl_chords.f l0_0).bind fun t103 => (if (l0_1.length : Int) = t103 then ((impl_chords.f l0_0).bind fun t104 => (impl_IsGauss.j0 k ((l0_2.length : Int) != t104) l0_0 l0_1 l0_2)) else (impl_IsGauss.j0 k true l0_0 l0_1 l0_2))) else (impl_IsGauss.j0 k true l0_0 l0_1 l0_2))) = some r := h
  clear h
  have HC2 := Aside0.mk H
  clear H
  go_enter Try.func58, Try.ntmps58
  go_upto_region 1 with (first | ((with_reducible refine gate_dst (N := 1) rfl ?_); (try (refine gate_guard (by rfl) ?_; dsimp only)); refine box_event ?hg (N := 1) ?hd (cs := #[.slice A0_0 l0_0.length c0_0, .slice A0_1 l0_1.length c0_1, .slice A0_2 l0_2.length c0_2]) (t := 34) ?hr ?_; (case hd => rfl); (case hg => rfl); (case hr => first | (go_simp; done) | (go_simp; rfl)); intro gb101 hg w3 hbox hb; have n0_ := mk0 (below_step (by repeat (first | exact HB.out | apply below_alloc | apply pw_below_drewN | apply below_drew1)) hb); have n1_ := mk0 (hbox); have n2_ := mk0 ((by rw [hg]; exact (below_size (by repeat (first | exact HB.out | apply below_alloc | apply pw_below_drewN | apply below_drew1))) : w.heap.size ≤ gb101)); have n3_ := mk0 ((by rw [hg]; exact (below_size (by repeat (first | exact HB.out | apply below_alloc | apply pw_below_drewN | apply below_drew1))) : w.heap.size ≤ gb101)); clear HB; have HB := n0_; have BK101 := n1_; have GW101 := n2_; have GE101 := n3_; clear n0_ n1_ n2_ n3_; clear hb hbox hg))
  (try simp only [Act.put, List.setIfInBounds_toArray, List.set_cons_zero, List.set_cons_succ])
  go_cut [25] (fun v25 wc => ∃ (kq : Nat) (x25_1 : Bool), v25 = .bool x25_1 ∧ Aside0 (impl_IsGauss.j0 kq x25_1 l0_0 l0_1 l0_2 = some r) ∧ Aside0 (kq ≤ k) ∧ Aside0 (wc.heap[gb101]? = some (.cells #[(.slice A0_0 l0_0.length c0_0), (.slice A0_1 l0_1.length c0_1), (.slice A0_2 l0_2.length c0_2)] 34 (0, 0))) ∧ Aside0 (Below w.heap.size w wc))
  case first =>
    have H := HC2.out
    clear HC2
    replace H := Option.bind_eq_some_iff.mp H
    obtain ⟨t102, A40, H⟩ := H
    replace H : (if t102 = true then ((impl_chords.f l0_0).bind fun t103 => (if (l0_1.length : Int) = t103 then ((impl_chords.f l0_0).bind fun t104 => (impl_IsGauss.j0 k ((l0_2.length : Int) != t104) l0_0 l0_1 l0_2)) else (impl_IsGauss.j0 k true l0_0 l0_1 l0_2))) else (impl_IsGauss.j0 k true l0_0 l0_1 l0_2)) = some r := H
    have A4 := Aside0.mk A40
    clear A40
    by_cases c5 : t102 = true
    · subst c5
      have H1 : ((impl_chords.f l0_0).bind fun t103 => (if (l0_1.length : Int) = t103 then ((impl_chords.f l0_0).bind fun t104 => (impl_IsGauss.j0 k ((l0_2.length : Int) != t104) l0_0 l0_1 l0_2)) else (impl_IsGauss.j0 k true l0_0 l0_1 l0_2))) = some r := by rw [if_pos rfl] at H; exact H
      clear H
      have H := H1
      clear H1
      replace H := Option.bind_eq_some_iff.mp H
      obtain ⟨t103, A60, H⟩ := H
      replace H : (if (l0_1.length : Int) = t103 then ((impl_chords.f l0_0).bind fun t104 => (impl_IsGauss.j0 k ((l0_2.length : Int) != t104) l0_0 l0_1 l0_2)) else (impl_IsGauss.j0 k true l0_0 l0_1 l0_2)) = some r := H
      have A6 := Aside0.mk A60
      clear A60
      by_cases c7 : (l0_1.length : Int) = t103
      · rw [if_pos c7] at H
        have c7b0 : ((l0_1.length : Int) == t103) = true := beq_iff_eq.mpr c7
        have c7b1 : ((l0_1.length : Int) != t103) = false := bne_eq_false_iff_eq.mpr c7
        clear c7
        (first | rw [c7b0] | (simp only [i64_w, i32_w]; rw [c7b0]) | skip)
        replace H := Option.bind_eq_some_iff.mp H
        obtain ⟨t104, A80, H⟩ := H
        replace H : (impl_IsGauss.j0 k ((l0_2.length : Int) != t104) l0_0 l0_1 l0_2) = some r := H
        have A8 := Aside0.mk A80
        clear A80
        have H' := Aside0.mk H
        clear H
        try go_wp2
        have n0_ := mk0 (blk_drew BK101.out)
        have n1_ := mk0 (below_drew1 HB.out)
        clear BK101
        clear HB
        have BK101 := n0_
        have HB := n1_
        clear n0_ n1_
        refine start_ (n := 22) (S := fun w' => w'.cell? ⟨gb101, 0, none⟩ = some (.slice A0_0 l0_0.length c0_0) ∧ w'.cell? ⟨gb101, 1, none⟩ = some (.slice A0_1 l0_1.length c0_1) ∧ w'.cell? ⟨gb101, 2, none⟩ = some (.slice A0_2 l0_2.length c0_2)) (ds := []) (bl 22 0) (by kernel_rfl) rfl rfl ⟨(blk_cell BK101.out 0).trans rfl, (blk_cell BK101.out 1).trans rfl, (blk_cell BK101.out 2).trans rfl⟩ (fun hHeld => ?_); refine with_tabW impl_IsGauss.tab1 impl_IsGauss.bits1 (fun HT_ HW_ => ?_)
        generalize w3.drew = w9 at BK101 HB hHeld ⊢
        refine pure_ (i := 0) (N := some 4) (v := ?_) (a' := ?_) (bl 22 1) rfl rfl (any_of HT_.out (by kernel_rfl)) (fun _ _ _ h => h) (Or.inl ⟨by rfl, ?_⟩) ?_ ?_; rotate_left; (focus intro w'; go_simp; with_reducible rfl); rotate_left; (focus simp only [Act.put, List.setIfInBounds_toArray, List.set_cons_zero, List.set_cons_succ, i64_w, i32_w]; rfl)
        refine take_ (i := 1) (N := some 5) (v := ?_) (a' := ?_) (bl 22 3) rfl rfl (take_ofW HT_.out HW_.out (by kernel_rfl)) (fun _ _ _ h => h) (Or.inl ⟨by rfl, ?_⟩) hHeld ?_ ?_; rotate_left; (focus rintro w' ⟨s0, s1, s2⟩; go_simp; with_reducible rfl); rotate_left; (focus simp only [Act.put, List.setIfInBounds_toArray, List.set_cons_zero, List.set_cons_succ, i64_w, i32_w]; rfl)
        refine one_ (i := 2) (N := some 6) (bl 22 7) rfl rfl (one_of HT_.out (by kernel_rfl)) (by decide) (fun K hK => ?_)
        refine goes_ Try.func51 (by kernel_rfl) rfl #[.slice A0_0 l0_0.length c0_0] (by rfl) rfl rfl (by (try simp only [List.map_toArray, List.map_cons, List.map_nil]); rfl) ?_
        with_reducible refine (impl_IsWord.calls k _ _ l0_0 true _ ?side1 ?side2 A4.out).mono ?_
        (case side1 => exact (Kd.C_below HR0_0.out HB.out))
        (case side2 => exact HC0_0.out)
        rintro e w10 ⟨rfl, hb⟩
        refine ⟨_, rfl, ?_⟩
        have n0_ := mk0 (blk_below (by exact BK101.out) hb)
        have n1_ := mk0 (below_step (by repeat (first | exact HB.out | apply below_alloc | apply pw_below_drewN | apply below_drew1 | refine below_set ?_ GE101.out)) hb)
        clear BK101
        clear HB
        have BK101 := n0_
        have HB := n1_
        clear n0_ n1_
        (try clear hb)
        (try clear hb2)
        (try clear hk)
        (try clear hi)
        refine hK.out _ _ ⟨(blk_cell BK101.out 0).trans rfl, (blk_cell BK101.out 1).trans rfl, (blk_cell BK101.out 2).trans rfl⟩ (fun hHeld => ?_)
        clear hK K
        refine norm_ (a' := ?_) ?_ ?_
        rotate_left
        · show Act.put _ (some 6) _ = _
          simp only [Act.put, List.setIfInBounds_toArray, List.set_cons_zero, List.set_cons_succ, i64_w, i32_w]
          rfl
        refine pure_ (i := 3) (N := some 7) (v := ?_) (a' := ?_) (bl 22 15) rfl rfl (any_of HT_.out (by kernel_rfl)) (fun _ _ _ h => h) (Or.inl ⟨by rfl, ?_⟩) ?_ ?_; rotate_left; (focus intro w'; go_simp; with_reducible rfl); rotate_left; (focus simp only [Act.put, List.setIfInBounds_toArray, List.set_cons_zero, List.set_cons_succ, i64_w, i32_w]; rfl)
        refine pure_ (i := 4) (N := some 8) (v := ?_) (a' := ?_) (bl 22 31) rfl rfl (any_of HT_.out (by kernel_rfl)) (fun _ _ _ h => h) (Or.inl ⟨by rfl, ?_⟩) ?_ ?_; rotate_left; (focus intro w'; go_simp; with_reducible rfl); rotate_left; (focus simp only [Act.put, List.setIfInBounds_toArray, List.set_cons_zero, List.set_cons_succ, i64_w, i32_w]; rfl)
        refine pure_ (i := 5) (N := some 9) (v := ?_) (a' := ?_) (bl 22 63) rfl rfl (any_of HT_.out (by kernel_rfl)) (fun _ _ _ h => h) (Or.inl ⟨by rfl, ?_⟩) ?_ ?_; rotate_left; (focus intro w'; go_simp; with_reducible rfl); rotate_left; (focus simp only [Act.put, List.setIfInBounds_toArray, List.set_cons_zero, List.set_cons_succ, i64_w, i32_w]; rfl)
        refine pure_ (i := 8) (N := some 12) (v := ?_) (a' := ?_) (bl 22 319) rfl rfl (any_of HT_.out (by kernel_rfl)) (fun _ _ _ h => h) (Or.inl ⟨by rfl, ?_⟩) ?_ ?_; rotate_left; (focus intro w'; go_simp; with_reducible rfl); rotate_left; (focus simp only [Act.put, List.setIfInBounds_toArray, List.set_cons_zero, List.set_cons_succ, i64_w, i32_w]; rfl)
        refine take_ (i := 6) (N := some 10) (v := ?_) (a' := ?_) (bl 22 383) rfl rfl (take_ofW HT_.out HW_.out (by kernel_rfl)) (fun _ _ _ h => h) (Or.inl ⟨by rfl, ?_⟩) hHeld ?_ ?_; rotate_left; (focus rintro w' ⟨s0, s1, s2⟩; go_simp; with_reducible rfl); rotate_left; (focus simp only [Act.put, List.setIfInBounds_toArray, List.set_cons_zero, List.set_cons_succ, i64_w, i32_w]; rfl)
        refine pure_ (i := 7) (N := some 11) (v := ?_) (a' := ?_) (bl 22 511) rfl rfl (any_of HT_.out (by kernel_rfl)) (fun _ _ _ h => h) (Or.inl ⟨by rfl, ?_⟩) ?_ ?_; rotate_left; (focus intro w'; go_simp; with_reducible rfl); rotate_left; (focus simp only [Act.put, List.setIfInBounds_toArray, List.set_cons_zero, List.set_cons_succ, i64_w, i32_w]; rfl)
        refine take_ (i := 9) (N := some 13) (v := ?_) (a' := ?_) (bl 22 1023) rfl rfl (take_ofW HT_.out HW_.out (by kernel_rfl)) (fun _ _ _ h => h) (Or.inl ⟨by rfl, ?_⟩) hHeld ?_ ?_; rotate_left; (focus rintro w' ⟨s0, s1, s2⟩; go_simp; with_reducible rfl); rotate_left; (focus simp only [Act.put, List.setIfInBounds_toArray, List.set_cons_zero, List.set_cons_succ, i64_w, i32_w]; rfl)
        refine one_ (i := 10) (N := some 14) (bl 22 2047) rfl rfl (one_of HT_.out (by kernel_rfl)) (by decide) (fun K hK => ?_)
        refine goes_ Try.func53 (by kernel_rfl) rfl #[.slice A0_0 l0_0.length c0_0] (by rfl) rfl rfl (by (try simp only [List.map_toArray, List.map_cons, List.map_nil]); rfl) ?_
        with_reducible refine (impl_chords.calls _ _ l0_0 t103 _ ?side1 ?side2 A6.out).mono ?_
        (case side1 => exact (Kd.C_below HR0_0.out HB.out))
        (case side2 => exact HC0_0.out)
        rintro e w' ⟨rfl, ⟨nd, rfl⟩⟩
        refine ⟨_, rfl, ?_⟩
        refine hK.out _ _ ⟨(blk_cell BK101.out 0).trans rfl, (blk_cell BK101.out 1).trans rfl, (blk_cell BK101.out 2).trans rfl⟩ (fun hHeld => ?_)
        clear hK K
        refine norm_ (a' := ?_) ?_ ?_
        rotate_left
        · show Act.put _ (some 14) _ = _
          simp only [Act.put, List.setIfInBounds_toArray, List.set_cons_zero, List.set_cons_succ, i64_w, i32_w]
          rfl
        refine pure_ (i := 11) (N := some 15) (v := ?_) (a' := ?_) (bl 22 4095) rfl rfl (any_of HT_.out (by kernel_rfl)) (fun _ _ _ h => h) (Or.inl ⟨by rfl, ?_⟩) ?_ ?_; rotate_left; (focus intro w'; go_simp; with_reducible rfl); rotate_left; (focus simp only [Act.put, List.setIfInBounds_toArray, List.set_cons_zero, List.set_cons_succ, i64_w, i32_w]; rfl)
        refine pure_ (i := 12) (N := some 16) (v := ?_) (a' := ?_) (bl 22 8191) rfl rfl (any_of HT_.out (by kernel_rfl)) (fun _ _ _ h => h) (Or.inl ⟨by rfl, ?_⟩) ?_ ?_; rotate_left; (focus intro w'; go_simp; with_reducible rfl); rotate_left; (focus simp only [Act.put, List.setIfInBounds_toArray, List.set_cons_zero, List.set_cons_succ, i64_w, i32_w]; rfl)
        refine pure_ (i := 13) (N := some 17) (v := ?_) (a' := ?_) (bl 22 16383) rfl rfl (any_of HT_.out (by kernel_rfl)) (fun _ _ _ h => h) (Or.inl ⟨by rfl, ?_⟩) ?_ ?_; rotate_left; (focus intro w'; go_simp; with_reducible rfl); rotate_left; (focus simp only [Act.put, List.setIfInBounds_toArray, List.set_cons_zero, List.set_cons_succ, i64_w, i32_w]; rfl)
        refine pure_ (i := 14) (N := some 18) (v := ?_) (a' := ?_) (bl 22 32767) rfl rfl (any_of HT_.out (by kernel_rfl)) (fun _ _ _ h => h) (Or.inl ⟨by rfl, ?_⟩) ?_ ?_; rotate_left; (focus intro w'; go_simp; with_reducible rfl); rotate_left; (focus simp only [Act.put, List.setIfInBounds_toArray, List.set_cons_zero, List.set_cons_succ, i64_w, i32_w]; rfl)
        refine pure_ (i := 17) (N := some 21) (v := ?_) (a' := ?_) (bl 22 163839) rfl rfl (any_of HT_.out (by kernel_rfl)) (fun _ _ _ h => h) (Or.inl ⟨by rfl, ?_⟩) ?_ ?_; rotate_left; (focus intro w'; go_simp; with_reducible rfl); rotate_left; (focus simp only [Act.put, List.setIfInBounds_toArray, List.set_cons_zero, List.set_cons_succ, i64_w, i32_w]; rfl)
        refine take_ (i := 15) (N := some 19) (v := ?_) (a' := ?_) (bl 22 196607) rfl rfl (take_ofW HT_.out HW_.out (by kernel_rfl)) (fun _ _ _ h => h) (Or.inl ⟨by rfl, ?_⟩) hHeld ?_ ?_; rotate_left; (focus rintro w' ⟨s0, s1, s2⟩; go_simp; with_reducible rfl); rotate_left; (focus simp only [Act.put, List.setIfInBounds_toArray, List.set_cons_zero, List.set_cons_succ, i64_w, i32_w]; rfl)
        refine pure_ (i := 16) (N := some 20) (v := ?_) (a' := ?_) (bl 22 262143) rfl rfl (any_of HT_.out (by kernel_rfl)) (fun _ _ _ h => h) (Or.inl ⟨by rfl, ?_⟩) ?_ ?_; rotate_left; (focus intro w'; go_simp; with_reducible rfl); rotate_left; (focus simp only [Act.put, List.setIfInBounds_toArray, List.set_cons_zero, List.set_cons_succ, i64_w, i32_w]; rfl)
        refine take_ (i := 18) (N := some 22) (v := ?_) (a' := ?_) (bl 22 524287) rfl rfl (take_ofW HT_.out HW_.out (by kernel_rfl)) (fun _ _ _ h => h) (Or.inl ⟨by rfl, ?_⟩) hHeld ?_ ?_; rotate_left; (focus rintro w' ⟨s0, s1, s2⟩; go_simp; with_reducible rfl); rotate_left; (focus simp only [Act.put, List.setIfInBounds_toArray, List.set_cons_zero, List.set_cons_succ, i64_w, i32_w]; rfl)
        refine one_ (i := 19) (N := some 23) (bl 22 1048575) rfl rfl (one_of HT_.out (by kernel_rfl)) (by decide) (fun K hK => ?_)
        refine goes_ Try.func53 (by kernel_rfl) rfl #[.slice A0_0 l0_0.length c0_0] (by rfl) rfl rfl (by (try simp only [List.map_toArray, List.map_cons, List.map_nil]); rfl) ?_
        with_reducible refine (impl_chords.calls _ _ l0_0 t104 _ ?side1 ?side2 A8.out).mono ?_
        (case side1 => repeat (first | exact (Kd.C_below HR0_0.out (by repeat (first | exact HB.out | apply below_alloc | apply pw_below_drewN | apply below_drew1 | refine below_set ?_ GE101.out))) | (with_reducible refine Kd.C_alloc ?_ _) | (with_reducible refine Kd.C_drewN ?_ _) | (with_reducible refine Kd.C_drew ?_)))
        (case side2 => exact HC0_0.out)
        rintro e w' ⟨rfl, ⟨nd, rfl⟩⟩
        refine ⟨_, rfl, ?_⟩
        refine hK.out _ _ ⟨(blk_cell BK101.out 0).trans rfl, (blk_cell BK101.out 1).trans rfl, (blk_cell BK101.out 2).trans rfl⟩ (fun hHeld => ?_)
        clear hK K
        refine norm_ (a' := ?_) ?_ ?_
        rotate_left
        · show Act.put _ (some 23) _ = _
          simp only [Act.put, List.setIfInBounds_toArray, List.set_cons_zero, List.set_cons_succ, i64_w, i32_w]
          rfl
        refine pure_ (i := 20) (N := some 24) (v := ?_) (a' := ?_) (bl 22 2097151) rfl rfl (any_of HT_.out (by kernel_rfl)) (fun _ _ _ h => h) (Or.inl ⟨by rfl, ?_⟩) ?_ ?_; rotate_left; (focus intro w'; go_simp; with_reducible rfl); rotate_left; (focus simp only [Act.put, List.setIfInBounds_toArray, List.set_cons_zero, List.set_cons_succ, i64_w, i32_w]; rfl)
        refine pure_ (i := 21) (N := some 25) (v := ?_) (a' := ?_) (bl 22 4194303) rfl rfl (any_of HT_.out (by kernel_rfl)) (fun _ _ _ h => h) (Or.inl ⟨by rfl, ?_⟩) ?_ ?_; rotate_left; (focus intro w'; go_simp; with_reducible rfl); rotate_left; (focus simp only [Act.put, List.setIfInBounds_toArray, List.set_cons_zero, List.set_cons_succ, i64_w, i32_w]; rfl)
        refine done_ (done_of HT_.out (by kernel_rfl)) ?_
        try go_wp2
        go_meet
        case rel => exact ⟨_, (((l0_2.length : Int) != t104)), (by first | rfl | (simp; done) | (simp [*]; done)), H', ⟨by first | omega | exact Nat.le_refl _⟩, ⟨by exact BK101.out⟩, ⟨by repeat (first | exact HB.out | apply below_alloc | apply pw_below_drewN | apply below_drew1 | refine below_set ?_ GE101.out)⟩⟩
      · rw [if_neg c7] at H
        have c7b0 : ((l0_1.length : Int) == t103) = false := beq_eq_false_iff_ne.mpr c7
        have c7b1 : ((l0_1.length : Int) != t103) = true := bne_iff_ne.mpr c7
        (first | rw [c7b0] | (simp only [i64_w, i32_w]; rw [c7b0]) | skip)
        have H' := Aside0.mk H
        clear H
        try go_wp2
        have n0_ := mk0 (blk_drew BK101.out)
        have n1_ := mk0 (below_drew1 HB.out)
        clear BK101
        clear HB
        have BK101 := n0_
        have HB := n1_
        clear n0_ n1_
        refine start_ (n := 22) (S := fun w' => w'.cell? ⟨gb101, 0, none⟩ = some (.slice A0_0 l0_0.length c0_0) ∧ w'.cell? ⟨gb101, 1, none⟩ = some (.slice A0_1 l0_1.length c0_1) ∧ w'.cell? ⟨gb101, 2, none⟩ = some (.slice A0_2 l0_2.length c0_2)) (ds := []) (bl 22 0) (by kernel_rfl) rfl rfl ⟨(blk_cell BK101.out 0).trans rfl, (blk_cell BK101.out 1).trans rfl, (blk_cell BK101.out 2).trans rfl⟩ (fun hHeld => ?_); refine with_tabW impl_IsGauss.tab1 impl_IsGauss.bits1 (fun HT_ HW_ => ?_)
        generalize w3.drew = w11 at BK101 HB hHeld ⊢
        refine pure_ (i := 0) (N := some 4) (v := ?_) (a' := ?_) (bl 22 1) rfl rfl (any_of HT_.out (by kernel_rfl)) (fun _ _ _ h => h) (Or.inl ⟨by rfl, ?_⟩) ?_ ?_; rotate_left; (focus intro w'; go_simp; with_reducible rfl); rotate_left; (focus simp only [Act.put, List.setIfInBounds_toArray, List.set_cons_zero, List.set_cons_succ, i64_w, i32_w]; rfl)
        refine take_ (i := 1) (N := some 5) (v := ?_) (a' := ?_) (bl 22 3) rfl rfl (take_ofW HT_.out HW_.out (by kernel_rfl)) (fun _ _ _ h => h) (Or.inl ⟨by rfl, ?_⟩) hHeld ?_ ?_; rotate_left; (focus rintro w' ⟨s0, s1, s2⟩; go_simp; with_reducible rfl); rotate_left; (focus simp only [Act.put, List.setIfInBounds_toArray, List.set_cons_zero, List.set_cons_succ, i64_w, i32_w]; rfl)
        refine one_ (i := 2) (N := some 6) (bl 22 7) rfl rfl (one_of HT_.out (by kernel_rfl)) (by decide) (fun K hK => ?_)
        refine goes_ Try.func51 (by kernel_rfl) rfl #[.slice A0_0 l0_0.length c0_0] (by rfl) rfl rfl (by (try simp only [List.map_toArray, List.map_cons, List.map_nil]); rfl) ?_
        with_reducible refine (impl_IsWord.calls k _ _ l0_0 true _ ?side1 ?side2 A4.out).mono ?_
        (case side1 => exact (Kd.C_below HR0_0.out HB.out))
        (case side2 => exact HC0_0.out)
        rintro e w12 ⟨rfl, hb⟩
        refine ⟨_, rfl, ?_⟩
        have n0_ := mk0 (blk_below (by exact BK101.out) hb)
        have n1_ := mk0 (below_step (by repeat (first | exact HB.out | apply below_alloc | apply pw_below_drewN | apply below_drew1 | refine below_set ?_ GE101.out)) hb)
        clear BK101
        clear HB
        have BK101 := n0_
        have HB := n1_
        clear n0_ n1_
        (try clear hb)
        (try clear hb2)
        (try clear hk)
        (try clear hi)
        refine hK.out _ _ ⟨(blk_cell BK101.out 0).trans rfl, (blk_cell BK101.out 1).trans rfl, (blk_cell BK101.out 2).trans rfl⟩ (fun hHeld => ?_)
        clear hK K
        refine norm_ (a' := ?_) ?_ ?_
        rotate_left
        · show Act.put _ (some 6) _ = _
          simp only [Act.put, List.setIfInBounds_toArray, List.set_cons_zero, List.set_cons_succ, i64_w, i32_w]
          rfl
        refine pure_ (i := 3) (N := some 7) (v := ?_) (a' := ?_) (bl 22 15) rfl rfl (any_of HT_.out (by kernel_rfl)) (fun _ _ _ h => h) (Or.inl ⟨by rfl, ?_⟩) ?_ ?_; rotate_left; (focus intro w'; go_simp; with_reducible rfl); rotate_left; (focus simp only [Act.put, List.setIfInBounds_toArray, List.set_cons_zero, List.set_cons_succ, i64_w, i32_w]; rfl)
        refine pure_ (i := 4) (N := some 8) (v := ?_) (a' := ?_) (bl 22 31) rfl rfl (any_of HT_.out (by kernel_rfl)) (fun _ _ _ h => h) (Or.inl ⟨by rfl, ?_⟩) ?_ ?_; rotate_left; (focus intro w'; go_simp; with_reducible rfl); rotate_left; (focus simp only [Act.put, List.setIfInBounds_toArray, List.set_cons_zero, List.set_cons_succ, i64_w, i32_w]; rfl)
        refine pure_ (i := 5) (N := some 9) (v := ?_) (a' := ?_) (bl 22 63) rfl rfl (any_of HT_.out (by kernel_rfl)) (fun _ _ _ h => h) (Or.inl ⟨by rfl, ?_⟩) ?_ ?_; rotate_left; (focus intro w'; go_simp; with_reducible rfl); rotate_left; (focus simp only [Act.put, List.setIfInBounds_toArray, List.set_cons_zero, List.set_cons_succ, i64_w, i32_w]; rfl)
        refine pure_ (i := 8) (N := some 12) (v := ?_) (a' := ?_) (bl 22 319) rfl rfl (any_of HT_.out (by kernel_rfl)) (fun _ _ _ h => h) (Or.inl ⟨by rfl, ?_⟩) ?_ ?_; rotate_left; (focus intro w'; go_simp; with_reducible rfl); rotate_left; (focus simp only [Act.put, List.setIfInBounds_toArray, List.set_cons_zero, List.set_cons_succ, i64_w, i32_w]; rfl)
        refine take_ (i := 6) (N := some 10) (v := ?_) (a' := ?_) (bl 22 383) rfl rfl (take_ofW HT_.out HW_.out (by kernel_rfl)) (fun _ _ _ h => h) (Or.inl ⟨by rfl, ?_⟩) hHeld ?_ ?_; rotate_left; (focus rintro w' ⟨s0, s1, s2⟩; go_simp; with_reducible rfl); rotate_left; (focus simp only [Act.put, List.setIfInBounds_toArray, List.set_cons_zero, List.set_cons_succ, i64_w, i32_w]; rfl)
        refine pure_ (i := 7) (N := some 11) (v := ?_) (a' := ?_) (bl 22 511) rfl rfl (any_of HT_.out (by kernel_rfl)) (fun _ _ _ h => h) (Or.inl ⟨by rfl, ?_⟩) ?_ ?_; rotate_left; (focus intro w'; go_simp; with_reducible rfl); rotate_left; (focus simp only [Act.put, List.setIfInBounds_toArray, List.set_cons_zero, List.set_cons_succ, i64_w, i32_w]; rfl)
        refine take_ (i := 9) (N := some 13) (v := ?_) (a' := ?_) (bl 22 1023) rfl rfl (take_ofW HT_.out HW_.out (by kernel_rfl)) (fun _ _ _ h => h) (Or.inl ⟨by rfl, ?_⟩) hHeld ?_ ?_; rotate_left; (focus rintro w' ⟨s0, s1, s2⟩; go_simp; with_reducible rfl); rotate_left; (focus simp only [Act.put, List.setIfInBounds_toArray, List.set_cons_zero, List.set_cons_succ, i64_w, i32_w]; rfl)
        refine one_ (i := 10) (N := some 14) (bl 22 2047) rfl rfl (one_of HT_.out (by kernel_rfl)) (by decide) (fun K hK => ?_)
        refine goes_ Try.func53 (by kernel_rfl) rfl #[.slice A0_0 l0_0.length c0_0] (by rfl) rfl rfl (by (try simp only [List.map_toArray, List.map_cons, List.map_nil]); rfl) ?_
        with_reducible refine (impl_chords.calls _ _ l0_0 t103 _ ?side1 ?side2 A6.out).mono ?_
        (case side1 => exact (Kd.C_below HR0_0.out HB.out))
        (case side2 => exact HC0_0.out)
        rintro e w' ⟨rfl, ⟨nd, rfl⟩⟩
        refine ⟨_, rfl, ?_⟩
        refine hK.out _ _ ⟨(blk_cell BK101.out 0).trans rfl, (blk_cell BK101.out 1).trans rfl, (blk_cell BK101.out 2).trans rfl⟩ (fun hHeld => ?_)
        clear hK K
        refine norm_ (a' := ?_) ?_ ?_
        rotate_left
        · show Act.put _ (some 14) _ = _
          simp only [Act.put, List.setIfInBounds_toArray, List.set_cons_zero, List.set_cons_succ, i64_w, i32_w]
          rfl
        refine pure_ (i := 11) (N := some 15) (v := ?_) (a' := ?_) (bl 22 4095) rfl rfl (any_of HT_.out (by kernel_rfl)) (fun _ _ _ h => h) (Or.inl ⟨by rfl, ?_⟩) ?_ ?_; rotate_left; (focus intro w'; go_simp; with_reducible rfl); rotate_left; (focus simp only [Act.put, List.setIfInBounds_toArray, List.set_cons_zero, List.set_cons_succ, i64_w, i32_w]; rfl)
        refine pure_ (i := 12) (N := some 16) (v := ?_) (a' := ?_) (bl 22 8191) rfl rfl (any_of HT_.out (by kernel_rfl)) (fun _ _ _ h => h) (Or.inl ⟨by rfl, ?_⟩) ?_ ?_; rotate_left; (focus intro w'; go_simp; with_reducible rfl); rotate_left; (focus simp only [Act.put, List.setIfInBounds_toArray, List.set_cons_zero, List.set_cons_succ, i64_w, i32_w]; rfl)
        refine pure_ (i := 13) (N := some 17) (v := ?_) (a' := ?_) (bl 22 16383) rfl rfl (any_of HT_.out (by kernel_rfl)) (fun _ _ _ h => h) (Or.inl ⟨by rfl, ?_⟩) ?_ ?_; rotate_left; (focus intro w'; go_simp; with_reducible rfl); rotate_left; (focus simp only [Act.put, List.setIfInBounds_toArray, List.set_cons_zero, List.set_cons_succ, i64_w, i32_w]; rfl)
        refine pure_ (i := 14) (N := some 18) (v := undef) (a' := ?_) (bl 22 32767) rfl rfl (any_of HT_.out (by kernel_rfl)) (fun _ _ _ h => h) (Or.inr ⟨by rfl, rfl⟩) ?_ ?_; rotate_left; (focus simp only [Act.put, List.setIfInBounds_toArray, List.set_cons_zero, List.set_cons_succ, i64_w, i32_w]; rfl)
        refine pure_ (i := 15) (N := some 19) (v := undef) (a' := ?_) (bl 22 65535) rfl rfl (any_of HT_.out (by kernel_rfl)) (fun _ _ _ h => h) (Or.inr ⟨by rfl, rfl⟩) ?_ ?_; rotate_left; (focus simp only [Act.put, List.setIfInBounds_toArray, List.set_cons_zero, List.set_cons_succ, i64_w, i32_w]; rfl)
        refine pure_ (i := 16) (N := some 20) (v := undef) (a' := ?_) (bl 22 131071) rfl rfl (any_of HT_.out (by kernel_rfl)) (fun _ _ _ h => h) (Or.inr ⟨by rfl, rfl⟩) ?_ ?_; rotate_left; (focus simp only [Act.put, List.setIfInBounds_toArray, List.set_cons_zero, List.set_cons_succ, i64_w, i32_w]; rfl)
        refine pure_ (i := 17) (N := some 21) (v := undef) (a' := ?_) (bl 22 262143) rfl rfl (any_of HT_.out (by kernel_rfl)) (fun _ _ _ h => h) (Or.inr ⟨by rfl, rfl⟩) ?_ ?_; rotate_left; (focus simp only [Act.put, List.setIfInBounds_toArray, List.set_cons_zero, List.set_cons_succ, i64_w, i32_w]; rfl)
        refine pure_ (i := 18) (N := some 22) (v := undef) (a' := ?_) (bl 22 524287) rfl rfl (any_of HT_.out (by kernel_rfl)) (fun _ _ _ h => h) (Or.inr ⟨by rfl, rfl⟩) ?_ ?_; rotate_left; (focus simp only [Act.put, List.setIfInBounds_toArray, List.set_cons_zero, List.set_cons_succ, i64_w, i32_w]; rfl)
        refine pure_ (i := 19) (N := some 23) (v := undef) (a' := ?_) (bl 22 1048575) rfl rfl (any_of HT_.out (by kernel_rfl)) (fun _ _ _ h => h) (Or.inr ⟨by rfl, rfl⟩) ?_ ?_; rotate_left; (focus simp only [Act.put, List.setIfInBounds_toArray, List.set_cons_zero, List.set_cons_succ, i64_w, i32_w]; rfl)
        refine pure_ (i := 20) (N := some 24) (v := undef) (a' := ?_) (bl 22 2097151) rfl rfl (any_of HT_.out (by kernel_rfl)) (fun _ _ _ h => h) (Or.inr ⟨by rfl, rfl⟩) ?_ ?_; rotate_left; (focus simp only [Act.put, List.setIfInBounds_toArray, List.set_cons_zero, List.set_cons_succ, i64_w, i32_w]; rfl)
        refine pure_ (i := 21) (N := some 25) (v := ?_) (a' := ?_) (bl 22 4194303) rfl rfl (any_of HT_.out (by kernel_rfl)) (fun _ _ _ h => h) (Or.inl ⟨by rfl, ?_⟩) ?_ ?_; rotate_left; (focus intro w'; go_simp; with_reducible rfl); rotate_left; (focus simp only [Act.put, List.setIfInBounds_toArray, List.set_cons_zero, List.set_cons_succ, i64_w, i32_w]; rfl)
        refine done_ (done_of HT_.out (by kernel_rfl)) ?_
        try go_wp2
        go_meet
        case rel => exact ⟨_, (true), (by first | rfl | (simp; done) | (simp [*]; done)), H', ⟨by first | omega | exact Nat.le_refl _⟩, ⟨by exact BK101.out⟩, ⟨by repeat (first | exact HB.out | apply below_alloc | apply pw_below_drewN | apply below_drew1 | refine below_set ?_ GE101.out)⟩⟩
    · replace c5 := Bool.eq_false_iff.mpr c5
      subst c5
      have H1 : (impl_IsGauss.j0 k true l0_0 l0_1 l0_2) = some r := by rw [if_neg (show ¬ (false = true) by decide)] at H; exact H
      clear H
      have H := H1
      clear H1
      have H' := Aside0.mk H
      clear H
      try go_wp2
      have n0_ := mk0 (blk_drew BK101.out)
      have n1_ := mk0 (below_drew1 HB.out)
      clear BK101
      clear HB
      have BK101 := n0_
      have HB := n1_
      clear n0_ n1_
      refine start_ (n := 22) (S := fun w' => w'.cell? ⟨gb101, 0, none⟩ = some (.slice A0_0 l0_0.length c0_0) ∧ w'.cell? ⟨gb101, 1, none⟩ = some (.slice A0_1 l0_1.length c0_1) ∧ w'.cell? ⟨gb101, 2, none⟩ = some (.slice A0_2 l0_2.length c0_2)) (ds := []) (bl 22 0) (by kernel_rfl) rfl rfl ⟨(blk_cell BK101.out 0).trans rfl, (blk_cell BK101.out 1).trans rfl, (blk_cell BK101.out 2).trans rfl⟩ (fun hHeld => ?_); refine with_tabW impl_IsGauss.tab1 impl_IsGauss.bits1 (fun HT_ HW_ => ?_)
      generalize w3.drew = w13 at BK101 HB hHeld ⊢
      refine pure_ (i := 0) (N := some 4) (v := ?_) (a' := ?_) (bl 22 1) rfl rfl (any_of HT_.out (by kernel_rfl)) (fun _ _ _ h => h) (Or.inl ⟨by rfl, ?_⟩) ?_ ?_; rotate_left; (focus intro w'; go_simp; with_reducible rfl); rotate_left; (focus simp only [Act.put, List.setIfInBounds_toArray, List.set_cons_zero, List.set_cons_succ, i64_w, i32_w]; rfl)
      refine take_ (i := 1) (N := some 5) (v := ?_) (a' := ?_) (bl 22 3) rfl rfl (take_ofW HT_.out HW_.out (by kernel_rfl)) (fun _ _ _ h => h) (Or.inl ⟨by rfl, ?_⟩) hHeld ?_ ?_; rotate_left; (focus rintro w' ⟨s0, s1, s2⟩; go_simp; with_reducible rfl); rotate_left; (focus simp only [Act.put, List.setIfInBounds_toArray, List.set_cons_zero, List.set_cons_succ, i64_w, i32_w]; rfl)
      refine one_ (i := 2) (N := some 6) (bl 22 7) rfl rfl (one_of HT_.out (by kernel_rfl)) (by decide) (fun K hK => ?_)
      refine goes_ Try.func51 (by kernel_rfl) rfl #[.slice A0_0 l0_0.length c0_0] (by rfl) rfl rfl (by (try simp only [List.map_toArray, List.map_cons, List.map_nil]); rfl) ?_
      with_reducible refine (impl_IsWord.calls k _ _ l0_0 false _ ?side1 ?side2 A4.out).mono ?_
      (case side1 => exact (Kd.C_below HR0_0.out HB.out))
      (case side2 => exact HC0_0.out)
      rintro e w14 ⟨rfl, hb⟩
      refine ⟨_, rfl, ?_⟩
      have n0_ := mk0 (blk_below (by exact BK101.out) hb)
      have n1_ := mk0 (below_step (by repeat (first | exact HB.out | apply below_alloc | apply pw_below_drewN | apply below_drew1 | refine below_set ?_ GE101.out)) hb)
      clear BK101
      clear HB
      have BK101 := n0_
      have HB := n1_
      clear n0_ n1_
      (try clear hb)
      (try clear hb2)
      (try clear hk)
      (try clear hi)
      refine hK.out _ _ ⟨(blk_cell BK101.out 0).trans rfl, (blk_cell BK101.out 1).trans rfl, (blk_cell BK101.out 2).trans rfl⟩ (fun hHeld => ?_)
      clear hK K
      refine norm_ (a' := ?_) ?_ ?_
      rotate_left
      · show Act.put _ (some 6) _ = _
        simp only [Act.put, List.setIfInBounds_toArray, List.set_cons_zero, List.set_cons_succ, i64_w, i32_w]
        rfl
      refine pure_ (i := 3) (N := some 7) (v := ?_) (a' := ?_) (bl 22 15) rfl rfl (any_of HT_.out (by kernel_rfl)) (fun _ _ _ h => h) (Or.inl ⟨by rfl, ?_⟩) ?_ ?_; rotate_left; (focus intro w'; go_simp; with_reducible rfl); rotate_left; (focus simp only [Act.put, List.setIfInBounds_toArray, List.set_cons_zero, List.set_cons_succ, i64_w, i32_w]; rfl)
      refine pure_ (i := 4) (N := some 8) (v := ?_) (a' := ?_) (bl 22 31) rfl rfl (any_of HT_.out (by kernel_rfl)) (fun _ _ _ h => h) (Or.inl ⟨by rfl, ?_⟩) ?_ ?_; rotate_left; (focus intro w'; go_simp; with_reducible rfl); rotate_left; (focus simp only [Act.put, List.setIfInBounds_toArray, List.set_cons_zero, List.set_cons_succ, i64_w, i32_w]; rfl)
      refine pure_ (i := 5) (N := some 9) (v := undef) (a' := ?_) (bl 22 63) rfl rfl (any_of HT_.out (by kernel_rfl)) (fun _ _ _ h => h) (Or.inr ⟨by rfl, rfl⟩) ?_ ?_; rotate_left; (focus simp only [Act.put, List.setIfInBounds_toArray, List.set_cons_zero, List.set_cons_succ, i64_w, i32_w]; rfl)
      refine pure_ (i := 6) (N := some 10) (v := undef) (a' := ?_) (bl 22 127) rfl rfl (any_of HT_.out (by kernel_rfl)) (fun _ _ _ h => h) (Or.inr ⟨by rfl, rfl⟩) ?_ ?_; rotate_left; (focus simp only [Act.put, List.setIfInBounds_toArray, List.set_cons_zero, List.set_cons_succ, i64_w, i32_w]; rfl)
      refine pure_ (i := 7) (N := some 11) (v := undef) (a' := ?_) (bl 22 255) rfl rfl (any_of HT_.out (by kernel_rfl)) (fun _ _ _ h => h) (Or.inr ⟨by rfl, rfl⟩) ?_ ?_; rotate_left; (focus simp only [Act.put, List.setIfInBounds_toArray, List.set_cons_zero, List.set_cons_succ, i64_w, i32_w]; rfl)
      refine pure_ (i := 8) (N := some 12) (v := undef) (a' := ?_) (bl 22 511) rfl rfl (any_of HT_.out (by kernel_rfl)) (fun _ _ _ h => h) (Or.inr ⟨by rfl, rfl⟩) ?_ ?_; rotate_left; (focus simp only [Act.put, List.setIfInBounds_toArray, List.set_cons_zero, List.set_cons_succ, i64_w, i32_w]; rfl)
      refine pure_ (i := 9) (N := some 13) (v := undef) (a' := ?_) (bl 22 1023) rfl rfl (any_of HT_.out (by kernel_rfl)) (fun _ _ _ h => h) (Or.inr ⟨by rfl, rfl⟩) ?_ ?_; rotate_left; (focus simp only [Act.put, List.setIfInBounds_toArray, List.set_cons_zero, List.set_cons_succ, i64_w, i32_w]; rfl)
      refine pure_ (i := 10) (N := some 14) (v := undef) (a' := ?_) (bl 22 2047) rfl rfl (any_of HT_.out (by kernel_rfl)) (fun _ _ _ h => h) (Or.inr ⟨by rfl, rfl⟩) ?_ ?_; rotate_left; (focus simp only [Act.put, List.setIfInBounds_toArray, List.set_cons_zero, List.set_cons_succ, i64_w, i32_w]; rfl)
      refine pure_ (i := 11) (N := some 15) (v := undef) (a' := ?_) (bl 22 4095) rfl rfl (any_of HT_.out (by kernel_rfl)) (fun _ _ _ h => h) (Or.inr ⟨by rfl, rfl⟩) ?_ ?_; rotate_left; (focus simp only [Act.put, List.setIfInBounds_toArray, List.set_cons_zero, List.set_cons_succ, i64_w, i32_w]; rfl)
      refine pure_ (i := 12) (N := some 16) (v := ?_) (a' := ?_) (bl 22 8191) rfl rfl (any_of HT_.out (by kernel_rfl)) (fun _ _ _ h => h) (Or.inl ⟨by rfl, ?_⟩) ?_ ?_; rotate_left; (focus intro w'; go_simp; with_reducible rfl); rotate_left; (focus simp only [Act.put, List.setIfInBounds_toArray, List.set_cons_zero, List.set_cons_succ, i64_w, i32_w]; rfl)
      refine pure_ (i := 13) (N := some 17) (v := ?_) (a' := ?_) (bl 22 16383) rfl rfl (any_of HT_.out (by kernel_rfl)) (fun _ _ _ h => h) (Or.inl ⟨by rfl, ?_⟩) ?_ ?_; rotate_left; (focus intro w'; go_simp; with_reducible rfl); rotate_left; (focus simp only [Act.put, List.setIfInBounds_toArray, List.set_cons_zero, List.set_cons_succ, i64_w, i32_w]; rfl)
      refine pure_ (i := 14) (N := some 18) (v := undef) (a' := ?_) (bl 22 32767) rfl rfl (any_of HT_.out (by kernel_rfl)) (fun _ _ _ h => h) (Or.inr ⟨by rfl, rfl⟩) ?_ ?_; rotate_left; (focus simp only [Act.put, List.setIfInBounds_toArray, List.set_cons_zero, List.set_cons_succ, i64_w, i32_w]; rfl)
      refine pure_ (i := 15) (N := some 19) (v := undef) (a' := ?_) (bl 22 65535) rfl rfl (any_of HT_.out (by kernel_rfl)) (fun _ _ _ h => h) (Or.inr ⟨by rfl, rfl⟩) ?_ ?_; rotate_left; (focus simp only [Act.put, List.setIfInBounds_toArray, List.set_cons_zero, List.set_cons_succ, i64_w, i32_w]; rfl)
      refine pure_ (i := 16) (N := some 20) (v := undef) (a' := ?_) (bl 22 131071) rfl rfl (any_of HT_.out (by kernel_rfl)) (fun _ _ _ h => h) (Or.inr ⟨by rfl, rfl⟩) ?_ ?_; rotate_left; (focus simp only [Act.put, List.setIfInBounds_toArray, List.set_cons_zero, List.set_cons_succ, i64_w, i32_w]; rfl)
      refine pure_ (i := 17) (N := some 21) (v := undef) (a' := ?_) (bl 22 262143) rfl rfl (any_of HT_.out (by kernel_rfl)) (fun _ _ _ h => h) (Or.inr ⟨by rfl, rfl⟩) ?_ ?_; rotate_left; (focus simp only [Act.put, List.setIfInBounds_toArray, List.set_cons_zero, List.set_cons_succ, i64_w, i32_w]; rfl)
      refine pure_ (i := 18) (N := some 22) (v := undef) (a' := ?_) (bl 22 524287) rfl rfl (any_of HT_.out (by kernel_rfl)) (fun _ _ _ h => h) (Or.inr ⟨by rfl, rfl⟩) ?_ ?_; rotate_left; (focus simp only [Act.put, List.setIfInBounds_toArray, List.set_cons_zero, List.set_cons_succ, i64_w, i32_w]; rfl)
      refine pure_ (i := 19) (N := some 23) (v := undef) (a' := ?_) (bl 22 1048575) rfl rfl (any_of HT_.out (by kernel_rfl)) (fun _ _ _ h => h) (Or.inr ⟨by rfl, rfl⟩) ?_ ?_; rotate_left; (focus simp only [Act.put, List.setIfInBounds_toArray, List.set_cons_zero, List.set_cons_succ, i64_w, i32_w]; rfl)
      refine pure_ (i := 20) (N := some 24) (v := undef) (a' := ?_) (bl 22 2097151) rfl rfl (any_of HT_.out (by kernel_rfl)) (fun _ _ _ h => h) (Or.inr ⟨by rfl, rfl⟩) ?_ ?_; rotate_left; (focus simp only [Act.put, List.setIfInBounds_toArray, List.set_cons_zero, List.set_cons_succ, i64_w, i32_w]; rfl)
      refine pure_ (i := 21) (N := some 25) (v := ?_) (a' := ?_) (bl 22 4194303) rfl rfl (any_of HT_.out (by kernel_rfl)) (fun _ _ _ h => h) (Or.inl ⟨by rfl, ?_⟩) ?_ ?_; rotate_left; (focus intro w'; go_simp; with_reducible rfl); rotate_left; (focus simp only [Act.put, List.setIfInBounds_toArray, List.set_cons_zero, List.set_cons_succ, i64_w, i32_w]; rfl)
      refine done_ (done_of HT_.out (by kernel_rfl)) ?_
      try go_wp2
      go_meet
      case rel => exact ⟨_, (true), (by first | rfl | (simp; done) | (simp [*]; done)), H', ⟨by first | omega | exact Nat.le_refl _⟩, ⟨by exact BK101.out⟩, ⟨by repeat (first | exact HB.out | apply below_alloc | apply pw_below_drewN | apply below_drew1 | refine below_set ?_ GE101.out)⟩⟩
  case rest =>
    clear HC2
    try clear p2
    try clear c5
    try clear c7
    try clear c7b0
    try clear c7b1
    obtain ⟨kq, x25_1, rfl, HA, HJ1, BK101, HB⟩ := hcut
    cases kq with
    | zero => exact absurd HA.out (by simp [impl_IsGauss.j0])
    | succ kj1 =>
      have H := HA.out
      clear HA
      simp only [impl_IsGauss.j0] at H
      by_cases c15 : x25_1 = true
      · subst c15
        have H1 : (some false) = some r := by rw [if_pos rfl] at H; exact H
        clear H
        have H := H1
        clear H1
        obtain rfl := Option.some.inj H
        go_wp2
        go_ret
        exact ⟨by first | rfl | (simp [errW_none, errW_some] <;> rfl) | (simp [*, errW_none, errW_some] <;> rfl), by repeat (first | exact HB.out | apply below_alloc | apply pw_below_drewN | apply below_drew1 | refine below_set ?_ GE101.out)⟩
      · replace c15 := Bool.eq_false_iff.mpr c15
        subst c15
        have H1 : ((anyNoHead.f l0_1).bind fun t105 => (if t105 = true then (some false) else ((anyNoSign.f l0_2).bind fun t106 => (some (!t106))))) = some r := by rw [if_neg (show ¬ (false = true) by decide)] at H; exact H
        clear H
        have H := H1
        clear H1
        replace H := Option.bind_eq_some_iff.mp H
        obtain ⟨t105, A160, H⟩ := H
        replace H : (if t105 = true then (some false) else ((anyNoSign.f l0_2).bind fun t106 => (some (!t106)))) = some r := H
        have A16 := Aside0.mk A160
        clear A160
        by_cases c17 : t105 = true
        · subst c17
          have H1 : (some false) = some r := by rw [if_pos rfl] at H; exact H
          clear H
          have H := H1
          clear H1
          obtain rfl := Option.some.inj H
          obtain ⟨hcz18_0, hcz18_1, hcz18_2⟩ := bc3 BK101.out
          obtain ⟨hfz18_0, hfz18_1, hfz18_2⟩ := bf3 BK101.out
          go_wp2_with (first | ((with_reducible refine gate_callee (f := 96) rfl ?_); refine goesL_ (some 28) rfl rfl Try.func96 (by kernel_rfl) rfl #[.slice A0_1 l0_1.length c0_1, .func (.func 97) #[] #[]] rfl (by (try simp only [List.map_toArray, List.map_cons, List.map_nil]); rfl) ?_; (with_reducible refine (anyNoHead.calls _ _ l0_1 true _ ?side1 ?side2 A16.out).mono ?_); (case side1 => exact (Kd.C_below HR0_1.out HB.out)); (case side2 => exact HC0_1.out); rintro e w' ⟨rfl, ⟨nd, rfl⟩⟩; refine ⟨_, rfl, ?_⟩))
          go_ret
          exact ⟨by first | rfl | (simp [errW_none, errW_some] <;> rfl) | (simp [*, errW_none, errW_some] <;> rfl), by repeat (first | exact HB.out | apply below_alloc | apply pw_below_drewN | apply below_drew1 | refine below_set ?_ GE101.out)⟩
        · replace c17 := Bool.eq_false_iff.mpr c17
          subst c17
          have H1 : ((anyNoSign.f l0_2).bind fun t106 => (some (!t106))) = some r := by rw [if_neg (show ¬ (false = true) by decide)] at H; exact H
          clear H
          have H := H1
          clear H1
          replace H := Option.bind_eq_some_iff.mp H
          obtain ⟨t106, A190, H⟩ := H
          replace H : (some (!t106)) = some r := H
          have A19 := Aside0.mk A190
          clear A190
          obtain rfl := Option.some.inj H
          obtain ⟨hcz20_0, hcz20_1, hcz20_2⟩ := bc3 BK101.out
          obtain ⟨hfz20_0, hfz20_1, hfz20_2⟩ := bf3 BK101.out
          go_wp2_with (first | ((with_reducible refine gate_callee (f := 96) rfl ?_); refine goesL_ (some 28) rfl rfl Try.func96 (by kernel_rfl) rfl #[.slice A0_1 l0_1.length c0_1, .func (.func 97) #[] #[]] rfl (by (try simp only [List.map_toArray, List.map_cons, List.map_nil]); rfl) ?_; (with_reducible refine (anyNoHead.calls _ _ l0_1 false _ ?side1 ?side2 A16.out).mono ?_); (case side1 => exact (Kd.C_below HR0_1.out HB.out)); (case side2 => exact HC0_1.out); rintro e w' ⟨rfl, ⟨nd, rfl⟩⟩; refine ⟨_, rfl, ?_⟩) | (go_at_call 96; (with_reducible refine (anyNoSign.calls _ _ l0_2 t106 _ ?side1 ?side2 A19.out).mono ?_); (case side1 => repeat (first | exact (Kd.C_below HR0_2.out (by repeat (first | exact HB.out | apply below_alloc | apply pw_below_drewN | apply below_drew1 | refine below_set ?_ GE101.out))) | (with_reducible refine Kd.C_alloc ?_ _) | (with_reducible refine Kd.C_drewN ?_ _) | (with_reducible refine Kd.C_drew ?_))); (case side2 => exact HC0_2.out); rintro e w' ⟨rfl, ⟨nd, rfl⟩⟩))
          go_ret
          exact ⟨by first | rfl | (simp [errW_none, errW_some] <;> rfl) | (simp [*, errW_none, errW_some] <;> rfl), by repeat (first | exact HB.out | apply below_alloc | apply pw_below_drewN | apply below_drew1 | refine below_set ?_ GE101.out)⟩
end Go.Proofs.Ytihfncjpfgdhoaa.PE
end
section
namespace Go.Proofs.Ytihfncjpfgdhoaa.K
open Go.RowKit Go.Proofs.YtihfncjpfgdhoaaW.PrintWords Go.Proofs.YtihfncjpfgdhoaaW.PrintLast Go.Proofs.YtihfncjpfgdhoaaW.PrintMore Go.Proofs.Ytihfncjpfgdhoaa.PA Go.Proofs.Ytihfncjpfgdhoaa.PE
def isGaussL (w h s : List Int) : Bool := isWordL w && (decide (h.length = w.length / 2) && (decide (s.length = w.length / 2) && (h.all isHeadB && s.all isSignB)))
theorem inB_l01In (x a b : Int) : spec_l01In.f x a b = some (inB x a b) := by
  unfold spec_l01In.f inB
  by_cases h : x ≥ a
  · rw [if_pos h]; simp [show a ≤ x from h]
  · rw [if_neg h]; simp [show ¬ a ≤ x from h]
theorem specGauss_l0 (w h s : List Int) (n : Nat) (hh : h.length = n) (hs : s.length = n) (hn : n ≤ 4096) (d : Nat) : ∀ i : Nat, n - i = d → i ≤ n → ∃ k, spec_l07Is.l0 k n i w h s = some ((h.drop i).all isHeadB && (s.drop i).all isSignB) := by
  induction d with
  | zero =>
    intro i hd hi
    refine ⟨1, ?_⟩
    simp only [spec_l07Is.l0]
    rw [if_neg (by omega), List.drop_of_length_le (by omega), List.drop_of_length_le (by omega)]
    rfl
  | succ d ih =>
    intro i hd hi
    obtain ⟨k, hk⟩ := ih (i + 1) (by omega) (by omega)
    refine ⟨k + 1, ?_⟩
    simp only [spec_l07Is.l0]
    rw [if_pos (by omega), if_pos (by omega), if_pos (by omega), inB_l01In, drop_at h i (by omega), drop_at s i (by omega), List.all_cons, List.all_cons, wrap_id (by omega) (by omega)]
    simp only [Option.bind_some]
    by_cases h1 : inB (rd h i) 0 1 = true
    · have h1' : isHeadB (rd h i) = true := h1
      rw [if_pos h1, if_pos (by omega), h1']
      by_cases h2 : rd s i = 1
      · have h2' : isSignB (rd s i) = true := by unfold isSignB; rw [h2]; rfl
        rw [if_pos h2, h2', show ((i : Int) + 1) = ((i + 1 : Nat) : Int) by omega, hk]
        simp
      · rw [if_neg h2]
        by_cases h3 : rd s i = -1
        · have h2' : isSignB (rd s i) = true := by unfold isSignB; rw [h3]; rfl
          rw [if_pos h3, h2', show ((i : Int) + 1) = ((i + 1 : Nat) : Int) by omega, hk]
          simp
        · have h2' : isSignB (rd s i) = false := by unfold isSignB; simp [h2, h3]
          rw [if_neg h3, h2']
          simp
    · have h1' : isHeadB (rd h i) = false := Bool.eq_false_iff.mpr h1
      rw [if_neg h1, h1']
      simp
theorem ev_specGauss (w h s : List Int) (hhl : h.length ≤ 281474976710656) (hsl : s.length ≤ 281474976710656) : Ev (fun k => spec_l07Is.f k w h s) (isGaussL w h s) := by
  unfold spec_l07Is.f isGaussL
  refine Ev.bind (ev_specIs w) ?_
  have hno : ∀ (x3 : Int), Ev (fun k => spec_l07Is.j0 k x3 true w h s) false := fun x3 => Ev.step (fun n => by rw [spec_l07Is.j0]) (ev_pos rfl (ev_some _))
  refine ev_if (fun hw => ?_) (fun hw => ?_)
  · have h12 : w.length ≤ 12 := by
      unfold isWordL at hw
      simp only [Bool.and_eq_true, decide_eq_true_eq] at hw
      exact hw.1
    have hc : ((w.length : Int) / 2) = ((w.length / 2 : Nat) : Int) := by omega
    rw [hw, Bool.true_and, hc, wrap_id (by omega) (by omega)]
    refine ev_if (fun h1 => ?_) (fun h1 => ?_)
    · rw [show decide (h.length = w.length / 2) = true from decide_eq_true (by omega), Bool.true_and]
      refine Ev.step (fun n => by rw [spec_l07Is.j0]) ?_
      refine ev_if (fun h2 => ?_) (fun h2 => ?_)
      · have : (s.length : Int) ≠ ((w.length / 2 : Nat) : Int) := by simpa using h2
        rw [show decide (s.length = w.length / 2) = false from decide_eq_false (by omega)]
        exact ev_some _
      · have : (s.length : Int) = ((w.length / 2 : Nat) : Int) := by simpa using h2
        rw [show decide (s.length = w.length / 2) = true from decide_eq_true (by omega), Bool.true_and]
        obtain ⟨k, hk⟩ := specGauss_l0 w h s (w.length / 2) (by omega) (by omega) (by omega) (w.length / 2) 0 (by omega) (by omega)
        exact ev_of (fun k => (spec_l07Is.mono_l k).2 _ _ _ _ _) ⟨k, by simpa using hk⟩
    · rw [show decide (h.length = w.length / 2) = false from decide_eq_false (by omega), Bool.false_and]
      exact hno _
  · rw [Bool.eq_false_iff.mpr hw, Bool.false_and]
    exact hno _
theorem all_not_any (l : List Int) (p : Int → Bool) : (!l.any fun x => !p x) = l.all p := by
  induction l with
  | nil => rfl
  | cons x r ih => simp only [List.any_cons, List.all_cons, Bool.not_or, Bool.not_not, ih]
theorem ev_isGauss (w h s : List Int) (h64 : Ok64 w) : Ev (fun k => impl_IsGauss.f k w h s) (isGaussL w h s) := by
  unfold impl_IsGauss.f isGaussL
  refine Ev.bind (ev_isWord w h64) ?_
  have hno : Ev (fun k => impl_IsGauss.j0 k true w h s) false := Ev.step (fun n => by rw [impl_IsGauss.j0]) (ev_pos rfl (ev_some _))
  refine ev_if (fun hw => ?_) (fun hw => ?_)
  · have h12 : w.length ≤ 12 := by
      unfold isWordL at hw
      simp only [Bool.and_eq_true, decide_eq_true_eq] at hw
      exact hw.1
    have hc : ((w.length : Int) / 2) = ((w.length / 2 : Nat) : Int) := by omega
    have hch : impl_chords.f w = some ((w.length / 2 : Nat) : Int) := by
      unfold impl_chords.f
      rw [hc, wrap_id (by omega) (by omega)]
    rw [hw, Bool.true_and]
    refine ev_const hch ?_
    refine ev_if (fun h1 => ?_) (fun h1 => ?_)
    · rw [show decide (h.length = w.length / 2) = true from decide_eq_true (by omega), Bool.true_and]
      refine ev_const hch ?_
      refine Ev.step (fun n => by rw [impl_IsGauss.j0]) ?_
      refine ev_if (fun h2 => ?_) (fun h2 => ?_)
      · have : (s.length : Int) ≠ ((w.length / 2 : Nat) : Int) := by simpa using h2
        rw [show decide (s.length = w.length / 2) = false from decide_eq_false (by omega)]
        exact ev_some _
      · have : (s.length : Int) = ((w.length / 2 : Nat) : Int) := by simpa using h2
        rw [show decide (s.length = w.length / 2) = true from decide_eq_true (by omega), Bool.true_and, ← all_not_any h, ← all_not_any s]
        refine ev_const (show anyNoHead.f h = some _ from rfl) ?_
        refine ev_if (fun h3 => ?_) (fun h3 => ?_)
        · rw [h3]; exact ev_some _
        · rw [Bool.eq_false_iff.mpr h3]
          exact ev_const (show anyNoSign.f s = some _ from rfl) (ev_some _)
    · rw [show decide (h.length = w.length / 2) = false from decide_eq_false (by omega), Bool.false_and]
      exact hno
  · rw [Bool.eq_false_iff.mpr hw, Bool.false_and]
    exact hno
theorem order_l1 (l met : List Int) (i : Nat) (hi : i < l.length) (hl : l.length ≤ 4096) (hm : met.length ≤ l.length) (r : List Int)
    (h1 : rd l i ∈ met → ∃ n, spec_l07Order.l0 n l met ((i : Int) + 1) = some r) (h2 : rd l i ∉ met → ∃ n, spec_l07Order.l0 n l (met ++ [rd l i]) ((i : Int) + 1) = some r) (d : Nat) :
    ∀ j : Nat, met.length - j = d → j ≤ met.length → ∃ n, spec_l07Order.l1 n l met i (decide (rd l i ∈ met.take j)) j = some r := by
  induction d with
  | zero =>
    intro j hd hj
    rw [List.take_of_length_le (by omega)]
    by_cases h : rd l i ∈ met
    · obtain ⟨n, hn⟩ := h1 h
      refine ⟨n + 1, ?_⟩
      simp only [spec_l07Order.l1]
      rw [if_neg (by omega), if_pos (decide_eq_true h), wrap_id (by omega) (by omega)]
      exact hn
    · obtain ⟨n, hn⟩ := h2 h
      refine ⟨n + 1, ?_⟩
      simp only [spec_l07Order.l1]
      rw [if_neg (by omega), if_neg (by simpa using h), if_pos (by omega), if_pos (by omega), if_pos (by omega), wrap_id (by omega) (by omega)]
      exact hn
  | succ d ih =>
    intro j hd hj
    obtain ⟨n, hn⟩ := ih (j + 1) (by omega) (by omega)
    refine ⟨n + 1, ?_⟩
    rw [take_snoc met j (by omega)] at hn
    simp only [spec_l07Order.l1]
    rw [if_pos (by omega), wrap_id (by omega) (by omega)]
    by_cases h : rd l i ∈ met.take j
    · rw [if_pos (decide_eq_true h), show ((j : Int) + 1) = ((j + 1 : Nat) : Int) by omega, ← hn]
      congr 1
      simp [h]
    · rw [if_neg (by simpa using h), if_pos (by omega), if_pos (by omega), if_pos (by omega), show ((j : Int) + 1) = ((j + 1 : Nat) : Int) by omega, ← hn]
      congr 1
      by_cases e : rd met j = rd l i
      · rw [e]; simp
      · have e2 : ¬ rd l i = rd met j := fun h => e h.symm
        simp [e, e2, h]
theorem order_l0 (l : List Int) (hl : l.length ≤ 4096) (d : Nat) : ∀ (met : List Int) (i : Nat), l.length - i = d → i ≤ l.length → met.length ≤ i → ∃ n, spec_l07Order.l0 n l met i = some (metBy met (l.drop i)) := by
  induction d with
  | zero =>
    intro met i hd hi hm
    refine ⟨1, ?_⟩
    simp only [spec_l07Order.l0]
    rw [if_neg (by omega), List.drop_of_length_le (by omega)]
    rfl
  | succ d ih =>
    intro met i hd hi hm
    have hlt : i < l.length := by omega
    have e : metBy met (l.drop i) = metBy (if rd l i ∈ met then met else met ++ [rd l i]) (l.drop (i + 1)) := by
      rw [drop_at l i hlt, ← List.singleton_append, metBy_append, metBy_one]
    obtain ⟨n, hn⟩ := order_l1 l met i hlt hl (by omega) (metBy met (l.drop i)) (fun h => by
        rw [e, if_pos h]
        exact ih met (i + 1) (by omega) (by omega) (by omega)) (fun h => by
        rw [e, if_neg h]
        exact ih (met ++ [rd l i]) (i + 1) (by omega) (by omega) (by simp; omega)) met.length 0 (by omega) (by omega)
    refine ⟨n + 1, ?_⟩
    simp only [spec_l07Order.l0]
    rw [if_pos (by omega)]
    simpa using hn
theorem ev_order (l : List Int) (hl : l.length ≤ 4096) : Ev (fun k => spec_l07Order.f k l) (metBy [] l) := by
  refine ev_of (fun k => spec_l07Order.mono _ _) ?_
  obtain ⟨n, hn⟩ := order_l0 l hl l.length [] 0 (by omega) (by omega) (by simp)
  exact ⟨n, by simpa [spec_l07Order.f] using hn⟩
theorem metBy_mem (l : List Int) : ∀ met, ∀ x ∈ metBy met l, x ∈ met ∨ x ∈ l := by
  induction l with
  | nil => intro met x hx; exact Or.inl hx
  | cons y r ih =>
    intro met x hx
    rw [← List.singleton_append, metBy_append, metBy_one] at hx
    rcases ih _ x hx with h | h
    · split at h
      · exact Or.inl h
      · rcases List.mem_append.mp h with h | h
        · exact Or.inl h
        · exact Or.inr (by simp at h; simp [h])
    · exact Or.inr (List.mem_cons_of_mem _ h)
theorem l07Normal_l0 (hs ss ord N : List Int) (hlen : ord.length ≤ 4096) (hin : ∀ x ∈ ord, 0 ≤ x ∧ x < hs.length ∧ x < ss.length) (d : Nat) : ∀ (i : Nat) (H S : List Int), ord.length - i = d → i ≤ ord.length → H.length = i → S.length = i →
    ∃ n, spec_l07Normal.l0 n hs ss ord i N H S = some (N, H ++ (ord.drop i).map (fun x => rd hs x), S ++ (ord.drop i).map (fun x => rd ss x)) := by
  induction d with
  | zero =>
    intro i H S hd hi hH hS
    refine ⟨1, ?_⟩
    simp only [spec_l07Normal.l0]
    rw [if_neg (by omega), List.drop_of_length_le (by omega)]
    simp
  | succ d ih =>
    intro i H S hd hi hH hS
    have hlt : i < ord.length := by omega
    obtain ⟨h0, h1, h2⟩ := hin _ (rd_mem ord i hlt)
    obtain ⟨n, hn⟩ := ih (i + 1) (H ++ [rd hs (rd ord i)]) (S ++ [rd ss (rd ord i)]) (by omega) (by omega) (by simp; omega) (by simp; omega)
    refine ⟨n + 1, ?_⟩
    simp only [spec_l07Normal.l0]
    rw [if_pos (by omega), if_pos (by omega), if_pos h0, if_pos h1, if_pos (by omega), if_pos h2, if_pos (by omega), wrap_id (by omega) (by omega), drop_at ord i hlt]
    simpa using hn
theorem ev_l07Normal (l hs ss : List Int) (hl : l.length ≤ 4096) (hin : ∀ x ∈ l, 0 ≤ x ∧ x < hs.length ∧ x < ss.length) : Ev (fun k => spec_l07Normal.f k l hs ss) (normalL l, firsts l hs, firsts l ss) := by
  unfold spec_l07Normal.f
  refine Ev.bind (ev_order l hl) (Ev.bind (ev_specNormal l hl) ?_)
  have hml := metBy_length l []
  obtain ⟨n, hn⟩ := l07Normal_l0 hs ss (metBy [] l) (normalL l) (by simp at hml; omega) (fun x hx => hin x (by
    rcases metBy_mem l [] x hx with h | h
    · simp at h
    · exact h)) (metBy [] l).length 0 [] [] (by omega) (by omega) rfl rfl
  refine ev_of (fun k => spec_l07Normal.mono_l k _ _ _ _ _ _ _) ⟨n, ?_⟩
  simpa [firsts] using hn
theorem gauss_parts {w h s : List Int} (hg : isGaussL w h s = true) : isWordL w = true ∧ h.length = w.length / 2 ∧ s.length = w.length / 2 := by
  unfold isGaussL at hg
  simp only [Bool.and_eq_true, decide_eq_true_eq] at hg
  exact ⟨hg.1, hg.2.1, hg.2.2.1⟩
theorem word_range {w : List Int} (hw : isWordL w = true) : w.length ≤ 12 ∧ ∀ x ∈ w, 0 ≤ x ∧ x < ((w.length / 2 : Nat) : Int) := by
  unfold isWordL at hw
  simp only [Bool.and_eq_true, decide_eq_true_eq] at hw
  obtain ⟨h12, ht, hn⟩ := hw
  have hN : normFrom [] w = w := hn
  have hr : ∀ y ∈ w, 0 ≤ y ∧ y < ((metBy [] w).length : Int) := by
    intro y hy
    exact normFrom_range w [] y (by rw [hN]; exact hy)
  have hc : ∀ i : Nat, i < (metBy [] w).length → w.count (i : Int) = 2 := by
    intro i hi
    have h5 := normFrom_onto w [] i (by simp) hi
    rw [hN] at h5
    have := List.all_eq_true.mp ht _ h5
    simpa using this
  have := length_of_counts _ w hr hc
  refine ⟨h12, fun x hx => ?_⟩
  have := hr x hx
  omega
theorem firsts_length_le (l hs : List Int) : (firsts l hs).length ≤ l.length := by
  unfold firsts
  rw [List.length_map]
  simpa using metBy_length l []
end Go.Proofs.Ytihfncjpfgdhoaa.K
end
section
namespace Go.Proofs.Ytihfncjpfgdhoaa.PA
open Go.RowKit Go.Proofs.YtihfncjpfgdhoaaW.PrintWords Go.Proofs.YtihfncjpfgdhoaaW.PrintLast Go.Proofs.YtihfncjpfgdhoaaW.PrintMore
attribute [local go_sem] max2_int min2_int max_two min_two max_three min_three max_four min_four   -- for this text's walks alone
open Go.Proofs.Ytihfncjpfgdhoaa.K
/-! ### slices_Index_int64_int64: function 100 -/
def slices_Index_int64_int64.l0 : Nat → List Int → Int → Int → Int → Option (Int)
  | 0, _, _, _, _ => none
  | k + 1, x0, x1, x7, x8 => if x8 < x7 then (if 0 ≤ x8 then (if x8 < (x0.length : Int) then (if x1 = (rd x0 x8) then (some x8) else (slices_Index_int64_int64.l0 k x0 x1 x7 (wrap64 (x8 + 1)))) else (none)) else (none)) else (some (-1))
def slices_Index_int64_int64.f (k : Nat) (l0 : List Int) (a1 : Int) : Option (Int) := slices_Index_int64_int64.l0 k l0 a1 (l0.length : Int) 0
theorem slices_Index_int64_int64.mono_l : ∀ k, (∀ y0 y1 y2 y3, LeO (slices_Index_int64_int64.l0 k y0 y1 y2 y3) (slices_Index_int64_int64.l0 (k + 1) y0 y1 y2 y3))
  | 0 => fun _ _ _ _ r h => by simp [slices_Index_int64_int64.l0] at h
  | k + 1 => by
    have ih0 := slices_Index_int64_int64.mono_l k
    · intro y0 y1 y2 y3
      unfold slices_Index_int64_int64.l0
      repeat' first
      | (with_reducible exact ih0 _ _ _ _)
      | (with_reducible exact LeO.refl _)
      | (with_reducible exact LeO.none _)
      | (with_reducible refine LeO.ite ?_ ?_)
      | (with_reducible refine LeO.bind ?_ (fun _ => ?_))
      | exact ih0 _ _ _ _
      | exact LeO.none _
      | refine LeO.ite ?_ ?_
      | refine LeO.bind ?_ (fun _ => ?_)
theorem slices_Index_int64_int64.mono : ∀ a0 a1 k, LeO (slices_Index_int64_int64.f k a0 a1) (slices_Index_int64_int64.f (k + 1) a0 a1) := by
  intro a0 a1 k
  have ih0 := slices_Index_int64_int64.mono_l k
  unfold slices_Index_int64_int64.f
  repeat' first
      | (with_reducible exact ih0 _ _ _ _)
      | (with_reducible exact LeO.refl _)
      | (with_reducible exact LeO.none _)
      | (with_reducible refine LeO.ite ?_ ?_)
      | (with_reducible refine LeO.bind ?_ (fun _ => ?_))
      | exact ih0 _ _ _ _
      | exact LeO.none _
      | refine LeO.ite ?_ ?_
      | refine LeO.bind ?_ (fun _ => ?_)
set_option maxHeartbeats 8000000 in
set_option maxRecDepth 100000 in
theorem slices_Index_int64_int64.calls (k : Nat) (A0 : Option Addr) (c0 : Nat) (l0 : List Int) (a1 : Int) (r : Int) (w : World) (hr0 : Kd.C (Kd.int .i64) w A0 l0.length l0) (hc0 : l0.length ≤ c0) (h : slices_Index_int64_int64.f k l0 a1 = some r) :
    Calls Try.prog 100 #[.slice A0 l0.length c0, .int .i64 a1] w fun e w' => e = .returned (.int .i64 r) ∧ Drawn0 w w' := by
  have HR0 := Aside0.mk hr0
  have HC0 := Aside0.mk hc0
  clear hr0 hc0
  have H : (slices_Index_int64_int64.l0 k l0 a1 (l0.length : Int) 0) = some r := h
  clear h
  have H' := Aside0.mk H
  clear H
  go_enter Try.func100, Try.ntmps100
  go_wp2
  go_loopg [8] k (fun kq v8 w' => ∃ (x8_1 : Int), v8 = .int .i64 x8_1 ∧ Aside0 (slices_Index_int64_int64.l0 kq l0 a1 (l0.length : Int) x8_1 = some r) ∧ Aside0 (kq ≤ k) ∧ Drawn0 w w')
  case atStart => exact ⟨(0), (by first | rfl | (simp; done) | (simp [*]; done)), H', ⟨Nat.le_refl _⟩, by repeat (first | exact Drawn0.refl _ | apply Drawn0.step)⟩
  case round =>
    clear H'
    try clear c1
    try clear p2
    obtain ⟨x8_1, rfl, HA, HK1, ⟨m1, rfl⟩⟩ := hrel
    cases gk with
    | zero => exact absurd HA.out (by simp [slices_Index_int64_int64.l0])
    | succ k1 =>
      have H := HA.out
      clear HA
      simp only [slices_Index_int64_int64.l0] at H
      by_cases c3 : x8_1 < (l0.length : Int)
      · rw [if_pos c3] at H
        have c3b0 : decide (x8_1 < (l0.length : Int)) = true := decide_eq_true c3
        clear c3
        by_cases c4 : 0 ≤ x8_1
        · rw [if_pos c4] at H
          have c4b0 : decide (0 ≤ x8_1) = true := decide_eq_true c4
          clear c4
          by_cases c5 : x8_1 < (l0.length : Int)
          · rw [if_pos c5] at H
            have c5b0 : decide (x8_1 < (l0.length : Int)) = true := decide_eq_true c5
            clear c5
            by_cases c6 : a1 = (rd l0 x8_1)
            · rw [if_pos c6] at H
              have c6b0 : (a1 == (rd l0 x8_1)) = true := beq_iff_eq.mpr c6
              have c6b1 : (a1 != (rd l0 x8_1)) = false := bne_eq_false_iff_eq.mpr c6
              clear c6
              obtain rfl := Option.some.inj H
              have p320 : 0 ≤ (x8_1 : Int) := of_decide_eq_true (by first | (with_reducible assumption) | assumption)
              have q320 : x8_1 < (l0.length : Int) := of_decide_eq_true (by first | (with_reducible assumption) | assumption)
              obtain ⟨ad320, e320, hx320_0⟩ := Kd.at_int HR0.out x8_1 p320 q320
              cases e320
              replace p320 := eq_true p320
              replace q320 := eq_true q320
              go_wp2
              go_ret
              exact ⟨by first | rfl | (simp; done) | (simp [*]; done), by repeat (first | exact Drawn0.refl _ | apply Drawn0.step)⟩
            · rw [if_neg c6] at H
              have c6b0 : (a1 == (rd l0 x8_1)) = false := beq_eq_false_iff_ne.mpr c6
              have c6b1 : (a1 != (rd l0 x8_1)) = true := bne_iff_ne.mpr c6
              have H' := Aside0.mk H
              clear H
              have p320 : 0 ≤ (x8_1 : Int) := of_decide_eq_true (by first | (with_reducible assumption) | assumption)
              have q320 : x8_1 < (l0.length : Int) := of_decide_eq_true (by first | (with_reducible assumption) | assumption)
              obtain ⟨ad320, e320, hx320_0⟩ := Kd.at_int HR0.out x8_1 p320 q320
              cases e320
              replace p320 := eq_true p320
              replace q320 := eq_true q320
              go_wp2
              go_roundg k1
              case measure => have := HK1.out; omega
              case rel => exact ⟨(wrap64 (x8_1 + 1)), (by first | rfl | (simp; done) | (simp [*]; done)), H', ⟨by have := HK1.out; omega⟩, by repeat (first | exact Drawn0.refl _ | apply Drawn0.step)⟩
          · rw [if_neg c5] at H
            exact absurd H (by simp)
        · rw [if_neg c4] at H
          exact absurd H (by simp)
      · rw [if_neg c3] at H
        have c3b0 : decide (x8_1 < (l0.length : Int)) = false := decide_eq_false c3
        clear c3
        obtain rfl := Option.some.inj H
        go_wp2
        go_ret
        exact ⟨by first | rfl | (simp; done) | (simp [*]; done), by repeat (first | exact Drawn0.refl _ | apply Drawn0.step)⟩
/-! ### impl_places: function 64 -/
def impl_places.f (k : Nat) (l0 : List Int) (a1 : Int) : Option (Int × Int) := (slices_Index_int64_int64.f k l0 a1).bind fun t321 => (if 0 ≤ (wrap64 (t321 + 1)) then (if (wrap64 (t321 + 1)) ≤ (l0.length : Int) then ((slices_Index_int64_int64.f k (l0.drop ((wrap64 (t321 + 1)) : Int).toNat) a1).bind fun t323 => (some (t321, wrap64 ((wrap64 (t321 + 1)) + t323)))) else (none)) else (none))
theorem impl_places.mono : ∀ a0 a1 k, LeO (impl_places.f k a0 a1) (impl_places.f (k + 1) a0 a1) := by
  intro a0 a1 k
  unfold impl_places.f
  repeat' first
      | (with_reducible exact slices_Index_int64_int64.mono _ _ _)
      | (with_reducible exact LeO.refl _)
      | (with_reducible exact LeO.none _)
      | (with_reducible refine LeO.ite ?_ ?_)
      | (with_reducible refine LeO.bind ?_ (fun _ => ?_))
      | exact slices_Index_int64_int64.mono _ _ _
      | exact LeO.none _
      | refine LeO.ite ?_ ?_
      | refine LeO.bind ?_ (fun _ => ?_)
set_option maxHeartbeats 8000000 in
set_option maxRecDepth 100000 in
theorem impl_places.calls (k : Nat) (A0 : Option Addr) (c0 : Nat) (l0 : List Int) (a1 : Int) (r1 : Int) (r2 : Int) (w : World) (hr0 : Kd.C (Kd.int .i64) w A0 l0.length l0) (hc0 : l0.length ≤ c0) (h : impl_places.f k l0 a1 = some (r1, r2)) :
    Calls Try.prog 64 #[.slice A0 l0.length c0, .int .i64 a1] w fun e w' => e = .returned (.tuple #[.int .i64 r1, .int .i64 r2]) ∧ Drawn0 w w' := by
  have HR0 := Aside0.mk hr0
  have HC0 := Aside0.mk hc0
  clear hr0 hc0
  have H : ((slices_Index_int64_int64.f k l0 a1).bind fun t321 => (if 0 ≤ (wrap64 (t321 + 1)) then (if (wrap64 (t321 + 1)) ≤ (l0.length : Int) then ((slices_Index_int64_int64.f k (l0.drop ((wrap64 (t321 + 1)) : Int).toNat) a1).bind fun t323 => (some (t321, wrap64 ((wrap64 (t321 + 1)) + t323)))) else (none)) else (none))) = some (r1, r2) := h
  clear h
  replace H := Option.bind_eq_some_iff.mp H
  obtain ⟨t321, A30, H⟩ := H
  replace H : (if 0 ≤ (wrap64 (t321 + 1)) then (if (wrap64 (t321 + 1)) ≤ (l0.length : Int) then ((slices_Index_int64_int64.f k (l0.drop ((wrap64 (t321 + 1)) : Int).toNat) a1).bind fun t323 => (some (t321, wrap64 ((wrap64 (t321 + 1)) + t323)))) else (none)) else (none)) = some (r1, r2) := H
  have A3 := Aside0.mk A30
  clear A30
  obtain ⟨ji4, hji4⟩ : ∃ j_ : Int, (wrap64 (t321 + 1)) = j_ := ⟨_, rfl⟩
  replace H : (if 0 ≤ (ji4) then (if (ji4) ≤ (l0.length : Int) then ((slices_Index_int64_int64.f k (l0.drop ((ji4) : Int).toNat) a1).bind fun t323 => (some (t321, wrap64 ((ji4) + t323)))) else (none)) else (none)) = some (r1, r2) := by first | (rw [hji4] at H; exact H) | (simp only [hji4] at H ⊢; exact H)
  (try rw [hji4] at A3)
  have hji4w : (IntKind.i64.wrap (t321 + 1)) = ji4 := (i64_w _).trans hji4
  by_cases c5 : 0 ≤ (ji4)
  · rw [if_pos c5] at H
    have c5b0 := eq_true c5
    have c5b1 : decide (0 ≤ (ji4)) = true := decide_eq_true c5
    clear c5
    by_cases c6 : (ji4) ≤ (l0.length : Int)
    · rw [if_pos c6] at H
      have c6b0 := eq_true c6
      have c6b1 : decide ((ji4) ≤ (l0.length : Int)) = true := decide_eq_true c6
      clear c6
      replace H := Option.bind_eq_some_iff.mp H
      obtain ⟨t323, A70, H⟩ := H
      replace H : (some (t321, wrap64 ((ji4) + t323))) = some (r1, r2) := H
      have A7 := Aside0.mk A70
      clear A70
      simp only [Option.some.injEq, Prod.mk.injEq] at H
      obtain ⟨rfl, rfl⟩ := H
      go_enter Try.func64, Try.ntmps64
      go_wp2_with (first | ((with_reducible refine gate_callee (f := 100) rfl ?_); refine goesL_ (some 9) rfl rfl Try.func100 (by kernel_rfl) rfl #[.slice A0 l0.length c0, .int .i64 a1] rfl (by (try simp only [List.map_toArray, List.map_cons, List.map_nil]); rfl) ?_; (with_reducible refine (slices_Index_int64_int64.calls k _ _ l0 a1 t321 _ ?side1 ?side2 A3.out).mono ?_); (case side1 => exact HR0.out); (case side2 => exact HC0.out); rintro e w' ⟨rfl, ⟨nd, rfl⟩⟩; refine ⟨_, rfl, ?_⟩; obtain ⟨i08, hi08, _, hsz8, _⟩ := info_parts info2; obtain ⟨A8, hcut8, hA8, hC8⟩ := print_drop_of (P := Try.prog) (Value.int .i64) 0 22 2 .i64 Try.underlying22 hi08 hsz8 A0 c0 l0 (ji4) (of_decide_eq_true (by first | (with_reducible assumption) | assumption)) (of_decide_eq_true (by first | (with_reducible assumption) | assumption)) HC0.out; have HR322 := mk0 (Kd.C_of_reads (h1 := fun _ => rfl) (hA8 _ (Kd.reads_of_C HR0.out))); have HC322 := Aside0.mk hC8; clear hA8 hC8 hi08 hsz8) | ((with_reducible refine gate_callee (f := 100) rfl ?_); refine goesL_ (some 18) rfl rfl Try.func100 (by kernel_rfl) rfl #[.slice A8 (l0.drop ((ji4) : Int).toNat).length (c0 - (ji4).toNat), .int .i64 a1] rfl (by (try simp only [List.map_toArray, List.map_cons, List.map_nil]); first | done | (rw [show (l0.drop ((ji4) : Int).toNat).length = (l0.length - (ji4).toNat) from List.length_drop] <;> rfl) | (simp only [hji4]; rfl) | rfl | (simp only [List.length_drop, List.length_take]; rfl)) ?_; (with_reducible refine (slices_Index_int64_int64.calls k _ _ (l0.drop ((ji4) : Int).toNat) a1 t323 _ ?side1 ?side2 A7.out).mono ?_); (case side1 => exact HR322.out); (case side2 => exact HC322.out); rintro e w' ⟨rfl, ⟨nd, rfl⟩⟩; refine ⟨_, rfl, ?_⟩))
      go_ret2
      exact ⟨by first | rfl | (simp; done) | (simp only [← hji4] <;> (first | rfl | simp)) | (simp [*]; done), by repeat (first | exact Drawn0.refl _ | apply Drawn0.step)⟩
    · rw [if_neg c6] at H
      exact absurd H (by simp)
  · rw [if_neg c5] at H
    exact absurd H (by simp)
/-! ### impl_beside: function 73 -/
def impl_beside.f (a0 : Int) (a1 : Int) : Option (Bool) := if (wrap64 (a0 - a1)) = 1 then (some true) else (some ((wrap64 (a1 - a0)) == 1))
set_option maxHeartbeats 8000000 in
set_option maxRecDepth 100000 in
theorem impl_beside.calls (a0 : Int) (a1 : Int) (r : Bool) (w : World) (h : impl_beside.f a0 a1 = some r) :
    Calls Try.prog 73 #[.int .i64 a0, .int .i64 a1] w fun e w' => e = .returned (.bool r) ∧ Drawn0 w w' := by
  have H : (if (wrap64 (a0 - a1)) = 1 then (some true) else (some ((wrap64 (a1 - a0)) == 1))) = some r := h
  clear h
  by_cases c3 : (wrap64 (a0 - a1)) = 1
  · rw [if_pos c3] at H
    have c3b0 : ((wrap64 (a0 - a1)) == 1) = true := beq_iff_eq.mpr c3
    have c3b1 : ((wrap64 (a0 - a1)) != 1) = false := bne_eq_false_iff_eq.mpr c3
    clear c3
    obtain rfl := Option.some.inj H
    go_enter Try.func73, Try.ntmps73
    go_wp2
    go_ret
    exact ⟨by first | rfl | (simp; done) | (simp [*]; done), by repeat (first | exact Drawn0.refl _ | apply Drawn0.step)⟩
  · rw [if_neg c3] at H
    have c3b0 : ((wrap64 (a0 - a1)) == 1) = false := beq_eq_false_iff_ne.mpr c3
    have c3b1 : ((wrap64 (a0 - a1)) != 1) = true := bne_iff_ne.mpr c3
    obtain rfl := Option.some.inj H
    go_enter Try.func73, Try.ntmps73
    go_wp2
    go_ret
    exact ⟨by first | rfl | (simp; done) | (simp [*]; done), by repeat (first | exact Drawn0.refl _ | apply Drawn0.step)⟩
end Go.Proofs.Ytihfncjpfgdhoaa.PA
end
