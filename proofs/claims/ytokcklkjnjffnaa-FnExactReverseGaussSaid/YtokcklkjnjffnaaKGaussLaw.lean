/- Plain law: what a Gauss word is, and its renumbering, told by the reference and by the program alike. Conditions: numbers of 64 bits; in each. -/
import Derived.Test.YtokcklkjnjffnaaKWordLaw
import Derived.Test.YtokcklkjnjffnaaKGauss
import Derived.Test.YtokcklkjnjffnaaKTurned
import Derived.Test.YtokcklkjnjffnaaKRenum
import Derived.Test.YtokcklkjnjffnaaPAx0
import Derived.Test.YtokcklkjnjffnaaPAx1
import Derived.Test.YtokcklkjnjffnaaPAx10
import Derived.Test.YtokcklkjnjffnaaPAx4
import Derived.Test.YtokcklkjnjffnaaPAx5
import Derived.Test.YtokcklkjnjffnaaPAx6
import Derived.Test.YtokcklkjnjffnaaPAx7
import Derived.Test.YtokcklkjnjffnaaPAx8
import Derived.Test.YtokcklkjnjffnaaPEx0
import Derived.Test.YtokcklkjnjffnaaPEx1
import Derived.Test.YtokcklkjnjffnaaPEx2
set_option linter.unusedVariables false
set_option linter.unusedSimpArgs false
namespace Go.Proofs.Ytokcklkjnjffnaa.K
open Go.RowKit Go.Proofs.YtokcklkjnjffnaaW.PrintWords Go.Proofs.YtokcklkjnjffnaaW.PrintLast Go.Proofs.YtokcklkjnjffnaaW.PrintMore Go.Proofs.Ytokcklkjnjffnaa.PA Go.Proofs.Ytokcklkjnjffnaa.PE

/-! ### Gauss words -/
def isGaussL (w h s : List Int) : Bool := isWordL w && (decide (h.length = w.length / 2) && (decide (s.length = w.length / 2) && (h.all isHeadB && s.all isSignB)))
theorem inB_l01In (x a b : Int) : spec_l01In.f x a b = some (inB x a b) := by
  unfold spec_l01In.f inB
  by_cases h : x ≥ a
  · rw [if_pos h]; simp [show a ≤ x from h]
  · rw [if_neg h]; simp [show ¬ a ≤ x from h]
theorem specGauss_l0 (w h s : List Int) (n : Nat) (hh : h.length = n) (hs : s.length = n) (hn : n ≤ 4096) (d : Nat) : ∀ i : Nat, n - i = d → i ≤ n → ∃ k, spec_l07Is.l0 k n i w h s = some ((h.drop i).all isHeadB && (s.drop i).all isSignB) := by
  induction d with
  | zero =>
    intro i hd hi
    refine ⟨1, ?_⟩
    simp only [spec_l07Is.l0]
    rw [if_neg (by omega), List.drop_of_length_le (by omega), List.drop_of_length_le (by omega)]
    rfl
  | succ d ih =>
    intro i hd hi
    obtain ⟨k, hk⟩ := ih (i + 1) (by omega) (by omega)
    refine ⟨k + 1, ?_⟩
    simp only [spec_l07Is.l0]
    rw [if_pos (by omega), if_pos (by omega), if_pos (by omega), inB_l01In, drop_at h i (by omega), drop_at s i (by omega), List.all_cons, List.all_cons, wrap_id (by omega) (by omega)]
    simp only [Option.bind_some]
    by_cases h1 : inB (rd h i) 0 1 = true
    · have h1' : isHeadB (rd h i) = true := h1
      rw [if_pos h1, if_pos (by omega), h1']
      by_cases h2 : rd s i = 1
      · have h2' : isSignB (rd s i) = true := by unfold isSignB; rw [h2]; rfl
        rw [if_pos h2, h2', show ((i : Int) + 1) = ((i + 1 : Nat) : Int) by omega, hk]
        simp
      · rw [if_neg h2]
        by_cases h3 : rd s i = -1
        · have h2' : isSignB (rd s i) = true := by unfold isSignB; rw [h3]; rfl
          rw [if_pos h3, h2', show ((i : Int) + 1) = ((i + 1 : Nat) : Int) by omega, hk]
          simp
        · have h2' : isSignB (rd s i) = false := by unfold isSignB; simp [h2, h3]
          rw [if_neg h3, h2']
          simp
    · have h1' : isHeadB (rd h i) = false := Bool.eq_false_iff.mpr h1
      rw [if_neg h1, h1']
      simp
theorem ev_specGauss (w h s : List Int) (hhl : h.length ≤ 281474976710656) (hsl : s.length ≤ 281474976710656) : Ev (fun k => spec_l07Is.f k w h s) (isGaussL w h s) := by
  unfold spec_l07Is.f isGaussL
  refine Ev.bind (ev_specIs w) ?_
  have hno : ∀ (x3 : Int), Ev (fun k => spec_l07Is.j0 k x3 true w h s) false := fun x3 => Ev.step (fun n => by rw [spec_l07Is.j0]) (ev_pos rfl (ev_some _))
  refine ev_if (fun hw => ?_) (fun hw => ?_)
  · have h12 : w.length ≤ 12 := by
      unfold isWordL at hw
      simp only [Bool.and_eq_true, decide_eq_true_eq] at hw
      exact hw.1
    have hc : ((w.length : Int) / 2) = ((w.length / 2 : Nat) : Int) := by omega
    rw [hw, Bool.true_and, hc, wrap_id (by omega) (by omega)]
    refine ev_if (fun h1 => ?_) (fun h1 => ?_)
    · rw [show decide (h.length = w.length / 2) = true from decide_eq_true (by omega), Bool.true_and]
      refine Ev.step (fun n => by rw [spec_l07Is.j0]) ?_
      refine ev_if (fun h2 => ?_) (fun h2 => ?_)
      · have : (s.length : Int) ≠ ((w.length / 2 : Nat) : Int) := by simpa using h2
        rw [show decide (s.length = w.length / 2) = false from decide_eq_false (by omega)]
        exact ev_some _
      · have : (s.length : Int) = ((w.length / 2 : Nat) : Int) := by simpa using h2
        rw [show decide (s.length = w.length / 2) = true from decide_eq_true (by omega), Bool.true_and]
        obtain ⟨k, hk⟩ := specGauss_l0 w h s (w.length / 2) (by omega) (by omega) (by omega) (w.length / 2) 0 (by omega) (by omega)
        exact ev_of (fun k => (spec_l07Is.mono_l k).2 _ _ _ _ _) ⟨k, by simpa using hk⟩
    · rw [show decide (h.length = w.length / 2) = false from decide_eq_false (by omega), Bool.false_and]
      exact hno _
  · rw [Bool.eq_false_iff.mpr hw, Bool.false_and]
    exact hno _
theorem all_not_any (l : List Int) (p : Int → Bool) : (!l.any fun x => !p x) = l.all p := by
  induction l with
  | nil => rfl
  | cons x r ih => simp only [List.any_cons, List.all_cons, Bool.not_or, Bool.not_not, ih]
theorem ev_isGauss (w h s : List Int) (h64 : Ok64 w) : Ev (fun k => impl_IsGauss.f k w h s) (isGaussL w h s) := by
  unfold impl_IsGauss.f isGaussL
  refine Ev.bind (ev_isWord w h64) ?_
  have hno : Ev (fun k => impl_IsGauss.j0 k true w h s) false := Ev.step (fun n => by rw [impl_IsGauss.j0]) (ev_pos rfl (ev_some _))
  refine ev_if (fun hw => ?_) (fun hw => ?_)
  · have h12 : w.length ≤ 12 := by
      unfold isWordL at hw
      simp only [Bool.and_eq_true, decide_eq_true_eq] at hw
      exact hw.1
    have hc : ((w.length : Int) / 2) = ((w.length / 2 : Nat) : Int) := by omega
    have hch : impl_chords.f w = some ((w.length / 2 : Nat) : Int) := by
      unfold impl_chords.f
      rw [hc, wrap_id (by omega) (by omega)]
    rw [hw, Bool.true_and]
    refine ev_const hch ?_
    refine ev_if (fun h1 => ?_) (fun h1 => ?_)
    · rw [show decide (h.length = w.length / 2) = true from decide_eq_true (by omega), Bool.true_and]
      refine ev_const hch ?_
      refine Ev.step (fun n => by rw [impl_IsGauss.j0]) ?_
      refine ev_if (fun h2 => ?_) (fun h2 => ?_)
      · have : (s.length : Int) ≠ ((w.length / 2 : Nat) : Int) := by simpa using h2
        rw [show decide (s.length = w.length / 2) = false from decide_eq_false (by omega)]
        exact ev_some _
      · have : (s.length : Int) = ((w.length / 2 : Nat) : Int) := by simpa using h2
        rw [show decide (s.length = w.length / 2) = true from decide_eq_true (by omega), Bool.true_and, ← all_not_any h, ← all_not_any s]
        refine ev_const (show anyNoHead.f h = some _ from rfl) ?_
        refine ev_if (fun h3 => ?_) (fun h3 => ?_)
        · rw [h3]; exact ev_some _
        · rw [Bool.eq_false_iff.mpr h3]
          exact ev_const (show anyNoSign.f s = some _ from rfl) (ev_some _)
    · rw [show decide (h.length = w.length / 2) = false from decide_eq_false (by omega), Bool.false_and]
      exact hno
  · rw [Bool.eq_false_iff.mpr hw, Bool.false_and]
    exact hno

/-! ### the order of the numbers met, the renumbering -/
theorem order_l1 (l met : List Int) (i : Nat) (hi : i < l.length) (hl : l.length ≤ 4096) (hm : met.length ≤ l.length) (r : List Int)
    (h1 : rd l i ∈ met → ∃ n, spec_l07Order.l0 n l met ((i : Int) + 1) = some r) (h2 : rd l i ∉ met → ∃ n, spec_l07Order.l0 n l (met ++ [rd l i]) ((i : Int) + 1) = some r) (d : Nat) :
    ∀ j : Nat, met.length - j = d → j ≤ met.length → ∃ n, spec_l07Order.l1 n l met i (decide (rd l i ∈ met.take j)) j = some r := by
  induction d with
  | zero =>
    intro j hd hj
    rw [List.take_of_length_le (by omega)]
    by_cases h : rd l i ∈ met
    · obtain ⟨n, hn⟩ := h1 h
      refine ⟨n + 1, ?_⟩
      simp only [spec_l07Order.l1]
      rw [if_neg (by omega), if_pos (decide_eq_true h), wrap_id (by omega) (by omega)]
      exact hn
    · obtain ⟨n, hn⟩ := h2 h
      refine ⟨n + 1, ?_⟩
      simp only [spec_l07Order.l1]
      rw [if_neg (by omega), if_neg (by simpa using h), if_pos (by omega), if_pos (by omega), if_pos (by omega), wrap_id (by omega) (by omega)]
      exact hn
  | succ d ih =>
    intro j hd hj
    obtain ⟨n, hn⟩ := ih (j + 1) (by omega) (by omega)
    refine ⟨n + 1, ?_⟩
    rw [take_snoc met j (by omega)] at hn
    simp only [spec_l07Order.l1]
    rw [if_pos (by omega), wrap_id (by omega) (by omega)]
    by_cases h : rd l i ∈ met.take j
    · rw [if_pos (decide_eq_true h), show ((j : Int) + 1) = ((j + 1 : Nat) : Int) by omega, ← hn]
      congr 1
      simp [h]
    · rw [if_neg (by simpa using h), if_pos (by omega), if_pos (by omega), if_pos (by omega), show ((j : Int) + 1) = ((j + 1 : Nat) : Int) by omega, ← hn]
      congr 1
      by_cases e : rd met j = rd l i
      · rw [e]; simp
      · have e2 : ¬ rd l i = rd met j := fun h => e h.symm
        simp [e, e2, h]
theorem order_l0 (l : List Int) (hl : l.length ≤ 4096) (d : Nat) : ∀ (met : List Int) (i : Nat), l.length - i = d → i ≤ l.length → met.length ≤ i → ∃ n, spec_l07Order.l0 n l met i = some (metBy met (l.drop i)) := by
  induction d with
  | zero =>
    intro met i hd hi hm
    refine ⟨1, ?_⟩
    simp only [spec_l07Order.l0]
    rw [if_neg (by omega), List.drop_of_length_le (by omega)]
    rfl
  | succ d ih =>
    intro met i hd hi hm
    have hlt : i < l.length := by omega
    have e : metBy met (l.drop i) = metBy (if rd l i ∈ met then met else met ++ [rd l i]) (l.drop (i + 1)) := by
      rw [drop_at l i hlt, ← List.singleton_append, metBy_append, metBy_one]
    obtain ⟨n, hn⟩ := order_l1 l met i hlt hl (by omega) (metBy met (l.drop i)) (fun h => by
        rw [e, if_pos h]
        exact ih met (i + 1) (by omega) (by omega) (by omega)) (fun h => by
        rw [e, if_neg h]
        exact ih (met ++ [rd l i]) (i + 1) (by omega) (by omega) (by simp; omega)) met.length 0 (by omega) (by omega)
    refine ⟨n + 1, ?_⟩
    simp only [spec_l07Order.l0]
    rw [if_pos (by omega)]
    simpa using hn
theorem ev_order (l : List Int) (hl : l.length ≤ 4096) : Ev (fun k => spec_l07Order.f k l) (metBy [] l) := by
  refine ev_of (fun k => spec_l07Order.mono _ _) ?_
  obtain ⟨n, hn⟩ := order_l0 l hl l.length [] 0 (by omega) (by omega) (by simp)
  exact ⟨n, by simpa [spec_l07Order.f] using hn⟩
theorem metBy_mem (l : List Int) : ∀ met, ∀ x ∈ metBy met l, x ∈ met ∨ x ∈ l := by
  induction l with
  | nil => intro met x hx; exact Or.inl hx
  | cons y r ih =>
    intro met x hx
    rw [← List.singleton_append, metBy_append, metBy_one] at hx
    rcases ih _ x hx with h | h
    · split at h
      · exact Or.inl h
      · rcases List.mem_append.mp h with h | h
        · exact Or.inl h
        · exact Or.inr (by simp at h; simp [h])
    · exact Or.inr (List.mem_cons_of_mem _ h)
theorem l07Normal_l0 (hs ss ord N : List Int) (hlen : ord.length ≤ 4096) (hin : ∀ x ∈ ord, 0 ≤ x ∧ x < hs.length ∧ x < ss.length) (d : Nat) : ∀ (i : Nat) (H S : List Int), ord.length - i = d → i ≤ ord.length → H.length = i → S.length = i →
    ∃ n, spec_l07Normal.l0 n hs ss ord i N H S = some (N, H ++ (ord.drop i).map (fun x => rd hs x), S ++ (ord.drop i).map (fun x => rd ss x)) := by
  induction d with
  | zero =>
    intro i H S hd hi hH hS
    refine ⟨1, ?_⟩
    simp only [spec_l07Normal.l0]
    rw [if_neg (by omega), List.drop_of_length_le (by omega)]
    simp
  | succ d ih =>
    intro i H S hd hi hH hS
    have hlt : i < ord.length := by omega
    obtain ⟨h0, h1, h2⟩ := hin _ (rd_mem ord i hlt)
    obtain ⟨n, hn⟩ := ih (i + 1) (H ++ [rd hs (rd ord i)]) (S ++ [rd ss (rd ord i)]) (by omega) (by omega) (by simp; omega) (by simp; omega)
    refine ⟨n + 1, ?_⟩
    simp only [spec_l07Normal.l0]
    rw [if_pos (by omega), if_pos (by omega), if_pos h0, if_pos h1, if_pos (by omega), if_pos h2, if_pos (by omega), wrap_id (by omega) (by omega), drop_at ord i hlt]
    simpa using hn
theorem ev_l07Normal (l hs ss : List Int) (hl : l.length ≤ 4096) (hin : ∀ x ∈ l, 0 ≤ x ∧ x < hs.length ∧ x < ss.length) : Ev (fun k => spec_l07Normal.f k l hs ss) (normalL l, firsts l hs, firsts l ss) := by
  unfold spec_l07Normal.f
  refine Ev.bind (ev_order l hl) (Ev.bind (ev_specNormal l hl) ?_)
  have hml := metBy_length l []
  obtain ⟨n, hn⟩ := l07Normal_l0 hs ss (metBy [] l) (normalL l) (by simp at hml; omega) (fun x hx => hin x (by
    rcases metBy_mem l [] x hx with h | h
    · simp at h
    · exact h)) (metBy [] l).length 0 [] [] (by omega) (by omega) rfl rfl
  refine ev_of (fun k => spec_l07Normal.mono_l k _ _ _ _ _ _ _) ⟨n, ?_⟩
  simpa [firsts] using hn

/-! ### reverse, turned -/
theorem back_l0 (l : List Int) (hl : l.length ≤ 4096) : ∀ (j : Nat) (out : List Int), j ≤ l.length → out.length + j = l.length → ∃ n, spec_l01Back.l0 n l out ((j : Int) - 1) = some (out ++ (l.take j).reverse) := by
  intro j
  induction j with
  | zero =>
    intro out hj ho
    refine ⟨1, ?_⟩
    simp only [spec_l01Back.l0]
    rw [if_neg (by omega)]
    simp
  | succ j ih =>
    intro out hj ho
    obtain ⟨n, hn⟩ := ih (out ++ [rd l j]) (by omega) (by simp; omega)
    refine ⟨n + 1, ?_⟩
    rw [show (((j + 1 : Nat) : Int) - 1) = (j : Int) by omega]
    simp only [spec_l01Back.l0]
    rw [if_pos (by omega), if_pos (by omega), if_pos (by omega), if_pos (by omega), wrap_id (by omega) (by omega), take_snoc l j (by omega), List.reverse_append]
    simpa using hn
theorem ev_back (l : List Int) (hl : l.length ≤ 4096) : Ev (fun k => spec_l01Back.f k l) l.reverse := by
  refine ev_of (fun k => spec_l01Back.mono _ _) ?_
  obtain ⟨n, hn⟩ := back_l0 l hl l.length [] (by omega) (by simp)
  refine ⟨n, ?_⟩
  unfold spec_l01Back.f
  rw [wrap_id (by omega) (by omega)]
  simpa using hn
theorem turnL_drop (l : List Int) : turnL (fun _ => true) l = l.map fun x => wrap64 (1 - x) := by
  refine List.ext_getElem (by simp [turnL]) fun i h1 h2 => ?_
  simp [turnL]
theorem turned_l0 (l : List Int) (hl : l.length ≤ 4096) (d : Nat) : ∀ (i : Nat) (out : List Int), l.length - i = d → i ≤ l.length → out.length = i → ∃ n, spec_l07Turned.l0 n l out i = some (out ++ (l.drop i).map fun x => wrap64 (1 - x)) := by
  induction d with
  | zero =>
    intro i out hd hi ho
    refine ⟨1, ?_⟩
    simp only [spec_l07Turned.l0]
    rw [if_neg (by omega), List.drop_of_length_le (by omega)]
    simp
  | succ d ih =>
    intro i out hd hi ho
    obtain ⟨n, hn⟩ := ih (i + 1) (out ++ [wrap64 (1 - rd l i)]) (by omega) (by omega) (by simp; omega)
    refine ⟨n + 1, ?_⟩
    simp only [spec_l07Turned.l0]
    rw [if_pos (by omega), if_pos (by omega), if_pos (by omega), wrap_id (x := (i : Int) + 1) (by omega) (by omega), drop_at l i (by omega)]
    simpa using hn
theorem ev_turned (l : List Int) (hl : l.length ≤ 4096) : Ev (fun k => spec_l07Turned.f k l) (turnL (fun _ => true) l) := by
  refine ev_of (fun k => spec_l07Turned.mono _ _) ?_
  obtain ⟨n, hn⟩ := turned_l0 l hl l.length 0 [] (by omega) (by omega) rfl
  refine ⟨n, ?_⟩
  rw [turnL_drop]
  simpa [spec_l07Turned.f] using hn
/-- Go's exchange from both ends: the middle is reversed. -/
theorem reverse_l0 (d : Nat) : ∀ (a m b : List Int), m.length ≤ d → a.length = b.length → (a ++ m ++ b).length ≤ 4096 → ∃ n, slices_Reverse_int64_int64.l0 n (a ++ m ++ b) (a.length : Int) ((a.length : Int) + m.length - 1) = some (a ++ m.reverse ++ b) := by
  induction d using Nat.strongRecOn with
  | _ d ih =>
    intro a m b hd hab hl
    match m with
    | [] =>
      refine ⟨1, ?_⟩
      simp only [slices_Reverse_int64_int64.l0]
      rw [if_neg (by simp; omega)]
      simp
    | [x] =>
      refine ⟨1, ?_⟩
      simp only [slices_Reverse_int64_int64.l0]
      rw [if_neg (by simp)]
      simp
    | x :: y :: t =>
      obtain ⟨u, z, hu⟩ : ∃ u z, y :: t = u ++ [z] := ⟨(y :: t).dropLast, (y :: t).getLast (by simp), (List.dropLast_concat_getLast (by simp)).symm⟩
      rw [hu] at hd hl ⊢
      have hl2 : a.length + (u.length + 2) + b.length ≤ 4096 := by simpa [Nat.add_comm, Nat.add_left_comm, Nat.add_assoc] using hl
      obtain ⟨n, hn⟩ := ih u.length (by simp at hd; omega) (a ++ [z]) u (x :: b) (Nat.le_refl _) (by simp; omega) (by simp; omega)
      refine ⟨n + 1, ?_⟩
      have hlen : (a ++ x :: (u ++ [z]) ++ b).length = a.length + (u.length + 2) + b.length := by simp; omega
      have ra : rd (a ++ x :: (u ++ [z]) ++ b) (a.length : Int) = x := by
        unfold rd
        rw [Int.toNat_natCast, List.getD_eq_getElem?_getD]
        simp
      have rz : rd (a ++ x :: (u ++ [z]) ++ b) ((a.length : Int) + ((x :: (u ++ [z])).length : Int) - 1) = z := by
        unfold rd
        rw [show ((a.length : Int) + ((x :: (u ++ [z])).length : Int) - 1).toNat = a.length + (u.length + 1) by simp; omega, List.getD_eq_getElem?_getD, List.append_assoc, List.getElem?_append_right (by omega), Nat.add_sub_cancel_left]
        simp
      simp only [slices_Reverse_int64_int64.l0]
      rw [if_pos (by simp; omega), if_pos (by simp; omega), if_pos (by rw [hlen]; simp; omega), if_pos (by omega), if_pos (by rw [hlen]; omega), ra, rz, wrap_id (by omega) (by omega), wrap_id (by simp; omega) (by simp; omega)]
      have e : ((a ++ x :: (u ++ [z]) ++ b).set ((a.length : Int)).toNat z).set ((a.length : Int) + ((x :: (u ++ [z])).length : Int) - 1).toNat x = (a ++ [z]) ++ u ++ (x :: b) := by
        rw [Int.toNat_natCast, show ((a.length : Int) + ((x :: (u ++ [z])).length : Int) - 1).toNat = a.length + (u.length + 1) by simp; omega]
        have e1 : (a ++ x :: (u ++ [z]) ++ b).set a.length z = a ++ (z :: (u ++ ([z] ++ b))) := by
          simp [List.set_append]
        rw [e1, List.set_append_right _ _ (by omega), Nat.add_sub_cancel_left, List.set_cons_succ, List.set_append_right _ _ (by omega), Nat.sub_self]
        simp
      rw [e]
      have hn2 : slices_Reverse_int64_int64.l0 n (a ++ [z] ++ u ++ x :: b) ((a.length : Int) + 1) ((a.length : Int) + ((x :: (u ++ [z])).length : Int) - 1 - 1) = some (a ++ [z] ++ u.reverse ++ x :: b) := by
        have h1 : ((a ++ [z]).length : Int) = (a.length : Int) + 1 := by simp
        rw [h1] at hn
        rw [show (a.length : Int) + ((x :: (u ++ [z])).length : Int) - 1 - 1 = (a.length : Int) + 1 + (u.length : Int) - 1 by simp; omega]
        exact hn
      rw [hn2]
      simp
theorem ev_reversed (l : List Int) (hl : l.length ≤ 4096) : Ev (fun k => impl_reversed.f k l) l.reverse := by
  unfold impl_reversed.f
  refine ev_const (show slices_Clone_int64_int64.f l = some l by unfold slices_Clone_int64_int64.f; rw [if_pos (by omega)]) ?_
  refine Ev.bind (a := l.reverse) ?_ (ev_some _)
  refine ev_of (fun k => slices_Reverse_int64_int64.mono _ _) ?_
  obtain ⟨n, hn⟩ := reverse_l0 l.length [] l [] (Nat.le_refl _) rfl (by simpa using hl)
  refine ⟨n, ?_⟩
  unfold slices_Reverse_int64_int64.f
  rw [wrap_id (by omega) (by omega)]
  simpa using hn

/-! ### ReverseGauss -/
theorem gauss_parts {w h s : List Int} (hg : isGaussL w h s = true) : isWordL w = true ∧ h.length = w.length / 2 ∧ s.length = w.length / 2 := by
  unfold isGaussL at hg
  simp only [Bool.and_eq_true, decide_eq_true_eq] at hg
  exact ⟨hg.1, hg.2.1, hg.2.2.1⟩
theorem word_range {w : List Int} (hw : isWordL w = true) : w.length ≤ 12 ∧ ∀ x ∈ w, 0 ≤ x ∧ x < ((w.length / 2 : Nat) : Int) := by
  unfold isWordL at hw
  simp only [Bool.and_eq_true, decide_eq_true_eq] at hw
  obtain ⟨h12, ht, hn⟩ := hw
  have hN : normFrom [] w = w := hn
  have hr : ∀ y ∈ w, 0 ≤ y ∧ y < ((metBy [] w).length : Int) := by
    intro y hy
    exact normFrom_range w [] y (by rw [hN]; exact hy)
  have hc : ∀ i : Nat, i < (metBy [] w).length → w.count (i : Int) = 2 := by
    intro i hi
    have h5 := normFrom_onto w [] i (by simp) hi
    rw [hN] at h5
    have := List.all_eq_true.mp ht _ h5
    simpa using this
  have := length_of_counts _ w hr hc
  refine ⟨h12, fun x hx => ?_⟩
  have := hr x hx
  omega
theorem firsts_length_le (l hs : List Int) : (firsts l hs).length ≤ l.length := by
  unfold firsts
  rw [List.length_map]
  simpa using metBy_length l []
theorem reverse_eq (w h s : List Int) (h64 : Ok64 w) (hhl : h.length ≤ 1048576) (hsl : s.length ≤ 1048576) : ∃ (a b c : List Int) (d : Int), a.length ≤ 12 ∧ b.length ≤ 12 ∧ c.length ≤ 12 ∧ Ev (fun k => spec_ReverseGauss.f k w h s) (a, b, c, d) ∧ Ev (fun k => impl_ReverseGauss.f k w h s) (a, b, c, d) := by
  cases hg : isGaussL w h s with
  | false =>
    refine ⟨[], [], [], 1, by simp, by simp, by simp, ?_, ?_⟩
    · unfold spec_ReverseGauss.f
      exact Ev.bind (ev_specGauss w h s (by omega) (by omega)) (ev_neg (by simp [hg]) (ev_some _))
    · unfold impl_ReverseGauss.f
      exact Ev.bind (ev_isGauss w h s h64) (ev_neg (by simp [hg]) (ev_some _))
  | true =>
    obtain ⟨hw, hh, hs⟩ := gauss_parts hg
    obtain ⟨h12, hr⟩ := word_range hw
    have hin : ∀ x ∈ w.reverse, 0 ≤ x ∧ x < ((turnL (fun _ => true) h).length : Int) ∧ x < (s.length : Int) := fun x hx => by
      have := hr x (by simpa using hx)
      rw [show (turnL (fun _ => true) h).length = h.length by simp [turnL]]
      omega
    have h64r : Ok64 w.reverse := fun x hx => h64 x (by simpa using hx)
    have f1 := firsts_length_le w.reverse (turnL (fun _ => true) h)
    have f2 := firsts_length_le w.reverse s
    rw [List.length_reverse] at f1 f2
    refine ⟨normalL w.reverse, firsts w.reverse (turnL (fun _ => true) h), firsts w.reverse s, 0, by rw [normalL_length, List.length_reverse]; exact h12, by omega, by omega, ?_, ?_⟩
    · unfold spec_ReverseGauss.f
      exact Ev.bind (ev_specGauss w h s (by omega) (by omega)) (ev_pos hg (Ev.bind (ev_back w (by omega)) (Ev.bind (ev_turned h (by omega)) (Ev.bind (ev_l07Normal _ _ _ (by rw [List.length_reverse]; omega) hin) (ev_some _)))))
    · unfold impl_ReverseGauss.f
      refine Ev.bind (ev_isGauss w h s h64) (ev_pos hg (Ev.bind (ev_reversed w (by omega)) (ev_const (show turnedAll.f h = some _ by unfold turnedAll.f; rw [if_pos (by omega)]) (ev_const (show impl_renumbered.f w.reverse (turnL (fun _ => true) h) s = some _ by unfold impl_renumbered.f; rw [if_pos ⟨by rw [List.length_reverse]; omega, h64r, hin⟩]) (ev_some _)))))
end Go.Proofs.Ytokcklkjnjffnaa.K
