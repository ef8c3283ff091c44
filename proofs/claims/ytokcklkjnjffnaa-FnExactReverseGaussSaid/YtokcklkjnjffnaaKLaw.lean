/- Plain laws: copying, comparing, marking a list of numbers, as the laws' own helpers do it. Conditions: lists of at most 2^40 elements. -/
import Derived.Test.YtokcklkjnjffnaaKEv
import Derived.Test.YtokcklkjnjffnaaPAx0
import Derived.Test.YtokcklkjnjffnaaPAx11
import Derived.Test.YtokcklkjnjffnaaPAx12
import Derived.Test.YtokcklkjnjffnaaPAx9
set_option linter.unusedVariables false
set_option linter.unusedSimpArgs false
namespace Go.Proofs.Ytokcklkjnjffnaa.K
open Go.RowKit Go.Proofs.YtokcklkjnjffnaaW.PrintWords Go.Proofs.YtokcklkjnjffnaaW.PrintLast Go.Proofs.YtokcklkjnjffnaaW.PrintMore Go.Proofs.Ytokcklkjnjffnaa.PA

theorem toInt_l0 (l : List Int) (hl : l.length < 1099511627776) (d : Nat) : ∀ (out : List Int) (i : Nat), l.length - i = d → out.length = l.length → i ≤ l.length → out.take i = l.take i →
    ∃ n, laws_toInt64S.l0 n l out i = some l := by
  induction d with
  | zero =>
    intro out i hd ho hi ht
    refine ⟨1, ?_⟩
    simp only [laws_toInt64S.l0]
    rw [if_neg (by omega)]
    rw [List.take_of_length_le (by omega), List.take_of_length_le (by omega)] at ht
    rw [ht]
  | succ d ih =>
    intro out i hd ho hi ht
    have hlt : i < l.length := by omega
    obtain ⟨n, hn⟩ := ih (out.set i (rd l i)) (i + 1) (by omega) (by simpa using ho) (by omega) (by
      have e : rd l i = l[i] := by unfold rd; rw [Int.toNat_natCast, List.getD_eq_getElem?_getD, List.getElem?_eq_getElem hlt]; rfl
      have ho2 : i < out.length := by omega
      rw [List.take_succ_eq_append_getElem (by simpa using ho2), List.take_succ_eq_append_getElem hlt, ← ht, List.take_set_of_le (Nat.le_refl _), e]
      simp)
    refine ⟨n + 1, ?_⟩
    simp only [laws_toInt64S.l0]
    rw [if_pos (by omega), if_pos (by omega), if_pos (by omega), wrap_id (by omega) (by omega), Int.toNat_natCast]
    exact hn
theorem ev_toInt (l : List Int) (hl : l.length ≤ 1048576) : Ev (fun k => laws_toInt64S.f k l) l := by
  refine ev_of (fun k => laws_toInt64S.mono _ _) ?_
  obtain ⟨n, hn⟩ := toInt_l0 l (by omega) l.length (List.replicate l.length 0) 0 (by omega) (by simp) (by omega) rfl
  refine ⟨n, ?_⟩
  unfold laws_toInt64S.f
  rw [if_pos (by omega), if_pos (by omega), Int.toNat_natCast]
  exact hn

theorem eqInt_l0 (a b : List Int) (hl : a.length < 1099511627776) (hab : a.length = b.length) (d : Nat) : ∀ (i : Nat), a.length - i = d → i ≤ a.length →
    ∃ n, laws_eqInt64S.l0 n a b i = some (decide (a.drop i = b.drop i)) := by
  induction d with
  | zero =>
    intro i hd hi
    refine ⟨1, ?_⟩
    simp only [laws_eqInt64S.l0]
    rw [if_neg (by omega), List.drop_of_length_le (by omega), List.drop_of_length_le (by omega)]
    rfl
  | succ d ih =>
    intro i hd hi
    have hlt : i < a.length := by omega
    have hlt2 : i < b.length := by omega
    obtain ⟨n, hn⟩ := ih (i + 1) (by omega) (by omega)
    refine ⟨n + 1, ?_⟩
    simp only [laws_eqInt64S.l0]
    rw [if_pos (by omega), if_pos (by omega), if_pos (by omega), wrap_id (by omega) (by omega), drop_at a i hlt, drop_at b i hlt2]
    by_cases h : rd a i = rd b i
    · rw [if_pos h]
      refine (show laws_eqInt64S.l0 n a b ((i : Int) + 1) = _ from hn).trans ?_
      simp [h]
    · rw [if_neg h]
      simp [h]
theorem ev_eqInt (a b : List Int) (hl : a.length < 1099511627776) : Ev (fun k => laws_eqInt64S.f k a b) (decide (a = b)) := by
  refine ev_of (fun k => laws_eqInt64S.mono _ _ _) ?_
  by_cases h : a.length = b.length
  · obtain ⟨n, hn⟩ := eqInt_l0 a b hl h a.length 0 (by omega) (by omega)
    refine ⟨n, ?_⟩
    unfold laws_eqInt64S.f
    rw [if_pos (by omega)]
    exact hn
  · refine ⟨0, ?_⟩
    unfold laws_eqInt64S.f
    rw [if_neg (by omega)]
    have : ¬ a = b := fun e => h (by rw [e])
    simp [this]

/-- n numbers from k on. -/
def upL : Nat → Int → List Int
  | 0, _ => []
  | n + 1, k => k :: upL n (k + 1)
theorem upL_length (n : Nat) : ∀ k, (upL n k).length = n := by
  induction n with
  | zero => intro k; rfl
  | succ n ih => intro k; simp [upL, ih]
theorem upL_get (n : Nat) : ∀ (k : Int) (i : Nat), i < n → rd (upL n k) i = k + i := by
  induction n with
  | zero => intro k i h; omega
  | succ n ih =>
    intro k i h
    match i with
    | 0 => simp [upL, rd]
    | j + 1 =>
      have := ih (k + 1) j (by omega)
      unfold rd at this ⊢
      simp only [Int.toNat_natCast] at this ⊢
      simp only [upL, List.getD_cons_succ]
      rw [this]
      omega
theorem mark_l0 (m : Nat) (k0 : Int) (h0 : 0 ≤ k0) (h1 : k0 + m < 1099511627776) (d : Nat) : ∀ (l : List Int) (i : Nat), l.length = m → m - i = d → i ≤ m → l.take i = (upL m k0).take i →
    ∃ n, laws_markInt64S.l0 n l (k0 + i) i = some (k0 + m, upL m k0) := by
  induction d with
  | zero =>
    intro l i hl hd hi ht
    refine ⟨1, ?_⟩
    simp only [laws_markInt64S.l0]
    rw [if_neg (by omega)]
    rw [List.take_of_length_le (by omega), List.take_of_length_le (by rw [upL_length]; omega)] at ht
    rw [ht, show i = m by omega]
  | succ d ih =>
    intro l i hl hd hi ht
    obtain ⟨n, hn⟩ := ih (l.set i (k0 + i)) (i + 1) (by simpa using hl) (by omega) (by omega) (by
      have hlt : i < l.length := by omega
      have hlt2 : i < (upL m k0).length := by rw [upL_length]; omega
      have e := upL_get m k0 i (by omega)
      unfold rd at e
      rw [Int.toNat_natCast, List.getD_eq_getElem?_getD, List.getElem?_eq_getElem hlt2] at e
      rw [List.take_succ_eq_append_getElem (by simpa using hlt), List.take_succ_eq_append_getElem hlt2, ← ht, List.take_set_of_le (Nat.le_refl _)]
      simp only [Option.getD_some] at e
      simp [e])
    refine ⟨n + 1, ?_⟩
    simp only [laws_markInt64S.l0]
    rw [if_pos (by omega), if_pos (by omega), wrap_id (by omega) (by omega), wrap_id (by omega) (by omega), Int.toNat_natCast]
    rw [show k0 + (i : Int) + 1 = k0 + ((i + 1 : Nat) : Int) by omega]
    exact hn
theorem ev_mark (l : List Int) (k : Int) (h0 : 0 ≤ k) (h1 : k + l.length < 1099511627776) : Ev (fun n => laws_markInt64S.f n l k) (k + l.length, upL l.length k) := by
  refine ev_of (fun n => laws_markInt64S.mono _ _ _) ?_
  obtain ⟨n, hn⟩ := mark_l0 l.length k h0 h1 l.length l 0 rfl (by omega) (by omega) rfl
  exact ⟨n, by simpa [laws_markInt64S.f] using hn⟩
theorem held_l0 (m : Nat) (k0 : Int) (h0 : 0 ≤ k0) (h1 : k0 + m < 1099511627776) (d : Nat) : ∀ (i : Nat), m - i = d → i ≤ m →
    ∃ n, laws_heldInt64S.l0 n (upL m k0) (k0 + i) i = some (k0 + m) := by
  induction d with
  | zero =>
    intro i hd hi
    refine ⟨1, ?_⟩
    simp only [laws_heldInt64S.l0]
    rw [upL_length, if_neg (by omega), show i = m by omega]
  | succ d ih =>
    intro i hd hi
    obtain ⟨n, hn⟩ := ih (i + 1) (by omega) (by omega)
    refine ⟨n + 1, ?_⟩
    simp only [laws_heldInt64S.l0]
    rw [upL_length, if_pos (by omega), if_pos (by omega), upL_get m k0 i (by omega), if_pos rfl, wrap_id (by omega) (by omega), wrap_id (by omega) (by omega)]
    rw [show k0 + (i : Int) + 1 = k0 + ((i + 1 : Nat) : Int) by omega]
    exact hn
theorem ev_held (m : Nat) (k : Int) (h0 : 0 ≤ k) (h1 : k + m < 1099511627776) : Ev (fun n => laws_heldInt64S.f n (upL m k) k) (k + m) := by
  refine ev_of (fun n => laws_heldInt64S.mono _ _ _) ?_
  obtain ⟨n, hn⟩ := held_l0 m k h0 h1 m 0 (by omega) (by omega)
  exact ⟨n, by simpa [laws_heldInt64S.f] using hn⟩
end Go.Proofs.Ytokcklkjnjffnaa.K
