/- Plain laws: copying, comparing, marking Gauss words, as the laws' own helpers do it. Conditions: in each. -/
import Derived.Test.YtokcklkjnjffnaaKLaw
import Derived.Test.YtokcklkjnjffnaaPAx0
import Derived.Test.YtokcklkjnjffnaaPAx1
import Derived.Test.YtokcklkjnjffnaaPAx11
import Derived.Test.YtokcklkjnjffnaaPAx12
import Derived.Test.YtokcklkjnjffnaaPAx9
set_option linter.unusedVariables false
set_option linter.unusedSimpArgs false
namespace Go.Proofs.Ytokcklkjnjffnaa.K
open Go.RowKit Go.Proofs.YtokcklkjnjffnaaW.PrintWords Go.Proofs.YtokcklkjnjffnaaW.PrintLast Go.Proofs.YtokcklkjnjffnaaW.PrintMore Go.Proofs.Ytokcklkjnjffnaa.PA

theorem sz_one (l : List Int) (a : Int) (h0 : 0 ≤ a) (h1 : a ≤ 1048576) (hm : l.length ≤ maxLen) : laws_szInt64S.f l a = some (if a < l.length then -1 else a - l.length) := by
  have hm2 : (l.length : Int) ≤ 9223372036854775807 := by
    have : maxLen = 9223372036854775807 := rfl
    omega
  unfold laws_szInt64S.f
  rw [wrap_id (by omega) (by omega)]
  by_cases h : a < l.length
  · rw [if_pos (by omega), if_pos h]
  · rw [if_neg (by omega), if_neg h]
/-- The bulk of a Gauss word: told with the three lengths, or too great. -/
theorem sz_gauss (a b c : List Int) (ha : a.length ≤ maxLen) (hb : b.length ≤ maxLen) (hc : c.length ≤ maxLen) : (∃ t : Int, laws_szGauss.f a b c 1048576 = some t ∧ t < 0) ∨ (∃ t : Int, laws_szGauss.f a b c 1048576 = some t ∧ 0 ≤ t ∧ a.length ≤ 1048576 ∧ b.length ≤ 1048576 ∧ c.length ≤ 1048576) := by
  unfold laws_szGauss.f
  rw [sz_one a 1048576 (by omega) (by omega) ha]
  simp only [Option.bind_some]
  by_cases h1 : (1048576 : Int) < a.length
  · left; rw [if_pos h1, if_pos (by omega)]; exact ⟨-1, rfl, by omega⟩
  · rw [if_neg h1, if_neg (by omega), sz_one b _ (by omega) (by omega) hb]
    simp only [Option.bind_some]
    by_cases h2 : (1048576 : Int) - a.length < b.length
    · left; rw [if_pos h2, if_pos (by omega)]; exact ⟨-1, rfl, by omega⟩
    · rw [if_neg h2, if_neg (by omega), sz_one c _ (by omega) (by omega) hc]
      simp only [Option.bind_some]
      by_cases h3 : (1048576 : Int) - a.length - b.length < c.length
      · left; rw [if_pos h3, if_pos (by omega)]; exact ⟨-1, rfl, by omega⟩
      · right; rw [if_neg h3, if_neg (by omega)]; exact ⟨_, rfl, by omega, by omega, by omega, by omega⟩
theorem ev_toGauss (a b c : List Int) (ha : a.length ≤ 1048576) (hb : b.length ≤ 1048576) (hc : c.length ≤ 1048576) : Ev (fun k => laws_toGauss.f k a b c) (a, b, c) := by
  unfold laws_toGauss.f
  exact Ev.bind (ev_toInt a ha) (Ev.bind (ev_toInt b hb) (Ev.bind (ev_toInt c hc) (ev_some _)))
theorem ev_eqGauss (a b c a' b' c' : List Int) (ha : a.length ≤ 1048576) (hb : b.length ≤ 1048576) (hc : c.length ≤ 1048576) : Ev (fun k => laws_eqGauss.f k a b c a' b' c') (decide (a = a') && (decide (b = b') && decide (c = c'))) := by
  unfold laws_eqGauss.f
  refine Ev.bind (ev_eqInt _ _ (by omega)) (ev_if (fun h1 => ?_) (fun h1 => ?_))
  · rw [h1, Bool.true_and]
    refine Ev.bind (ev_eqInt _ _ (by omega)) (ev_if (fun h2 => ?_) (fun h2 => ?_))
    · rw [h2, Bool.true_and]
      refine Ev.bind (ev_eqInt _ _ (by omega)) (ev_if (fun h3 => ?_) (fun h3 => ?_))
      · rw [h3]; exact ev_some _
      · rw [Bool.eq_false_iff.mpr h3]; exact ev_some _
    · rw [Bool.eq_false_iff.mpr h2, Bool.false_and]; exact ev_some _
  · rw [Bool.eq_false_iff.mpr h1, Bool.false_and]; exact ev_some _
theorem ev_eqGauss_same (a b c : List Int) (ha : a.length ≤ 1048576) (hb : b.length ≤ 1048576) (hc : c.length ≤ 1048576) : Ev (fun k => laws_eqGauss.f k a b c a b c) true := ev_eq (ev_eqGauss a b c a b c ha hb hc) (by simp)
/-- The marks: the numbers from k on, through the three rows. -/
theorem ev_markGauss (a b c : List Int) (k : Int) (h0 : 0 ≤ k) (h1 : k ≤ 1) (ha : a.length ≤ 1048576) (hb : b.length ≤ 1048576) (hc : c.length ≤ 1048576) :
    Ev (fun n => laws_markGauss.f n a b c k) (k + a.length + b.length + c.length, upL a.length k, upL b.length (k + a.length), upL c.length (k + a.length + b.length)) := by
  unfold laws_markGauss.f
  exact Ev.bind (ev_mark a k h0 (by omega)) (Ev.bind (ev_mark b (k + a.length) (by omega) (by omega)) (Ev.bind (ev_mark c (k + a.length + b.length) (by omega) (by omega)) (ev_some _)))
theorem ev_heldGauss (a b c : Nat) (k : Int) (h0 : 0 ≤ k) (h1 : k ≤ 1) (ha : a ≤ 1048576) (hb : b ≤ 1048576) (hc : c ≤ 1048576) :
    Ev (fun n => laws_heldGauss.f n (upL a k) (upL b (k + a)) (upL c (k + a + b)) k) (k + a + b + c) := by
  unfold laws_heldGauss.f
  exact Ev.bind (ev_held a k h0 (by omega)) (ev_neg (by omega) (Ev.bind (ev_held b (k + a) (by omega) (by omega)) (ev_neg (by omega) (Ev.bind (ev_held c (k + a + b) (by omega) (by omega)) (ev_neg (by omega) (ev_some _))))))
end Go.Proofs.Ytokcklkjnjffnaa.K
