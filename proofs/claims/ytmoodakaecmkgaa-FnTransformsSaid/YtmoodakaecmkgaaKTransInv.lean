/- Plain law: the transform of counts and its inverse lead back to each other. Conditions: where both are told without an error. -/
import Derived.Test.YtmoodakaecmkgaaKTransLaw
set_option linter.unusedVariables false
set_option linter.unusedSimpArgs false
namespace Go.Proofs.Ytmoodakaecmkgaa.K
open Go.RowKit Go.Proofs.YtmoodakaecmkgaaW.PrintWords Go.Proofs.YtmoodakaecmkgaaW.PrintMore

theorem passFrom_lt (k d : Nat) : ∀ (l : List Int) (i j : Nat), j < i → (passFrom l k i d).getD j 0 = l.getD j 0 := by
  induction d with
  | zero => intro l i j h; rfl
  | succ d ih =>
    intro l i j h
    rw [passFrom, ih _ _ _ (by omega), List.getD_eq_getElem?_getD, List.getElem?_set_ne (by omega), ← List.getD_eq_getElem?_getD]
theorem pass_lt (l : List Int) (k j : Nat) (h : j < k) : (pass l k).getD j 0 = l.getD j 0 := passFrom_lt _ _ _ _ _ h
theorem passes_lt (k j n : Nat) (h : j < k) : ∀ l : List Int, (passes l k n).getD j 0 = l.getD j 0 := by
  induction n with
  | zero => intro l; rfl
  | succ n ih => intro l; rw [passes, ih, pass_lt _ _ _ h]
theorem pass_at (l : List Int) (k : Nat) (hk : k < l.length) : (pass l k).getD k 0 = min (l.getD k 0 + l.getD 0 0) 2000000000 := by
  obtain ⟨d, hd⟩ : ∃ d, l.length - k = d + 1 := ⟨l.length - k - 1, by omega⟩
  rw [pass, hd, passFrom, passFrom_lt _ _ _ _ _ (by omega), set_getD _ _ _ _ hk, if_pos rfl, Nat.sub_self]
/-- So many passes at k raise the number at k by as many, where it stays small. -/
theorem passes_at (k n : Nat) (h1 : 1 ≤ k) : ∀ l : List Int, k < l.length → l.getD 0 0 = 1 → l.getD k 0 + n ≤ 2000000000 → (passes l k n).getD k 0 = l.getD k 0 + n := by
  induction n with
  | zero => intro l _ _ _; simp [passes]
  | succ n ih =>
    intro l hk h0 hb
    have e := pass_at l k hk
    rw [h0] at e
    rw [passes, ih _ (by rw [pass_length]; exact hk) (by rw [pass_lt _ _ _ h1]; exact h0) (by rw [e]; omega), e]
    omega
/-- The same from above, always: the number at k is at most raised by as many. -/
theorem passes_at_or (k n : Nat) (h1 : 1 ≤ k) : ∀ l : List Int, k < l.length → l.getD 0 0 = 1 → Small l → ¬ (passes l k n).getD k 0 > 1000000000 → (passes l k n).getD k 0 = l.getD k 0 + n := by
  induction n with
  | zero => intro l _ _ _ _; simp [passes]
  | succ n ih =>
    intro l hk h0 hs hb
    have e := pass_at l k hk
    rw [h0] at e
    have hp : k < (pass l k).length := by rw [pass_length]; exact hk
    have h2 := ih (pass l k) hp (by rw [pass_lt _ _ _ h1]; exact h0) (pass_small _ hs) hb
    rw [passes] at hb ⊢
    rw [h2] at hb ⊢
    rw [e] at hb ⊢
    omega
theorem allPasses_lt (r : List Int) : ∀ (xs : List Int) (i j : Nat), j ≤ i → (allPasses xs i r).getD j 0 = xs.getD j 0 := by
  induction r with
  | nil => intro xs i j h; rfl
  | cons a r ih => intro xs i j h; rw [allPasses, ih _ _ _ (by omega), passes_lt _ _ _ (by omega)]
theorem ext_getD (a b : List Int) (hl : a.length = b.length) (h : ∀ i, i < a.length → a.getD i 0 = b.getD i 0) : a = b := by
  refine List.ext_getElem hl fun i h1 h2 => ?_
  have := h i h1
  rw [List.getD_eq_getElem?_getD, List.getD_eq_getElem?_getD, List.getElem?_eq_getElem h1, List.getElem?_eq_getElem h2] at this
  exact this

/-- From the transform back. -/
theorem untrans_trans (l : List Int) (hl : l.length ≤ 20) (hg : ∀ i, i < l.length → 0 ≤ l.getD i 0 ∧ l.getD i 0 ≤ 1000) (hb : ¬ Big (transL l)) (d : Nat) : ∀ (xs : List Int) (k : Nat), l.length - k = d → k ≤ l.length → xs.length = l.length + 1 → xs.getD 0 0 = 1 → Small xs →
    allPasses xs k (l.drop k) = transL l → untransFrom (transL l) xs (l.take k) (k + 1) d = (l, 0) := by
  induction d with
  | zero =>
    intro xs k hd hk hx h0 hs ha
    rw [untransFrom, List.take_of_length_le (by omega)]
  | succ d ih =>
    intro xs k hd hk hx h0 hs ha
    have hlt : k < l.length := by omega
    have hgk := hg k hlt
    obtain ⟨m, hm⟩ : ∃ m : Nat, l.getD k 0 = m := ⟨(l.getD k 0).toNat, by omega⟩
    rw [drop_at l k hlt, allPasses] at ha
    have hrd : rd l k = m := by unfold rd; rw [Int.toNat_natCast, hm]
    rw [hrd, Int.toNat_natCast] at ha
    have hT : (transL l).getD (k + 1) 0 = (passes xs (k + 1) m).getD (k + 1) 0 := by rw [← ha, allPasses_lt _ _ _ _ (Nat.le_refl _)]
    have hb2 : ¬ (passes xs (k + 1) m).getD (k + 1) 0 > 1000000000 := fun h => hb ⟨k + 1, by rw [hT]; exact h⟩
    have e := passes_at_or (k + 1) m (by omega) xs (by omega) h0 hs hb2
    have hdiff : (transL l).getD (k + 1) 0 - xs.getD (k + 1) 0 = m := by rw [hT, e]; omega
    rw [untransFrom, hdiff, if_pos (by simp [inB]; omega), Int.toNat_natCast]
    have ht : l.take k ++ [(m : Int)] = l.take (k + 1) := by
      rw [List.take_succ_eq_append_getElem hlt]
      congr 1
      rw [List.getD_eq_getElem?_getD, List.getElem?_eq_getElem hlt] at hm
      simpa using hm.symm
    rw [ht]
    exact ih _ (k + 1) (by omega) (by omega) (by rw [passes_length, hx]) (by rw [passes_lt _ _ _ (by omega)]; exact h0) (passes_small _ _ _ hs) ha

theorem inv_left (l : List Int) (h : (transI l).2 = 0) : untransI (transI l).1 = (l, 0) := by
  rw [transI_eq] at h ⊢
  by_cases h1 : 20 < l.length ∨ badIn 1000 l = true
  · rw [if_pos h1] at h; simp at h
  · rw [if_neg h1] at h ⊢
    by_cases h2 : Big (transL l)
    · rw [if_pos h2] at h; simp at h
    · rw [if_neg h2]
      simp only [not_or] at h1
      obtain ⟨h3, h4⟩ := h1
      have h4 := Bool.eq_false_iff.mpr h4
      have hg : ∀ i, i < l.length → 0 ≤ l.getD i 0 ∧ l.getD i 0 ≤ 1000 := by
        intro i hi
        have h1 : inB (rd l i) 0 1000 = true := by simpa [badIn] using List.any_eq_false.1 h4 _ (rd_mem l i hi)
        simp only [inB, Bool.and_eq_true, decide_eq_true_eq] at h1
        simpa [rd] using h1
      have hlen : (transL l).length = l.length + 1 := by simp [transL, allPasses_length, startL]
      have hsm : Small (transL l) := allPasses_small _ _ _ (startL_small' _)
      have h0 : (transL l).getD 0 0 = 1 := by rw [transL, allPasses_lt _ _ _ _ (Nat.le_refl _)]; rfl
      have hbad : badIn 1000000000 (transL l) = false := by
        rw [badIn, List.any_eq_false]
        intro x hx
        have := hsm x hx
        have hx2 : x ≤ 1000000000 := by
          by_cases hgt : 1000000000 < x
          · obtain ⟨i, hi, rfl⟩ := List.getElem_of_mem hx
            exact absurd ⟨i, by rw [List.getD_eq_getElem?_getD, List.getElem?_eq_getElem hi]; exact hgt⟩ h2
          · omega
        simp [inB]; omega
      show untransI (transL l) = _
      rw [untransI, if_neg (by rw [hbad, hlen]; rintro (h | h | h | h); omega; omega; cases h; exact h h0), hlen]
      exact untrans_trans l (by omega) hg h2 l.length (startL l.length) 0 (by omega) (by omega) (by simp [startL]) rfl (startL_small' _) rfl

/-- From the inverse forth. -/
theorem trans_untrans (g : List Int) (hg : ∀ i, i < g.length → 0 ≤ g.getD i 0 ∧ g.getD i 0 ≤ 1000000000) (d : Nat) : ∀ (xs os : List Int) (k : Nat) (b : List Int), 1 ≤ k → g.length - k = d → k ≤ g.length → xs.length = g.length → xs.getD 0 0 = 1 → Small xs →
    (∀ j, j < k → xs.getD j 0 = g.getD j 0) → untransFrom g xs os k d = (b, 0) → ∃ t, b = os ++ t ∧ t.length = d ∧ (∀ x ∈ t, inB x 0 1000 = true) ∧ allPasses xs (k - 1) t = g := by
  induction d with
  | zero =>
    intro xs os k b hk hd hkl hx h0 hs hj hu
    rw [untransFrom] at hu
    refine ⟨[], by simpa using (Prod.mk.inj hu).1.symm, rfl, by simp, ?_⟩
    exact ext_getD xs g hx fun i hi => hj i (by omega)
  | succ d ih =>
    intro xs os k b hk hd hkl hx h0 hs hj hu
    rw [untransFrom] at hu
    split at hu
    · rename_i hin
      have hin2 := hin
      simp only [inB, Bool.and_eq_true, decide_eq_true_eq] at hin2
      obtain ⟨m, hm⟩ : ∃ m : Nat, g.getD k 0 - xs.getD k 0 = m := ⟨(g.getD k 0 - xs.getD k 0).toNat, by omega⟩
      rw [hm, Int.toNat_natCast] at hu
      have hgk := hg k (by omega)
      have e := passes_at k m hk xs (by omega) h0 (by omega)
      obtain ⟨t, hb, htl, hti, hta⟩ := ih (passes xs k m) (os ++ [(m : Int)]) (k + 1) b (by omega) (by omega) (by omega) (by rw [passes_length, hx]) (by rw [passes_lt _ _ _ (by omega)]; exact h0) (passes_small _ _ _ hs) (by
        intro j hjk
        by_cases hjk2 : j = k
        · subst hjk2; rw [e]; omega
        · rw [passes_lt _ _ _ (by omega)]; exact hj j (by omega)) hu
      refine ⟨(m : Int) :: t, by rw [hb]; simp, by simp [htl], ?_, ?_⟩
      · intro x hx
        rcases List.mem_cons.1 hx with rfl | hx
        · rw [← hm]; exact hin
        · exact hti x hx
      · rw [allPasses, Int.toNat_natCast, show k - 1 + 1 = k by omega]
        exact hta
    · simp at hu
theorem inv_right (g : List Int) (h : (untransI g).2 = 0) : transI (untransI g).1 = (g, 0) := by
  unfold untransI at h ⊢
  by_cases h1 : g.length < 1 ∨ 21 < g.length ∨ badIn 1000000000 g = true ∨ g.getD 0 0 ≠ 1
  · rw [if_pos h1] at h; simp at h
  · rw [if_neg h1] at h ⊢
    simp only [not_or, Decidable.not_not] at h1
    obtain ⟨h2, h3, h4, h5⟩ := h1
    have h4 := Bool.eq_false_iff.mpr h4
    have hg : ∀ i, i < g.length → 0 ≤ g.getD i 0 ∧ g.getD i 0 ≤ 1000000000 := by
      intro i hi
      have h1 : inB (rd g i) 0 1000000000 = true := by simpa [badIn] using List.any_eq_false.1 h4 _ (rd_mem g i hi)
      simp only [inB, Bool.and_eq_true, decide_eq_true_eq] at h1
      simpa [rd] using h1
    obtain ⟨b, hb⟩ : ∃ b, untransFrom g (startL (g.length - 1)) [] 1 (g.length - 1) = (b, 0) := ⟨_, Prod.ext rfl h⟩
    obtain ⟨t, ht, htl, hti, hta⟩ := trans_untrans g hg (g.length - 1) (startL (g.length - 1)) [] 1 b (by omega) rfl (by omega) (by simp [startL]; omega) rfl (startL_small' _) (by
      intro j hj
      have : j = 0 := by omega
      subst this
      rw [h5]; rfl) hb
    rw [List.nil_append] at ht
    subst ht
    rw [hb]
    show transI b = (g, 0)
    have hT : transL b = g := by rw [transL, htl]; exact hta
    have hbad : badIn 1000 b = false := by
      rw [badIn, List.any_eq_false]
      intro x hx
      simp [hti x hx]
    rw [transI_eq, if_neg (by rw [hbad]; rintro (h | h); omega; cases h), hT, if_neg]
    rintro ⟨i, hi⟩
    by_cases hlt : i < g.length
    · have := hg i hlt; omega
    · rw [List.getD_eq_getElem?_getD, List.getElem?_eq_none (by omega)] at hi; simp at hi
theorem transI_head (l : List Int) (h : (transI l).2 = 0) : (transI l).1.getD 0 0 = 1 ∧ (transI l).1.length = l.length + 1 := by
  rw [transI_eq] at h ⊢
  by_cases h1 : 20 < l.length ∨ badIn 1000 l = true
  · rw [if_pos h1] at h; simp at h
  · rw [if_neg h1] at h ⊢
    by_cases h2 : Big (transL l)
    · rw [if_pos h2] at h; simp at h
    · rw [if_neg h2]
      exact ⟨by show (transL l).getD 0 0 = 1; rw [transL, allPasses_lt _ _ _ _ (Nat.le_refl _)]; rfl, by simp [transL, allPasses_length, startL]⟩
end Go.Proofs.Ytmoodakaecmkgaa.K
