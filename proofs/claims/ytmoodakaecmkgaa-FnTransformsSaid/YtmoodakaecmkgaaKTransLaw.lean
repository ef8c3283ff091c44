/- Plain law: the reference's TransformCounts and UntransformCounts answer as the program's. Conditions: none. -/
import Derived.Test.YtmoodakaecmkgaaKEv
import Derived.Test.YtmoodakaecmkgaaKSpread
import Derived.Test.YtmoodakaecmkgaaPAx0
import Derived.Test.YtmoodakaecmkgaaPAx1
import Derived.Test.YtmoodakaecmkgaaPAx6
import Derived.Test.YtmoodakaecmkgaaPAx7
set_option linter.unusedVariables false
set_option linter.unusedSimpArgs false
namespace Go.Proofs.Ytmoodakaecmkgaa.K
open Go.RowKit Go.Proofs.YtmoodakaecmkgaaW.PrintWords Go.Proofs.YtmoodakaecmkgaaW.PrintLast Go.Proofs.YtmoodakaecmkgaaW.PrintMore Go.Proofs.Ytmoodakaecmkgaa.PA

theorem l01In_f (a b c : Int) : spec_l01In.f a b c = some (inB a b c) := by
  unfold spec_l01In.f inB
  by_cases h : b ≤ a
  · rw [if_pos h]; simp [h]
  · rw [if_neg h]; simp [h]
theorem counts_l0 (l : List Int) (top : Int) (hl : l.length < 1099511627776) (d : Nat) : ∀ i : Nat, l.length - i = d → i ≤ l.length → ∃ n, spec_l08Counts.l0 n l top i = some (!badIn top (l.drop i)) := by
  induction d with
  | zero =>
    intro i hd hi
    exact ⟨1, by simp only [spec_l08Counts.l0]; rw [if_neg (by omega), List.drop_of_length_le (by omega)]; rfl⟩
  | succ d ih =>
    intro i hd hi
    have hlt : i < l.length := by omega
    obtain ⟨n, hn⟩ := ih (i + 1) (by omega) (by omega)
    refine ⟨n + 1, ?_⟩
    simp only [spec_l08Counts.l0]
    rw [if_pos (by omega), if_pos (by omega), l01In_f, drop_at l i hlt]
    simp only [Option.bind_some]
    by_cases h : inB (rd l i) 0 top = true
    · rw [if_pos h, wrap_id (by omega) (by omega)]
      refine (show spec_l08Counts.l0 n l top ((i : Int) + 1) = _ from hn).trans ?_
      simp [badIn, h]
    · rw [if_neg h]
      simp [badIn, h]
theorem ev_counts (l : List Int) (hi : Int) (hl : l.length < 1099511627776) : Ev (fun k => spec_l08Counts.f k l hi) (!badIn hi l) := by
  refine ev_of (fun k => spec_l08Counts.mono _ _ _) ?_
  exact counts_l0 l hi hl l.length 0 (by omega) (by omega)

/-- Is some number too great? -/
def Big (l : List Int) : Prop := ∃ i, 1000000000 < l.getD i 0
theorem set_getD (l : List Int) (i j : Nat) (y : Int) (hi : i < l.length) : (l.set i y).getD j 0 = if i = j then y else l.getD j 0 := by
  rw [List.getD_eq_getElem?_getD, List.getD_eq_getElem?_getD, List.getElem?_set]
  split
  · rename_i h; subst h; simp [hi]
  · rfl
theorem passFrom_ge (k d : Nat) : ∀ (l : List Int) (i j : Nat), i + d ≤ l.length → Small l → l.getD j 0 ≤ (passFrom l k i d).getD j 0 := by
  induction d with
  | zero => intro l i j h hs; exact Int.le_refl _
  | succ d ih =>
    intro l i j h hs
    rw [passFrom]
    have h1 := hs.getD i
    have h2 := hs.getD (i - k)
    refine Int.le_trans ?_ (ih _ _ _ (by simp; omega) (hs.set _ (by omega) (by omega)))
    rw [set_getD _ _ _ _ (by omega)]
    split
    · rename_i e; subst e; omega
    · exact Int.le_refl _
theorem pass_big {l : List Int} (k : Nat) (hk : k ≤ l.length) (hs : Small l) (h : Big l) : Big (pass l k) := by
  obtain ⟨i, hi⟩ := h
  exact ⟨i, Int.lt_of_lt_of_le hi (passFrom_ge k _ l k i (by omega) hs)⟩
theorem passes_big (k n : Nat) : ∀ l : List Int, k ≤ l.length → Small l → Big l → Big (passes l k n) := by
  induction n with
  | zero => intro l hk hs h; exact h
  | succ n ih => intro l hk hs h; exact ih _ (by rw [pass_length]; exact hk) (pass_small k hs) (pass_big k hk hs h)
theorem allPasses_small (r : List Int) : ∀ (out : List Int) (i : Nat), Small out → Small (allPasses out i r) := by
  induction r with
  | nil => intro out i h; exact h
  | cons a r ih => intro out i h; exact ih _ _ (passes_small _ _ _ h)
theorem allPasses_big (r : List Int) : ∀ (out : List Int) (i : Nat), i + r.length ≤ out.length → Small out → Big out → Big (allPasses out i r) := by
  induction r with
  | nil => intro out i _ _ h; exact h
  | cons a r ih =>
    intro out i hl hs h
    simp only [List.length_cons] at hl
    exact ih _ _ (by rw [passes_length]; omega) (passes_small _ _ _ hs) (passes_big _ _ _ (by omega) hs h)
theorem maxL_big (l : List Int) : ∀ m : Int, 1000000000 < maxL m l ↔ 1000000000 < m ∨ ∃ i, 1000000000 < l.getD i 0 := by
  induction l with
  | nil => intro m; simp [maxL]
  | cons a l ih =>
    intro m
    have h := ih (if m < a then a else m)
    have e : maxL m (a :: l) = maxL (if m < a then a else m) l := rfl
    rw [e, h]
    constructor
    · rintro (h | ⟨i, h⟩)
      · by_cases h2 : m < a
        · rw [if_pos h2] at h; exact .inr ⟨0, h⟩
        · rw [if_neg h2] at h; exact .inl h
      · exact .inr ⟨i + 1, h⟩
    · rintro (h | ⟨i, h⟩)
      · left; split <;> omega
      · match i, h with
        | 0, h => left; simp only [List.getD_cons_zero] at h; split <;> omega
        | j + 1, h => exact .inr ⟨j, h⟩
theorem maxOf_big (l : List Int) : 1000000000 < maxOf l ↔ Big l := by
  match l with
  | [] => simp [maxOf, maxL, Big]
  | a :: r =>
    unfold maxOf Big
    rw [maxL_big]
    constructor
    · rintro (h | ⟨i, h⟩)
      · exact ⟨0, h⟩
      · exact ⟨i + 1, h⟩
    · rintro ⟨i, h⟩
      match i, h with
      | 0, h => exact .inl h
      | j + 1, h => exact .inr ⟨j, h⟩

instance : DecidablePred Big := fun l => decidable_of_iff _ (maxOf_big l)

/-- One pass of the reference: as ours while no number is too great. -/
theorem factor_l0 (k : Int) (hk : 1 ≤ k) (d : Nat) : ∀ (l : List Int) (i : Nat), k ≤ i → l.length < 1000000 → l.length - i = d → i ≤ l.length → Small l → ¬ Big l →
    (∃ n, spec_l08Factor.l0 n l k i = some (true, passFrom l k.toNat i d) ∧ ¬ Big (passFrom l k.toNat i d)) ∨ (∃ n z, spec_l08Factor.l0 n l k i = some (false, z) ∧ Big (passFrom l k.toNat i d)) := by
  induction d with
  | zero =>
    intro l i h1 hl hd hi hs hb
    exact .inl ⟨1, by simp only [spec_l08Factor.l0]; rw [if_neg (by omega)]; rfl, hb⟩
  | succ d ih =>
    intro l i h1 hl hd hi hs hb
    have e1 : wrap64 ((i : Int) - k) = i - k := wrap_id (by omega) (by omega)
    have e2 : wrap64 ((i : Int) + 1) = i + 1 := wrap_id (by omega) (by omega)
    have g1 := hs.getD i
    have g2 := hs.getD (i - k.toNat)
    have b1 : l.getD i 0 ≤ 1000000000 := by
      by_cases h : 1000000000 < l.getD i 0
      · exact absurd ⟨i, h⟩ hb
      · omega
    have b2 : l.getD (i - k.toNat) 0 ≤ 1000000000 := by
      by_cases h : 1000000000 < l.getD (i - k.toNat) 0
      · exact absurd ⟨_, h⟩ hb
      · omega
    have r1 : rd l i = l.getD i 0 := by unfold rd; rw [Int.toNat_natCast]
    have r2 : rd l ((i : Int) - k) = l.getD (i - k.toNat) 0 := by unfold rd; rw [show ((i : Int) - k).toNat = i - k.toNat by omega]
    have e3 : wrap64 (rd l i + rd l ((i : Int) - k)) = l.getD i 0 + l.getD (i - k.toNat) 0 := by rw [r1, r2]; exact wrap_id (by omega) (by omega)
    have e4 : min (l.getD i 0 + l.getD (i - k.toNat) 0) 2000000000 = l.getD i 0 + l.getD (i - k.toNat) 0 := by omega
    by_cases hgt : l.getD i 0 + l.getD (i - k.toNat) 0 > 1000000000
    · refine .inr ⟨1, l.set i (l.getD i 0 + l.getD (i - k.toNat) 0), ?_, ?_⟩
      · simp only [spec_l08Factor.l0]
        rw [e1, e3, if_pos (by omega), if_pos (by omega), if_pos (by omega), if_pos (by omega)]
        simp only [Option.bind_some, Int.toNat_natCast]
        rw [if_pos hgt]
      · rw [passFrom, e4]
        refine ⟨i, Int.lt_of_lt_of_le ?_ (passFrom_ge _ d _ (i + 1) i (by simp; omega) (hs.set _ (by omega) (by omega)))⟩
        rw [set_getD _ _ _ _ (by omega), if_pos rfl]
        omega
    · have hb2 : ¬ Big (l.set i (l.getD i 0 + l.getD (i - k.toNat) 0)) := by
        rintro ⟨j, hj⟩
        rw [set_getD _ _ _ _ (by omega)] at hj
        split at hj
        · omega
        · exact hb ⟨j, hj⟩
      have step : ∀ n r, spec_l08Factor.l0 n (l.set i (l.getD i 0 + l.getD (i - k.toNat) 0)) k ((i + 1 : Nat) : Int) = some r → spec_l08Factor.l0 (n + 1) l k i = some r := by
        intro n r hn
        simp only [spec_l08Factor.l0]
        rw [e1, e2, e3, if_pos (by omega), if_pos (by omega), if_pos (by omega), if_pos (by omega)]
        simp only [Option.bind_some, Int.toNat_natCast]
        rw [if_neg hgt]
        exact hn
      rw [passFrom, e4]
      rcases ih (l.set i (l.getD i 0 + l.getD (i - k.toNat) 0)) (i + 1) (by omega) (by simpa using hl) (by simp; omega) (by simp; omega) (hs.set _ (by omega) (by omega)) hb2 with ⟨n, hn, h⟩ | ⟨n, z, hn, h⟩
      · exact .inl ⟨n + 1, step _ _ hn, h⟩
      · exact .inr ⟨n + 1, z, step _ _ hn, h⟩
theorem ev_factor (k : Nat) (l : List Int) (hk : 1 ≤ k) (hkl : k ≤ l.length) (hl : l.length < 1000000) (hs : Small l) (hb : ¬ Big l) :
    (Ev (fun n => spec_l08Factor.f n l k) (true, pass l k) ∧ ¬ Big (pass l k)) ∨ (∃ z, Ev (fun n => spec_l08Factor.f n l k) (false, z) ∧ Big (pass l k)) := by
  rcases factor_l0 k (by omega) (l.length - k) l k (by omega) hl (by omega) hkl hs hb with ⟨n, hn, h⟩ | ⟨n, z, hn, h⟩
  · exact .inl ⟨ev_of (fun n => spec_l08Factor.mono _ _ _) ⟨n, hn⟩, h⟩
  · exact .inr ⟨z, ev_of (fun n => spec_l08Factor.mono _ _ _) ⟨n, hn⟩, h⟩

theorem trans_l1 (x0 : List Int) (k : Nat) (hk : 1 ≤ k) (m : Nat) (hm : m < 1000000) : ∀ xs : List Int, k ≤ xs.length → xs.length < 1000000 → Small xs → ¬ Big xs →
    (¬ Big (passes xs k m) → ∀ r, Ev (fun n => spec_TransformCounts.l0 n x0 (passes xs k m) ((k : Int) + 1)) r → Ev (fun n => spec_TransformCounts.l1 n x0 xs k m) r) ∧
    (Big (passes xs k m) → Ev (fun n => spec_TransformCounts.l1 n x0 xs k m) ([], 3)) := by
  induction m with
  | zero =>
    intro xs hkl hl hs hb
    refine ⟨fun _ r hr => ?_, fun h => absurd h hb⟩
    refine Ev.step (f := fun n => spec_TransformCounts.l0 n x0 xs ((k : Int) + 1)) (fun n => ?_) hr
    simp only [spec_TransformCounts.l1]
    rw [if_neg (by omega), wrap_id (by omega) (by omega)]
  | succ m ih =>
    intro xs hkl hl hs hb
    have hp : (pass xs k).length = xs.length := pass_length _ _
    have e : wrap64 (((m + 1 : Nat) : Int) - 1) = m := by rw [wrap_id (by omega) (by omega)]; omega
    rcases ev_factor k xs hk hkl hl hs hb with ⟨hf, h⟩ | ⟨z, hf, h⟩
    · have ih2 := ih (by omega) (pass xs k) (by omega) (by omega) (pass_small _ hs) h
      have step : ∀ r, Ev (fun n => spec_TransformCounts.l1 n x0 (pass xs k) k m) r → Ev (fun n => spec_TransformCounts.l1 n x0 xs k ((m + 1 : Nat) : Int)) r := by
        intro r hr
        refine Ev.step (f := fun n => (spec_l08Factor.f n xs k).bind fun bt => if bt.1 = true then spec_TransformCounts.l1 n x0 bt.2 k m else some ([], 3)) (fun n => ?_) (Ev.bind hf ?_)
        · simp only [spec_TransformCounts.l1]
          rw [if_pos (by omega), e]
        · exact ev_pos rfl hr
      exact ⟨fun h2 r hr => step r (ih2.1 h2 r hr), fun h2 => step _ (ih2.2 h2)⟩
    · have hbig : Big (passes xs k (m + 1)) := passes_big k m (pass xs k) (by omega) (pass_small _ hs) h
      refine ⟨fun h2 => absurd hbig h2, fun _ => ?_⟩
      refine Ev.step (f := fun n => (spec_l08Factor.f n xs k).bind fun bt => if bt.1 = true then spec_TransformCounts.l1 n x0 bt.2 k m else some ([], 3)) (fun n => ?_) (Ev.bind hf ?_)
      · simp only [spec_TransformCounts.l1]
        rw [if_pos (by omega), e]
      · exact ev_neg (by simp) (ev_some _)

theorem trans_l0 (x0 : List Int) (hx : x0.length ≤ 20) (hg : ∀ i, i < x0.length → 0 ≤ rd x0 i ∧ rd x0 i ≤ 1000) (d : Nat) : ∀ (xs : List Int) (i : Nat), x0.length - i = d → i ≤ x0.length → xs.length = x0.length + 1 → Small xs → ¬ Big xs →
    Ev (fun n => spec_TransformCounts.l0 n x0 xs ((i : Int) + 1)) (if Big (allPasses xs i (x0.drop i)) then ([], 3) else (allPasses xs i (x0.drop i), 0)) := by
  induction d with
  | zero =>
    intro xs i hd hi hl hs hb
    rw [List.drop_of_length_le (by omega), allPasses, if_neg hb]
    refine Ev.step (f := fun _ => some (xs, 0)) (fun n => ?_) (ev_some _)
    simp only [spec_TransformCounts.l0]
    rw [if_neg (by omega)]
  | succ d ih =>
    intro xs i hd hi hl hs hb
    have hlt : i < x0.length := by omega
    have hg1 := hg i hlt
    have step : ∀ r, Ev (fun n => spec_TransformCounts.l1 n x0 xs ((i : Int) + 1) (rd x0 i)) r → Ev (fun n => spec_TransformCounts.l0 n x0 xs ((i : Int) + 1)) r := by
      intro r hr
      refine Ev.step (f := fun n => spec_TransformCounts.l1 n x0 xs ((i : Int) + 1) (rd x0 i)) (fun n => ?_) hr
      simp only [spec_TransformCounts.l0]
      have e : wrap64 ((i : Int) + 1 - 1) = i := by rw [wrap_id (by omega) (by omega)]; omega
      rw [e, if_pos (by omega), if_pos (by omega), if_pos (by omega)]
    refine step _ ?_
    obtain ⟨m, hm⟩ : ∃ m : Nat, rd x0 i = m := ⟨(rd x0 i).toNat, by omega⟩
    rw [drop_at x0 i hlt, allPasses, hm, Int.toNat_natCast]
    have hp : (passes xs (i + 1) m).length = xs.length := passes_length _ _ _
    have T := trans_l1 x0 (i + 1) (by omega) m (by omega) xs (by omega) (by omega) hs hb
    rw [show (((i + 1 : Nat) : Int)) = (i : Int) + 1 by omega] at T
    by_cases hbig : Big (passes xs (i + 1) m)
    · have h2 : Big (allPasses (passes xs (i + 1) m) (i + 1) (x0.drop (i + 1))) := allPasses_big _ _ _ (by rw [hp, List.length_drop]; omega) (passes_small _ _ _ hs) hbig
      rw [if_pos h2]
      exact T.2 hbig
    · refine T.1 hbig _ ?_
      have := ih (passes xs (i + 1) m) (i + 1) (by omega) (by omega) (by omega) (passes_small _ _ _ hs) hbig
      rw [show (((i + 1 : Nat) : Int)) = (i : Int) + 1 by omega] at this
      exact this

theorem transI_eq (l : List Int) : transI l = if 20 < l.length ∨ badIn 1000 l = true then ([], 2) else if Big (transL l) then ([], 3) else (transL l, 0) := by
  unfold transI
  by_cases h : 20 < l.length ∨ badIn 1000 l = true
  · rw [if_pos h, if_pos h]
  · rw [if_neg h, if_neg h]
    by_cases hb : Big (transL l)
    · rw [if_pos hb, if_pos ((maxOf_big _).2 hb)]
    · rw [if_neg hb, if_neg (fun h => hb ((maxOf_big _).1 h))]

theorem startL_small' (n : Nat) : Small (startL n) := by
  intro x hx
  rcases List.mem_cons.1 hx with rfl | h
  · omega
  · rw [(List.mem_replicate.1 h).2]; omega
theorem startL_big (n : Nat) : ¬ Big (startL n) := by
  rintro ⟨i, hi⟩
  match i, hi with
  | 0, hi => simp [startL] at hi
  | j + 1, hi =>
    simp only [startL, List.getD_cons_succ] at hi
    rw [List.getD_eq_getElem?_getD, List.getElem?_replicate] at hi
    split at hi <;> simp at hi
theorem ev_specTrans (l : List Int) (hl : l.length < 1099511627776) : Ev (fun k => spec_TransformCounts.f k l) (transI l) := by
  rw [transI_eq]
  have bad : Ev (fun k => spec_TransformCounts.j0 k l true) ([], 2) := Ev.step (f := fun _ => some ([], 2)) (fun n => by simp only [spec_TransformCounts.j0]; rw [if_pos trivial]) (ev_some _)
  show Ev (fun k => if (l.length : Int) > 20 then spec_TransformCounts.j0 k l true else (spec_l08Counts.f k l 1000).bind fun t => spec_TransformCounts.j0 k l (!t)) _
  by_cases h20 : 20 < l.length
  · rw [if_pos (.inl h20)]
    exact ev_pos (by omega) bad
  · refine ev_neg (by omega) (Ev.bind (ev_counts l 1000 hl) ?_)
    rw [Bool.not_not]
    by_cases hb : badIn 1000 l = true
    · rw [if_pos (.inr hb), hb]
      exact bad
    · have hbf := Bool.eq_false_iff.mpr hb
      rw [if_neg (by rintro (h | h); exact h20 h; exact hb h), hbf]
      have T := trans_l0 l (by omega) (fun i hi => by
        have h1 : inB (rd l i) 0 1000 = true := by simpa [badIn] using List.any_eq_false.1 hbf _ (rd_mem l i hi)
        simp only [inB, Bool.and_eq_true, decide_eq_true_eq] at h1
        exact h1) l.length (startL l.length) 0 (by omega) (by omega) (by simp [startL]) (startL_small' _) (startL_big _)
      rw [List.drop_zero] at T
      refine Ev.step (f := fun n => spec_TransformCounts.l0 n l (startL l.length) 1) (fun n => ?_) T
      simp only [spec_TransformCounts.j0]
      have e : wrap64 ((l.length : Int) + 1) = l.length + 1 := wrap_id (by omega) (by omega)
      rw [e, if_neg (by simp), if_pos (by omega), if_pos (by omega)]
      simp only [Option.bind_some, List.length_replicate]
      rw [if_pos (by omega), show ((l.length : Int) + 1).toNat = l.length + 1 by omega, show (0 : Int).toNat = 0 from rfl]
      rfl
end Go.Proofs.Ytmoodakaecmkgaa.K
