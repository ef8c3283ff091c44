/- Border circles: what both sides count; it is at most one more than the chords. Conditions: in each. No program. -/
import Derived.Test.YtihfncjpfgdhoaaVW12
set_option linter.unusedVariables false
set_option linter.unusedSimpArgs false
namespace Go.Proofs.Ytihfncjpfgdhoaa.V
open Go
theorem gD_set {α : Type} (l : List α) (i j : Nat) (x d : α) (h : i < l.length) : (l.set i x).getD j d = if j = i then x else l.getD j d := by
  simp only [List.getD_eq_getElem?_getD, List.getElem?_set]
  by_cases e : i = j
  · subst e; simp [h]
  · rw [if_neg e, if_neg (fun h => e h.symm)]
theorem gD_rep {α : Type} (n j : Nat) (x : α) : (List.replicate n x).getD j x = x := by
  simp only [List.getD_eq_getElem?_getD, List.getElem?_replicate]; split <;> rfl
/-! ### marks and trails -/
theorem count_dn {S : List Bool} {a : Nat} (h : a < S.length) (hn : S.getD a false = false) : (S.set a true).count false < S.count false := by
  have e : S[a] = false := by rwa [List.getD_eq_getElem?_getD, List.getElem?_eq_getElem h] at hn
  rw [List.count_set h, e]
  have h2 : 0 < S.count false := List.count_pos_iff.mpr (by rw [← e]; exact List.getElem_mem h)
  simp; omega
theorem count_up (S : List Bool) (a : Nat) : (S.set a true).count false ≤ S.count false := by
  by_cases h : a < S.length
  · rw [List.count_set h]; simp
  · rw [List.set_eq_of_length_le (by omega)]; omega
theorem count_mk {S : List Bool} {a b : Nat} (h : a < S.length ∧ S.getD a false = false) : ((S.set a true).set b true).count false < S.count false :=
  Nat.lt_of_le_of_lt (count_up _ _) (count_dn h.1 h.2)
/-- All points that are marked along the trail from a. -/
def trail (p r : Nat → Nat) (S : List Bool) (a : Nat) : List Bool :=
  if h : a < S.length ∧ S.getD a false = false then trail p r ((S.set a true).set (p a) true) (r (p a)) else S
termination_by S.count false
decreasing_by exact count_mk h
theorem trail_go {p r : Nat → Nat} {S : List Bool} {a : Nat} (h : a < S.length) (hn : S.getD a false = false) : trail p r S a = trail p r ((S.set a true).set (p a) true) (r (p a)) := by
  rw [trail, dif_pos ⟨h, hn⟩]
theorem trail_end {p r : Nat → Nat} {S : List Bool} {a : Nat} (hn : S.getD a false = true) : trail p r S a = S := by
  rw [trail, dif_neg (fun h => by rw [h.2] at hn; cases hn)]
theorem trail_len (p r : Nat → Nat) (S : List Bool) (a : Nat) : (trail p r S a).length = S.length := by
  by_cases h : a < S.length ∧ S.getD a false = false
  · rw [trail, dif_pos h, trail_len]; simp
  · rw [trail, dif_neg h]
termination_by S.count false
decreasing_by exact count_mk h
/-- p and r lead back, and nothing to itself. -/
structure Flip (m : Nat) (p : Nat → Nat) : Prop where
  lt : ∀ x, x < m → p x < m
  bk : ∀ x, x < m → p (p x) = x
  ne : ∀ x, x < m → p x ≠ x
abbrev mkd (S : List Bool) (x : Nat) : Prop := S.getD x false = true
def Shut (m : Nat) (p : Nat → Nat) (S : List Bool) : Prop := ∀ x, x < m → mkd S x → mkd S (p x)
structure OnTrail (m : Nat) (p r : Nat → Nat) (i : Nat) (S : List Bool) (a : Nat) : Prop where
  len : S.length = m
  lt : a < m
  i1 : Shut m p S
  i2 : ∀ x, x < m → mkd S x → x = i ∨ r x = a ∨ (mkd S (r x) ∧ x ≠ a)
  i3 : (a = i ∧ ¬ mkd S i) ∨ mkd S (r a)
theorem mkd_two {S : List Bool} {a b x : Nat} (ha : a < S.length) (hb : b < S.length) : mkd ((S.set a true).set b true) x ↔ (x = a ∨ x = b ∨ mkd S x) := by
  unfold mkd
  rw [gD_set _ _ _ _ _ (by rw [List.length_set]; exact hb), gD_set _ _ _ _ _ ha]
  by_cases h1 : x = b
  · simp [h1]
  · by_cases h2 : x = a
    · simp [h2]
    · simp [h1, h2]
theorem OnTrail.go {m : Nat} {p r : Nat → Nat} {i : Nat} {S : List Bool} {a : Nat} (hp : Flip m p) (hr : Flip m r) (h : OnTrail m p r i S a) (hn : ¬ mkd S a) : OnTrail m p r i ((S.set a true).set (p a) true) (r (p a)) := by
  have ha := h.lt
  have hpa := hp.lt a ha
  have hm : ∀ x, mkd ((S.set a true).set (p a) true) x ↔ (x = a ∨ x = p a ∨ mkd S x) := fun x => mkd_two (by rw [h.len]; exact ha) (by rw [h.len]; exact hpa)
  have npa : ¬ mkd S (p a) := fun e => hn (by have := h.i1 _ hpa e; rwa [hp.bk a ha] at this)
  refine ⟨by simpa using h.len, hr.lt _ hpa, fun x hx e => ?_, fun x hx e => ?_, ?_⟩
  · rw [hm] at e ⊢
    rcases e with e | e | e
    · exact .inr (.inl (by rw [e]))
    · exact .inl (by rw [e, hp.bk a ha])
    · exact .inr (.inr (h.i1 x hx e))
  · rw [hm] at e
    rcases e with e | e | e
    · subst e
      rcases h.i3 with ⟨e, _⟩ | e
      · exact .inl e
      · refine .inr (.inr ⟨(hm _).2 (.inr (.inr e)), fun k => npa ?_⟩)
        have : r x = p x := by rw [k, hr.bk _ hpa, ← k]
        rwa [this] at e
    · exact .inr (.inl (by rw [e]))
    · rcases h.i2 x hx e with k | k | ⟨k, k2⟩
      · exact .inl k
      · refine .inr (.inr ⟨(hm _).2 (.inl k), fun k2 => ?_⟩)
        have e3 : r x = p a := by rw [k2, hr.bk _ hpa]
        exact hp.ne a ha (by rw [← e3, k])
      · refine .inr (.inr ⟨(hm _).2 (.inr (.inr k)), fun k3 => npa ?_⟩)
        have e3 : r x = p a := by rw [k3, hr.bk _ hpa]
        rwa [e3] at k
  · refine .inr ((hm _).2 (.inr (.inl ?_)))
    exact hr.bk _ hpa
theorem OnTrail.stop {m : Nat} {p r : Nat → Nat} {i : Nat} {S : List Bool} {a : Nat} (hr : Flip m r) (h : OnTrail m p r i S a) (hc : mkd S a) : Shut m p S ∧ Shut m r S ∧ mkd S i := by
  have e : a = i := by
    rcases h.i2 a h.lt hc with e | e | e
    · exact e
    · exact absurd e (hr.ne a h.lt)
    · exact absurd rfl e.2
  subst e
  have hb : mkd S (r a) := by
    rcases h.i3 with ⟨_, k⟩ | k
    · exact absurd hc k
    · exact k
  refine ⟨h.i1, fun x hx e => ?_, hc⟩
  rcases h.i2 x hx e with k | k | k
  · rw [k]; exact hb
  · rw [k]; exact hc
  · exact k.1
theorem trail_shut {m : Nat} {p r : Nat → Nat} {i : Nat} (hp : Flip m p) (hr : Flip m r) (S : List Bool) (a : Nat) (h : OnTrail m p r i S a) :
    Shut m p (trail p r S a) ∧ Shut m r (trail p r S a) ∧ mkd (trail p r S a) i ∧ ∀ x, mkd S x → mkd (trail p r S a) x := by
  by_cases hc : mkd S a
  · rw [trail_end hc]
    have := h.stop hr hc
    exact ⟨this.1, this.2.1, this.2.2, fun _ h => h⟩
  · have hcf : S.getD a false = false := by simpa [mkd] using hc
    have hl : a < S.length := by rw [h.len]; exact h.lt
    rw [trail_go hl hcf]
    have := trail_shut hp hr _ _ (h.go hp hr hc)
    exact ⟨this.1, this.2.1, this.2.2.1, fun x hx => this.2.2.2 x ((mkd_two hl (by rw [h.len]; exact hp.lt a h.lt)).2 (.inr (.inr hx)))⟩
termination_by S.count false
decreasing_by exact count_mk ⟨hl, hcf⟩
theorem OnTrail.start {m : Nat} {p r : Nat → Nat} {i : Nat} {S : List Bool} (hl : S.length = m) (hi : i < m) (h1 : Shut m p S) (h2 : Shut m r S) (hn : ¬ mkd S i) : OnTrail m p r i S i :=
  ⟨hl, hi, h1, fun x hx e => .inr (.inr ⟨h2 x hx e, fun k => hn (k ▸ e)⟩), .inl ⟨rfl, hn⟩⟩
/-- How many starts of trails there are from s on. -/
def cntC (p r : Nat → Nat) : Nat → List Bool → Nat → Nat
  | 0, _, _ => 0
  | d + 1, S, s => if S.getD s false = true then cntC p r d S (s + 1) else cntC p r d (trail p r S s) (s + 1) + 1
theorem cnt_skip {p r : Nat → Nat} {d s : Nat} {S : List Bool} (h : S.getD s false = true) : cntC p r (d + 1) S s = cntC p r d S (s + 1) := by rw [cntC, if_pos h]
theorem cnt_new {p r : Nat → Nat} {d s : Nat} {S : List Bool} (h : S.getD s false = false) : cntC p r (d + 1) S s = cntC p r d (trail p r S s) (s + 1) + 1 := by rw [cntC, if_neg (by rw [h]; decide)]
/-- The starts are among some points. -/
theorem cnt_le {m : Nat} {p r : Nat → Nat} (hp : Flip m p) (hr : Flip m r) (Φ : Nat → Nat) (hΦ : ∀ s, s < m → (∃ t, t < s ∧ (p s = t ∨ r s = t)) ∨ Φ (s + 1) + 1 ≤ Φ s) (hm : ∀ s, Φ (s + 1) ≤ Φ s) :
    ∀ (d s : Nat) (S : List Bool), s + d = m → S.length = m → Shut m p S → Shut m r S → (∀ x, x < s → mkd S x) → cntC p r d S s ≤ Φ s := by
  intro d
  induction d with
  | zero => intros; exact Nat.zero_le _
  | succ d ih =>
    intro s S hd hl h1 h2 h3
    have h3' : ∀ S' : List Bool, (∀ x, mkd S x → mkd S' x) → mkd S' s → ∀ x, x < s + 1 → mkd S' x := fun S' k1 k2 x hx => by
      by_cases e : x = s
      · rw [e]; exact k2
      · exact k1 x (h3 x (by omega))
    by_cases hc : mkd S s
    · rw [cnt_skip hc]
      exact Nat.le_trans (ih (s + 1) S (by omega) hl h1 h2 (h3' S (fun _ h => h) hc)) (hm s)
    · have hcf : S.getD s false = false := by simpa [mkd] using hc
      have hT := trail_shut hp hr S s (OnTrail.start hl (by omega) h1 h2 hc)
      rw [cnt_new hcf]
      have := ih (s + 1) (trail p r S s) (by omega) (by rw [trail_len]; exact hl) hT.1 hT.2.1 (h3' _ hT.2.2.2 hT.2.2.1)
      rcases hΦ s (by omega) with ⟨t, ht, k | k⟩ | k
      · exfalso; apply hc
        have := h1 t (by omega) (h3 t ht)
        rw [← k, hp.bk s (by omega)] at this; exact this
      · exfalso; apply hc
        have := h2 t (by omega) (h3 t ht)
        rw [← k, hr.bk s (by omega)] at this; exact this
      · omega
/-! ### the ring -/
def rng (m t : Nat) : Nat := if t % 2 = 1 then (t + 1) % (2 * m) else (t + 2 * m - 1) % (2 * m)
theorem rng_odd {m t : Nat} (ht : t < 2 * m) (h : t % 2 = 1) : rng m t = if t + 1 = 2 * m then 0 else t + 1 := by
  rw [rng, if_pos h]
  split
  · rename_i e; rw [e, Nat.mod_self]
  · rw [Nat.mod_eq_of_lt (by omega)]
theorem rng_even {m t : Nat} (ht : t < 2 * m) (h : t % 2 = 0) : rng m t = if t = 0 then 2 * m - 1 else t - 1 := by
  rw [rng, if_neg (by omega)]
  split
  · rename_i e; rw [e, Nat.mod_eq_of_lt (by omega)]; omega
  · rw [show t + 2 * m - 1 = (t - 1) + 2 * m by omega, Nat.add_mod_right, Nat.mod_eq_of_lt (by omega)]
theorem rng_flip (m : Nat) : Flip (2 * m) (rng m) := by
  have key : ∀ x, x < 2 * m → rng m x < 2 * m ∧ rng m x ≠ x ∧ rng m (rng m x) = x := by
    intro x hx
    rcases Nat.mod_two_eq_zero_or_one x with h | h
    · rw [rng_even hx h]
      by_cases e : x = 0
      · rw [if_pos e, rng_odd (by omega) (by omega), if_pos (by omega)]; omega
      · rw [if_neg e, rng_odd (by omega) (by omega), if_neg (by omega)]; omega
    · rw [rng_odd hx h]
      by_cases e : x + 1 = 2 * m
      · rw [if_pos e, rng_even (by omega) (by omega), if_pos rfl]; omega
      · rw [if_neg e, rng_even (by omega) (by omega), if_neg (by omega)]; omega
  exact ⟨fun x hx => (key x hx).1, fun x hx => (key x hx).2.2, fun x hx => (key x hx).2.1⟩
/-- The table of the ring behind i rounds. -/
def ringI (m : Nat) : Nat → List Int
  | 0 => List.replicate (2 * m) 0
  | i + 1 => ((ringI m i).set (2 * i + 1) (((2 * i + 2) % (2 * m) : Nat) : Int)).set ((2 * i + 2) % (2 * m)) ((2 * i + 1 : Nat) : Int)
theorem ringI_len (m : Nat) : ∀ i, (ringI m i).length = 2 * m
  | 0 => by simp [ringI]
  | i + 1 => by simp [ringI, ringI_len m i]
theorem ringI_get {m : Nat} : ∀ (i : Nat), i ≤ m → ∀ t, t < 2 * m → ((t % 2 = 1 ∧ t / 2 < i) ∨ (t % 2 = 0 ∧ t ≠ 0 ∧ t / 2 ≤ i) ∨ (t = 0 ∧ i = m)) → (ringI m i).getD t 0 = (rng m t : Int)
  | 0, _, t, ht, h => by omega
  | i + 1, hi, t, ht, h => by
    have hl := ringI_len m i
    have hlt : (2 * i + 2) % (2 * m) < 2 * m := Nat.mod_lt _ (by omega)
    have hmod : (2 * i + 2) % (2 * m) = if i + 1 = m then 0 else 2 * i + 2 := by
      split
      · rw [show 2 * i + 2 = 2 * m by omega, Nat.mod_self]
      · rw [Nat.mod_eq_of_lt (by omega)]
    rw [ringI, gD_set _ _ _ _ _ (by rw [List.length_set, hl]; exact hlt), gD_set _ _ _ _ _ (by rw [hl]; omega)]
    by_cases e1 : t = (2 * i + 2) % (2 * m)
    · rw [if_pos e1]
      have hev : t % 2 = 0 := by rw [e1, hmod]; split <;> omega
      rw [rng_even ht hev, e1, hmod]
      split
      · rename_i e; rw [if_pos rfl]; omega
      · rw [if_neg (by omega)]; omega
    · rw [if_neg e1]
      by_cases e2 : t = 2 * i + 1
      · rw [if_pos e2, e2, rng_odd (by omega) (by omega), hmod]
        by_cases e : i + 1 = m
        · rw [if_pos e, if_pos (by omega)]
        · rw [if_neg e, if_neg (by omega)]
      · rw [if_neg e2]
        refine ringI_get i (by omega) t ht ?_
        rw [hmod] at e1
        split at e1 <;> omega
/-! ### bands -/
def band1 (tw : Bool) (a b : Nat) (l : List Int) : List Int := match tw with
  | true => (((l.set (2 * a) ((2 * b : Nat) : Int)).set (2 * b) ((2 * a : Nat) : Int)).set (2 * a + 1) ((2 * b + 1 : Nat) : Int)).set (2 * b + 1) ((2 * a + 1 : Nat) : Int)
  | false => (((l.set (2 * a) ((2 * b + 1 : Nat) : Int)).set (2 * b + 1) ((2 * a : Nat) : Int)).set (2 * a + 1) ((2 * b : Nat) : Int)).set (2 * b) ((2 * a + 1 : Nat) : Int)
theorem band1_len (tw : Bool) (a b : Nat) (l : List Int) : (band1 tw a b l).length = l.length := by cases tw <;> simp [band1]
/-- The bands behind the first i chords. -/
def bandI (w : List Int) (tw : Nat → Bool) : Nat → List Int
  | 0 => List.replicate (2 * w.length) 0
  | i + 1 => band1 (tw i) (pl1 w i).toNat (pl2 w i).toNat (bandI w tw i)
theorem bandI_len (w : List Int) (tw : Nat → Bool) : ∀ i, (bandI w tw i).length = 2 * w.length
  | 0 => by simp [bandI]
  | i + 1 => by rw [bandI, band1_len, bandI_len w tw i]
/-- Where the band at point t leads. -/
def bp (w : List Int) (tw : Nat → Bool) (t : Nat) : Nat :=
  2 * (if t / 2 = (pl1 w (w.getD (t / 2) 0)).toNat then (pl2 w (w.getD (t / 2) 0)).toNat else (pl1 w (w.getD (t / 2) 0)).toNat) + (if tw (w.getD (t / 2) 0).toNat = true then t % 2 else 1 - t % 2)
theorem bp_a {w : List Int} {tw : Nat → Bool} {j a b k : Nat} (hk : k < 2) (h1 : pl1 w j = a) (h2 : pl2 w j = b) (h3 : w.getD a 0 = j) : bp w tw (2 * a + k) = 2 * b + (if tw j = true then k else 1 - k) := by
  have e1 : (2 * a + k) / 2 = a := by omega
  have e2 : (2 * a + k) % 2 = k := by omega
  rw [bp, e1, e2, h3, h1, h2, Int.toNat_natCast, Int.toNat_natCast, Int.toNat_natCast, if_pos rfl]
theorem bp_b {w : List Int} {tw : Nat → Bool} {j a b k : Nat} (hk : k < 2) (hab : a < b) (h1 : pl1 w j = a) (h2 : pl2 w j = b) (h3 : w.getD b 0 = j) : bp w tw (2 * b + k) = 2 * a + (if tw j = true then k else 1 - k) := by
  have e1 : (2 * b + k) / 2 = b := by omega
  have e2 : (2 * b + k) % 2 = k := by omega
  rw [bp, e1, e2, h3, h1, h2, Int.toNat_natCast, Int.toNat_natCast, Int.toNat_natCast, if_neg (by omega)]
theorem chord_of {w : List Int} {n : Nat} (hw : Go.Proofs.Ytihfncjpfgdhoaa.L.Word w n) {j : Nat} (hj : j < n) : ∃ a b : Nat, a < b ∧ b < w.length ∧ pl1 w j = a ∧ pl2 w j = b ∧ w.getD a 0 = j ∧ w.getD b 0 = j ∧ ∀ i, i < w.length → w.getD i 0 = j → i = a ∨ i = b := by
  obtain ⟨a, b, h1, h2, h3, h4, _, _, h5, h6, h7⟩ := pl_two (hw.two j hj)
  exact ⟨a, b, h1, h2, h3, h4, h5, h6, h7⟩
theorem letter_of {w : List Int} {n : Nat} (hw : Go.Proofs.Ytihfncjpfgdhoaa.L.Word w n) {t : Nat} (ht : t < w.length) : ∃ j : Nat, j < n ∧ w.getD t 0 = j := by
  have h := hw.range t ht
  have e : Go.Proofs.YtihfncjpfgdhoaaW.PrintWords.rd w t = w.getD t 0 := by show w.getD ((t : Int)).toNat 0 = _; rw [Int.toNat_natCast]
  rw [e] at h
  exact ⟨(w.getD t 0).toNat, by omega, by omega⟩
theorem bp_flip {w : List Int} {n : Nat} (hw : Go.Proofs.Ytihfncjpfgdhoaa.L.Word w n) (tw : Nat → Bool) : Flip (2 * w.length) (bp w tw) := by
  have key : ∀ x, x < 2 * w.length → bp w tw x < 2 * w.length ∧ bp w tw x ≠ x ∧ bp w tw (bp w tw x) = x := by
    intro x hx
    obtain ⟨j, hj, ej⟩ := letter_of hw (t := x / 2) (by omega)
    obtain ⟨a, b, ab, bl, p1, p2, wa, wb, only⟩ := chord_of hw hj
    have hk : (if tw j = true then x % 2 else 1 - x % 2) < 2 := by split <;> omega
    have hkk : (if tw j = true then (if tw j = true then x % 2 else 1 - x % 2) else 1 - (if tw j = true then x % 2 else 1 - x % 2)) = x % 2 := by split <;> omega
    rcases only (x / 2) (by omega) ej with e | e
    · have ex : x = 2 * a + x % 2 := by omega
      have h := bp_a (tw := tw) (k := x % 2) (by omega) p1 p2 wa
      rw [← ex] at h
      rw [h]
      refine ⟨by omega, by omega, ?_⟩
      rw [bp_b hk ab p1 p2 wb, hkk]; omega
    · have ex : x = 2 * b + x % 2 := by omega
      have h := bp_b (tw := tw) (k := x % 2) (by omega) ab p1 p2 wb
      rw [← ex] at h
      rw [h]
      refine ⟨by omega, by omega, ?_⟩
      rw [bp_a hk p1 p2 wa, hkk]; omega
  exact ⟨fun x hx => (key x hx).1, fun x hx => (key x hx).2.2, fun x hx => (key x hx).2.1⟩
theorem bandI_get {w : List Int} {n : Nat} (hw : Go.Proofs.Ytihfncjpfgdhoaa.L.Word w n) (tw : Nat → Bool) : ∀ (i : Nat), i ≤ n → ∀ t, t < 2 * w.length → w.getD (t / 2) 0 < (i : Int) → (bandI w tw i).getD t 0 = (bp w tw t : Int)
  | 0, _, t, ht, h => by
    obtain ⟨j, hj, ej⟩ := letter_of hw (t := t / 2) (by omega)
    omega
  | i + 1, hi, t, ht, h => by
    obtain ⟨j, hj, ej⟩ := letter_of hw (t := t / 2) (by omega)
    obtain ⟨a, b, ab, bl, p1, p2, wa, wb, only⟩ := chord_of hw (j := i) (by omega)
    have hl := bandI_len w tw i
    have ih := bandI_get hw tw i (by omega) t ht
    rw [bandI, p1, p2, Int.toNat_natCast, Int.toNat_natCast]
    have A := fun k hk => bp_a (tw := tw) (k := k) hk p1 p2 wa
    have B := fun k hk => bp_b (tw := tw) (k := k) hk ab p1 p2 wb
    have A0 := A 0 (by omega)
    have A1 := A 1 (by omega)
    have B0 := B 0 (by omega)
    have B1 := B 1 (by omega)
    have hnot : t ≠ 2 * a → t ≠ 2 * a + 1 → t ≠ 2 * b → t ≠ 2 * b + 1 → w.getD (t / 2) 0 < (i : Int) := by
      intro h1 h2 h3 h4
      have : w.getD (t / 2) 0 ≠ i := fun e => by
        rcases only (t / 2) (by omega) e with h | h <;> omega
      omega
    cases htw : tw i with
    | true =>
      rw [if_pos htw] at A0 A1 B0 B1
      show ((((bandI w tw i).set _ _).set _ _).set _ _ |>.set _ _).getD t 0 = _
      rw [gD_set _ _ _ _ _ (by simp only [List.length_set]; omega), gD_set _ _ _ _ _ (by simp only [List.length_set]; omega), gD_set _ _ _ _ _ (by simp only [List.length_set]; omega), gD_set _ _ _ _ _ (by omega)]
      by_cases e1 : t = 2 * b + 1
      · rw [if_pos e1, e1, B1]
      rw [if_neg e1]
      by_cases e2 : t = 2 * a + 1
      · rw [if_pos e2, e2, A1]
      rw [if_neg e2]
      by_cases e3 : t = 2 * b
      · rw [if_pos e3, e3, show 2 * b = 2 * b + 0 from rfl, B0]; rfl
      rw [if_neg e3]
      by_cases e4 : t = 2 * a
      · rw [if_pos e4, e4, show 2 * a = 2 * a + 0 from rfl, A0]; rfl
      rw [if_neg e4]
      exact ih (hnot e4 e2 e3 e1)
    | false =>
      rw [if_neg (by rw [htw]; decide)] at A0 A1 B0 B1
      show ((((bandI w tw i).set _ _).set _ _).set _ _ |>.set _ _).getD t 0 = _
      rw [gD_set _ _ _ _ _ (by simp only [List.length_set]; omega), gD_set _ _ _ _ _ (by simp only [List.length_set]; omega), gD_set _ _ _ _ _ (by simp only [List.length_set]; omega), gD_set _ _ _ _ _ (by omega)]
      by_cases e1 : t = 2 * b
      · rw [if_pos e1, e1, show 2 * b = 2 * b + 0 from rfl, B0]
      rw [if_neg e1]
      by_cases e2 : t = 2 * a + 1
      · rw [if_pos e2, e2, A1]; rfl
      rw [if_neg e2]
      by_cases e3 : t = 2 * b + 1
      · rw [if_pos e3, e3, B1]; rfl
      rw [if_neg e3]
      by_cases e4 : t = 2 * a
      · rw [if_pos e4, e4, show 2 * a = 2 * a + 0 from rfl, A0]
      rw [if_neg e4]
      exact ih (hnot e4 e2 e1 e3)
/-- The number of border circles. -/
def circ (w : List Int) (tw : Nat → Bool) : Nat :=
  if w.length = 0 then 1 else cntC (bp w tw) (rng w.length) (2 * w.length) (List.replicate (2 * w.length) false) 0
/-- Chords whose first place is not passed. -/
def phi (w : List Int) (n s : Nat) : Nat := (if s = 0 then 1 else 0) + (List.range n).countP (fun j : Nat => decide (s ≤ 2 * (pl1 w j).toNat + 1))
theorem countP_lt {α : Type} {p q : α → Bool} : ∀ {l : List α}, (∀ x ∈ l, p x = true → q x = true) → (∃ x ∈ l, q x = true ∧ p x = false) → l.countP p + 1 ≤ l.countP q
  | [], _, h => by obtain ⟨_, h, _⟩ := h; cases h
  | x :: l, h, hx => by
    obtain ⟨y, hy, q1, p1⟩ := hx
    have h' := fun z hz => h z (List.mem_cons_of_mem _ hz)
    rw [List.countP_cons, List.countP_cons]
    rcases List.mem_cons.1 hy with e | e
    · subst e
      have := List.countP_mono_left (l := l) (p := p) (q := q) h'
      rw [p1, q1]; simp; omega
    · have := countP_lt h' ⟨y, e, q1, p1⟩
      have hx := h x (List.mem_cons_self ..)
      cases e1 : p x with
      | true => rw [hx e1]; simp; omega
      | false => cases q x <;> simp <;> omega
theorem phi_step {w : List Int} {n : Nat} (s : Nat) : phi w n (s + 1) ≤ phi w n s := by
  unfold phi
  have := List.countP_mono_left (l := List.range n) (p := fun j : Nat => decide (s + 1 ≤ 2 * (pl1 w j).toNat + 1)) (q := fun j : Nat => decide (s ≤ 2 * (pl1 w j).toNat + 1)) (fun x _ h => by
    have h := of_decide_eq_true h
    exact decide_eq_true (by omega))
  rw [if_neg (by omega)]
  omega
theorem phi_start {w : List Int} {n : Nat} (hw : Go.Proofs.Ytihfncjpfgdhoaa.L.Word w n) (tw : Nat → Bool) (s : Nat) (hs : s < 2 * w.length) : (∃ t, t < s ∧ (bp w tw s = t ∨ rng w.length s = t)) ∨ phi w n (s + 1) + 1 ≤ phi w n s := by
  by_cases h0 : s = 0
  · right
    unfold phi
    have := List.countP_mono_left (l := List.range n) (p := fun j : Nat => decide (s + 1 ≤ 2 * (pl1 w j).toNat + 1)) (q := fun j : Nat => decide (s ≤ 2 * (pl1 w j).toNat + 1)) (fun x _ h => by
      have h := of_decide_eq_true h
      exact decide_eq_true (by omega))
    rw [if_neg (by omega), if_pos h0]
    omega
  · rcases Nat.mod_two_eq_zero_or_one s with h | h
    · left
      exact ⟨s - 1, by omega, .inr (by rw [rng_even hs h, if_neg h0])⟩
    · obtain ⟨j, hj, ej⟩ := letter_of hw (t := s / 2) (by omega)
      obtain ⟨a, b, ab, bl, p1, p2, wa, wb, only⟩ := chord_of hw hj
      rcases only (s / 2) (by omega) ej with e | e
      · right
        unfold phi
        rw [if_neg (by omega), if_neg h0, Nat.zero_add, Nat.zero_add]
        refine countP_lt (fun x _ h => ?_) ⟨j, List.mem_range.2 hj, ?_, ?_⟩
        · have h := of_decide_eq_true h
          exact decide_eq_true (by omega)
        · rw [p1, Int.toNat_natCast]; exact decide_eq_true (by omega)
        · rw [p1, Int.toNat_natCast]; exact decide_eq_false (by omega)
      · left
        have ex : s = 2 * b + 1 := by omega
        have hb := bp_b (tw := tw) (k := 1) (by omega) ab p1 p2 wb
        rw [← ex] at hb
        exact ⟨_, by rw [hb]; split <;> omega, .inl rfl⟩
theorem circ_le {w : List Int} {n : Nat} (hw : Go.Proofs.Ytihfncjpfgdhoaa.L.Word w n) (tw : Nat → Bool) : circ w tw ≤ n + 1 := by
  unfold circ
  split
  · omega
  · have hn : ∀ x, ¬ mkd (List.replicate (2 * w.length) false) x := fun x h => by rw [mkd, gD_rep] at h; cases h
    have h := cnt_le (bp_flip hw tw) (rng_flip w.length) (phi w n) (phi_start hw tw) phi_step (2 * w.length) 0 (List.replicate (2 * w.length) false) (by omega) (by simp) (fun x _ h => absurd h (hn x)) (fun x _ h => absurd h (hn x)) (fun x h => by omega)
    have : phi w n 0 ≤ 1 + n := by
      unfold phi
      have := List.countP_le_length (l := List.range n) (p := fun j : Nat => decide (0 ≤ 2 * (pl1 w j).toNat + 1))
      rw [List.length_range] at this
      rw [if_pos rfl]; omega
    omega
theorem cntC_le (p r : Nat → Nat) : ∀ d S s, cntC p r d S s ≤ d
  | 0, _, _ => Nat.le_refl _
  | d + 1, S, s => by
    rw [cntC]
    have h1 := cntC_le p r d S (s + 1)
    have h2 := cntC_le p r d (trail p r S s) (s + 1)
    split <;> omega
theorem circ_pos (w : List Int) (tw : Nat → Bool) : 1 ≤ circ w tw := by
  unfold circ
  split
  · omega
  · obtain ⟨d, hd⟩ : ∃ d, 2 * w.length = d + 1 := ⟨2 * w.length - 1, by omega⟩
    rw [hd, cnt_new (gD_rep _ _ _)]; omega
end Go.Proofs.Ytihfncjpfgdhoaa.V
