/- Border circles without twists are the cycles of a permutation. Conditions: words. No program. -/
import Derived.Test.YtokakggilajjlaaVC4
set_option linter.unusedVariables false
set_option linter.unusedSimpArgs false
namespace Go.Proofs.Ytokakggilajjlaa.V
open Go
theorem count_m1 {S : List Bool} {a : Nat} (h : a < S.length ∧ S.getD a false = false) : (S.set a true).count false < S.count false := count_dn h.1 h.2
/-- All points marked along f from a. -/
def trailC (f : Nat → Nat) (S : List Bool) (a : Nat) : List Bool :=
  if h : a < S.length ∧ S.getD a false = false then trailC f (S.set a true) (f a) else S
termination_by S.count false
decreasing_by exact count_m1 h
theorem trailC_go {f : Nat → Nat} {S : List Bool} {a : Nat} (h : a < S.length) (hn : S.getD a false = false) : trailC f S a = trailC f (S.set a true) (f a) := by
  rw [trailC, dif_pos ⟨h, hn⟩]
theorem trailC_end {f : Nat → Nat} {S : List Bool} {a : Nat} (hn : S.getD a false = true) : trailC f S a = S := by
  rw [trailC, dif_neg (fun h => by rw [h.2] at hn; cases hn)]
theorem trailC_len (f : Nat → Nat) (S : List Bool) (a : Nat) : (trailC f S a).length = S.length := by
  by_cases h : a < S.length ∧ S.getD a false = false
  · rw [trailC, dif_pos h, trailC_len]; simp
  · rw [trailC, dif_neg h]
termination_by S.count false
decreasing_by exact count_m1 h
def cntF (f : Nat → Nat) : Nat → List Bool → Nat → Nat
  | 0, _, _ => 0
  | d + 1, S, s => if S.getD s false = true then cntF f d S (s + 1) else cntF f d (trailC f S s) (s + 1) + 1
theorem cntF_skip {f : Nat → Nat} {d s : Nat} {S : List Bool} (h : S.getD s false = true) : cntF f (d + 1) S s = cntF f d S (s + 1) := by rw [cntF, if_pos h]
theorem cntF_new {f : Nat → Nat} {d s : Nat} {S : List Bool} (h : S.getD s false = false) : cntF f (d + 1) S s = cntF f d (trailC f S s) (s + 1) + 1 := by rw [cntF, if_neg (by rw [h]; decide)]
/-- f and g lead back. -/
structure Bck (m : Nat) (f g : Nat → Nat) : Prop where
  fl : ∀ x, x < m → f x < m
  gl : ∀ x, x < m → g x < m
  fg : ∀ x, x < m → f (g x) = x
  gf : ∀ x, x < m → g (f x) = x
theorem mkd_one {S : List Bool} {a x : Nat} (ha : a < S.length) : mkd (S.set a true) x ↔ (x = a ∨ mkd S x) := by
  unfold mkd
  rw [gD_set _ _ _ _ _ ha]
  by_cases h : x = a <;> simp [h]
structure OnC (m : Nat) (f g : Nat → Nat) (i : Nat) (S : List Bool) (a : Nat) : Prop where
  len : S.length = m
  lt : a < m
  j2 : ∀ x, x < m → mkd S x → f x = a ∨ mkd S (f x)
  j3 : (a = i ∧ ¬ mkd S i) ∨ mkd S (g a)
  j4 : ∀ x, x < m → mkd S x → x = i ∨ (mkd S (g x) ∧ x ≠ a)
theorem OnC.go {m : Nat} {f g : Nat → Nat} {i : Nat} {S : List Bool} {a : Nat} (hp : Bck m f g) (h : OnC m f g i S a) (hn : ¬ mkd S a) : OnC m f g i (S.set a true) (f a) := by
  have ha := h.lt
  have hm : ∀ x, mkd (S.set a true) x ↔ (x = a ∨ mkd S x) := fun x => mkd_one (by rw [h.len]; exact ha)
  refine ⟨by simpa using h.len, hp.fl a ha, fun x hx e => ?_, .inr ((hm _).2 (.inl (hp.gf a ha))), fun x hx e => ?_⟩
  · rw [hm] at e
    rcases e with e | e
    · exact .inl (by rw [e])
    · rcases h.j2 x hx e with k | k
      · exact .inr ((hm _).2 (.inl k))
      · exact .inr ((hm _).2 (.inr k))
  · rw [hm] at e
    rcases e with e | e
    · subst e
      rcases h.j3 with ⟨k, _⟩ | k
      · exact .inl k
      · refine .inr ⟨(hm _).2 (.inr k), fun k2 => hn ?_⟩
        have : g x = x := by
          have := hp.gf x ha
          rwa [← k2] at this
        rwa [this] at k
    · rcases h.j4 x hx e with k | ⟨k, k2⟩
      · exact .inl k
      · refine .inr ⟨(hm _).2 (.inr k), fun k3 => hn ?_⟩
        have : g x = a := by rw [k3, hp.gf a ha]
        rwa [this] at k
theorem OnC.stop {m : Nat} {f g : Nat → Nat} {i : Nat} {S : List Bool} {a : Nat} (h : OnC m f g i S a) (hc : mkd S a) : Shut m f S ∧ Shut m g S ∧ mkd S i := by
  have e : a = i := by
    rcases h.j4 a h.lt hc with e | e
    · exact e
    · exact absurd rfl e.2
  subst e
  have hb : mkd S (g a) := by
    rcases h.j3 with ⟨_, k⟩ | k
    · exact absurd hc k
    · exact k
  refine ⟨fun x hx e => ?_, fun x hx e => ?_, hc⟩
  · rcases h.j2 x hx e with k | k
    · rw [k]; exact hc
    · exact k
  · rcases h.j4 x hx e with k | k
    · rw [k]; exact hb
    · exact k.1
theorem trailC_shut {m : Nat} {f g : Nat → Nat} {i : Nat} (hp : Bck m f g) (S : List Bool) (a : Nat) (h : OnC m f g i S a) :
    Shut m f (trailC f S a) ∧ Shut m g (trailC f S a) ∧ mkd (trailC f S a) i ∧ ∀ x, mkd S x → mkd (trailC f S a) x := by
  by_cases hc : mkd S a
  · rw [trailC_end hc]
    have := h.stop hc
    exact ⟨this.1, this.2.1, this.2.2, fun _ h => h⟩
  · have hcf : S.getD a false = false := by simpa [mkd] using hc
    have hl : a < S.length := by rw [h.len]; exact h.lt
    rw [trailC_go hl hcf]
    have := trailC_shut hp _ _ (h.go hp hc)
    exact ⟨this.1, this.2.1, this.2.2.1, fun x hx => this.2.2.2 x ((mkd_one hl).2 (.inr hx))⟩
termination_by S.count false
decreasing_by exact count_m1 ⟨hl, hcf⟩
theorem OnC.start {m : Nat} {f g : Nat → Nat} {i : Nat} {S : List Bool} (hl : S.length = m) (hi : i < m) (h1 : Shut m f S) (h2 : Shut m g S) (hn : ¬ mkd S i) : OnC m f g i S i :=
  ⟨hl, hi, fun x hx e => .inr (h1 x hx e), .inl ⟨rfl, hn⟩, fun x hx e => .inr ⟨h2 x hx e, fun k => hn (k ▸ e)⟩⟩
theorem trailC_least {m : Nat} {f : Nat → Nat} {U : Nat → Prop} (hU : ∀ x, x < m → U x → U (f x)) (S : List Bool) (a : Nat) (hl : S.length = m) (hf : ∀ x, x < m → f x < m) (ha : a < m) (hS : ∀ x, x < m → mkd S x → U x) (h : U a) : ∀ x, x < m → mkd (trailC f S a) x → U x := by
  by_cases hc : mkd S a
  · rw [trailC_end hc]; exact hS
  · have hcf : S.getD a false = false := by simpa [mkd] using hc
    have hl' : a < S.length := by rw [hl]; exact ha
    rw [trailC_go hl' hcf]
    refine trailC_least hU _ _ (by simpa using hl) hf (hf a ha) (fun x hx e => ?_) (hU a ha h)
    rcases (mkd_one hl').1 e with e | e
    · rw [e]; exact h
    · exact hS x hx e
termination_by S.count false
decreasing_by exact count_m1 ⟨hl', hcf⟩
theorem trail_least {m : Nat} {p r : Nat → Nat} {U : Nat → Prop} (h1 : ∀ x, x < m → U x → U (p x)) (h2 : ∀ x, x < m → U x → U (r x)) (S : List Bool) (a : Nat) (hl : S.length = m) (hp : ∀ x, x < m → p x < m) (hr : ∀ x, x < m → r x < m) (ha : a < m)
    (hS : ∀ x, x < m → mkd S x → U x) (h : U a) : ∀ x, x < m → mkd (trail p r S a) x → U x := by
  by_cases hc : mkd S a
  · rw [trail_end hc]; exact hS
  · have hcf : S.getD a false = false := by simpa [mkd] using hc
    have hl' : a < S.length := by rw [hl]; exact ha
    rw [trail_go hl' hcf]
    refine trail_least h1 h2 _ _ (by simpa using hl) hp hr (hr _ (hp a ha)) (fun x hx e => ?_) (h2 _ (hp a ha) (h1 a ha h))
    rcases (mkd_two hl' (by rw [hl]; exact hp a ha)).1 e with e | e | e
    · rw [e]; exact h
    · rw [e]; exact h1 a ha h
    · exact hS x hx e
termination_by S.count false
decreasing_by exact count_mk ⟨hl', hcf⟩
/-! ### the two walks -/
def no : Nat → Bool := fun _ => false
/-- The other place of a chord. -/
def mt (w : List Int) (x : Nat) : Nat := if x = (pl1 w (w.getD x 0)).toNat then (pl2 w (w.getD x 0)).toNat else (pl1 w (w.getD x 0)).toNat
theorem bp_no (w : List Int) (t : Nat) : bp w no t = 2 * mt w (t / 2) + (1 - t % 2) := rfl
def nx (w : List Int) (x : Nat) : Nat := if x < w.length then (mt w x + 1) % w.length else 0
def pv (w : List Int) (x : Nat) : Nat := mt w (if x = 0 then w.length - 1 else x - 1)
theorem mt_ok {w : List Int} {n : Nat} (hw : Go.Proofs.Ytokakggilajjlaa.L.Word w n) {x : Nat} (hx : x < w.length) : mt w x < w.length ∧ mt w (mt w x) = x := by
  have h := bp_flip hw no
  have h1 := h.lt (2 * x) (by omega)
  have h2 := h.bk (2 * x) (by omega)
  have e1 : bp w no (2 * x) = 2 * mt w x + 1 := by rw [bp_no, show 2 * x / 2 = x by omega, show 1 - 2 * x % 2 = 1 by omega]
  rw [e1] at h1 h2
  have e2 : bp w no (2 * mt w x + 1) = 2 * mt w (mt w x) + 0 := by rw [bp_no, show (2 * mt w x + 1) / 2 = mt w x by omega, show 1 - (2 * mt w x + 1) % 2 = 0 by omega]
  rw [e2] at h2
  omega
theorem nx_eq {w : List Int} {x y : Nat} (hx : x < w.length) (hy : mt w x = y) (hl : y < w.length) : nx w x = if y + 1 = w.length then 0 else y + 1 := by
  rw [nx, if_pos hx, hy]
  split
  · rename_i e; rw [e, Nat.mod_self]
  · rw [Nat.mod_eq_of_lt (by omega)]
theorem nx_bck {w : List Int} {n : Nat} (hw : Go.Proofs.Ytokakggilajjlaa.L.Word w n) : Bck w.length (nx w) (pv w) := by
  refine ⟨fun x hx => ?_, fun x hx => ?_, fun x hx => ?_, fun x hx => ?_⟩
  · have h := mt_ok hw hx
    rw [nx_eq hx rfl h.1]; split <;> omega
  · exact (mt_ok hw (by split <;> omega)).1
  · have h := mt_ok hw (x := if x = 0 then w.length - 1 else x - 1) (by split <;> omega)
    rw [nx_eq (x := pv w x) h.1 h.2 (by split <;> omega)]
    split <;> split <;> omega
  · have h := mt_ok hw hx
    rw [nx_eq hx rfl h.1, pv]
    split
    · rename_i e
      rw [if_pos rfl, show w.length - 1 = mt w x by omega]; exact h.2
    · rw [if_neg (by omega), show mt w x + 1 - 1 = mt w x by omega]; exact h.2
/-- Both mark the same places. -/
structure Sim (w : List Int) (S T : List Bool) : Prop where
  sl : S.length = 2 * w.length
  tl : T.length = w.length
  sp : Shut (2 * w.length) (bp w no) S
  sr : Shut (2 * w.length) (rng w.length) S
  tf : Shut w.length (nx w) T
  tg : Shut w.length (pv w) T
  eq : ∀ x, x < w.length → (mkd S (2 * x) ↔ mkd T x)
theorem Sim.new {w : List Int} {n : Nat} (hw : Go.Proofs.Ytokakggilajjlaa.L.Word w n) {S T : List Bool} (h : Sim w S T) {i y : Nat} (hi : i < w.length) (hn : ¬ mkd T i) (hy : y < 2 * w.length) (hc : y = 2 * i ∨ y = rng w.length (2 * i)) (hs : ¬ mkd S y) :
    Sim w (trail (bp w no) (rng w.length) S y) (trailC (nx w) T i) := by
  have hb := nx_bck hw
  have hp := bp_flip hw no
  have hr := rng_flip w.length
  have ht := trail_shut hp hr S y (OnTrail.start h.sl hy h.sp h.sr hs)
  have hu := trailC_shut hb T i (OnC.start h.tl hi h.tf h.tg hn)
  have hmt : ∀ x, x < w.length → mt w x < w.length ∧ mt w (mt w x) = x := fun x hx => mt_ok hw hx
  have he : ∀ x, x < w.length → rng w.length (2 * x) = 2 * (if x = 0 then w.length - 1 else x - 1) + 1 := fun x hx => by
    rw [rng_even (by omega) (by omega)]; split <;> split <;> omega
  have ho : ∀ x, x < w.length → rng w.length (2 * x + 1) = 2 * (if x + 1 = w.length then 0 else x + 1) := fun x hx => by
    rw [rng_odd (by omega) (by omega)]; split <;> split <;> omega
  refine ⟨by rw [trail_len]; exact h.sl, by rw [trailC_len]; exact h.tl, ht.1, ht.2.1, hu.1, hu.2.1, fun x hx => ⟨fun e => ?_, fun e => ?_⟩⟩
  · have := trail_least (m := 2 * w.length) (p := bp w no) (r := rng w.length) (U := fun z => if z % 2 = 0 then mkd (trailC (nx w) T i) (z / 2) else mkd (trailC (nx w) T i) (mt w (z / 2))) (fun z hz k => ?_) (fun z hz k => ?_) S y h.sl hp.lt hr.lt hy (fun z hz k => ?_) ?_ (2 * x) (by omega) e
    · have this : (if 2 * x % 2 = 0 then mkd (trailC (nx w) T i) (2 * x / 2) else mkd (trailC (nx w) T i) (mt w (2 * x / 2))) := this
      rw [if_pos (by omega), show 2 * x / 2 = x by omega] at this
      exact this
    · show (if bp w no z % 2 = 0 then mkd (trailC (nx w) T i) (bp w no z / 2) else mkd (trailC (nx w) T i) (mt w (bp w no z / 2)))
      have k : (if z % 2 = 0 then mkd (trailC (nx w) T i) (z / 2) else mkd (trailC (nx w) T i) (mt w (z / 2))) := k
      have hm := hmt (z / 2) (by omega)
      rw [bp_no]
      rcases Nat.mod_two_eq_zero_or_one z with h0 | h0
      · rw [if_pos h0] at k
        rw [if_neg (by omega), show (2 * mt w (z / 2) + (1 - z % 2)) / 2 = mt w (z / 2) by omega, hm.2]; exact k
      · rw [if_neg (by omega)] at k
        rw [if_pos (by omega), show (2 * mt w (z / 2) + (1 - z % 2)) / 2 = mt w (z / 2) by omega]; exact k
    · show (if rng w.length z % 2 = 0 then mkd (trailC (nx w) T i) (rng w.length z / 2) else mkd (trailC (nx w) T i) (mt w (rng w.length z / 2)))
      have k : (if z % 2 = 0 then mkd (trailC (nx w) T i) (z / 2) else mkd (trailC (nx w) T i) (mt w (z / 2))) := k
      have hm := hmt (z / 2) (by omega)
      rcases Nat.mod_two_eq_zero_or_one z with h0 | h0
      · rw [if_pos h0] at k
        have ez := he (z / 2) (by omega)
        rw [show 2 * (z / 2) = z by omega] at ez
        rw [ez, if_neg (by omega), show (2 * (if z / 2 = 0 then w.length - 1 else z / 2 - 1) + 1) / 2 = (if z / 2 = 0 then w.length - 1 else z / 2 - 1) by omega]
        exact hu.2.1 _ (by omega) k
      · rw [if_neg (by omega)] at k
        have ez := ho (z / 2) (by omega)
        rw [show 2 * (z / 2) + 1 = z by omega] at ez
        rw [ez, if_pos (by omega), show (2 * (if z / 2 + 1 = w.length then 0 else z / 2 + 1)) / 2 = (if z / 2 + 1 = w.length then 0 else z / 2 + 1) by omega]
        have := hu.1 _ hm.1 k
        rwa [nx_eq hm.1 hm.2 (by omega)] at this
    · show (if z % 2 = 0 then mkd (trailC (nx w) T i) (z / 2) else mkd (trailC (nx w) T i) (mt w (z / 2)))
      have hm := hmt (z / 2) (by omega)
      split
      · rename_i h0
        refine hu.2.2.2 _ ((h.eq _ (by omega)).1 ?_)
        rw [show 2 * (z / 2) = z by omega]; exact k
      · rename_i h0
        refine hu.2.2.2 _ ((h.eq _ hm.1).1 ?_)
        have := h.sp z hz k
        rw [bp_no, show 1 - z % 2 = 0 by omega] at this
        exact this
    · show (if y % 2 = 0 then mkd (trailC (nx w) T i) (y / 2) else mkd (trailC (nx w) T i) (mt w (y / 2)))
      rcases hc with e | e
      · rw [e, if_pos (by omega), show 2 * i / 2 = i by omega]; exact hu.2.2.1
      · rw [e, he i hi, if_neg (by omega), show (2 * (if i = 0 then w.length - 1 else i - 1) + 1) / 2 = (if i = 0 then w.length - 1 else i - 1) by omega]
        exact hu.2.1 i hi hu.2.2.1
  · refine trailC_least (m := w.length) (f := nx w) (U := fun z => mkd (trail (bp w no) (rng w.length) S y) (2 * z)) (fun z hz k => ?_) T i h.tl hb.fl hi (fun z hz k => ht.2.2.2 _ ((h.eq z hz).2 k)) ?_ x hx e
    · show mkd _ (2 * nx w z)
      have hm := hmt z hz
      have h1 := ht.1 (2 * z) (by omega) k
      rw [bp_no, show 2 * z / 2 = z by omega, show 1 - 2 * z % 2 = 1 by omega] at h1
      have h2 := ht.2.1 _ (by omega) h1
      rw [ho _ hm.1] at h2
      rw [nx_eq hz rfl hm.1]; exact h2
    · show mkd _ (2 * i)
      rcases hc with e | e
      · rw [← e]; exact ht.2.2.1
      · have h1 := ht.2.1 y hy ht.2.2.1
        rw [e, hr.bk (2 * i) (by omega), ← e] at h1
        exact h1
theorem cnt_sim {w : List Int} {n : Nat} (hw : Go.Proofs.Ytokakggilajjlaa.L.Word w n) : ∀ (d i : Nat) (S T : List Bool), 1 ≤ i → i + d = w.length → Sim w S T → mkd T 0 → cntC (bp w no) (rng w.length) (2 * d + 1) S (2 * i - 1) = cntF (nx w) d T i
  | 0, i, S, T, h1, hd, h, h0 => by
    have hm := (h.eq 0 (by omega)).2 h0
    have := h.sr _ (by omega) hm
    rw [rng_even (by omega) (by omega), if_pos rfl] at this
    rw [show 2 * i - 1 = 2 * w.length - 1 by omega, cnt_skip this]; rfl
  | d + 1, i, S, T, h1, hd, h, h0 => by
    have hr := rng_flip w.length
    have e1 : rng w.length (2 * i) = 2 * i - 1 := by rw [rng_even (by omega) (by omega), if_neg (by omega)]
    have e2 : rng w.length (2 * i - 1) = 2 * i := by rw [← e1, hr.bk _ (by omega)]
    by_cases hc : mkd T i
    · have hs := (h.eq i (by omega)).2 hc
      have hs2 := h.sr _ (by omega) hs
      rw [e1] at hs2
      rw [show 2 * (d + 1) + 1 = (2 * d + 1) + 1 + 1 by omega, cnt_skip hs2, show 2 * i - 1 + 1 = 2 * i by omega, cnt_skip hs, cntF_skip hc, show 2 * i + 1 = 2 * (i + 1) - 1 by omega]
      exact cnt_sim hw d (i + 1) S T (by omega) (by omega) h h0
    · have hcf : T.getD i false = false := by simpa [mkd] using hc
      have hs : ¬ mkd S (2 * i - 1) := fun k => hc ((h.eq i (by omega)).1 (by have := h.sr _ (by omega) k; rwa [e2] at this))
      have hsf : S.getD (2 * i - 1) false = false := by simpa [mkd] using hs
      have hN := h.new hw (i := i) (y := 2 * i - 1) (by omega) hc (by omega) (.inr e1.symm) hs
      have ht := trail_shut (bp_flip hw no) hr S (2 * i - 1) (OnTrail.start h.sl (by omega) h.sp h.sr hs)
      have hs2 := ht.2.1 _ (by omega) ht.2.2.1
      rw [e2] at hs2
      have hu := trailC_shut (nx_bck hw) T i (OnC.start h.tl (by omega) h.tf h.tg hc)
      rw [show 2 * (d + 1) + 1 = (2 * d + 1) + 1 + 1 by omega, cnt_new hsf, show 2 * i - 1 + 1 = 2 * i by omega, cnt_skip hs2, cntF_new hcf, show 2 * i + 1 = 2 * (i + 1) - 1 by omega]
      rw [cnt_sim hw d (i + 1) _ _ (by omega) (by omega) hN (hu.2.2.2 0 h0)]
theorem circ_cycles {w : List Int} {n : Nat} (hw : Go.Proofs.Ytokakggilajjlaa.L.Word w n) : circ w no = mx1 (cntF (nx w) w.length (List.replicate w.length false) 0) := by
  by_cases h0 : w.length = 0
  · unfold circ
    rw [if_pos h0, h0]; rfl
  · obtain ⟨d, hd⟩ : ∃ d, w.length = d + 1 := ⟨w.length - 1, by omega⟩
    have f0 : ∀ k x, ¬ mkd (List.replicate k false) x := fun k x h => by rw [mkd, gD_rep] at h; cases h
    have hS : Sim w (List.replicate (2 * w.length) false) (List.replicate w.length false) := ⟨by simp, by simp, fun x _ h => absurd h (f0 _ _), fun x _ h => absurd h (f0 _ _), fun x _ h => absurd h (f0 _ _), fun x _ h => absurd h (f0 _ _), fun x _ => ⟨fun h => absurd h (f0 _ _), fun h => absurd h (f0 _ _)⟩⟩
    have hN := hS.new hw (i := 0) (y := 0) (by omega) (f0 _ _) (by omega) (.inl rfl) (f0 _ _)
    have hu := trailC_shut (nx_bck hw) (List.replicate w.length false) 0 (OnC.start hS.tl (by omega) hS.tf hS.tg (f0 _ _))
    have e1 : cntC (bp w no) (rng w.length) (2 * w.length) (List.replicate (2 * w.length) false) 0 = cntF (nx w) d (trailC (nx w) (List.replicate w.length false) 0) 1 + 1 := by
      rw [show cntC (bp w no) (rng w.length) (2 * w.length) (List.replicate (2 * w.length) false) 0 = cntC (bp w no) (rng w.length) ((2 * d + 1) + 1) (List.replicate (2 * w.length) false) 0 by rw [show 2 * w.length = (2 * d + 1) + 1 by omega], cnt_new (gD_rep _ _ _)]
      have := cnt_sim hw d 1 _ _ (Nat.le_refl _) (by omega) hN hu.2.2.1
      rw [show 2 * 1 - 1 = 0 + 1 by omega] at this
      rw [this]
    have e2 : cntF (nx w) w.length (List.replicate w.length false) 0 = cntF (nx w) d (trailC (nx w) (List.replicate w.length false) 0) 1 + 1 := by
      rw [show cntF (nx w) w.length (List.replicate w.length false) 0 = cntF (nx w) (d + 1) (List.replicate w.length false) 0 by rw [hd], cntF_new (gD_rep _ _ _)]
    unfold circ
    rw [if_neg h0, e1, e2]
    unfold mx1
    rw [if_neg (by omega)]
end Go.Proofs.Ytokakggilajjlaa.V
