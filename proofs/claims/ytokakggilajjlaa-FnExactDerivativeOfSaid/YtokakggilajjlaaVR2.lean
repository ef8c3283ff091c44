/- Plain law: numbers at words are added up, whatever the way; derivatives of sums. Conditions: small numbers. -/
import Derived.Test.YtokakggilajjlaaVR1
import Derived.Test.YtokakggilajjlaaVS6
set_option linter.unusedVariables false
set_option linter.unusedSimpArgs false
namespace Go.Proofs.Ytokakggilajjlaa.V
open Go
theorem modI_e {p : Int} (h0 : 0 < p) (h1 : p ≤ 1000) (x : Int) : modI p x = x % p := by
  unfold modI
  have h2 : x.tmod p = x % p ∨ x.tmod p = x % p - p := by
    rw [Int.tmod_eq_emod]
    split
    · left; omega
    · right
      have : (p.natAbs : Int) = p := Int.natAbs_of_nonneg (by omega)
      omega
  have h3 := Int.emod_nonneg x (show p ≠ 0 by omega)
  have h4 := Int.emod_lt_of_pos x h0
  rw [w64_id (by omega) (by omega), Int.tmod_eq_emod_of_nonneg (by omega)]
  rcases h2 with h | h <;> rw [h]
  · rw [Int.add_emod_right, Int.emod_emod]
  · rw [Int.sub_add_cancel, Int.emod_emod]
/-- All numbers at a word, added up. -/
def wS : TermL → List Int → Int
  | [], _ => 0
  | x :: r, u => (if x.1 = u then x.2 else 0) + wS r u
theorem wS_append (a b : TermL) (u : List Int) : wS (a ++ b) u = wS a u + wS b u := by
  induction a with
  | nil => simp [wS]
  | cons x a ih => rw [List.cons_append, wS, wS, ih]; omega
theorem wS_none : ∀ {a : TermL} {u : List Int}, (∀ x ∈ a, x.1 ≠ u) → wS a u = 0
  | [], _, _ => rfl
  | x :: a, u, h => by rw [wS, if_neg (h x List.mem_cons_self), wS_none fun y hy => h y (List.mem_cons_of_mem _ hy)]; rfl
theorem cF_val {p : Int} (h0 : 0 < p) (h1 : p ≤ 1000) : ∀ (ts : TermL) (c : List Int → Int), (∀ x ∈ ts, -1000000 ≤ x.2 ∧ x.2 ≤ 1000000) → (∀ u, 0 ≤ c u ∧ c u < p) → ∀ u, cF p c ts u = (c u + wS ts u) % p
  | [], c, _, hc, u => by
    have := hc u
    rw [wS, Int.add_zero, Int.emod_eq_of_lt this.1 this.2]; rfl
  | x :: ts, c, hx, hc, u => by
    have e : ∀ v, cAdd p c x.1 x.2 v = if v = x.1 then (c x.1 + x.2) % p else c v := fun v => by
      have := hc x.1
      have := hx x List.mem_cons_self
      unfold cAdd
      rw [modI_e h0 h1, w64_id (by omega) (by omega)]
    show cF p (cAdd p c x.1 x.2) ts u = _
    rw [cF_val h0 h1 ts _ (fun y hy => hx y (List.mem_cons_of_mem _ hy)) (fun v => by
      rw [e]
      split
      · exact ⟨Int.emod_nonneg _ (by omega), Int.emod_lt_of_pos _ h0⟩
      · exact hc v), e, wS]
    by_cases hu : u = x.1
    · subst hu
      rw [if_pos rfl, if_pos rfl, Int.emod_add_emod, Int.add_assoc]
    · rw [if_neg hu, if_neg (Ne.symm hu), Int.zero_add]
theorem cF_eq {p : Int} (h0 : 0 < p) (h1 : p ≤ 1000) {a b : TermL} (ha : ∀ x ∈ a, -1000000 ≤ x.2 ∧ x.2 ≤ 1000000) (hb : ∀ x ∈ b, -1000000 ≤ x.2 ∧ x.2 ≤ 1000000) (h : ∀ u, wS a u % p = wS b u % p) : cF p (fun _ => 0) a = cF p (fun _ => 0) b := by
  funext u
  rw [cF_val h0 h1 a _ ha (fun _ => ⟨Int.le_refl 0, h0⟩), cF_val h0 h1 b _ hb (fun _ => ⟨Int.le_refl 0, h0⟩), Int.zero_add, Int.zero_add, h u]
/-- Terms put in, one by one. -/
def jS (p : Int) (ts : TermL) : TermL := ts.foldl (fun us x => jT p us x.1 x.2) []
theorem jS_s (p : Int) (ts : TermL) (x : List Int × Int) : jS p (ts ++ [x]) = jT p (jS p ts) x.1 x.2 := by rw [jS, List.foldl_append]; rfl
theorem snoc_ind {q : TermL → Prop} (h0 : q []) (h1 : ∀ a x, q a → q (a ++ [x])) (a : TermL) : q a := by
  have h : ∀ b : TermL, q b.reverse := fun b => by
    induction b with
    | nil => exact h0
    | cons x b ih => rw [List.reverse_cons]; exact h1 _ _ ih
  have := h a.reverse
  rwa [List.reverse_reverse] at this
theorem jS_rep (p : Int) (ts : TermL) (h : ∀ x ∈ ts, smB x.1) : SRep (jS p ts) (cF p (fun _ => 0) ts) := by
  revert h
  refine snoc_ind (q := fun ts => (∀ x ∈ ts, smB x.1) → SRep (jS p ts) (cF p (fun _ => 0) ts)) (fun _ => SRep.nil) (fun a x ih h => ?_) ts
  rw [jS_s, cF_s]
  exact (ih fun y hy => h y (List.mem_append_left _ hy)).put p (h x (List.mem_append_right _ (List.mem_singleton.2 rfl))) x.2
theorem jS_len (p : Int) (ts : TermL) : (jS p ts).length ≤ ts.length := by
  refine snoc_ind (q := fun ts => (jS p ts).length ≤ ts.length) (Nat.le_refl _) (fun a x ih => ?_) ts
  rw [jS_s, List.length_append, List.length_singleton]
  have := jT_len p (jS p a) x.1 x.2
  omega
theorem gAll_rep (p : Int) (k : Int) : ∀ (ts : TermL) (l : MapL) (c : List Int → Int), GRep l c → (∀ x ∈ ts, smB x.1) → GRep (gAll p l k ts) (cF p c (ts.map fun y => (y.1, w64 (y.2 * k))))
  | [], l, c, h, _ => h
  | x :: ts, l, c, h, hw => gAll_rep p k ts _ _ (h.add p (hw x List.mem_cons_self) (w64 (x.2 * k))) (fun y hy => hw y (List.mem_cons_of_mem _ hy))
theorem cF_app (p : Int) (c : List Int → Int) (a b : TermL) : cF p c (a ++ b) = cF p (cF p c a) b := by rw [cF, List.foldl_append]; rfl
theorem gCh_rep (p : Int) (f : ChT) : ∀ (ts : TermL) (l : MapL) (c : List Int → Int), GRep l c → (∀ x ∈ ts, ∀ y ∈ chS f x.1, smB y.1) → GRep (ts.foldl (fun l x => gAll p l x.2 (chS f x.1)) l) (cF p c (ts.flatMap fun x => (chS f x.1).map fun y => (y.1, w64 (y.2 * x.2))))
  | [], l, c, h, _ => h
  | x :: ts, l, c, h, hw => by
    rw [List.foldl_cons, List.flatMap_cons, cF_app]
    exact gCh_rep p f ts _ _ (gAll_rep p x.2 _ _ _ h (hw x List.mem_cons_self)) (fun y hy => hw y (List.mem_cons_of_mem _ hy))
/-! ### derivatives -/
def derSteps (ts : TermL) : TermL := ts.flatMap fun x => derS x.1 x.2 (x.1.length / 2)
theorem wS_nodup {g : Int → Int} : ∀ {L : TermL} {u : List Int}, (L.map (·.1)).Nodup → ∀ y ∈ L, y.1 = u → wS (L.map fun y => (y.1, g y.2)) u = g y.2
  | x :: L, u, hn, y, hy, e => by
    simp only [List.map_cons, List.nodup_cons] at hn
    rw [List.map_cons, wS]
    rcases List.mem_cons.1 hy with rfl | hy
    · rw [if_pos e, wS_none (fun z hz ez => by
        obtain ⟨z', hz', rfl⟩ := List.mem_map.1 hz
        exact hn.1 (List.mem_map.2 ⟨z', hz', ez.trans e.symm⟩)), Int.add_zero]
    · rw [if_neg (fun ex => hn.1 (List.mem_map.2 ⟨y, hy, e.trans ex.symm⟩)), Int.zero_add]
      exact wS_nodup hn.2 y hy e
theorem derS_mem {w : List Int} {v : Int} {n : Nat} {x : List Int × Int} (h : x ∈ derS w v n) : x.2 = v ∧ ∃ k : Nat, x.1 = wtL w (k : Nat) := by
  obtain ⟨k, _, rfl⟩ := List.mem_map.1 h
  exact ⟨rfl, k, rfl⟩
theorem wS_derS (w : List Int) (v : Int) (u : List Int) : ∀ n, wS (derS w v n) u = wS (derS w 1 n) u * v
  | 0 => by simp [derS, wS]
  | n + 1 => by
    rw [derS_s, derS_s, wS_append, wS_append, wS_derS w v u n, Int.add_mul]
    congr 1
    simp only [wS]
    split <;> omega
theorem derT_in {p : Int} {w : List Int} (h : isW w = true) {y : List Int × Int} : y ∈ derT p w ↔ smB y.1 ∧ y.2 = cF p (fun _ => 0) (derS w 1 (w.length / 2)) y.1 ∧ y.2 ≠ 0 := by
  unfold derT
  rw [sortT_mem, (gDer_rep p h (w.length / 2)).mem]
theorem derT_val {p : Int} (h0 : 0 < p) (h1 : p ≤ 1000) {w : List Int} (h : isW w = true) (u : List Int) : cF p (fun _ => 0) (derS w 1 (w.length / 2)) u = wS (derS w 1 (w.length / 2)) u % p := by
  rw [cF_val h0 h1 _ _ (fun x hx => by rw [(derS_mem hx).1]; omega) (fun _ => ⟨Int.le_refl 0, h0⟩), Int.zero_add]
theorem derT_wS {p : Int} (h0 : 0 < p) (h1 : p ≤ 1000) {w : List Int} (h : isW w = true) {v : Int} (hv : 0 ≤ v ∧ v ≤ 1000) (u : List Int) :
    wS ((derT p w).map fun y => (y.1, w64 (y.2 * v))) u = (wS (derS w 1 (w.length / 2)) u % p) * v := by
  have hn : ((derT p w).map (·.1)).Nodup := ((sortT_perm _).map _).nodup_iff.2 (nzT_nodup (gDer_rep p h _).words)
  have hr := Int.emod_nonneg (wS (derS w 1 (w.length / 2)) u) (show p ≠ 0 by omega)
  have hr2 := Int.emod_lt_of_pos (wS (derS w 1 (w.length / 2)) u) h0
  by_cases hy : ∃ y ∈ derT p w, y.1 = u
  · obtain ⟨y, hy, e⟩ := hy
    rw [wS_nodup (g := fun z => w64 (z * v)) hn y hy e]
    have := ((derT_in h).1 hy).2.1
    rw [derT_val h0 h1 h, e] at this
    rw [this]
    have hb : wS (derS w 1 (w.length / 2)) u % p * v ≤ 1000 * 1000 := Int.mul_le_mul (by omega) hv.2 hv.1 (by omega)
    have hb0 : 0 ≤ wS (derS w 1 (w.length / 2)) u % p * v := Int.mul_nonneg hr hv.1
    exact w64_id (by omega) (by omega)
  · rw [wS_none (fun z hz ez => by
      obtain ⟨y, hy', rfl⟩ := List.mem_map.1 hz
      exact hy ⟨y, hy', ez⟩)]
    have hz : wS (derS w 1 (w.length / 2)) u % p = 0 := by
      by_cases hs : smB u
      · by_cases e : wS (derS w 1 (w.length / 2)) u % p = 0
        · exact e
        · exact absurd ⟨(u, wS (derS w 1 (w.length / 2)) u % p), (derT_in h).2 ⟨hs, (derT_val h0 h1 h u).symm, e⟩, rfl⟩ hy
      · rw [wS_none (fun z hz ez => by
          obtain ⟨_, k, ek⟩ := derS_mem hz
          exact hs (ez ▸ ek ▸ sm_of (wtL_isW h _)))]
        rfl
    rw [hz, Int.zero_mul]
theorem derP_chS {p : Int} {ts : TermL} (hp : p ≠ 0) {w : List Int} (h : isW w = true) : (derP ((p, ts), ()) (w, ())).isSome = true ∧ chS (derP ((p, ts), ())) w = derT p w := by
  have e : derP ((p, ts), ()) (w, ()) = some (p, derT p w) := if_pos ⟨hp, h⟩
  unfold chS
  rw [e]
  exact ⟨rfl, rfl⟩
def derR (p : Int) (ts : TermL) : TermL := sortT (nzT (gCh p (derP ((p, ts), ())) ts))
theorem derT_len {p : Int} {w : List Int} (h : isW w = true) : (derT p w).length ≤ 6 := by
  have hlw := (Go.Proofs.Ytokakggilajjlaa.L.word_range (by rw [← Go.Proofs.Ytokakggilajjlaa.L.isW_eq]; exact h)).1
  have h1 := gDer_len p w (w.length / 2)
  have h2 : (nzT (gDer p w (w.length / 2))).length ≤ (gDer p w (w.length / 2)).length := by
    unfold nzT
    exact Nat.le_trans (List.length_filter_le _ _) (by rw [List.length_map]; exact Nat.le_refl _)
  unfold derT
  rw [sortT_length]
  omega
theorem der_rep {p : Int} {ts : TermL} (h0 : 0 < p) (h1 : p ≤ 13) (hw : ∀ x ∈ ts, isW x.1 = true) (hv : ∀ x ∈ ts, 0 ≤ x.2 ∧ x.2 ≤ 13) : GRep (gCh p (derP ((p, ts), ())) ts) (cF p (fun _ => 0) (derSteps ts)) := by
  have hp : p ≠ 0 := by omega
  have hg := gCh_rep p (derP ((p, ts), ())) ts [] _ GRep.nil (fun x hx y hy => by
    rw [(derP_chS hp (hw x hx)).2] at hy
    exact ((derT_in (hw x hx)).1 hy).1)
  have e : cF p (fun _ => 0) (ts.flatMap fun x => (chS (derP ((p, ts), ())) x.1).map fun y => (y.1, w64 (y.2 * x.2))) = cF p (fun _ => 0) (derSteps ts) := by
    refine cF_eq h0 (by omega) (fun x hx => ?_) (fun x hx => ?_) (fun u => ?_)
    · obtain ⟨t, ht, hx⟩ := List.mem_flatMap.1 hx
      obtain ⟨y, hy, rfl⟩ := List.mem_map.1 hx
      rw [(derP_chS hp (hw t ht)).2] at hy
      have h3 := ((derT_in (hw t ht)).1 hy).2.1
      rw [derT_val h0 (by omega) (hw t ht)] at h3
      have h4 := Int.emod_nonneg (wS (derS t.1 1 (t.1.length / 2)) y.1) hp
      have h5 := Int.emod_lt_of_pos (wS (derS t.1 1 (t.1.length / 2)) y.1) h0
      rw [← h3] at h4 h5
      have h6 := hv t ht
      have hb : y.2 * t.2 ≤ 13 * 13 := Int.mul_le_mul (by omega) h6.2 h6.1 (by omega)
      have hb0 : 0 ≤ y.2 * t.2 := Int.mul_nonneg h4 h6.1
      show -1000000 ≤ w64 (y.2 * t.2) ∧ w64 (y.2 * t.2) ≤ 1000000
      rw [w64_id (by omega) (by omega)]
      omega
    · obtain ⟨t, ht, hx⟩ := List.mem_flatMap.1 hx
      rw [(derS_mem hx).1]
      have := hv t ht
      omega
    · suffices h : ∀ us : TermL, (∀ x ∈ us, isW x.1 = true ∧ 0 ≤ x.2 ∧ x.2 ≤ 13) → wS (us.flatMap fun x => (chS (derP ((p, ts), ())) x.1).map fun y => (y.1, w64 (y.2 * x.2))) u % p = wS (us.flatMap fun x => derS x.1 x.2 (x.1.length / 2)) u % p from h ts fun x hx => ⟨hw x hx, hv x hx⟩
      intro us
      induction us with
      | nil => intro _; rfl
      | cons x us ih =>
        intro h
        obtain ⟨a1, a2, a3⟩ := h x List.mem_cons_self
        rw [List.flatMap_cons, List.flatMap_cons, wS_append, wS_append, (derP_chS hp a1).2, derT_wS h0 (by omega) a1 ⟨a2, by omega⟩, wS_derS x.1 x.2 u, Int.add_emod, ih (fun y hy => h y (List.mem_cons_of_mem _ hy)), Int.mul_emod, Int.emod_emod, ← Int.mul_emod, ← Int.add_emod]
  rw [← e]
  exact hg
theorem derR_eq {p : Int} {ts : TermL} (h0 : 0 < p) (h1 : p ≤ 13) (hw : ∀ x ∈ ts, isW x.1 = true) (hv : ∀ x ∈ ts, 0 ≤ x.2 ∧ x.2 ≤ 13) : derR p ts = jS p (derSteps ts) :=
  (der_rep h0 h1 hw hv).sum (jS_rep p _ fun x hx => by
    obtain ⟨t, ht, hx⟩ := List.mem_flatMap.1 hx
    obtain ⟨_, k, ek⟩ := derS_mem hx
    rw [ek]
    exact sm_of (wtL_isW (hw t ht) _))
end Go.Proofs.Ytokakggilajjlaa.V
