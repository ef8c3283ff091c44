/- Plain mathematics: how many cycles a permutation of the numbers below m has, told by sets that are closed under it. Conditions: in each. No program. Plain law: impl.cycles counts the cycles of a permutation. Conditions: at most 4096 places. Plain law: the two places of each chord of a word, its mates and its border circles, as the program tells them. Conditions: words. Plain law: the reference's border circles of a word without twists are the program's. Conditions: words. Plain law: the reference's border circles of a word without twists are as many as the program's. Conditions: words. -/
import Derived.Test.YtokcklkjnjffnabKEv
import Derived.Test.YtokcklkjnjffnabKWordLaw
import Derived.Test.YtokcklkjnjffnabPAx0
import Derived.Test.YtokcklkjnjffnabPAx2
import Derived.Test.YtokcklkjnjffnabPAx3
import Derived.Test.YtokcklkjnjffnabPAx4
import Derived.Test.YtokcklkjnjffnabPAx5
set_option linter.unusedVariables false
namespace Go.Proofs.Ytokcklkjnjffnab.K

/-- p and q lead back to each other below m. -/
structure Perm2 (m : Nat) (p q : Nat → Nat) : Prop where
  plt : ∀ x, x < m → p x < m
  qlt : ∀ x, x < m → q x < m
  pq : ∀ x, x < m → p (q x) = x
  qp : ∀ x, x < m → q (p x) = x
theorem Perm2.swap {m : Nat} {p q : Nat → Nat} (h : Perm2 m p q) : Perm2 m q p := ⟨h.qlt, h.plt, h.qp, h.pq⟩
/-- A set that is closed both ways. -/
def Bi (m : Nat) (p q : Nat → Nat) (T : Nat → Prop) : Prop := ∀ x, x < m → T x → T (p x) ∧ T (q x)
theorem Bi.swap {m : Nat} {p q : Nat → Nat} {T : Nat → Prop} (h : Bi m p q T) : Bi m q p T := fun x hx ht => (h x hx ht).symm
/-- S' is the least closed set over S and i. -/
structure Grows (m : Nat) (p q : Nat → Nat) (S : Nat → Prop) (i : Nat) (S' : Nat → Prop) : Prop where
  bi : Bi m p q S'
  over : ∀ x, x < m → S x → S' x
  at_ : S' i
  least : ∀ T, Bi m p q T → (∀ x, x < m → S x → T x) → T i → ∀ x, x < m → S' x → T x
theorem Grows.swap {m : Nat} {p q : Nat → Nat} {S S' : Nat → Prop} {i : Nat} (h : Grows m p q S i S') : Grows m q p S i S' :=
  ⟨h.bi.swap, h.over, h.at_, fun T hT => h.least T hT.swap⟩
/-- c more cycles from i on, those of S being told. -/
inductive Cnt (m : Nat) (p q : Nat → Nat) : Nat → (Nat → Prop) → Nat → Prop
  | done (S) : Cnt m p q m S 0
  | skip {i S c} : i < m → S i → Cnt m p q (i + 1) S c → Cnt m p q i S c
  | mark {i S S' c} : i < m → ¬ S i → Grows m p q S i S' → Cnt m p q (i + 1) S' c → Cnt m p q i S (c + 1)
theorem Cnt.le {m : Nat} {p q : Nat → Nat} {i : Nat} {S : Nat → Prop} {c : Nat} (h : Cnt m p q i S c) : i ≤ m := by
  cases h <;> omega
/-- Its number is told by the set alone. -/
theorem Cnt.same {m : Nat} {p q : Nat → Nat} {i : Nat} {S : Nat → Prop} {c : Nat} (h : Cnt m p q i S c) : ∀ {T : Nat → Prop} {d : Nat}, (∀ x, x < m → (S x ↔ T x)) → Cnt m p q i T d → c = d := by
  induction h with
  | done S =>
    intro T d _ k
    cases k with
    | done => rfl
    | skip h => omega
    | mark h => omega
  | skip hi hs _ ih =>
    intro T d he k
    cases k with
    | done => omega
    | skip _ _ k => exact ih he k
    | mark _ hn _ _ => exact absurd ((he _ hi).mp hs) hn
  | mark hi hn hg _ ih =>
    intro T d he k
    cases k with
    | done => omega
    | skip _ hs _ => exact absurd ((he _ hi).mpr hs) hn
    | mark _ _ hg2 k =>
      rw [ih (fun x hx => ⟨fun h => ?_, fun h => ?_⟩) k]
      · exact hg.least _ hg2.bi (fun y hy hs => hg2.over y hy ((he y hy).mp hs)) hg2.at_ x hx h
      · exact hg2.least _ hg.bi (fun y hy hs => hg.over y hy ((he y hy).mpr hs)) hg.at_ x hx h
theorem Cnt.congr {m : Nat} {p q : Nat → Nat} {i : Nat} {S : Nat → Prop} {c : Nat} (h : Cnt m p q i S c) : ∀ {T : Nat → Prop}, (∀ x, x < m → (S x ↔ T x)) → Cnt m p q i T c := by
  induction h with
  | done => intro T he; exact .done _
  | skip hi hs k ih => intro T he; exact .skip hi ((he _ hi).mp hs) (ih he)
  | mark hi hn hg k ih =>
    intro T he
    exact .mark hi (fun h => hn ((he _ hi).mpr h)) ⟨hg.bi, fun x hx ht => hg.over x hx ((he x hx).mpr ht), hg.at_, fun T' h1 h2 => hg.least T' h1 (fun x hx hs => h2 x hx ((he x hx).mp hs))⟩ k
/-- The walk along f from i: cur is what it has seen, it stands at `at`. -/
structure Walks (m : Nat) (f g : Nat → Nat) (S : Nat → Prop) (i : Nat) (cur : Nat → Prop) (a : Nat) : Prop where
  lt : a < m
  over : ∀ x, x < m → S x → cur x
  least : ∀ T, Bi m f g T → (∀ x, x < m → S x → T x) → T i → (∀ x, x < m → cur x → T x) ∧ T a
  from_ : (a = i ∧ ¬ cur i) ∨ cur (g a)
  back : ∀ x, x < m → cur x → x = i ∨ (cur (g x) ∧ x ≠ a)
  forth : ∀ x, x < m → cur x → f x = a ∨ cur (f x)
theorem Walks.start {m : Nat} {f g : Nat → Nat} {S : Nat → Prop} {i : Nat} (hS : Bi m f g S) (hi : i < m) (hn : ¬ S i) : Walks m f g S i S i :=
  ⟨hi, fun _ _ h => h, fun T _ h1 h2 => ⟨h1, h2⟩, Or.inl ⟨rfl, hn⟩, fun x hx h => Or.inr ⟨(hS x hx h).2, fun e => hn (e ▸ h)⟩, fun x hx h => Or.inr (hS x hx h).1⟩
theorem Walks.step {m : Nat} {f g : Nat → Nat} {S cur : Nat → Prop} {i a : Nat} (hp : Perm2 m f g) (h : Walks m f g S i cur a) (hn : ¬ cur a) : Walks m f g S i (fun x => x = a ∨ cur x) (f a) := by
  have ha := h.lt
  refine ⟨hp.plt a ha, fun x hx hs => Or.inr (h.over x hx hs), fun T h1 h2 h3 => ?_, Or.inr (Or.inl (hp.qp a ha)), fun x hx hc => ?_, fun x hx hc => ?_⟩
  · obtain ⟨k1, k2⟩ := h.least T h1 h2 h3
    refine ⟨fun x hx hc => ?_, (h1 a ha k2).1⟩
    rcases hc with rfl | hc
    · exact k2
    · exact k1 x hx hc
  · rcases hc with rfl | hc
    · rcases h.from_ with ⟨e, _⟩ | k
      · exact Or.inl e
      · refine Or.inr ⟨Or.inr k, fun e => hn ?_⟩
        have : g x = x := by
          have := hp.qp x hx
          rw [← e] at this
          exact this
        rwa [this] at k
    · rcases h.back x hx hc with e | ⟨k1, k2⟩
      · exact Or.inl e
      · refine Or.inr ⟨Or.inr k1, fun e => hn ?_⟩
        have : g x = a := by rw [e, hp.qp a ha]
        rwa [this] at k1
  · rcases hc with rfl | hc
    · exact Or.inl rfl
    · rcases h.forth x hx hc with e | k
      · exact Or.inr (Or.inl e)
      · exact Or.inr (Or.inr k)
theorem Walks.finish {m : Nat} {f g : Nat → Nat} {S cur : Nat → Prop} {i a : Nat} (h : Walks m f g S i cur a) (hc : cur a) : Grows m f g S i cur := by
  have e : a = i := by
    rcases h.back a h.lt hc with e | ⟨_, e⟩
    · exact e
    · exact absurd rfl e
  subst e
  have hb : cur (g a) := by
    rcases h.from_ with ⟨_, k⟩ | k
    · exact absurd hc k
    · exact k
  refine ⟨fun x hx hx2 => ⟨?_, ?_⟩, h.over, hc, fun T h1 h2 h3 => (h.least T h1 h2 h3).1⟩
  · rcases h.forth x hx hx2 with e | k
    · rw [e]; exact hc
    · exact k
  · rcases h.back x hx hx2 with rfl | ⟨k, _⟩
    · exact hb
    · exact k
end Go.Proofs.Ytokcklkjnjffnab.K

set_option linter.unusedVariables false
set_option linter.unusedSimpArgs false
namespace Go.Proofs.Ytokcklkjnjffnab.K
open Go.RowKit Go.Proofs.YtokcklkjnjffnabW.PrintWords Go.Proofs.YtokcklkjnjffnabW.PrintLast Go.Proofs.YtokcklkjnjffnabW.PrintMore Go.Proofs.Ytokcklkjnjffnab.PA

/-- What a row of marks marks. -/
def mk (cur : List Bool) (x : Nat) : Prop := cur.getD x false = true
instance (cur : List Bool) (x : Nat) : Decidable (mk cur x) := by unfold mk; infer_instance
theorem mk_set (cur : List Bool) (a x : Nat) (ha : a < cur.length) : mk (cur.set a true) x ↔ (x = a ∨ mk cur x) := by
  unfold mk
  simp only [List.getD_eq_getElem?_getD, List.getElem?_set]
  by_cases h : a = x
  · subst h; simp [ha]
  · rw [if_neg h]
    constructor
    · intro k; exact Or.inr k
    · rintro (k | k)
      · exact absurd k.symm h
      · exact k
theorem mk_get (cur : List Bool) (x : Nat) (hx : x < cur.length) : (mk cur x) ↔ cur[x] = true := by
  unfold mk
  rw [List.getD_eq_getElem?_getD, List.getElem?_eq_getElem hx]
  rfl
theorem count_set_true (cur : List Bool) (a : Nat) (ha : a < cur.length) (hn : ¬ mk cur a) : (cur.set a true).count false < cur.count false := by
  rw [mk_get cur a ha] at hn
  have h : cur[a] = false := by simpa using hn
  rw [List.count_set ha, h]
  have h2 : 0 < cur.count false := List.count_pos_iff.mpr (by rw [← h]; exact List.getElem_mem ha)
  simp
  omega
theorem count_set_le (cur : List Bool) (a : Nat) (ha : a < cur.length) : (cur.set a true).count false ≤ cur.count false := by
  rw [List.count_set ha]
  simp
theorem rdOf_mk (cur : List Bool) (x : Nat) : (rdOf false cur (x : Int) = true) ↔ mk cur x := by
  unfold rdOf mk
  rw [Int.toNat_natCast]
theorem walks_congr {m : Nat} {f g : Nat → Nat} {S cur cur' : Nat → Prop} {i a : Nat} (h : Walks m f g S i cur a) (he : ∀ x, cur' x ↔ cur x) : Walks m f g S i cur' a := by
  have : cur' = cur := funext fun x => propext (he x)
  rw [this]; exact h

section
variable {m : Nat} {p q : Nat → Nat} (hp : Perm2 m p q) (hm : m ≤ 4096) (x0 : List Int) (hx : ∀ x, x < m → rd x0 x = p x) (hlen : x0.length = m)
include hp hm hx hlen
theorem cyc_l1 (i : Nat) (S : Nat → Prop) (x4 r : Int) (hk : ∀ cur', cur'.length = m → Grows m p q S i (mk cur') → ∃ n, impl_cycles.l0 n x0 cur' x4 m ((i : Int) + 1) = some r) (hi : i < m) (d : Nat) :
    ∀ (cur : List Bool) (a : Nat), cur.count false ≤ d → cur.length = m → Walks m p q S i (mk cur) a → ∃ n, impl_cycles.l1 n x0 cur x4 a m i = some r := by
  induction d with
  | zero =>
    intro cur a hd hl hw
    by_cases hc : mk cur a
    · obtain ⟨n, hn⟩ := hk cur hl (hw.finish hc)
      refine ⟨n + 1, ?_⟩
      simp only [impl_cycles.l1]
      have ha := hw.lt
      rw [if_pos (by omega), if_pos (by omega), if_pos ((rdOf_mk cur a).mpr hc), wrap_id (by omega) (by omega)]
      exact hn
    · have := count_set_true cur a (by rw [hl]; exact hw.lt) hc
      omega
  | succ d ih =>
    intro cur a hd hl hw
    by_cases hc : mk cur a
    · obtain ⟨n, hn⟩ := hk cur hl (hw.finish hc)
      refine ⟨n + 1, ?_⟩
      simp only [impl_cycles.l1]
      have ha := hw.lt
      rw [if_pos (by omega), if_pos (by omega), if_pos ((rdOf_mk cur a).mpr hc), wrap_id (by omega) (by omega)]
      exact hn
    · have ha := hw.lt
      have h1 := count_set_true cur a (by omega) hc
      obtain ⟨n, hn⟩ := ih (cur.set a true) (p a) (by omega) (by simpa using hl) (walks_congr (hw.step hp hc) (fun x => mk_set cur a x (by omega)))
      refine ⟨n + 1, ?_⟩
      simp only [impl_cycles.l1]
      rw [if_pos (by omega), if_pos (by omega), if_neg (fun h => hc ((rdOf_mk cur a).mp h)), if_pos (by omega), hx a ha, Int.toNat_natCast]
      exact hn
theorem cyc_l0 (d : Nat) : ∀ (i : Nat) (cur : List Bool) (x4 : Int), m - i = d → i ≤ m → cur.length = m → Bi m p q (mk cur) → 0 ≤ x4 → x4 ≤ i → ∃ c n, impl_cycles.l0 n x0 cur x4 m i = some (x4 + (c : Nat)) ∧ Cnt m p q i (mk cur) c := by
  induction d with
  | zero =>
    intro i cur x4 hd hi hl hb h0 h1
    obtain rfl : i = m := by omega
    refine ⟨0, 1, ?_, .done _⟩
    simp only [impl_cycles.l0]
    rw [if_neg (by omega)]
    simp
  | succ d ih =>
    intro i cur x4 hd hi hl hb h0 h1
    have hlt : i < m := by omega
    by_cases hc : mk cur i
    · obtain ⟨c, n, hn, hcnt⟩ := ih (i + 1) cur x4 (by omega) (by omega) hl hb h0 (by omega)
      refine ⟨c, n + 1, ?_, .skip hlt hc hcnt⟩
      simp only [impl_cycles.l0]
      rw [if_pos (by omega), if_pos (by omega), if_pos (by omega), if_pos ((rdOf_mk cur i).mpr hc), wrap_id (by omega) (by omega)]
      exact hn
    · -- some walk behind: its number is told by the least set
      have key : ∃ cur', cur'.length = m ∧ Grows m p q (mk cur) i (mk cur') := by
        have hgo : ∀ d (cur1 : List Bool) (a : Nat), cur1.count false ≤ d → cur1.length = m → Walks m p q (mk cur) i (mk cur1) a → ∃ cur', cur'.length = m ∧ Grows m p q (mk cur) i (mk cur') := by
          intro d
          induction d with
          | zero =>
            intro cur1 a hd hl1 hw
            by_cases hc1 : mk cur1 a
            · exact ⟨cur1, hl1, hw.finish hc1⟩
            · have := count_set_true cur1 a (by rw [hl1]; exact hw.lt) hc1
              omega
          | succ d ih2 =>
            intro cur1 a hd hl1 hw
            by_cases hc1 : mk cur1 a
            · exact ⟨cur1, hl1, hw.finish hc1⟩
            · have ha := hw.lt
              have h1 := count_set_true cur1 a (by omega) hc1
              exact ih2 (cur1.set a true) (p a) (by omega) (by simpa using hl1) (walks_congr (hw.step hp hc1) (fun x => mk_set cur1 a x (by omega)))
        exact hgo _ cur i (Nat.le_refl _) hl (Walks.start hb hlt hc)
      obtain ⟨cur1, hl1, hg1⟩ := key
      obtain ⟨c, n0, hn0, hcnt⟩ := ih (i + 1) cur1 (x4 + 1) (by omega) (by omega) hl1 hg1.bi (by omega) (by omega)
      obtain ⟨n, hn⟩ := cyc_l1 hp hm x0 hx hlen i (mk cur) (x4 + 1) (x4 + ((c + 1 : Nat) : Int)) (fun cur' hl' hg' => by
        obtain ⟨c', n', hn', hcnt'⟩ := ih (i + 1) cur' (x4 + 1) (by omega) (by omega) hl' hg'.bi (by omega) (by omega)
        have e : c' = c := hcnt'.same (fun x hx => ⟨fun h => hg'.least _ hg1.bi (fun y hy hs => hg1.over y hy hs) hg1.at_ x hx h, fun h => hg1.least _ hg'.bi (fun y hy hs => hg'.over y hy hs) hg'.at_ x hx h⟩) hcnt
        refine ⟨n', ?_⟩
        rw [show ((i : Int) + 1) = ((i + 1 : Nat) : Int) by omega, hn', e, show x4 + 1 + (c : Int) = x4 + ((c + 1 : Nat) : Int) by omega]) hlt (cur.count false) cur i (Nat.le_refl _) hl (Walks.start hb hlt hc)
      refine ⟨c + 1, n + 1, ?_, .mark hlt hc hg1 hcnt⟩
      simp only [impl_cycles.l0]
      rw [if_pos (by omega), if_pos (by omega), if_pos (by omega), if_neg (fun h => hc ((rdOf_mk cur i).mp h)), wrap_id (by omega) (by omega)]
      exact hn
theorem ev_cycles : ∃ c : Nat, Ev (fun k => impl_cycles.f k x0) (c : Int) ∧ Cnt m p q 0 (fun _ => False) c := by
  have h0 : ∀ x, mk (List.replicate m false) x ↔ False := fun x => by
    unfold mk
    rw [List.getD_eq_getElem?_getD, List.getElem?_replicate]
    split <;> simp
  obtain ⟨c, n, hn, hc⟩ := cyc_l0 hp hm x0 hx hlen m 0 (List.replicate m false) 0 (by omega) (by omega) (by simp) (fun x _ h => ((h0 x).mp h).elim) (by omega) (by omega)
  refine ⟨c, ?_, hc.congr (fun x _ => h0 x)⟩
  refine ev_of (fun k => impl_cycles.mono _ _) ⟨n, ?_⟩
  unfold impl_cycles.f
  rw [if_pos (by omega), if_pos (by omega), Int.toNat_natCast, hlen]
  simpa using hn
end
end Go.Proofs.Ytokcklkjnjffnab.K

set_option linter.unusedVariables false
set_option linter.unusedSectionVars false
set_option linter.unusedSimpArgs false
namespace Go.Proofs.Ytokcklkjnjffnab.K
open Go.RowKit Go.Proofs.YtokcklkjnjffnabW.PrintWords Go.Proofs.YtokcklkjnjffnabW.PrintLast Go.Proofs.YtokcklkjnjffnabW.PrintMore Go.Proofs.Ytokcklkjnjffnab.PA

/-- a and b are the places of x. -/
structure Two (l : List Int) (x : Int) (a b : Nat) : Prop where
  ab : a < b
  bl : b < l.length
  ra : rd l a = x
  rb : rd l b = x
  only : ∀ j, j < l.length → rd l j = x → j = a ∨ j = b
theorem rd_append_left (s t : List Int) (j : Nat) (h : j < s.length) : rd (s ++ t) j = rd s j := by
  unfold rd
  rw [Int.toNat_natCast, List.getD_eq_getElem?_getD, List.getD_eq_getElem?_getD, List.getElem?_append_left h]
theorem rd_append_right (s t : List Int) (j : Nat) : rd (s ++ t) ((s.length + j : Nat) : Int) = rd t j := by
  unfold rd
  rw [Int.toNat_natCast, Int.toNat_natCast, List.getD_eq_getElem?_getD, List.getD_eq_getElem?_getD, List.getElem?_append_right (by omega), Nat.add_sub_cancel_left]
theorem rd_cons_zero (x : Int) (t : List Int) : rd (x :: t) ((0 : Nat) : Int) = x := rfl
theorem rd_cons_succ (x : Int) (t : List Int) (j : Nat) : rd (x :: t) ((j + 1 : Nat) : Int) = rd t j := by
  unfold rd
  rw [Int.toNat_natCast, Int.toNat_natCast, List.getD_cons_succ]
theorem rd_not_mem (s : List Int) (x : Int) (h : x ∉ s) (j : Nat) (hj : j < s.length) : rd s j ≠ x := fun e => h (e ▸ rd_mem s j hj)
theorem two_of_count (l : List Int) (x : Int) (h : l.count x = 2) : ∃ a b, Two l x a b := by
  obtain ⟨s, t, rfl, hs⟩ := List.eq_append_cons_of_mem (List.count_pos_iff.mp (show 0 < l.count x by omega))
  have h0 : s.count x = 0 := List.count_eq_zero.mpr hs
  rw [List.count_append, List.count_cons_self, h0] at h
  obtain ⟨s2, t2, rfl, hs2⟩ := List.eq_append_cons_of_mem (List.count_pos_iff.mp (show 0 < t.count x by omega))
  have h1 : s2.count x = 0 := List.count_eq_zero.mpr hs2
  rw [List.count_append, List.count_cons_self, h1] at h
  have ht2 : x ∉ t2 := List.count_eq_zero.mp (by omega)
  refine ⟨s.length, s.length + (s2.length + 1), by omega, by simp, ?_, ?_, fun j hj e => ?_⟩
  · have := rd_append_right s (x :: (s2 ++ x :: t2)) 0
    rw [Nat.add_zero] at this
    rw [this, rd_cons_zero]
  · rw [rd_append_right, rd_cons_succ]
    have := rd_append_right s2 (x :: t2) 0
    rw [Nat.add_zero] at this
    rw [this, rd_cons_zero]
  · rcases Nat.lt_or_ge j s.length with h1 | h1
    · rw [rd_append_left _ _ _ h1] at e
      exact absurd e (rd_not_mem s x hs j h1)
    · obtain ⟨k, rfl⟩ : ∃ k, j = s.length + k := ⟨j - s.length, by omega⟩
      rw [rd_append_right] at e
      match k with
      | 0 => exact Or.inl rfl
      | k + 1 =>
        rw [rd_cons_succ] at e
        right
        rcases Nat.lt_or_ge k s2.length with h2 | h2
        · rw [rd_append_left _ _ _ h2] at e
          exact absurd e (rd_not_mem s2 x hs2 k h2)
        · obtain ⟨u, rfl⟩ : ∃ u, k = s2.length + u := ⟨k - s2.length, by omega⟩
          rw [rd_append_right] at e
          match u with
          | 0 => omega
          | u + 1 =>
            rw [rd_cons_succ] at e
            simp only [List.length_append, List.length_cons] at hj
            exact absurd e (rd_not_mem t2 x ht2 u (by omega))

/-! ### what a word is -/
/-- The numbers of a word of n chords. -/
structure Word (l : List Int) (n : Nat) : Prop where
  len : l.length = 2 * n
  small : n ≤ 6
  range : ∀ j, j < l.length → 0 ≤ rd l j ∧ rd l j < n
  two : ∀ i, i < n → l.count (i : Int) = 2
theorem normFrom_range (l : List Int) : ∀ met, ∀ y ∈ normFrom met l, 0 ≤ y ∧ y < ((metBy met l).length : Int) := by
  have hmono : ∀ (l : List Int) (met : List Int), met.length ≤ (metBy met l).length := by
    intro l
    induction l with
    | nil => intro met; exact Nat.le_refl _
    | cons x r ih =>
      intro met
      rw [metBy]
      split
      · exact ih met
      · have := ih (met ++ [x])
        simp at this
        omega
  induction l with
  | nil => intro met y hy; simp [normFrom] at hy
  | cons x r ih =>
    intro met y hy
    rw [normFrom] at hy
    rw [metBy]
    cases h : met.idxOf? x with
    | some j =>
      rw [h] at hy
      simp only at hy ⊢
      rcases List.mem_cons.mp hy with rfl | hy
      · have h1 := idxOf?_lt h
        have h2 := hmono r met
        omega
      · exact ih met y hy
    | none =>
      rw [h] at hy
      simp only at hy ⊢
      rcases List.mem_cons.mp hy with rfl | hy
      · have h2 := hmono r (met ++ [x])
        simp at h2
        omega
      · exact ih (met ++ [x]) y hy
theorem normFrom_onto (l : List Int) : ∀ met (k : Nat), met.length ≤ k → k < (metBy met l).length → (k : Int) ∈ normFrom met l := by
  induction l with
  | nil => intro met k h1 h2; simp [metBy] at h2; omega
  | cons x r ih =>
    intro met k h1 h2
    rw [metBy] at h2
    rw [normFrom]
    cases h : met.idxOf? x with
    | some j =>
      rw [h] at h2
      exact List.mem_cons_of_mem _ (ih met k h1 h2)
    | none =>
      rw [h] at h2
      simp only at h2 ⊢
      by_cases e : k = met.length
      · subst e; exact List.mem_cons_self
      · exact List.mem_cons_of_mem _ (ih (met ++ [x]) k (by simp; omega) h2)
/-- A list whose numbers are 0 to n - 1, each twice, has 2 n elements. -/
theorem length_of_counts (n : Nat) : ∀ (l : List Int), (∀ y ∈ l, 0 ≤ y ∧ y < (n : Int)) → (∀ i : Nat, i < n → l.count (i : Int) = 2) → l.length = 2 * n := by
  induction n with
  | zero =>
    intro l h _
    cases l with
    | nil => rfl
    | cons y r =>
      have := h y List.mem_cons_self
      omega
  | succ n ih =>
    intro l h h2
    have h3 := ih (l.filter (fun y => y != (n : Int))) (fun y hy => by
      obtain ⟨hy1, hy2⟩ := List.mem_filter.mp hy
      have := h y hy1
      have : y ≠ (n : Int) := by simpa using hy2
      omega) (fun i hi => by
      rw [List.count_filter (by have : (i : Int) ≠ n := by omega
                                simpa using this)]
      exact h2 i (by omega))
    have h4 : l.length = (l.filter (fun y => y != (n : Int))).length + l.count (n : Int) := by
      clear h h2 h3 ih
      induction l with
      | nil => rfl
      | cons y r ihr =>
        by_cases e : y = (n : Int)
        · subst e; simp; omega
        · have h5 : (y != (n : Int)) = true := by simpa using e
          rw [List.filter_cons, if_pos h5, List.count_cons]
          simp [e]
          omega
    have := h2 n (by omega)
    omega
theorem word_of (l : List Int) (h : isWordL l = true) : ∃ n, Word l n := by
  unfold isWordL at h
  simp only [Bool.and_eq_true, decide_eq_true_eq] at h
  obtain ⟨h12, ht, hn⟩ := h
  have hr : ∀ y ∈ l, 0 ≤ y ∧ y < ((metBy [] l).length : Int) := by
    intro y hy
    exact normFrom_range l [] y (by
      have : normFrom [] l = l := hn
      rw [this]; exact hy)
  have hc : ∀ i : Nat, i < (metBy [] l).length → l.count (i : Int) = 2 := by
    intro i hi
    have hm : (i : Int) ∈ l := by
      have h5 := normFrom_onto l [] i (by simp) hi
      have : normFrom [] l = l := hn
      rw [this] at h5
      exact h5
    have := List.all_eq_true.mp ht _ hm
    simpa using this
  have hlen := length_of_counts _ l hr hc
  exact ⟨_, hlen, by omega, fun j hj => hr _ (rd_mem l j hj), hc⟩

/-! ### mates -/
open Classical in
/-- The other place of the chord at j. -/
noncomputable def mate (l : List Int) (j : Nat) : Nat := if h : ∃ k, k < l.length ∧ k ≠ j ∧ rd l k = rd l j then Classical.choose h else 0
theorem Two.mate_a {l : List Int} {x : Int} {a b : Nat} (h : Two l x a b) : mate l a = b := by
  have hex : ∃ k, k < l.length ∧ k ≠ a ∧ rd l k = rd l a := ⟨b, h.bl, by have := h.ab; omega, by rw [h.rb, h.ra]⟩
  unfold mate
  rw [dif_pos hex]
  obtain ⟨h1, h2, h3⟩ := Classical.choose_spec hex
  rcases h.only _ h1 (by rw [h3, h.ra]) with e | e
  · exact absurd e h2
  · exact e
theorem Two.mate_b {l : List Int} {x : Int} {a b : Nat} (h : Two l x a b) : mate l b = a := by
  have hex : ∃ k, k < l.length ∧ k ≠ b ∧ rd l k = rd l b := ⟨a, by have := h.ab; have := h.bl; omega, by have := h.ab; omega, by rw [h.ra, h.rb]⟩
  unfold mate
  rw [dif_pos hex]
  obtain ⟨h1, h2, h3⟩ := Classical.choose_spec hex
  rcases h.only _ h1 (by rw [h3, h.rb]) with e | e
  · exact e
  · exact absurd e h2
section
variable {l : List Int} {n : Nat} (hw : Word l n)
include hw
theorem Word.at_ (j : Nat) (hj : j < l.length) : ∃ (i a b : Nat), i < n ∧ rd l j = i ∧ Two l i a b ∧ (j = a ∨ j = b) := by
  obtain ⟨h0, h1⟩ := hw.range j hj
  obtain ⟨i, hi⟩ : ∃ i : Nat, rd l j = i := ⟨(rd l j).toNat, by omega⟩
  obtain ⟨a, b, ht⟩ := two_of_count l i (hw.two i (by omega))
  exact ⟨i, a, b, by omega, hi, ht, ht.only j hj hi⟩
theorem Word.mate_lt (j : Nat) (hj : j < l.length) : mate l j < l.length ∧ mate l (mate l j) = j ∧ rd l (mate l j) = rd l j := by
  obtain ⟨i, a, b, hi, hr, ht, rfl | rfl⟩ := hw.at_ j hj
  · rw [ht.mate_a, ht.mate_b]
    exact ⟨ht.bl, rfl, by rw [ht.rb, hr]⟩
  · rw [ht.mate_b, ht.mate_a]
    exact ⟨by have := ht.ab; have := ht.bl; omega, rfl, by rw [ht.ra, hr]⟩
end

/-! ### places -/
theorem index_l0 (l : List Int) (x : Int) (p : Nat) (hp : p < l.length) (hx : rd l p = x) (hmin : ∀ j, j < p → rd l j ≠ x) (hl : l.length ≤ 4096) (d : Nat) : ∀ i : Nat, p - i = d → i ≤ p → ∃ n, slices_Index_int64_int64.l0 n l x l.length i = some (p : Int) := by
  induction d with
  | zero =>
    intro i hd hi
    obtain rfl : i = p := by omega
    refine ⟨1, ?_⟩
    simp only [slices_Index_int64_int64.l0]
    rw [if_pos (by omega), if_pos (by omega), if_pos (by omega), if_pos hx.symm]
  | succ d ih =>
    intro i hd hi
    obtain ⟨n, hn⟩ := ih (i + 1) (by omega) (by omega)
    refine ⟨n + 1, ?_⟩
    simp only [slices_Index_int64_int64.l0]
    rw [if_pos (by omega), if_pos (by omega), if_pos (by omega), if_neg (fun e => hmin i (by omega) e.symm), wrap_id (by omega) (by omega)]
    exact hn
theorem ev_index (l : List Int) (x : Int) (p : Nat) (hp : p < l.length) (hx : rd l p = x) (hmin : ∀ j, j < p → rd l j ≠ x) (hl : l.length ≤ 4096) : Ev (fun k => slices_Index_int64_int64.f k l x) (p : Int) := by
  refine ev_of (fun k => slices_Index_int64_int64.mono _ _ _) ?_
  obtain ⟨n, hn⟩ := index_l0 l x p hp hx hmin hl p 0 (by omega) (by omega)
  exact ⟨n, by simpa [slices_Index_int64_int64.f] using hn⟩
theorem rd_drop (l : List Int) (a j : Nat) : rd (l.drop a) j = rd l ((a + j : Nat) : Int) := by
  unfold rd
  rw [Int.toNat_natCast, Int.toNat_natCast, List.getD_eq_getElem?_getD, List.getD_eq_getElem?_getD, List.getElem?_drop]
theorem ev_places (l : List Int) (x : Int) (a b : Nat) (ht : Two l x a b) (hl : l.length ≤ 4096) : Ev (fun k => impl_places.f k l x) ((a : Int), (b : Int)) := by
  have hab := ht.ab
  have hbl := ht.bl
  unfold impl_places.f
  refine Ev.bind (ev_index l x a (by omega) ht.ra (fun j hj e => by
    rcases ht.only j (by omega) e with h | h <;> omega) hl) ?_
  rw [wrap_id (x := (a : Int) + 1) (by omega) (by omega)]
  refine ev_pos (by omega) (ev_pos (by omega) ?_)
  rw [show ((a : Int) + 1).toNat = a + 1 by omega]
  refine Ev.bind (ev_index (l.drop (a + 1)) x (b - a - 1) (by rw [List.length_drop]; omega) (by rw [rd_drop, show a + 1 + (b - a - 1) = b by omega, ht.rb]) (fun j hj e => by
    rw [rd_drop] at e
    rcases ht.only (a + 1 + j) (by omega) e with h | h <;> omega) (by rw [List.length_drop]; omega)) ?_
  rw [wrap_id (by omega) (by omega), show ((a : Int) + 1 + ((b - a - 1 : Nat) : Int)) = (b : Int) by omega]
  exact ev_some _
theorem rd_set (l : List Int) (i j : Nat) (v : Int) (hi : i < l.length) : rd (l.set i v) j = if j = i then v else rd l j := by
  unfold rd
  rw [Int.toNat_natCast, List.getD_eq_getElem?_getD, List.getElem?_set]
  by_cases h : i = j
  · subst h; simp [hi]
  · rw [if_neg h, if_neg (fun e => h e.symm), List.getD_eq_getElem?_getD]

section
variable {l : List Int} {n : Nat} (hw : Word l n)
include hw
theorem mates_l0 (d : Nat) : ∀ (i : Nat) (out : List Int), n - i = d → i ≤ n → out.length = l.length → (∀ j, j < l.length → rd l j < i → rd out j = (mate l j : Int)) →
    ∃ k r, impl_mates.l0 k l out n i = some r ∧ r.length = l.length ∧ ∀ j, j < l.length → rd r j = (mate l j : Int) := by
  have hlen := hw.len
  have hsm := hw.small
  induction d with
  | zero =>
    intro i out hd hi ho hj
    refine ⟨1, out, ?_, ho, fun j hjl => hj j hjl (by have := (hw.range j hjl).2; omega)⟩
    simp only [impl_mates.l0]
    rw [if_neg (by omega)]
  | succ d ih =>
    intro i out hd hi ho hj
    obtain ⟨a, b, ht⟩ := two_of_count l i (hw.two i (by omega))
    have hab := ht.ab
    have hbl := ht.bl
    obtain ⟨K, hK⟩ := ev_places l i a b ht (by omega)
    obtain ⟨k, r, hk, hr⟩ := ih (i + 1) ((out.set a (b : Int)).set b (a : Int)) (by omega) (by omega) (by simpa using ho) (fun j hjl hji => by
      rw [rd_set _ _ _ _ (by rw [List.length_set]; omega), rd_set _ _ _ _ (by omega)]
      by_cases e1 : j = b
      · rw [if_pos e1, e1, ht.mate_b]
      · rw [if_neg e1]
        by_cases e2 : j = a
        · rw [if_pos e2, e2, ht.mate_a]
        · rw [if_neg e2]
          refine hj j hjl ?_
          have : rd l j ≠ i := fun e => by
            rcases ht.only j hjl e with h | h
            · exact e2 h
            · exact e1 h
          omega)
    refine ⟨K + k + 1, r, ?_, hr⟩
    simp only [impl_mates.l0]
    rw [if_pos (by omega), show impl_places.f (K + k) l (i : Int) = some ((a : Int), (b : Int)) from hK (K + k) (by omega)]
    simp only [Option.bind_some]
    rw [if_pos (by omega), if_pos (by omega), if_pos (by omega), if_pos (by omega), Int.toNat_natCast, Int.toNat_natCast, wrap_id (by omega) (by omega)]
    have := at_rounds (g := fun k => impl_mates.l0 k l ((out.set a (b : Int)).set b (a : Int)) n ((i + 1 : Nat) : Int)) (fun k => impl_mates.mono_l k _ _ _ _) (Nat.le_add_left k K) hk
    exact this
theorem ev_mates : ∃ r, Ev (fun k => impl_mates.f k l) r ∧ r.length = l.length ∧ ∀ j, j < l.length → rd r j = (mate l j : Int) := by
  have hlen := hw.len
  have hsm := hw.small
  obtain ⟨k, r, hk, h1, h2⟩ := mates_l0 hw n 0 (List.replicate l.length 0) (by omega) (by omega) (by simp) (fun j hj h => by have := (hw.range j hj).1; omega)
  refine ⟨r, ev_of (fun k => impl_mates.mono _ _) ⟨k, ?_⟩, h1, h2⟩
  unfold impl_mates.f impl_chords.f
  rw [if_pos (by omega), if_pos (by omega), Int.toNat_natCast]
  simp only [Option.bind_some]
  rw [wrap_id (by omega) (by omega), show (l.length : Int) / 2 = n by omega]
  exact hk
/-- The next place along the circle, and the one before. -/
def succM (m x : Nat) : Nat := if x + 1 = m then 0 else x + 1
def predM (m x : Nat) : Nat := if x = 0 then m - 1 else x - 1
theorem perm_borders : Perm2 l.length (fun x => succM l.length (mate l x)) (fun x => mate l (predM l.length x)) := by
  have hlt : ∀ x, x < l.length → predM l.length x < l.length := fun x hx => by unfold predM; split <;> omega
  refine ⟨fun x hx => ?_, fun x hx => (hw.mate_lt _ (hlt x hx)).1, fun x hx => ?_, fun x hx => ?_⟩
  · have := (hw.mate_lt x hx).1
    show succM l.length (mate l x) < l.length
    unfold succM; split <;> omega
  · show succM l.length (mate l (mate l (predM l.length x))) = x
    rw [(hw.mate_lt _ (hlt x hx)).2.1]
    unfold succM predM; split <;> split <;> omega
  · show mate l (predM l.length (succM l.length (mate l x))) = x
    have h1 := (hw.mate_lt x hx).1
    rw [show predM l.length (succM l.length (mate l x)) = mate l x by unfold succM predM; split <;> split <;> omega]
    exact (hw.mate_lt x hx).2.1
theorem tmod_succ (m y : Nat) (h : y < m) (hm : m ≤ 4096) : Int.tmod (wrap64 ((y : Int) + 1)) (m : Int) = (succM m y : Int) := by
  rw [wrap_id (by omega) (by omega), show ((y : Int) + 1) = ((y + 1 : Nat) : Int) by omega, ← Int.ofNat_tmod]
  unfold succM
  split
  · rename_i h2; rw [h2, Nat.mod_self]
  · rw [Nat.mod_eq_of_lt (by omega)]
theorem borders_l0 (hpos : 0 < l.length) (c : Nat) (hc : ∀ x0 : List Int, x0.length = l.length → (∀ x, x < l.length → rd x0 x = (succM l.length (mate l x) : Int)) → Ev (fun k => impl_cycles.f k x0) (c : Int)) (d : Nat) :
    ∀ (i : Nat) (out : List Int), l.length - i = d → i ≤ l.length → out.length = l.length → (∀ j, j < i → rd out j = (succM l.length (mate l j) : Int)) → (∀ j, i ≤ j → j < l.length → rd out j = (mate l j : Int)) →
    ∃ k, impl_borders.l0 k l out l.length i = some (mx (c : Int) 1) := by
  have hlen := hw.len
  have hsm := hw.small
  induction d with
  | zero =>
    intro i out hd hi ho h1 h2
    obtain ⟨K, hK⟩ := hc out ho (fun x hx => h1 x (by omega))
    refine ⟨K + 1, ?_⟩
    simp only [impl_borders.l0]
    rw [if_neg (by omega), show impl_cycles.f K out = some (c : Int) from hK K (Nat.le_refl _)]
    rfl
  | succ d ih =>
    intro i out hd hi ho h1 h2
    have hlt : i < l.length := by omega
    have hml := (hw.mate_lt i hlt).1
    obtain ⟨k, hk⟩ := ih (i + 1) (out.set i (succM l.length (mate l i) : Int)) (by omega) (by omega) (by simpa using ho) (fun j hj => by
      rw [rd_set _ _ _ _ (by omega)]
      split
      · rename_i e; rw [e]
      · exact h1 j (by omega)) (fun j hj1 hj2 => by
      rw [rd_set _ _ _ _ (by omega), if_neg (by omega)]
      exact h2 j (by omega) hj2)
    refine ⟨k + 1, ?_⟩
    simp only [impl_borders.l0]
    rw [if_pos (by omega), if_pos (by omega), if_pos (by omega), if_neg (by omega), h2 i (Nat.le_refl _) hlt, tmod_succ hw _ _ hml (by omega), Int.toNat_natCast, wrap_id (by omega) (by omega)]
    exact hk
/-- The border circles of a word: as many as the cycles are. -/
theorem ev_borders : ∃ c : Nat, Ev (fun k => impl_borders.f k l) (mx (c : Int) 1) ∧ Cnt l.length (fun x => succM l.length (mate l x)) (fun x => mate l (predM l.length x)) 0 (fun _ => False) c := by
  have hlen := hw.len
  have hsm := hw.small
  obtain ⟨r, hr, hrl, hrj⟩ := ev_mates hw
  by_cases hpos : 0 < l.length
  · have hP := perm_borders hw
    -- the number of cycles, whatever the row
    obtain ⟨c, hcE, hcnt⟩ := ev_cycles hP (by omega) ((List.range l.length).map fun x => (succM l.length (mate l x) : Int)) (fun x hx => by
      rw [rd_lt _ _ (by simpa using hx)]; simp) (by simp)
    refine ⟨c, ?_, hcnt⟩
    unfold impl_borders.f
    refine Ev.bind hr ?_
    obtain ⟨k, hk⟩ := borders_l0 hw hpos c (fun x0 h1 h2 => by
      obtain ⟨c', h3, h4⟩ := ev_cycles hP (by omega) x0 h2 h1
      rw [h4.same (fun _ _ => Iff.rfl) hcnt] at h3
      exact h3) l.length 0 r (by omega) (by omega) hrl (fun j hj => by omega) (fun j _ hj => hrj j hj)
    refine ev_of (fun k => ?_) ⟨k, ?_⟩
    · exact impl_borders.mono_l k _ _ _ _
    · rw [hrl]; exact hk
  · have h0 : l.length = 0 := by omega
    refine ⟨0, ?_, by rw [h0]; exact .done _⟩
    unfold impl_borders.f
    refine Ev.bind hr ?_
    obtain rfl : r = [] := List.eq_nil_of_length_eq_zero (by omega)
    refine ev_of (fun k => impl_borders.mono_l k _ _ _ _) ⟨3, ?_⟩
    simp [impl_borders.l0, impl_cycles.f, impl_cycles.l0]
end
end Go.Proofs.Ytokcklkjnjffnab.K

set_option linter.unusedVariables false
set_option linter.unusedSimpArgs false
set_option linter.unusedSectionVars false
namespace Go.Proofs.Ytokcklkjnjffnab.K
open Go.RowKit Go.Proofs.YtokcklkjnjffnabW.PrintWords Go.Proofs.YtokcklkjnjffnabW.PrintLast Go.Proofs.YtokcklkjnjffnabW.PrintMore Go.Proofs.Ytokcklkjnjffnab.PA

/-! ### the reference's places -/
theorem specPlaces_l0 (l : List Int) (x : Int) (a b : Nat) (ht : Two l x a b) (hl : l.length ≤ 4096) (d : Nat) : ∀ (j : Nat) (x6 x7 : Int), l.length - j = d → j ≤ l.length →
    ((j ≤ a ∧ x6 = -1 ∧ x7 = -1) ∨ (a < j ∧ j ≤ b ∧ x6 = a) ∨ (b < j ∧ x6 = a ∧ x7 = b)) → ∃ n, spec_l01Places.l0 n l x x6 x7 j = some ((a : Int), (b : Int)) := by
  have hab := ht.ab
  have hbl := ht.bl
  induction d with
  | zero =>
    intro j x6 x7 hd hj h
    refine ⟨1, ?_⟩
    simp only [spec_l01Places.l0]
    rw [if_neg (by omega)]
    rcases h with ⟨h, _⟩ | ⟨_, h, _⟩ | ⟨_, h6, h7⟩
    · omega
    · omega
    · rw [h6, h7]
  | succ d ih =>
    intro j x6 x7 hd hj h
    have hlt : j < l.length := by clear h; omega
    have hd1 : l.length - (j + 1) = d := by clear h; omega
    by_cases e : rd l j = x
    · rcases ht.only j hlt e with e2 | e2
      · obtain ⟨n, hn⟩ := ih (j + 1) j j hd1 hlt (Or.inr (Or.inl ⟨by omega, by omega, by omega⟩))
        refine ⟨n + 1, ?_⟩
        simp only [spec_l01Places.l0]
        rw [if_pos (by clear h; omega), if_pos (by clear h; omega), if_pos e, if_pos (by rcases h with ⟨_, h, _⟩ | ⟨h, _⟩ | ⟨h, _⟩ <;> omega), wrap_id (by clear h; omega) (by clear h; omega)]
        exact hn
      · obtain ⟨n, hn⟩ := ih (j + 1) a j hd1 hlt (Or.inr (Or.inr ⟨by omega, rfl, by omega⟩))
        have h6 : x6 = a := by rcases h with ⟨h, _⟩ | ⟨_, _, h⟩ | ⟨h, _⟩ <;> omega
        refine ⟨n + 1, ?_⟩
        simp only [spec_l01Places.l0]
        rw [if_pos (by clear h; omega), if_pos (by clear h; omega), if_pos e, if_neg (by clear h; omega), wrap_id (by clear h; omega) (by clear h; omega), h6]
        exact hn
    · have hja : j ≠ a := fun e2 => e (by rw [e2, ht.ra])
      have hjb : j ≠ b := fun e2 => e (by rw [e2, ht.rb])
      obtain ⟨n, hn⟩ := ih (j + 1) x6 x7 hd1 hlt (by
        rcases h with ⟨h, h6, h7⟩ | ⟨h1, h2, h6⟩ | ⟨h, h6, h7⟩
        · exact Or.inl ⟨by omega, h6, h7⟩
        · exact Or.inr (Or.inl ⟨by omega, by omega, h6⟩)
        · exact Or.inr (Or.inr ⟨by omega, h6, h7⟩))
      refine ⟨n + 1, ?_⟩
      simp only [spec_l01Places.l0]
      rw [if_pos (by clear h; omega), if_pos (by clear h; omega), if_neg e, wrap_id (by clear h; omega) (by clear h; omega)]
      exact hn
theorem ev_specPlaces (l : List Int) (x : Int) (a b : Nat) (ht : Two l x a b) (hl : l.length ≤ 4096) : Ev (fun k => spec_l01Places.f k l x) ((a : Int), (b : Int)) := by
  refine ev_of (fun k => spec_l01Places.mono _ _ _) ?_
  obtain ⟨n, hn⟩ := specPlaces_l0 l x a b ht hl l.length 0 (-1) (-1) (by omega) (by omega) (Or.inl ⟨by omega, rfl, rfl⟩)
  exact ⟨n, by simpa [spec_l01Places.f] using hn⟩

/-! ### bands -/
/-- Where the band at point t leads. -/
noncomputable def bandP (l : List Int) (tw : List Bool) (t : Nat) : Nat := 2 * mate l (t / 2) + (if rdOf false tw (rd l ((t / 2 : Nat) : Int)) = true then t % 2 else 1 - t % 2)
section
variable {l : List Int} {n : Nat} (hw : Word l n)
include hw
theorem bands_l0 (tw : List Bool) (htw : n ≤ tw.length) (r : Int) (hk : ∀ band : List Int, band.length = 2 * l.length → (∀ t, t < 2 * l.length → rd band t = (bandP l tw t : Int)) → ∃ k, spec_l05Circles.l1 k l.length band (List.replicate (2 * l.length) false) 0 0 = some r) (d : Nat) :
    ∀ (i : Nat) (band : List Int), n - i = d → i ≤ n → band.length = 2 * l.length → (∀ t, t < 2 * l.length → rd l ((t / 2 : Nat) : Int) < i → rd band t = (bandP l tw t : Int)) → ∃ k, spec_l05Circles.l0 k l tw l.length band i = some r := by
  have hlen := hw.len
  have hsm := hw.small
  have htd : Int.tdiv (l.length : Int) 2 = n := by rw [Int.tdiv_eq_ediv_of_nonneg (by omega)]; omega
  induction d with
  | zero =>
    intro i band hd hi hb hj
    obtain ⟨k, hk⟩ := hk band hb (fun t ht => hj t ht (by have := (hw.range (t / 2) (by omega)).2; omega))
    refine ⟨k + 1, ?_⟩
    simp only [spec_l05Circles.l0]
    rw [htd, wrap_id (x := (n : Int)) (by omega) (by omega), if_neg (by omega), wrap_id (by omega) (by omega), if_pos (by omega), if_pos (by omega), show (2 * (l.length : Int)).toNat = 2 * l.length by omega]
    exact hk
  | succ d ih =>
    intro i band hd hi hb hj
    obtain ⟨a, b, ht⟩ := two_of_count l i (hw.two i (by omega))
    have hab := ht.ab
    have hbl := ht.bl
    obtain ⟨K, hK⟩ := ev_specPlaces l i a b ht (by omega)
    have hma := ht.mate_a
    have hmb := ht.mate_b
    have hnot : ∀ t, t < 2 * l.length → t ≠ 2 * a → t ≠ 2 * a + 1 → t ≠ 2 * b → t ≠ 2 * b + 1 → rd l ((t / 2 : Nat) : Int) < ((i + 1 : Nat) : Int) → rd l ((t / 2 : Nat) : Int) < i := by
      intro t htl h1 h2 h3 h4 h5
      have : rd l ((t / 2 : Nat) : Int) ≠ i := fun e => by
        rcases ht.only (t / 2) (by omega) e with h | h <;> omega
      omega
    by_cases htt : rdOf false tw (i : Int) = true
    · obtain ⟨k, hk2⟩ := ih (i + 1) ((((band.set (2 * a) ((2 * b : Nat) : Int)).set (2 * b) ((2 * a : Nat) : Int)).set (2 * a + 1) ((2 * b + 1 : Nat) : Int)).set (2 * b + 1) ((2 * a + 1 : Nat) : Int)) (by omega) (by omega) (by simpa using hb) (fun t htl hti => by
        rw [rd_set _ _ _ _ (by simp only [List.length_set]; omega), rd_set _ _ _ _ (by simp only [List.length_set]; omega), rd_set _ _ _ _ (by simp only [List.length_set]; omega), rd_set _ _ _ _ (by omega)]
        unfold bandP
        by_cases e1 : t = 2 * b + 1
        · rw [if_pos e1, e1, show (2 * b + 1) / 2 = b by omega, hmb, ht.rb, if_pos htt]; omega
        · rw [if_neg e1]
          by_cases e2 : t = 2 * a + 1
          · rw [if_pos e2, e2, show (2 * a + 1) / 2 = a by omega, hma, ht.ra, if_pos htt]; omega
          · rw [if_neg e2]
            by_cases e3 : t = 2 * b
            · rw [if_pos e3, e3, show 2 * b / 2 = b by omega, hmb, ht.rb, if_pos htt]; omega
            · rw [if_neg e3]
              by_cases e4 : t = 2 * a
              · rw [if_pos e4, e4, show 2 * a / 2 = a by omega, hma, ht.ra, if_pos htt]; omega
              · rw [if_neg e4]
                exact hj t htl (hnot t htl e4 e2 e3 e1 hti))
      refine ⟨K + k + 1, ?_⟩
      have hk3 := at_rounds (g := fun k => spec_l05Circles.l0 k l tw l.length ((((band.set (2 * a) ((2 * b : Nat) : Int)).set (2 * b) ((2 * a : Nat) : Int)).set (2 * a + 1) ((2 * b + 1 : Nat) : Int)).set (2 * b + 1) ((2 * a + 1 : Nat) : Int)) ((i + 1 : Nat) : Int)) (fun k => (spec_l05Circles.mono_l k).1 _ _ _ _ _) (Nat.le_add_left k K) hk2
      simp only [spec_l05Circles.l0]
      rw [htd, wrap_id (x := (n : Int)) (by omega) (by omega), if_pos (by omega), show spec_l01Places.f (K + k) l (i : Int) = some ((a : Int), (b : Int)) from hK (K + k) (by omega)]
      simp only [Option.bind_some]
      rw [if_pos (by omega), if_pos (by omega), if_pos htt, wrap_id (x := 2 * (a : Int)) (by omega) (by omega), wrap_id (x := 2 * (b : Int)) (by omega) (by omega), wrap_id (x := 2 * (a : Int) + 1) (by omega) (by omega), wrap_id (x := 2 * (b : Int) + 1) (by omega) (by omega), wrap_id (x := (i : Int) + 1) (by omega) (by omega),
        if_pos (by omega), if_pos (by omega), if_pos (by omega), if_pos (by omega), if_pos (by omega), if_pos (by omega), if_pos (by omega), if_pos (by omega),
        show (2 * (a : Int)).toNat = 2 * a by omega, show (2 * (b : Int)).toNat = 2 * b by omega, show (2 * (a : Int) + 1).toNat = 2 * a + 1 by omega, show (2 * (b : Int) + 1).toNat = 2 * b + 1 by omega]
      exact hk3
    · obtain ⟨k, hk2⟩ := ih (i + 1) ((((band.set (2 * a) ((2 * b + 1 : Nat) : Int)).set (2 * b + 1) ((2 * a : Nat) : Int)).set (2 * a + 1) ((2 * b : Nat) : Int)).set (2 * b) ((2 * a + 1 : Nat) : Int)) (by omega) (by omega) (by simpa using hb) (fun t htl hti => by
        rw [rd_set _ _ _ _ (by simp only [List.length_set]; omega), rd_set _ _ _ _ (by simp only [List.length_set]; omega), rd_set _ _ _ _ (by simp only [List.length_set]; omega), rd_set _ _ _ _ (by omega)]
        unfold bandP
        by_cases e1 : t = 2 * b
        · rw [if_pos e1, e1, show 2 * b / 2 = b by omega, hmb, ht.rb, if_neg htt]; omega
        · rw [if_neg e1]
          by_cases e2 : t = 2 * a + 1
          · rw [if_pos e2, e2, show (2 * a + 1) / 2 = a by omega, hma, ht.ra, if_neg htt]; omega
          · rw [if_neg e2]
            by_cases e3 : t = 2 * b + 1
            · rw [if_pos e3, e3, show (2 * b + 1) / 2 = b by omega, hmb, ht.rb, if_neg htt]; omega
            · rw [if_neg e3]
              by_cases e4 : t = 2 * a
              · rw [if_pos e4, e4, show 2 * a / 2 = a by omega, hma, ht.ra, if_neg htt]; omega
              · rw [if_neg e4]
                exact hj t htl (hnot t htl e4 e2 e1 e3 hti))
      refine ⟨K + k + 1, ?_⟩
      have hk3 := at_rounds (g := fun k => spec_l05Circles.l0 k l tw l.length ((((band.set (2 * a) ((2 * b + 1 : Nat) : Int)).set (2 * b + 1) ((2 * a : Nat) : Int)).set (2 * a + 1) ((2 * b : Nat) : Int)).set (2 * b) ((2 * a + 1 : Nat) : Int)) ((i + 1 : Nat) : Int)) (fun k => (spec_l05Circles.mono_l k).1 _ _ _ _ _) (Nat.le_add_left k K) hk2
      simp only [spec_l05Circles.l0]
      rw [htd, wrap_id (x := (n : Int)) (by omega) (by omega), if_pos (by omega), show spec_l01Places.f (K + k) l (i : Int) = some ((a : Int), (b : Int)) from hK (K + k) (by omega)]
      simp only [Option.bind_some]
      rw [if_pos (by omega), if_pos (by omega), if_neg htt, wrap_id (x := 2 * (a : Int)) (by omega) (by omega), wrap_id (x := 2 * (b : Int)) (by omega) (by omega), wrap_id (x := 2 * (a : Int) + 1) (by omega) (by omega), wrap_id (x := 2 * (b : Int) + 1) (by omega) (by omega), wrap_id (x := (i : Int) + 1) (by omega) (by omega),
        if_pos (by omega), if_pos (by omega), if_pos (by omega), if_pos (by omega), if_pos (by omega), if_pos (by omega), if_pos (by omega), if_pos (by omega),
        show (2 * (a : Int)).toNat = 2 * a by omega, show (2 * (b : Int)).toNat = 2 * b by omega, show (2 * (a : Int) + 1).toNat = 2 * a + 1 by omega, show (2 * (b : Int) + 1).toNat = 2 * b + 1 by omega]
      exact hk3
end

/-! ### the walk along the ring -/
/-- The marks M tell the set cur at the points E x, and at the points F x one step behind. -/
structure Told (m : Nat) (E F g : Nat → Nat) (M : List Bool) (cur : Nat → Prop) : Prop where
  len : M.length = 2 * m
  atE : ∀ x, x < m → (mk M (E x) ↔ cur x)
  atF : ∀ x, x < m → (mk M (F x) ↔ cur (g x))
/-- The two kinds of points. -/
structure Points (m : Nat) (E F : Nat → Nat) : Prop where
  elt : ∀ x, x < m → E x < 2 * m
  flt : ∀ x, x < m → F x < 2 * m
  einj : ∀ x y, x < m → y < m → E x = E y → x = y
  finj : ∀ x y, x < m → y < m → F x = F y → x = y
  ne : ∀ x y, x < m → y < m → E x ≠ F y
section
variable {m : Nat} {f g E F : Nat → Nat} (hp : Perm2 m f g) (hP : Points m E F) (hm : m ≤ 4096) (band : List Int) (hbl : band.length = 2 * m) (hband : ∀ x, x < m → rd band (E x) = (F (f x) : Int))
  (hnext : ∀ y, y < m → (F y % 2 = 1 → (F y + 1) % (2 * m) = E y) ∧ (F y % 2 ≠ 1 → (F y + 2 * m - 1) % (2 * m) = E y))
include hp hP hm hbl hband hnext
theorem ring_l2 (i : Nat) (S : Nat → Prop) (x11 : Int) (t : Nat) (ht : t < 2 * m) (R : Int → Prop) (hk : ∀ M' cur', Told m E F g M' cur' → Grows m f g S i cur' → ∃ r n, spec_l05Circles.l1 n m band M' x11 ((t : Int) + 1) = some r ∧ R r) (d : Nat) :
    ∀ (M : List Bool) (cur : Nat → Prop) (a : Nat), M.count false ≤ d → Told m E F g M cur → Walks m f g S i cur a → ∃ r n, spec_l05Circles.l2 n m band M x11 t (E a) = some r ∧ R r := by
  induction d with
  | zero =>
    intro M cur a hd hT hw
    have ha := hw.lt
    have hEa := hP.elt a ha
    have hML := hT.len
    by_cases hc : mk M (E a)
    · obtain ⟨r, n, hn, hr⟩ := hk M cur hT (hw.finish ((hT.atE a ha).mp hc))
      refine ⟨r, n + 1, ?_, hr⟩
      simp only [spec_l05Circles.l2]
      rw [if_pos (by omega), if_pos (by omega), if_pos ((rdOf_mk M (E a)).mpr hc), wrap_id (by omega) (by omega)]
      exact hn
    · have := count_set_true M (E a) (by omega) hc
      omega
  | succ d ih =>
    intro M cur a hd hT hw
    have ha := hw.lt
    have hEa := hP.elt a ha
    have hML := hT.len
    by_cases hc : mk M (E a)
    · obtain ⟨r, n, hn, hr⟩ := hk M cur hT (hw.finish ((hT.atE a ha).mp hc))
      refine ⟨r, n + 1, ?_, hr⟩
      simp only [spec_l05Circles.l2]
      rw [if_pos (by omega), if_pos (by omega), if_pos ((rdOf_mk M (E a)).mpr hc), wrap_id (by omega) (by omega)]
      exact hn
    · have hfa := hp.plt a ha
      have hFa := hP.flt (f a) hfa
      have hnc : ¬ cur a := fun h => hc ((hT.atE a ha).mpr h)
      have h1 := count_set_true M (E a) (by omega) hc
      have h2 := count_set_le (M.set (E a) true) (F (f a)) (by rw [List.length_set]; omega)
      obtain ⟨r, n, hn, hr⟩ := ih ((M.set (E a) true).set (F (f a)) true) (fun x => x = a ∨ cur x) (f a) (by omega) ⟨by simpa using hML, fun x hx => by
          rw [mk_set _ _ _ (by rw [List.length_set]; omega), mk_set _ _ _ (by omega), hT.atE x hx]
          constructor
          · rintro (h | h | h)
            · exact absurd h (hP.ne x (f a) hx hfa)
            · exact Or.inl (hP.einj x a hx ha h)
            · exact Or.inr h
          · rintro (h | h)
            · exact Or.inr (Or.inl (by rw [h]))
            · exact Or.inr (Or.inr h), fun x hx => by
          rw [mk_set _ _ _ (by rw [List.length_set]; omega), mk_set _ _ _ (by omega), hT.atF x hx]
          constructor
          · rintro (h | h | h)
            · have := hP.finj x (f a) hx hfa h
              exact Or.inl (by rw [this]; exact hp.qp a ha)
            · exact absurd h.symm (hP.ne a x ha hx)
            · exact Or.inr h
          · rintro (h | h)
            · refine Or.inl ?_
              have : f (g x) = x := hp.pq x hx
              rw [← h, this]
            · exact Or.inr (Or.inr h)⟩ (hw.step hp hnc)
      refine ⟨r, n + 1, ?_, hr⟩
      obtain ⟨hn1, hn2⟩ := hnext (f a) hfa
      simp only [spec_l05Circles.l2]
      rw [if_pos (by omega), if_pos (by omega), if_neg (fun h => hc ((rdOf_mk M (E a)).mp h)), if_pos (by omega), hband a ha, if_pos (by omega), if_pos (by omega)]
      simp only [Option.bind_some]
      rw [Int.toNat_natCast, Int.toNat_natCast, wrap_id (x := 2 * (m : Int)) (by omega) (by omega)]
      have htm : Int.tmod (F (f a) : Int) 2 = ((F (f a) % 2 : Nat) : Int) := by
        rw [Int.ofNat_tmod]; rfl
      by_cases hodd : F (f a) % 2 = 1
      · rw [if_pos (by omega), if_neg (by omega), wrap_id (by omega) (by omega)]
        rw [show Int.tmod ((F (f a) : Int) + 1) (2 * (m : Int)) = (E (f a) : Int) by
          rw [← hn1 hodd, Int.ofNat_tmod]; rfl]
        exact hn
      · rw [if_neg (by omega), if_neg (by omega), wrap_id (x := (F (f a) : Int) + 2 * (m : Int)) (by omega) (by omega), wrap_id (by omega) (by omega)]
        rw [show Int.tmod ((F (f a) : Int) + 2 * (m : Int) - 1) (2 * (m : Int)) = (E (f a) : Int) by
          rw [← hn2 hodd, Int.ofNat_tmod, show ((F (f a) + 2 * m - 1 : Nat) : Int) = (F (f a) : Int) + 2 * (m : Int) - 1 by omega]; rfl]
        exact hn
end
end Go.Proofs.Ytokcklkjnjffnab.K

set_option linter.unusedVariables false
set_option linter.unusedSimpArgs false
set_option linter.unusedSectionVars false
namespace Go.Proofs.Ytokcklkjnjffnab.K
open Go.RowKit Go.Proofs.YtokcklkjnjffnabW.PrintWords Go.Proofs.YtokcklkjnjffnabW.PrintLast Go.Proofs.YtokcklkjnjffnabW.PrintMore Go.Proofs.Ytokcklkjnjffnab.PA

/-- The point before the place x. -/
def oddP (m x : Nat) : Nat := if x = 0 then 2 * m - 1 else 2 * x - 1
def evenP (x : Nat) : Nat := 2 * x
section
variable {l : List Int} {n : Nat} (hw : Word l n) (hpos : 0 < l.length) (tw : List Bool) (htw : ∀ i : Nat, i < n → rdOf false tw (i : Int) = false)
  (band : List Int) (hbl : band.length = 2 * l.length) (hband : ∀ t, t < 2 * l.length → rd band t = (bandP l tw t : Int))
include hw hpos htw hbl hband
theorem band_even (x : Nat) (hx : x < l.length) : rd band ((2 * x : Nat) : Int) = ((2 * mate l x + 1 : Nat) : Int) := by
  rw [hband _ (by omega)]
  unfold bandP
  rw [show 2 * x / 2 = x by omega]
  obtain ⟨h0, h1⟩ := hw.range x hx
  have := htw (rd l x).toNat (by omega)
  rw [show (((rd l x).toNat : Nat) : Int) = rd l x by omega] at this
  rw [this, if_neg (by simp)]
  omega
theorem band_odd (x : Nat) (hx : x < l.length) : rd band ((2 * x + 1 : Nat) : Int) = ((2 * mate l x : Nat) : Int) := by
  rw [hband _ (by omega)]
  unfold bandP
  rw [show (2 * x + 1) / 2 = x by omega]
  obtain ⟨h0, h1⟩ := hw.range x hx
  have := htw (rd l x).toNat (by omega)
  rw [show (((rd l x).toNat : Nat) : Int) = rd l x by omega] at this
  rw [this, if_neg (by simp)]
  omega
theorem points_even : Points l.length evenP (oddP l.length) := by
  refine ⟨fun x hx => ?_, fun x hx => ?_, fun x y hx hy h => ?_, fun x y hx hy h => ?_, fun x y hx hy h => ?_⟩ <;> simp only [evenP, oddP] at * <;> (repeat' split at *) <;> omega
theorem points_odd : Points l.length (oddP l.length) evenP := by
  have h := points_even hw hpos tw htw band hbl hband
  exact ⟨h.flt, h.elt, h.finj, h.einj, fun x y hx hy e => h.ne y x hy hx e.symm⟩
theorem walk_even (i : Nat) (S : Nat → Prop) (x11 : Int) (t : Nat) (ht : t < 2 * l.length) (R : Int → Prop) (hk : ∀ M' cur', Told l.length evenP (oddP l.length) (fun x => mate l (predM l.length x)) M' cur' → Grows l.length (fun x => succM l.length (mate l x)) (fun x => mate l (predM l.length x)) S i cur' → ∃ r k, spec_l05Circles.l1 k l.length band M' x11 ((t : Int) + 1) = some r ∧ R r) :
    ∀ (M : List Bool) (cur : Nat → Prop) (a : Nat), Told l.length evenP (oddP l.length) (fun x => mate l (predM l.length x)) M cur → Walks l.length (fun x => succM l.length (mate l x)) (fun x => mate l (predM l.length x)) S i cur a → ∃ r k, spec_l05Circles.l2 k l.length band M x11 t (evenP a) = some r ∧ R r := by
  have hlen := hw.len
  have hsm := hw.small
  intro M cur a hT hW
  refine ring_l2 (perm_borders hw) (points_even hw hpos tw htw band hbl hband) (by omega) band hbl (fun x hx => ?_) (fun y hy => ?_) i S x11 t ht R hk _ M cur a (Nat.le_refl _) hT hW
  · show rd band ((2 * x : Nat) : Int) = (oddP l.length (succM l.length (mate l x)) : Int)
    rw [band_even hw hpos tw htw band hbl hband x hx]
    have := (hw.mate_lt x hx).1
    have : oddP l.length (succM l.length (mate l x)) = 2 * mate l x + 1 := by unfold oddP succM; split <;> split at * <;> omega
    rw [this]
  · have e : (if y = 0 then 2 * l.length - 1 else 2 * y - 1) % 2 = 1 := by split <;> omega
    refine ⟨fun _ => ?_, fun h => absurd e h⟩
    show ((if y = 0 then 2 * l.length - 1 else 2 * y - 1) + 1) % (2 * l.length) = 2 * y
    split
    · rename_i h; rw [show 2 * l.length - 1 + 1 = 2 * l.length by omega, Nat.mod_self, h]
    · rw [show 2 * y - 1 + 1 = 2 * y by omega, Nat.mod_eq_of_lt (by omega)]
theorem walk_odd (i : Nat) (S : Nat → Prop) (x11 : Int) (t : Nat) (ht : t < 2 * l.length) (R : Int → Prop) (hk : ∀ M' cur', Told l.length (oddP l.length) evenP (fun x => succM l.length (mate l x)) M' cur' → Grows l.length (fun x => mate l (predM l.length x)) (fun x => succM l.length (mate l x)) S i cur' → ∃ r k, spec_l05Circles.l1 k l.length band M' x11 ((t : Int) + 1) = some r ∧ R r) :
    ∀ (M : List Bool) (cur : Nat → Prop) (a : Nat), Told l.length (oddP l.length) evenP (fun x => succM l.length (mate l x)) M cur → Walks l.length (fun x => mate l (predM l.length x)) (fun x => succM l.length (mate l x)) S i cur a → ∃ r k, spec_l05Circles.l2 k l.length band M x11 t (oddP l.length a) = some r ∧ R r := by
  have hlen := hw.len
  have hsm := hw.small
  intro M cur a hT hW
  refine ring_l2 (perm_borders hw).swap (points_odd hw hpos tw htw band hbl hband) (by omega) band hbl (fun x hx => ?_) (fun y hy => ?_) i S x11 t ht R hk _ M cur a (Nat.le_refl _) hT hW
  · show rd band (oddP l.length x : Int) = ((2 * mate l (predM l.length x) : Nat) : Int)
    have h1 : oddP l.length x = 2 * predM l.length x + 1 := by unfold oddP predM; split <;> omega
    rw [h1, band_odd hw hpos tw htw band hbl hband _ (by unfold predM; split <;> omega)]
  · refine ⟨fun h => absurd h (by unfold evenP; omega), fun _ => ?_⟩
    show (2 * y + 2 * l.length - 1) % (2 * l.length) = (if y = 0 then 2 * l.length - 1 else 2 * y - 1)
    split
    · rename_i h; rw [h, show 2 * 0 + 2 * l.length - 1 = 2 * l.length - 1 by omega, Nat.mod_eq_of_lt (by omega)]
    · rw [show 2 * y + 2 * l.length - 1 = (2 * y - 1) + 2 * l.length by omega, Nat.add_mod_right, Nat.mod_eq_of_lt (by omega)]
theorem rings_l1 (d : Nat) : ∀ (i : Nat) (M : List Bool) (S : Nat → Prop) (x11 : Int), l.length - i = d → 1 ≤ i → i ≤ l.length → 0 ≤ x11 → x11 ≤ i → M.length = 2 * l.length → (∀ x, x < l.length → (mk M (evenP x) ↔ S x) ∧ (mk M (oddP l.length x) ↔ S x)) → S 0 →
    Bi l.length (fun x => succM l.length (mate l x)) (fun x => mate l (predM l.length x)) S → ∃ (r : Int) (k : Nat), spec_l05Circles.l1 k l.length band M x11 ((2 * i - 1 : Nat) : Int) = some r ∧ ∃ c : Nat, r = x11 + c ∧ Cnt l.length (fun x => succM l.length (mate l x)) (fun x => mate l (predM l.length x)) i S c := by
  have hlen := hw.len
  have hsm := hw.small
  induction d with
  | zero =>
    intro i M S x11 hd h1 hi h0 hx hM hT hS0 hB
    obtain rfl : i = l.length := by omega
    have hmk : mk M (2 * l.length - 1) := by
      have := ((hT 0 hpos).2).mpr hS0
      simpa [oddP] using this
    refine ⟨x11, 2, ?_, 0, by omega, .done _⟩
    simp only [spec_l05Circles.l1]
    rw [wrap_id (x := 2 * (l.length : Int)) (by omega) (by omega), if_pos (by omega), if_pos (by omega), if_pos (by omega), if_pos ((rdOf_mk M _).mpr hmk), wrap_id (by omega) (by omega), if_neg (by omega)]
  | succ d ih =>
    intro i M S x11 hd h1 hi h0 hx hM hT hS0 hB
    have hlt : i < l.length := by omega
    have hodd : oddP l.length i = 2 * i - 1 := by unfold oddP; rw [if_neg (by omega)]
    by_cases hSi : S i
    · obtain ⟨r, k, hk, c, hr, hc⟩ := ih (i + 1) M S x11 (by omega) (by omega) (by omega) h0 (by omega) hM hT hS0 hB
      have hm1 : mk M (2 * i - 1) := by rw [← hodd]; exact (hT i hlt).2.mpr hSi
      have hm2 : mk M (2 * i) := (hT i hlt).1.mpr hSi
      refine ⟨r, k + 2, ?_, c, hr, .skip hlt hSi hc⟩
      simp only [spec_l05Circles.l1]
      rw [wrap_id (x := 2 * (l.length : Int)) (by omega) (by omega), if_pos (by omega), if_pos (by omega), if_pos (by omega), if_pos ((rdOf_mk M _).mpr hm1), wrap_id (by omega) (by omega),
        show (((2 * i - 1 : Nat) : Int) + 1) = ((2 * i : Nat) : Int) by omega, if_pos (by omega), if_pos (by omega), if_pos (by omega), if_pos ((rdOf_mk M _).mpr hm2), wrap_id (by omega) (by omega),
        show (((2 * i : Nat) : Int) + 1) = ((2 * (i + 1) - 1 : Nat) : Int) by omega]
      exact hk
    · have hn1 : ¬ mk M (2 * i - 1) := by rw [← hodd]; exact fun h => hSi ((hT i hlt).2.mp h)
      obtain ⟨r, k, hk, c, hr, hc⟩ := walk_odd hw hpos tw htw band hbl hband i S (x11 + 1) (2 * i - 1) (by omega) (fun r => ∃ c : Nat, r = x11 + c ∧ Cnt l.length (fun x => succM l.length (mate l x)) (fun x => mate l (predM l.length x)) i S c) (fun M' cur' hT' hG => by
        have hB' := hG.bi
        have hT2 : ∀ x, x < l.length → (mk M' (evenP x) ↔ cur' x) ∧ (mk M' (oddP l.length x) ↔ cur' x) := fun x hx => ⟨by
          rw [hT'.atF x hx]
          have hp := perm_borders hw
          constructor
          · intro h
            have := (hB' _ (hp.plt x hx) h).1
            have e : mate l (predM l.length (succM l.length (mate l x))) = x := hp.qp x hx
            rw [← e]; exact this
          · intro h; exact (hB' x hx h).2, hT'.atE x hx⟩
        obtain ⟨r, k, hk, c, hr, hc⟩ := ih (i + 1) M' cur' (x11 + 1) (by omega) (by omega) (by omega) (by omega) (by omega) hT'.len hT2 (hG.over 0 hpos hS0) hB'.swap
        have hm2 : mk M' (2 * i) := (hT2 i hlt).1.mpr hG.at_
        refine ⟨r, k + 1, ?_, c + 1, by omega, .mark hlt hSi hG.swap hc⟩
        have hl2 := hT'.len
        simp only [spec_l05Circles.l1]
        rw [wrap_id (x := 2 * (l.length : Int)) (by omega) (by omega), show (((2 * i - 1 : Nat) : Int) + 1) = ((2 * i : Nat) : Int) by omega, if_pos (by omega), if_pos (by omega), if_pos (by omega), if_pos ((rdOf_mk M' _).mpr hm2), wrap_id (by omega) (by omega),
          show (((2 * i : Nat) : Int) + 1) = ((2 * (i + 1) - 1 : Nat) : Int) by omega]
        exact hk) M S i ⟨hM, fun x hx => (hT x hx).2, fun x hx => by
          rw [(hT x hx).1]
          have hp := perm_borders hw
          constructor
          · intro h; exact (hB x hx h).1
          · intro h
            have := (hB _ (hp.plt x hx) h).2
            have e : mate l (predM l.length (succM l.length (mate l x))) = x := hp.qp x hx
            rw [← e]; exact this⟩ (Walks.start hB.swap hlt hSi)
      refine ⟨r, k + 1, ?_, c, hr, hc⟩
      rw [hodd] at hk
      simp only [spec_l05Circles.l1]
      rw [wrap_id (x := 2 * (l.length : Int)) (by omega) (by omega), if_pos (by omega), if_pos (by omega), if_pos (by omega), if_neg (fun h => hn1 ((rdOf_mk M _).mp h)), wrap_id (by omega) (by omega)]
      exact hk
theorem rings_all : ∃ (r : Int) (k : Nat), spec_l05Circles.l1 k l.length band (List.replicate (2 * l.length) false) 0 0 = some r ∧ ∃ c : Nat, r = c ∧ 1 ≤ c ∧ Cnt l.length (fun x => succM l.length (mate l x)) (fun x => mate l (predM l.length x)) 0 (fun _ => False) c := by
  have hlen := hw.len
  have hsm := hw.small
  have h0 : ∀ x, mk (List.replicate (2 * l.length) false) x ↔ False := fun x => by
    unfold mk
    rw [List.getD_eq_getElem?_getD, List.getElem?_replicate]
    split <;> simp
  obtain ⟨r, k, hk, hR⟩ := walk_even hw hpos tw htw band hbl hband 0 (fun _ => False) 1 0 (by omega) (fun r => ∃ c : Nat, r = c ∧ 1 ≤ c ∧ Cnt l.length (fun x => succM l.length (mate l x)) (fun x => mate l (predM l.length x)) 0 (fun _ => False) c) (fun M' cur' hT' hG => by
    have hB' := hG.bi
    have hp := perm_borders hw
    obtain ⟨r, k, hk, c, hr, hc⟩ := rings_l1 hw hpos tw htw band hbl hband (l.length - 1) 1 M' cur' 1 (by omega) (by omega) (by omega) (by omega) (by omega) hT'.len (fun x hx => ⟨hT'.atE x hx, by
      rw [hT'.atF x hx]
      constructor
      · intro h
        have := (hB' _ (hp.qlt x hx) h).1
        have e : succM l.length (mate l (mate l (predM l.length x))) = x := hp.pq x hx
        rw [← e]; exact this
      · intro h; exact (hB' x hx h).2⟩) hG.at_ hB'
    exact ⟨r, k, hk, c + 1, by omega, by omega, .mark hpos (fun h => h) hG hc⟩) (List.replicate (2 * l.length) false) (fun _ => False) 0 ⟨by simp, fun x _ => h0 _, fun x _ => h0 _⟩ (Walks.start (fun _ _ h => h.elim) hpos (fun h => h))
  have hn0 : ¬ (rdOf false (List.replicate (2 * l.length) false) 0 = true) := fun h => (h0 0).mp ((rdOf_mk _ 0).mp h)
  refine ⟨r, k + 1, ?_, hR⟩
  simp only [spec_l05Circles.l1]
  rw [wrap_id (x := 2 * (l.length : Int)) (by omega) (by omega), if_pos (by omega), if_pos (by omega), if_pos (by simp; omega), if_neg hn0, wrap_id (by omega) (by omega)]
  exact hk
end
/-- A word's border circles, without twists: the reference's number is the program's. -/
theorem ev_circles0 {l : List Int} {n : Nat} (hw : Word l n) (tw : List Bool) (hlt : n ≤ tw.length) (htw : ∀ i : Nat, i < n → rdOf false tw (i : Int) = false) :
    ∃ c : Int, 1 ≤ c ∧ c ≤ 13 ∧ Ev (fun k => spec_l05Circles.f k l tw) c ∧ Ev (fun k => impl_borders.f k l) c := by
  have hlen := hw.len
  have hsm := hw.small
  obtain ⟨c, hc1, hcnt⟩ := ev_borders hw
  have hle : ∀ (m : Nat) (p q : Nat → Nat) i S c, Cnt m p q i S c → c ≤ m - i := by
    intro m p q i S c h
    induction h with
    | done => omega
    | skip _ _ _ ih => omega
    | mark _ _ _ _ ih => omega
  by_cases hpos : 0 < l.length
  · have hcle := hle _ _ _ _ _ _ hcnt
    have hge : ∀ (m : Nat) (p q : Nat → Nat) i S c, Cnt m p q i S c → i < m → ¬ S i → 1 ≤ c := by
      intro m p q i S c h h1 h2
      cases h with
      | done => omega
      | skip _ hs => exact absurd hs h2
      | mark => omega
    have hc0 : 1 ≤ c := hge _ _ _ _ _ _ hcnt hpos (fun h => h)
    refine ⟨c, by omega, by omega, ?_, ev_eq hc1 (by unfold mx; split <;> omega)⟩
    refine ev_of (fun k => spec_l05Circles.mono _ _ _) ?_
    obtain ⟨k, hk⟩ := bands_l0 hw tw hlt c (fun band hbl hband => by
      obtain ⟨r, k, hk, c', hr, _, hc'⟩ := rings_all hw hpos tw htw band hbl hband
      refine ⟨k, ?_⟩
      rw [hk, hr, hc'.same (fun _ _ => Iff.rfl) hcnt]) n 0 (List.replicate (2 * l.length) 0) (by omega) (by omega) (by simp) (fun t ht h => by
      have := (hw.range (t / 2) (by omega)).1
      omega)
    refine ⟨k, ?_⟩
    unfold spec_l05Circles.f
    rw [if_neg (by omega), wrap_id (by omega) (by omega), if_pos (by omega), if_pos (by omega), show (2 * (l.length : Int)).toNat = 2 * l.length by omega]
    exact hk
  · have h0 : l.length = 0 := by omega
    have hc0 : c = 0 := by have := hle _ _ _ _ _ _ hcnt; omega
    subst hc0
    refine ⟨1, by omega, by omega, ?_, ev_eq hc1 rfl⟩
    unfold spec_l05Circles.f
    exact ev_pos (by omega) (ev_some _)
end Go.Proofs.Ytokcklkjnjffnab.K
