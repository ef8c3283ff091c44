/- A row inside an own row, told as an object of its own for a while: opened, closed. Conditions: in each. -/
import Derived.Test.YthfmlelodmcgkaaGreatVStep
set_option linter.unusedVariables false
set_option linter.unusedSimpArgs false
set_option linter.unusedSectionVars false
namespace Go.Proofs.YthfmlelodmcgkaaGreat.V
open Go
def neB (i j : Nat) : Bool := match Nat.beq i j with | true => false | false => true
theorem neB_ne {i j : Nat} (h : neB i j = true) : i ≠ j := fun e => by rw [e] at h; simp [neB] at h
def slT : Kn → Nat → Option Nat
  | .sl t (.int .i64), off => match Nat.beq off 0 with | true => some t | false => none
  | .pr a b, off => match Nat.blt off a.cells with | true => slT a off | false => slT b (off - a.cells)
  | _, _ => none
def getS : (k : Kn) → Nat → k.T → List Int
  | .sl _ (.int .i64), _, x => x
  | .pr a b, off, p => match Nat.blt off a.cells with | true => getS a off p.1 | false => getS b (off - a.cells) p.2
  | _, _, _ => []
def setS : (k : Kn) → Nat → List Int → k.T → k.T
  | .sl _ (.int .i64), _, y, _ => y
  | .pr a b, off, y, p => match Nat.blt off a.cells with | true => (setS a off y p.1, p.2) | false => (p.1, setS b (off - a.cells) y p.2)
  | _, _, _, x => x
theorem blt_t {m n : Nat} (h : Nat.blt m n = true) : m < n := Nat.le_of_ble_eq_true h
theorem blt_f {m n : Nat} (h : Nat.blt m n = false) : n ≤ m := by
  rcases Nat.lt_or_ge m n with h1 | h1
  · rw [show Nat.blt m n = true from Nat.ble_eq_true_of_le h1] at h; cases h
  · exact h1
theorem DRep.open_ {w : World} : ∀ {k : Kn} {off t : Nat} {φ : Nat → Prop} {x : k.T} {cs : List Value}, slT k off = some t → DRep w k φ x cs →
    ∃ (u : Value) (φ1 φ2 : Nat → Prop), DRep w (.sl t (.int .i64)) φ1 (getS k off x) [u] ∧ DRepH w k off u φ2 x cs ∧ (∀ b, φ b ↔ φ1 b ∨ φ2 b) ∧ (∀ b, φ1 b → ¬ φ2 b) ∧ cs[off]? = some u
  | .sl t' (.int .i64), off, t, φ, x, cs, hs, h => by
    unfold slT at hs
    split at hs
    · rename_i h0
      have h0 := Nat.eq_of_beq_eq_true h0
      subst h0
      injection hs with hs
      subst hs
      have h' := h
      obtain ⟨u, xs, φ', rfl, _⟩ := h'
      exact ⟨u, φ, fun _ => False, h, ⟨rfl, rfl, fun _ h => h⟩, fun b => ⟨.inl, fun h => h.elim id False.elim⟩, fun _ _ h => h, rfl⟩
    · cases hs
  | .pr a b, off, t, φ, p, cs, hs, ⟨c1, c2, φ1, φ2, hc, h2, h3, h4, h5⟩ => by
    subst hc
    unfold slT at hs
    split at hs
    · rename_i hb
      have hlt := blt_t hb
      obtain ⟨u, ψ1, ψ2, k1, k2, k3, k4, k5⟩ := DRep.open_ hs h2
      refine ⟨u, ψ1, fun b => ψ2 b ∨ φ2 b, by rw [getS, hb]; exact k1, ⟨c1, c2, ψ2, φ2, rfl, .inl ⟨hlt, k2, h3⟩, fun _ => Iff.rfl, fun b hb h => h5 b ((k3 b).2 (.inr hb)) h⟩, fun b => ?_, fun b hb h => h.elim (k4 b hb) (h5 b ((k3 b).2 (.inl hb))), ?_⟩
      · rw [h4 b, k3 b, or_assoc]
      · rw [List.getElem?_append_left (by rw [h2.length]; exact hlt)]; exact k5
    · rename_i hb
      have hge := blt_f hb
      obtain ⟨u, ψ1, ψ2, k1, k2, k3, k4, k5⟩ := DRep.open_ hs h3
      refine ⟨u, ψ1, fun b => φ1 b ∨ ψ2 b, by rw [getS, hb]; exact k1, ⟨c1, c2, φ1, ψ2, rfl, .inr ⟨hge, h2, k2⟩, fun _ => Iff.rfl, fun b hb h => h5 b hb ((k3 b).2 (.inr h))⟩, fun b => ?_, fun b hb h => h.elim (fun h => h5 b h ((k3 b).2 (.inl hb))) (k4 b hb), ?_⟩
      · rw [h4 b, k3 b]
        exact ⟨fun h => h.elim (fun h => .inr (.inl h)) (fun h => h.elim .inl (fun h => .inr (.inr h))), fun h => h.elim (fun h => .inr (.inl h)) (fun h => h.elim .inl (fun h => .inr (.inr h)))⟩
      · rw [List.getElem?_append_right (by rw [h2.length]; exact hge), h2.length]; exact k5
theorem DRepH.close {w : World} {u : Value} {φ1 : Nat → Prop} {y : List Int} : ∀ {k : Kn} {off t : Nat} {φ2 : Nat → Prop} {x : k.T} {cs : List Value}, slT k off = some t → DRepH w k off u φ2 x cs → DRep w (.sl t (.int .i64)) φ1 y [u] → (∀ b, φ1 b → ¬ φ2 b) →
    DRep w k (fun b => φ1 b ∨ φ2 b) (setS k off y x) cs
  | .sl t' (.int .i64), off, t, φ2, x, cs, hs, ⟨h1, hc, h3⟩, hy, hd => by
    subst hc
    unfold slT at hs
    split at hs
    · injection hs with hs
      subst hs
      obtain ⟨u', xs, φ', e, k1, k2, k3, k4, k5⟩ := hy
      exact ⟨u', xs, φ', e, k1, k2, k3, fun b => ⟨fun h => (k4 b).1 (h.resolve_right (h3 b)), fun h => .inl ((k4 b).2 h)⟩, k5⟩
    · cases hs
  | .pr a b, off, t, φ2, p, cs, hs, ⟨c1, c2, ψ1, ψ2, hc, h2, h4, h5⟩, hy, hd => by
    subst hc
    unfold slT at hs
    split at hs
    · rename_i hb
      have hlt := blt_t hb
      rcases h2 with ⟨_, k1, k2⟩ | ⟨hge, _, _⟩
      · refine ⟨c1, c2, fun b => φ1 b ∨ ψ1 b, ψ2, rfl, by rw [setS, hb]; exact DRepH.close hs k1 hy (fun b hb h => hd b hb ((h4 b).2 (.inl h))), by rw [setS, hb]; exact k2, fun b => ?_, fun b hb h => hb.elim (fun hb => hd b hb ((h4 b).2 (.inr h))) (fun hb => h5 b hb h)⟩
        show φ1 b ∨ φ2 b ↔ (φ1 b ∨ ψ1 b) ∨ ψ2 b
        rw [h4 b, or_assoc]
      · omega
    · rename_i hb
      have hge := blt_f hb
      rcases h2 with ⟨hlt, _, _⟩ | ⟨_, k1, k2⟩
      · omega
      · refine ⟨c1, c2, ψ1, fun b => φ1 b ∨ ψ2 b, rfl, by rw [setS, hb]; exact k1, by rw [setS, hb]; exact DRepH.close hs k2 hy (fun b hb h => hd b hb ((h4 b).2 (.inr h))), fun b => ?_, fun b hb h => h.elim (fun h => hd b h ((h4 b).2 (.inl hb))) (fun h => h5 b hb h)⟩
        show φ1 b ∨ φ2 b ↔ ψ1 b ∨ (φ1 b ∨ ψ2 b)
        rw [h4 b]
        exact ⟨fun h => h.elim (fun h => .inr (.inl h)) (fun h => h.elim .inl (fun h => .inr (.inr h))), fun h => h.elim (fun h => .inr (.inl h)) (fun h => h.elim .inl (fun h => .inr (.inr h)))⟩
theorem DR.open_ {w : World} {k : Kn} {off t : Nat} (hs : slT k off = some t) (hoff : off < k.cells) : ∀ {φ : Nat → Prop} {l : List k.T} {xs : List Value} {n : Nat}, DR (DRep w k) φ l xs → n < l.length →
    ∃ (u : Value) (φ1 φ2 : Nat → Prop), DRep w (.sl t (.int .i64)) φ1 (getS k off (l.getD n k.dflt)) [u] ∧ DRH (DRep w k) (DRepH w k off u) φ2 l n xs ∧ (∀ b, φ b ↔ φ1 b ∨ φ2 b) ∧ (∀ b, φ1 b → ¬ φ2 b) ∧ xs[n * k.cells + off]? = some u
  | φ, [], xs, n, _, hn => by simp at hn
  | φ, x :: l, xs, 0, ⟨c1, c2, φ1, φ2, hc, h2, h3, h4, h5⟩, _ => by
    subst hc
    obtain ⟨u, ψ1, ψ2, k1, k2, k3, k4, k5⟩ := DRep.open_ hs h2
    refine ⟨u, ψ1, fun b => ψ2 b ∨ φ2 b, k1, ⟨c1, c2, ψ2, φ2, rfl, k2, h3, fun _ => Iff.rfl, fun b hb h => h5 b ((k3 b).2 (.inr hb)) h⟩, fun b => ?_, fun b hb h => h.elim (k4 b hb) (h5 b ((k3 b).2 (.inl hb))), ?_⟩
    · rw [h4 b, k3 b, or_assoc]
    · rw [Nat.zero_mul, Nat.zero_add, List.getElem?_append_left (by rw [h2.length]; exact hoff)]; exact k5
  | φ, x :: l, xs, n + 1, ⟨c1, c2, φ1, φ2, hc, h2, h3, h4, h5⟩, hn => by
    subst hc
    obtain ⟨u, ψ1, ψ2, k1, k2, k3, k4, k5⟩ := DR.open_ hs hoff h3 (n := n) (by simpa using hn)
    refine ⟨u, ψ1, fun b => φ1 b ∨ ψ2 b, by simpa using k1, ⟨c1, c2, φ1, ψ2, rfl, h2, k2, fun _ => Iff.rfl, fun b hb h => h5 b hb ((k3 b).2 (.inr h))⟩, fun b => ?_, fun b hb h => h.elim (fun h => h5 b h ((k3 b).2 (.inl hb))) (k4 b hb), ?_⟩
    · rw [h4 b, k3 b]
      exact ⟨fun h => h.elim (fun h => .inr (.inl h)) (fun h => h.elim .inl (fun h => .inr (.inr h))), fun h => h.elim (fun h => .inr (.inl h)) (fun h => h.elim .inl (fun h => .inr (.inr h)))⟩
    · have e : (n + 1) * k.cells + off = c1.length + (n * k.cells + off) := by rw [h2.length, Nat.succ_mul]; omega
      rw [e, List.getElem?_append_right (by omega), Nat.add_sub_cancel_left]; exact k5
theorem DRH.close {w : World} {k : Kn} {off t : Nat} {u : Value} {φ1 : Nat → Prop} {y : List Int} (hs : slT k off = some t) (hy : DRep w (.sl t (.int .i64)) φ1 y [u]) : ∀ {φ2 : Nat → Prop} {l : List k.T} {xs : List Value} {n : Nat}, DRH (DRep w k) (DRepH w k off u) φ2 l n xs → (∀ b, φ1 b → ¬ φ2 b) →
    DR (DRep w k) (fun b => φ1 b ∨ φ2 b) (l.set n (setS k off y (l.getD n k.dflt))) xs
  | φ2, [], xs, n, h, _ => h.elim
  | φ2, x :: l, xs, 0, ⟨c1, c2, ψ1, ψ2, hc, h2, h3, h4, h5⟩, hd => by
    subst hc
    refine ⟨c1, c2, fun b => φ1 b ∨ ψ1 b, ψ2, rfl, h2.close hs hy (fun b hb h => hd b hb ((h4 b).2 (.inl h))), h3, fun b => ?_, fun b hb h => hb.elim (fun hb => hd b hb ((h4 b).2 (.inr h))) (fun hb => h5 b hb h)⟩
    show φ1 b ∨ φ2 b ↔ (φ1 b ∨ ψ1 b) ∨ ψ2 b
    rw [h4 b, or_assoc]
  | φ2, x :: l, xs, n + 1, ⟨c1, c2, ψ1, ψ2, hc, h2, h3, h4, h5⟩, hd => by
    subst hc
    refine ⟨c1, c2, ψ1, fun b => φ1 b ∨ ψ2 b, rfl, h2, by simpa using DRH.close hs hy h3 (fun b hb h => hd b hb ((h4 b).2 (.inr h))), fun b => ?_, fun b hb h => h.elim (fun h => hd b h ((h4 b).2 (.inl hb))) (fun h => h5 b hb h)⟩
    show φ1 b ∨ φ2 b ↔ ψ1 b ∨ (φ1 b ∨ ψ2 b)
    rw [h4 b]
    exact ⟨fun h => h.elim (fun h => .inr (.inl h)) (fun h => h.elim .inl (fun h => .inr (.inr h))), fun h => h.elim (fun h => .inr (.inl h)) (fun h => h.elim .inl (fun h => .inr (.inr h)))⟩
section
variable {P : Program} {X : Ctx} {E : Env} {Kc : Rv → List (Nat × Obj') → Prop}
/-- An inner row that is another's object comes back into its row. -/
def closeM (i : Nat) (K : M) : M :=
  .get i fun o => match o with
    | .hole t k l n off j => .get j fun o2 => match o2 with
      | .row t1 k1 l1 => match slT k off with
        | some t' => match Nat.beq t' t1 && neB i j with
          | true => if h : k1 = .int .i64 then .put j .dead (.put i (.drow t k (l.set n (setS k off (castK h l1) (l.getD n k.dflt)))) K) else .fail
          | false => .fail
        | none => .fail
      | _ => .fail
    | _ => K
theorem closeM_ok {os : List (Nat × Obj')} (hI : Inv P X os E) {i : Nat} {K : M} (h : (closeM i K).run os Kc) : ∃ E' os', E'.w = E.w ∧ E.le E' ∧ Inv P X os' E' ∧ K.run os' Kc := by
  simp only [closeM, M.run] at h
  split at h
  · rename_i o ho
    split at h
    · rename_i t k l n off j
      simp only [M.run] at h
      split at h
      · rename_i o2 ho2
        split at h
        · rename_i t1 k1 l1
          split at h
          · rename_i t' hs
            split at h
            · rename_i hb
              simp only [Bool.and_eq_true] at hb
              have h1 := Nat.eq_of_beq_eq_true hb.1
              subst h1
              have hne : i ≠ j := neB_ne hb.2
              split at h
              · rename_i hk
                subst hk
                simp only [M.run, ho2, lk_ne _ _ (Ne.symm hne), ho] at h
                rw [castK_rfl] at h
                obtain ⟨xs, φ', a1, a2, a3, a4, a5, a6⟩ := hI.obj i _ ho
                obtain ⟨ys, b1, b2, b3, b4⟩ := hI.obj j _ ho2
                have hD : E.D i := (hI.dom i).2 (by rw [ho]; rfl)
                have hdis := hI.dis i j _ _ hne ho ho2 rfl rfl
                have hrow : DRep E.w (.sl t' (.int .i64)) (E.φ j) l1 [E.σ j] := ⟨E.σ j, ys, fun _ => False, rfl, b1, DR.of_flat rfl b2, b3, fun b => (b4 b).trans ⟨.inl, fun h => h.elim id False.elim⟩, fun _ _ h => h⟩
                have hcl := DRH.close hs hrow a3 (fun b hb h => hdis b ((a5 b).2 (.inr h)) hb)
                have I1 := hI.kill j a2
                obtain ⟨I2, le2⟩ := I1.set i (E.σ i) (fun b => blkOf (E.σ i) = some b ∨ (E.φ j b ∨ φ' b)) (E.ι i) (.drow t k (l.set n (setS k off l1 (l.getD n k.dflt)))) (fun _ => ⟨rfl, rfl⟩) (fun _ h => absurd hD h)
                  ⟨xs, fun b => E.φ j b ∨ φ' b, by rw [List.length_set]; exact a1, hcl, by rw [List.length_set]; exact a4, fun b => Iff.rfl, fun b hb h => h.elim (hdis b ((a5 b).2 (.inl hb))) (a6 b hb)⟩
                  (fun _ b hb => by
                    have hcase : E.φ i b ∨ E.φ j b := hb.elim (fun h => .inl ((a5 b).2 (.inl h))) (fun h => h.elim .inr (fun h => .inl ((a5 b).2 (.inr h))))
                    have hn := hcase.elim (hI.nof i _ ho rfl b) (hI.nof j _ ho2 rfl b)
                    refine ⟨hn.1, hn.2, fun q o' hq hlq hlv h => ?_⟩
                    by_cases e : j = q
                    · subst e; rw [lk_same] at hlq; injection hlq with hlq; subst hlq; cases hlv
                    · rw [lk_ne _ _ e] at hlq
                      exact hcase.elim (fun hc => hI.dis q i o' _ hq hlq ho hlv rfl b h hc) (fun hc => hI.dis q j o' _ (Ne.symm e) hlq ho2 hlv rfl b h hc))
                exact ⟨E.at i (E.σ i) (fun b => blkOf (E.σ i) = some b ∨ (E.φ j b ∨ φ' b)) (E.ι i), _, rfl, le2, I2, h⟩
              · exact h.elim
            · exact h.elim
          · exact h.elim
        · exact h.elim
      · exact h.elim
    · exact ⟨E, os, rfl, .refl E, hI, h⟩
  · exact h.elim
def indexN (tys : List Ty) (t : Nat) (x ix : Rv) : M :=
  match x with
  | .val (.one (.own i)) => closeM i (indexM tys t x ix)
  | x => indexM tys t x ix
theorem indexN_ok {tys : List Ty} (ht : ∀ y ∈ tys, TyOk P y) {os : List (Nat × Obj')} (hI : Inv P X os E) {t : Nat} {x ix : Rv} {u ui : Value} (hx : RV P E x u) (hi : RV P E ix ui) (h : (indexN tys t x ix).run os Kc) :
    ∃ v w', (Instr.indexAt t u ui).run P E.w = .ok v w' ∧ Out P X E Kc v w' := by
  unfold indexN at h
  split at h
  · obtain ⟨E', os', h1, h2, h3, h4⟩ := closeM_ok hI h
    obtain ⟨v, r, k1, k2, k3⟩ := index_ok ht h3 (RV.mono h2 hx) (RV.mono h2 hi) h4
    rw [h1] at k1
    exact ⟨v, E.w, k1, E', r, os', h1, h2, h3, k2, k3⟩
  · obtain ⟨v, r, k1, k2, k3⟩ := index_ok ht hI hx hi h
    exact ⟨v, E.w, k1, E, r, os, rfl, .refl E, hI, k2, k3⟩
/-- A row inside an own row is loaded: it becomes an object of its own. -/
def openM (tys : List Ty) (d t : Nat) (k : Kn) (i n off : Nat) : M :=
  .get i fun o => match o with
    | .drow t' k' l => match ty? tys t, slT k' off with
      | some y, some t1 => match !y.d.agg && Nat.beq k.cells k'.cells && Nat.blt off k'.cells && neB i (oid d 0) with
        | true => .put i (.hole t' k' l n off (oid d 0)) (.new (oid d 0) (.row t1 (.int .i64) (getS k' off (l.getD n k'.dflt))) (.ret (.val (.one (.own (oid d 0))))))
        | false => .fail
      | _, _ => .fail
    | _ => .fail
theorem openM_ok {tys : List Ty} (ht : ∀ y ∈ tys, TyOk P y) {os : List (Nat × Obj')} (hI : Inv P X os E) {d t : Nat} {k : Kn} {i n off : Nat} {u : Value} (hx : AV P E (.elt k i n off) u) (h : (openM tys d t k i n off).run os Kc) :
    ∃ v w', (Instr.loadAt t u).run P E.w = .ok v w' ∧ Out P X E Kc v w' := by
  simp only [openM, M.run] at h
  split at h
  · rename_i o ho
    split at h
    · rename_i t' k' l
      split at h
      · rename_i y t1 hy hs
        obtain ⟨hok, rfl⟩ := ty?_ok ht hy
        split at h
        · rename_i hb
          simp only [Bool.and_eq_true, Bool.not_eq_true'] at hb
          obtain ⟨⟨⟨hag, hk⟩, hoff⟩, hij⟩ := hb
          have hk := Nat.eq_of_beq_eq_true hk
          have hoff := blt_t hoff
          have hne : i ≠ oid d 0 := neB_ne hij
          simp only [M.run, ho, lk_ne _ _ hne] at h
          split at h
          · rename_i hj
            obtain ⟨hD, b, len, c, hsl, hn, rfl⟩ := hx
            obtain ⟨xs, φ', ⟨a1, a2⟩, a3, a4, a5, a6⟩ := hI.obj i _ ho
            have a0 : E.w.ownsRow 0 t' k'.cells (E.σ i) l.length xs := ⟨a1, a2⟩
            rw [hsl] at a2
            rcases a2 with ⟨a2, _⟩ | ⟨g, cap, cur, a2, _, g6, g7, g8, g9, g10⟩
            · cases a2
            · injection a2 with a2 a2' a2''
              obtain rfl : b = g := by simpa using a2
              subst a2'
              obtain ⟨v, φ1, φ2, o1, o2, o3, o4, o5⟩ := DR.open_ hs hoff a3 hn
              have hv1 : v.oneCell' = true := by
                obtain ⟨v', ys, ψ, e, q1, _⟩ := o1
                injection e with e
                subst e
                obtain ⟨ad, c', hv, _⟩ := row_reads q1
                rw [hv]; rfl
              have hvok : okV v := by
                obtain ⟨v', ys, ψ, e, q1, _⟩ := o1
                injection e with e
                subst e
                obtain ⟨ad, c', hv, _⟩ := row_reads q1
                rw [hv]; trivial
              have hcell : E.w.cell? ⟨b, n * k'.cells + off, none⟩ = some v := by
                obtain ⟨ad, c', hv, _, hc⟩ := row_reads a0
                have hx0 : xs ≠ [] := fun e => by rw [e] at o5; simp at o5
                obtain ⟨b', hb', hcc⟩ := hc hx0
                rw [hsl] at hv
                injection hv with hv
                rw [hb'] at hv
                obtain rfl : b = b' := by simpa using hv
                obtain ⟨hlt, he⟩ := List.getElem?_eq_some_iff.1 o5
                rw [hcc _ hlt, he]
              obtain ⟨v2, r2, l1, l2, l3⟩ := run_loadAt (P := P) (E := E) (os := os) (K := fun r _ => r = .val (.one (.v v))) hok (b := b) (off := n * k.cells + off) (us := [v]) (as := [.v v]) (w := E.w) (fun q hq => by
                obtain rfl : q = 0 := by simpa using hq
                rw [hk, Nat.add_zero]; exact hcell) rfl ⟨⟨rfl, hvok⟩, trivial⟩ (fun u hu => by rw [List.mem_singleton] at hu; subst hu; exact hv1) (by unfold ldR; rw [hag]; rfl)
              subst l3
              have ev : v2 = v := by have := l2.1.1; first | exact this | exact this.symm
              rw [ev] at l1
              have I1 := hI.kill i hD
              have hφi : ∀ b', φ1 b' ∨ φ2 b' → E.φ i b' := fun b' hb' => (a5 b').2 (.inr ((o3 b').2 hb'))
              have hoth : ∀ q o', lk ((i, Obj'.dead) :: os) q = some o' → o'.live = true → q ≠ i ∧ lk os q = some o' := fun q o' hq hlv => by
                by_cases e : i = q
                · subst e; rw [lk_same] at hq; injection hq with hq; subst hq; cases hlv
                · rw [lk_ne _ _ e] at hq
                  exact ⟨Ne.symm e, hq⟩
              have hfree : ∀ b', E.φ i b' → ¬ E.F b' ∧ (X.w.heap.size ≤ b' ∨ X.O b') ∧ ∀ q o', lk ((i, Obj'.dead) :: os) q = some o' → o'.live = true → ¬ E.φ q b' := fun b' hb' => by
                obtain ⟨n1, n2⟩ := hI.nof i _ ho rfl b' hb'
                exact ⟨n1, n2, fun q o' hq hlv h2 => by
                  obtain ⟨m1, m2⟩ := hoth q o' hq hlv
                  exact hI.dis q i o' _ m1 m2 ho hlv rfl b' h2 hb'⟩
              obtain ⟨v', ys, ψ, e, q1, q2, q3, q4, q5⟩ := o1
              injection e with e
              rw [← e] at q1 q4
              have hψ : ∀ b', ¬ ψ b' := fun b' hb' => by
                have := q2.all (p := fun _ => False) (fun ψ x c h b hb => h.2.2 b hb) b' hb'
                exact this
              obtain ⟨E2, e1, e2, I2, e4, e5, e6, e7, e8⟩ := I1.lay (oid d 0) (by rw [lk_ne _ _ hne]; exact hj) (hI.noX d 0) v φ1 (fun _ => undef) (.row t1 (.int .i64) (getS k' off (l.getD n k'.dflt))) (fun b' hb' => hfree b' (hφi b' (.inl hb'))) (fun E' hle hw => by
                refine ⟨ys, by rw [hw]; exact q1, ?_, q3, fun b' => (q4 b').trans ⟨fun h => h.resolve_right (hψ b'), .inl⟩⟩
                exact q2.reps (fun ψ x c _ h => ⟨h.1, h.2.1⟩))
              have hD2 : E2.D i := e2.D i hD
              obtain ⟨I3, le3⟩ := I2.set i (E2.σ i) (fun b' => blkOf (E2.σ i) = some b' ∨ φ2 b') (E2.ι i) (.hole t' k' l n off (oid d 0)) (fun _ => ⟨rfl, rfl⟩) (fun _ h => absurd hD2 h)
                ⟨xs, φ2, by
                  show (E2.at i (E2.σ i) _ (E2.ι i)).w.ownsRow _ _ _ _ _ _
                  rw [show (E2.at i (E2.σ i) (fun b' => blkOf (E2.σ i) = some b' ∨ φ2 b') (E2.ι i)).w = E.w from e1, e2.σ i hD]; exact a0, .inr e4, by
                  have hσ : (E2.at i (E2.σ i) (fun b' => blkOf (E2.σ i) = some b' ∨ φ2 b') (E2.ι i)).σ (oid d 0) = v := by simp only [Env.at, if_neg (Ne.symm hne)]; exact e5
                  rw [hσ, show (E2.at i (E2.σ i) (fun b' => blkOf (E2.σ i) = some b' ∨ φ2 b') (E2.ι i)).w = E.w from e1]; exact o2, a4, fun b' => Iff.rfl, fun b' hb' h2 => a6 b' (by rw [← e2.σ i hD]; exact hb') ((o3 b').2 (.inr h2))⟩
                (fun _ b' hb' => by
                  rw [e2.σ i hD] at hb'
                  have hb2 : E.φ i b' := hb'.elim (fun h => (a5 b').2 (.inl h)) (fun h => hφi b' (.inr h))
                  obtain ⟨n1, n2, n3⟩ := hfree b' hb2
                  refine ⟨fun h => n1 ((e6 b').1 h), n2, fun q o' hq hlq hlv h2 => ?_⟩
                  by_cases e : oid d 0 = q
                  · subst e
                    have h3 := (e7 b').1 h2
                    exact hb'.elim (fun h => a6 b' h ((o3 b').2 (.inl h3))) (fun h => o4 b' h3 h)
                  · rw [lk_ne _ _ e] at hlq
                    exact n3 q o' hlq hlv ((e8 q (Ne.symm e) b').1 h2))
              refine ⟨v, E.w, l1, E2.at i (E2.σ i) (fun b' => blkOf (E2.σ i) = some b' ∨ φ2 b') (E2.ι i), .val (.one (.own (oid d 0))), _, e1, e2.trans le3, I3.congr (fun q => ?_), ⟨⟨.inr e4, ?_⟩, hv1⟩, h⟩
              · by_cases ei : i = q
                · subst ei; rw [lk_same, lk_ne _ _ (Ne.symm hne), lk_same]
                · by_cases ej : oid d 0 = q
                  · subst ej; rw [lk_same, lk_ne _ _ ei, lk_same]
                  · rw [lk_ne _ _ ej, lk_ne _ _ ei, lk_ne _ _ ei, lk_ne _ _ ej, lk_ne _ _ ei]
              · simp only [Env.at, if_neg (Ne.symm hne)]; exact e5.symm
          · exact h.elim
        · exact h.elim
      · exact h.elim
    · exact h.elim
  · exact h.elim
/-- A row that is taken out of a row of rows for good: it becomes an object of its own. -/
def takeM (tys : List Ty) (d t : Nat) (k : Kn) (i n off : Nat) : M :=
  .get i fun o => match o with
    | .part t' (.sl t1 (.int .i64)) l m => match ty? tys t with
      | some y => match !y.d.agg && Nat.beq k.cells 1 && Nat.beq off 0 && neB i (oid d 0) with
        | true => .need (n = m) (.put i (.part t' (.sl t1 (.int .i64)) l (m + 1)) (.new (oid d 0) (.row t1 (.int .i64) (l.getD m [])) (.ret (.val (.one (.own (oid d 0)))))))
        | false => .fail
      | _ => .fail
    | _ => .fail
theorem takeM_ok {tys : List Ty} (ht : ∀ y ∈ tys, TyOk P y) {os : List (Nat × Obj')} (hI : Inv P X os E) {d t : Nat} {k : Kn} {i n off : Nat} {u : Value} (hx : AV P E (.elt k i n off) u) (h : (takeM tys d t k i n off).run os Kc) :
    ∃ v w', (Instr.loadAt t u).run P E.w = .ok v w' ∧ Out P X E Kc v w' := by
  simp only [takeM, M.run] at h
  split at h
  · rename_i o ho
    split at h
    · rename_i t' t1 l m
      split at h
      · rename_i y hy
        obtain ⟨hok, rfl⟩ := ty?_ok ht hy
        split at h
        · rename_i hb
          simp only [Bool.and_eq_true, Bool.not_eq_true'] at hb
          obtain ⟨⟨⟨hag, hk⟩, hoff⟩, hij⟩ := hb
          have hk := Nat.eq_of_beq_eq_true hk
          have hoff := Nat.eq_of_beq_eq_true hoff
          subst hoff
          have hne : i ≠ oid d 0 := neB_ne hij
          simp only [M.run, ho, lk_ne _ _ hne] at h
          obtain ⟨hnm, h⟩ := h
          subst hnm
          split at h
          · rename_i hj
            obtain ⟨hD, b, len, c, hsl, hn, rfl⟩ := hx
            obtain ⟨xs, φ', ⟨a1, a2⟩, a3, a4, a5, a6⟩ := hI.obj i _ ho
            have hc1 : (Kn.sl t1 (.int .i64)).cells = 1 := rfl
            rw [hc1, Nat.mul_one] at a3
            rw [hc1] at a1 a2
            have a0 : E.w.ownsRow 0 t' 1 (E.σ i) l.length xs := ⟨a1, a2⟩
            rw [hsl] at a2
            rcases a2 with ⟨a2, _⟩ | ⟨g, cap, cur, a2, _, g6, g7, g8, g9, g10⟩
            · cases a2
            · injection a2 with a2 a2' a2''
              obtain rfl : b = g := by simpa using a2
              subst a2'
              rw [List.drop_eq_getElem_cons hn] at a3
              obtain ⟨c1, c2, φ1, φ2, hcc, o1, o2, o3, o4⟩ := a3
              have hl1 : l.getD n [] = l[n] := by rw [List.getD_eq_getElem?_getD, List.getElem?_eq_getElem hn]; rfl
              obtain ⟨v, ys, ψ, hc1', q1, q2, q3, q4, q5⟩ := o1
              rw [hc1'] at hcc
              have o5 : xs[n]? = some v := by
                have := congrArg (fun z => z[0]?) hcc
                simpa using this
              have hc2 : xs.drop (n + 1) = c2 := by
                have := congrArg (fun z => z.drop 1) hcc
                simpa [List.drop_drop] using this
              rw [← hc2] at o2
              have hv1 : v.oneCell' = true := by
                obtain ⟨ad, c', hv, _⟩ := row_reads q1
                rw [hv]; rfl
              have hvok : okV v := by
                obtain ⟨ad, c', hv, _⟩ := row_reads q1
                rw [hv]; trivial
              have hcell : E.w.cell? ⟨b, n * k.cells + 0, none⟩ = some v := by
                obtain ⟨ad, c', hv, _, hc⟩ := row_reads a0
                have hx0 : xs ≠ [] := fun e => by rw [e] at o5; simp at o5
                obtain ⟨b', hb', hcc⟩ := hc hx0
                rw [hsl] at hv
                injection hv with hv
                rw [hb'] at hv
                obtain rfl : b = b' := by simpa using hv
                obtain ⟨hlt, he⟩ := List.getElem?_eq_some_iff.1 o5
                rw [hk, Nat.mul_one, Nat.add_zero, hcc _ hlt, he]
              obtain ⟨v2, r2, l1, l2, l3⟩ := run_loadAt (P := P) (E := E) (os := os) (K := fun r _ => r = .val (.one (.v v))) hok (b := b) (off := n * k.cells + 0) (us := [v]) (as := [.v v]) (w := E.w) (fun q hq => by
                obtain rfl : q = 0 := by simpa using hq
                exact hcell) rfl ⟨⟨rfl, hvok⟩, trivial⟩ (fun u hu => by rw [List.mem_singleton] at hu; subst hu; exact hv1) (by unfold ldR; rw [hag]; rfl)
              subst l3
              have ev : v2 = v := by have := l2.1.1; first | exact this | exact this.symm
              rw [ev] at l1
              have I1 := hI.kill i hD
              have hφi : ∀ b', φ1 b' ∨ φ2 b' → E.φ i b' := fun b' hb' => (a5 b').2 (.inr ((o3 b').2 hb'))
              have hoth : ∀ q o', lk ((i, Obj'.dead) :: os) q = some o' → o'.live = true → q ≠ i ∧ lk os q = some o' := fun q o' hq hlv => by
                by_cases e : i = q
                · subst e; rw [lk_same] at hq; injection hq with hq; subst hq; cases hlv
                · rw [lk_ne _ _ e] at hq
                  exact ⟨Ne.symm e, hq⟩
              have hfree : ∀ b', E.φ i b' → ¬ E.F b' ∧ (X.w.heap.size ≤ b' ∨ X.O b') ∧ ∀ q o', lk ((i, Obj'.dead) :: os) q = some o' → o'.live = true → ¬ E.φ q b' := fun b' hb' => by
                obtain ⟨n1, n2⟩ := hI.nof i _ ho rfl b' hb'
                exact ⟨n1, n2, fun q o' hq hlv h2 => by
                  obtain ⟨m1, m2⟩ := hoth q o' hq hlv
                  exact hI.dis q i o' _ m1 m2 ho hlv rfl b' h2 hb'⟩
              have hψ : ∀ b', ¬ ψ b' := fun b' hb' => by
                have := q2.all (p := fun _ => False) (fun ψ x c h b hb => h.2.2 b hb) b' hb'
                exact this
              obtain ⟨E2, e1, e2, I2, e4, e5, e6, e7, e8⟩ := I1.lay (oid d 0) (by rw [lk_ne _ _ hne]; exact hj) (hI.noX d 0) v φ1 (fun _ => undef) (.row t1 (.int .i64) (l.getD n [])) (fun b' hb' => hfree b' (hφi b' (.inl hb'))) (fun E' hle hw => by
                rw [hl1]
                refine ⟨ys, by rw [hw]; exact q1, ?_, q3, fun b' => (q4 b').trans ⟨fun h => h.resolve_right (hψ b'), .inl⟩⟩
                exact q2.reps (fun ψ x c _ h => ⟨h.1, h.2.1⟩))
              have hD2 : E2.D i := e2.D i hD
              obtain ⟨I3, le3⟩ := I2.set i (E2.σ i) (fun b' => blkOf (E2.σ i) = some b' ∨ φ2 b') (E2.ι i) (.part t' (.sl t1 (.int .i64)) l (n + 1)) (fun _ => ⟨rfl, rfl⟩) (fun _ h => absurd hD2 h)
                ⟨xs, φ2, by
                  show (E2.at i (E2.σ i) _ (E2.ι i)).w.ownsRow _ _ _ _ _ _
                  rw [show (E2.at i (E2.σ i) (fun b' => blkOf (E2.σ i) = some b' ∨ φ2 b') (E2.ι i)).w = E.w from e1, e2.σ i hD]; exact a0, by
                  rw [show (E2.at i (E2.σ i) (fun b' => blkOf (E2.σ i) = some b' ∨ φ2 b') (E2.ι i)).w = E.w from e1, hc1, Nat.mul_one]; exact o2, a4, fun b' => Iff.rfl, fun b' hb' h2 => a6 b' (by rw [← e2.σ i hD]; exact hb') ((o3 b').2 (.inr h2))⟩
                (fun _ b' hb' => by
                  rw [e2.σ i hD] at hb'
                  have hb2 : E.φ i b' := hb'.elim (fun h => (a5 b').2 (.inl h)) (fun h => hφi b' (.inr h))
                  obtain ⟨n1, n2, n3⟩ := hfree b' hb2
                  refine ⟨fun h => n1 ((e6 b').1 h), n2, fun q o' hq hlq hlv h2 => ?_⟩
                  by_cases e : oid d 0 = q
                  · subst e
                    have h3 := (e7 b').1 h2
                    exact hb'.elim (fun h => a6 b' h ((o3 b').2 (.inl h3))) (fun h => o4 b' h3 h)
                  · rw [lk_ne _ _ e] at hlq
                    exact n3 q o' hlq hlv ((e8 q (Ne.symm e) b').1 h2))
              refine ⟨v, E.w, l1, E2.at i (E2.σ i) (fun b' => blkOf (E2.σ i) = some b' ∨ φ2 b') (E2.ι i), .val (.one (.own (oid d 0))), _, e1, e2.trans le3, I3.congr (fun q => ?_), ⟨⟨.inr e4, ?_⟩, hv1⟩, h⟩
              · by_cases ei : i = q
                · subst ei; rw [lk_same, lk_ne _ _ (Ne.symm hne), lk_same]
                · by_cases ej : oid d 0 = q
                  · subst ej; rw [lk_same, lk_ne _ _ ei, lk_same]
                  · rw [lk_ne _ _ ej, lk_ne _ _ ei, lk_ne _ _ ei, lk_ne _ _ ej, lk_ne _ _ ei]
              · simp only [Env.at, if_neg (Ne.symm hne)]; exact e5.symm
          · exact h.elim
        · exact h.elim
      · exact h.elim
    · exact h.elim
  · exact h.elim
/-- A number inside a datum is another one. -/
def setI : (k : Kn) → Nat → Int → k.T → Option k.T
  | .int .i64, off, z, _ => match Nat.beq off 0 with | true => some z | false => none
  | .pr a b, off, z, p => match Nat.blt off a.cells with
    | true => match setI a off z p.1 with | some x => some (x, p.2) | none => none
    | false => match setI b (off - a.cells) z p.2 with | some x => some (p.1, x) | none => none
  | _, _, _, _ => none
theorem DRep.setI {w : World} {z : Int} (hz : okI .i64 z) : ∀ {k : Kn} {off : Nat} {φ : Nat → Prop} {x x' : k.T} {cs : List Value}, V.setI k off z x = some x' → DRep w k φ x cs → off < k.cells ∧ DRep w k φ x' (cs.set off (.int .i64 z))
  | .int .i64, off, φ, x, x', cs, hs, h => by
    unfold V.setI at hs
    split at hs
    · rename_i h0
      have h0 := Nat.eq_of_beq_eq_true h0
      subst h0
      injection hs with hs
      obtain ⟨h1, _, h3⟩ := h
      subst h1
      refine ⟨by simp [Kn.cells], ?_⟩
      rw [← hs]
      exact ⟨rfl, hz, h3⟩
    · cases hs
  | .pr a b, off, φ, p, x', cs, hs, ⟨c1, c2, φ1, φ2, hc, h2, h3, h4, h5⟩ => by
    subst hc
    unfold V.setI at hs
    split at hs
    · rename_i hb
      have hlt := blt_t hb
      split at hs
      · rename_i y hy
        injection hs with hs
        subst hs
        obtain ⟨k1, k2⟩ := DRep.setI hz hy h2
        refine ⟨by simp only [Kn.cells]; omega, c1.set off _, c2, φ1, φ2, ?_, k2, h3, h4, h5⟩
        rw [List.set_append_left _ _ (by rw [h2.length]; exact hlt)]
      · cases hs
    · rename_i hb
      have hge := blt_f hb
      split at hs
      · rename_i y hy
        injection hs with hs
        subst hs
        obtain ⟨k1, k2⟩ := DRep.setI hz hy h3
        refine ⟨by simp only [Kn.cells]; omega, c1, c2.set (off - a.cells) _, φ1, φ2, ?_, h2, k2, h4, h5⟩
        rw [List.set_append_right _ _ (by rw [h2.length]; exact hge), h2.length]
      · cases hs
theorem DR.setI {w : World} {k : Kn} {off : Nat} {z : Int} (hz : okI .i64 z) {x' : k.T} : ∀ {φ : Nat → Prop} {l : List k.T} {xs : List Value} {n : Nat}, DR (DRep w k) φ l xs → n < l.length → V.setI k off z (l.getD n k.dflt) = some x' → off < k.cells ∧
    DR (DRep w k) φ (l.set n x') (xs.set (n * k.cells + off) (.int .i64 z))
  | φ, [], xs, n, _, hn, _ => by simp at hn
  | φ, x :: l, xs, 0, ⟨c1, c2, φ1, φ2, hc, h2, h3, h4, h5⟩, _, hs => by
    subst hc
    obtain ⟨k1, k2⟩ := DRep.setI hz hs h2
    refine ⟨k1, c1.set off _, c2, φ1, φ2, ?_, k2, h3, h4, h5⟩
    rw [Nat.zero_mul, Nat.zero_add, List.set_append_left _ _ (by rw [h2.length]; exact k1)]
  | φ, x :: l, xs, n + 1, ⟨c1, c2, φ1, φ2, hc, h2, h3, h4, h5⟩, hn, hs => by
    subst hc
    obtain ⟨k1, k2⟩ := DR.setI hz h3 (n := n) (by simpa using hn) (by simpa using hs)
    refine ⟨k1, c1, c2.set (n * k.cells + off) _, φ1, φ2, ?_, h2, k2, h4, h5⟩
    have e : (n + 1) * k.cells + off = c1.length + (n * k.cells + off) := by rw [h2.length, Nat.succ_mul]; omega
    rw [e, List.set_append_right _ _ (by omega), Nat.add_sub_cancel_left]
def storeI (tys : List Ty) (t : Nat) (k : Kn) (i n off : Nat) (z : Int) : M :=
  .get i fun o => match o with
    | .drow t' k' l => match ty? tys t with
      | some y => match Nat.beq y.size 1 && Nat.beq k.cells k'.cells, setI k' off z (l.getD n k'.dflt) with
        | true, some x => .put i (.drow t' k' (l.set n x)) (.ret (.val (.one .undef)))
        | _, _ => .fail
      | none => .fail
    | _ => .fail
theorem storeI_ok {tys : List Ty} (ht : ∀ y ∈ tys, TyOk P y) {os : List (Nat × Obj')} (hI : Inv P X os E) {t : Nat} {k : Kn} {i n off : Nat} {z : Int} (hz : okI .i64 z) {u : Value} (hx : AV P E (.elt k i n off) u) (h : (storeI tys t k i n off z).run os Kc) :
    ∃ w', (Instr.storeAt t u (.int .i64 z)).run P E.w = .ok () w' ∧ Out P X E Kc undef w' := by
  simp only [storeI, M.run] at h
  split at h
  · rename_i o ho
    split at h
    · rename_i t' k' l
      split at h
      · rename_i y hy
        obtain ⟨hok, rfl⟩ := ty?_ok ht hy
        split at h
        · rename_i x' hb hs'
          simp only [Bool.and_eq_true] at hb
          have hsz := Nat.eq_of_beq_eq_true hb.1
          have hk := Nat.eq_of_beq_eq_true hb.2
          simp only [M.run, ho] at h
          obtain ⟨hD, b, len, c, hs, hn, rfl⟩ := hx
          obtain ⟨xs, φ', ⟨h2, h3⟩, h4, h5, h6, h7⟩ := hI.obj i _ ho
          rw [hs] at h3
          rcases h3 with ⟨h3, _⟩ | ⟨g, cap, cur, h3, _, g6, g7, g8, g9, g10⟩
          · cases h3
          · injection h3 with h3 h3' h3''
            obtain rfl : b = g := by simpa using h3
            subst h3'
            subst h3''
            obtain ⟨hoff, hset⟩ := DR.setI hz h4 hn hs'
            have hmul : n * k'.cells + k'.cells ≤ l.length * k'.cells := by rw [← Nat.succ_mul]; exact Nat.mul_le_mul_right _ hn
            have hmul2 : l.length * k'.cells ≤ c * k'.cells := Nat.mul_le_mul_right _ g7
            have hr := run_storeAt (P := P) (v := .int .i64 z) (us := [.int .i64 z]) (off := n * k'.cells + off) hok rfl (by rw [hsz]; rfl) g6 (by simp only [List.length_cons, List.length_nil]; omega) (fun u hu => by rw [List.mem_singleton] at hu; subst hu; rfl)
            rw [hk]
            refine ⟨_, hr, ?_⟩
            have hbφ : E.φ i b := (h6 b).2 (.inl (by rw [hs]; rfl))
            obtain ⟨E', h11, h12, h13⟩ := hI.upd (i := i) (b := b) ho rfl hbφ (grown_row E.w b (cur.toList.take (n * k'.cells + off) ++ [Value.int .i64 z] ++ cur.toList.drop (n * k'.cells + off + [Value.int .i64 z].length)).toArray) (.drow t' k' (l.set n x')) (fun E' hle' hw => by
              refine ⟨xs.set (n * k'.cells + off) (.int .i64 z), φ', ?_, ?_, by simpa using h5, h6, h7⟩
              · rw [hs, hw]
                refine ⟨by simpa using h2, .inr ⟨b, c, _, by simp, Nat.zero_le _, setRow_heap E.w b _ _ t' _ g6, by simpa using g7, g8, ?_, ?_⟩⟩
                · simp; omega
                · rw [← g10]
                  simp only [List.length_set, Nat.add_zero]
                  have := take_mid cur.toList [Value.int .i64 z] (n * k'.cells + off) (l.length * k'.cells) (by simp only [List.length_cons, List.length_nil]; omega) (by simp; omega)
                  have h8 : (cur.toList.take (l.length * k'.cells)).length = l.length * k'.cells := by simp; omega
                  rw [List.set_eq_take_append_cons_drop, if_pos (by simp; omega)]
                  simpa using this
              · refine hset.imp (fun ψ x c hψ h => DRep.move (fun b' hb' => ?_) h)
                rw [hw]
                exact setRow_other E.w b b' _ (fun e => h7 b' (by rw [hs, e]; rfl) (hψ b' hb')))
            exact ⟨E', .val (.one .undef), _, h11, h12, h13, trivial, h⟩
        · exact h.elim
      · exact h.elim
    · exact h.elim
  · exact h.elim
def loadN (tys : List Ty) (d t : Nat) (x : Rv) : M :=
  match x with
  | .val (.one (.elt k i n off)) => .get i fun o => match o with
    | .drow _ _ _ => openM tys d t k i n off
    | .part _ _ _ _ => takeM tys d t k i n off
    | _ => loadM tys t x
  | x => loadM tys t x
theorem loadN_ok {tys : List Ty} (ht : ∀ y ∈ tys, TyOk P y) {os : List (Nat × Obj')} (hI : Inv P X os E) {d t : Nat} {x : Rv} {u : Value} (hx : RV P E x u) (h : (loadN tys d t x).run os Kc) :
    ∃ v w', (Instr.loadAt t u).run P E.w = .ok v w' ∧ Out P X E Kc v w' := by
  have base : ∀ {x : Rv}, RV P E x u → (loadM tys t x).run os Kc → ∃ v w', (Instr.loadAt t u).run P E.w = .ok v w' ∧ Out P X E Kc v w' := fun hx h => by
    obtain ⟨v, r, h1, h2, h3⟩ := load_ok ht hI hx h
    exact ⟨v, E.w, h1, E, r, os, rfl, .refl E, hI, h2, h3⟩
  unfold loadN at h
  split at h
  · simp only [M.run] at h
    split at h
    · split at h
      · exact openM_ok ht hI hx.1 h
      · exact takeM_ok ht hI hx.1 h
      · exact base hx h
    · exact h.elim
  · exact base hx h
def storeH (tys : List Ty) (t : Nat) (x z : Rv) : M :=
  match x, z with
  | .val (.one (.elt k i n off)), .val (.one (.v (.int .i64 y))) => .get i fun o => match o with
    | .drow _ _ _ => storeI tys t k i n off y
    | _ => storeN tys t x z
  | x, z => storeN tys t x z
theorem storeH_ok {tys : List Ty} (ht : ∀ y ∈ tys, TyOk P y) {os : List (Nat × Obj')} (hI : Inv P X os E) {t : Nat} {x z : Rv} {ux uz : Value} (hx : RV P E x ux) (hz : RV P E z uz) (h : (storeH tys t x z).run os Kc) :
    ∃ w', (Instr.storeAt t ux uz).run P E.w = .ok () w' ∧ Out P X E Kc undef w' := by
  unfold storeH at h
  split at h
  · simp only [M.run] at h
    split at h
    · split at h
      · obtain ⟨⟨rfl, hz⟩, _⟩ := hz
        exact storeI_ok ht hI hz hx.1 h
      · exact storeN_ok ht hI hx hz h
    · exact h.elim
  · exact storeN_ok ht hI hx hz h
/-- All inner rows that are open come back. -/
def closeO (os : List (Nat × Obj')) (i : Nat) : List (Nat × Obj') :=
  match lk os i with
  | some (.hole t k l n off j) => match lk os j with
    | some (.row t1 k1 l1) => match slT k off with
      | some t' => match Nat.beq t' t1 && neB i j with
        | true => if h : k1 = .int .i64 then (i, .drow t k (l.set n (setS k off (castK h l1) (l.getD n k.dflt)))) :: (j, .dead) :: os else os
        | false => os
      | none => os
    | _ => os
  | _ => os
def closeL : List (Nat × Nat) → List (Nat × Obj') → List (Nat × Obj')
  | [], os => os
  | p :: r, os => closeL r (closeO os p.2)
theorem closeO_ok {os : List (Nat × Obj')} (hI : Inv P X os E) (i : Nat) : ∃ E', E'.w = E.w ∧ E.le E' ∧ Inv P X (closeO os i) E' := by
  unfold closeO
  split
  · rename_i t k l n off j ho
    split
    · rename_i t1 k1 l1 ho2
      split
      · rename_i t' hs
        split
        · rename_i hb
          split
          · rename_i hk
            have hij : i ≠ j := by
              simp only [Bool.and_eq_true] at hb
              exact neB_ne hb.2
            obtain ⟨E', os', h1, h2, h3, h4⟩ := closeM_ok (i := i) (K := .ret (.tup [])) (Kc := fun _ os' => os' = (i, .drow t k (l.set n (setS k off (castK hk l1) (l.getD n k.dflt)))) :: (j, .dead) :: os) hI (by
              simp only [closeM, M.run, ho, ho2, hs, hb, dif_pos hk, lk_ne _ _ (Ne.symm hij)])
            rw [← show os' = _ from h4]
            exact ⟨E', h1, h2, h3⟩
          · exact ⟨E, rfl, .refl E, hI⟩
        · exact ⟨E, rfl, .refl E, hI⟩
      · exact ⟨E, rfl, .refl E, hI⟩
    · exact ⟨E, rfl, .refl E, hI⟩
  · exact ⟨E, rfl, .refl E, hI⟩
theorem closeL_ok : ∀ {ids : List (Nat × Nat)} {os : List (Nat × Obj')} {E : Env}, Inv P X os E → ∃ E', E'.w = E.w ∧ E.le E' ∧ Inv P X (closeL ids os) E'
  | [], os, E, hI => ⟨E, rfl, .refl E, hI⟩
  | p :: r, os, E, hI => by
    obtain ⟨E1, h1, h2, h3⟩ := closeO_ok hI p.2
    obtain ⟨E2, k1, k2, k3⟩ := closeL_ok (ids := r) h3
    exact ⟨E2, k1.trans h1, h2.trans k2, k3⟩
end
end Go.Proofs.YthfmlelodmcgkaaGreat.V
