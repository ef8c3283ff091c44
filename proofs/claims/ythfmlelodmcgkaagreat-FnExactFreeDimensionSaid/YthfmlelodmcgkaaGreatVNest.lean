/- Rows whose elements own rows: literals, appends. Conditions: in each. -/
import Derived.Test.YthfmlelodmcgkaaGreatVCore
set_option linter.unusedVariables false
set_option linter.unusedSimpArgs false
set_option linter.unusedSectionVars false
namespace Go.Proofs.YthfmlelodmcgkaaGreat.V
open Go
theorem DR.congr {α : Type} {R : (Nat → Prop) → α → List Value → Prop} {φ φ' : Nat → Prop} (h : ∀ b, φ' b ↔ φ b) : ∀ {l : List α} {cs : List Value}, DR R φ l cs → DR R φ' l cs
  | [], _, ⟨h1, h2⟩ => ⟨h1, fun b hb => h2 b ((h b).1 hb)⟩
  | _ :: _, _, ⟨c1, c2, φ1, φ2, h1, h2, h3, h4, h5⟩ => ⟨c1, c2, φ1, φ2, h1, h2, h3, fun b => (h b).trans (h4 b), h5⟩
theorem DR.append {α : Type} {R : (Nat → Prop) → α → List Value → Prop} : ∀ {φ1 φ2 : Nat → Prop} {l m : List α} {xs ys : List Value}, DR R φ1 l xs → DR R φ2 m ys → (∀ b, φ1 b → ¬ φ2 b) → DR R (fun b => φ1 b ∨ φ2 b) (l ++ m) (xs ++ ys)
  | φ1, φ2, [], m, xs, ys, ⟨h1, h2⟩, h, _ => by
    subst h1
    exact DR.congr (fun b => ⟨fun hb => hb.resolve_left (h2 b), .inr⟩) h
  | φ1, φ2, x :: l, m, xs, ys, ⟨c1, c2, ψ1, ψ2, h1, h2, h3, h4, h5⟩, h, hd => by
    subst h1
    refine ⟨c1, c2 ++ ys, ψ1, fun b => ψ2 b ∨ φ2 b, by rw [List.append_assoc], h2, DR.append h3 h (fun b hb => hd b ((h4 b).2 (.inr hb))), fun b => ?_, fun b hb hb2 => ?_⟩
    · show φ1 b ∨ φ2 b ↔ ψ1 b ∨ (ψ2 b ∨ φ2 b)
      rw [h4 b, or_assoc]
    · exact hb2.elim (h5 b hb) (hd b ((h4 b).2 (.inl hb)))
theorem DRep.of_flat {F : Nat → Prop} {w : World} : ∀ {k : Kn} {x : k.T} {cs : List Value}, k.flat = true → Rep F w k x cs → DRep w k (fun _ => False) x cs
  | .int _, _, _, _, h => ⟨h.1, h.2, fun _ h => h⟩
  | .bool, _, _, _, h => ⟨h, fun _ h => h⟩
  | .str, _, _, _, h => ⟨h, fun _ h => h⟩
  | .pr a b, _, _, hf, ⟨c1, c2, h, h1, h2⟩ => by
    simp only [Kn.flat, Bool.and_eq_true] at hf
    exact ⟨c1, c2, _, _, h, DRep.of_flat hf.1 h1, DRep.of_flat hf.2 h2, fun _ => ⟨fun h => h.elim, fun h => h.elim id id⟩, fun _ h => h.elim⟩
theorem DR.of_flat {F : Nat → Prop} {w : World} {k : Kn} (hf : k.flat = true) : ∀ {l : List k.T} {cs : List Value}, Reps F w k l cs → DR (DRep w k) (fun _ => False) l cs
  | [], _, h => ⟨h, fun _ h => h⟩
  | _ :: _, _, ⟨c1, c2, h, h1, h2⟩ => ⟨c1, c2, _, _, h, DRep.of_flat hf h1, DR.of_flat hf h2, fun _ => ⟨fun h => h.elim, fun h => h.elim id id⟩, fun _ h => h.elim⟩
section
variable {P : Program} {X : Ctx} {E : Env} {Kc : Rv → List (Nat × Obj') → Prop}
/-- An object is laid in blocks that no other one has. -/
theorem Inv.lay {os : List (Nat × Obj')} (hI : Inv P X os E) (i : Nat) (hi : lk os i = none) (hX : ¬ X.D i) (u : Value) (φ : Nat → Prop) (ι : Nat → Value) (o' : Obj')
    (hb : ∀ b, φ b → ¬ E.F b ∧ (X.w.heap.size ≤ b ∨ X.O b) ∧ ∀ j o, lk os j = some o → o.live = true → ¬ E.φ j b) (hsat : ∀ E' : Env, E.le E' → E'.w = E.w → OSat P E' u φ ι o') :
    ∃ E', E'.w = E.w ∧ E.le E' ∧ Inv P X ((i, o') :: os) E' ∧ E'.D i ∧ E'.σ i = u ∧ (∀ b, E'.F b ↔ E.F b) ∧ (∀ b, E'.φ i b ↔ φ b) ∧ ∀ j, j ≠ i → ∀ b, E'.φ j b ↔ E.φ j b := by
  have hD : ¬ E.D i := by rw [hI.dom, hi]; simp
  obtain ⟨h3, h4⟩ := hI.set i u φ ι o' (fun h => absurd h hD) (fun h => absurd h hX) (hsat _ (Env.at_le (fun h => absurd h hD)) rfl) (fun _ b hb' => ⟨(hb b hb').1, (hb b hb').2.1, fun j o hne hj hl => (hb b hb').2.2 j o hj hl⟩)
  exact ⟨E.at i u φ ι, rfl, h4, h3, .inl rfl, by simp [Env.at], fun b => Iff.rfl, fun b => by simp [Env.at], fun j hj b => by simp [Env.at, hj]⟩
/-! ### values that take their rows along -/
/-- The row of object j, taken. -/
def takeO (t : Nat) (e : Kn) (j : Nat) (K : List e.T → M) : M :=
  .get j fun o => match o with
    | .row t' k' l => match Nat.beq t t', e.flat with
      | true, true => if h : k' = e then .put j .dead (K (castK h l)) else .fail
      | _, _ => .fail
    | .drow t' k' l => match Nat.beq t t' with
      | true => if h : k' = e then .put j .dead (K (castK h l)) else .fail
      | false => .fail
    | _ => .fail
def takeL (t : Nat) (e : Kn) (as : List A) (K : List e.T → M) : M :=
  match as with
  | [.own j] => takeO t e j K
  | [.v (.slice none 0 0)] => K []
  | _ => .fail
def optM {α : Type} (o : Option α) (K : α → M) : M :=
  match o with
  | some z => K z
  | none => .fail
def takeD : (k : Kn) → List A → (k.T → M) → M
  | .int k, as, K => optM (asI k as) K
  | .bool, as, K => optM (asB as) K
  | .str, as, K => optM (asS as) K
  | .sl t e, as, K => takeL t e as K
  | .pr a b, as, K => takeD a (as.take a.cells) fun x => takeD b (as.drop a.cells) fun y => K (x, y)
/-- What has been taken: the state is left without it. -/
structure Took (P : Program) (X : Ctx) (E : Env) (os os' : List (Nat × Obj')) (φ : Nat → Prop) : Prop where
  inv : Inv P X os' E
  src : ∀ b, φ b → ∃ j o, lk os j = some o ∧ o.live = true ∧ E.φ j b
  kept : ∀ j o, lk os' j = some o → o.live = true → lk os j = some o ∧ ∀ b, E.φ j b → ¬ φ b
theorem Took.none {os : List (Nat × Obj')} (h : Inv P X os E) : Took P X E os os (fun _ => False) := ⟨h, fun _ h => h.elim, fun _ _ h _ => ⟨h, fun _ _ h => h⟩⟩
theorem Took.one {os : List (Nat × Obj')} (hI : Inv P X os E) {j : Nat} {o : Obj'} (hj : lk os j = some o) (hl : o.live = true) : Took P X E os ((j, .dead) :: os) (E.φ j) := by
  have hD : E.D j := (hI.dom j).2 (by rw [hj]; rfl)
  refine ⟨hI.kill j hD, fun b hb => ⟨j, o, hj, hl, hb⟩, fun i o' hi hl' => ?_⟩
  by_cases e : j = i
  · subst e; rw [lk_same] at hi; injection hi with hi; subst hi; cases hl'
  · rw [lk_ne _ _ e] at hi
    exact ⟨hi, fun b hb hb2 => hI.dis i j o' o (Ne.symm e) hi hj hl' hl b hb hb2⟩
theorem Took.and {os os1 os2 : List (Nat × Obj')} {φ1 φ2 : Nat → Prop} (h1 : Took P X E os os1 φ1) (h2 : Took P X E os1 os2 φ2) : Took P X E os os2 (fun b => φ1 b ∨ φ2 b) ∧ ∀ b, φ1 b → ¬ φ2 b := by
  refine ⟨⟨h2.inv, fun b hb => hb.elim (h1.src b) (fun hb => ?_), fun j o hj hl => ?_⟩, fun b hb hb2 => ?_⟩
  · obtain ⟨j, o, k1, k2, k3⟩ := h2.src b hb
    exact ⟨j, o, (h1.kept j o k1 k2).1, k2, k3⟩
  · obtain ⟨k1, k2⟩ := h2.kept j o hj hl
    obtain ⟨k3, k4⟩ := h1.kept j o k1 hl
    exact ⟨k3, fun b hb hb2 => hb2.elim (k4 b hb) (k2 b hb)⟩
  · obtain ⟨j, o, k1, k2, k3⟩ := h2.src b hb2
    exact (h1.kept j o k1 k2).2 b k3 hb
theorem Took.free {os os' : List (Nat × Obj')} {φ : Nat → Prop} (hI : Inv P X os E) (h : Took P X E os os' φ) : ∀ b, φ b → ¬ E.F b ∧ (X.w.heap.size ≤ b ∨ X.O b) ∧ ∀ j o, lk os' j = some o → o.live = true → ¬ E.φ j b := fun b hb => by
  obtain ⟨j, o, k1, k2, k3⟩ := h.src b hb
  obtain ⟨k4, k5⟩ := hI.nof j o k1 k2 b k3
  exact ⟨k4, k5, fun i o' hi hl hb2 => (h.kept i o' hi hl).2 b hb2 hb⟩
theorem takeO_ok {os : List (Nat × Obj')} (hI : Inv P X os E) {t : Nat} {e : Kn} {j : Nat} {Kf : List e.T → M} (h : (takeO t e j Kf).run os Kc) :
    ∃ os' l φ, Took P X E os os' φ ∧ (Kf l).run os' Kc ∧ DRep E.w (.sl t e) φ l [E.σ j] := by
  simp only [takeO, M.run] at h
  split at h
  · rename_i o ho
    split at h
    · rename_i t' k' l
      split at h
      · rename_i ht hf
        have ht := Nat.eq_of_beq_eq_true ht
        subst ht
        split at h
        · rename_i hk
          subst hk
          simp only [M.run, ho] at h
          obtain ⟨xs, h1, h2, h3, h4⟩ := hI.obj j _ ho
          exact ⟨_, _, _, Took.one hI ho rfl, h, ⟨E.σ j, xs, fun _ => False, rfl, by rw [castK_rfl]; exact h1, by rw [castK_rfl]; exact DR.of_flat hf h2, by rw [castK_rfl]; exact h3, fun b => (h4 b).trans ⟨.inl, fun h => h.elim id False.elim⟩, fun _ _ h => h⟩⟩
        · exact h.elim
      · exact h.elim
    · rename_i t' k' l
      split at h
      · rename_i ht
        have ht := Nat.eq_of_beq_eq_true ht
        subst ht
        split at h
        · rename_i hk
          subst hk
          simp only [M.run, ho] at h
          obtain ⟨xs, φ', h1, h2, h3, h4, h5⟩ := hI.obj j _ ho
          exact ⟨_, _, _, Took.one hI ho rfl, h, ⟨E.σ j, xs, φ', rfl, by rw [castK_rfl]; exact h1, by rw [castK_rfl]; exact h2, by rw [castK_rfl]; exact h3, h4, h5⟩⟩
        · exact h.elim
      · exact h.elim
    · exact h.elim
  · exact h.elim
theorem takeD_ok : ∀ {k : Kn} {as : List A} {us : List Value} {os : List (Nat × Obj')} {Kf : k.T → M} (hI : Inv P X os E) (ha : All2 (AV P E) as us) (h : (takeD k as Kf).run os Kc),
    ∃ os' x φ, Took P X E os os' φ ∧ (Kf x).run os' Kc ∧ DRep E.w k φ x us
  | .int k, as, us, os, Kf, hI, ha, h => by
    unfold takeD optM at h
    split at h
    · rename_i z hz
      have := ofAs_ok (k := .int k) ha hz
      exact ⟨os, z, _, Took.none hI, h, DRep.of_flat rfl this⟩
    · exact h.elim
  | .bool, as, us, os, Kf, hI, ha, h => by
    unfold takeD optM at h
    split at h
    · rename_i z hz
      have := ofAs_ok (k := .bool) ha hz
      exact ⟨os, z, _, Took.none hI, h, DRep.of_flat rfl this⟩
    · exact h.elim
  | .str, as, us, os, Kf, hI, ha, h => by
    unfold takeD optM at h
    split at h
    · rename_i z hz
      have := ofAs_ok (k := .str) ha hz
      exact ⟨os, z, _, Took.none hI, h, DRep.of_flat rfl this⟩
    · exact h.elim
  | .sl t e, as, us, os, Kf, hI, ha, h => by
    unfold takeD takeL at h
    split at h
    · rename_i j
      obtain ⟨u, rfl, _, rfl⟩ := ha.sing
      exact takeO_ok hI h
    · obtain ⟨u, rfl, rfl, _⟩ := ha.sing
      exact ⟨os, [], _, Took.none hI, h, ⟨_, [], fun _ => False, rfl, World.ownsRow_nil _ _ _ _, ⟨rfl, fun _ h => h⟩, Nat.zero_le _, fun b => ⟨fun h => h.elim, fun h => h.elim (fun h => by cases h) id⟩, fun _ _ h => h⟩⟩
    · exact h.elim
  | .pr a b, as, us, os, Kf, hI, ha, h => by
    unfold takeD at h
    obtain ⟨os1, x, φ1, h1, h2, h3⟩ := takeD_ok hI (ha.take a.cells) h
    obtain ⟨os2, y, φ2, h4, h5, h6⟩ := takeD_ok h1.inv (ha.drop a.cells) h2
    obtain ⟨h7, h8⟩ := h1.and h4
    exact ⟨os2, (x, y), _, h7, h5, ⟨_, _, φ1, φ2, (List.take_append_drop _ _).symm, h3, h6, fun _ => Iff.rfl, h8⟩⟩
/-! ### literals -/
def hasOwn : List A → Bool
  | [] => false
  | .own _ :: _ => true
  | _ :: r => hasOwn r
def ownP (ρ : Nat → Rv) : List (Nat × Operand) → Bool
  | [] => false
  | (_, x) :: r => match cellsOf (ev ρ x) with
    | some as => hasOwn as || ownP ρ r
    | none => ownP ρ r
def elemsD (k : Kn) (ρ : Nat → Rv) : Nat → List (Nat × Operand) → (List k.T → M) → M
  | _, [], K => K []
  | i, (j, x) :: r, K => match Nat.beq i j, cellsOf (ev ρ x) with
    | true, some as => takeD k as fun z => elemsD k ρ (i + 1) r fun zs => K (z :: zs)
    | _, _ => .fail
def litD (tys : List Ty) (ρ : Nat → Rv) (d t n : Nat) (parts : Array (Nat × Operand)) : M :=
  match sliceE tys t with
  | some y => match Nat.beq (ln parts.toList) n && Nat.beq y.size y.k.cells && Nat.ble (n * y.size) 16777216 with
    | true => elemsD y.k ρ 0 parts.toList fun zs => .new (oid d 0) (.drow y.t y.k zs) (.ret (.val (.one (.own (oid d 0)))))
    | false => .fail
  | none => .fail
/-- A literal of rows' elements: what the call owns is taken along; one without elements owns what it will hold. -/
def nestE (tys : List Ty) (t : Nat) (ps : List (Nat × Operand)) (ρ : Nat → Rv) : Bool :=
  match ps with
  | [] => match sliceE tys t with
    | some y => !y.k.flat
    | none => false
  | ps => ownP ρ ps
def litN (tys : List Ty) (ρ : Nat → Rv) (d t n : Nat) (parts : Array (Nat × Operand)) : M :=
  match nestE tys t parts.toList ρ with
  | true => litD tys ρ d t n parts
  | false => litM tys ρ d t n parts
theorem elemsD_ok {y : Ty} {n : Nat} {ρ : Nat → Rv} {a : Act} (hr : Regs P E n ρ a) : ∀ {parts : List (Nat × Operand)} {i : Nat} {os : List (Nat × Obj')} {Kf : List y.k.T → M} (hI : Inv P X os E)
    (h : (elemsD y.k ρ i parts Kf).run os Kc), ∃ os' zs vs φ, Took P X E os os' φ ∧ (Kf zs).run os' Kc ∧ zs.length = parts.length ∧ (vs : List Value).length = parts.length ∧
      parts.map (fun p => (p.1, a.eval p.2)) = (vs.zipIdx i).map (fun x => (x.2, x.1)) ∧ (∀ v ∈ vs, v.cells.size = y.k.cells) ∧ DR (DRep E.w y.k) φ zs (vs.flatMap fun v => v.cells.toList)
  | [], i, os, Kf, hI, h => ⟨os, [], [], _, Took.none hI, h, rfl, rfl, rfl, (fun _ h => by cases h), rfl, fun _ h => h⟩
  | (j, x) :: r, i, os, Kf, hI, h => by
    unfold elemsD at h
    split at h
    · rename_i as hj has
      have hj := Nat.eq_of_beq_eq_true hj
      subst hj
      obtain ⟨us, hu, h1, h2⟩ := cells_ok has (ev_ok hr x)
      obtain ⟨os1, z, φ1, h3, h4, h5⟩ := takeD_ok hI h1 h
      obtain ⟨os2, zs, vs, φ2, h8, h11, h12, h13, h14, h15, h16⟩ := elemsD_ok hr h3.inv h4
      obtain ⟨h17, h18⟩ := h3.and h8
      have hcl : (a.eval x).cells.toList = us := by rw [hu]
      refine ⟨os2, z :: zs, a.eval x :: vs, _, h17, h11, by simp [h12], by simp [h13], ?_, fun v hv => ?_, us, _, φ1, φ2, ?_, h5, h16, fun _ => Iff.rfl, h18⟩
      · simp [h14, List.zipIdx_cons]
      · rcases List.mem_cons.1 hv with rfl | hv
        · rw [hu, List.size_toArray]; exact h5.length
        · exact h15 v hv
      · simp [hcl]
    · exact h.elim
/-- A new row of elements that own rows. -/
theorem Inv.litD {os os' : List (Nat × Obj')} (hI : Inv P X os E) {φ : Nat → Prop} (hT : Took P X E os os' φ) {i : Nat} (hi : lk os' i = none) (hX : ¬ X.D i) (t : TypeId) (k : Kn) (l : List k.T) (cs : List Value) (hr : DR (DRep E.w k) φ l cs) (hc : cs.length = l.length * k.cells) (hl : l.length ≤ maxLen) :
    ∃ E', E'.w = E.w.alloc (.cells cs.toArray t) ∧ E.le E' ∧ Inv P X ((i, .drow t k l) :: os') E' ∧ RV P E' (.val (.one (.own i))) (.slice (some ⟨E.w.heap.size, 0, none⟩) l.length l.length) := by
  obtain ⟨h1, h2⟩ := hT.inv.world (grown_alloc E.w (.cells cs.toArray t)) (fun b h => by cases h)
  have hlt : ∀ b, φ b → b < E.w.heap.size := fun b hb => by
    obtain ⟨j, o, k1, k2, k3⟩ := hT.src b hb
    exact hI.lt j o k1 k2 b k3
  have hfree := hT.free hI
  obtain ⟨E', h3, h4, h5, h6, h7, _⟩ := h1.lay i hi hX (.slice (some ⟨E.w.heap.size, 0, none⟩) l.length l.length) (fun b => b = E.w.heap.size ∨ φ b) (fun _ => undef) (.drow t k l) (fun b hb => by
    rcases hb with rfl | hb
    · exact ⟨fun hF => by have := hI.flt _ hF; omega, .inl hI.size, fun j o hj hl h => by
        have := hT.inv.lt j o hj hl _ h; omega⟩
    · exact hfree b hb) (fun E' hle hw => by
      refine ⟨cs, φ, ⟨hc, .inr ⟨E.w.heap.size, l.length, cs.toArray, rfl, Nat.zero_le _, by rw [hw]; exact heap_alloc_new E.w _, Nat.le_refl _, hl, by simpa using hc, by simp [← hc]⟩⟩, ?_, hl, fun b => ?_, fun b hb hb2 => ?_⟩
      · exact hr.imp (fun ψ x c hψ h => DRep.move (fun b hb => by rw [hw]; exact heap_alloc_old E.w _ (hlt b (hψ b hb))) h)
      · simp only [blkOf, Option.some.injEq]
        exact ⟨fun h => h.imp (fun h => h.symm) id, fun h => h.imp (fun h => h.symm) id⟩
      · have : E.w.heap.size = b := by simpa [blkOf] using hb
        have := hlt b hb2
        omega)
  exact ⟨E', h3, h2.trans h4, h5, ⟨h6, h7.symm⟩, rfl⟩
theorem litD_ok {tys : List Ty} (ht : ∀ y ∈ tys, TyOk P y) {os : List (Nat × Obj')} (hI : Inv P X os E) {nn : Nat} {ρ : Nat → Rv} {a : Act} (hr : Regs P E nn ρ a) {d t n : Nat} {parts : Array (Nat × Operand)} (h : (V.litD tys ρ d t n parts).run os Kc) :
    ∃ v w', (Instr.buildSlice t n (parts.map fun (i, x) => (i, a.eval x))).run P E.w = .ok v w' ∧ Out P X E Kc v w' := by
  unfold V.litD at h
  split at h
  · rename_i y hy
    obtain ⟨hok, hu⟩ := sliceE_ok ht hy
    split at h
    · rename_i hs
      simp only [Bool.and_eq_true] at hs
      obtain ⟨⟨hs1, hs2⟩, hs3⟩ := hs
      have hs1 := Nat.eq_of_beq_eq_true hs1
      have hs2 := Nat.eq_of_beq_eq_true hs2
      have hs3 := Nat.le_of_ble_eq_true hs3
      rw [ln_eq] at hs1
      obtain ⟨os1, zs, vs, φ, h5, h6, h7, h8, h9, h10, h11⟩ := elemsD_ok hr hI h
      obtain ⟨i, hinfo, hsz, hby, hz⟩ := hok.info
      have hp := y.k.cells_pos
      simp only [M.run] at h6
      split at h6
      · rename_i hi
        have hlen : (vs.flatMap fun v => v.cells.toList).length = zs.length * y.k.cells := by
          rw [h7, ← h8]
          clear h6 h7 h8 h9 h11
          induction vs with
          | nil => simp
          | cons v r ih =>
            rw [List.flatMap_cons, List.length_append, ih (fun v hv => h10 v (List.mem_cons_of_mem _ hv)), List.length_cons, Nat.succ_mul, Array.length_toList, h10 v List.mem_cons_self]; omega
        have hrun : (Instr.buildSlice t n (parts.map fun (i, x) => (i, a.eval x))).run P E.w = .ok (.slice (some ⟨E.w.heap.size, 0, none⟩) n n) (E.w.alloc (.cells (vs.flatMap fun v => v.cells.toList).toArray y.t)) := by
          have e : (parts.map fun (i, x) => (i, a.eval x)).toList = (vs.zipIdx 0).map (fun x => (x.2, x.1)) := by
            rw [Array.toList_map]; exact h9
          by_cases hn : n * i.size = 0
          · have hn0 : n = 0 := by
              rw [hsz, hs2] at hn
              rcases Nat.mul_eq_zero.1 hn with h | h
              · exact h
              · omega
            subst hn0
            have hv0 : vs = [] := List.eq_nil_of_length_eq_zero (by omega)
            subst hv0
            have hp0 := List.eq_nil_of_length_eq_zero hs1
            simp [Instr.buildSlice, run_underlying hu, Go.sizeOf, typeInfo, hinfo, newRow, hp0, Instr.fill, Array.range_zero']
          · refine run_buildSlice E.w t y.t n _ _ i y.zero hu hinfo hz (by rw [hsz]; omega) hn ?_
            rw [e, hsz, hs2]
            exact Great.fill_whole hp vs _ h10 (by simp [h8, hs1])
        obtain ⟨E2, h12, h13, h14, h15⟩ := hI.litD h5 hi (hI.noX d 0) y.t y.k zs _ h11 hlen (by
          have : zs.length ≤ zs.length * y.size := Nat.le_mul_of_pos_right _ (by omega)
          rw [h7, hs1] at this
          rw [h7, hs1]
          exact Nat.le_trans (Nat.le_trans this (Nat.le_trans hs3 (by omega))) maxLen_ge)
        rw [h7, hs1] at h15
        exact ⟨_, _, hrun, E2, .val (.one (.own (oid d 0))), _, h12, h13, h14, h15, h6⟩
      · exact h6.elim
    · exact h.elim
  · exact h.elim
theorem litN_ok {tys : List Ty} (ht : ∀ y ∈ tys, TyOk P y) {os : List (Nat × Obj')} (hI : Inv P X os E) {nn : Nat} {ρ : Nat → Rv} {a : Act} (hr : Regs P E nn ρ a) {d t n : Nat} {parts : Array (Nat × Operand)} (h : (litN tys ρ d t n parts).run os Kc) :
    ∃ v w', (Instr.buildSlice t n (parts.map fun (i, x) => (i, a.eval x))).run P E.w = .ok v w' ∧ Out P X E Kc v w' := by
  unfold litN at h
  split at h
  · exact litD_ok ht hI hr h
  · exact lit_ok ht hI hr h
/-! ### appends -/
/-- Object j (a row m of elements of type e', kind k', that own rows) is appended to s. -/
def appD (tys : List Ty) (d t t2 : Nat) (s : Rv) (j e' : Nat) (k' : Kn) (m : List k'.T) : M :=
  match sliceE tys t, Nat.beq t t2 with
  | some y, true => match Nat.beq y.size y.k.cells && Nat.ble y.bytes 128 && (y.d.agg || Nat.beq (ln y.zs) 1) && Nat.beq (ln y.zs) y.size && y.zs.all plainB && Nat.beq e' y.t with
    | true => if h : k' = y.k then match s with
      | .val (.one (.own i)) => match Nat.beq j i with
        | true => .fail
        | false => .get i fun o => match o with
          | .drow e k l => match Nat.beq e y.t with
            | true => if h2 : k = y.k then .need (l.length + m.length ≤ 1099511627776) (.put i .dead (.put j .dead (.new (oid d 0) (.drow y.t y.k (castK h2 l ++ castK h m)) (.ret (.val (.one (.own (oid d 0)))))))) else .fail
            | false => .fail
          | _ => .fail
      | .val (.one (.v (.slice none 0 0))) => .need (m.length ≤ 1099511627776) (.put j .dead (.new (oid d 0) (.drow y.t y.k (castK h m)) (.ret (.val (.one (.own (oid d 0)))))))
      | _ => .fail
      else .fail
    | false => .fail
  | _, _ => .fail
def appN (tys : List Ty) (d t t2 : Nat) (s x : Rv) : M :=
  match x with
  | .val (.one (.own j)) => .get j fun o => match o with
    | .drow e' k' m => appD tys d t t2 s j e' k' m
    | _ => appM tys d t t2 s x
  | x => appM tys d t t2 s x
theorem DR.cells {w : World} {k : Kn} {φ : Nat → Prop} {l : List k.T} {cs : List Value} (h : DR (DRep w k) φ l cs) : (∀ u ∈ cs, u.oneCell' = true) ∧ cs.length = l.length * k.cells := by
  have h1 : Reps (fun _ => True) w k l cs := h.reps (fun ψ x c _ h => DRep.rep (fun _ _ => trivial) h)
  refine ⟨Reps.one (E := ⟨w, fun _ => True, fun _ => undef, fun _ => False, fun _ _ => False, fun _ _ => undef⟩) h1, h1.length⟩
theorem appD_ok {tys : List Ty} (ht : ∀ y ∈ tys, TyOk P y) {os : List (Nat × Obj')} (hI : Inv P X os E) {d t t2 ty j e' : Nat} {k' : Kn} {m : List k'.T} {s : Rv} {us : Value} (hs : RV P E s us) (hj : lk os j = some (.drow e' k' m)) (h : (appD tys d t t2 s j e' k' m).run os Kc) :
    ∃ v w', (Builtin.append_ #[t, t2] ty #[us, E.σ j]).run P E.w = .ok v w' ∧ Out P X E Kc v w' := by
  unfold appD at h
  split at h
  · rename_i y hy ht2
    obtain rfl := Nat.eq_of_beq_eq_true ht2
    obtain ⟨hok, hu⟩ := sliceE_ok ht hy
    split at h
    · rename_i hc
      simp only [Bool.and_eq_true] at hc
      obtain ⟨⟨⟨⟨⟨hc1, hc2⟩, hc3⟩, hc4⟩, hc5⟩, hc6⟩ := hc
      have hc1 := Nat.eq_of_beq_eq_true hc1
      have hc2 := Nat.le_of_ble_eq_true hc2
      have hc4 := Nat.eq_of_beq_eq_true hc4
      have hc6 := Nat.eq_of_beq_eq_true hc6
      rw [ln_eq] at hc4
      obtain ⟨i0, hinfo, hsz, hby, hz⟩ := hok.info
      have hzc := zero_cells hc3 hc5
      have hzs : y.zero.cells.size = y.k.cells := by rw [hzc, List.size_toArray, hc4, hc1]
      have app := fun (v : Value) (n : Nat) (xs : List Value) hown ad m c news hl hn h1 h40 => run_app (P := P) E.w t ty y.t i0 y.zero y.k.cells hu hinfo hz (hsz.trans hc1) hzs y.k.cells_pos (by omega) v n xs hown ad m c news hl hn h1 h40
      split at h
      · rename_i hk
        subst hk
        subst hc6
        obtain ⟨ys, ψ2, g1, g2, g3, g4, g5⟩ := hI.obj j _ hj
        obtain ⟨ad, c, hv, hnc, hcell⟩ := row_reads g1
        obtain ⟨hone, hyl⟩ := g2.cells
        have hTj := Took.one hI hj rfl
        have hn : 0 < m.length → ∃ b o, ad = some ⟨b, o, none⟩ ∧ ∀ q (h : q < ys.length), E.w.cell? ⟨b, o + q, none⟩ = some ys[q] := fun hp => by
          obtain ⟨b, hb, hcc⟩ := hcell (fun e => by rw [e] at hyl; have := Nat.mul_pos hp y.k.cells_pos; simp at hyl; omega)
          exact ⟨b, 0, hb, fun q hq => by rw [Nat.zero_add]; exact hcc q hq⟩
        have fin : ∀ {os' : List (Nat × Obj')} {φ : Nat → Prop} (hT : Took P X E os os' φ) (v : Value) (n : Nat) (l : List y.k.T) (xs : List Value) (ψ1 : Nat → Prop) (hown : E.w.ownsRow 0 y.t y.k.cells v l.length xs) (hl : DR (DRep E.w y.k) ψ1 l xs) (hφ : ∀ b, ψ1 b ∨ ψ2 b → φ b) (hv' : ∀ b, blkOf v = some b → φ b ∧ ¬ ψ1 b ∧ ¬ ψ2 b) (hd12 : ∀ b, ψ1 b → ¬ ψ2 b) (h40 : l.length + m.length ≤ 1099511627776) (hd : lk os' (oid d 0) = none) (hK : Kc (.val (.one (.own (oid d 0)))) ((oid d 0, .drow y.t y.k (l ++ m)) :: os')),
            ∃ v' w', (Builtin.append_ #[t, t] ty #[v, E.σ j]).run P E.w = .ok v' w' ∧ Out P X E Kc v' w' := by
          intro os' φ hT v n l xs ψ1 hown hl hφ hv' hd12 h40 hd hK
          obtain ⟨v', w', k1, k2, k3, k4⟩ := app v l.length xs hown ad m.length c ys hyl hn hone h40
          rw [← hv] at k1
          have hfree := hT.free hI
          obtain ⟨q1, q2⟩ := hT.inv.world k3 (fun b hb => hfree b (hv' b hb).1)
          have hlt : ∀ b, φ b → b < E.w.heap.size := fun b hb => by
            obtain ⟨i, o, p1, p2, p3⟩ := hT.src b hb
            exact hI.lt i o p1 p2 b p3
          have hsame : ∀ b, ψ1 b ∨ ψ2 b → w'.heap[b]? = E.w.heap[b]? := fun b hb => k3.block b (hlt b (hφ b hb)) (fun e => by
            have := (hv' b e.symm).2
            exact hb.elim this.1 this.2)
          obtain ⟨E', h3, h4, h5, h6, h7, _⟩ := q1.lay (oid d 0) hd (q1.noX d 0) v' (fun b => blkOf v' = some b ∨ (ψ1 b ∨ ψ2 b)) (fun _ => undef) (.drow y.t y.k (l ++ m)) (fun b hb => by
            rcases hb with hb | hb
            · rcases k4 b hb with hb | hb
              · exact hfree b (hv' b hb).1
              · exact ⟨fun hF => by have := hI.flt b hF; omega, .inl (Nat.le_trans hI.size hb), fun i o hi hl h => by
                  have := hT.inv.lt i o hi hl b h; omega⟩
            · exact hfree b (hφ b hb)) (fun E' hle hw => by
              refine ⟨xs ++ ys, fun b => ψ1 b ∨ ψ2 b, by rw [hw, List.length_append]; exact k2, ?_, by rw [List.length_append]; exact Nat.le_trans h40 maxLen_ge, fun b => Iff.rfl, fun b hb hb2 => ?_⟩
              · exact (hl.append g2 hd12).imp (fun ψ x c hψ h => DRep.move (fun b hb => by rw [hw]; exact hsame b (hψ b hb)) h)
              · rcases k4 b hb with hb | hb
                · exact hb2.elim (hv' b hb).2.1 (hv' b hb).2.2
                · have := hlt b (hφ b hb2); omega)
          obtain ⟨ad', c', hv2, _⟩ := row_reads k2
          exact ⟨v', w', k1, E', .val (.one (.own (oid d 0))), _, h3, q2.trans h4, h5, ⟨⟨h6, h7.symm⟩, by rw [hv2]; rfl⟩, hK⟩
        split at h
        · rename_i i
          obtain ⟨⟨hD, rfl⟩, _⟩ := hs
          split at h
          · exact h.elim
          · rename_i hji
            have hne : j ≠ i := fun e => by rw [e] at hji; simp at hji
            simp only [M.run] at h
            split at h
            · rename_i o ho
              split at h
              · rename_i e k l
                split at h
                · rename_i he
                  have he := Nat.eq_of_beq_eq_true he
                  subst he
                  split at h
                  · rename_i hk
                    subst hk
                    simp only [M.run, ho, lk_ne _ _ (Ne.symm hne), hj] at h
                    obtain ⟨h40, h⟩ := h
                    split at h
                    · rename_i hd
                      obtain ⟨xs, ψ1, f1, f2, f3, f4, f5⟩ := hI.obj i _ ho
                      have hTi := Took.one hI ho rfl
                      have hj' : lk ((i, Obj'.dead) :: os) j = some (.drow y.t y.k m) := by rw [lk_ne _ _ (Ne.symm hne)]; exact hj
                      have hTj' := Took.one hTi.inv hj' rfl
                      obtain ⟨hT, hdis⟩ := hTi.and hTj'
                      rw [castK_rfl, castK_rfl] at h
                      refine fin hT (E.σ i) 0 l xs ψ1 f1 f2 (fun b hb => hb.imp (fun h => (f4 b).2 (.inr h)) (fun h => (g4 b).2 (.inr h))) (fun b hb => ⟨.inl ((f4 b).2 (.inl hb)), f5 b hb, fun h2 => hdis b ((f4 b).2 (.inl hb)) ((g4 b).2 (.inr h2))⟩) (fun b hb h2 => hdis b ((f4 b).2 (.inr hb)) ((g4 b).2 (.inr h2))) h40 hd h
                    · exact h.elim
                  · exact h.elim
                · exact h.elim
              · exact h.elim
            · exact h.elim
        · obtain ⟨⟨rfl, _⟩, _⟩ := hs
          simp only [M.run, hj] at h
          obtain ⟨h40, h⟩ := h
          split at h
          · rename_i hd
            rw [castK_rfl] at h
            refine fin hTj (.slice none 0 0) 0 [] [] (fun _ => False) (World.ownsRow_nil _ _ _ _) ⟨rfl, fun _ h => h⟩ (fun b hb => (g4 b).2 (.inr (hb.resolve_left id))) (fun b hb => by cases hb) (fun _ h => h.elim) (by simpa using h40) hd (by rw [List.nil_append]; exact h)
          · exact h.elim
        · exact h.elim
      · exact h.elim
    · exact h.elim
  · exact h.elim
theorem appN_ok {tys : List Ty} (ht : ∀ y ∈ tys, TyOk P y) {os : List (Nat × Obj')} (hI : Inv P X os E) {d t t2 ty : Nat} {s x : Rv} {us ux : Value} (hs : RV P E s us) (hx : RV P E x ux) (h : (appN tys d t t2 s x).run os Kc) :
    ∃ v w', (Builtin.append_ #[t, t2] ty #[us, ux]).run P E.w = .ok v w' ∧ Out P X E Kc v w' := by
  unfold appN at h
  split at h
  · rename_i j
    have hx' := hx
    obtain ⟨⟨hD, rfl⟩, _⟩ := hx
    simp only [M.run] at h
    split at h
    · rename_i o ho
      split at h
      · exact appD_ok ht hI hs ho h
      · exact app_ok ht hI hs hx' h
    · exact h.elim
  · exact app_ok ht hI hs hx h
/-! ### rows made, elements stored -/
theorem DRep.nils {w : World} : ∀ {k : Kn} {zs : List Value} {z : k.T}, zs.all plainB = true → k.ofAs (zs.map .v) = some z → DRep w k (fun _ => False) z zs
  | .int k, zs, z, hp, h => DRep.of_flat (F := fun _ => False) rfl (ofAs_ok (P := default) (E := ⟨w, fun _ => False, fun _ => undef, fun _ => False, fun _ _ => False, fun _ _ => undef⟩) (All2.all_v hp).1 h)
  | .bool, zs, z, hp, h => DRep.of_flat (F := fun _ => False) rfl (ofAs_ok (P := default) (E := ⟨w, fun _ => False, fun _ => undef, fun _ => False, fun _ _ => False, fun _ _ => undef⟩) (All2.all_v hp).1 h)
  | .str, zs, z, hp, h => DRep.of_flat (F := fun _ => False) rfl (ofAs_ok (P := default) (E := ⟨w, fun _ => False, fun _ => undef, fun _ => False, fun _ _ => False, fun _ _ => undef⟩) (All2.all_v hp).1 h)
  | .sl t e, zs, z, hp, h => by
    have h : asL e (zs.map .v) = some z := h
    unfold asL at h
    split at h
    · rename_i e' l heq
      cases zs with
      | nil => cases heq
      | cons a r => simp at heq
    · rename_i heq
      injection h with h
      subst h
      rcases zs with _ | ⟨a, _ | ⟨b, r⟩⟩
      · cases heq
      · have : a = .slice none 0 0 := by simpa using heq
        subst this
        exact ⟨_, [], fun _ => False, rfl, World.ownsRow_nil _ _ _ _, ⟨rfl, fun _ h => h⟩, Nat.zero_le _, fun b => ⟨fun h => h.elim, fun h => h.elim (fun h => by cases h) id⟩, fun _ _ h => h⟩
      · simp at heq
    · cases h
  | .pr a b, zs, z, hp, h => by
    have h : (match a.ofAs ((zs.map A.v).take a.cells), b.ofAs ((zs.map A.v).drop a.cells) with | some x, some y => some (x, y) | _, _ => none) = some z := h
    rw [← List.map_take, ← List.map_drop] at h
    split at h
    · rename_i x y hx hy
      injection h with h
      subst h
      have hp1 : (zs.take a.cells).all plainB = true := by
        rw [List.all_eq_true] at hp ⊢; exact fun v hv => hp v (List.mem_of_mem_take hv)
      have hp2 : (zs.drop a.cells).all plainB = true := by
        rw [List.all_eq_true] at hp ⊢; exact fun v hv => hp v (List.mem_of_mem_drop hv)
      exact ⟨_, _, _, _, (List.take_append_drop a.cells zs).symm, DRep.nils hp1 hx, DRep.nils hp2 hy, fun _ => ⟨fun h => h.elim, fun h => h.elim id id⟩, fun _ h => h.elim⟩
    · cases h
theorem DR.set {α : Type} {R : (Nat → Prop) → α → List Value → Prop} {sz : Nat} (hR : ∀ ψ x c, R ψ x c → c.length = sz) : ∀ {φ : Nat → Prop} {l : List α} {cs : List Value}, DR R φ l cs → ∀ n, n < l.length → ∃ φr : Nat → Prop, (∀ b, φr b → φ b) ∧
    ∀ ψ y c', R ψ y c' → (∀ b, ψ b → ¬ φr b) → DR R (fun b => ψ b ∨ φr b) (l.set n y) (cs.take (n * sz) ++ c' ++ cs.drop (n * sz + sz))
  | φ, [], cs, _, n, hn => by simp at hn
  | φ, x :: l, cs, ⟨c1, c2, φ1, φ2, h1, h2, h3, h4, h5⟩, 0, _ => by
    have hl := hR _ _ _ h2
    refine ⟨φ2, fun b hb => (h4 b).2 (.inr hb), fun ψ y c' hy hd => ⟨c', c2, ψ, φ2, ?_, hy, h3, fun _ => Iff.rfl, hd⟩⟩
    rw [h1, Nat.zero_mul, Nat.zero_add, List.take_zero, List.nil_append, ← hl, List.drop_left]
  | φ, x :: l, cs, ⟨c1, c2, φ1, φ2, h1, h2, h3, h4, h5⟩, n + 1, hn => by
    have hl := hR _ _ _ h2
    obtain ⟨φr, k1, k2⟩ := DR.set hR h3 n (by simpa using hn)
    refine ⟨fun b => φ1 b ∨ φr b, fun b hb => (h4 b).2 (hb.imp id (k1 b)), fun ψ y c' hy hd => ⟨c1, _, φ1, fun b => ψ b ∨ φr b, ?_, h2, k2 ψ y c' hy (fun b hb h => hd b hb (.inr h)), fun b => ?_, fun b hb h => h.elim (fun h => hd b h (.inl hb)) (fun h => h5 b hb (k1 b h))⟩⟩
    · have e : (n + 1) * sz = c1.length + n * sz := by rw [hl, Nat.succ_mul]; omega
      rw [h1, e, Nat.add_assoc, List.take_length_add_append, List.drop_length_add_append]
      simp
    · exact ⟨fun h => h.elim (fun h => .inr (.inl h)) (fun h => h.elim .inl (fun h => .inr (.inr h))), fun h => h.elim (fun h => .inr (.inl h)) (fun h => h.elim .inl (fun h => .inr (.inr h)))⟩
theorem DR.of_get {w : World} {k : Kn} : ∀ {l : List k.T} {cs : List Value}, cs.length = l.length * k.cells → (∀ j (h : j < l.length), DRep w k (fun _ => False) l[j] ((cs.drop (j * k.cells)).take k.cells)) → DR (DRep w k) (fun _ => False) l cs
  | [], cs, h, _ => ⟨List.eq_nil_of_length_eq_zero (by simpa using h), fun _ h => h⟩
  | x :: l, cs, h, h1 => by
    refine ⟨cs.take k.cells, cs.drop k.cells, fun _ => False, fun _ => False, (List.take_append_drop _ _).symm, by have h := h1 0 (by simp); simp only [Nat.zero_mul, List.drop_zero] at h; exact h, DR.of_get ?_ (fun j hj => ?_), fun _ => ⟨fun h => h.elim, fun h => h.elim id id⟩, fun _ h => h.elim⟩
    · simp only [List.length_drop, h, List.length_cons, Nat.add_mul]; omega
    · have := h1 (j + 1) (by simpa using hj)
      simp only [List.getElem_cons_succ] at this
      rwa [List.drop_drop, Nat.add_comm k.cells, ← Nat.succ_mul]
theorem DR.made {w : World} {k : Kn} {x : k.T} {z : Array Value} (hz : z.size = k.cells) (h : DRep w k (fun _ => False) x z.toList) (n : Nat) : DR (DRep w k) (fun _ => False) (List.replicate n x) (madeCells z (n * k.cells)).toList := by
  refine DR.of_get (by simp [size_madeCells]) (fun j hj => ?_)
  have hp := k.cells_pos
  simp only [List.length_replicate] at hj
  have : (((madeCells z (n * k.cells)).toList.drop (j * k.cells)).take k.cells) = z.toList := by
    apply List.ext_getElem
    · have : j * k.cells + k.cells ≤ n * k.cells := by rw [← Nat.succ_mul]; exact Nat.mul_le_mul_right _ hj
      simp [size_madeCells]; omega
    · intro i h1 h2
      simp only [Array.length_toList] at h2
      simp [madeCells, hz, Nat.mul_comm j, Nat.mul_add_mod, Nat.mod_eq_of_lt (show i < k.cells by omega), getElem!_pos z i h2]
  rw [this]
  simpa using h
def makeD (tys : List Ty) (d t : Nat) (l c : Rv) : M :=
  match sliceE tys t, l, c with
  | some y, .val (.one (.v (.int _ x))), .val (.one (.v (.int _ z))) => match y.zs.all plainB, Nat.beq (ln y.zs) y.k.cells && (y.d.agg || Nat.beq (ln y.zs) 1) && Nat.beq y.size y.k.cells && Nat.ble y.bytes 256, y.k.ofAs (y.zs.map .v) with
    | true, true, some z0 => .need (0 ≤ x ∧ x ≤ 1099511627776 ∧ z = x) (.new (oid d 0) (.drow y.t y.k (List.replicate x.toNat z0)) (.ret (.val (.one (.own (oid d 0))))))
    | _, _, _ => .fail
  | _, _, _ => .fail
def flatE (tys : List Ty) (t : Nat) : Bool :=
  match sliceE tys t with
  | some y => y.k.flat
  | none => true
def makeN (tys : List Ty) (d t : Nat) (l c : Rv) : M :=
  match flatE tys t with
  | true => makeM tys d t l c
  | false => makeD tys d t l c
theorem makeD_ok {tys : List Ty} (ht : ∀ y ∈ tys, TyOk P y) {os : List (Nat × Obj')} (hI : Inv P X os E) {d t : Nat} {l c : Rv} {ul uc : Value} (hl : RV P E l ul) (hc : RV P E c uc) (h : (makeD tys d t l c).run os Kc) :
    ∃ v w', (Instr.makeSlice t ul uc).run P E.w = .ok v w' ∧ Out P X E Kc v w' := by
  unfold makeD at h
  split at h
  · rename_i y kl x kc z hy
    obtain ⟨hok, hu⟩ := sliceE_ok ht hy
    obtain ⟨⟨rfl, _⟩, _⟩ := hl
    obtain ⟨⟨rfl, _⟩, _⟩ := hc
    split at h
    · rename_i z0 hp hs hz0
      simp only [Bool.and_eq_true] at hs
      obtain ⟨⟨⟨hs1, hs2⟩, hs3⟩, hs4⟩ := hs
      have hs1 := Nat.eq_of_beq_eq_true hs1
      have hs3 := Nat.eq_of_beq_eq_true hs3
      have hs4 := Nat.le_of_ble_eq_true hs4
      rw [ln_eq] at hs1
      simp only [M.run] at h
      obtain ⟨⟨h0, h40, hzx⟩, h⟩ := h
      obtain rfl : x = z := hzx.symm
      split at h
      · rename_i hi
        obtain ⟨i, hinfo, hsz, hby, hz⟩ := hok.info
        have hzc := zero_cells hs2 hp
        have hbt : (i.bytes : Int) * x ≤ 281474976710656 := by
          rw [hby]
          have : (y.bytes : Int) ≤ 256 := by omega
          calc (y.bytes : Int) * x ≤ 256 * x := Int.mul_le_mul_of_nonneg_right this h0
            _ ≤ _ := by omega
        have hr := run_make (P := P) E.w t y.t i y.zero hu hinfo hz kl kc x x h0 (Int.le_refl _) hbt (by omega)
        have hre := DR.made (z := y.zs.toArray) (w := E.w) (by rw [List.size_toArray]; exact hs1) (by exact DRep.nils hp hz0) x.toNat
        obtain ⟨E', h3, h4, h5, h6⟩ := hI.litD (Took.none hI) hi (hI.noX d 0) y.t y.k (List.replicate x.toNat z0) _ hre hre.cells.2 (by rw [List.length_replicate]; exact Nat.le_trans (by omega) maxLen_ge)
        simp only [List.length_replicate] at h6
        rw [hzc, hsz, hs3] at hr
        exact ⟨_, _, hr, E', .val (.one (.own (oid d 0))), _, by rw [h3], h4, h5, h6, h⟩
      · exact h.elim
    · exact h.elim
  · exact h.elim
theorem makeN_ok {tys : List Ty} (ht : ∀ y ∈ tys, TyOk P y) {os : List (Nat × Obj')} (hI : Inv P X os E) {d t : Nat} {l c : Rv} {ul uc : Value} (hl : RV P E l ul) (hc : RV P E c uc) (h : (makeN tys d t l c).run os Kc) :
    ∃ v w', (Instr.makeSlice t ul uc).run P E.w = .ok v w' ∧ Out P X E Kc v w' := by
  unfold makeN at h
  split at h
  · exact make_ok ht hI hl hc h
  · exact makeD_ok ht hI hl hc h
/-- A whole element that takes rows along is stored in object i. -/
def storeD (tys : List Ty) (t : Nat) (k : Kn) (i n : Nat) (z : Rv) : M :=
  match ty? tys t, cellsOf z with
  | some y, some zs => match Nat.beq (ln zs) y.size with
    | true => .get i fun o => match o with
      | .drow t' k' l => match Nat.beq k.cells k'.cells with
        | true => takeD k' zs fun x => .get i fun o2 => match o2 with
          | .drow _ _ _ => .put i (.drow t' k' (l.set n x)) (.ret (.val (.one .undef)))
          | _ => .fail
        | false => .fail
      | _ => .fail
    | false => .fail
  | _, _ => .fail
def storeN (tys : List Ty) (t : Nat) (x z : Rv) : M :=
  match x with
  | .val (.one (.elt k i n 0)) => match k.flat with
    | true => storeM tys t x z
    | false => .get i fun o => match o with
      | .drow _ _ _ => storeD tys t k i n z
      | _ => storeM tys t x z
  | x => storeM tys t x z
theorem storeD_ok {tys : List Ty} (ht : ∀ y ∈ tys, TyOk P y) {os : List (Nat × Obj')} (hI : Inv P X os E) {t : Nat} {k : Kn} {i n : Nat} {z : Rv} {ux uz : Value} (hx : AV P E (.elt k i n 0) ux) (hz : RV P E z uz) (h : (storeD tys t k i n z).run os Kc) :
    ∃ w', (Instr.storeAt t ux uz).run P E.w = .ok () w' ∧ Out P X E Kc undef w' := by
  unfold storeD at h
  split at h
  · rename_i y zs hy hzs
    obtain ⟨hok, rfl⟩ := ty?_ok ht hy
    obtain ⟨us, hu, ha, h1⟩ := cells_ok hzs hz
    split at h
    · rename_i hl
      have hl := Nat.eq_of_beq_eq_true hl
      rw [ln_eq, ha.length] at hl
      obtain ⟨hD, b, len, c, hs, hn, rfl⟩ := hx
      simp only [M.run] at h
      split at h
      · rename_i o ho
        split at h
        · rename_i t' k' l
          split at h
          · rename_i hk
            have hk := Nat.eq_of_beq_eq_true hk
            obtain ⟨os1, x, φt, hT, h, hrep⟩ := takeD_ok hI ha h
            simp only [M.run] at h
            split at h
            · rename_i o2 ho2
              split at h
              · rename_i t2 k2 l2
                have hkept := hT.kept i _ ho2 rfl
                have hul : us.length = k'.cells := hrep.length
                simp only [M.run, ho2] at h
                obtain ⟨xs, φ', ⟨h2, h3⟩, h4, h5, h6, h7⟩ := hI.obj i _ ho
                rw [hs] at h3
                rcases h3 with ⟨h3, _⟩ | ⟨g, cap, cur, h3, _, g6, g7, g8, g9, g10⟩
                · cases h3
                · injection h3 with h3 h3' h3''
                  obtain rfl : b = g := by simpa using h3
                  subst h3'
                  subst h3''
                  have hxl := h4.cells.2
                  have hmul : n * k'.cells + k'.cells ≤ l.length * k'.cells := by rw [← Nat.succ_mul]; exact Nat.mul_le_mul_right _ hn
                  have hmul2 : l.length * k'.cells ≤ c * k'.cells := Nat.mul_le_mul_right _ g7
                  have hr := run_storeAt (v := uz) (off := n * k'.cells + 0) hok hu hl g6 (by omega) h1
                  rw [hk]
                  refine ⟨_, hr, ?_⟩
                  obtain ⟨φr, r1, r2⟩ := DR.set (sz := k'.cells) (fun ψ x c h => DRep.length h) h4 n hn
                  have hbφ : E.φ i b := (h6 b).2 (.inl (by rw [hs]; rfl))
                  have hif : ∀ b', E.φ i b' → ¬ φt b' := hkept.2
                  have hoth : ∀ j o', lk ((i, Obj'.dead) :: os1) j = some o' → o'.live = true → j ≠ i ∧ lk os j = some o' ∧ ∀ b', E.φ j b' → ¬ φt b' := fun j o' hj hlv => by
                    by_cases e : i = j
                    · subst e; rw [lk_same] at hj; injection hj with hj; subst hj; cases hlv
                    · rw [lk_ne _ _ e] at hj
                      exact ⟨Ne.symm e, hT.kept j o' hj hlv⟩
                  have I1 := hT.inv.kill i hD
                  obtain ⟨I2, le2⟩ := I1.world (grown_row E.w b (cur.toList.take (n * k'.cells + 0) ++ us ++ cur.toList.drop (n * k'.cells + 0 + us.length)).toArray) (fun b' hb' => by
                    injection hb' with hb'
                    subst hb'
                    obtain ⟨n1, n2⟩ := hI.nof i _ ho rfl b hbφ
                    exact ⟨n1, n2, fun j o' hj hlv hb2 => by
                      obtain ⟨m1, m2, _⟩ := hoth j o' hj hlv
                      exact hI.dis j i o' _ m1 m2 ho hlv rfl b hb2 hbφ⟩)
                  have hlt : ∀ b', φt b' → b' < E.w.heap.size := fun b' hb' => by
                    obtain ⟨j, o', p1, p2, p3⟩ := hT.src b' hb'
                    exact hI.lt j o' p1 p2 b' p3
                  have hne : ∀ b', φt b' ∨ φr b' → b' ≠ b := fun b' hb' e => by
                    subst e
                    exact hb'.elim (hif b' hbφ) (fun h => h7 b' (by rw [hs]; rfl) (r1 b' h))
                  have hfree := hT.free hI
                  obtain ⟨I3, le3⟩ := I2.set i (E.σ i) (fun b' => blkOf (E.σ i) = some b' ∨ (φt b' ∨ φr b')) (E.ι i) (.drow t' k' (l.set n x)) (fun _ => ⟨rfl, rfl⟩) (fun _ h => absurd hD h) (by
                    refine ⟨xs.take (n * k'.cells) ++ us ++ xs.drop (n * k'.cells + k'.cells), fun b' => φt b' ∨ φr b', ?_, ?_, by simpa using h5, fun _ => Iff.rfl, fun b' hb' hb2 => ?_⟩
                    · rw [hs]
                      refine ⟨by simp; omega, .inr ⟨b, c, _, by simp, Nat.zero_le _, setRow_heap E.w b _ _ t' _ g6, by simpa using g7, g8, ?_, ?_⟩⟩
                      · simp; omega
                      · rw [← g10]
                        simp only [List.length_set, Nat.add_zero, hul]
                        have := take_mid cur.toList us (n * k'.cells) (l.length * k'.cells) (by omega) (by simp; omega)
                        rw [hul] at this
                        simpa using this
                    · refine (r2 φt x us hrep (fun b' hb' hb2 => hif b' ((h6 b').2 (.inr (r1 b' hb2))) hb')).imp (fun ψ x c hψ h => DRep.move (fun b' hb' => ?_) h)
                      exact setRow_other E.w b b' _ (fun e => hne b' (hψ b' hb') e)
                    · rw [hs] at hb'
                      have : b = b' := by simpa [blkOf] using hb'
                      exact hne b' hb2 this.symm) (fun _ b' hb' => by
                    rcases hb' with hb' | hb' | hb'
                    · rw [hs] at hb'
                      have : b = b' := by simpa [blkOf] using hb'
                      subst this
                      obtain ⟨n1, n2⟩ := hI.nof i _ ho rfl b hbφ
                      exact ⟨n1, n2, fun j o' hne' hj hlv hb2 => by
                        obtain ⟨m1, m2, _⟩ := hoth j o' hj hlv
                        exact hI.dis j i o' _ m1 m2 ho hlv rfl b hb2 hbφ⟩
                    · obtain ⟨n1, n2, n3⟩ := hfree b' hb'
                      exact ⟨n1, n2, fun j o' hne' hj hlv hb2 => (hoth j o' hj hlv).2.2 b' hb2 hb'⟩
                    · have hφb : E.φ i b' := (h6 b').2 (.inr (r1 b' hb'))
                      obtain ⟨n1, n2⟩ := hI.nof i _ ho rfl b' hφb
                      exact ⟨n1, n2, fun j o' hne' hj hlv hb2 => by
                        obtain ⟨m1, m2, _⟩ := hoth j o' hj hlv
                        exact hI.dis j i o' _ m1 m2 ho hlv rfl b' hb2 hφb⟩)
                  refine ⟨_, .val (.one .undef), _, rfl, le2.trans le3, I3.congr (fun j => ?_), trivial, h⟩
                  by_cases e : i = j
                  · subst e; rw [lk_same, lk_same]
                  · rw [lk_ne _ _ e, lk_ne _ _ e, lk_ne _ _ e]
              · exact h.elim
            · exact h.elim
          · exact h.elim
        · exact h.elim
      · exact h.elim
    · exact h.elim
  · exact h.elim
theorem storeN_ok {tys : List Ty} (ht : ∀ y ∈ tys, TyOk P y) {os : List (Nat × Obj')} (hI : Inv P X os E) {t : Nat} {x z : Rv} {ux uz : Value} (hx : RV P E x ux) (hz : RV P E z uz) (h : (storeN tys t x z).run os Kc) :
    ∃ w', (Instr.storeAt t ux uz).run P E.w = .ok () w' ∧ Out P X E Kc undef w' := by
  unfold storeN at h
  split at h
  · split at h
    · exact store_ok ht hI hx hz h
    · simp only [M.run] at h
      split at h
      · split at h
        · exact storeD_ok ht hI hx.1 hz h
        · exact store_ok ht hI hx hz h
      · exact h.elim
  · exact store_ok ht hI hx hz h
end
end Go.Proofs.YthfmlelodmcgkaaGreat.V
