/- Maps whose keys are texts, as objects of a state: made, looked up, written, gone through. Conditions: in each. -/
import Derived.Test.YthfmlelodmcgkaaGreatVHole
set_option linter.unusedVariables false
set_option linter.unusedSimpArgs false
set_option linter.unusedSectionVars false
namespace Go.Proofs.YthfmlelodmcgkaaGreat.V
open Go
theorem keyL_inj {s t : ByteArray} (h : keyL s = keyL t) : s = t := by
  unfold keyL at h
  injection h with h
  cases s with
  | mk a => cases t with
    | mk b => cases a; cases b; simp at h; rw [h]
theorem keyL_same {s t : ByteArray} : (keyL s).sameKey (keyL t) = true ↔ s = t := by
  rw [WideAt.sameKey_iff (show WideAt.IsKeyLit (keyL t) from trivial)]
  exact ⟨keyL_inj, fun e => by rw [e]⟩
section
variable {α : Type}
def findK : List (ByteArray × α) → ByteArray → Option α
  | [], _ => none
  | p :: r, s => if p.1 = s then some p.2 else findK r s
def putK : List (ByteArray × α) → ByteArray → α → List (ByteArray × α)
  | [], s, x => [(s, x)]
  | p :: r, s, x => if p.1 = s then (s, x) :: r else p :: putK r s x
theorem putK_keys : ∀ (l : List (ByteArray × α)) (s : ByteArray) (x : α), (putK l s x).map (·.1) = if (findK l s).isSome then l.map (·.1) else l.map (·.1) ++ [s]
  | [], s, x => rfl
  | p :: r, s, x => by
    unfold putK findK
    by_cases h : p.1 = s
    · rw [if_pos h, if_pos h]
      simp [h]
    · rw [if_neg h, if_neg h]
      have := putK_keys r s x
      simp only [List.map_cons, this]
      split <;> simp
theorem findK_none {l : List (ByteArray × α)} {s : ByteArray} : findK l s = none ↔ s ∉ l.map (·.1) := by
  induction l with
  | nil => simp [findK]
  | cons p r ih =>
    unfold findK
    by_cases h : p.1 = s
    · simp [h]
    · rw [if_neg h, ih]
      simp [Ne.symm h]
theorem putK_nodup {l : List (ByteArray × α)} {s : ByteArray} {x : α} (h : (l.map (·.1)).Nodup) : ((putK l s x).map (·.1)).Nodup := by
  rw [putK_keys]
  split
  · exact h
  · rename_i hs
    have : findK l s = none := by simpa using hs
    rw [findK_none] at this
    exact List.nodup_append.2 ⟨h, by simp, fun a ha b hb e => by
      rw [List.mem_singleton] at hb
      subst hb
      exact this (e ▸ ha)⟩
theorem putK_length (l : List (ByteArray × α)) (s : ByteArray) (x : α) : (putK l s x).length = if (findK l s).isSome then l.length else l.length + 1 := by
  have := congrArg List.length (putK_keys l s x)
  rw [List.length_map] at this
  rw [this]
  split <;> simp
end
theorem mOf_put (ps : List (ByteArray × Value)) (s : ByteArray) (v : Value) (kl : Lit) : mOf (putK ps s v) kl = if kl.sameKey (keyL s) = true then some v else mOf ps kl := by
  induction ps with
  | nil =>
    simp only [putK, mOf]
    cases kl.sameKey (keyL s) <;> rfl
  | cons p r ih =>
    unfold putK
    by_cases h : p.1 = s
    · rw [if_pos h]
      simp only [mOf, h]
      cases kl.sameKey (keyL s) <;> rfl
    · rw [if_neg h]
      simp only [mOf, ih]
      cases h1 : kl.sameKey (keyL p.1) with
      | false => rfl
      | true =>
        have h2 : ¬ kl.sameKey (keyL s) = true := fun h2 => h (keyL_inj ((WideAt.sameKey_eq h1).symm.trans (WideAt.sameKey_eq h2)))
        simp only [if_neg h2]
theorem mOf_at {ps : List (ByteArray × Value)} {kl : Lit} {v : Value} (h : mOf ps kl = some v) : ∃ (j : Nat) (s : ByteArray), ps[j]? = some (s, v) ∧ kl = keyL s := by
  induction ps with
  | nil => cases h
  | cons p r ih =>
    simp only [mOf] at h
    split at h
    · rename_i hs
      injection h with h
      exact ⟨0, p.1, by rw [← h]; rfl, WideAt.sameKey_eq hs⟩
    · obtain ⟨j, s, h1, h2⟩ := ih h
      exact ⟨j + 1, s, by simpa using h1, h2⟩
theorem mOf_none {ps : List (ByteArray × Value)} {s : ByteArray} (h : s ∉ ps.map (·.1)) : mOf ps (keyL s) = none := by
  induction ps with
  | nil => rfl
  | cons p r ih =>
    simp only [List.map_cons, List.mem_cons, not_or] at h
    simp only [mOf]
    have : (keyL s).sameKey (keyL p.1) = false := by
      rw [← Bool.not_eq_true, keyL_same]
      exact h.1
    rw [this]
    exact ih h.2
theorem mOf_erase {ps : List (ByteArray × Value)} {j : Nat} {s : ByteArray} {v : Value} (hn : (ps.map (·.1)).Nodup) (hj : ps[j]? = some (s, v)) (kl : Lit) : mOf (ps.eraseIdx j) kl = if kl.sameKey (keyL s) = true then none else mOf ps kl := by
  induction ps generalizing j with
  | nil => cases hj
  | cons p r ih =>
    simp only [List.map_cons, List.nodup_cons] at hn
    rcases j with _ | j
    · simp only [List.getElem?_cons_zero, Option.some.injEq] at hj
      subst hj
      simp only [List.eraseIdx_cons_zero, mOf]
      cases h1 : kl.sameKey (keyL s) with
      | false => rfl
      | true =>
        rw [if_pos rfl, WideAt.sameKey_eq h1]
        exact mOf_none hn.1
    · simp only [List.getElem?_cons_succ] at hj
      simp only [List.eraseIdx_cons_succ, mOf, ih hn.2 hj]
      cases h1 : kl.sameKey (keyL p.1) with
      | false => rfl
      | true =>
        have h2 : ¬ kl.sameKey (keyL s) = true := fun h2 => by
          have e := keyL_inj ((WideAt.sameKey_eq h1).symm.trans (WideAt.sameKey_eq h2))
          exact hn.1 (e ▸ List.mem_map.2 ⟨_, List.mem_of_getElem? hj, rfl⟩)
        simp only [if_neg h2]
section
variable {F : Nat → Prop} {w : World} {e : Kn}
theorem Ents.keys : ∀ {l : List (ByteArray × e.T)} {ps : List (ByteArray × Value)}, Ents F w e l ps → ps.map (·.1) = l.map (·.1)
  | [], [], _ => rfl
  | _ :: _, _ :: _, ⟨h1, h2⟩ => by rw [List.map_cons, List.map_cons, h1.1, Ents.keys h2]
theorem Ents.find (s : ByteArray) : ∀ {l : List (ByteArray × e.T)} {ps : List (ByteArray × Value)}, Ents F w e l ps → (findK l s = none ∧ mOf ps (keyL s) = none) ∨ ∃ x v, findK l s = some x ∧ mOf ps (keyL s) = some v ∧ RepV F w e x v
  | [], [], _ => .inl ⟨rfl, rfl⟩
  | p :: l, q :: ps, ⟨h1, h2⟩ => by
    simp only [findK, mOf]
    by_cases h : p.1 = s
    · rw [if_pos h]
      have : (keyL s).sameKey (keyL q.1) = true := keyL_same.2 (by rw [← h1.1, h])
      rw [this]
      exact .inr ⟨_, _, rfl, rfl, h1.2⟩
    · rw [if_neg h]
      have : (keyL s).sameKey (keyL q.1) = false := by
        rw [← Bool.not_eq_true, keyL_same, ← h1.1]
        exact Ne.symm h
      rw [this]
      exact Ents.find s h2
theorem Ents.put {s : ByteArray} {x : e.T} {v : Value} (hx : RepV F w e x v) : ∀ {l : List (ByteArray × e.T)} {ps : List (ByteArray × Value)}, Ents F w e l ps → Ents F w e (putK l s x) (putK ps s v)
  | [], [], _ => ⟨⟨rfl, hx⟩, trivial⟩
  | p :: l, q :: ps, ⟨h1, h2⟩ => by
    unfold putK
    by_cases h : p.1 = s
    · rw [if_pos h, if_pos (h1.1 ▸ h)]
      exact ⟨⟨rfl, hx⟩, h2⟩
    · rw [if_neg h, if_neg (h1.1 ▸ h)]
      exact ⟨h1, Ents.put hx h2⟩
theorem Ents.erase : ∀ {l : List (ByteArray × e.T)} {ps : List (ByteArray × Value)} (j : Nat), Ents F w e l ps → Ents F w e (l.eraseIdx j) (ps.eraseIdx j)
  | [], [], j, _ => by cases j <;> trivial
  | _ :: _, _ :: _, 0, ⟨_, h2⟩ => h2
  | _ :: _, _ :: _, j + 1, ⟨h1, h2⟩ => ⟨h1, Ents.erase j h2⟩
theorem Ents.at : ∀ {l : List (ByteArray × e.T)} {ps : List (ByteArray × Value)} {j : Nat} {s : ByteArray} {v : Value}, Ents F w e l ps → ps[j]? = some (s, v) → ∃ x, l[j]? = some (s, x) ∧ RepV F w e x v
  | [], [], _, _, _, _, hj => by simp at hj
  | p :: _, q :: _, 0, s, v, ⟨h1, _⟩, hj => by
    simp only [List.getElem?_cons_zero, Option.some.injEq] at hj
    subst hj
    exact ⟨p.2, by rw [List.getElem?_cons_zero, show s = p.1 from h1.1.symm], h1.2⟩
  | _ :: _, _ :: _, j + 1, s, v, ⟨_, h2⟩, hj => by
    simp only [List.getElem?_cons_succ] at hj ⊢
    exact Ents.at h2 hj
end
/-- A map's types: that of its elements. -/
def mapE (tys : List Ty) (t : Nat) : Option Ty :=
  match ty? tys t with
  | some y => match y.d with
    | .map k e => match ty? tys k, ty? tys e with
      | some yk, some ye => match yk.d with
        | .str => some ye
        | _ => none
      | _, _ => none
    | _ => none
  | none => none
theorem mapE_ok {P : Program} {tys : List Ty} (ht : ∀ y ∈ tys, TyOk P y) {t : Nat} {ye : Ty} (h : mapE tys t = some ye) : TyOk P ye ∧ ∃ kt, P.underlying t = some (.map kt ye.t) ∧ P.underlying kt = some .string := by
  unfold mapE at h
  split at h
  · rename_i y hy
    obtain ⟨hok, rfl⟩ := ty?_ok ht hy
    split at h
    · rename_i k e hd
      split at h
      · rename_i yk ye' hk he
        obtain ⟨hk1, rfl⟩ := ty?_ok ht hk
        obtain ⟨he1, rfl⟩ := ty?_ok ht he
        split at h
        · rename_i hs
          injection h with h
          subst h
          obtain ⟨d, h3, h4⟩ := hok.und
          rw [hd] at h4
          obtain ⟨d2, h5, h6⟩ := hk1.und
          rw [hs] at h6
          cases d <;> simp [TD.of] at h4
          cases d2 <;> simp [TD.of] at h6
          obtain ⟨rfl, rfl⟩ := h4
          exact ⟨he1, _, h3, h5⟩
        · cases h
      · cases h
    · cases h
  · cases h
def isAggR : Rv → Bool
  | .val (.agg _) => true
  | _ => false
def eqB (a b : Bool) : Bool := match a, b with | true, true => true | false, false => true | _, _ => false
theorem eqB_eq {a b : Bool} (h : eqB a b = true) : a = b := by cases a <;> cases b <;> first | rfl | cases h
/-- A field of a struct's value. -/
def fieldVM (tys : List Ty) (t : Nat) (r : Rv) (f : Nat) : M :=
  match ty? tys t with
  | some y => match y.d with
    | .st fs => match fld fs f with
      | some (ft, off) => match ty? tys ft with
        | some yf => match yf.d.agg with
          | false => match r with
            | .val (.agg as) => match as[off]? with
              | some a => .ret (.val (.one a))
              | none => .fail
            | _ => .fail
          | true => .fail
        | none => .fail
      | none => .fail
    | _ => .fail
  | none => .fail
def makeMapM (tys : List Ty) (d t : Nat) : M :=
  match mapE tys t with
  | some y => match y.zs.all plainB, eqB y.d.agg y.k.isPr && (y.d.agg || Nat.beq (ln y.zs) 1), y.k.ofAs (y.zs.map .v) with
    | true, true, some z => .new (oid d 0) (.mp t y.k z []) (.ret (.val (.one (.own (oid d 0)))))
    | _, _, _ => .fail
  | none => .fail
def lookupM (t : Nat) (x key : Rv) : M :=
  match x, key with
  | .val (.one (.own i)), .val (.one (.v (.string s))) => .get i fun o => match o with
    | .mp t' e z l => match Nat.beq t t' with
      | true => .need (s.size ≤ 1099511627776) (.ret (.val (cvK e ((findK l s).getD z))))
      | false => .fail
    | _ => .fail
  | _, _ => .fail
def updateM (t : Nat) (x key v : Rv) : M :=
  match x, key, cellsOf v with
  | .val (.one (.own i)), .val (.one (.v (.string s))), some as => frL as fun as' => .get i fun o => match o with
    | .mp t' e z l => match Nat.beq t t' && eqB (isAggR v) e.isPr, e.ofAs as' with
      | true, some y => .need (s.size ≤ 1099511627776 ∧ l.length ≤ 1099511627776) (.put i (.mp t' e z (putK l s y)) (.ret (.val (.one .undef))))
      | _, _ => .fail
    | _ => .fail
  | _, _, _ => .fail
def rangeM (d t : Nat) (x : Rv) : M :=
  match x with
  | .val (.one (.own i)) => .get i fun o => match o with
    | .mp t' e z l => match Nat.beq t t' with
      | true => .put i .dead (.new (oid d 0) (.mit e l none) (.ret (.val (.one (.ptr (oid d 0) 0)))))
      | false => .fail
    | _ => .fail
  | _ => .fail
def nextM (x : Rv) : M :=
  match x with
  | .val (.one (.ptr i 0)) => .get i fun o => match o with
    | .mit e l cur => .br l.isEmpty (.ret (.tup [.one (.v (.bool false))])) (.all l.length fun j =>
        .put i (.mit e (l.eraseIdx j) l[j]?) (.ret (.tup [.one (.v (.bool true)), .one (.v (.string (l.getD j (ByteArray.empty, e.dflt)).1)), cvK e (l.getD j (ByteArray.empty, e.dflt)).2])))
    | _ => .fail
  | _ => .fail
def entryM (x : Rv) : M :=
  match x with
  | .val (.one (.ptr i 0)) => .get i fun o => match o with
    | .mit e l (some p) => .ret (.tup [.one (.v (.string p.1)), cvK e p.2])
    | _ => .fail
  | _ => .fail
section
variable {P : Program} {X : Ctx} {os : List (Nat × Obj')} {E : Env} {K : Rv → List (Nat × Obj') → Prop}
theorem fieldV_ok {tys : List Ty} (ht : ∀ y ∈ tys, TyOk P y) {t : Nat} {r : Rv} {u : Value} {f : Nat} (hr : RV P E r u) (h : (fieldVM tys t r f).run os K) (w : World) :
    ∃ v r, (Instr.field t u f).run P w = .ok v w ∧ RV P E r v ∧ K r os := by
  unfold fieldVM at h
  split at h
  · rename_i y hy
    obtain ⟨hok, rfl⟩ := ty?_ok ht hy
    split at h
    · rename_i fs hd
      split at h
      · rename_i ft off hf
        split at h
        · rename_i yf hyf
          obtain ⟨hokf, rfl⟩ := ty?_ok ht hyf
          split at h
          · rename_i hag
            split at h
            · rename_i as
              split at h
              · rename_i a ha
                obtain ⟨us, rfl, h1, h2⟩ := hr
                obtain ⟨u, hu, hau⟩ := h1.get off a ha
                obtain ⟨d, h3, h4⟩ := hok.und
                rw [hd] at h4
                cases d <;> simp [TD.of] at h4
                rename_i fields
                subst h4
                rw [fld_eq, List.getElem?_map] at hf
                cases hfi : fields.toList[f]? with
                | none => rw [hfi] at hf; cases hf
                | some fd =>
                  rw [hfi] at hf
                  simp only [Option.map_some, Option.some.injEq, Prod.mk.injEq] at hf
                  obtain ⟨h5, h6⟩ := hf
                  have hfa : fields[f]? = some fd := by simpa using hfi
                  refine ⟨u, _, ?_, rv_one hau (h2 u (List.mem_of_getElem? hu)), h⟩
                  simp [Instr.field, run_underlying h3, hfa, asAgg, part, h5, hokf.isAgg, hag, h6, hu]
              · exact h.elim
            · exact h.elim
          · exact h.elim
        · exact h.elim
      · exact h.elim
    · exact h.elim
  · exact h.elim
theorem keyOf_str {k : TypeId} (hk : P.underlying k = some .string) {s : ByteArray} (hs : s.size ≤ maxLen) : keyOf P k (.string s) = some (keyL s) := by
  simp [keyOf, hk, mapKey, keyL, hs]
theorem repV_shape {F : Nat → Prop} {w : World} {k : Kn} {x : k.T} {v : Value} (h : Rep F w k x v.cells.toList) (h1 : k.isPr = true → ∃ cs, v = .agg cs) (h2 : k.isPr = false → v.oneCell' = true) : RepV F w k x v := by
  refine ⟨h, ?_⟩
  cases k <;> first | exact h2 rfl | exact h1 rfl
theorem makeMap_ok {tys : List Ty} (ht : ∀ y ∈ tys, TyOk P y) (hI : Inv P X os E) {d t : Nat} (h : (makeMapM tys d t).run os K) :
    ∃ v w', (Instr.makeMap t none).run P E.w = .ok v w' ∧ Out P X E K v w' := by
  unfold makeMapM at h
  split at h
  · rename_i y hy
    obtain ⟨hok, kt, hu, hk⟩ := mapE_ok ht hy
    split at h
    · rename_i z hp hs hz
      simp only [Bool.and_eq_true] at hs
      have ha := eqB_eq hs.1
      simp only [M.run] at h
      split at h
      · rename_i hi
        have hzc := zero_cells hs.2 hp
        have hrep : ∀ E' : Env, RepV E'.F E'.w y.k z y.zero := fun E' => by
          refine repV_shape ?_ (fun h => ?_) (fun h => ?_)
          · rw [hzc]; exact ofAs_ok (All2.all_v (P := P) (E := E') hp).1 hz
          · rw [← ha] at h
            exact ⟨y.zs.toArray, by simp [Ty.zero, h]⟩
          · rw [← ha] at h
            have h1 : Nat.beq (ln y.zs) 1 = true := by have := hs.2; rw [h] at this; simpa using this
            have h1 := Nat.eq_of_beq_eq_true h1
            rw [ln_eq] at h1
            obtain ⟨_, h2⟩ := All2.all_v (P := P) (E := E') hp
            rcases hz' : y.zs with _ | ⟨z', _ | ⟨_, _⟩⟩
            · rw [hz'] at h1; cases h1
            · rw [hz'] at h2
              simp only [Ty.zero, h, hz', List.headD_cons]
              exact h2 z' List.mem_cons_self
            · rw [hz'] at h1; simp at h1
        obtain ⟨E', h3, h4, h5, h6, h7⟩ := hI.made (grown_alloc E.w (.map #[] 0)) (oid d 0) hi (hI.noX d 0) (.map (some E.w.heap.size)) (fun b => blkOf (.map (some E.w.heap.size)) = some b) (fun _ => undef) (.mp t y.k z []) (fun b hb => by
          have : E.w.heap.size = b := by simpa [blkOf] using hb
          omega) (fun E' hle hw => ⟨E.w.heap.size, kt, y.t, y.zero, .map [], [], rfl, hu, hk, by rw [hw]; exact World.ownsMap_made _ _ _ _, rfl, fun _ _ => rfl, fun _ _ _ h => by (cases h), trivial, List.nodup_nil, fun w => hok.zeroValue w, hrep E', fun _ => Iff.rfl⟩)
        exact ⟨.map (some E.w.heap.size), _, Go.RowKit.run_makeMap t E.w, E', .val (.one (.own (oid d 0))), _, h3, h4, h5, ⟨⟨h6, h7.symm⟩, rfl⟩, h⟩
      · exact h.elim
    · exact h.elim
  · exact h.elim
theorem lookup_ok (hI : Inv P X os E) {t : Nat} {x key : Rv} {u uk : Value} (hx : RV P E x u) (hk : RV P E key uk) (h : (lookupM t x key).run os K) :
    ∃ v r, (Instr.lookup t u uk false).run P E.w = .ok v E.w ∧ RV P E r v ∧ K r os := by
  unfold lookupM at h
  split at h
  · rename_i i s
    obtain ⟨⟨hD, rfl⟩, _⟩ := hx
    obtain ⟨⟨rfl, _⟩, _⟩ := hk
    simp only [M.run] at h
    split at h
    · rename_i o ho
      split at h
      · rename_i t' e z l
        split at h
        · rename_i hb
          obtain rfl := Nat.eq_of_beq_eq_true hb
          obtain ⟨hs, h⟩ := h
          obtain ⟨b, kt, et, zv, D, ps, hu, k2, k3, k4, k5, k6, k7, k8, k9, k10, k11, k12⟩ := hI.obj i _ ho
          have hkey := keyOf_str k3 (Nat.le_trans hs maxLen_ge)
          obtain ⟨v, pl, hrun, hv⟩ := k4.lookup (Maps.string_keyed k3) k2 (k10 E.w) (zd := .held zv) (zp := []) rfl hkey
          have hv2 : DataW.held v = D.atKey (keyL s) (.held zv) := (Prod.mk.inj (Option.some.inj hv)).1
          rw [hu]
          refine ⟨v, _, hrun, ?_, h⟩
          rcases k8.find s with ⟨f1, f2⟩ | ⟨y, v', f1, f2, f3⟩
          · rw [f1]
            have := k6 (keyL s) trivial
            rw [f2] at this
            rw [Maps.atKey_of_not_has this] at hv2
            injection hv2 with hv2
            subst hv2
            exact rv_of_cv (cvK_ok k11)
          · rw [f1]
            rw [k7 (keyL s) _ trivial f2] at hv2
            injection hv2 with hv2
            subst hv2
            exact rv_of_cv (cvK_ok f3)
        · exact h.elim
      · exact h.elim
    · exact h.elim
  · exact h.elim
theorem update_ok (hI : Inv P X os E) {t : Nat} {x key z : Rv} {u uk uz : Value} (hx : RV P E x u) (hk : RV P E key uk) (hz : RV P E z uz) (h : (updateM t x key z).run os K) :
    ∃ w', (Instr.mapUpdate t u uk uz).run P E.w = .ok () w' ∧ Out P X E K undef w' := by
  unfold updateM at h
  split at h
  · rename_i i s as has
    obtain ⟨⟨hD, rfl⟩, _⟩ := hx
    obtain ⟨⟨rfl, _⟩, _⟩ := hk
    obtain ⟨us, hu, ha, h1⟩ := cells_ok has hz
    obtain ⟨E1, os1, as', e1, e2, I1, e4, h⟩ := frL_ok hI ha h
    simp only [M.run] at h
    split at h
    · rename_i o ho
      split at h
      · rename_i t' e z0 l
        split at h
        · rename_i y hb hy
          simp only [Bool.and_eq_true] at hb
          obtain rfl := Nat.eq_of_beq_eq_true hb.1
          have hsh := eqB_eq hb.2
          simp only [M.run, ho] at h
          obtain ⟨⟨hs, hl⟩, h⟩ := h
          obtain ⟨b, kt, et, zv, D, ps, hub, k2, k3, k4, k5, k6, k7, k8, k9, k10, k11, k12⟩ := I1.obj i _ ho
          have hσ : E.σ i = .map (some b) := by rw [← e2.σ i hD]; exact hub
          have hrep : RepV E1.F E1.w e y uz := by
            refine repV_shape (by rw [hu]; exact ofAs_ok e4 hy) (fun hp => ?_) (fun hp => ?_)
            · rw [← hsh] at hp
              rcases z with (a | as0) | cs
              · cases hp
              · obtain ⟨vs, rfl, _⟩ := hz; exact ⟨_, rfl⟩
              · cases hp
            · rw [← hsh] at hp
              rcases z with (a | as0) | cs
              · have hne : a ≠ .undef := fun e => by subst e; cases has
                have : CV P E (.one a) uz := by cases a <;> first | exact absurd rfl hne | exact hz
                exact this.2
              · cases hp
              · cases has
          have hkey := keyOf_str k3 (Nat.le_trans hs maxLen_ge)
          have K0 := Maps.string_keyed k3
          obtain ⟨w', hrun, hown, hg⟩ := k4.update K0 k2 (Nat.lt_of_le_of_lt hl (by unfold maxLen; omega)) (val := uz) (d := .held uz) (ps := []) hkey rfl
          have hsz : Maps.size (D.put (keyL s) (.held uz)) = (putK l s y).length := by
            rw [Maps.size_put (k4.tidy K0), k6 (keyL s) trivial, k5, putK_length]
            rcases k8.find s with ⟨f1, f2⟩ | ⟨y', v', f1, f2, f3⟩ <;> rw [f1, f2] <;> rfl
          have hown' : w'.ownsMap P kt hR b (putK l s y).length (D.put (keyL s) (.held uz)) := by
            obtain ⟨es, clock, a1, a2, a3, a4⟩ := hown
            refine ⟨es, clock, a1, a2, ?_, a4⟩
            have : es.size = Maps.size (D.put (keyL s) (.held uz)) := by rw [a4]; simp [Maps.size, length_sorted]
            rw [this, hsz]
            exact Nat.le_refl _
          rw [hσ]
          rw [e1] at hrun
          refine ⟨w', hrun, ?_⟩
          obtain ⟨E2, h11, h12, h13⟩ := I1.upd (i := i) (b := b) ho rfl ((k12 b).2 (by rw [hub]; rfl)) hg (.mp t e z0 (putK l s y)) (fun E' hle' hw => by
            refine ⟨b, kt, et, zv, _, putK ps s uz, hub, k2, k3, by rw [hw]; exact hown', hsz, fun kl hkl => ?_, fun kl v hkl hv z' => ?_, (k8.put hrep).mono hle'.F hle'.w, putK_nodup k9, k10, k11.mono hle'.F hle'.w, k12⟩
            · rw [mOf_put]
              by_cases he : kl = keyL s
              · subst he
                rw [Maps.has_put_same k4.isMap hkl, if_pos (WideAt.sameKey_self hkl)]
                rfl
              · have hes : ¬ kl.sameKey (keyL s) = true := fun h => he (WideAt.sameKey_eq h)
                rw [Maps.has_put_other he, if_neg hes]
                exact k6 kl hkl
            · rw [mOf_put] at hv
              by_cases he : kl = keyL s
              · subst he
                rw [if_pos (WideAt.sameKey_self hkl)] at hv
                obtain rfl := Option.some.inj hv
                exact Maps.atKey_put_same k4.isMap hkl _ _
              · have hes : ¬ kl.sameKey (keyL s) = true := fun h => he (WideAt.sameKey_eq h)
                rw [if_neg hes] at hv
                rw [Maps.atKey_put_other he]
                exact k7 kl v hkl hv z')
          exact ⟨E2, .val (.one .undef), _, h11, e2.trans h12, h13, trivial, h⟩
        · exact h.elim
      · exact h.elim
    · exact h.elim
  · exact h.elim
theorem range_ok (hI : Inv P X os E) {d t : Nat} {x : Rv} {u : Value} (hx : RV P E x u) (h : (rangeM d t x).run os K) :
    ∃ v w', (Instr.range t u).run P E.w = .ok v w' ∧ Out P X E K v w' := by
  unfold rangeM at h
  split at h
  · rename_i i
    obtain ⟨⟨hD, rfl⟩, _⟩ := hx
    simp only [M.run] at h
    split at h
    · rename_i o ho
      split at h
      · rename_i t' e z l
        split at h
        · rename_i hb
          obtain rfl := Nat.eq_of_beq_eq_true hb
          simp only [M.run, ho] at h
          split at h
          · rename_i hd
            have hdj : lk os (oid d 0) = none := by
              by_cases e : i = oid d 0
              · rw [e, lk_same] at hd; cases hd
              · rw [lk_ne _ _ e] at hd; exact hd
            obtain ⟨b, kt, et, zv, D, ps, hub, k2, k3, k4, k5, k6, k7, k8, k9, k10, k11, k12⟩ := hI.obj i _ ho
            obtain ⟨w', hrun, hr, hg, hsz⟩ := k4.range (Maps.string_keyed k3) k2
            rw [hub]
            refine ⟨_, w', hrun, ?_⟩
            obtain ⟨E', h13, h14, h15, h16, h17⟩ := hI.move ho rfl hdj (hI.noX d 0) hg (fun b hb => by cases hb) (.pointer (some ⟨E.w.heap.size, 0, none⟩)) (fun c => c = b ∨ c = E.w.heap.size) (fun _ => undef) (.mit e l none) (fun c hc => by
              rcases hc with rfl | rfl
              · exact .inl ((k12 c).2 (by rw [hub]; rfl))
              · exact .inr (Nat.le_refl _)) (fun E' hle hw => ⟨b, E.w.heap.size, kt, l.length, D, _, _, ps, rfl, k3, by rw [hw]; exact hr, k6, k7, k8.mono hle.F hle.w, k9, trivial, fun _ => Iff.rfl⟩)
            exact ⟨E', .val (.one (.ptr (oid d 0) 0)), _, h13, h14, h15, ⟨⟨h16, E.w.heap.size, h17, rfl⟩, rfl⟩, h⟩
          · exact h.elim
        · exact h.elim
      · exact h.elim
    · exact h.elim
  · exact h.elim
theorem next_ok (hI : Inv P X os E) {ty : Nat} {x : Rv} {u : Value} (hx : RV P E x u) (h : (nextM x).run os K) :
    ∃ v w', (Instr.next u false ty).run P E.w = .ok v w' ∧ Out P X E K v w' := by
  unfold nextM at h
  split at h
  · rename_i i
    obtain ⟨⟨hD, b0, hs, rfl⟩, _⟩ := hx
    simp only [M.run] at h
    split at h
    · rename_i o ho
      split at h
      · rename_i e l cur
        obtain ⟨b, r, kt, n, D, left, cnt, ps, hub, k3, k4, k5, k6, k7, k8, k9, k10⟩ := hI.obj i _ ho
        obtain rfl : b0 = r := by rw [hs] at hub; simpa using hub
        have K0 := Maps.string_keyed k3
        rcases k4.next K0 ty with ⟨hc, hleft, hrun⟩ | ⟨key, v, kl, y, w', cnt', hkey, hlk, hv, hat, hrun, hrg, hlt, hg, hsz, hen⟩
        · have hl : l = [] := by
            rcases l with _ | ⟨p, l⟩
            · rfl
            · rcases ps with _ | ⟨q, ps⟩
              · exact k7.elim
              · have h1 := k5 (keyL q.1) trivial
                rw [hleft] at h1
                simp only [mOf, keyL_same.2 rfl, Option.isSome_some] at h1
                cases h1
          subst hl
          refine ⟨_, E.w, hrun, E, .tup _, os, rfl, .refl E, hI, ?_, h⟩
          exact ⟨[.bool false], rfl, ⟨⟨rfl, trivial⟩, rfl⟩, trivial⟩
        · have hkl : WideAt.IsKeyLit kl := K0.key hkey
          rw [k5 kl hkl] at hlk
          obtain ⟨v0, hv0⟩ := Option.isSome_iff_exists.1 hlk
          have hvv : v0 = v := by
            have h1 := k6 kl v0 hkl hv0 .nil
            rw [hat .nil] at h1
            have h2 := (Prod.mk.inj (Option.some.inj hv))
            have h3 : DataW.held v = y.1 := by injection hv with hv; rw [← hv]
            rw [← h3] at h1
            injection h1 with h1
            exact h1.symm
          subst hvv
          obtain ⟨j, s, hj, rfl⟩ := mOf_at hv0
          obtain ⟨s', rfl⟩ := Maps.keyOf_string_inv k3 hkey
          have hss : s' = s := by
            simp [keyOf, k3, mapKey] at hkey
            exact keyL_inj hkey.2
          subst hss
          obtain ⟨x, hlj, hrep⟩ := k7.at hj
          have hjl : j < l.length := (List.getElem?_eq_some_iff.1 hlj).1
          have hne : l.isEmpty = false := by cases l with | nil => simp at hjl | cons _ _ => rfl
          rw [hne] at h
          have h := h j hjl
          simp only [M.run, ho] at h
          have hgd : l.getD j (ByteArray.empty, e.dflt) = (s', x) := by rw [List.getD_eq_getElem?_getD, hlj]; rfl
          rw [hgd, hlj] at h
          refine ⟨_, w', hrun, ?_⟩
          obtain ⟨E', h11, h12, h13⟩ := hI.upd (i := i) (b := b0) ho rfl ((k10 b0).2 (.inr rfl)) hg (.mit e (l.eraseIdx j) (some (s', x))) (fun E' hle' hw => by
            refine ⟨b, b0, kt, n, D, _, cnt', ps.eraseIdx j, hub, k3, by rw [hw]; exact hrg, fun kl hkl => ?_, fun kl v' hkl hv' z' => ?_, (k7.erase j).mono hle'.F hle'.w, ?_, ⟨v0, by rw [hw]; exact hen, hrep.mono hle'.F hle'.w⟩, k10⟩
            · have hn : (ps.map (·.1)).Nodup := by rw [k7.keys]; exact k8
              rw [mOf_erase hn hj, k5 kl hkl]
              cases kl.sameKey (keyL s') <;> simp
            · have hn : (ps.map (·.1)).Nodup := by rw [k7.keys]; exact k8
              rw [mOf_erase hn hj] at hv'
              split at hv'
              · cases hv'
              · exact k6 kl v' hkl hv' z'
            · exact List.Sublist.nodup ((List.eraseIdx_sublist l j).map _) k8)
          refine ⟨E', .tup _, _, h11, h12, h13, ?_, h⟩
          exact ⟨[.bool true, .string s', v0], rfl, ⟨⟨rfl, trivial⟩, rfl⟩, ⟨⟨rfl, trivial⟩, rfl⟩, cvK_ok (hrep.mono h12.F h12.w), trivial⟩
      · exact h.elim
    · exact h.elim
  · exact h.elim
theorem entry_ok (hI : Inv P X os E) {x : Rv} {u : Value} (hx : RV P E x u) (h : (entryM x).run os K) :
    ∃ v r, (Instr.entry u).run P E.w = .ok v E.w ∧ RV P E r v ∧ K r os := by
  unfold entryM at h
  split at h
  · rename_i i
    obtain ⟨⟨hD, b0, hs, rfl⟩, _⟩ := hx
    simp only [M.run] at h
    split at h
    · rename_i o ho
      split at h
      · rename_i e l p
        obtain ⟨b, r, kt, n, D, left, cnt, ps, hub, k3, k4, k5, k6, k7, k8, ⟨v, k9, k9'⟩, k10⟩ := hI.obj i _ ho
        obtain rfl : b0 = r := by rw [hs] at hub; simpa using hub
        exact ⟨_, .tup [.one (.v (.string p.1)), cvK e p.2], k9, ⟨[.string p.1, v], rfl, ⟨⟨rfl, trivial⟩, rfl⟩, cvK_ok k9', trivial⟩, h⟩
      · exact h.elim
    · exact h.elim
  · exact h.elim
end
end Go.Proofs.YthfmlelodmcgkaaGreat.V
