/- The step of any operation that the states know. Conditions: in each. Code over symbolic states: what is owed of a text, told by a program. Conditions: in each. Regions that draw their order: walked in the order of the text, whatever comes up. Conditions: in each. What is owed of a text over states. Conditions: in each. States that are told anew: fewer objects, other names; what lies in rows that are left is as it is from then on. Conditions: in each. A function's contract out of its text. Conditions: in each. Loops by families of states that are told anew in each round. Conditions: in each. -/
import Derived.Test.YthfmlelodmcgkaaGreatVMap
import Derived.LoopN
import Derived.Laws.BytesString
set_option linter.unusedVariables false
set_option linter.unusedSimpArgs false
set_option linter.unusedSectionVars false
namespace Go.Proofs.YthfmlelodmcgkaaGreat.V
open Go
def ptrRs : List Nat → List Rv
  | [] => []
  | i :: r => .val (.one (.ptr i 0)) :: ptrRs r
def evFs {P : Program} (L : Lib P) (ρ : Nat → Rv) : List Operand → List Rv
  | [] => []
  | x :: r => evF L ρ x :: evFs L ρ r
def mkFn {P : Program} (L : Lib P) (fn : Fn) (first : List Operand) (caps : List Rv) : M :=
  match fn, first with
  | .func f, [] => mkM L f caps
  | _, _ => .fail
def valM {P : Program} (ctrs : Lib P) (d : Nat) (fv : Rv) (args : List Rv) : M :=
  match fv with
  | .val (.one (.pf ks r f)) => pfM ks r f args
  | .val (.one (.fn f caps)) => callM ctrs.cs d f (args ++ ptrRs caps)
  | .val (.one (.v (.func (.func f) first cap))) => match first.toList, cap.toList with
    | [], [] => callM ctrs.cs d f args
    | _, _ => .fail
  | _ => .fail
def callA {P : Program} (tys : List Ty) (ctrs : Lib P) (d : Nat) (ρ : Nat → Rv) (callee : Callee) (args : List Operand) (ts : List TypeId) : M :=
  match callee with
  | .builtin .append => match args, ts with
    | [s, x], [t, t2] => appN tys d t t2 (ev ρ s) (ev ρ x)
    | _, _ => .fail
  | .builtin .len => match args, ts with
    | [x], [t] => lenM tys t (ev ρ x)
    | _, _ => .fail
  | .builtin .max => match args with
    | [x, y] => mmM true (ev ρ x) (ev ρ y)
    | _ => .fail
  | .builtin .min => match args with
    | [x, y] => mmM false (ev ρ x) (ev ρ y)
    | _ => .fail
  | .value (.func f) => callM ctrs.cs d f (evFs ctrs ρ args)
  | .value (.tmp t) => valM ctrs d (ρ t) (evFs ctrs ρ args)
  | _ => .fail
/-- The text of bytes. -/
def bytesS (l : List Int) : ByteArray := l.foldl (fun r n => r.push (UInt8.ofNat n.toNat)) ByteArray.empty
def strM (tys : List Ty) (src dst i : Nat) : M :=
  match sliceE tys src, ty? tys dst with
  | some e, some y => match y.d, e.d with
    | .str, .int .u8 => .get i fun o => match o with
      | .row _ k l => if h : k = .int .u8 then .ret (.val (.one (.v (.string (bytesS (castK h l)))))) else .fail
      | _ => .fail
    | _, _ => .fail
  | _, _ => .fail
def convN (tys : List Ty) (src dst : Nat) (r : Rv) : M :=
  match r with
  | .val (.one (.own i)) => strM tys src dst i
  | r => convM tys src dst r
theorem str_of {P : Program} {y : Ty} (hok : TyOk P y) (h : y.d = .str) : P.underlying y.t = some .string := by
  obtain ⟨d, h3, h4⟩ := hok.und
  rw [h] at h4
  cases d <;> simp [TD.of] at h4
  exact h3
theorem int_of {P : Program} {y : Ty} {k : IntKind} (hok : TyOk P y) (h : y.d = .int k) : P.underlying y.t = some (.int k) := by
  obtain ⟨d, h3, h4⟩ := hok.und
  rw [h] at h4
  cases d <;> simp [TD.of] at h4
  subst h4
  exact h3
theorem Reps.ints {F : Nat → Prop} {w : World} {k : IntKind} : ∀ {l : List Int} {xs : List Value}, Reps F w (.int k) l xs → xs = l.map (Value.int k)
  | [], _, h => h
  | x :: l, xs, ⟨c1, c2, h, h1, h2⟩ => by
    rw [h, h1.1, Reps.ints h2]; rfl
theorem strM_ok {P : Program} {X : Ctx} {E : Env} {os : List (Nat × Obj')} {K : Rv → List (Nat × Obj') → Prop} {tys : List Ty} (ht : ∀ y ∈ tys, TyOk P y) (hI : Inv P X os E) {src dst i : Nat} (h : (strM tys src dst i).run os K) :
    ∃ s : ByteArray, (convert src dst (E.σ i)).run P E.w = .ok (.string s) E.w ∧ K (.val (.one (.v (.string s)))) os := by
  unfold strM at h
  split at h
  · rename_i e y he hy
    obtain ⟨hoke, hu⟩ := sliceE_ok ht he
    obtain ⟨hok, rfl⟩ := ty?_ok ht hy
    split at h
    · rename_i hyd hed
      simp only [M.run] at h
      split at h
      · rename_i o ho
        split at h
        · rename_i t k l
          split at h
          · rename_i hk
            subst hk
            rw [castK_rfl] at h
            refine ⟨_, ?_, h⟩
            obtain ⟨xs, h1, h2, h3, _⟩ := hI.obj i _ ho
            obtain ⟨ad, c, hv, hnc, hcell⟩ := row_reads h1
            have hx := h2.ints
            subst hx
            rw [hv, run_convert_bytes_string E.w src y.t e.t ad _ c hu (int_of hoke hed) (str_of hok hyd)]
            cases ad with
            | none =>
              have : l = [] := by
                cases l with
                | nil => rfl
                | cons a r => obtain ⟨b, hb, _⟩ := hcell (by simp); cases hb
              subst this
              simp [Conv.bytesToString, bytesS]
            | some a =>
              refine run_bytesToString E.w a l.length c l ?_
              have := run_loadCells_list (P := P) E.w a (l.map (Value.int .u8)) (fun j v hj => by
                obtain ⟨hj1, hj2⟩ := List.getElem?_eq_some_iff.1 hj
                obtain ⟨b, hb, hc⟩ := hcell (fun e => by rw [e] at hj1; simp at hj1)
                injection hb with hb
                subst hb
                rw [Addr.add_lit, Nat.zero_add, hc j hj1, hj2])
              rw [List.length_map] at this
              exact this
          · exact h.elim
        · exact h.elim
      · exact h.elim
    · exact h.elim
  · exact h.elim
/-- Two operands: truth values too, where the type is that of truth values. -/
def boolM (tys : List Ty) (t : Nat) (op : BinOp) (x y : Bool) : M :=
  match ty? tys t with
  | some z => match z.d with
    | .bool => match op with
      | .eql => .bool (decide (x = y))
      | .neq => .bool !(decide (x = y))
      | _ => .fail
    | _ => .fail
  | none => .fail
def binT (tys : List Ty) (t : Nat) (op : BinOp) (a b : Rv) : M :=
  match a, b with
  | .val (.one (.v (.bool x))), .val (.one (.v (.bool y))) => boolM tys t op x y
  | a, b => binM op a b
theorem bool_of {P : Program} {y : Ty} (hok : TyOk P y) (h : y.d = .bool) : P.underlying y.t = some .bool := by
  obtain ⟨d, h3, h4⟩ := hok.und
  rw [h] at h4
  cases d <;> simp [TD.of] at h4
  exact h3
theorem binT_ok {P : Program} {E : Env} {os : List (Nat × Obj')} {K : Rv → List (Nat × Obj') → Prop} {tys : List Ty} (ht : ∀ y ∈ tys, TyOk P y) {op : BinOp} {t : TypeId} {x y : Operand} {r1 r2 : Rv} {u1 u2 : Value} (hx : RV P E r1 u1) (hy : RV P E r2 u2) (h : (binT tys t op r1 r2).run os K) (w : World) :
    ∃ v r, (do eqGuard op t x y u1 u2; binOp op t u1 u2 : Sem Value).run P w = .ok v w ∧ RV P E r v ∧ K r os := by
  unfold binT at h
  split at h
  · rename_i a b
    obtain ⟨⟨rfl, _⟩, _⟩ := hx
    obtain ⟨⟨rfl, _⟩, _⟩ := hy
    unfold boolM at h
    split at h
    · rename_i z hz
      obtain ⟨hok, rfl⟩ := ty?_ok ht hz
      split at h
      · rename_i hd
        have hu := bool_of hok hd
        have e : decide (a = b) = (a == b) := by cases a <;> cases b <;> rfl
        split at h
        · refine ⟨.bool (decide (a = b)), _, ?_, rv_v (x := .bool _) trivial rfl, h⟩
          rw [Sem.run_bind, e, ← run_eql_bool w z.t a b hu]
          rfl
        · refine ⟨.bool !(decide (a = b)), _, ?_, rv_v (x := .bool _) trivial rfl, h⟩
          rw [Sem.run_bind, e, ← run_neq_bool w z.t a b hu]
          rfl
        · exact h.elim
      · exact h.elim
    · exact h.elim
  · exact bin_ok hx hy h w
def act {P : Program} (tys : List Ty) (ctrs : Lib P) (d : Nat) (ρ : Nat → Rv) : Op → M
  | .move x => .ret (evF ctrs ρ x)
  | .assign x => .ret (evF ctrs ρ x)
  | .pick c a b => pickM (ev ρ c) (ev ρ a) (ev ρ b)
  | .alloc t => allocM tys d t
  | .box t x => boxM d t (evF ctrs ρ x)
  | .build t parts => buildM tys t (evP ρ parts.toList)
  | .nilCheck x => nilM (ev ρ x)
  | .index t x ix => idxM tys t (ev ρ x) (ev ρ ix)
  | .makeFunc fn first caps => mkFn ctrs fn first.toList (evFs ctrs ρ caps.toList)
  | .buildSlice t n parts => litN tys ρ d t n parts
  | .load t x => loadN tys d t (ev ρ x)
  | .store t x z => storeH tys t (ev ρ x) (ev ρ z)
  | .binOp op t x y _ => binT tys t op (ev ρ x) (ev ρ y)
  | .unOp op _ x => unM op (ev ρ x)
  | .convert s t x => convN tys s t (ev ρ x)
  | .makeSlice t l c => makeN tys d t (ev ρ l) (ev ρ c)
  | .slice t x lo hi mx => cutOwn tys d t (ev ρ x) (lo.map (ev ρ)) (hi.map (ev ρ)) (mx.map (ev ρ))
  | .fieldAddr t x f => fieldM tys t (ev ρ x) f
  | .indexAddr t x ix => indexN tys t (ev ρ x) (ev ρ ix)
  | .extract t i => extrM (ev ρ t) i
  | .makeMap t none => makeMapM tys d t
  | .field t x f => fieldVM tys t (ev ρ x) f
  | .lookup t x key false => lookupM t (ev ρ x) (ev ρ key)
  | .mapUpdate t x key v => updateM t (ev ρ x) (ev ρ key) (ev ρ v)
  | .range t x => rangeM d t (ev ρ x)
  | .next x false => nextM (ev ρ x)
  | .entry x => entryM (ev ρ x)
  | .call c => callA tys ctrs d ρ c.callee c.args.toList c.argTypes.toList
  | _ => .fail
section
variable {P : Program} {X : Ctx} {os : List (Nat × Obj')} {E : Env} {n : Nat} {ρ : Nat → Rv} {a : Act} {o : Oper} {K : Rv → List (Nat × Obj') → Prop}
theorem out_val (hI : Inv P X os E) {v : Value} {r : Rv} (hrun : (execOp a.eval o).run P E.w = .ok (.value v) E.w) (hv : RV P E r v) (hK : K r os) : Outcome P o a E.w (Out P X E K) :=
  .inl ⟨v, E.w, hrun, E, r, os, rfl, .refl E, hI, hv, hK⟩
theorem All2.map_ev {L : Lib P} (hr : Regs P E n ρ a) : ∀ (l : List Operand), All2 (RV P E) (evFs L ρ l) (l.map a.eval)
  | [] => trivial
  | x :: r => ⟨evF_ok hr x, All2.map_ev hr r⟩
theorem map_opt (hr : Regs P E n ρ a) (x : Option Operand) : (∀ r, x.map (ev ρ) = some r → ∃ v, x.map a.eval = some v ∧ RV P E r v) ∧ (x.map (ev ρ) = none → x.map a.eval = none) := by
  cases x with
  | none => exact ⟨(fun r h => by cases h), fun _ => rfl⟩
  | some x => exact ⟨(fun r h => by injection h with h; subst h; exact ⟨_, rfl, ev_ok hr x⟩), (fun h => by cases h)⟩
theorem call_run {tys : List Ty} {ctrs : Lib P} {d : Nat} (ht : ∀ y ∈ tys, TyOk P y) (hI : Inv P X os E) (hr : Regs P E n ρ a) {c : Call} (ho : o.op = .call c) (h : (callA tys ctrs d ρ c.callee c.args.toList c.argTypes.toList).run os K) : Outcome P o a E.w (Out P X E K) := by
  obtain ⟨callee, args, ts⟩ := c
  obtain ⟨args⟩ := args
  obtain ⟨ts⟩ := ts
  simp only at h
  unfold callA at h
  split at h
  · split at h
    · rename_i s x t t2
      obtain ⟨v, w', h1, h2⟩ := appN_ok (ty := o.type) ht hI (ev_ok hr s) (ev_ok hr x) h
      refine .inl ⟨v, w', ?_, h2⟩
      simp [execOp, ho, resolve, invoke, builtin, h1]
    · exact h.elim
  · split at h
    · rename_i x t
      obtain ⟨v, r, h1, h2, h3⟩ := len_ok (ty := o.type) ht hI (ev_ok hr x) h
      refine out_val hI ?_ h2 h3
      simp [execOp, ho, resolve, invoke, builtin, h1]
    · exact h.elim
  · split at h
    · rename_i x y
      unfold mmM at h
      split at h
      · rename_i k p k' q e1 e2
        split at h
        · rename_i hk
          obtain rfl := ikB_eq hk
          have hx := ev_ok hr x
          have hy := ev_ok hr y
          rw [e1] at hx
          rw [e2] at hy
          obtain ⟨⟨hx, ox⟩, _⟩ := hx
          obtain ⟨⟨hy, oy⟩, _⟩ := hy
          refine out_val hI (v := .int k (mx p q)) ?_ (rv_v (x := .int k (mx p q)) (by unfold mx; split <;> assumption) rfl) h
          simp [execOp, ho, resolve, invoke, builtin, Builtin.max_, Builtin.max2, hx, hy, mx]
        · exact h.elim
      · exact h.elim
    · exact h.elim
  · split at h
    · rename_i x y
      unfold mmM at h
      split at h
      · rename_i k p k' q e1 e2
        split at h
        · rename_i hk
          obtain rfl := ikB_eq hk
          have hx := ev_ok hr x
          have hy := ev_ok hr y
          rw [e1] at hx
          rw [e2] at hy
          obtain ⟨⟨hx, ox⟩, _⟩ := hx
          obtain ⟨⟨hy, oy⟩, _⟩ := hy
          refine out_val hI (v := .int k (mn p q)) ?_ (rv_v (x := .int k (mn p q)) (by unfold mn; split <;> assumption) rfl) h
          simp [execOp, ho, resolve, invoke, builtin, Builtin.min_, Builtin.min2, hx, hy, mn]
        · exact h.elim
      · exact h.elim
    · exact h.elim
  · rename_i f
    unfold callM at h
    split at h
    · rename_i c hc
      obtain rfl := ctr?_ok hc
      refine .inr (.inr ⟨c.f, (args.map a.eval).toArray, E.w, ?_, callF_ok hI c.good (All2.map_ev hr args) h⟩)
      have he := c.enter (args.map a.eval).toArray E.w
      simp [execOp, ho, resolve, Act.eval, Deferred.ofValue, invoke]
      simpa using he
    · exact h.elim
  · rename_i t
    have hf := hr.reg t
    have hx := All2.map_ev (L := ctrs) hr args
    have callF : ∀ {f : Nat} {us : List Value} {rs : List Rv}, a.tmps.getD t undef = .func (.func f) #[] us.toArray → All2 (RV P E) rs (args.map a.eval ++ us) → (callM ctrs.cs d f rs).run os K → Outcome P o a E.w (Out P X E K) := fun {f us rs} hv ha h => by
      unfold callM at h
      split at h
      · rename_i c hc
        obtain rfl := ctr?_ok hc
        refine .inr (.inr ⟨c.f, (args.map a.eval ++ us).toArray, E.w, ?_, callF_ok hI c.good ha h⟩)
        have he := c.enter (args.map a.eval ++ us).toArray E.w
        have hv' : a.eval (.tmp t) = .func (.func c.f) #[] us.toArray := hv
        simp [execOp, ho, resolve, hv', Deferred.ofValue, invoke]
        simpa using he
      · exact h.elim
    unfold valM at h
    split at h
    · rename_i ks r f e
      rw [e] at hf
      obtain ⟨g, first, cap, e1, e2, e3⟩ := pf_ok hI hf.1 hx h
      refine .inr (.inr ⟨g, first ++ (args.map a.eval).toArray ++ cap, E.w, ?_, e3⟩)
      have he := e2.enter (first ++ (args.map a.eval).toArray ++ cap) E.w
      have hv' : a.eval (.tmp t) = .func (.func g) first cap := e1
      simp [execOp, ho, resolve, hv', Deferred.ofValue, invoke]
      simpa using he
    · rename_i f caps e
      rw [e] at hf
      obtain ⟨⟨us, hu, h1⟩, _⟩ := hf
      refine callF hu (hx.append ?_) h
      clear hu h e
      revert us
      induction caps with
      | nil => intro us h1; cases us <;> exact h1
      | cons c r ih =>
        intro us h1
        rcases us with _ | ⟨u, us⟩
        · exact h1.elim
        · obtain ⟨⟨hD, ⟨b, hb⟩, hu⟩, h2⟩ := h1
          refine ⟨⟨⟨hD, b, hb, by rw [hu, hb]⟩, by rw [hu, hb]; rfl⟩, ih us h2⟩
    · rename_i f first cap e
      rw [e] at hf
      split at h
      · rename_i e1 e2
        have h1 : first = #[] := by cases first; simp at e1; rw [e1]
        have h2 : cap = #[] := by cases cap; simp at e2; rw [e2]
        subst h1 h2
        exact callF (us := []) hf.1.1 (by simpa using hx) h
      · exact h.elim
    · exact h.elim
  · exact h.elim
theorem act_ok {tys : List Ty} {ctrs : Lib P} {d : Nat} (ht : ∀ y ∈ tys, TyOk P y) (hI : Inv P X os E) (hr : Regs P E n ρ a) (h : (act tys ctrs d ρ o.op).run os K) : Outcome P o a E.w (Out P X E K) := by
  cases ho : o.op <;> rw [ho] at h <;> (try simp only [act] at h) <;> (try (exact h.elim))
  case makeMap t hint =>
    cases hint with
    | some _ => exact h.elim
    | none =>
      obtain ⟨v, w', h1, h2⟩ := makeMap_ok ht hI h
      exact .inl ⟨v, w', by simp [execOp, ho, h1], h2⟩
  case field t x f =>
    obtain ⟨v, r, h1, h2, h3⟩ := fieldV_ok ht (ev_ok hr x) h E.w
    exact out_val hI (by simp [execOp, ho, h1]) h2 h3
  case lookup t x key c =>
    cases c with
    | true => exact h.elim
    | false =>
      obtain ⟨v, r, h1, h2, h3⟩ := lookup_ok hI (ev_ok hr x) (ev_ok hr key) h
      exact out_val hI (by simp [execOp, ho, h1]) h2 h3
  case mapUpdate t x key v =>
    obtain ⟨w', h1, h2⟩ := update_ok hI (ev_ok hr x) (ev_ok hr key) (ev_ok hr v) h
    exact .inr (.inl ⟨w', by simp [execOp, ho, h1], h2⟩)
  case range t x =>
    obtain ⟨v, w', h1, h2⟩ := range_ok hI (ev_ok hr x) h
    exact .inl ⟨v, w', by simp [execOp, ho, h1], h2⟩
  case next x c =>
    cases c with
    | true => exact h.elim
    | false =>
      obtain ⟨v, w', h1, h2⟩ := next_ok (ty := o.type) hI (ev_ok hr x) h
      exact .inl ⟨v, w', by simp [execOp, ho, h1], h2⟩
  case entry x =>
    obtain ⟨v, r, h1, h2, h3⟩ := entry_ok hI (ev_ok hr x) h
    exact out_val hI (by simp [execOp, ho, h1]) h2 h3
  case move x => exact out_val hI (by simp [execOp, ho]) (evF_ok hr x) h
  case assign x => exact out_val hI (by simp [execOp, ho]) (evF_ok hr x) h
  case pick c x y =>
    unfold pickM at h
    split at h
    · rename_i b e
      have hc := ev_ok hr c
      rw [e] at hc
      obtain ⟨⟨hc, _⟩, _⟩ := hc
      cases b
      · exact out_val hI (by simp [execOp, ho, hc, asBool]) (ev_ok hr y) h
      · exact out_val hI (by simp [execOp, ho, hc, asBool]) (ev_ok hr x) h
    · exact h.elim
  case alloc t =>
    obtain ⟨v, w', h1, h2⟩ := alloc_ok ht hI h
    exact .inl ⟨v, w', by simp [execOp, ho, h1], h2⟩
  case box t x =>
    obtain ⟨v, w', h1, h2⟩ := box_ok hI (evF_ok hr x) h
    exact .inl ⟨v, w', by simp [execOp, ho, h1], h2⟩
  case buildSlice t m parts =>
    obtain ⟨v, w', h1, h2⟩ := litN_ok ht hI hr h
    exact .inl ⟨v, w', by simp [execOp, ho, h1], h2⟩
  case build t parts =>
    obtain ⟨v, r, h1, h2, h3⟩ := build_ok ht hr h E.w
    exact out_val hI (by simp [execOp, ho, h1]) h2 h3
  case nilCheck x =>
    obtain ⟨⟨ad, hu⟩, r, h2, h3⟩ := nil_ok (ev_ok hr x) h
    exact out_val hI (v := a.eval x) (by simp [execOp, ho, hu]) h2 h3
  case index t x ix =>
    obtain ⟨v, r, h1, h2, h3⟩ := idx_ok ht (ev_ok hr x) (ev_ok hr ix) h E.w
    exact out_val hI (by simp [execOp, ho, h1]) h2 h3
  case makeFunc fn first caps =>
    unfold mkFn at h
    split at h
    · rename_i f e
      have hf : first = #[] := by cases first; simp at e; rw [e]
      subst hf
      have := mk_ok hI (All2.map_ev hr caps.toList) h
      refine .inl ⟨_, E.w, ?_, this⟩
      obtain ⟨caps⟩ := caps
      simp [execOp, ho, Instr.makeFunc]
    · exact h.elim
  case load t x =>
    obtain ⟨v, w', h1, h2⟩ := loadN_ok ht hI (ev_ok hr x) h
    exact .inl ⟨v, w', by simp [execOp, ho, h1], h2⟩
  case store t x z =>
    obtain ⟨w', h1, h2⟩ := storeH_ok ht hI (ev_ok hr x) (ev_ok hr z) h
    exact .inr (.inl ⟨w', by simp [execOp, ho, h1], h2⟩)
  case binOp op t x y yt =>
    obtain ⟨v, r, h1, h2, h3⟩ := binT_ok (t := t) (x := x) (y := y) ht (ev_ok hr x) (ev_ok hr y) h E.w
    refine out_val hI (v := v) ?_ h2 h3
    simp only [execOp, ho]
    rw [Sem.run_bind, h1]
    rfl
  case unOp op t x =>
    unfold unM at h
    split at h
    · rename_i k z e
      have hx := ev_ok hr x
      rw [e] at hx
      obtain ⟨⟨hx, _⟩, _⟩ := hx
      exact out_val hI (v := .int k (wrapK k (0 - z))) (by simp [execOp, ho, hx, Op.unary, Op.intArith, wrapK_eq]) (rv_v (x := .int k _) (okI_wrap _ _) rfl) h
    · rename_i b e
      have hx := ev_ok hr x
      rw [e] at hx
      obtain ⟨⟨hx, _⟩, _⟩ := hx
      exact out_val hI (v := .bool !b) (by simp [execOp, ho, hx, Op.unary]) (rv_v (x := .bool _) trivial rfl) h
    · exact h.elim
  case convert s t x =>
    unfold convN at h
    split at h
    · rename_i i e
      have hx := ev_ok hr x
      rw [e] at hx
      obtain ⟨⟨_, hx⟩, _⟩ := hx
      obtain ⟨s', h1, h2⟩ := strM_ok ht hI h
      exact out_val hI (v := .string s') (by simp [execOp, ho, hx, h1]) (rv_v (x := .string _) trivial rfl) h2
    unfold convM at h
    split at h
    · rename_i ys y hys hy
      obtain ⟨hok, rfl⟩ := ty?_ok ht hy
      obtain ⟨hoks, rfl⟩ := ty?_ok ht hys
      split at h
      · rename_i k k' z hd e
        have hx := ev_ok hr x
        rw [e] at hx
        obtain ⟨⟨hx, _⟩, _⟩ := hx
        obtain ⟨dd, h3, h4⟩ := hok.und
        rw [hd] at h4
        cases dd <;> simp [TD.of] at h4
        subst h4
        obtain ⟨ds, h5, _⟩ := hoks.und
        refine out_val hI (v := .int _ (wrapK _ z)) ?_ (rv_v (x := .int _ _) (okI_wrap _ _) rfl) h
        simp [execOp, ho, hx, convert, run_underlying h3, run_underlying h5, Conv.intToInt, wrapK_eq]
      · exact h.elim
    · exact h.elim
  case makeSlice t l c =>
    obtain ⟨v, w', h1, h2⟩ := makeN_ok ht hI (ev_ok hr l) (ev_ok hr c) h
    exact .inl ⟨v, w', by simp [execOp, ho, h1], h2⟩
  case slice t x lo hi mx =>
    obtain ⟨v, h1, h2⟩ := cutOwn_ok ht hI (ev_ok hr x) (map_opt hr lo).1 (map_opt hr lo).2 (map_opt hr hi).1 (map_opt hr hi).2 (map_opt hr mx).1 (map_opt hr mx).2 h
    exact .inl ⟨v, E.w, by simp [execOp, ho, h1], h2⟩
  case fieldAddr t x f =>
    obtain ⟨v, r, h1, h2, h3⟩ := field_ok ht (ev_ok hr x) h E.w
    exact out_val hI (by simp [execOp, ho, h1]) h2 h3
  case indexAddr t x ix =>
    obtain ⟨v, w', h1, h2⟩ := indexN_ok ht hI (ev_ok hr x) (ev_ok hr ix) h
    exact .inl ⟨v, w', by simp [execOp, ho, h1], h2⟩
  case extract t i =>
    unfold extrM at h
    split at h
    · rename_i cs e
      have hx := ev_ok hr t
      rw [e] at hx
      obtain ⟨us, hu, h1⟩ := hx
      split at h
      · rename_i c hc
        obtain ⟨u, h2, h3⟩ := h1.get i c hc
        refine out_val hI (v := u) ?_ (r := .val c) ?_ h
        · simp [execOp, ho, hu, Instr.extract, h2]
        · rcases c with a | as
          · exact rv_one h3.1 h3.2
          · exact h3
      · exact h.elim
    · exact h.elim
  case call c => exact call_run ht hI hr ho h
end
end Go.Proofs.YthfmlelodmcgkaaGreat.V

set_option linter.unusedVariables false
set_option linter.unusedSimpArgs false
set_option linter.unusedSectionVars false
namespace Go.Proofs.YthfmlelodmcgkaaGreat.V
open Go
/-- What a text may use: types, contracts. -/
structure Tab (P : Program) where
  tys : List Ty
  hty : ∀ y ∈ tys, TyOk P y
  ctrs : Lib P
  mix : P.follows .mixedOrders = true
def nth {α : Type} : List α → Nat → Option α
  | [], _ => none
  | x :: _, 0 => some x
  | _ :: r, i + 1 => nth r i
theorem nth_eq {α : Type} : ∀ (l : List α) (i : Nat), nth l i = l[i]?
  | [], _ => by simp [nth]
  | x :: r, 0 => by simp [nth]
  | x :: r, i + 1 => by simp [nth, nth_eq r i]
def gdst (all : List Oper) (j : Nat) : Option Nat :=
  match nth all j with
  | some o => o.dst
  | none => none
/-- A value into a register. -/
def S.to (s : S) (d : Option Nat) (r : Rv) (os : List (Nat × Obj')) (Q : S → Prop) : Prop :=
  match d with
  | none => Q ⟨s.n, s.rs, os⟩
  | some d => match Nat.blt d s.n with
    | true => Q ⟨s.n, (d, r) :: s.rs, os⟩
    | false => False
def vcOp {P : Program} (T : Tab P) (o : Oper) (s : S) (Q : S → Prop) : Prop :=
  (act T.tys T.ctrs (dof o.dst) s.ρ o.op).run s.os fun v os' => s.to o.dst v os' Q
def vcOps {P : Program} (T : Tab P) (all : List Oper) : List Oper → S → (S → Prop) → Prop
  | [], s, Q => Q s
  | o :: r, s, Q => match o.guard with
    | none => vcOp T o s fun s' => vcOps T all r s' Q
    | some (j, b) => match gdst all j with
      | some g => match s.ρ g with
        | .val (.one (.v (.bool c))) => match b with
          | true => brB c (vcOp T o ⟨s.n, (g, .val (.one (.v (.bool true)))) :: s.rs, s.os⟩ fun s' => vcOps T all r s' Q)
              (S.to ⟨s.n, (g, .val (.one (.v (.bool false)))) :: s.rs, s.os⟩ o.dst (.tup []) s.os fun s' => vcOps T all r s' Q)
          | false => brB c (S.to ⟨s.n, (g, .val (.one (.v (.bool true)))) :: s.rs, s.os⟩ o.dst (.tup []) s.os fun s' => vcOps T all r s' Q)
              (vcOp T o ⟨s.n, (g, .val (.one (.v (.bool false)))) :: s.rs, s.os⟩ fun s' => vcOps T all r s' Q)
        | .tup [] => S.to s o.dst (.tup []) s.os fun s' => vcOps T all r s' Q
        | _ => False
      | none => False
section
variable {P : Program} {X : Ctx}
theorem Regs.put {E E' : Env} {n : Nat} {rs : List (Nat × Rv)} {a : Act} {d : Nat} {r : Rv} {v : Value} (h : Regs P E n (fun t => match lk rs t with | some r => r | none => .val (.one .undef)) a) (hle : E.le E') (hd : d < n) (hv : RV P E' r v) :
    Regs P E' n (fun t => match lk ((d, r) :: rs) t with | some r => r | none => .val (.one .undef)) (a.put (some d) v) := by
  refine ⟨h.defers, by simpa [Act.put] using h.size, fun t => ?_⟩
  by_cases e : d = t
  · subst e
    have hd' : d < a.tmps.size := by rw [h.size]; exact hd
    rw [lk_same]
    simp only [Act.put]
    rw [Array.getD_eq_getD_getElem?, Array.getElem?_setIfInBounds_self_of_lt hd']
    exact hv
  · rw [lk_ne _ _ e]
    simp only [Act.put]
    rw [Array.getD_eq_getD_getElem?, Array.getElem?_setIfInBounds_ne e, ← Array.getD_eq_getD_getElem?]
    exact RV.mono hle (h.reg t)
theorem to_ok {E E' : Env} {s : S} {a : Act} {d : Option Nat} {r : Rv} {v : Value} {os' : List (Nat × Obj')} {Q : S → Prop} (hr : Regs P E s.n s.ρ a) (hle : E.le E') (hI : Inv P X os' E') (hv : RV P E' r v) (h : s.to d r os' Q) :
    ∃ s', Sat P X s' (a.put d v) E'.w ∧ Q s' := by
  unfold S.to at h
  cases d with
  | none => exact ⟨⟨s.n, s.rs, os'⟩, ⟨E', rfl, hI, ⟨hr.defers, hr.size, fun t => RV.mono hle (hr.reg t)⟩⟩, h⟩
  | some d =>
    simp only at h
    split at h
    · rename_i hd
      exact ⟨_, ⟨E', rfl, hI, Regs.put hr hle (by simpa using hd) hv⟩, h⟩
    · exact h.elim
theorem vcOp_ok {T : Tab P} {o : Oper} {s : S} {a : Act} {w : World} {Q : S → Prop} (hS : Sat P X s a w) (h : vcOp T o s Q) {Kc : Act → World → Prop} {Qe : Exit → Act → World → Prop} (hK : ∀ s' a' w', Sat P X s' a' w' → Q s' → Kc a' w') : o.wp P a w Kc Qe := by
  obtain ⟨E, rfl, hI, hr⟩ := hS
  refine (act_ok T.hty hI hr h).wp ?_
  rintro v w' ⟨E', r, os', rfl, hle, hI', hv, hq⟩
  obtain ⟨s', h1, h2⟩ := to_ok hr hle hI' hv hq
  exact hK s' _ _ h1 h2
theorem Sat.known {s : S} {a : Act} {w : World} {g : Nat} {c : Bool} (hS : Sat P X s a w) (hg : s.ρ g = .val (.one (.v (.bool c)))) : a.tmps.getD g undef = .bool c ∧ ∀ b, b = c → Sat P X ⟨s.n, (g, .val (.one (.v (.bool b)))) :: s.rs, s.os⟩ a w := by
  obtain ⟨E, rfl, hI, hr⟩ := hS
  have h1 := hr.reg g
  rw [hg] at h1
  refine ⟨h1.1.1, fun b hb => ⟨E, rfl, hI, hr.defers, hr.size, fun t => ?_⟩⟩
  subst hb
  by_cases e : g = t
  · subst e
    simp only [S.ρ, lk_same]
    rw [← hg]
    exact hr.reg g
  · simp only [S.ρ, lk_ne _ _ e]
    exact hr.reg t
theorem wanted_of {all : List Oper} {o : Oper} {a : Act} {j g : Nat} {b c : Bool} (hg : o.guard = some (j, b)) (hd : gdst all j = some g) (hc : a.tmps.getD g undef = .bool c) : Region.wanted o (yielded all.toArray a.tmps) = (c == b) := by
  unfold gdst at hd
  split at hd
  · rename_i og hog
    rw [nth_eq] at hog
    have hy : yielded all.toArray a.tmps j = some c := by
      unfold yielded
      have e : (all.toArray[j]?).bind (fun o => o.dst) = some g := by simp [hog, hd]
      rw [e]
      simp only [Option.bind_some]
      rw [Array.getD_eq_getD_getElem?] at hc
      cases ht : a.tmps[g]? with
      | none => rw [ht] at hc; cases hc
      | some v =>
        rw [ht] at hc
        simp only [Option.getD_some] at hc
        subst hc
        rfl
    simp only [Region.wanted, hg, hy]
    cases c <;> cases b <;> rfl
  · cases hd
theorem wanted_tup {all : List Oper} {o : Oper} {j g : Nat} {b : Bool} {s : S} {a : Act} {w : World} (hg : o.guard = some (j, b)) (hd : gdst all j = some g) (hS : Sat P X s a w) (hc : s.ρ g = .tup []) : Region.wanted o (yielded all.toArray a.tmps) = false := by
  obtain ⟨E, rfl, hI, hr⟩ := hS
  have h1 := hr.reg g
  rw [hc] at h1
  obtain ⟨us, h1, h2⟩ := h1
  have : us = [] := by cases us <;> first | rfl | exact h2.elim
  subst this
  have hy : yielded all.toArray a.tmps j = none := by
    unfold gdst at hd
    split at hd
    · rename_i og hog
      rw [nth_eq] at hog
      unfold yielded
      have e : (all.toArray[j]?).bind (fun o => o.dst) = some g := by simp [hog, hd]
      rw [e]
      simp only [Option.bind_some]
      rw [Array.getD_eq_getD_getElem?] at h1
      cases ht : a.tmps[g]? with
      | none => rfl
      | some v =>
        rw [ht] at h1
        simp only [Option.getD_some] at h1
        subst h1
        rfl
    · cases hd
  simp only [Region.wanted, hg, hy]
  cases b <;> rfl
theorem vcOps_ok {T : Tab P} {all : List Oper} {Qe : Exit → Act → World → Prop} : ∀ {r : List Oper} {pre : List Oper} {s : S} {a : Act} {w : World} {Q : S → Prop}, all = pre ++ r → Sat P X s a w → vcOps T all r s Q →
    (∀ s' a' w', Sat P X s' a' w' → Q s' → Qe .normal a' w') → wpOps P all.toArray Qe (List.range' pre.length r.length) a w
  | [], pre, s, a, w, Q, _, hS, h, hQ => hQ s a w hS h
  | o :: r, pre, s, a, w, Q, hall, hS, h, hQ => by
    have hget : all.toArray[pre.length]? = some o := by simp [hall]
    have next : ∀ s' a' w', Sat P X s' a' w' → vcOps T all r s' Q → wpOps P all.toArray Qe (List.range' (pre.length + 1) r.length) a' w' := fun s' a' w' hS' h' => by
      have := vcOps_ok (pre := pre ++ [o]) (by simp [hall]) hS' h' hQ
      simpa using this
    have skip : ∀ s1 : S, Sat P X s1 a w → (S.to s1 o.dst (.tup []) s1.os fun s' => vcOps T all r s' Q) → wpOps P all.toArray Qe (List.range' (pre.length + 1) r.length) (a.put o.dst undef) w := fun s1 hS1 h1 => by
      obtain ⟨E, rfl, hI, hr⟩ := hS1
      obtain ⟨s', h2, h3⟩ := to_ok (r := .tup []) (v := undef) hr (.refl E) hI ⟨[], rfl, trivial⟩ h1
      exact next s' _ _ h2 h3
    simp only [List.length_cons, List.range'_succ, wpOps, hget]
    simp only [vcOps] at h
    split at h
    · rename_i hg
      have hw : Region.wanted o (yielded all.toArray a.tmps) = true := by simp [Region.wanted, hg]
      rw [if_pos hw]
      exact .inl (vcOp_ok hS h (fun s' a' w' h1 h2 => next s' a' w' h1 h2))
    · rename_i j b hg
      split at h
      · rename_i g hd
        split at h
        · rename_i c hc
          obtain ⟨h1, h2⟩ := hS.known hc
          have hw := wanted_of hg hd h1
          split at h
          · cases c
            · rw [hw, if_neg (by simp)]
              exact skip _ (h2 false rfl) h
            · rw [hw, if_pos (by simp)]
              exact .inl (vcOp_ok (h2 true rfl) h (fun s' a' w' h1 h2 => next s' a' w' h1 h2))
          · cases c
            · rw [hw, if_pos (by simp)]
              exact .inl (vcOp_ok (h2 false rfl) h (fun s' a' w' h1 h2 => next s' a' w' h1 h2))
            · rw [hw, if_neg (by simp)]
              exact skip _ (h2 true rfl) h
        · rename_i hc
          have hw : Region.wanted o (yielded all.toArray a.tmps) = false := by
            obtain ⟨E, rfl, hI, hr⟩ := hS
            have h1 := hr.reg g
            rw [hc] at h1
            obtain ⟨us, h1, h2⟩ := h1
            have : us = [] := by cases us <;> first | rfl | exact h2.elim
            subst this
            have hy : yielded all.toArray a.tmps j = none := by
              unfold gdst at hd
              split at hd
              · rename_i og hog
                rw [nth_eq] at hog
                unfold yielded
                have e : (all.toArray[j]?).bind (fun o => o.dst) = some g := by simp [hog, hd]
                rw [e]
                simp only [Option.bind_some]
                rw [Array.getD_eq_getD_getElem?] at h1
                cases ht : a.tmps[g]? with
                | none => rfl
                | some v =>
                  rw [ht] at h1
                  simp only [Option.getD_some] at h1
                  subst h1
                  rfl
              · cases hd
            simp only [Region.wanted, hg, hy]
            cases b <;> rfl
          rw [hw, if_neg (by simp)]
          exact skip _ hS h
        · exact h.elim
      · exact h.elim
end
/-- A text over a state, told by the walk's own words. -/
def Holds (P : Program) (X : Ctx) (c : Code) (s : S) (Q : Exit → S → Prop) : Prop :=
  ∀ (a : Act) (w : World) (Qe : Exit → Act → World → Prop), Sat P X s a w → (∀ e s' a' w', Sat P X s' a' w' → Q e s' → Qe e a' w') → c.wp P Qe a w
end Go.Proofs.YthfmlelodmcgkaaGreat.V

set_option linter.unusedVariables false
set_option linter.unusedSimpArgs false
set_option linter.unusedSectionVars false
namespace Go.Proofs.YthfmlelodmcgkaaGreat.V
open Go
def M.runT : M → List (Nat × Obj') → List Nat → List Nat → (Rv → List (Nat × Obj') → List Nat → List Nat → Prop) → Prop
  | .ret r, os, R, W, K => K r os R W
  | .need p k, os, R, W, K => p ∧ k.runT os R W K
  | .br b k1 k2, os, R, W, K => brB b (k1.runT os R W K) (k2.runT os R W K)
  | .get i k, os, R, W, K => match lk os i with | some o => (k o).runT os (i :: R) W K | none => False
  | .put i o k, os, R, W, K => match lk os i with | some _ => k.runT ((i, o) :: os) (i :: R) (i :: W) K | none => False
  | .new i o k, os, R, W, K => match lk os i with | none => k.runT ((i, o) :: os) (i :: R) (i :: W) K | some _ => False
  | .all _ _, _, _, _, _ => False
  | .any _ _, _, _, _, _ => False
  | .fail, _, _, _, _ => False
theorem lk_append {α : Type} : ∀ (Δ os : List (Nat × α)) (t : Nat), lk (Δ ++ os) t = match lk Δ t with | some x => some x | none => lk os t
  | [], os, t => rfl
  | (j, x) :: r, os, t => by
    simp only [List.cons_append, lk]
    split
    · rfl
    · exact lk_append r os t
theorem runT_fr : ∀ {m : M} {os : List (Nat × Obj')} {R W : List Nat} {K : Rv → List (Nat × Obj') → List Nat → List Nat → Prop}, m.runT os R W K →
    ∃ r Δ R' W', K r (Δ ++ os) (R' ++ R) (W' ++ W) ∧ (∀ t, lk Δ t ≠ none → t ∈ W') ∧ (∀ i ∈ W', i ∈ R') ∧ ∀ os₁, (∀ i ∈ R', lk os₁ i = lk os i) → ∀ K₁ : Rv → List (Nat × Obj') → Prop, K₁ r (Δ ++ os₁) → m.run os₁ K₁
  | .ret r, os, R, W, K, h => ⟨r, [], [], [], h, (fun t h => absurd rfl h), (fun i h => by cases h), fun os₁ _ K₁ h => h⟩
  | .need p k, os, R, W, K, h => by
    obtain ⟨r, Δ, R', W', h1, h2, h3, h4⟩ := runT_fr h.2
    exact ⟨r, Δ, R', W', h1, h2, h3, fun os₁ ha K₁ hk => ⟨h.1, h4 os₁ ha K₁ hk⟩⟩
  | .br b k1 k2, os, R, W, K, h => by
    cases b
    · exact runT_fr (m := k2) h
    · exact runT_fr (m := k1) h
  | .get i k, os, R, W, K, h => by
    simp only [M.runT] at h
    split at h
    · rename_i o ho
      obtain ⟨r, Δ, R', W', h1, h2, h3, h4⟩ := runT_fr h
      refine ⟨r, Δ, R' ++ [i], W', by simpa using h1, h2, fun j hj => List.mem_append_left _ (h3 j hj), fun os₁ ha K₁ hk => ?_⟩
      simp only [M.run, ha i (by simp), ho]
      exact h4 os₁ (fun j hj => ha j (List.mem_append_left _ hj)) K₁ hk
    · exact h.elim
  | .put i o k, os, R, W, K, h => by
    simp only [M.runT] at h
    split at h
    · rename_i o' ho
      obtain ⟨r, Δ, R', W', h1, h2, h3, h4⟩ := runT_fr h
      refine ⟨r, Δ ++ [(i, o)], R' ++ [i], W' ++ [i], by simpa using h1, fun t ht => ?_, fun j hj => ?_, fun os₁ ha K₁ hk => ?_⟩
      · rw [lk_append] at ht
        by_cases e : lk Δ t = none
        · rw [e] at ht
          by_cases e2 : i = t
          · simp [e2]
          · simp only [lk_ne _ _ e2] at ht
            exact absurd rfl ht
        · exact List.mem_append_left _ (h2 t e)
      · rcases List.mem_append.1 hj with hj | hj
        · exact List.mem_append_left _ (h3 j hj)
        · exact List.mem_append_right _ hj
      · simp only [M.run, ha i (by simp), ho]
        refine h4 _ (fun j hj => ?_) K₁ (by simpa using hk)
        by_cases e : i = j
        · subst e; rw [lk_same, lk_same]
        · rw [lk_ne _ _ e, lk_ne _ _ e]
          exact ha j (List.mem_append_left _ hj)
    · exact h.elim
  | .new i o k, os, R, W, K, h => by
    simp only [M.runT] at h
    split at h
    · rename_i ho
      obtain ⟨r, Δ, R', W', h1, h2, h3, h4⟩ := runT_fr h
      refine ⟨r, Δ ++ [(i, o)], R' ++ [i], W' ++ [i], by simpa using h1, fun t ht => ?_, fun j hj => ?_, fun os₁ ha K₁ hk => ?_⟩
      · rw [lk_append] at ht
        by_cases e : lk Δ t = none
        · rw [e] at ht
          by_cases e2 : i = t
          · simp [e2]
          · simp only [lk_ne _ _ e2] at ht
            exact absurd rfl ht
        · exact List.mem_append_left _ (h2 t e)
      · rcases List.mem_append.1 hj with hj | hj
        · exact List.mem_append_left _ (h3 j hj)
        · exact List.mem_append_right _ hj
      · simp only [M.run, ha i (by simp), ho]
        refine h4 _ (fun j hj => ?_) K₁ (by simpa using hk)
        by_cases e : i = j
        · subst e; rw [lk_same, lk_same]
        · rw [lk_ne _ _ e, lk_ne _ _ e]
          exact ha j (List.mem_append_left _ hj)
    · exact h.elim
/-! ### what an operation reads of the registers -/
def calleeO : Callee → List Operand
  | .value f => [f]
  | _ => []
def opnds : Op → List Operand
  | .move x => [x] | .assign x => [x] | .pick c a b => [c, a, b] | .box _ x => [x] | .buildSlice _ _ ps => ps.toList.map (·.2) | .load _ x => [x] | .store _ x z => [x, z]
  | .binOp _ _ x y _ => [x, y] | .unOp _ _ x => [x] | .convert _ _ x => [x] | .makeSlice _ l c => [l, c] | .slice _ x lo hi mx => x :: (lo.toList ++ hi.toList ++ mx.toList)
  | .fieldAddr _ x _ => [x] | .indexAddr _ x ix => [x, ix] | .extract t _ => [t] | .call c => c.args.toList ++ calleeO c.callee
  | .build _ ps => ps.toList.map (·.2) | .nilCheck x => [x] | .index _ x ix => [x, ix] | .makeFunc _ _ caps => caps.toList
  | .field _ x _ => [x] | .lookup _ x key _ => [x, key] | .mapUpdate _ x key v => [x, key, v] | .range _ x => [x] | .next x _ => [x] | .entry x => [x]
  | _ => []
def tmpsOf : List Operand → List Nat
  | [] => []
  | .tmp t :: r => t :: tmpsOf r
  | _ :: r => tmpsOf r
theorem ev_congr {ρ ρ' : Nat → Rv} : ∀ {l : List Operand}, (∀ t ∈ tmpsOf l, ρ t = ρ' t) → ∀ x ∈ l, ev ρ x = ev ρ' x
  | y :: r, h, x, hx => by
    rcases List.mem_cons.1 hx with rfl | hx
    · cases x <;> first | rfl | exact h _ (by simp [tmpsOf])
    · exact ev_congr (l := r) (fun t ht => h t (by cases y <;> simp [tmpsOf, ht])) x hx
theorem elems_congr {k : Kn} {ρ ρ' : Nat → Rv} : ∀ {l : List (Nat × Operand)} {i : Nat} {K : List k.T → M}, (∀ x ∈ l.map (·.2), ev ρ x = ev ρ' x) → elems k ρ i l K = elems k ρ' i l K
  | [], i, K, _ => rfl
  | (j, x) :: r, i, K, h => by
    simp only [elems]
    rw [h x (by simp)]
    have : ∀ K, elems k ρ (i + 1) r K = elems k ρ' (i + 1) r K := fun K => elems_congr (fun x hx => h x (by simp at hx ⊢; exact .inr hx))
    simp only [this]
theorem valsV_congr {k : Kn} {ρ ρ' : Nat → Rv} : ∀ {l : List (Nat × Operand)} {i : Nat}, (∀ x ∈ l.map (·.2), ev ρ x = ev ρ' x) → valsV k ρ i l = valsV k ρ' i l
  | [], i, _ => rfl
  | (j, x) :: r, i, h => by
    simp only [valsV]
    rw [h x (by simp), valsV_congr (l := r) (fun x hx => h x (by simp at hx ⊢; exact .inr hx))]
theorem evF_congr {P : Program} {L : Lib P} {ρ ρ' : Nat → Rv} {x : Operand} (h : ev ρ x = ev ρ' x) : evF L ρ x = evF L ρ' x := by
  cases x <;> first | exact h | (simp only [evF]; split <;> first | rfl | exact h)
theorem evFs_congr {P : Program} {L : Lib P} {ρ ρ' : Nat → Rv} : ∀ {l : List Operand}, (∀ x ∈ l, ev ρ x = ev ρ' x) → evFs L ρ l = evFs L ρ' l
  | [], _ => rfl
  | x :: r, h => by simp only [evFs]; rw [evF_congr (h x (by simp)), evFs_congr (fun y hy => h y (by simp [hy]))]
theorem evP_congr {ρ ρ' : Nat → Rv} : ∀ {l : List (Nat × Operand)}, (∀ x ∈ l.map (·.2), ev ρ x = ev ρ' x) → evP ρ l = evP ρ' l
  | [], _ => rfl
  | (i, x) :: r, h => by simp only [evP]; rw [h x (by simp), evP_congr (fun y hy => h y (by simp at hy ⊢; exact .inr hy))]
theorem elemsD_congr {k : Kn} {ρ ρ' : Nat → Rv} : ∀ {l : List (Nat × Operand)} {i : Nat} {K : List k.T → M}, (∀ x ∈ l.map (·.2), ev ρ x = ev ρ' x) → elemsD k ρ i l K = elemsD k ρ' i l K
  | [], _, _, _ => rfl
  | (j, x) :: r, i, K, h => by
    simp only [elemsD]
    rw [h x (by simp)]
    have : ∀ K, elemsD k ρ (i + 1) r K = elemsD k ρ' (i + 1) r K := fun K => elemsD_congr (fun x hx => h x (by simp at hx ⊢; exact .inr hx))
    simp only [this]
theorem ownP_congr {ρ ρ' : Nat → Rv} : ∀ {l : List (Nat × Operand)}, (∀ x ∈ l.map (·.2), ev ρ x = ev ρ' x) → ownP ρ l = ownP ρ' l
  | [], _ => rfl
  | (j, x) :: r, h => by
    simp only [ownP]
    rw [h x (by simp), ownP_congr (l := r) (fun y hy => h y (by simp at hy ⊢; exact .inr hy))]
theorem nestE_congr {tys : List Ty} {t : Nat} {ρ ρ' : Nat → Rv} {l : List (Nat × Operand)} (h : ∀ x ∈ l.map (·.2), ev ρ x = ev ρ' x) : nestE tys t l ρ = nestE tys t l ρ' := by
  cases l with
  | nil => rfl
  | cons p r => exact ownP_congr h
theorem act_congr {P : Program} {tys : List Ty} {ctrs : Lib P} {d : Nat} {ρ ρ' : Nat → Rv} {op : Op} (h : ∀ t ∈ tmpsOf (opnds op), ρ t = ρ' t) : act tys ctrs d ρ op = act tys ctrs d ρ' op := by
  have he := ev_congr h
  cases op <;> (try simp only [opnds] at he)
  case makeMap t hint => cases hint <;> rfl
  case lookup t x key c => cases c <;> simp only [act] <;> rw [he x (by simp), he key (by simp)]
  case next x c => cases c <;> simp only [act] <;> rw [he x (by simp)]
  all_goals simp only [act]
  case buildSlice t n parts => simp only [litN, litM, litD, valsV_congr he, elems_congr he, elemsD_congr he, nestE_congr he]
  case slice t x lo hi mx =>
    rw [he x (by simp)]
    have a1 : lo.map (ev ρ) = lo.map (ev ρ') := by cases lo <;> simp; exact he _ (by simp)
    have a2 : hi.map (ev ρ) = hi.map (ev ρ') := by cases hi <;> simp; exact he _ (by simp)
    have a3 : mx.map (ev ρ) = mx.map (ev ρ') := by cases mx <;> simp; exact he _ (by simp)
    rw [a1, a2, a3]
  case call c =>
    unfold callA
    split
    · split
      · rename_i s x t t2 e1 e2
        rw [he s (by rw [e1]; simp), he x (by rw [e1]; simp)]
      · rfl
    · split
      · rename_i x t e1 e2
        rw [he x (by rw [e1]; simp)]
      · rfl
    · split
      · rename_i x y e1
        rw [he x (by rw [e1]; simp), he y (by rw [e1]; simp)]
      · rfl
    · split
      · rename_i x y e1
        rw [he x (by rw [e1]; simp), he y (by rw [e1]; simp)]
      · rfl
    · rw [evFs_congr (fun x hx => he x (by simp [hx]))]
    · rename_i t e
      have ht := he (.tmp t) (by simp [e, calleeO])
      simp only [ev] at ht
      rw [evFs_congr (fun x hx => he x (by simp [hx])), ht]
    · rfl
  case move x => rw [evF_congr (he _ (by simp))]
  case assign x => rw [evF_congr (he _ (by simp))]
  case box t x => rw [evF_congr (he _ (by simp))]
  case build t ps => rw [evP_congr he]
  case makeFunc fn first caps => rw [evFs_congr he]
  all_goals (repeat rw [he _ (by simp)])
/-! ### lists of what operations lay, of which some are chosen -/
def selS {α : Type} : List (List (Nat × α)) → (Nat → Bool) → Nat → List (Nat × α) → List (Nat × α)
  | [], _, _, b => b
  | Δ :: r, sel, j, b => selS r sel (j + 1) (if sel j = true then Δ ++ b else b)
section
variable {α : Type}
theorem selS_agree {t : Nat} : ∀ {Ds : List (List (Nat × α))} {sel sel' : Nat → Bool} {j : Nat} {b b' : List (Nat × α)}, (∀ k Δ, Ds[k]? = some Δ → lk Δ t ≠ none → sel (j + k) = sel' (j + k)) → lk b t = lk b' t → lk (selS Ds sel j b) t = lk (selS Ds sel' j b') t
  | [], sel, sel', j, b, b', _, hb => hb
  | Δ :: r, sel, sel', j, b, b', h, hb => by
    simp only [selS]
    refine selS_agree (fun k Δ' hk hn => ?_) ?_
    · have := h (k + 1) Δ' (by simpa using hk) hn
      rwa [show j + (k + 1) = j + 1 + k from by omega] at this
    · have h0 := h 0 Δ rfl
      by_cases hn : lk Δ t = none
      · have e : ∀ x : List (Nat × α), lk (Δ ++ x) t = lk x t := fun x => by rw [lk_append, hn]
        split <;> split <;> simp only [e, hb]
      · have := h0 hn
        rw [Nat.add_zero] at this
        rw [this]
        split
        · rw [lk_append, lk_append, hb]
        · exact hb
theorem selS_last {t : Nat} {x : α} : ∀ {Ds : List (List (Nat × α))} {sel : Nat → Bool} {j i : Nat} {b : List (Nat × α)} {Δ : List (Nat × α)}, Ds[i]? = some Δ → sel (j + i) = true → lk Δ t = some x →
    (∀ k Δ', i < k → Ds[k]? = some Δ' → sel (j + k) = true → lk Δ' t = none) → lk (selS Ds sel j b) t = some x
  | [], sel, j, i, b, Δ, h, _, _, _ => by simp at h
  | D :: r, sel, j, 0, b, Δ, h, hs, hx, hl => by
    simp only [List.getElem?_cons_zero, Option.some.injEq] at h
    subst h
    simp only [selS, show sel j = true from hs, if_true]
    have : lk (selS r (fun _ => false) (j + 1) (D ++ b)) t = some x := by
      have e : ∀ (r : List (List (Nat × α))) j (b : List (Nat × α)), selS r (fun _ => false) j b = b := by
        intro r
        induction r with
        | nil => intro j b; rfl
        | cons D r ih => intro j b; simp only [selS]; rw [ih]; simp
      rw [e, lk_append, hx]
    rw [← this]
    refine selS_agree (fun k Δ' hk hn => ?_) rfl
    cases hsk : sel (j + 1 + k) with
    | false => rfl
    | true => exact absurd (hl (k + 1) Δ' (by omega) (by simpa using hk) (by rw [← hsk]; congr 1; omega)) hn
  | D :: r, sel, j, i + 1, b, Δ, h, hs, hx, hl => by
    simp only [selS]
    refine selS_last (i := i) (by simpa using h) (by rw [← hs]; congr 1; omega) hx (fun k Δ' hk hk' hs' => hl (k + 1) Δ' (by omega) (by simpa using hk') (by rw [← hs']; congr 1; omega))
def up (sel : Nat → Bool) (i : Nat) : Nat → Bool := fun k => if k = i then true else sel k
theorem selS_up {Ds : List (List (Nat × α))} {sel : Nat → Bool} {i : Nat} {b : List (Nat × α)} {Δ : List (Nat × α)} (hD : Ds[i]? = some Δ) (hl : ∀ t, lk Δ t ≠ none → ∀ k Δ', i < k → Ds[k]? = some Δ' → sel k = true → lk Δ' t = none) (t : Nat) :
    lk (selS Ds (up sel i) 0 b) t = lk (Δ ++ selS Ds sel 0 b) t := by
  rw [lk_append]
  cases hx : lk Δ t with
  | some x =>
    refine selS_last (i := i) hD (by simp [up]) hx (fun k Δ' hk hk' hs => hl t (by rw [hx]; simp) k Δ' hk hk' ?_)
    have hne : k ≠ i := by omega
    simpa [up, hne] using hs
  | none =>
    refine selS_agree (fun k Δ' hk hn => ?_) rfl
    have hne : k ≠ i := fun e => by
      subst e
      rw [hD] at hk
      injection hk with hk
      exact hn (hk ▸ hx)
    simp [up, hne]
theorem selS_shift : ∀ {Ds : List (List (Nat × α))} {sel : Nat → Bool} {j : Nat} {b : List (Nat × α)}, selS Ds sel (j + 1) b = selS Ds (fun k => sel (k + 1)) j b
  | [], _, _, _ => rfl
  | D :: r, sel, j, b => by simp only [selS]; exact selS_shift
end
/-! ### the order of a region's operations -/
def depsOf (o : Oper) : List Nat := (o.after.toList.filter (fun e => Region.binds .any e)).map (·.on)
def ancs : List Oper → List (List Nat) → List (List Nat)
  | [], acc => acc
  | o :: r, acc => ancs r (acc ++ [(depsOf o).foldl (fun s d => s ++ d :: acc.getD d []) []])
def looks (all : List Oper) (o : Oper) : List Nat :=
  tmpsOf (opnds o.op) ++ (match o.guard with | some (j, _) => (gdst all j).toList | none => [])
def disj (a b : List Nat) : Bool := a.all fun x => !b.contains x
def ordB (A : List (List Nat)) (i j : Nat) : Bool := (A.getD i []).contains j || (A.getD j []).contains i
/-- Every edge goes back; the tables of what is ahead say no more than the edges; what is not ordered touches nothing of one another. -/
def drawB (all : List Oper) (A : List (List Nat)) (ts : List (List Nat × List Nat)) : Bool :=
  (List.range all.length).all fun i => match all[i]? with
    | none => false
    | some o => (depsOf o).all (fun d => decide (d < i)) &&
      (A.getD i []).all (fun x => (depsOf o).contains x || (depsOf o).any fun d => (A.getD d []).contains x) &&
      (List.range i).all fun j => match all[j]? with
        | none => false
        | some p => ordB A i j ||
          (disj (ts.getD i ([], [])).2 (ts.getD j ([], [])).1 && disj (ts.getD j ([], [])).2 (ts.getD i ([], [])).1 &&
           disj o.dst.toList (looks all p) && disj p.dst.toList (looks all o) && disj o.dst.toList p.dst.toList)
def vcOpT {P : Program} (T : Tab P) (o : Oper) (s : S) (Q : S → List Nat × List Nat → Prop) : Prop :=
  (act T.tys T.ctrs (dof o.dst) s.ρ o.op).runT s.os [] [] fun v os' R W => s.to o.dst v os' fun s' => Q s' (R, W)
def vcOpsT {P : Program} (T : Tab P) (all : List Oper) : List Oper → S → List (List Nat × List Nat) → (S → List (List Nat × List Nat) → Prop) → Prop
  | [], s, ts, Q => Q s ts
  | o :: r, s, ts, Q => match o.guard with
    | none => vcOpT T o s fun s' t => vcOpsT T all r s' (ts ++ [t]) Q
    | some (j, b) => match gdst all j with
      | some g => match s.ρ g with
        | .val (.one (.v (.bool c))) => match b with
          | true => brB c (vcOpT T o ⟨s.n, (g, .val (.one (.v (.bool true)))) :: s.rs, s.os⟩ fun s' t => vcOpsT T all r s' (ts ++ [t]) Q)
              (S.to ⟨s.n, (g, .val (.one (.v (.bool false)))) :: s.rs, s.os⟩ o.dst (.tup []) s.os fun s' => vcOpsT T all r s' (ts ++ [([], [])]) Q)
          | false => brB c (S.to ⟨s.n, (g, .val (.one (.v (.bool true)))) :: s.rs, s.os⟩ o.dst (.tup []) s.os fun s' => vcOpsT T all r s' (ts ++ [([], [])]) Q)
              (vcOpT T o ⟨s.n, (g, .val (.one (.v (.bool false)))) :: s.rs, s.os⟩ fun s' t => vcOpsT T all r s' (ts ++ [t]) Q)
        | .tup [] => S.to s o.dst (.tup []) s.os fun s' => vcOpsT T all r s' (ts ++ [([], [])]) Q
        | _ => False
      | none => False
section
variable {P : Program} {X : Ctx}
def ρo (rs : List (Nat × Rv)) (t : Nat) : Rv := match lk rs t with | some r => r | none => .val (.one .undef)
theorem Sat.congr {n : Nat} {rs rs' : List (Nat × Rv)} {os os' : List (Nat × Obj')} {a : Act} {w : World} (h : Sat P X ⟨n, rs, os⟩ a w) (h1 : ∀ t, ρo rs' t = ρo rs t) (h2 : ∀ i, lk os' i = lk os i) : Sat P X ⟨n, rs', os'⟩ a w := by
  obtain ⟨E, hw, hI, hr⟩ := h
  refine ⟨E, hw, Inv.congr h2 hI, hr.defers, hr.size, fun t => ?_⟩
  have := hr.reg t
  have e : (S.mk n rs' os').ρ t = (S.mk n rs os).ρ t := h1 t
  rw [e]
  exact this
/-- What an operation does, wherever the registers and objects that it looks at are as they were. -/
structure Rec where
  δ : List (Nat × Rv)
  Δ : List (Nat × Obj')
  R : List Nat
  W : List Nat
structure Step (P : Program) (X : Ctx) (n : Nat) (all : List Oper) (o : Oper) (rs : List (Nat × Rv)) (os : List (Nat × Obj')) (c : Rec) : Prop where
  dst : ∀ t, lk c.δ t ≠ none → o.dst = some t
  ids : ∀ t, lk c.Δ t ≠ none → t ∈ c.W
  sub : ∀ i ∈ c.W, i ∈ c.R
  run : ∀ rs₁ os₁, (∀ t ∈ looks all o, ρo rs₁ t = ρo rs t) → (∀ i ∈ c.R, lk os₁ i = lk os i) → ∀ a w, Sat P X ⟨n, rs₁, os₁⟩ a w → ∀ (Kc : Act → World → Prop) (Qe : Exit → Act → World → Prop),
    (∀ a' w', Sat P X ⟨n, c.δ ++ rs₁, c.Δ ++ os₁⟩ a' w' → Kc a' w') → if Region.wanted o (yielded all.toArray a.tmps) then o.wp P a w Kc Qe else Kc (a.put o.dst undef) w
inductive Path (P : Program) (X : Ctx) (n : Nat) (all : List Oper) : List Oper → List (Nat × Rv) → List (Nat × Obj') → List Rec → Prop
  | nil {rs os} : Path P X n all [] rs os []
  | cons {o r rs os c cs} : Step P X n all o rs os c → Path P X n all r (c.δ ++ rs) (c.Δ ++ os) cs → Path P X n all (o :: r) rs os (c :: cs)
theorem ρo_ne {rs : List (Nat × Rv)} {d t : Nat} {r : Rv} (h : d ≠ t) : ρo ((d, r) :: rs) t = ρo rs t := by simp only [ρo, lk_ne _ _ h]
theorem ρo_app {δ rs : List (Nat × Rv)} {rs' : List (Nat × Rv)} {t : Nat} (h : ρo rs t = ρo rs' t) : ρo (δ ++ rs) t = ρo (δ ++ rs') t := by
  simp only [ρo, lk_append] at h ⊢
  cases lk δ t with
  | some x => rfl
  | none => exact h
theorem selS_ρ {t : Nat} : ∀ {Ds : List (List (Nat × Rv))} {sel : Nat → Bool} {j : Nat} {b b' : List (Nat × Rv)}, ρo b t = ρo b' t → ρo (selS Ds sel j b) t = ρo (selS Ds sel j b') t
  | [], _, _, _, _, h => h
  | D :: r, sel, j, b, b', h => by
    simp only [selS]
    refine selS_ρ ?_
    split
    · exact ρo_app h
    · exact h
theorem Sat.back {n : Nat} {rs rs' : List (Nat × Rv)} {os : List (Nat × Obj')} {a : Act} {w : World} (h : Sat P X ⟨n, rs, os⟩ a w) (h1 : ∀ t, ρo rs' t = ρo rs t) : Sat P X ⟨n, rs', os⟩ a w := h.congr h1 (fun _ => rfl)
theorem step_of {T : Tab P} {all : List Oper} {o : Oper} {s : S} {Q : S → List Nat × List Nat → Prop} (h : vcOpT T o s Q)
    (hw : ∀ rs₁ os₁ a w, (∀ t ∈ looks all o, ρo rs₁ t = s.ρ t) → Sat P X ⟨s.n, rs₁, os₁⟩ a w → Region.wanted o (yielded all.toArray a.tmps) = true) :
    ∃ c, Step P X s.n all o s.rs s.os c ∧ Q ⟨s.n, c.δ ++ s.rs, c.Δ ++ s.os⟩ (c.R, c.W) := by
  obtain ⟨r, Δ, R', W', h1, h2, h3, h4⟩ := runT_fr h
  simp only [List.append_nil] at h1
  have main : ∀ (δ : List (Nat × Rv)), (∀ t, lk δ t ≠ none → o.dst = some t) → (∀ rs₁ os₁, s.to o.dst r (Δ ++ s.os) (fun s' => s' = ⟨s.n, δ ++ s.rs, Δ ++ s.os⟩) → (S.mk s.n rs₁ os₁).to o.dst r (Δ ++ os₁) (fun s' => s' = ⟨s.n, δ ++ rs₁, Δ ++ os₁⟩)) →
      s.to o.dst r (Δ ++ s.os) (fun s' => s' = ⟨s.n, δ ++ s.rs, Δ ++ s.os⟩) → Step P X s.n all o s.rs s.os ⟨δ, Δ, R', W'⟩ := by
    intro δ hδ hto hs
    refine ⟨hδ, h2, h3, fun rs₁ os₁ hr ho a w hS Kc Qe hK => ?_⟩
    rw [if_pos (hw rs₁ os₁ a w hr hS)]
    have hρ : ∀ t ∈ tmpsOf (opnds o.op), (S.mk s.n rs₁ os₁).ρ t = s.ρ t := fun t ht => hr t (List.mem_append_left _ ht)
    refine vcOp_ok (T := T) (s := ⟨s.n, rs₁, os₁⟩) (Q := fun s' => s' = ⟨s.n, δ ++ rs₁, Δ ++ os₁⟩) hS ?_ (fun s' a' w' h5 h6 => by subst h6; exact hK a' w' h5)
    unfold vcOp
    rw [act_congr hρ]
    exact h4 os₁ ho _ (hto rs₁ os₁ hs)
  unfold S.to at h1
  cases hd : o.dst with
  | none =>
    rw [hd] at h1
    exact ⟨⟨[], Δ, R', W'⟩, main [] (fun t ht => absurd rfl ht) (fun rs₁ os₁ _ => by rw [hd]; rfl) (by rw [hd]; rfl), h1⟩
  | some d =>
    rw [hd] at h1
    simp only at h1
    split at h1
    · rename_i hlt
      refine ⟨⟨[(d, r)], Δ, R', W'⟩, main [(d, r)] (fun t ht => ?_) (fun rs₁ os₁ _ => ?_) ?_, h1⟩
      · by_cases e : d = t
        · rw [hd, e]
        · rw [lk_ne _ _ e] at ht
          exact absurd rfl ht
      · rw [hd]; simp only [S.to, hlt]; rfl
      · rw [hd]; simp only [S.to, hlt]; rfl
    · exact h1.elim
theorem skip_of {all : List Oper} {o : Oper} {s : S} {Q : S → Prop} (h : s.to o.dst (.tup []) s.os Q)
    (hw : ∀ rs₁ os₁ a w, (∀ t ∈ looks all o, ρo rs₁ t = s.ρ t) → Sat P X ⟨s.n, rs₁, os₁⟩ a w → Region.wanted o (yielded all.toArray a.tmps) = false) :
    ∃ c, Step P X s.n all o s.rs s.os c ∧ c.Δ = [] ∧ c.R = [] ∧ c.W = [] ∧ Q ⟨s.n, c.δ ++ s.rs, s.os⟩ := by
  unfold S.to at h
  cases hd : o.dst with
  | none =>
    rw [hd] at h
    refine ⟨⟨[], [], [], []⟩, ⟨fun t ht => absurd rfl ht, fun t ht => absurd rfl ht, (fun i hi => by cases hi), fun rs₁ os₁ hr ho a w hS Kc Qe hK => ?_⟩, rfl, rfl, rfl, h⟩
    rw [if_neg (by rw [hw rs₁ os₁ a w hr hS]; simp), hd]
    exact hK a w hS
  | some d =>
    rw [hd] at h
    simp only at h
    split at h
    · rename_i hlt
      refine ⟨⟨[(d, .tup [])], [], [], []⟩, ⟨fun t ht => ?_, fun t ht => absurd rfl ht, (fun i hi => by cases hi), fun rs₁ os₁ hr ho a w hS Kc Qe hK => ?_⟩, rfl, rfl, rfl, h⟩
      · by_cases e : d = t
        · rw [hd, e]
        · rw [lk_ne _ _ e] at ht
          exact absurd rfl ht
      · rw [if_neg (by rw [hw rs₁ os₁ a w hr hS]; simp), hd]
        obtain ⟨E, rfl, hI, hrr⟩ := hS
        exact hK _ _ ⟨E, rfl, hI, Regs.put (r := .tup []) hrr (.refl E) (by simpa using hlt) ⟨[], rfl, trivial⟩⟩
    · exact h.elim
theorem Step.congr {n : Nat} {all : List Oper} {o : Oper} {rs rs' : List (Nat × Rv)} {os : List (Nat × Obj')} {c : Rec} (h : Step P X n all o rs os c) (hr : ∀ t, ρo rs' t = ρo rs t) : Step P X n all o rs' os c :=
  ⟨h.dst, h.ids, h.sub, fun rs₁ os₁ h1 h2 => h.run rs₁ os₁ (fun t ht => (h1 t ht).trans (hr t)) h2⟩
theorem Path.congr {n : Nat} {all r : List Oper} {rs : List (Nat × Rv)} {os : List (Nat × Obj')} {cs : List Rec} (h : Path P X n all r rs os cs) : ∀ {rs' : List (Nat × Rv)}, (∀ t, ρo rs' t = ρo rs t) → Path P X n all r rs' os cs := by
  induction h with
  | nil => intro rs' _; exact .nil
  | cons h1 h2 ih => intro rs' hr; exact .cons (h1.congr hr) (ih (fun t => ρo_app (hr t)))
def PathTo (P : Program) (X : Ctx) (all r : List Oper) (s : S) (ts : List (List Nat × List Nat)) (Q : S → List (List Nat × List Nat) → Prop) : Prop :=
  ∃ cs, Path P X s.n all r s.rs s.os cs ∧ ∃ s', Q s' (ts ++ cs.map fun c => (c.R, c.W)) ∧ s'.n = s.n ∧ (∀ t, ρo s'.rs t = ρo (selS (cs.map (·.δ)) (fun _ => true) 0 s.rs) t) ∧ s'.os = selS (cs.map (·.Δ)) (fun _ => true) 0 s.os ∧ cs.length = r.length
theorem path_of {T : Tab P} {all : List Oper} : ∀ {r : List Oper} {s : S} {ts : List (List Nat × List Nat)} {Q : S → List (List Nat × List Nat) → Prop}, vcOpsT T all r s ts Q → PathTo P X all r s ts Q
  | [], s, ts, Q, h => ⟨[], .nil, s, by simpa [vcOpsT] using h, rfl, fun _ => rfl, rfl, rfl⟩
  | o :: r, s, ts, Q, h => by
    have next : ∀ (c : Rec) (rs0 : List (Nat × Rv)), (∀ t, ρo rs0 t = ρo s.rs t) → Step P X s.n all o s.rs s.os c → vcOpsT T all r ⟨s.n, c.δ ++ rs0, c.Δ ++ s.os⟩ (ts ++ [(c.R, c.W)]) Q →
        PathTo P X all (o :: r) s ts Q := by
      intro c rs0 hr0 hst hv
      obtain ⟨cs, h1, s', h2, h3, h4, h5, h6⟩ := path_of hv
      refine ⟨c :: cs, .cons hst (h1.congr (fun t => ρo_app (hr0 t).symm)), s', by simpa using h2, h3, fun t => ?_, ?_, by simp [h6]⟩
      · rw [h4 t]
        simp only [List.map_cons, selS, if_true]
        rw [selS_shift]
        exact selS_ρ (ρo_app (hr0 t))
      · rw [h5]
        simp only [List.map_cons, selS, if_true]
        rw [selS_shift]
    simp only [vcOpsT] at h
    split at h
    · rename_i hg
      obtain ⟨c, hst, hq⟩ := step_of (X := X) (all := all) h (fun rs₁ os₁ a w _ _ => by simp [Region.wanted, hg])
      exact next c s.rs (fun _ => rfl) hst hq
    · rename_i j b hg
      split at h
      · rename_i g hd
        split at h
        · rename_i c hc
          have lit : ∀ t, ρo ((g, .val (.one (.v (.bool c)))) :: s.rs) t = ρo s.rs t := fun t => by
            by_cases e : g = t
            · subst e
              simp only [ρo, lk_same]
              exact hc.symm
            · exact ρo_ne e
          have wn : ∀ rs₁ os₁ a w, (∀ t ∈ looks all o, ρo rs₁ t = ρo ((g, .val (.one (.v (.bool c)))) :: s.rs) t) → Sat P X ⟨s.n, rs₁, os₁⟩ a w → Region.wanted o (yielded all.toArray a.tmps) = (c == b) := fun rs₁ os₁ a w hr hS => by
            have hgl : g ∈ looks all o := by simp [looks, hg, hd]
            have e : (S.mk s.n rs₁ os₁).ρ g = .val (.one (.v (.bool c))) := (hr g hgl).trans (by simp [ρo, lk_same])
            exact wanted_of hg hd (hS.known e).1
          have doit : (c == b) = true → vcOpT T o ⟨s.n, (g, .val (.one (.v (.bool c)))) :: s.rs, s.os⟩ (fun s' t => vcOpsT T all r s' (ts ++ [t]) Q) → PathTo P X all (o :: r) s ts Q := fun hcb hh => by
            obtain ⟨c', hst, hq⟩ := step_of (X := X) (all := all) hh (fun rs₁ os₁ a w h1 h2 => by rw [wn rs₁ os₁ a w h1 h2, hcb])
            exact next c' _ lit (hst.congr (fun t => (lit t).symm)) hq
          have skip : (c == b) = false → (S.to ⟨s.n, (g, .val (.one (.v (.bool c)))) :: s.rs, s.os⟩ o.dst (.tup []) s.os fun s' => vcOpsT T all r s' (ts ++ [([], [])]) Q) → PathTo P X all (o :: r) s ts Q := fun hcb hh => by
            obtain ⟨c', hst, e1, e2, e3, hq⟩ := skip_of (X := X) (all := all) hh (fun rs₁ os₁ a w h1 h2 => by rw [wn rs₁ os₁ a w h1 h2, hcb])
            exact next c' _ lit (hst.congr (fun t => (lit t).symm)) (by rw [e1, e2, e3]; exact hq)
          split at h <;> cases c
          · exact skip rfl h
          · exact doit rfl h
          · exact doit rfl h
          · exact skip rfl h
        · rename_i hc
          obtain ⟨c', hst, e1, e2, e3, hq⟩ := skip_of (X := X) (all := all) h (fun rs₁ os₁ a w hr hS => by
            have hgl : g ∈ looks all o := by simp [looks, hg, hd]
            exact wanted_tup hg hd hS ((hr g hgl).trans hc))
          exact next c' s.rs (fun _ => rfl) hst (by rw [e1, e2, e3]; exact hq)
        · exact h.elim
      · exact h.elim
theorem Path.at {n : Nat} {all r : List Oper} {rs : List (Nat × Rv)} {os : List (Nat × Obj')} {cs : List Rec} (h : Path P X n all r rs os cs) : ∀ (i : Nat) (o : Oper), r[i]? = some o →
    ∃ c, cs[i]? = some c ∧ Step P X n all o (selS (cs.map (·.δ)) (fun k => decide (k < i)) 0 rs) (selS (cs.map (·.Δ)) (fun k => decide (k < i)) 0 os) c := by
  have nil : ∀ {α : Type} (Ds : List (List (Nat × α))) (j : Nat) (b : List (Nat × α)), selS Ds (fun _ => false) j b = b := by
    intro α Ds
    induction Ds with
    | nil => intro j b; rfl
    | cons D r ih => intro j b; simp only [selS]; rw [ih]; simp
  induction h with
  | nil => intro i o hi; simp at hi
  | @cons o0 r rs os c cs h1 h2 ih =>
    intro i o hi
    rcases i with _ | i
    · simp only [List.getElem?_cons_zero, Option.some.injEq] at hi
      subst hi
      refine ⟨c, rfl, ?_⟩
      simp only [Nat.not_lt_zero, decide_false]
      rw [nil, nil]
      exact h1
    · obtain ⟨c', h3, h4⟩ := ih i o (by simpa using hi)
      refine ⟨c', by simpa using h3, ?_⟩
      simp only [List.map_cons, selS, Nat.zero_lt_succ, decide_true, if_true]
      rw [selS_shift, selS_shift]
      simpa using h4
/-- The order's tables hold. -/
theorem drawB_row {all : List Oper} {A : List (List Nat)} {ts : List (List Nat × List Nat)} (h : drawB all A ts = true) {i : Nat} {o : Oper} (hi : all[i]? = some o) :
    (∀ d ∈ depsOf o, d < i) ∧ (∀ x ∈ A.getD i [], x ∈ depsOf o ∨ ∃ d ∈ depsOf o, x ∈ A.getD d []) ∧ ∀ j, j < i → ∀ p, all[j]? = some p → ordB A i j = true ∨
      ((∀ x ∈ (ts.getD i ([], [])).2, x ∉ (ts.getD j ([], [])).1) ∧ (∀ x ∈ (ts.getD j ([], [])).2, x ∉ (ts.getD i ([], [])).1) ∧
       (∀ d, o.dst = some d → d ∉ looks all p) ∧ (∀ d, p.dst = some d → d ∉ looks all o) ∧ (∀ d, o.dst = some d → p.dst ≠ some d)) := by
  have hlt : i < all.length := (List.getElem?_eq_some_iff.1 hi).1
  have h1 := List.all_eq_true.1 h i (List.mem_range.2 hlt)
  rw [hi] at h1
  simp only [Bool.and_eq_true, List.all_eq_true, Bool.or_eq_true, List.any_eq_true, decide_eq_true_eq, List.contains_iff_mem, List.mem_range] at h1
  obtain ⟨⟨h2, h3⟩, h4⟩ := h1
  refine ⟨h2, h3, fun j hj p hp => ?_⟩
  have h5 := h4 j hj
  rw [hp] at h5
  simp only [Bool.or_eq_true, Bool.and_eq_true, disj, List.all_eq_true, Bool.not_eq_true', List.contains_eq_mem, decide_eq_false_iff_not, Option.mem_toList] at h5
  refine h5.imp id (fun ⟨⟨⟨⟨a, b⟩, c⟩, d⟩, e⟩ => ⟨a, b, c, d, fun x hx hy => e x hx (by rw [hy])⟩)
theorem anc_in {all : List Oper} {A : List (List Nat)} {ts : List (List Nat × List Nat)} (h : drawB all A ts = true) {sel : Nat → Bool} (hdown : ∀ i o, all[i]? = some o → sel i = true → ∀ d ∈ depsOf o, sel d = true) :
    ∀ (i : Nat) (o : Oper), all[i]? = some o → (∀ d ∈ depsOf o, sel d = true) → ∀ x ∈ A.getD i [], sel x = true := by
  intro i
  induction i using Nat.strongRecOn with
  | _ i ih =>
    intro o hi hd x hx
    obtain ⟨h1, h2, _⟩ := drawB_row h hi
    rcases h2 x hx with hx | ⟨d, hdd, hx⟩
    · exact hd x hx
    · have hlt := h1 d hdd
      have hl : i < all.length := (List.getElem?_eq_some_iff.1 hi).1
      exact ih d hlt all[d] (List.getElem?_eq_getElem (by omega)) (hdown d _ (List.getElem?_eq_getElem (by omega)) (hd d hdd)) x hx
theorem filter_lt {p p' : Nat → Bool} {i : Nat} : ∀ {l : List Nat}, (∀ x, p' x = true → p x = true) → i ∈ l → p i = true → p' i = false → (l.filter p').length < (l.filter p).length
  | [], _, h, _, _ => by cases h
  | x :: r, hp, hi, h1, h2 => by
    have le : ∀ l : List Nat, (l.filter p').length ≤ (l.filter p).length := by
      intro l
      induction l with
      | nil => simp
      | cons y l ih =>
        simp only [List.filter_cons]
        have := hp y
        cases h3 : p' y <;> cases h4 : p y <;> simp_all <;> omega
    rcases List.mem_cons.1 hi with rfl | hi
    · simp only [List.filter_cons, h1, h2]
      have := le r
      simp; omega
    · have := filter_lt (l := r) hp hi h1 h2
      simp only [List.filter_cons]
      have := hp x
      cases h3 : p' x <;> cases h4 : p x <;> simp_all <;> omega
/-- A region that draws, by its walk in the order of the text. -/
theorem draw_ok {T : Tab P} {id : Nat} {ops : Array Oper} {A : List (List Nat)} {s : S} {Q : Exit → S → Prop} (hm : P.follows .mixedOrders = true)
    (h : vcOpsT T ops.toList ops.toList s [] fun s' ts => drawB ops.toList A ts = true ∧ Q .normal s') : Holds P X (.region id ops true) s Q := by
  intro a w Qe hS hQ
  obtain ⟨all⟩ := ops
  obtain ⟨cs, hp, s', ⟨hb, hq⟩, hn, hrs, hos, hlen⟩ := path_of (X := X) h
  simp only [List.nil_append] at hb
  have hlen : cs.length = all.length := hlen
  have hts : ∀ (k : Nat) (c : Rec), cs[k]? = some c → (cs.map fun c => (c.R, c.W)).getD k ([], []) = (c.R, c.W) := fun k c hk => by simp [List.getD_eq_getElem?_getD, hk]
  -- the two conditions that part what is ordered
  have part : ∀ (i k : Nat) (oi ok : Oper) (ci ck : Rec) (sel : Nat → Bool), all[i]? = some oi → all[k]? = some ok → cs[i]? = some ci → cs[k]? = some ck → i ≠ k → sel i = false →
      (∀ x ∈ A.getD i [], sel x = true) → (sel k = true → ∀ x ∈ A.getD k [], sel x = true) →
      (sel k = decide (k < i)) ∨ ((∀ x ∈ ci.W, x ∉ ck.R) ∧ (∀ x ∈ ck.W, x ∉ ci.R) ∧ (∀ d, oi.dst = some d → d ∉ looks all ok) ∧ (∀ d, ok.dst = some d → d ∉ looks all oi) ∧ (∀ d, oi.dst = some d → ok.dst ≠ some d)) := by
    intro i k oi ok ci ck sel hi hk hci hck hne hsi hanc hancK
    have ord : ordB A i k = true ∨ ordB A k i = true → sel k = decide (k < i) := by
      intro ho
      have ho : k ∈ A.getD i [] ∨ i ∈ A.getD k [] := by
        simp only [ordB, Bool.or_eq_true, List.contains_iff_mem] at ho
        rcases ho with h | h
        · exact h
        · exact h.symm
      have lt : ∀ (i k : Nat) (oi : Oper), all[i]? = some oi → k ∈ A.getD i [] → k < i := by
        intro i
        induction i using Nat.strongRecOn with
        | _ i ih =>
          intro k oi hi hk
          obtain ⟨h1, h2, _⟩ := drawB_row hb hi
          rcases h2 k hk with hx | ⟨d, hdd, hx⟩
          · exact h1 k hx
          · have hlt := h1 d hdd
            have hl : i < all.length := (List.getElem?_eq_some_iff.1 hi).1
            have := ih d hlt k all[d] (List.getElem?_eq_getElem (by omega)) hx
            omega
      rcases ho with ho | ho
      · rw [hanc k ho]
        have := lt i k oi hi ho
        simp [this]
      · have hlt := lt k i ok hk ho
        have : sel k = false := by
          cases hsk : sel k with
          | false => rfl
          | true => rw [hancK hsk i ho] at hsi; cases hsi
        rw [this]
        have : ¬ k < i := by omega
        simp [this]
    rcases Nat.lt_or_gt_of_ne hne with hlt | hlt
    · rcases (drawB_row hb hk).2.2 i hlt oi hi with h | ⟨h1, h2, h3, h4, h5⟩
      · exact .inl (ord (.inr h))
      · rw [hts k ck hck, hts i ci hci] at h1 h2
        exact .inr ⟨h2, h1, h4, h3, fun d h6 h7 => h5 d h7 h6⟩
    · rcases (drawB_row hb hi).2.2 k hlt ok hk with h | ⟨h1, h2, h3, h4, h5⟩
      · exact .inl (ord (.inl h))
      · rw [hts k ck hck, hts i ci hci] at h1 h2
        exact .inr ⟨h1, h2, h3, h4, h5⟩
  refine wp_region_any hm ?_
  have key : ∀ (fuel : Nat) (listed : Array Bool) (a : Act) (w : World), listed.size = all.length → (∀ i o, all[i]? = some o → listed.getD i true = true → ∀ d ∈ depsOf o, listed.getD d true = true) →
      ((List.range all.length).filter fun i => !listed.getD i true).length ≤ fuel →
      Sat P X ⟨s.n, selS (cs.map (·.δ)) (fun k => listed.getD k true) 0 s.rs, selS (cs.map (·.Δ)) (fun k => listed.getD k true) 0 s.os⟩ a w →
      wpAny P .any all.toArray Qe fuel listed a w := by
    have done : ∀ (listed : Array Bool) (a : Act) (w : World), (∀ i, i < all.length → listed.getD i true = true) →
        Sat P X ⟨s.n, selS (cs.map (·.δ)) (fun k => listed.getD k true) 0 s.rs, selS (cs.map (·.Δ)) (fun k => listed.getD k true) 0 s.os⟩ a w → Qe .normal a w := by
      intro listed a w hl hS
      refine hQ _ s' a w ?_ hq
      obtain ⟨n', rs', os'⟩ := s'
      simp only at hn hrs hos
      subst hn
      refine hS.congr (fun t => ?_) (fun i => ?_)
      · rw [hrs t]
        simp only [ρo]
        rw [selS_agree (fun k Δ hk _ => ?_) rfl]
        have hk' : k < all.length := by have := (List.getElem?_eq_some_iff.1 hk).1; simpa [hlen] using this
        rw [Nat.zero_add, hl k hk']
      · rw [hos]
        refine selS_agree (fun k Δ hk _ => ?_) rfl
        have hk' : k < all.length := by have := (List.getElem?_eq_some_iff.1 hk).1; simpa [hlen] using this
        rw [Nat.zero_add, hl k hk']
    have rdy : ∀ (listed : Array Bool) (i : Nat), i ∈ Region.ready .any all.toArray listed ↔ ∃ o, all[i]? = some o ∧ listed.getD i true = false ∧ ∀ d ∈ depsOf o, listed.getD d false = true := by
      intro listed i
      simp only [Region.ready, List.mem_filter, List.mem_range, List.size_toArray, Bool.and_eq_true, Bool.not_eq_true']
      constructor
      · rintro ⟨h1, h2, h3⟩
        refine ⟨all[i], List.getElem?_eq_getElem h1, h2, fun d hd => ?_⟩
        simp only [List.getElem?_toArray, List.getElem?_eq_getElem h1, Option.map_some, Option.getD_some] at h3
        simp only [depsOf, List.mem_map, List.mem_filter] at hd
        obtain ⟨e, ⟨he, hb⟩, rfl⟩ := hd
        rw [← Array.all_toList, List.all_eq_true] at h3
        have := h3 e he
        simpa [hb] using this
      · rintro ⟨o, h1, h2, h3⟩
        refine ⟨(List.getElem?_eq_some_iff.1 h1).1, h2, ?_⟩
        simp only [List.getElem?_toArray, h1, Option.map_some, Option.getD_some]
        rw [← Array.all_toList, List.all_eq_true]
        intro e he
        cases hb : Region.binds .any e with
        | false => rfl
        | true => simpa using h3 e.on (by simp only [depsOf, List.mem_map, List.mem_filter]; exact ⟨e, ⟨he, hb⟩, rfl⟩)
    have all_of : ∀ (listed : Array Bool), listed.size = all.length → Region.ready .any all.toArray listed = [] → ∀ i, i < all.length → listed.getD i true = true := by
      intro listed hsz hr i
      induction i using Nat.strongRecOn with
      | _ i ih =>
        intro hi
        cases hl : listed.getD i true with
        | true => rfl
        | false =>
          have : i ∈ Region.ready .any all.toArray listed := (rdy listed i).2 ⟨all[i], List.getElem?_eq_getElem hi, hl, fun d hd => by
            have hlt := (drawB_row hb (List.getElem?_eq_getElem hi)).1 d hd
            have := ih d hlt (by omega)
            have hd' : d < listed.size := by omega
            simp only [Array.getD_eq_getD_getElem?, Array.getElem?_eq_getElem hd', Option.getD_some] at this ⊢
            exact this⟩
          rw [hr] at this
          cases this
    intro fuel
    induction fuel with
    | zero =>
      intro listed a w hsz hdown hcnt hS
      have hall : ∀ i, i < all.length → listed.getD i true = true := fun i hi => by
        cases hl : listed.getD i true with
        | true => rfl
        | false =>
          have : i ∈ (List.range all.length).filter fun i => !listed.getD i true := List.mem_filter.2 ⟨List.mem_range.2 hi, by rw [hl]; rfl⟩
          have := List.length_pos_of_mem this
          omega
      refine ⟨?_, done listed a w hall hS⟩
      apply List.eq_nil_iff_forall_not_mem.2
      intro i hi
      obtain ⟨o, h1, h2, _⟩ := (rdy listed i).1 hi
      rw [hall i (List.getElem?_eq_some_iff.1 h1).1] at h2
      cases h2
    | succ fuel ih =>
      intro listed a w hsz hdown hcnt hS
      refine ⟨fun hr => done listed a w (all_of listed hsz hr) hS, fun i hi => ?_⟩
      obtain ⟨oi, hoi, hli, hdi⟩ := (rdy listed i).1 hi
      have hilt : i < all.length := (List.getElem?_eq_some_iff.1 hoi).1
      have hdi' : ∀ d ∈ depsOf oi, listed.getD d true = true := fun d hd => by
        have hlt := (drawB_row hb hoi).1 d hd
        have hd' : d < listed.size := by omega
        have := hdi d hd
        simp only [Array.getD_eq_getD_getElem?, Array.getElem?_eq_getElem hd', Option.getD_some] at this ⊢
        exact this
      obtain ⟨ci, hci, hst⟩ := hp.at i oi hoi
      have hanc := anc_in hb (sel := fun k => listed.getD k true) hdown i oi hoi hdi'
      have parts : ∀ k ck, cs[k]? = some ck → k ≠ i → ∃ ok, Step P X s.n all ok (selS (cs.map (·.δ)) (fun j => decide (j < k)) 0 s.rs) (selS (cs.map (·.Δ)) (fun j => decide (j < k)) 0 s.os) ck ∧
          (listed.getD k true = decide (k < i) ∨ ((∀ x ∈ ci.W, x ∉ ck.R) ∧ (∀ x ∈ ck.W, x ∉ ci.R) ∧ (∀ d, oi.dst = some d → d ∉ looks all ok) ∧ (∀ d, ok.dst = some d → d ∉ looks all oi) ∧ (∀ d, oi.dst = some d → ok.dst ≠ some d))) := by
        intro k ck hck hne
        have hk : k < all.length := by have := (List.getElem?_eq_some_iff.1 hck).1; omega
        obtain ⟨ck', hck', hstk⟩ := hp.at k all[k] (List.getElem?_eq_getElem hk)
        rw [hck] at hck'
        injection hck' with hck'
        subst hck'
        exact ⟨all[k], hstk, part i k oi all[k] ci ck (fun k => listed.getD k true) hoi (List.getElem?_eq_getElem hk) hci hck (Ne.symm hne) hli hanc (fun hsk => anc_in hb hdown k all[k] (List.getElem?_eq_getElem hk) (hdown k _ (List.getElem?_eq_getElem hk) hsk))⟩
      have dl : ∀ {k : Nat} {δ : List (Nat × Rv)}, (cs.map (·.δ))[k]? = some δ → ∃ ck, cs[k]? = some ck ∧ ck.δ = δ := fun {k δ} h => by
        rw [List.getElem?_map] at h
        cases hk : cs[k]? with
        | none => rw [hk] at h; cases h
        | some c => rw [hk] at h; injection h with h; exact ⟨c, rfl, h⟩
      have Dl : ∀ {k : Nat} {Δ : List (Nat × Obj')}, (cs.map (·.Δ))[k]? = some Δ → ∃ ck, cs[k]? = some ck ∧ ck.Δ = Δ := fun {k Δ} h => by
        rw [List.getElem?_map] at h
        cases hk : cs[k]? with
        | none => rw [hk] at h; cases h
        | some c => rw [hk] at h; injection h with h; exact ⟨c, rfl, h⟩
      have run := hst.run (selS (cs.map (·.δ)) (fun k => listed.getD k true) 0 s.rs) (selS (cs.map (·.Δ)) (fun k => listed.getD k true) 0 s.os) (fun t ht => by
        simp only [ρo]
        rw [selS_agree (fun k δ hk hn => ?_) rfl]
        rw [Nat.zero_add]
        obtain ⟨ck, hck, rfl⟩ := dl hk
        by_cases hne : k = i
        · subst hne; simp [hli]
        · obtain ⟨ok, hstk, h | ⟨_, _, _, h, _⟩⟩ := parts k ck hck hne
          · exact h
          · exact absurd ht (h t (hstk.dst t hn))) (fun x hx => selS_agree (fun k Δ hk hn => by
        rw [Nat.zero_add]
        obtain ⟨ck, hck, rfl⟩ := Dl hk
        by_cases hne : k = i
        · subst hne; simp [hli]
        · obtain ⟨ok, hstk, h | ⟨_, h, _⟩⟩ := parts k ck hck hne
          · exact h
          · exact absurd hx (h x (hstk.ids x hn))) rfl) a w hS (wpAny P .any all.toArray Qe fuel (listed.setIfInBounds i true)) Qe (fun a' w' hS' => by
        have hget : ∀ k, (listed.setIfInBounds i true).getD k true = up (fun k => listed.getD k true) i k := fun k => by
          simp only [up, Array.getD_eq_getD_getElem?]
          by_cases e : k = i
          · subst e
            rw [Array.getElem?_setIfInBounds_self_of_lt (by omega)]
            simp
          · rw [Array.getElem?_setIfInBounds_ne (Ne.symm e)]
            simp [e]
        refine ih _ a' w' (by simpa using hsz) (fun k o hk hl d hd => ?_) ?_ (hS'.congr (fun t => ?_) (fun t => ?_))
        · rw [hget] at hl ⊢
          simp only [up] at hl ⊢
          split
          · rfl
          · split at hl
            · rename_i e
              subst e
              rw [hoi] at hk
              injection hk with hk
              subst hk
              exact hdi' d hd
            · exact hdown k o hk hl d hd
        · have := filter_lt (l := List.range all.length) (p := fun j => !listed.getD j true) (p' := fun j => !(listed.setIfInBounds i true).getD j true) (i := i) (fun x hx => by
            simp only [hget, up] at hx ⊢
            split at hx
            · cases hx
            · exact hx) (List.mem_range.2 hilt) (by simp [hli]) (by simp [hget, up])
          omega
        · simp only [ρo]
          have e : (fun k => (listed.setIfInBounds i true).getD k true) = up (fun k => listed.getD k true) i := funext hget
          rw [e, selS_up (Δ := ci.δ) (by simp [hci]) (fun t ht k δ' hk hk' hs => ?_) t]
          obtain ⟨ck, hck, rfl⟩ := dl hk'
          obtain ⟨ok, hstk, h | ⟨_, _, _, _, h⟩⟩ := parts k ck hck (by omega)
          · have : ¬ k < i := by omega
            have hs : listed.getD k true = true := hs
            rw [hs] at h
            simp [this] at h
          · cases hl : lk ck.δ t with
            | none => rfl
            | some x => exact absurd (hstk.dst t (by rw [hl]; simp)) (h t (hst.dst t ht))
        · have e : (fun k => (listed.setIfInBounds i true).getD k true) = up (fun k => listed.getD k true) i := funext hget
          rw [e, selS_up (Δ := ci.Δ) (by simp [hci]) (fun t ht k Δ' hk hk' hs => ?_) t]
          obtain ⟨ck, hck, rfl⟩ := Dl hk'
          obtain ⟨ok, hstk, h | ⟨h, _⟩⟩ := parts k ck hck (by omega)
          · have : ¬ k < i := by omega
            have hs : listed.getD k true = true := hs
            rw [hs] at h
            simp [this] at h
          · cases hl : lk ck.Δ t with
            | none => rfl
            | some x => exact absurd (hstk.sub t (hstk.ids t (by rw [hl]; simp))) (h t (hst.ids t ht)))
      unfold wpOp
      rw [show (all.toArray)[i]? = some oi from by simpa using hoi]
      simp only
      split
      · rename_i hw
        rw [if_pos hw] at run
        exact .inl run
      · rename_i hw
        rw [if_neg hw] at run
        exact run
  obtain ⟨E, hw, hI, hr⟩ := hS
  have hno : ∀ {α : Type} (Ds : List (List (Nat × α))) (b : List (Nat × α)), Ds.length = all.length → selS Ds (fun k => (Array.replicate all.length false).getD k true) 0 b = selS Ds (fun _ => false) 0 b := by
    intro α Ds b hl
    have : ∀ (Ds : List (List (Nat × α))) (j : Nat) (b : List (Nat × α)), j + Ds.length ≤ all.length → selS Ds (fun k => (Array.replicate all.length false).getD k true) j b = selS Ds (fun _ => false) j b := by
      intro Ds
      induction Ds with
      | nil => intro j b _; rfl
      | cons D r ih =>
        intro j b hj
        simp only [List.length_cons] at hj
        simp only [selS]
        rw [ih (j + 1) _ (by omega)]
        have : (Array.replicate all.length false).getD j true = false := by simp [Array.getD_eq_getD_getElem?, show j < all.length from by omega]
        simp only [this]
    exact this Ds 0 b (by omega)
  have nil : ∀ {α : Type} (Ds : List (List (Nat × α))) (j : Nat) (b : List (Nat × α)), selS Ds (fun _ => false) j b = b := by
    intro α Ds
    induction Ds with
    | nil => intro j b; rfl
    | cons D r ih => intro j b; simp only [selS]; rw [ih]; simp
  refine key _ _ a _ (by simp) (fun i o hi hl => ?_) ?_ ?_
  · have : (Array.replicate all.length false).getD i true = false := by simp [Array.getD_eq_getD_getElem?, (List.getElem?_eq_some_iff.1 hi).1]
    simp only [List.size_toArray] at hl
    rw [this] at hl
    cases hl
  · simp only [List.size_toArray]
    exact Nat.le_trans (List.length_filter_le _ _) (by simp)
  · simp only [List.size_toArray]
    rw [hno _ _ (by simpa using hlen), hno _ _ (by simpa using hlen), nil, nil]
    have hle : E.le { E with w := { w with drawn := w.drawn + 1 } } := ⟨fun _ h => h, fun b _ => by rw [hw], fun _ h => h, fun _ _ => rfl, fun _ _ => rfl⟩
    obtain ⟨h1, h2⟩ := hI.world (w' := { w with drawn := w.drawn + 1 }) (row := none) (by rw [hw]; exact ⟨rfl, rfl, rfl, Nat.le_refl _, fun _ _ _ => rfl⟩) (fun b hb => by cases hb)
    exact ⟨_, rfl, h1, hr.defers, hr.size, fun t => RV.mono h2 (hr.reg t)⟩
end
end Go.Proofs.YthfmlelodmcgkaaGreat.V

set_option linter.unusedVariables false
set_option linter.unusedSimpArgs false
set_option linter.unusedSectionVars false
namespace Go.Proofs.YthfmlelodmcgkaaGreat.V
open Go
def vc {P : Program} (T : Tab P) (X : Ctx) : Code → S → (Exit → S → Prop) → Prop
  | .skip, s, Q => Q .normal s
  | .region _ ops false, s, Q => vcOps T ops.toList ops.toList s (Q .normal)
  | .seq a b, s, Q => vc T X a s fun e s' => match e with
    | .normal => vc T X b s' Q
    | e => Q e s'
  | .cond c a b, s, Q => match ev s.ρ c with
    | .val (.one (.v (.bool t))) => brB t (vc T X a s Q) (vc T X b s Q)
    | _ => False
  | .block id c, s, Q => vc T X c s fun e s' => match e with
    | .exit id' => match Nat.beq id' id with
      | true => Q .normal s'
      | false => Q e s'
    | e => Q e s'
  | .loop c, s, Q => Holds P X (.loop c) s Q
  | .region _ ops true, s, Q => vcOpsT T ops.toList ops.toList s [] fun s' ts => drawB ops.toList (ancs ops.toList []) ts = true ∧ Q .normal s'
  | .exit id, s, Q => Q (.exit id) s
  | .ret, s, Q => Q .ret s
  | _, _, _ => False
section
variable {P : Program} {X : Ctx}
theorem vc_ok {T : Tab P} : ∀ {c : Code} {s : S} {Q : Exit → S → Prop}, vc T X c s Q → Holds P X c s Q
  | .skip, s, Q, h => fun a w Qe hS hQ => wp_skip (hQ _ _ _ _ hS h)
  | .region id ops false, s, Q, h => fun a w Qe hS hQ => by
    have := vcOps_ok (Qe := Qe) (pre := []) (all := ops.toList) rfl hS h (fun s' a' w' h1 h2 => hQ _ _ _ _ h1 h2)
    refine wp_region ?_
    rw [List.range_eq_range']
    simpa using this
  | .region id ops true, s, Q, h => draw_ok T.mix h
  | .seq x y, s, Q, h => fun a w Qe hS hQ => wp_seq (vc_ok (c := x) h a w _ hS (fun e s' a' w' h1 h2 => by
      cases e <;> first | exact vc_ok (c := y) h2 a' w' Qe h1 hQ | exact hQ _ _ _ _ h1 h2))
  | .cond c x y, s, Q, h => fun a w Qe hS hQ => by
    simp only [vc] at h
    split at h
    · rename_i t ht
      obtain ⟨E, rfl, hI, hr⟩ := hS
      have := ev_ok hr c
      rw [ht] at this
      obtain ⟨⟨hc, _⟩, _⟩ := this
      cases t
      · exact wp_cond_false hc (vc_ok (c := y) h a _ Qe ⟨E, rfl, hI, hr⟩ hQ)
      · exact wp_cond_true hc (vc_ok (c := x) h a _ Qe ⟨E, rfl, hI, hr⟩ hQ)
    · exact h.elim
  | .block id c, s, Q, h => fun a w Qe hS hQ => wp_block (vc_ok (c := c) h a w _ hS (fun e s' a' w' h1 h2 => by
      cases e with
      | exit id' =>
        simp only at h2
        simp only [Exit.inBlock]
        split at h2
        · rename_i he
          have he := Nat.eq_of_beq_eq_true he
          subst he
          simpa using hQ _ _ _ _ h1 h2
        · rename_i he
          have he : id' ≠ id := fun e => by rw [e] at he; simp at he
          simpa [he] using hQ _ _ _ _ h1 h2
      | normal => exact hQ _ _ _ _ h1 h2
      | goto l => exact hQ _ _ _ _ h1 h2
      | ret => exact hQ _ _ _ _ h1 h2
      | panic c => exact hQ _ _ _ _ h1 h2
      | outgrown => exact hQ _ _ _ _ h1 h2))
  | .loop c, s, Q, h => h
  | .exit id, s, Q, h => fun a w Qe hS hQ => wp_exit (hQ _ _ _ _ hS h)
  | .ret, s, Q, h => fun a w Qe hS hQ => wp_ret (hQ _ _ _ _ hS h)
  | .rangeFunc .., _, _, h => h.elim
  | .scope _, _, _, h => h.elim
  | .label _, _, _, h => h.elim
  | .goto _, _, _, h => h.elim
  | .refuse _, _, _, h => h.elim
/-- One state tells more than another. -/
def Sub (P : Program) (s s' : S) : Prop := ∀ X a w, Sat P X s a w → Sat P X s' a w
/-- A loop by a family of states. -/
theorem loop_sub {T : Tab P} {c : Code} {s : S} {Q : Exit → S → Prop} {α : Type} (I : α → S) (p : α → Prop) (μ : α → Nat) (x0 : α) (h0 : Sub P s (I x0)) (hp : p x0)
    (R : α → Exit → S → Prop) (h : ∀ x, p x → vc T X c (I x) (R x)) (hR : ∀ x e s', R x e s' → match e with
      | .normal => ∃ y, p y ∧ μ y < μ x ∧ Sub P s' (I y)
      | e => Q e s') : Holds P X (.loop c) s Q := by
  intro a w Qe hS hQ
  have key : ∀ (n : Nat) (x : α) (a : Act) (w : World), p x → μ x < n → Sat P X (I x) a w → Code.rounds P c Qe n a w := by
    intro n
    induction n with
    | zero => intro x a w _ h; omega
    | succ n ih =>
      intro x a w hx hn hSx
      refine vc_ok (h x hx) a w _ hSx (fun e s' a' w' h1 h2 => ?_)
      have h2 := hR x e s' h2
      cases e with
      | normal =>
        obtain ⟨y, hy, hm, hs⟩ := h2
        exact ih y a' w' hy (by omega) (hs X a' w' h1)
      | exit id => exact hQ _ _ _ _ h1 h2
      | goto l => exact hQ _ _ _ _ h1 h2
      | ret => exact hQ _ _ _ _ h1 h2
      | panic c => exact hQ _ _ _ _ h1 h2
      | outgrown => exact hQ _ _ _ _ h1 h2
  exact wp_loop_rounds (μ x0 + 1) (key _ x0 a w hp (Nat.lt_succ_self _) (h0 X a w hS))
end
end Go.Proofs.YthfmlelodmcgkaaGreat.V

set_option linter.unusedVariables false
set_option linter.unusedSimpArgs false
set_option linter.unusedSectionVars false
namespace Go.Proofs.YthfmlelodmcgkaaGreat.V
open Go
/-- The new name of an object (names: new, elder). -/
def nw? : List (Nat × Nat) → Nat → Option Nat
  | [], _ => none
  | (j, i) :: r, k => match Nat.beq i k with | true => some j | false => nw? r k
def nwL (ids : List (Nat × Nat)) : List Nat → Option (List Nat)
  | [] => some []
  | i :: r => match nw? ids i, nwL ids r with
    | some j, some js => some (j :: js)
    | _, _ => none
def innR (_ : Option Obj') (_ : Nat) : A := .undef
def ownR (o : Option Obj') : A :=
  match o with
  | some (.row _ k l) => .ro k l
  | some (.drow _ k l) => .ro k l
  | some (.fz k l) => .ro k l
  | _ => .undef
def reA (ids : List (Nat × Nat)) (os : List (Nat × Obj')) : A → A
  | .own i => match nw? ids i with
    | some j => .own j
    | none => ownR (lk os i)
  | .ptr i off => match nw? ids i with
    | some j => .ptr j off
    | none => .undef
  | .elt k i n off => match nw? ids i with
    | some j => .elt k j n off
    | none => .undef
  | .inn i n => match nw? ids i with
    | some j => .inn j n
    | none => innR (lk os i) n
  | .fn f caps => match nwL ids caps with
    | some js => .fn f js
    | none => .undef
  | a => a
def reC (ids : List (Nat × Nat)) (os : List (Nat × Obj')) : Cv → Cv
  | .one a => .one (reA ids os a)
  | .agg as => .agg (as.map (reA ids os))
def reR (ids : List (Nat × Nat)) (os : List (Nat × Obj')) : Rv → Rv
  | .val c => .val (reC ids os c)
  | .tup cs => .tup (cs.map (reC ids os))
def reO' (ids : List (Nat × Nat)) (os : List (Nat × Obj')) (o : Option Obj') : Obj' :=
  match o with
  | some (.box t as) => .box t (as.map (reA ids os))
  | some (.hole _ _ _ _ _ _) => .dead
  | some o => o
  | none => .dead
def reO (ids : List (Nat × Nat)) (os : List (Nat × Obj')) (i : Nat) : Obj' := reO' ids os (lk os i)
def reOs (ids : List (Nat × Nat)) (os : List (Nat × Obj')) : List (Nat × Nat) → List (Nat × Obj')
  | [] => []
  | (j, i) :: r => (j, reO ids os i) :: reOs ids os r
def thaw : Obj' → Bool
  | .row _ _ _ => true | .drow _ _ _ => true | _ => false
/-- A list of names that may be told. -/
def okN (ids : List (Nat × Nat)) (os : List (Nat × Obj')) : Bool :=
  nodupB (ids.map (·.1)) && nodupB (ids.map (·.2)) && allB (fun p => (lk os p.2).isSome && (Nat.ble 16 p.1 || Nat.beq p.1 p.2)) ids
theorem nw?_some : ∀ {ids : List (Nat × Nat)} {i j : Nat}, nw? ids i = some j → (j, i) ∈ ids
  | [], i, j, h => by cases h
  | (a, b) :: r, i, j, h => by
    simp only [nw?] at h
    split at h
    · rename_i e
      injection h with h
      have := Nat.eq_of_beq_eq_true e
      subst h; subst this
      exact List.mem_cons_self
    · exact List.mem_cons_of_mem _ (nw?_some h)
theorem nw?_none : ∀ {ids : List (Nat × Nat)} {i : Nat}, nw? ids i = none → ∀ j, (j, i) ∉ ids
  | [], i, _, j => by simp
  | (a, b) :: r, i, h, j => by
    simp only [nw?] at h
    split at h
    · cases h
    · rename_i e
      have hne : b ≠ i := fun e' => by rw [e'] at e; simp at e
      intro hm
      rcases List.mem_cons.1 hm with hm | hm
      · injection hm with _ hm; exact hne hm.symm
      · exact nw?_none h j hm
theorem lk_mem {α : Type} : ∀ {l : List (Nat × α)} {j : Nat} {x : α}, lk l j = some x → (j, x) ∈ l
  | [], j, x, h => by cases h
  | (a, b) :: r, j, x, h => by
    simp only [lk] at h
    split at h
    · rename_i e
      injection h with h
      have := Nat.eq_of_beq_eq_true e
      subst h; subst this
      exact List.mem_cons_self
    · exact List.mem_cons_of_mem _ (lk_mem h)
theorem lk_of_mem {α : Type} : ∀ {l : List (Nat × α)} {j : Nat} {x : α}, (l.map (·.1)).Nodup → (j, x) ∈ l → lk l j = some x
  | (a, b) :: r, j, x, hd, h => by
    simp only [List.map_cons, List.nodup_cons] at hd
    rcases List.mem_cons.1 h with h | h
    · injection h with h1 h2
      subst h1; subst h2
      exact lk_same _ _ _
    · have hne : a ≠ j := fun e => hd.1 (by rw [e]; exact List.mem_map.2 ⟨_, h, rfl⟩)
      rw [lk_ne _ _ hne]
      exact lk_of_mem hd.2 h
section
variable {P : Program} {X : Ctx} {os : List (Nat × Obj')} {E : Env}
def reE (ids : List (Nat × Nat)) (os : List (Nat × Obj')) (E : Env) : Env :=
  ⟨E.w, fun b => E.F b ∨ ∃ i o, lk os i = some o ∧ thaw o = true ∧ (∀ j, (j, i) ∉ ids) ∧ E.φ i b, fun j => match lk ids j with | some i => E.σ i | none => undef, fun j => ∃ i, lk ids j = some i ∧ E.D i,
    fun j => match lk ids j with | some i => E.φ i | none => fun _ => False, fun j => match lk ids j with | some i => E.ι i | none => fun _ => undef⟩
theorem re_rep {ids : List (Nat × Nat)} {k : Kn} {x : k.T} {cs : List Value} (h : Rep E.F E.w k x cs) : Rep (reE ids os E).F (reE ids os E).w k x cs := Rep.mono (fun b hb _ => .inl hb) (fun _ _ => rfl) h
theorem re_ro {ids : List (Nat × Nat)} {k : Kn} {l : List k.T} {u : Value} (h : RO E.F E.w (Rep E.F E.w k) k.cells l u) : RO (reE ids os E).F (reE ids os E).w (Rep (reE ids os E).F (reE ids os E).w k) k.cells l u :=
  RO.mono h (fun b hb _ => .inl hb) (fun _ _ => rfl) (fun _ _ h => re_rep h) k.cells_pos
theorem re_own {ids : List (Nat × Nat)} (hI : Inv P X os E) {i : Nat} (hi : ∀ j, (j, i) ∉ ids) : AV P (reE ids os E) (ownR (lk os i)) (E.σ i) := by
  unfold ownR
  split
  · rename_i t k l h
    obtain ⟨xs, h1, h3, h4, hφ⟩ := hI.obj i _ h
    exact RO.of_row h1 (h3.imp (fun _ _ h => re_rep h)) h4 (fun b hb => .inr ⟨i, _, h, rfl, hi, (hφ b).2 hb⟩)
  · rename_i t k l h
    obtain ⟨xs, φ', h1, h3, h4, hφ, _⟩ := hI.obj i _ h
    exact RO.of_row h1 (h3.reps (fun ψ x c hψ h' => DRep.rep (fun b hb => .inr ⟨i, _, h, rfl, hi, (hφ b).2 (.inr (hψ b hb))⟩) h')) h4 (fun b hb => .inr ⟨i, _, h, rfl, hi, (hφ b).2 (.inl hb)⟩)
  · rename_i k l h
    exact re_ro (hI.obj i _ h)
  · trivial
theorem nwL_ok {ids : List (Nat × Nat)} (hd : (ids.map (·.1)).Nodup) : ∀ {caps js : List Nat} {us : List Value}, nwL ids caps = some js → All2 (fun i x => E.D i ∧ (∃ b, E.σ i = .pointer (some ⟨b, 0, none⟩)) ∧ x = E.σ i) caps us →
    All2 (fun i x => (reE ids os E).D i ∧ (∃ b, (reE ids os E).σ i = .pointer (some ⟨b, 0, none⟩)) ∧ x = (reE ids os E).σ i) js us
  | [], js, us, h, h2 => by
    simp only [nwL] at h
    injection h with h
    subst h
    cases us <;> exact h2
  | i :: r, js, us, h, h2 => by
    simp only [nwL] at h
    split at h
    · rename_i j js' hj hr
      injection h with h
      subst h
      rcases us with _ | ⟨u, us⟩
      · exact h2.elim
      · obtain ⟨⟨h3, h4, h5⟩, h6⟩ := h2
        have := lk_of_mem hd (nw?_some hj)
        exact ⟨⟨⟨i, this, h3⟩, by simpa [reE, this] using h4, by simpa [reE, this] using h5⟩, nwL_ok hd hr h6⟩
    · cases h
theorem re_inn {ids : List (Nat × Nat)} (hI : Inv P X os E) {i n : Nat} (hi : ∀ j, (j, i) ∉ ids) : AV P (reE ids os E) (innR (lk os i) n) (E.ι i n) := by
  trivial
theorem re_A {ids : List (Nat × Nat)} (hd : (ids.map (·.1)).Nodup) (hI : Inv P X os E) : ∀ {a : A} {u : Value}, AV P E a u → AV P (reE ids os E) (reA ids os a) u
  | .undef, _, _ => trivial
  | .v _, _, h => h
  | .own i, u, ⟨h1, h2⟩ => by
    simp only [reA]
    split
    · rename_i j hj
      have := lk_of_mem hd (nw?_some hj)
      exact ⟨⟨i, this, h1⟩, by rw [h2]; simp [reE, this]⟩
    · rename_i hj
      rw [h2]
      exact re_own hI (nw?_none hj)
  | .ptr i off, u, ⟨h1, b, h2, h3⟩ => by
    simp only [reA]
    split
    · rename_i j hj
      have := lk_of_mem hd (nw?_some hj)
      exact ⟨⟨i, this, h1⟩, b, by simp [reE, this, h2], h3⟩
    · trivial
  | .elt k i n off, u, ⟨h1, h2⟩ => by
    simp only [reA]
    split
    · rename_i j hj
      have := lk_of_mem hd (nw?_some hj)
      exact ⟨⟨i, this, h1⟩, by simpa [reE, this] using h2⟩
    · trivial
  | .inn i n, u, ⟨h1, h2⟩ => by
    simp only [reA]
    split
    · rename_i j hj
      have := lk_of_mem hd (nw?_some hj)
      exact ⟨⟨i, this, h1⟩, by simpa [reE, this] using h2⟩
    · rename_i hj
      rw [h2]
      exact re_inn hI (nw?_none hj)
  | .fn f caps, u, ⟨us, h1, h2⟩ => by
    simp only [reA]
    split
    · rename_i js hj
      exact ⟨us, h1, nwL_ok hd hj h2⟩
    · trivial
  | .ro k l, _, h => re_ro h
  | .clip k l, _, h => ⟨re_ro h.1, h.2⟩
  | .elr k l n off, _, ⟨h0, b, o, c, h1, h2⟩ => ⟨h0, b, o, c, re_ro h1, h2⟩
  | .pf ks r f, _, h => PFun.mono (fun b hb => .inl hb) (fun _ _ => rfl) h
  | .pp ks r f, _, h => PPtr.mono (fun b hb => .inl hb) (fun _ _ => rfl) h
theorem re_L {ids : List (Nat × Nat)} (hd : (ids.map (·.1)).Nodup) (hI : Inv P X os E) : ∀ {as : List A} {us : List Value}, All2 (AV P E) as us → All2 (AV P (reE ids os E)) (as.map (reA ids os)) us
  | [], [], _ => trivial
  | _ :: _, _ :: _, ⟨h1, h2⟩ => ⟨re_A hd hI h1, re_L hd hI h2⟩
theorem re_C {ids : List (Nat × Nat)} (hd : (ids.map (·.1)).Nodup) (hI : Inv P X os E) {c : Cv} {u : Value} (h : CV P E c u) : CV P (reE ids os E) (reC ids os c) u := by
  cases c with
  | one a => exact ⟨re_A hd hI h.1, h.2⟩
  | agg as =>
    obtain ⟨us, h1, h2, h3⟩ := h
    exact ⟨us, h1, re_L hd hI h2, h3⟩
theorem re_Cs {ids : List (Nat × Nat)} (hd : (ids.map (·.1)).Nodup) (hI : Inv P X os E) : ∀ {cs : List Cv} {us : List Value}, All2 (CV P E) cs us → All2 (CV P (reE ids os E)) (cs.map (reC ids os)) us
  | [], [], _ => trivial
  | _ :: _, _ :: _, ⟨h1, h2⟩ => ⟨re_C hd hI h1, re_Cs hd hI h2⟩
theorem rv_ne {a : A} {u : Value} (h : CV P E (.one a) u) : RV P E (.val (.one a)) u := rv_one h.1 h.2
theorem re_R {ids : List (Nat × Nat)} (hd : (ids.map (·.1)).Nodup) (hI : Inv P X os E) {r : Rv} {u : Value} (h : RV P E r u) : RV P (reE ids os E) (reR ids os r) u := by
  rcases r with (a | as) | cs
  · cases a <;> first | trivial | exact rv_ne (re_C hd hI (c := .one _) h)
  · exact re_C hd hI (c := .agg as) h
  · obtain ⟨us, h1, h2⟩ := h
    exact ⟨us, h1, re_Cs hd hI h2⟩
theorem lk_reOs {ids : List (Nat × Nat)} {os : List (Nat × Obj')} : ∀ (r : List (Nat × Nat)) (j : Nat), lk (reOs ids os r) j = (lk r j).map (reO ids os)
  | [], j => rfl
  | (a, b) :: r, j => by
    simp only [reOs, lk]
    split
    · rfl
    · exact lk_reOs r j
theorem re_I {ids : List (Nat × Nat)} (hd : (ids.map (·.1)).Nodup) (hd2 : (ids.map (·.2)).Nodup) (hI : Inv P X os E) (hids : ∀ p ∈ ids, E.D p.2 ∧ (X.D p.1 → p.1 = p.2)) : Inv P X (reOs ids os ids) (reE ids os E) := by
  have look : ∀ j o, lk (reOs ids os ids) j = some o → ∃ i o', lk ids j = some i ∧ lk os i = some o' ∧ o = reO ids os i ∧ (o.live = true → o'.live = true) ∧ (reE ids os E).σ j = E.σ i ∧ (reE ids os E).φ j = E.φ i ∧ (reE ids os E).ι j = E.ι i := fun j o hj => by
    rw [lk_reOs] at hj
    cases hi : lk ids j with
    | none => rw [hi] at hj; cases hj
    | some i =>
      rw [hi] at hj
      injection hj with hj
      have := (hI.dom i).1 (hids _ (lk_mem hi)).1
      obtain ⟨o', ho'⟩ := Option.isSome_iff_exists.1 this
      refine ⟨i, o', rfl, ho', hj.symm, ?_, by simp [reE, hi], by simp [reE, hi], by simp [reE, hi]⟩
      rw [← hj]
      simp only [reO, reO', ho']
      cases o' <;> first | exact id | (intro h; cases h)
  have inj : ∀ j j' i, lk ids j = some i → lk ids j' = some i → j = j' := fun j j' i h1 h2 => by
    have m1 := lk_mem h1
    have m2 := lk_mem h2
    clear h1 h2 look hd hids
    induction ids with
    | nil => cases m1
    | cons p r ih =>
      simp only [List.map_cons, List.nodup_cons] at hd2
      rcases List.mem_cons.1 m1 with e1 | m1 <;> rcases List.mem_cons.1 m2 with e2 | m2
      · rw [← e1] at e2; injection e2 with e2; exact e2.symm
      · exact absurd (List.mem_map.2 ⟨_, m2, by rw [← e1]⟩) hd2.1
      · exact absurd (List.mem_map.2 ⟨_, m1, by rw [← e2]⟩) hd2.1
      · exact ih hd2.2 m1 m2
  refine ⟨fun j => ?_, fun j o hj => ?_, fun j j' o o2 hne hj hj' hl hl2 b hb => ?_, fun j o hj hl b hb => ?_, ?_, ?_, fun b hb => .inl (hI.fsup b hb), hI.os, hI.tape, hI.output, hI.size, hI.frm, hI.pin, fun j hX hj => ?_⟩
  · rw [lk_reOs]
    constructor
    · rintro ⟨i, hi, _⟩
      rw [hi]; rfl
    · intro h
      cases hi : lk ids j with
      | none => rw [hi] at h; cases h
      | some i => exact ⟨i, hi, (hids _ (lk_mem hi)).1⟩
  · obtain ⟨i, o', h1, h2, rfl, h4, h5, h6, h7⟩ := look j o hj
    rw [h5, h6, h7]
    have hs := hI.obj i _ h2
    simp only [reO, h2]
    cases o' with
    | row t k l =>
      obtain ⟨xs, h6, h7, h8⟩ := hs
      exact ⟨xs, h6, h7.imp (fun x cs h => re_rep h), h8⟩
    | fz k l => exact re_ro hs
    | fp ks r f => exact PPtr.mono (fun b hb => .inl hb) (fun _ _ => rfl) hs
    | fb k x =>
      obtain ⟨b, h6, h7⟩ := hs
      exact ⟨b, h6, re_ro h7⟩
    | box t as =>
      obtain ⟨b, us, h6, h7, h8, h9⟩ := hs
      exact ⟨b, us, h6, h7, re_L hd hI h8, h9⟩
    | drow t k l => exact hs
    | hole t k l n off j => trivial
    | part t k l m => exact hs
    | mp t e z l =>
      obtain ⟨b, kt, et, zv, D, ps, k1, k2, k3, k4, k5, k6, k7, k8, k9, k10, k11, k12⟩ := hs
      exact ⟨b, kt, et, zv, D, ps, k1, k2, k3, k4, k5, k6, k7, k8.mono (fun b hb => .inl hb) (fun _ _ => rfl), k9, k10, k11.mono (fun b hb => .inl hb) (fun _ _ => rfl), k12⟩
    | mit e l cur =>
      obtain ⟨b, r, kt, n, D, left, cnt, ps, k1, k2, k3, k4, k5, k6, k7, k8, k9⟩ := hs
      exact ⟨b, r, kt, n, D, left, cnt, ps, k1, k2, k3, k4, k5, k6.mono (fun b hb => .inl hb) (fun _ _ => rfl), k7, CurOk.mono (fun b hb => .inl hb) (fun _ _ => rfl) k3 rfl rfl k8, k9⟩
    | dead => trivial
  · obtain ⟨i, oi, h1, h2, rfl, h4, h5, h6, h7⟩ := look j o hj
    obtain ⟨i2, oi2, k1, k2, rfl, k4, k5, k6, k7⟩ := look j' o2 hj'
    rw [h6] at hb
    rw [k6]
    have hl := h4 hl
    have hl2 := k4 hl2
    exact hI.dis i i2 _ _ (fun e => hne (inj j j' i h1 (e ▸ k1))) h2 k2 hl hl2 b hb
  · obtain ⟨i, oi, h1, h2, rfl, h4, h5, h6, h7⟩ := look j o hj
    rw [h6] at hb
    have hl := h4 hl
    obtain ⟨h6, h7⟩ := hI.nof i _ h2 hl b hb
    refine ⟨fun hF => ?_, h7⟩
    rcases hF with hF | ⟨i', o', h8, h9, h10, h11⟩
    · exact h6 hF
    · exact hI.dis i i' _ _ (fun e => h10 j (e ▸ lk_mem h1)) h2 h8 hl (by cases o' <;> first | rfl | cases h9) b hb h11
  · rintro b (hb | ⟨i', o', h8, h9, h10, h11⟩)
    · exact hI.flt b hb
    · exact hI.lt i' _ h8 (by cases o' <;> first | rfl | cases h9) b h11
  · rintro b (hb | ⟨i', o', h8, h9, h10, h11⟩)
    · exact hI.fsub b hb
    · exact .inr (hI.nof i' _ h8 (by cases o' <;> first | rfl | cases h9) b h11).2
  · obtain ⟨i, hi, hD⟩ := hj
    have e := (hids _ (lk_mem hi)).2 hX
    simp only at e
    subst e
    have := hI.par j hX hD
    simpa [reE, hi] using this
theorem okN_ok {ids : List (Nat × Nat)} (hI : Inv P X os E) (h : okN ids os = true) : (ids.map (·.1)).Nodup ∧ (ids.map (·.2)).Nodup ∧ ∀ p ∈ ids, E.D p.2 ∧ (X.D p.1 → p.1 = p.2) := by
  simp only [okN, Bool.and_eq_true] at h
  obtain ⟨⟨h1, h2⟩, h3⟩ := h
  refine ⟨nodupB_ok h1, nodupB_ok h2, fun p hp => ?_⟩
  have := allB_ok h3 p hp
  simp only [Bool.and_eq_true, Bool.or_eq_true] at this
  refine ⟨(hI.dom _).2 this.1, fun hX => ?_⟩
  rcases this.2 with h | h
  · have := Nat.le_of_ble_eq_true h
    have := hI.pin _ hX
    omega
  · exact Nat.eq_of_beq_eq_true h
end
end Go.Proofs.YthfmlelodmcgkaaGreat.V

set_option linter.unusedVariables false
set_option linter.unusedSimpArgs false
set_option linter.unusedSectionVars false
namespace Go.Proofs.YthfmlelodmcgkaaGreat.V
open Go
def resM (tys : List Ty) (s : S) : List ResultVar → (List Cv → Prop) → Prop
  | [], K => K []
  | .tmp t :: r, K => match s.ρ t with
    | .val (.one .undef) => False
    | .val c => resM tys s r fun cs => K (c :: cs)
    | .tup _ => False
  | .cell p ty :: r, K => (loadM tys ty (s.ρ p)).run s.os fun v _ => match v with
    | .val (.one .undef) => False
    | .val c => resM tys s r fun cs => K (c :: cs)
    | .tup _ => False
def toRv : List Cv → Rv
  | [c] => .val c
  | cs => .tup cs
def preB : Nat → Nat → List Nat → Bool
  | 0, _, _ => true
  | n + 1, j, i :: r => Nat.beq i j && preB n (j + 1) r
  | _ + 1, _, [] => false
def okR (n0 : Nat) (ids : List Nat) (os : List (Nat × Obj')) : Bool := nodupB ids && allB (fun i => (lk os i).isSome) ids && preB n0 0 ids
def reL (I : List (Nat × Nat)) (os : List (Nat × Obj')) : List Nat → List Obj'
  | [] => []
  | i :: r => reO I os i :: reL I os r
/-- Results, and the objects that are handed on with them (those that came in first); what else lies in rows is left as it is. -/
def RetS (n0 : Nat) (K : Rv → List Obj' → Prop) (r : Rv) (os : List (Nat × Obj')) : Prop :=
  ∃ ids : List Nat, okR n0 ids os = true ∧ K (reR (numb 0 ids) os r) (reL (numb 0 ids) os ids)
/-- The end of a text: its results are what the contract tells. -/
def RetQ (P : Program) (n0 : Nat) (tys : List Ty) (res : List ResultVar) (K : Rv → List Obj' → Prop) (s : S) : Prop :=
  ∃ s', Sub P s s' ∧ resM tys s' res fun cs => RetS n0 K (toRv cs) s'.os
def retQ (P : Program) (n0 : Nat) (tys : List Ty) (res : List ResultVar) (K : Rv → List Obj' → Prop) : Exit → S → Prop
  | .ret, s => RetQ P n0 tys res K s
  | .normal, s => RetQ P n0 tys res K s
  | _, _ => False
theorem reL_eq (I : List (Nat × Nat)) (os : List (Nat × Obj')) : ∀ (ids : List Nat) (n : Nat), reOs I os (numb n ids) = numb n (reL I os ids)
  | [], n => rfl
  | i :: r, n => by simp only [numb, reOs, reL]; rw [reL_eq I os r (n + 1)]
theorem reL_length (I : List (Nat × Nat)) (os : List (Nat × Obj')) : ∀ (ids : List Nat), (reL I os ids).length = ids.length
  | [] => rfl
  | i :: r => by simp [reL, reL_length I os r]
theorem preB_ok : ∀ {n j : Nat} {ids : List Nat}, preB n j ids = true → n ≤ ids.length ∧ ∀ m, m < n → ids[m]? = some (j + m)
  | 0, j, ids, _ => ⟨Nat.zero_le _, fun m h => absurd h (Nat.not_lt_zero _)⟩
  | n + 1, j, i :: r, h => by
    simp only [preB, Bool.and_eq_true] at h
    obtain ⟨h1, h2⟩ := preB_ok h.2
    refine ⟨by simpa using h1, fun m hm => ?_⟩
    rcases m with _ | m
    · simpa using Nat.eq_of_beq_eq_true h.1
    · rw [List.getElem?_cons_succ, h2 m (by omega)]
      congr 1; omega
theorem mem_numb {α : Type} : ∀ {l : List α} {n : Nat} {p : Nat × α}, p ∈ numb n l → n ≤ p.1 ∧ l[p.1 - n]? = some p.2
  | x :: r, n, p, h => by
    simp only [numb] at h
    rcases List.mem_cons.1 h with rfl | h
    · exact ⟨Nat.le_refl _, by simp⟩
    · obtain ⟨h1, h2⟩ := mem_numb h
      refine ⟨by omega, ?_⟩
      rw [show p.1 - n = (p.1 - (n + 1)) + 1 from by omega, List.getElem?_cons_succ]
      exact h2
theorem numb_fst : ∀ {l : List Nat} {n : Nat}, ((numb n l).map (·.1)).Nodup
  | [], n => List.nodup_nil
  | x :: r, n => by
    simp only [numb, List.map_cons, List.nodup_cons]
    refine ⟨fun h => ?_, numb_fst⟩
    obtain ⟨p, hp, he⟩ := List.mem_map.1 h
    have := (mem_numb hp).1
    omega
theorem numb_snd : ∀ {l : List Nat} {n : Nat}, (numb n l).map (·.2) = l
  | [], n => rfl
  | x :: r, n => by simp only [numb, List.map_cons, numb_snd]
section
variable {P : Program} {X : Ctx} {os : List (Nat × Obj')} {E : Env}
def resV (tmps : Array Value) : ResultVar → Sem Value
  | .tmp t => pure (tmps.getD t undef)
  | .cell a t => do loadVar t (← asAddr (tmps.getD a undef))
theorem results_eq (fn : Func) (tmps : Array Value) : results fn tmps = (fn.results.mapM (resV tmps) >>= fun vs => pure (if h : vs.size = 1 then vs[0] else .tuple vs)) := by
  unfold results
  congr 1
theorem M.run_mono {K K' : Rv → List (Nat × Obj') → Prop} (hK : ∀ r os, K r os → K' r os) : ∀ {m : M} {os : List (Nat × Obj')}, m.run os K → m.run os K'
  | .ret r, os, h => hK _ _ h
  | .need p k, os, h => ⟨h.1, M.run_mono hK h.2⟩
  | .br b k1 k2, os, h => by cases b; exact M.run_mono hK (m := k2) h; exact M.run_mono hK (m := k1) h
  | .get i k, os, h => by
    simp only [M.run] at h ⊢
    split at h
    · exact M.run_mono hK h
    · exact h.elim
  | .put i o k, os, h => by
    simp only [M.run] at h ⊢
    split at h
    · exact M.run_mono hK h
    · exact h.elim
  | .new i o k, os, h => by
    simp only [M.run] at h ⊢
    split at h
    · exact M.run_mono hK h
    · exact h.elim
  | .all n k, os, h => fun j hj => M.run_mono hK (h j hj)
  | .any p k, os, h => fun x hx => M.run_mono hK (h x hx)
  | .fail, os, h => h.elim
theorem resM_mono {tys : List Ty} {s : S} : ∀ {res : List ResultVar} {K K' : List Cv → Prop}, (∀ cs, K cs → K' cs) → resM tys s res K → resM tys s res K'
  | [], K, K', hK, h => hK _ h
  | .tmp t :: r, K, K', hK, h => by
    simp only [resM] at h ⊢
    split at h
    · exact h.elim
    · rename_i c hne hc
      exact resM_mono (fun cs h => hK _ h) h
    · exact h.elim
  | .cell p ty :: r, K, K', hK, h => by
    simp only [resM] at h ⊢
    refine M.run_mono (fun v os h => ?_) h
    split at h
    · exact h.elim
    · exact resM_mono (fun cs h => hK _ h) h
    · exact h.elim
theorem resM_ok {tys : List Ty} (ht : ∀ y ∈ tys, TyOk P y) {s : S} {a : Act} (hI : Inv P X s.os E) (hr : Regs P E s.n s.ρ a) : ∀ {res : List ResultVar} {K : List Cv → Prop}, resM tys s res K →
    ∃ cs us, K cs ∧ All2 (CV P E) cs us ∧ (res.mapM (resV a.tmps)).run P E.w = .ok us E.w
  | [], K, h => ⟨[], [], h, trivial, by simp⟩
  | .tmp t :: r, K, h => by
    have hv := hr.reg t
    simp only [resM] at h
    split at h
    · exact h.elim
    · rename_i c hne hc
      obtain ⟨cs, us, h1, h2, h3⟩ := resM_ok ht hI hr h
      rw [hc] at hv
      have hcv : CV P E c (a.tmps.getD t undef) := by
        rcases c with x | as
        · cases x <;> first | exact absurd rfl hne | exact hv
        · exact hv
      refine ⟨c :: cs, _ :: us, h1, ⟨hcv, h2⟩, ?_⟩
      simp [List.mapM_cons, h3, resV]
    · exact h.elim
  | .cell p ty :: r, K, h => by
    have hv := hr.reg p
    simp only [resM] at h
    obtain ⟨v, q, h1, h2, h3⟩ := load_ok ht hI hv h
    split at h3
    · exact h3.elim
    · rename_i c hne
      obtain ⟨cs, us, h4, h5, h6⟩ := resM_ok ht hI hr h3
      have hcv : CV P E c v := by
        rcases c with x | as
        · cases x <;> first | exact absurd rfl hne | exact h2
        · exact h2
      refine ⟨c :: cs, v :: us, h4, ⟨hcv, h5⟩, ?_⟩
      have hl : (do loadVar ty (← asAddr (a.tmps.getD p undef)) : Sem Value).run P E.w = .ok v E.w := by
        cases ha : a.tmps.getD p undef with
        | pointer ad =>
          rw [ha] at h1
          cases ad with
          | none => simp [Instr.loadAt, Instr.sureAddr] at h1
          | some ad => simpa [Instr.loadAt, Instr.sureAddr, asAddr] using h1
        | _ => rw [ha] at h1; simp [Instr.loadAt, Instr.sureAddr] at h1
      have hl' : (resV a.tmps (.cell p ty)).run P E.w = .ok v E.w := hl
      simp [List.mapM_cons, hl', h6]
    · exact h3.elim
end
/-- What is known of data that lies in memory. -/
def okK : (k : Kn) → k.T → Prop
  | .int k, x => okI k x
  | .bool, _ => True
  | .str, _ => True
  | .sl _ e, l => l.length ≤ maxLen ∧ ∀ x ∈ l, okK e x
  | .pr a b, p => okK a p.1 ∧ okK b p.2
def okA : A → Prop
  | .ro k l => l.length ≤ maxLen ∧ ∀ x ∈ l, okK k x
  | .clip k l => l.length ≤ maxLen ∧ ∀ x ∈ l, okK k x
  | .v x => okV x
  | _ => True
def okO : Obj' → Prop
  | .row _ k l => l.length ≤ maxLen ∧ ∀ x ∈ l, okK k x
  | .drow _ k l => l.length ≤ maxLen ∧ ∀ x ∈ l, okK k x
  | _ => True
def okOs : List Obj' → Prop
  | [] => True
  | o :: r => okO o ∧ okOs r
def okLA : List A → Prop
  | [] => True
  | a :: r => okA a ∧ okLA r
def okCs : List Cv → Prop
  | [] => True
  | .one a :: r => okA a ∧ okCs r
  | .agg as :: r => okLA as ∧ okCs r
theorem okK_of {F : Nat → Prop} {w : World} : ∀ {k : Kn} {x : k.T} {cs : List Value}, Rep F w k x cs → okK k x
  | .int k, x, cs, h => h.2
  | .bool, _, _, _ => trivial
  | .str, _, _, _ => trivial
  | .sl t e, l, cs, ⟨u, _, ad, c, _, _, h3, h4⟩ => ⟨h3, fun x hx => by
    obtain ⟨j, hj, rfl⟩ := List.getElem_of_mem hx
    obtain ⟨b, o, cs', _, _, h, _⟩ := h4 j hj
    exact okK_of h⟩
  | .pr a b, p, cs, ⟨c1, c2, _, h1, h2⟩ => ⟨okK_of h1, okK_of h2⟩
theorem okRO_of {F : Nat → Prop} {w : World} {k : Kn} {l : List k.T} {u : Value} (h : RO F w (Rep F w k) k.cells l u) : l.length ≤ maxLen ∧ ∀ x ∈ l, okK k x := by
  obtain ⟨ad, c, _, _, h3, h4⟩ := h
  refine ⟨h3, fun x hx => ?_⟩
  obtain ⟨j, hj, rfl⟩ := List.getElem_of_mem hx
  obtain ⟨b, o, cs', _, _, h, _⟩ := h4 j hj
  exact okK_of h
theorem okA_of {P : Program} {E : Env} {a : A} {u : Value} (h : AV P E a u) : okA a := by
  cases a <;> first | trivial | skip
  · exact h.2
  · exact okRO_of h
  · exact okRO_of h.1
theorem okReps_of {F : Nat → Prop} {w : World} {k : Kn} : ∀ {l : List k.T} {cs : List Value}, Reps F w k l cs → ∀ x ∈ l, okK k x
  | y :: l, cs, ⟨c1, c2, _, h1, h2⟩, x, hx => by
    rcases List.mem_cons.1 hx with rfl | hx
    · exact okK_of h1
    · exact okReps_of h2 x hx
theorem okO_of {P : Program} {E : Env} {o : Obj'} {u : Value} {φ : Nat → Prop} {ι : Nat → Value} (h : OSat P E u φ ι o) : okO o := by
  cases o <;> first | trivial | skip
  · obtain ⟨xs, h1, h2, h3, _⟩ := h
    exact ⟨h3, okReps_of h2⟩
  · obtain ⟨xs, φ', h1, h2, h3, _⟩ := h
    exact ⟨h3, okReps_of (h2.reps (F := fun _ => True) (w := E.w) (fun ψ x c hψ h' => DRep.rep (fun b hb => trivial) h'))⟩
theorem okOs_of {P : Program} {E : Env} : ∀ {os : List Obj'}, (∀ o ∈ os, okO o) → okOs os
  | [], _ => trivial
  | o :: r, h => ⟨h o List.mem_cons_self, okOs_of (P := P) (E := E) (fun x hx => h x (List.mem_cons_of_mem _ hx))⟩
theorem okLA_of {P : Program} {E : Env} : ∀ {as : List A} {us : List Value}, All2 (AV P E) as us → okLA as
  | [], [], _ => trivial
  | _ :: _, _ :: _, ⟨h1, h2⟩ => ⟨okA_of h1, okLA_of h2⟩
theorem okCs_of {P : Program} {E : Env} : ∀ {cs : List Cv} {us : List Value}, All2 (CV P E) cs us → okCs cs
  | [], [], _ => trivial
  | .one a :: r, _ :: _, ⟨h1, h2⟩ => ⟨okA_of h1.1, okCs_of h2⟩
  | .agg as :: r, _ :: _, ⟨⟨us, _, h1, _⟩, h2⟩ => ⟨okLA_of h1, okCs_of h2⟩
/-- A contract, by its function's text over states. -/
theorem good_of {P : Program} {f : FuncId} {fn : Func} {c : Code} {sp : List Cv → List Obj' → Tree} (hf : P.funcs[f]? = some fn) (hb : fn.body = some c) (n : Nat) (hn : fn.ntmps = n) (res : List ResultVar) (hres : fn.results.toList = res) (T : Tab P)
    (h : ∀ (X : Ctx) (cs : List Cv) (os0 : List Obj') (K : Rv → List Obj' → Prop), okCs cs → okOs os0 → (sp cs os0).run K → cs.length ≤ n ∧ (∀ x ∈ cs, x ≠ .one .undef) ∧ vc T X c ⟨n, numb 0 (cs.map .val), numb 0 os0⟩ (retQ P os0.length T.tys res K)) : Good P f sp := by
  intro E0 cs os0 vs K hF hD h16 hO hdis hnof ha hK
  obtain ⟨hl, hnu, hv⟩ := h ⟨E0.w, E0.F, fun b => ∃ j, j < os0.length ∧ E0.φ j b, E0.D, E0.σ, E0.ι⟩ cs os0 K (okCs_of ha) (okOs_of (P := P) (E := E0) (fun o ho => by
    obtain ⟨j, hj, rfl⟩ := List.getElem_of_mem ho
    exact okO_of (hO j hj).1)) hK
  have hlk : ∀ i o, lk (numb 0 os0) i = some o → ∃ h : i < os0.length, os0[i] = o := fun i o hi => by
    rw [lk_numb] at hi
    simp only [Nat.not_lt_zero, if_false, Nat.sub_zero] at hi
    exact List.getElem?_eq_some_iff.1 hi
  refine calls_of_wp hf hb (vc_ok hv _ _ _ ⟨E0, rfl, ?_, rfl, ?_, fun t => ?_⟩ (fun e s' a' w' hS hq => ?_))
  · refine ⟨fun i => ?_, fun i o hi => ?_, fun i j o o' hne hi hj _ _ => ?_, fun i o hi _ b hb => ?_, hF, fun b hb => .inl hb, fun b hb => hb, rfl, rfl, rfl, Nat.le_refl _, fun _ _ _ => rfl, fun i hi => ?_, fun i _ _ => ⟨rfl, rfl⟩⟩
    · rw [lk_numb, hD]; simp
    · obtain ⟨h1, rfl⟩ := hlk i o hi
      exact (hO i h1).1
    · obtain ⟨h1, _⟩ := hlk i o hi
      obtain ⟨h2, _⟩ := hlk j o' hj
      exact hdis i j h1 h2 hne
    · obtain ⟨h1, _⟩ := hlk i o hi
      exact ⟨hnof i h1 b hb, .inr ⟨i, h1, hb⟩⟩
    · have := (hD i).1 hi; omega
  · have := ha.length
    simp [hn]
    omega
  · have hlen := ha.length
    simp only [S.ρ, lk_numb, Nat.not_lt_zero, if_false, Nat.sub_zero, List.getElem?_map]
    cases hc : cs[t]? with
    | none => trivial
    | some c =>
      obtain ⟨u, hu, hcv⟩ := ha.get t c hc
      have hvt : (vs.toArray ++ Array.replicate (fn.ntmps - vs.toArray.size) undef).getD t undef = u := by
        obtain ⟨ht, e⟩ := List.getElem?_eq_some_iff.1 hu
        rw [Array.getD_eq_getD_getElem?, Array.getElem?_append_left (by simpa using ht)]
        simp [hu]
      simp only [Option.map_some]
      rw [hvt]
      have := hnu c (List.mem_of_getElem? hc)
      rcases c with x | as
      · cases x <;> first | exact absurd rfl this | exact hcv
      · exact hcv
  · obtain ⟨E, rfl, hI, hr⟩ := hS
    have fin : ∀ s', Sat P ⟨E0.w, E0.F, fun b => ∃ j, j < os0.length ∧ E0.φ j b, E0.D, E0.σ, E0.ι⟩ s' a' E.w → (resM T.tys s' res fun cs => RetS os0.length K (toRv cs) s'.os) →
        a'.defers = [] ∧ ∃ v, (results fn a'.tmps).run P E.w = .ok v E.w ∧ ∃ r u os E1, Ending.returned v = .returned u ∧ K r os ∧ os0.length ≤ os.length ∧ E1.w = E.w ∧ Inv P ⟨E0.w, E0.F, fun b => ∃ j, j < os0.length ∧ E0.φ j b, E0.D, E0.σ, E0.ι⟩ (numb 0 os) E1 ∧ RV P E1 r u := by
      intro s' hS hq
      obtain ⟨E, hw, hI, hr⟩ := hS
      rw [← hw]
      obtain ⟨cs, us, ⟨ids, h1, h2⟩, h3, h4⟩ := resM_ok T.hty hI hr hq
      simp only [okR, Bool.and_eq_true] at h1
      obtain ⟨⟨hd, hs⟩, hp⟩ := h1
      have hd := nodupB_ok hd
      obtain ⟨hp1, hp2⟩ := preB_ok hp
      have hlen := h3.length
      have hrun : (results fn a'.tmps).run P E.w = .ok (if h : us.length = 1 then us[0] else .tuple us.toArray) E.w := by
        rw [results_eq, show fn.results = res.toArray from by rw [← hres]]
        simp [h4]
      have hrv : RV P E (toRv cs) (if h : us.length = 1 then us[0] else .tuple us.toArray) := by
        rcases cs with _ | ⟨c, _ | ⟨c2, cs⟩⟩
        · rw [dif_neg (by simp at hlen; omega)]
          exact ⟨us, rfl, h3⟩
        · simp at hlen
          rw [dif_pos hlen.symm]
          rcases us with _ | ⟨u, _ | _⟩
          · exact h3.elim
          · rcases c with x | as
            · exact rv_one h3.1.1 h3.1.2
            · exact h3.1
          · exact h3.2.elim
        · simp at hlen
          rw [dif_neg (by omega)]
          exact ⟨us, rfl, h3⟩
      refine ⟨hr.defers, _, hrun, _, _, _, reE (numb 0 ids) s'.os E, rfl, h2, by rw [reL_length]; exact hp1, rfl, ?_, re_R numb_fst hI hrv⟩
      rw [← reL_eq]
      refine re_I numb_fst (by rw [numb_snd]; exact hd) hI (fun p hp' => ?_)
      obtain ⟨_, h5⟩ := mem_numb hp'
      simp only [Nat.sub_zero] at h5
      refine ⟨(hI.dom _).2 (allB_ok hs _ (List.mem_of_getElem? h5)), fun hX => ?_⟩
      have h6 := hp2 p.1 ((hD _).1 hX)
      rw [h5] at h6
      injection h6 with h6
      omega
    cases e with
    | ret =>
      obtain ⟨s1, h1, h2⟩ := hq
      exact fin s1 (h1 _ _ _ ⟨E, rfl, hI, hr⟩) h2
    | normal =>
      obtain ⟨s1, h1, h2⟩ := hq
      exact fin s1 (h1 _ _ _ ⟨E, rfl, hI, hr⟩) h2
    | exit id => exact hq.elim
    | goto l => exact hq.elim
    | panic c => exact hq.elim
    | outgrown => exact hq.elim
end Go.Proofs.YthfmlelodmcgkaaGreat.V

set_option linter.unusedVariables false
set_option linter.unusedSimpArgs false
set_option linter.unusedSectionVars false
namespace Go.Proofs.YthfmlelodmcgkaaGreat.V
open Go
def reRs (ids : List (Nat × Nat)) (s : S) : List Nat → List (Nat × Rv)
  | [] => []
  | t :: r => (t, reR ids s.os (s.ρ t)) :: reRs ids s r
def reS1 (ids : List (Nat × Nat)) (ts : List Nat) (s : S) : S := ⟨s.n, reRs ids s ts, reOs ids s.os ids⟩
def reS (ids : List (Nat × Nat)) (ts : List Nat) (s : S) : S := reS1 ids ts ⟨s.n, s.rs, closeL ids s.os⟩
section
variable {P : Program} {X : Ctx} {os : List (Nat × Obj')} {E : Env}
theorem sub_re1 {s : S} (ids : List (Nat × Nat)) (ts : List Nat) (h : okN ids s.os = true) : Sub P s (reS1 ids ts s) := by
  rintro X a w ⟨E, rfl, hI, hr⟩
  obtain ⟨h1, h2, h3⟩ := okN_ok hI h
  refine ⟨reE ids s.os E, rfl, re_I h1 h2 hI h3, hr.defers, hr.size, fun t => ?_⟩
  have e : ∀ (ts : List Nat), lk (reRs ids s ts) t = if t ∈ ts then some (reR ids s.os (s.ρ t)) else none := by
    intro ts
    induction ts with
    | nil => rfl
    | cons x r ih =>
      simp only [reRs]
      by_cases hx : x = t
      · subst hx; rw [lk_same]; simp
      · rw [lk_ne _ _ hx, ih]
        simp [Ne.symm hx]
  have hρ : (reS1 ids ts s).ρ t = if t ∈ ts then reR ids s.os (s.ρ t) else .val (.one .undef) := by
    show (match lk (reRs ids s ts) t with | some r => r | none => .val (.one .undef)) = _
    rw [e]
    split <;> simp_all
  rw [hρ]
  split
  · exact re_R h1 hI (hr.reg t)
  · trivial
theorem Sub.refl (s : S) : Sub P s s := fun _ _ _ h => h
theorem Sub.trans {s s' s'' : S} (h : Sub P s s') (k : Sub P s' s'') : Sub P s s'' := fun X a w hS => k X a w (h X a w hS)
theorem closeO_some {os : List (Nat × Obj')} {i q : Nat} (h : (lk os q).isSome = true) : (lk (closeO os i) q).isSome = true := by
  have hc : ∀ (x : Nat) (o : Obj') (l : List (Nat × Obj')), (lk l q).isSome = true → (lk ((x, o) :: l) q).isSome = true := fun x o l hl => by
    by_cases e : x = q
    · subst e; rw [lk_same]; rfl
    · rw [lk_ne _ _ e]; exact hl
  unfold closeO
  repeat' split
  all_goals first | exact h | exact hc _ _ _ (hc _ _ _ h)
theorem closeL_some {q : Nat} : ∀ {ids : List (Nat × Nat)} {os : List (Nat × Obj')}, (lk os q).isSome = true → (lk (closeL ids os) q).isSome = true
  | [], _, h => h
  | _ :: r, _, h => closeL_some (ids := r) (closeO_some h)
theorem okN_close {ids ids' : List (Nat × Nat)} {os : List (Nat × Obj')} (h : okN ids os = true) : okN ids (closeL ids' os) = true := by
  simp only [okN, Bool.and_eq_true] at h ⊢
  refine ⟨h.1, ?_⟩
  have ha : ∀ (l : List (Nat × Nat)), allB (fun p => (lk os p.2).isSome && (Nat.ble 16 p.1 || Nat.beq p.1 p.2)) l = true → allB (fun p => (lk (closeL ids' os) p.2).isSome && (Nat.ble 16 p.1 || Nat.beq p.1 p.2)) l = true := by
    intro l
    induction l with
    | nil => exact id
    | cons p r ih =>
      intro hl
      simp only [allB, Bool.and_eq_true] at hl ⊢
      exact ⟨⟨closeL_some hl.1.1, hl.1.2⟩, ih hl.2⟩
  exact ha _ h.2
theorem sub_re {s : S} (ids : List (Nat × Nat)) (ts : List Nat) (h : okN ids s.os = true) : Sub P s (reS ids ts s) := by
  refine Sub.trans (s' := ⟨s.n, s.rs, closeL ids s.os⟩) ?_ (sub_re1 ids ts (okN_close h))
  rintro X a w ⟨E, rfl, hI, hr⟩
  obtain ⟨E', h1, h2, h3⟩ := closeL_ok (ids := ids) hI
  exact ⟨E', h1, h3, hr.defers, hr.size, fun t => RV.mono h2 (hr.reg t)⟩
theorem holds_sub {c : Code} {s s' : S} {Q : Exit → S → Prop} (h : Sub P s s') (k : Holds P X c s' Q) : Holds P X c s Q := fun a w Qe hS hQ => k a w Qe (h X a w hS) hQ
/-- A loop by a family of states: registers ts, objects by their names. -/
theorem loop_ok {T : Tab P} {c : Code} {s : S} {Q : Exit → S → Prop} {α : Type} (ts : List Nat) (ids : List (Nat × Nat)) (I : α → S) (p : α → Prop) (μ : α → Nat) (x0 : α) (hi : okN ids s.os = true) (h0 : reS ids ts s = I x0) (hp : p x0)
    (h : ∀ x, p x → vc T X c (I x) fun e s' => match e with
      | .normal => ∃ y ids', p y ∧ μ y < μ x ∧ okN ids' s'.os = true ∧ reS ids' ts s' = I y
      | e => Q e s') : Holds P X (.loop c) s Q := by
  refine loop_sub (T := T) I p μ x0 (h0 ▸ sub_re ids ts hi) hp _ h (fun x e s' hh => ?_)
  cases e with
  | normal =>
    obtain ⟨y, ids', h1, h2, h3, h4⟩ := hh
    exact ⟨y, h1, h2, h4 ▸ sub_re ids' ts h3⟩
  | exit id => exact hh
  | goto l => exact hh
  | ret => exact hh
  | panic c => exact hh
  | outgrown => exact hh
end
/-! ### nil slices that become rows -/
inductive Loc where
  | reg (t m : Nat) | cell (i m : Nat)
def matA (j : Nat) : A → A
  | .v (.slice none 0 0) => .own j
  | a => a
def matL (j : Nat) : Nat → List A → List A
  | _, [] => []
  | 0, a :: r => matA j a :: r
  | m + 1, a :: r => a :: matL j m r
def matR (j m : Nat) : Rv → Rv
  | .val (.one a) => .val (.one (matA j a))
  | .val (.agg as) => .val (.agg (matL j m as))
  | r => r
/-- A nil slice that lies in a register, in a box: a row of the state's own, named j, of type t, kind k. -/
structure Mat where
  loc : Loc
  j : Nat
  t : TypeId
  k : Kn
def emptyO (t : TypeId) (k : Kn) : Obj' :=
  match k.flat with
  | true => .row t k []
  | false => .drow t k []
theorem emptyO_ok {P : Program} {E : Env} (t : TypeId) (k : Kn) : OSat P E (.slice none 0 0) (fun b => blkOf (.slice none 0 0) = some b) (fun _ => undef) (emptyO t k) := by
  unfold emptyO
  split
  · exact ⟨[], ⟨by simp, .inl ⟨rfl, rfl⟩⟩, rfl, Nat.zero_le _, fun _ => Iff.rfl⟩
  · exact ⟨[], fun _ => False, ⟨by simp, .inl ⟨rfl, rfl⟩⟩, ⟨rfl, fun _ h => h⟩, Nat.zero_le _, fun b => ⟨.inl, fun h => h.elim id False.elim⟩, fun _ _ h => h⟩
def matS1 (q : Mat) (s : S) : S :=
  match q.loc with
  | .reg t m => ⟨s.n, (t, matR q.j m (s.ρ t)) :: s.rs, (q.j, emptyO q.t q.k) :: s.os⟩
  | .cell i m => match lk s.os i with
    | some (.box bt as) => ⟨s.n, s.rs, (i, .box bt (matL q.j m as)) :: (q.j, emptyO q.t q.k) :: s.os⟩
    | _ => ⟨s.n, s.rs, (q.j, emptyO q.t q.k) :: s.os⟩
def matS : List Mat → S → S
  | [], s => s
  | q :: r, s => matS r (matS1 q s)
def okMat : List Mat → S → Bool
  | [], _ => true
  | q :: r, s => (lk s.os q.j).isNone && Nat.ble 16 q.j && okMat r (matS1 q s)
section
variable {P : Program} {X : Ctx} {os : List (Nat × Obj')} {E : Env}
theorem matA_ok {j : Nat} (hD : E.D j) (hs : E.σ j = .slice none 0 0) {a : A} {u : Value} (h : AV P E a u) : AV P E (matA j a) u := by
  unfold matA
  split
  · exact ⟨hD, by rw [hs]; exact h.1⟩
  · exact h
theorem matL_ok {j : Nat} (hD : E.D j) (hs : E.σ j = .slice none 0 0) : ∀ {m : Nat} {as : List A} {us : List Value}, All2 (AV P E) as us → All2 (AV P E) (matL j m as) us
  | m, [], us, h => by cases m <;> exact h
  | m, a :: r, [], h => h.elim
  | 0, a :: r, u :: us, h => ⟨matA_ok hD hs h.1, h.2⟩
  | m + 1, a :: r, u :: us, h => ⟨h.1, matL_ok hD hs h.2⟩
theorem matR_ok {j m : Nat} (hD : E.D j) (hs : E.σ j = .slice none 0 0) {r : Rv} {u : Value} (h : RV P E r u) : RV P E (matR j m r) u := by
  rcases r with (a | as) | cs
  · simp only [matR]
    by_cases e : a = .v (.slice none 0 0)
    · subst e
      exact ⟨matA_ok hD hs h.1, h.2⟩
    · have : matA j a = a := by
        unfold matA
        split
        · exact absurd rfl e
        · rfl
      rw [this]
      exact h
  · obtain ⟨us, h1, h2, h3⟩ := h
    exact ⟨us, h1, matL_ok hD hs h2, h3⟩
  · exact h
theorem sub_mat1 {q : Mat} {s : S} (h0 : lk s.os q.j = none) (h16 : 16 ≤ q.j) : Sub P s (matS1 q s) := by
  rintro X a w ⟨E, rfl, hI, hr⟩
  have hX : ¬ X.D q.j := fun h => by have := hI.pin _ h; omega
  obtain ⟨E1, h1, h2, h3, h4, h5⟩ := hI.made (grown_refl E.w none) q.j h0 hX (.slice none 0 0) (fun b => blkOf (.slice none 0 0) = some b) (fun _ => undef) (emptyO q.t q.k) (fun b hb => by simp [blkOf] at hb) (fun E' _ _ => emptyO_ok q.t q.k)
  have hr1 : ∀ t, RV P E1 (s.ρ t) (a.tmps.getD t undef) := fun t => RV.mono h2 (hr.reg t)
  unfold matS1
  split
  · rename_i t m _
    refine ⟨E1, h1, h3, hr.defers, hr.size, fun t' => ?_⟩
    by_cases e : t = t'
    · subst e
      simp only [S.ρ, lk_same]
      exact matR_ok h4 h5 (hr1 t)
    · simp only [S.ρ, lk_ne _ _ e]
      exact hr1 t'
  · rename_i i m _
    split
    · rename_i bt as hi
      have hne : q.j ≠ i := fun e => by rw [e, hi] at h0; cases h0
      have hi1 : lk ((q.j, emptyO q.t q.k) :: s.os) i = some (.box bt as) := by rw [lk_ne _ _ hne]; exact hi
      obtain ⟨b, us, k1, k2, k3, k4, k5⟩ := h3.obj i _ hi1
      obtain ⟨E2, m1, m2, m3⟩ := h3.upd (b := b) (w' := E1.w) hi1 rfl ((k5 b).2 (by rw [k1]; rfl)) (grown_refl _ _) (.box bt (matL q.j m as)) (fun E' hle hw => ⟨b, us, k1, by rw [hw]; exact k2, (matL_ok h4 h5 k3).imp (fun _ _ h => AV.mono hle h), k4, k5⟩)
      exact ⟨E2, m1.trans h1, m3, hr.defers, hr.size, fun t => RV.mono m2 (hr1 t)⟩
    · exact ⟨E1, h1, h3, hr.defers, hr.size, hr1⟩
theorem sub_mat : ∀ {ms : List Mat} {s : S}, okMat ms s = true → Sub P s (matS ms s)
  | [], s, _ => Sub.refl s
  | q :: r, s, h => by
    simp only [okMat, Bool.and_eq_true] at h
    obtain ⟨⟨h1, h2⟩, h3⟩ := h
    exact (sub_mat1 (by simpa using h1) (Nat.le_of_ble_eq_true h2)).trans (sub_mat h3)
theorem ret0 {tys : List Ty} {res : List ResultVar} {K : Rv → List Obj' → Prop} {s : S} (h : resM tys s res fun cs => K (reR [] s.os (toRv cs)) []) : RetQ P 0 tys res K s :=
  ⟨s, Sub.refl s, resM_mono (fun cs h => ⟨[], rfl, h⟩) h⟩
theorem retN {n0 : Nat} {tys : List Ty} {res : List ResultVar} {K : Rv → List Obj' → Prop} {s : S} (ids : List Nat) (hi : okR n0 ids s.os = true) (h : resM tys s res fun cs => K (reR (numb 0 ids) s.os (toRv cs)) (reL (numb 0 ids) s.os ids)) : RetQ P n0 tys res K s :=
  ⟨s, Sub.refl s, resM_mono (fun cs h => ⟨ids, hi, h⟩) h⟩
theorem retM {n0 : Nat} {tys : List Ty} {res : List ResultVar} {K : Rv → List Obj' → Prop} {s : S} (ms : List Mat) (hm : okMat ms s = true) (h : RetQ P n0 tys res K (matS ms s)) : RetQ P n0 tys res K s := by
  obtain ⟨s', h1, h2⟩ := h
  exact ⟨s', (sub_mat hm).trans h1, h2⟩
end
end Go.Proofs.YthfmlelodmcgkaaGreat.V
