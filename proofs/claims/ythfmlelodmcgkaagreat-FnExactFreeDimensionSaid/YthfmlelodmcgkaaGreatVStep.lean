/- Lengths, places, parts; and the whole step of an operation that is no call. Conditions: in each. Calls by their contracts. Conditions: in each. Function values: those that only reckon, those with captured variables; structs that are built; nil slices that become rows. Conditions: in each. Structs that are built, parts of values, slices cut shorter, checks for nil. Conditions: in each. -/
import Derived.Test.YthfmlelodmcgkaaGreatVNest
import Derived.Laws.Tables
set_option linter.unusedVariables false
set_option linter.unusedSimpArgs false
set_option linter.unusedSectionVars false
namespace Go.Proofs.YthfmlelodmcgkaaGreat.V
open Go
def lenM (tys : List Ty) (t : Nat) (r : Rv) : M :=
  match ty? tys t with
  | some y => match y.d with
    | .sl _ => match r with
      | .val (.one (.own i)) => .get i fun o => match o with
        | .row _ k l => .int .i64 l.length
        | .fz k l => .int .i64 l.length
        | .drow _ k l => .int .i64 l.length
        | _ => .fail
      | .val (.one (.ro k l)) => .int .i64 l.length
      | .val (.one (.v (.slice none 0 _))) => .int .i64 0
      | _ => .fail
    | .str => match r with
      | .val (.one (.v (.string s))) => .need (s.size ≤ 1099511627776) (.int .i64 s.size)
      | _ => .fail
    | _ => .fail
  | none => .fail
def fld : List (Nat × Nat) → Nat → Option (Nat × Nat)
  | [], _ => none
  | x :: _, 0 => some x
  | _ :: r, i + 1 => fld r i
theorem fld_eq : ∀ (l : List (Nat × Nat)) (i : Nat), fld l i = l[i]?
  | [], _ => by simp [fld]
  | x :: r, 0 => by simp [fld]
  | x :: r, i + 1 => by simp [fld, fld_eq r i]
def fieldM (tys : List Ty) (t : Nat) (r : Rv) (f : Nat) : M :=
  match ty? tys t with
  | some y => match y.d with
    | .st fs => match fld fs f with
      | some (ft, off) => match ty? tys ft with
        | some yf => match Nat.ble 1 yf.size with
          | true => match r with
            | .val (.one (.ptr i o)) => .ret (.val (.one (.ptr i (o + off))))
            | .val (.one (.elr k l n o)) => .ret (.val (.one (.elr k l n (o + off))))
            | .val (.one (.elt k i n o)) => .ret (.val (.one (.elt k i n (o + off))))
            | _ => .fail
          | false => .fail
        | none => .fail
      | none => .fail
    | _ => .fail
  | none => .fail
def indexM (tys : List Ty) (t : Nat) (x ix : Rv) : M :=
  match sliceE tys t, ix with
  | some y, .val (.one (.v (.int _ n))) => match x with
    | .val (.one (.ro k l)) => match Nat.beq y.size k.cells with
      | true => .need (0 ≤ n ∧ n < l.length) (.ret (.val (.one (.elr k l n.toNat 0))))
      | false => .fail
    | .val (.one (.own i)) => .get i fun o => match o with
      | .row _ k l => match Nat.beq y.size k.cells with
        | true => .need (0 ≤ n ∧ n < l.length) (.ret (.val (.one (.elt k i n.toNat 0))))
        | false => .fail
      | .drow _ k l => match Nat.beq y.size k.cells with
        | true => .need (0 ≤ n ∧ n < l.length) (.ret (.val (.one (.elt k i n.toNat 0))))
        | false => .fail
      | .fz k l => match Nat.beq y.size k.cells with
        | true => .need (0 ≤ n ∧ n < l.length) (.ret (.val (.one (.elr k l n.toNat 0))))
        | false => .fail
      | .part _ k l _ => match Nat.beq y.size k.cells with
        | true => .need (0 ≤ n ∧ n < l.length) (.ret (.val (.one (.elt k i n.toNat 0))))
        | false => .fail
      | _ => .fail
    | _ => .fail
  | _, _ => .fail
def cutM (tys : List Ty) (t : Nat) (k : Kn) (l : List k.T) (lo hi : Option Rv) : M :=
  match sliceE tys t with
  | some y => match Nat.beq y.size k.cells with
    | true => match lo, hi with
      | none, none => .ret (.val (.one (.ro k l)))
      | none, some (.val (.one (.v (.int _ h)))) => .need (0 ≤ h ∧ h ≤ l.length) (.ret (.val (.one (.ro k (l.take h.toNat)))))
      | some (.val (.one (.v (.int _ a)))), none => .need (0 ≤ a ∧ a ≤ l.length) (.ret (.val (.one (.ro k (l.drop a.toNat)))))
      | some (.val (.one (.v (.int _ a)))), some (.val (.one (.v (.int _ h)))) => .need (0 ≤ a ∧ a ≤ h ∧ h ≤ l.length) (.ret (.val (.one (.ro k ((l.take h.toNat).drop a.toNat)))))
      | _, _ => .fail
    | false => .fail
  | none => .fail
def sliceM (tys : List Ty) (t : Nat) (x : Rv) (lo hi mx : Option Rv) : M :=
  match mx, x with
  | none, .val (.one (.ro k l)) => cutM tys t k l lo hi
  | none, .val (.one (.own i)) => .get i fun o => match o with
    | .row _ k l => .put i (.fz k l) (cutM tys t k l lo hi)
    | .fz k l => cutM tys t k l lo hi
    | _ => .fail
  | some (.val (.one (.v (.int _ m)))), .val (.one (.ro k l)) => match lo, hi, sliceE tys t with
    | none, some (.val (.one (.v (.int _ h)))), some _ => .need (h = (l.length : Int) ∧ m = (l.length : Int)) (.ret (.val (.one (.clip k l))))
    | _, _, _ => .fail
  | _, _ => .fail
def mx (x y : Int) : Int := if x < y then y else x
def mn (x y : Int) : Int := if y < x then y else x
def mmM (big : Bool) (a b : Rv) : M :=
  match a, b with
  | .val (.one (.v (.int k x))), .val (.one (.v (.int k' y))) => match ikB k k' with
    | true => .int k (match big with | true => mx x y | false => mn x y)
    | false => .fail
  | _, _ => .fail
def unM (op : UnOp) (r : Rv) : M :=
  match op, r with
  | .neg, .val (.one (.v (.int k x))) => .int k (wrapK k (0 - x))
  | .not, .val (.one (.v (.bool b))) => .bool !b
  | _, _ => .fail
def convM (tys : List Ty) (src dst : Nat) (r : Rv) : M :=
  match ty? tys src, ty? tys dst with
  | some ys, some y => match y.d, r with
    | .int k, .val (.one (.v (.int _ x))) => .int k (wrapK k x)
    | _, _ => .fail
  | _, _ => .fail
def pickM (c a b : Rv) : M :=
  match c with
  | .val (.one (.v (.bool x))) => .br x (.ret a) (.ret b)
  | _ => .fail
def extrM (r : Rv) (i : Nat) : M :=
  match r with
  | .tup cs => match cs[i]? with
    | some c => .ret (.val c)
    | none => .fail
  | _ => .fail
section
variable {P : Program} {X : Ctx} {os : List (Nat × Obj')} {E : Env} {K : Rv → List (Nat × Obj') → Prop}
theorem slice_of {y : Ty} (hok : TyOk P y) {e : Nat} (h : y.d = .sl e) : P.underlying y.t = some (.slice e) := by
  obtain ⟨d, h3, h4⟩ := hok.und
  rw [h] at h4
  cases d <;> simp [TD.of] at h4
  subst h4
  exact h3
theorem OSat.sl {k : Kn} {l : List k.T} {u : Value} {φ : Nat → Prop} {ι : Nat → Value} (h : (∃ t, OSat P E u φ ι (.row t k l)) ∨ OSat P E u φ ι (.fz k l)) : ∃ ad c, u = .slice ad l.length c ∧ l.length ≤ maxLen := by
  rcases h with ⟨t, xs, h1, h2, h3, _⟩ | ⟨ad, c, h1, h2, h3, _⟩
  · obtain ⟨ad, c, h, _⟩ := row_reads h1
    exact ⟨ad, c, h, h3⟩
  · exact ⟨ad, c, h1, h3⟩
theorem okI_len {n : Nat} (h : n ≤ maxLen) : okI .i64 (n : Int) := by
  unfold maxLen at h
  simp only [okI]
  omega
theorem len_ok {tys : List Ty} (ht : ∀ y ∈ tys, TyOk P y) (hI : Inv P X os E) {t ty : Nat} {r : Rv} {u : Value} (hr : RV P E r u) (h : (lenM tys t r).run os K) :
    ∃ v r, (Builtin.len_ #[t] ty #[u]).run P E.w = .ok v E.w ∧ RV P E r v ∧ K r os := by
  unfold lenM at h
  split at h
  · rename_i y hy
    obtain ⟨hok, rfl⟩ := ty?_ok ht hy
    split at h
    · rename_i e hd
      have hu := slice_of hok hd
      have go : ∀ (ad : Option Addr) (n c : Nat), n ≤ maxLen → K (.val (.one (.v (.int .i64 n)))) os → u = .slice ad n c → ∃ v r, (Builtin.len_ #[y.t] ty #[u]).run P E.w = .ok v E.w ∧ RV P E r v ∧ K r os := by
        rintro ad n c hn hK rfl
        exact ⟨.int .i64 n, _, by simp [Builtin.len_, run_underlying hu, goInt], rv_v (okI_len hn) rfl, hK⟩
      split at h
      · rename_i i
        obtain ⟨⟨hD, rfl⟩, _⟩ := hr
        simp only [M.run] at h
        split at h
        · rename_i o ho
          split at h
          · obtain ⟨ad, c, h1, h2⟩ := OSat.sl (.inl ⟨_, hI.obj i _ ho⟩)
            exact go ad _ c h2 h h1
          · obtain ⟨ad, c, h1, h2⟩ := OSat.sl (P := P) (.inr (hI.obj i _ ho))
            exact go ad _ c h2 h h1
          · obtain ⟨xs, φ', k1, _, k3, _⟩ := hI.obj i _ ho
            obtain ⟨ad, c, h1, _⟩ := row_reads k1
            exact go ad _ c k3 h h1
          · exact h.elim
        · exact h.elim
      · obtain ⟨ad, c, h1, h2, h3, _⟩ := hr.1
        exact go ad _ c h3 h h1
      · obtain ⟨⟨rfl, _⟩, _⟩ := hr
        exact go none 0 _ (Nat.zero_le _) h rfl
      · exact h.elim
    · rename_i hd
      split at h
      · obtain ⟨⟨rfl, _⟩, _⟩ := hr
        obtain ⟨h0, h⟩ := h
        obtain ⟨d, h3, h4⟩ := hok.und
        rw [hd] at h4
        cases d <;> simp [TD.of] at h4
        refine ⟨_, _, ?_, rv_v (x := .int .i64 _) (okI_len (Nat.le_trans h0 maxLen_ge)) rfl, h⟩
        simp [Builtin.len_, run_underlying h3, goInt]
      · exact h.elim
    · exact h.elim
  · exact h.elim
theorem field_ok {tys : List Ty} (ht : ∀ y ∈ tys, TyOk P y) {t : Nat} {r : Rv} {u : Value} {f : Nat} (hr : RV P E r u) (h : (fieldM tys t r f).run os K) (w : World) :
    ∃ v r, (Instr.fieldAt t u f).run P w = .ok v w ∧ RV P E r v ∧ K r os := by
  unfold fieldM at h
  split at h
  · rename_i y hy
    obtain ⟨hok, rfl⟩ := ty?_ok ht hy
    split at h
    · rename_i fs hd
      split at h
      · rename_i ft off hf
        split at h
        · rename_i yf hyf
          obtain ⟨hokf, rfl⟩ := ty?_ok ht hyf
          split at h
          · rename_i hsz
            have hsz := Nat.le_of_ble_eq_true hsz
            obtain ⟨d, h3, h4⟩ := hok.und
            rw [hd] at h4
            cases d <;> simp [TD.of] at h4
            rename_i fields
            subst h4
            rw [fld_eq, List.getElem?_map] at hf
            cases hfi : fields.toList[f]? with
            | none => rw [hfi] at hf; cases hf
            | some fd =>
              rw [hfi] at hf
              simp only [Option.map_some, Option.some.injEq, Prod.mk.injEq] at hf
              obtain ⟨h5, h6⟩ := hf
              have hfa : fields[f]? = some fd := by simpa using hfi
              have run : ∀ b o, u = .pointer (some ⟨b, o, none⟩) → (Instr.fieldAt y.t u f).run P w = .ok (.pointer (some ⟨b, o + off, none⟩)) w := by
                rintro b o rfl
                have hs0 : yf.size ≠ 0 := by omega
                simp [Instr.fieldAt, run_underlying h3, hfa, Instr.sureAddr, fieldPlace, h5, hokf.sizeOf w, hs0, h6, Addr.add_lit]
              split at h
              · obtain ⟨⟨hD, b, hs, hu⟩, _⟩ := hr
                exact ⟨_, .val (.one (.ptr _ _)), run _ _ hu, ⟨⟨hD, b, hs, rfl⟩, rfl⟩, h⟩
              · obtain ⟨⟨hn, b, o, c, hR, hu⟩, _⟩ := hr
                exact ⟨_, .val (.one (.elr _ _ _ _)), run _ _ hu, ⟨⟨hn, b, o, c, hR, by rw [Nat.add_assoc, Nat.add_assoc]⟩, rfl⟩, h⟩
              · obtain ⟨⟨hD, b, len, c, hs, hn, hu⟩, _⟩ := hr
                exact ⟨_, .val (.one (.elt _ _ _ _)), run _ _ hu, ⟨⟨hD, b, len, c, hs, hn, by rw [Nat.add_assoc]⟩, rfl⟩, h⟩
              · exact h.elim
          · exact h.elim
        · exact h.elim
      · exact h.elim
    · exact h.elim
  · exact h.elim
theorem run_index {t e : Nat} {y : Ty} (hok : TyOk P y) (hu : P.underlying t = some (.slice y.t)) (w : World) (b o len c : Nat) (k : IntKind) (n : Int) (h0 : 0 ≤ n) (h1 : n < len) :
    (Instr.indexAt t (.slice (some ⟨b, o, none⟩) len c) (.int k n)).run P w = .ok (.pointer (some ⟨b, o + n.toNat * y.size, none⟩)) w := by
  simp [Instr.indexAt, run_underlying hu, asIntOf, h0, h1, hok.sizeOf w, Addr.add_lit]
theorem index_ok {tys : List Ty} (ht : ∀ y ∈ tys, TyOk P y) (hI : Inv P X os E) {t : Nat} {x ix : Rv} {u ui : Value} (hx : RV P E x u) (hi : RV P E ix ui) (h : (indexM tys t x ix).run os K) :
    ∃ v r, (Instr.indexAt t u ui).run P E.w = .ok v E.w ∧ RV P E r v ∧ K r os := by
  unfold indexM at h
  split at h
  · rename_i y ki n hy
    obtain ⟨hok, hu⟩ := sliceE_ok ht hy
    obtain ⟨⟨rfl, _⟩, _⟩ := hi
    have ro : ∀ (k : Kn) (l : List k.T), y.size = k.cells → RO E.F E.w (Rep E.F E.w k) k.cells l u → 0 ≤ n → n < l.length → K (.val (.one (.elr k l n.toNat 0))) os → ∃ v r, (Instr.indexAt t u (.int ki n)).run P E.w = .ok v E.w ∧ RV P E r v ∧ K r os := by
      intro k l hsz hR h0 h1 hK
      have hR' := hR
      obtain ⟨ad, c, rfl, h2, h3, h4⟩ := hR
      obtain ⟨b, o, cs, rfl, _⟩ := h4 n.toNat (by omega)
      exact ⟨_, .val (.one (.elr k l n.toNat 0)), run_index (e := y.t) hok hu E.w b o l.length c ki n h0 h1, ⟨⟨by omega, b, o, c, hR', by rw [hsz, Nat.add_zero]⟩, rfl⟩, hK⟩
    split at h
    · split at h
      · rename_i hsz
        exact ro _ _ (Nat.eq_of_beq_eq_true hsz) hx.1 h.1.1 h.1.2 h.2
      · exact h.elim
    · rename_i i
      obtain ⟨⟨hD, rfl⟩, _⟩ := hx
      simp only [M.run] at h
      split at h
      · rename_i o ho
        split at h
        · split at h
          · rename_i k l _ hsz
            have hsz := Nat.eq_of_beq_eq_true hsz
            obtain ⟨⟨h0, h1⟩, h⟩ := h
            obtain ⟨xs, ⟨h2, h3⟩, h4, h5, _⟩ := hI.obj i _ ho
            rcases h3 with ⟨_, h3⟩ | ⟨g, cap, cur, h3, _⟩
            · omega
            · refine ⟨_, .val (.one (.elt k i n.toNat 0)), ?_, ⟨⟨hD, g, l.length, cap, h3, by omega, rfl⟩, rfl⟩, h⟩
              rw [h3, run_index (e := y.t) hok hu E.w g 0 l.length cap ki n h0 h1, hsz]
              simp
          · exact h.elim
        · split at h
          · rename_i k l _ hsz
            have hsz := Nat.eq_of_beq_eq_true hsz
            obtain ⟨⟨h0, h1⟩, h⟩ := h
            obtain ⟨xs, φ', ⟨h2, h3⟩, _⟩ := hI.obj i _ ho
            rcases h3 with ⟨_, h3⟩ | ⟨g, cap, cur, h3, _⟩
            · omega
            · refine ⟨_, .val (.one (.elt k i n.toNat 0)), ?_, ⟨⟨hD, g, l.length, cap, h3, by omega, rfl⟩, rfl⟩, h⟩
              rw [h3, run_index (e := y.t) hok hu E.w g 0 l.length cap ki n h0 h1, hsz]
              simp
          · exact h.elim
        · split at h
          · rename_i hsz
            exact ro _ _ (Nat.eq_of_beq_eq_true hsz) (hI.obj i _ ho) h.1.1 h.1.2 h.2
          · exact h.elim
        · split at h
          · rename_i k l m _ hsz
            have hsz := Nat.eq_of_beq_eq_true hsz
            obtain ⟨⟨h0, h1⟩, h⟩ := h
            obtain ⟨xs, φ', ⟨h2, h3⟩, _⟩ := hI.obj i _ ho
            rcases h3 with ⟨_, h3⟩ | ⟨g, cap, cur, h3, _⟩
            · omega
            · refine ⟨_, .val (.one (.elt k i n.toNat 0)), ?_, ⟨⟨hD, g, l.length, cap, h3, by omega, rfl⟩, rfl⟩, h⟩
              rw [h3, run_index (e := y.t) hok hu E.w g 0 l.length cap ki n h0 h1, hsz]
              simp
          · exact h.elim
        · exact h.elim
      · exact h.elim
    · exact h.elim
  · exact h.elim
theorem RO.cut {α : Type} {F : Nat → Prop} {w : World} {R : α → List Value → Prop} {sz : Nat} {l : List α} {ad : Option Addr} {c a h : Nat} (hR : RO F w R sz l (.slice ad l.length c)) (hah : a ≤ h) (hh : h ≤ l.length) :
    RO F w R sz ((l.take h).drop a) (.slice (if c = a then ad else ad.map (·.add (a * sz))) (h - a) (c - a)) := by
  obtain ⟨ad', c', h1, h2, h3, h4⟩ := hR
  injection h1 with h1 _ h1'
  subst h1
  subst h1'
  have hl : ((l.take h).drop a).length = h - a := by simp; omega
  refine ⟨_, _, by rw [hl], by rw [hl]; omega, by rw [hl]; omega, fun j hj => ?_⟩
  rw [hl] at hj
  obtain ⟨b, o, cs, rfl, h6, h7, h8, h9⟩ := h4 (a + j) (by omega)
  refine ⟨b, o + a * sz, cs, ?_, h6, ?_, h8, fun i hi => ?_⟩
  · rw [if_neg (by omega)]
    simp [Addr.add_lit]
  · simpa using h7
  · rw [← h9 i hi]
    congr 2
    rw [Nat.add_mul]
    omega
theorem cut_ok {tys : List Ty} (ht : ∀ y ∈ tys, TyOk P y) {t : Nat} {k : Kn} {l : List k.T} {u : Value} {lo hi : Option Rv} {ulo uhi : Option Value} (hR : AV P E (.ro k l) u)
    (hlo : ∀ r, lo = some r → ∃ v, ulo = some v ∧ RV P E r v) (hlo' : lo = none → ulo = none) (hhi : ∀ r, hi = some r → ∃ v, uhi = some v ∧ RV P E r v) (hhi' : hi = none → uhi = none)
    (h : (cutM tys t k l lo hi).run os K) (w : World) : ∃ v r, (Instr.sliceAt t u ulo uhi none).run P w = .ok v w ∧ RV P E r v ∧ K r os := by
  unfold cutM at h
  split at h
  · rename_i y hy
    obtain ⟨hok, hu⟩ := sliceE_ok ht hy
    split at h
    · rename_i hsz
      have hsz := Nat.eq_of_beq_eq_true hsz
      have hR' : RO E.F E.w (Rep E.F E.w k) k.cells l u := hR
      obtain ⟨ad, c, rfl, h2, h3, _⟩ := hR
      have run : ∀ (a b : Nat) (r : List k.T), a ≤ b → b ≤ l.length → r = (l.take b).drop a → K (.val (.one (.ro k r))) os →
          (Instr.sliceAt t (.slice ad l.length c) ulo uhi none).run P w = .ok (.slice (if c = a then ad else ad.map (·.add (a * y.size))) (b - a) (c - a)) w →
          ∃ v r, (Instr.sliceAt t (.slice ad l.length c) ulo uhi none).run P w = .ok v w ∧ RV P E r v ∧ K r os := by
        rintro a b r hab hb rfl hK hrun
        refine ⟨_, .val (.one (.ro k _)), hrun, ⟨?_, rfl⟩, hK⟩
        rw [hsz]
        exact RO.cut hR' hab hb
      split at h
      · obtain rfl := hlo' rfl
        obtain rfl := hhi' rfl
        refine run 0 l.length l (Nat.zero_le _) (Nat.le_refl _) (by simp) h ?_
        simp [Instr.sliceAt, run_underlying hu, Instr.slice, Instr.sliceBounds, hok.sizeOf w]
      · rename_i kh hh
        obtain rfl := hlo' rfl
        obtain ⟨_, rfl, ⟨rfl, _⟩, _⟩ := hhi _ rfl
        obtain ⟨⟨h0, h1⟩, h⟩ := h
        refine run 0 hh.toNat _ (Nat.zero_le _) (by omega) (by simp) h ?_
        have e : (Instr.sliceBound (.int kh hh) c .sliceAcap).run P w = .ok hh.toNat w := run_sliceBound _ _ _ _ _ h0 (by omega)
        simp [Instr.sliceAt, run_underlying hu, Instr.slice, Instr.sliceBounds, hok.sizeOf w, e]
      · rename_i ka aa
        obtain rfl := hhi' rfl
        obtain ⟨_, rfl, ⟨rfl, _⟩, _⟩ := hlo _ rfl
        obtain ⟨⟨h0, h1⟩, h⟩ := h
        refine run aa.toNat l.length _ (by omega) (Nat.le_refl _) (by simp) h ?_
        have e : (Instr.sliceBound (.int ka aa) l.length .sliceB).run P w = .ok aa.toNat w := run_sliceBound _ _ _ _ _ h0 (by omega)
        simp [Instr.sliceAt, run_underlying hu, Instr.slice, Instr.sliceBounds, hok.sizeOf w, e]
      · rename_i ka aa kh hh
        obtain ⟨_, rfl, ⟨rfl, _⟩, _⟩ := hlo _ rfl
        obtain ⟨_, rfl, ⟨rfl, _⟩, _⟩ := hhi _ rfl
        obtain ⟨⟨h0, h1, h4⟩, h⟩ := h
        refine run aa.toNat hh.toNat _ (by omega) (by omega) rfl h ?_
        have e : (Instr.sliceBound (.int kh hh) c .sliceAcap).run P w = .ok hh.toNat w := run_sliceBound _ _ _ _ _ (by omega) (by omega)
        have e2 : (Instr.sliceBound (.int ka aa) hh.toNat .sliceB).run P w = .ok aa.toNat w := run_sliceBound _ _ _ _ _ h0 (by omega)
        simp [Instr.sliceAt, run_underlying hu, Instr.slice, Instr.sliceBounds, hok.sizeOf w, e, e2]
      · exact h.elim
    · exact h.elim
  · exact h.elim
end
end Go.Proofs.YthfmlelodmcgkaaGreat.V

set_option linter.unusedVariables false
set_option linter.unusedSimpArgs false
set_option linter.unusedSectionVars false
namespace Go.Proofs.YthfmlelodmcgkaaGreat.V
open Go
section
variable {P : Program} {X : Ctx} {os : List (Nat × Obj')} {E : Env} {K : Rv → List (Nat × Obj') → Prop}
theorem slice_ok {tys : List Ty} (ht : ∀ y ∈ tys, TyOk P y) (hI : Inv P X os E) {t : Nat} {x : Rv} {u : Value} {lo hi mx : Option Rv} {ulo uhi umx : Option Value} (hx : RV P E x u)
    (hlo : ∀ r, lo = some r → ∃ v, ulo = some v ∧ RV P E r v) (hlo' : lo = none → ulo = none) (hhi : ∀ r, hi = some r → ∃ v, uhi = some v ∧ RV P E r v) (hhi' : hi = none → uhi = none) (hmx' : ∀ r, mx = some r → ∃ v, umx = some v ∧ RV P E r v) (hmx : mx = none → umx = none)
    (h : (sliceM tys t x lo hi mx).run os K) : ∃ v, (Instr.sliceAt t u ulo uhi umx).run P E.w = .ok v E.w ∧ Out P X E K v E.w := by
  unfold sliceM at h
  split at h
  · obtain rfl := hmx rfl
    obtain ⟨v, r, h1, h2, h3⟩ := cut_ok ht hx.1 hlo hlo' hhi hhi' h E.w
    exact ⟨v, h1, E, r, os, rfl, .refl E, hI, h2, h3⟩
  · obtain rfl := hmx rfl
    rename_i i
    obtain ⟨⟨hD, rfl⟩, _⟩ := hx
    simp only [M.run] at h
    split at h
    · rename_i o ho
      split at h
      · simp only [M.run, ho] at h
        obtain ⟨E', h1, h2, h3, h4⟩ := hI.freeze ho
        obtain ⟨v, r, h5, h6, h7⟩ := cut_ok (E := E') ht h4 (fun r hr => by
          obtain ⟨v, hv, hv'⟩ := hlo r hr; exact ⟨v, hv, RV.mono h2 hv'⟩) hlo' (fun r hr => by
          obtain ⟨v, hv, hv'⟩ := hhi r hr; exact ⟨v, hv, RV.mono h2 hv'⟩) hhi' h E.w
        exact ⟨v, h5, E', r, _, h1, h2, h3, h6, h7⟩
      · obtain ⟨v, r, h5, h6, h7⟩ := cut_ok ht (hI.obj i _ ho) hlo hlo' hhi hhi' h E.w
        exact ⟨v, h5, E, r, _, rfl, .refl E, hI, h6, h7⟩
      · exact h.elim
    · exact h.elim
  · rename_i km m k l
    split at h
    · rename_i kh hh y hy
      obtain ⟨hok, hu⟩ := sliceE_ok ht hy
      obtain ⟨⟨rfl, rfl⟩, h⟩ := h
      obtain rfl := hlo' rfl
      obtain ⟨_, rfl, ⟨rfl, _⟩, _⟩ := hhi _ rfl
      obtain ⟨_, rfl, ⟨rfl, _⟩, _⟩ := hmx' _ rfl
      obtain ⟨hro, _⟩ := hx
      have hro : RO E.F E.w (Rep E.F E.w k) k.cells l u := hro
      obtain ⟨ad, c, rfl, h2, h3, h4⟩ := hro
      have e1 : (Instr.sliceBound (.int km (l.length : Int)) c .slice3Acap).run P E.w = .ok (l.length : Int).toNat E.w := run_sliceBound _ _ _ _ _ (by omega) (by omega)
      have e2 : (Instr.sliceBound (.int kh (l.length : Int)) l.length .slice3B).run P E.w = .ok (l.length : Int).toNat E.w := run_sliceBound _ _ _ _ _ (by omega) (by omega)
      rw [Int.toNat_natCast] at e1 e2
      refine ⟨.slice ad l.length l.length, ?_, E, .val (.one (.clip k l)), os, rfl, .refl E, hI, ⟨⟨⟨ad, l.length, rfl, Nat.le_refl _, h3, h4⟩, ad, rfl⟩, rfl⟩, h⟩
      simp [Instr.sliceAt, run_underlying hu, Instr.slice, Instr.sliceBounds, hok.sizeOf E.w, e1, e2]
      cases ad <;> simp [Addr.add]
    · exact h.elim
  · exact h.elim
end
/-! ### calls -/
/-- The objects that an argument hands on to be written. -/
def refsA : A → List Nat
  | .own i => [i] | .ptr i _ => [i] | .fn _ caps => caps | _ => []
def refsL : List A → List Nat
  | [] => []
  | a :: r => refsA a ++ refsL r
def refsR : Rv → List Nat
  | .val (.one a) => refsA a
  | .val (.agg as) => refsL as
  | .tup _ => []
def mutIds : List Bool → List Rv → List Nat
  | true :: ms, r :: rs => refsR r ++ mutIds ms rs
  | false :: ms, _ :: rs => mutIds ms rs
  | _, _ => []
def memB : List Nat → Nat → Bool
  | [], _ => false
  | j :: r, i => match Nat.beq j i with | true => true | false => memB r i
def nodupB : List Nat → Bool
  | [] => true
  | i :: r => !memB r i && nodupB r
def plainA : A → Bool
  | .v _ => true | .ro _ _ => true | .clip _ _ => true | .elr _ _ _ _ => true | .pf _ _ _ => true | .pp _ _ _ => true | _ => false
def allB {α : Type} (p : α → Bool) : List α → Bool
  | [] => true
  | a :: r => p a && allB p r
def ixn : List Nat → Nat → Option Nat
  | [], _ => none
  | j :: r, i => match Nat.beq j i with | true => some 0 | false => match ixn r i with | some m => some (m + 1) | none => none
def ixL (ids : List Nat) : List Nat → Option (List Nat)
  | [] => some []
  | i :: r => match ixn ids i, ixL ids r with
    | some m, some ms => some (m :: ms)
    | _, _ => none
/-- A box's cell, named by the callee. -/
def inA (ids : List Nat) (a : A) : Option A :=
  match a with
  | .own i => match ixn ids i with | some m => some (.own m) | none => none
  | .ptr i off => match ixn ids i with | some m => some (.ptr m off) | none => none
  | .fn f caps => match ixL ids caps with | some ms => some (.fn f ms) | none => none
  | a => match plainA a with | true => some a | false => none
def inL (ids : List Nat) : List A → Option (List A)
  | [] => some []
  | a :: r => match inA ids a, inL ids r with
    | some a', some r' => some (a' :: r')
    | _, _ => none
/-- An object that is handed on, named by the callee. -/
def inO (ids : List Nat) (o : Obj') : Option Obj' :=
  match o with
  | .row t k l => some (.row t k l)
  | .drow t k l => some (.drow t k l)
  | .mp t e z l => some (.mp t e z l)
  | .box t as => match inL ids as with | some as' => some (.box t as') | none => none
  | _ => none
def getsM (all : List Nat) : List Nat → (List Obj' → M) → M
  | [], K => K []
  | i :: r, K => .get i fun o => match inO all o with | some o' => getsM all r fun os => K (o' :: os) | none => .fail
/-- What lies in the cells of boxes. -/
def boxRefs (o : Obj') : List Nat := match o with | .box _ as => refsL as | _ => []
/-- An argument's part, handed on: mt, to be written. -/
def bwA (ids : List Nat) (mt : Bool) (a : A) (K : A → Bool → M) : M :=
  match a with
  | .own i => match mt with
    | true => match ixn ids i with | some m => K (.own m) false | none => .fail
    | false => match memB ids i with
      | true => .fail
      | false => .get i fun o => match o with
        | .row _ k l => K (.ro k l) true
        | .drow _ k l => K (.ro k l) true
        | .fz k l => K (.ro k l) false
        | _ => .fail
  | .ptr i off => match mt with
    | true => match ixn ids i with | some m => K (.ptr m off) false | none => .fail
    | false => .fail
  | .elt _ _ _ _ => .fail
  | .inn _ _ => .fail
  | .fn f caps => match mt with
    | true => match ixL ids caps with | some ms => K (.fn f ms) false | none => .fail
    | false => .fail
  | a => K a false
def bwL (ids : List Nat) (mt : Bool) : List A → (List A → Bool → M) → M
  | [], K => K [] false
  | a :: r, K => bwA ids mt a fun a' b => bwL ids mt r fun r' b' => K (a' :: r') (b || b')
def bwC (ids : List Nat) (mt : Bool) (c : Cv) (K : Cv → Bool → M) : M :=
  match c with
  | .one .undef => .fail
  | .one a => bwA ids mt a fun a' b => K (.one a') b
  | .agg as => bwL ids mt as fun as' b => K (.agg as') b
def hd (ms : List Bool) : Bool := match ms with | true :: _ => true | _ => false
def tl (ms : List Bool) : List Bool := match ms with | _ :: r => r | [] => []
def argsM (ids : List Nat) : List Bool → List Rv → (List Cv → Bool → M) → M
  | _, [], K => K [] false
  | ms, .val c :: r, K => bwC ids (hd ms) c fun c' b => argsM ids (tl ms) r fun cs b' => K (c' :: cs) (b || b')
  | _, .tup _ :: _, _ => .fail
def flatA : A → Bool
  | .v _ => true | .own _ => true | .ptr _ _ => true | .fn _ _ => true | _ => false
def flatC : Cv → Bool
  | .one a => flatA a
  | .agg as => allB flatA as
def flatR : Rv → Bool
  | .val c => flatC c
  | .tup cs => allB flatC cs
def flatO : Obj' → Bool
  | .row _ k _ => k.flat | .drow _ _ _ => true | .part _ _ _ _ => true | .box _ as => allB flatA as | .dead => true | _ => false
def renA (f : Nat → Nat) : A → A
  | .own i => .own (f i) | .ptr i off => .ptr (f i) off | .elt k i n off => .elt k (f i) n off | .inn i n => .inn (f i) n | .fn g caps => .fn g (caps.map f) | a => a
def renC (f : Nat → Nat) : Cv → Cv
  | .one a => .one (renA f a)
  | .agg as => .agg (as.map (renA f))
def renR (f : Nat → Nat) : Rv → Rv
  | .val c => .val (renC f c)
  | .tup cs => .tup (cs.map (renC f))
def renO (f : Nat → Nat) : Obj' → Obj'
  | .box t as => .box t (as.map (renA f)) | .hole t k l n off j => .hole t k l n off (f j) | o => o
/-- The caller's name of a callee's object. -/
def rn : List Nat → Nat → Nat → Nat
  | [], d, m => oid d m
  | i :: _, _, 0 => i
  | _ :: r, d, m + 1 => rn r d m
def laysM (ids : List Nat) (d : Nat) : Nat → List Obj' → M → M
  | _, [], K => K
  | m, o :: r, K => match Nat.blt m (ln ids) with
    | true => .put (rn ids d m) (renO (rn ids d) o) (laysM ids d (m + 1) r K)
    | false => .new (rn ids d m) (renO (rn ids d) o) (laysM ids d (m + 1) r K)
def treeM (ids : List Nat) (d : Nat) (bw : Bool) : Tree → M
  | .ret r os => match bw with
    | true => match flatR r && allB flatO os with
      | true => laysM ids d 0 os (.ret (renR (rn ids d) r))
      | false => .fail
    | false => laysM ids d 0 os (.ret (renR (rn ids d) r))
  | .need p k => .need p (treeM ids d bw k)
  | .br b k1 k2 => .br b (treeM ids d bw k1) (treeM ids d bw k2)
  | .any p k => .any p fun x => treeM ids d bw (k x)
  | .fail => .fail
structure Ctr (P : Program) where
  f : FuncId
  enter : ∀ args w, (callFunc f args).run P w = .ok (.enter f args) w
  ms : List Bool
  spec : List Cv → List Obj' → Tree
  good : Good P f spec
  fz : List Bool
/-- Rows that are left as they are from a call on. -/
def frzM : List Bool → List Rv → (List Rv → M) → M
  | true :: ms, .val (.one a) :: r, K => frA a fun a' => frzM ms r fun r' => K (.val (.one a') :: r')
  | true :: ms, .val (.agg as) :: r, K => frL as fun as' => frzM ms r fun r' => K (.val (.agg as') :: r')
  | false :: ms, x :: r, K => frzM ms r fun r' => K (x :: r')
  | _, r, K => K r
def ctr? {P : Program} : List (Ctr P) → Nat → Option (Ctr P)
  | [], _ => none
  | c :: r, f => match Nat.beq c.f f with | true => some c | false => ctr? r f
theorem ctr?_ok {P : Program} {cs : List (Ctr P)} {f : Nat} {c : Ctr P} (h : ctr? cs f = some c) : c.f = f := by
  induction cs with
  | nil => cases h
  | cons z r ih =>
    simp only [ctr?] at h
    split at h
    · rename_i e
      injection h with h
      subst h
      exact Nat.eq_of_beq_eq_true e
    · exact ih h
def callI (ms : List Bool) (sp : List Cv → List Obj' → Tree) (d : Nat) (args : List Rv) (ids : List Nat) : M :=
  match nodupB ids && Nat.ble (ln ids) 16 with
  | true => getsM ids ids fun os0 => argsM ids ms args fun cs bw => treeM ids d bw (sp cs os0)
  | false => .fail
/-- Each name once. -/
def dd : List Nat → List Nat → List Nat
  | [], _ => []
  | i :: r, s => match memB s i with
    | true => dd r s
    | false => i :: dd r (i :: s)
/-- Names that are not yet there, each once. -/
def nx (acc : List Nat) : List Nat → List Nat
  | [] => []
  | i :: r => match memB acc i with
    | true => nx acc r
    | false => i :: nx (i :: acc) r
/-- What lies in the cells of what is handed on is handed on, too. -/
def deepC (ms : List Bool) (sp : List Cv → List Obj' → Tree) (d : Nat) (args : List Rv) : Nat → List Nat → List Nat → List Nat → M
  | 0, _, _, _ => .fail
  | f + 1, [], next, acc => match nx acc next with
    | [] => callI ms sp d args acc
    | i :: r => deepC ms sp d args f (i :: r) [] (acc ++ (i :: r))
  | f + 1, i :: r, next, acc => .get i fun o => deepC ms sp d args f r (next ++ boxRefs o) acc
def callC (ms : List Bool) (sp : List Cv → List Obj' → Tree) (d : Nat) (args : List Rv) : M :=
  deepC ms sp d args 100 (nx [] (mutIds ms args)) [] (nx [] (mutIds ms args))
def callM {P : Program} (ctrs : List (Ctr P)) (d f : Nat) (args : List Rv) : M :=
  match ctr? ctrs f with
  | some c => frzM c.fz args fun args => callC c.ms c.spec d args
  | none => .fail
theorem memB_iff {l : List Nat} {i : Nat} : memB l i = true ↔ i ∈ l := by
  induction l with
  | nil => simp [memB]
  | cons j r ih =>
    simp only [memB]
    split
    · rename_i e
      have := Nat.eq_of_beq_eq_true e
      simp [this]
    · rename_i e
      have hne : j ≠ i := fun e' => by rw [e'] at e; simp at e
      rw [ih]
      simp [Ne.symm hne]
theorem nodupB_ok : ∀ {l : List Nat}, nodupB l = true → l.Nodup
  | [], _ => List.nodup_nil
  | i :: r, h => by
    simp only [nodupB, Bool.and_eq_true, Bool.not_eq_true'] at h
    refine List.nodup_cons.2 ⟨fun hm => ?_, nodupB_ok h.2⟩
    rw [memB_iff.2 hm] at h
    cases h.1
theorem ixn_ok : ∀ {l : List Nat} {i m : Nat}, ixn l i = some m → l[m]? = some i
  | j :: r, i, m, h => by
    simp only [ixn] at h
    split at h
    · rename_i e
      injection h with h
      subst h
      simpa using Nat.eq_of_beq_eq_true e
    · split at h
      · rename_i m' hm
        injection h with h
        subst h
        simpa using ixn_ok hm
      · cases h
theorem allB_ok {α : Type} {p : α → Bool} : ∀ {l : List α}, allB p l = true → ∀ x ∈ l, p x = true
  | y :: r, h, x, hx => by
    simp only [allB, Bool.and_eq_true] at h
    rcases List.mem_cons.1 hx with rfl | hx
    · exact h.1
    · exact allB_ok h.2 x hx
section
variable {P : Program} {X : Ctx} {os : List (Nat × Obj')} {E : Env} {K : Rv → List (Nat × Obj') → Prop}
/-- What a call may take as unchanging: F, or all that there is but what is handed on to be written. -/
def Fb (E : Env) (ids : List Nat) : Bool → Nat → Prop
  | true => fun b => b < E.w.heap.size ∧ ∀ i ∈ ids, ¬ E.φ i b
  | false => E.F
def En (E : Env) (ids : List Nat) (bw : Bool) : Env :=
  ⟨E.w, Fb E ids bw, fun m => match ids[m]? with | some i => E.σ i | none => undef, fun m => m < ids.length, fun m => match ids[m]? with | some i => E.φ i | none => fun _ => False, fun m => match ids[m]? with | some i => E.ι i | none => fun _ => undef⟩
/-- The objects that are handed on are live. -/
def Handed (os : List (Nat × Obj')) (ids : List Nat) : Prop := ∀ i ∈ ids, ∃ o, lk os i = some o ∧ o.live = true
theorem Fb.of_F (hI : Inv P X os E) {ids : List Nat} (hh : Handed os ids) {b : Nat} (h : E.F b) : ∀ bw, Fb E ids bw b
  | false => h
  | true => ⟨hI.flt b h, fun i hi hφ => by
    obtain ⟨o, ho, hl⟩ := hh i hi
    exact (hI.nof i o ho hl b hφ).1 h⟩
theorem En.le (hI : Inv P X os E) {ids : List Nat} (hh : Handed os ids) (a b : Bool) : (En E ids a).le (En E ids (a || b)) ∧ (En E ids a).le (En E ids (b || a)) := by
  have k1 : ∀ x : Bool, (En E ids x).le (En E ids x) := fun x => .refl _
  have k2 : (En E ids false).le (En E ids true) := ⟨fun c hc => show Fb E ids true c from Fb.of_F hI hh hc true, fun _ _ => rfl, fun _ h => h, fun _ _ => rfl, fun _ _ => rfl⟩
  cases a <;> cases b <;> first | exact ⟨k1 _, k1 _⟩ | exact ⟨k2, k2⟩
theorem plain_En (hI : Inv P X os E) {ids : List Nat} (hh : Handed os ids) (bw : Bool) {a : A} {u : Value} (hp : plainA a = true) (h : AV P E a u) : AV P (En E ids bw) a u := by
  have hF : ∀ b, E.F b → Fb E ids bw b := fun b hb => Fb.of_F hI hh hb bw
  have rep : ∀ {k : Kn} {x : k.T} {cs : List Value}, Rep E.F E.w k x cs → Rep (Fb E ids bw) E.w k x cs := fun h => Rep.mono (fun b hb _ => hF b hb) (fun _ _ => rfl) h
  cases a with
  | v x => exact h
  | ro k l => exact RO.mono h (fun b hb _ => hF b hb) (fun _ _ => rfl) (fun _ _ h => rep h) k.cells_pos
  | clip k l => exact ⟨RO.mono h.1 (fun b hb _ => hF b hb) (fun _ _ => rfl) (fun _ _ h => rep h) k.cells_pos, h.2⟩
  | elr k l n off =>
    obtain ⟨h0, b, o, c, h1, h2⟩ := h
    exact ⟨h0, b, o, c, RO.mono h1 (fun b hb _ => hF b hb) (fun _ _ => rfl) (fun _ _ h => rep h) k.cells_pos, h2⟩
  | pf ks r f => exact PFun.mono hF (fun _ _ => rfl) h
  | pp ks r f => exact PPtr.mono hF (fun _ _ => rfl) h
  | undef => cases hp
  | own i => cases hp
  | ptr i off => cases hp
  | elt k i n off => cases hp
  | inn i n => cases hp
  | fn g caps => cases hp
theorem ixL_ok {ids : List Nat} {bw : Bool} : ∀ {caps ms : List Nat} {us : List Value}, ixL ids caps = some ms → All2 (fun i x => E.D i ∧ (∃ b, E.σ i = .pointer (some ⟨b, 0, none⟩)) ∧ x = E.σ i) caps us → All2 (fun i x => (En E ids bw).D i ∧ (∃ b, (En E ids bw).σ i = .pointer (some ⟨b, 0, none⟩)) ∧ x = (En E ids bw).σ i) ms us
  | [], ms, us, hm, h => by
    injection hm with hm
    subst hm
    cases us <;> exact h
  | i :: r, ms, us, hm, h => by
    simp only [ixL] at hm
    split at hm
    · rename_i m ms' h1 h2
      injection hm with hm
      subst hm
      rcases us with _ | ⟨u, us⟩
      · exact h.elim
      · obtain ⟨⟨h3, ⟨b, h4⟩, h5⟩, h6⟩ := h
        have h1 := ixn_ok h1
        exact ⟨⟨(List.getElem?_eq_some_iff.1 h1).1, ⟨b, by simp [En, h1, h4]⟩, by simp [En, h1, h5]⟩, ixL_ok h2 h6⟩
    · cases hm
theorem inA_ok (hI : Inv P X os E) {ids : List Nat} (hh : Handed os ids) (bw : Bool) {a a' : A} {u : Value} (hp : inA ids a = some a') (h : AV P E a u) : AV P (En E ids bw) a' u := by
  have go : plainA a = true → some a = some a' → AV P (En E ids bw) a' u := fun h1 h2 => by
    injection h2 with h2
    subst h2
    exact plain_En hI hh bw h1 h
  cases a with
  | own i =>
    simp only [inA] at hp
    split at hp
    · rename_i m hm
      injection hp with hp
      subst hp
      have hm := ixn_ok hm
      exact ⟨(List.getElem?_eq_some_iff.1 hm).1, by simp [En, hm, h.2]⟩
    · cases hp
  | ptr i off =>
    simp only [inA] at hp
    split at hp
    · rename_i m hm
      injection hp with hp
      subst hp
      have hm := ixn_ok hm
      obtain ⟨hD, b, hs, rfl⟩ := h
      exact ⟨(List.getElem?_eq_some_iff.1 hm).1, b, by simp [En, hm, hs], rfl⟩
    · cases hp
  | fn f caps =>
    simp only [inA] at hp
    split at hp
    · rename_i ms hm
      injection hp with hp
      subst hp
      obtain ⟨us, rfl, h2⟩ := h
      exact ⟨us, rfl, ixL_ok hm h2⟩
    · cases hp
  | v x => exact go rfl hp
  | ro k l => exact go rfl hp
  | clip k l => exact go rfl hp
  | elr k l n off => exact go rfl hp
  | pf ks r f => exact go rfl hp
  | pp ks r f => exact go rfl hp
  | undef => cases hp
  | elt k i n off => cases hp
  | inn i n => cases hp
theorem inL_ok (hI : Inv P X os E) {ids : List Nat} (hh : Handed os ids) (bw : Bool) : ∀ {as as' : List A} {us : List Value}, inL ids as = some as' → All2 (AV P E) as us → All2 (AV P (En E ids bw)) as' us
  | [], as', us, hp, h => by
    injection hp with hp
    subst hp
    cases us <;> exact h
  | a :: r, as', us, hp, h => by
    simp only [inL] at hp
    split at hp
    · rename_i a' r' h1 h2
      injection hp with hp
      subst hp
      rcases us with _ | ⟨u, us⟩
      · exact h.elim
      · exact ⟨inA_ok hI hh bw h1 h.1, inL_ok hI hh bw h2 h.2⟩
    · cases hp
theorem own_ro (hI : Inv P X os E) {ids : List Nat} {i : Nat} {k : Kn} {l : List k.T} (hi : i ∉ ids) (hh : Handed os ids) (h : (∃ t, lk os i = some (.row t k l)) ∨ ∃ t, lk os i = some (.drow t k l)) : AV P (En E ids true) (.ro k l) (E.σ i) := by
  have far : ∀ o, lk os i = some o → o.live = true → ∀ b, E.φ i b → Fb E ids true b := fun o ho hl b hb => ⟨hI.lt i o ho hl b hb, fun j hj hφ => by
    obtain ⟨o', ho', hl'⟩ := hh j hj
    exact hI.dis i j o o' (fun e => hi (e ▸ hj)) ho ho' hl hl' b hb hφ⟩
  rcases h with ⟨t, h⟩ | ⟨t, h⟩
  · obtain ⟨xs, h1, h3, h4, hφ⟩ := hI.obj i _ h
    exact RO.of_row h1 (h3.imp (fun _ _ h => Rep.mono (fun b hb _ => Fb.of_F hI hh hb true) (fun _ _ => rfl) h)) h4 (fun b hb => far _ h rfl b ((hφ b).2 hb))
  · obtain ⟨xs, φ', h1, h3, h4, hφ, _⟩ := hI.obj i _ h
    exact RO.of_row h1 (h3.reps (fun ψ x c hψ h' => DRep.rep (fun b hb => far _ h rfl b ((hφ b).2 (.inr (hψ b hb)))) h')) h4 (fun b hb => far _ h rfl b ((hφ b).2 (.inl hb)))
theorem bwA_ok (hI : Inv P X os E) {ids : List Nat} (hh : Handed os ids) {mt : Bool} {a : A} {u : Value} {Kf : A → Bool → M} (ha : AV P E a u) (h : (bwA ids mt a Kf).run os K) : ∃ a' b, AV P (En E ids b) a' u ∧ (Kf a' b).run os K := by
  cases a with
  | own i =>
    obtain ⟨hD, rfl⟩ := ha
    simp only [bwA] at h
    split at h
    · split at h
      · rename_i m hm
        have hm := ixn_ok hm
        exact ⟨.own m, false, ⟨(List.getElem?_eq_some_iff.1 hm).1, by simp [En, hm]⟩, h⟩
      · exact h.elim
    · split at h
      · exact h.elim
      · rename_i hnm
        have hi : i ∉ ids := fun hm => by rw [memB_iff.2 hm] at hnm; cases hnm
        simp only [M.run] at h
        split at h
        · rename_i o ho
          split at h
          · exact ⟨_, true, own_ro hI hi hh (.inl ⟨_, ho⟩), h⟩
          · exact ⟨_, true, own_ro hI hi hh (.inr ⟨_, ho⟩), h⟩
          · rename_i k l
            exact ⟨.ro k l, false, hI.obj i _ ho, h⟩
          · exact h.elim
        · exact h.elim
  | ptr i off =>
    obtain ⟨hD, b, hs, rfl⟩ := ha
    simp only [bwA] at h
    split at h
    · split at h
      · rename_i m hm
        have hm := ixn_ok hm
        exact ⟨.ptr m off, false, ⟨(List.getElem?_eq_some_iff.1 hm).1, b, by simp [En, hm, hs], rfl⟩, h⟩
      · exact h.elim
    · exact h.elim
  | elt k i n off => exact h.elim
  | inn i n => exact h.elim
  | fn g caps =>
    simp only [bwA] at h
    split at h
    · split at h
      · rename_i ms hm
        obtain ⟨us, rfl, h2⟩ := ha
        exact ⟨.fn g ms, false, ⟨us, rfl, ixL_ok hm h2⟩, h⟩
      · exact h.elim
    · exact h.elim
  | undef => exact ⟨.undef, false, trivial, h⟩
  | v x => exact ⟨.v x, false, ha, h⟩
  | ro k l => exact ⟨.ro k l, false, plain_En hI hh false rfl ha, h⟩
  | clip k l => exact ⟨.clip k l, false, plain_En hI hh false rfl ha, h⟩
  | elr k l n off => exact ⟨.elr k l n off, false, plain_En hI hh false rfl ha, h⟩
  | pf ks r f => exact ⟨.pf ks r f, false, plain_En hI hh false rfl ha, h⟩
  | pp ks r f => exact ⟨.pp ks r f, false, plain_En hI hh false rfl ha, h⟩
theorem bwL_ok (hI : Inv P X os E) {ids : List Nat} (hh : Handed os ids) {mt : Bool} : ∀ {as : List A} {us : List Value} {Kf : List A → Bool → M}, All2 (AV P E) as us → (bwL ids mt as Kf).run os K → ∃ as' b, All2 (AV P (En E ids b)) as' us ∧ (Kf as' b).run os K
  | [], [], Kf, _, h => ⟨[], false, trivial, h⟩
  | a :: r, u :: us, Kf, ha, h => by
    obtain ⟨a', b, h1, h2⟩ := bwA_ok hI hh ha.1 h
    obtain ⟨r', b', h3, h4⟩ := bwL_ok hI hh ha.2 h2
    exact ⟨a' :: r', b || b', ⟨AV.mono (En.le hI hh b b').1 h1, h3.imp (fun _ _ h => AV.mono (En.le hI hh b' b).2 h)⟩, h4⟩
theorem bwC_ok (hI : Inv P X os E) {ids : List Nat} (hh : Handed os ids) {mt : Bool} {c : Cv} {u : Value} {Kf : Cv → Bool → M} (hc : RV P E (.val c) u) (h : (bwC ids mt c Kf).run os K) : ∃ c' b, CV P (En E ids b) c' u ∧ (Kf c' b).run os K := by
  cases c with
  | one a =>
    have go : CV P E (.one a) u → (bwA ids mt a fun a' b => Kf (.one a') b).run os K → ∃ c' b, CV P (En E ids b) c' u ∧ (Kf c' b).run os K := fun hc h => by
      obtain ⟨a', b, h1, h2⟩ := bwA_ok (Kf := fun a' b => Kf (.one a') b) hI hh hc.1 h
      exact ⟨.one a', b, ⟨h1, hc.2⟩, h2⟩
    cases a <;> first | exact h.elim | exact go hc h
  | agg as =>
    obtain ⟨us, rfl, h1, h2⟩ := hc
    obtain ⟨as', b, h3, h4⟩ := bwL_ok (Kf := fun a' b => Kf (.agg a') b) hI hh h1 h
    exact ⟨.agg as', b, ⟨us, rfl, h3, h2⟩, h4⟩
theorem argsM_ok (hI : Inv P X os E) {ids : List Nat} (hh : Handed os ids) : ∀ {rs : List Rv} {ms : List Bool} {us : List Value} {Kf : List Cv → Bool → M}, All2 (RV P E) rs us → (argsM ids ms rs Kf).run os K → ∃ cs b, All2 (CV P (En E ids b)) cs us ∧ (Kf cs b).run os K
  | [], ms, [], Kf, _, h => ⟨[], false, trivial, h⟩
  | .tup cs :: r, ms, u :: us, Kf, _, h => h.elim
  | .val c :: r, ms, u :: us, Kf, ha, h => by
    obtain ⟨c', b, h1, h2⟩ := bwC_ok hI hh ha.1 h
    obtain ⟨r', b', h3, h4⟩ := argsM_ok hI hh ha.2 h2
    exact ⟨c' :: r', b || b', ⟨CV.mono (En.le hI hh b b').1 h1, h3.imp (fun _ _ h => CV.mono (En.le hI hh b' b).2 h)⟩, h4⟩
theorem getsM_ok {all : List Nat} : ∀ {ids : List Nat} {Kf : List Obj' → M}, (getsM all ids Kf).run os K → ∃ os0, All2 (fun i o' => ∃ o, lk os i = some o ∧ inO all o = some o') ids os0 ∧ (Kf os0).run os K
  | [], Kf, h => ⟨[], trivial, h⟩
  | i :: r, Kf, h => by
    simp only [getsM, M.run] at h
    split at h
    · rename_i o ho
      split at h
      · rename_i o' hp
        obtain ⟨os0, h1, h2⟩ := getsM_ok h
        exact ⟨o' :: os0, ⟨⟨o, ho, hp⟩, h1⟩, h2⟩
      · exact h.elim
    · exact h.elim
theorem deepC_ok {ms : List Bool} {sp : List Cv → List Obj' → Tree} {d : Nat} {args : List Rv} : ∀ {f : Nat} {todo next acc : List Nat}, (deepC ms sp d args f todo next acc).run os K → ∃ ids, (callI ms sp d args ids).run os K
  | 0, _, _, _, h => h.elim
  | f + 1, [], next, acc, h => by
    unfold deepC at h
    split at h
    · exact ⟨_, h⟩
    · exact deepC_ok h
  | f + 1, i :: r, next, acc, h => by
    simp only [deepC, M.run] at h
    split at h
    · exact deepC_ok h
    · exact h.elim
theorem treeM_ok {ids : List Nat} {d : Nat} {bw : Bool} : ∀ {t : Tree}, (treeM ids d bw t).run os K → t.run fun r os' => (bw = true → flatR r = true ∧ allB flatO os' = true) ∧ (laysM ids d 0 os' (.ret (renR (rn ids d) r))).run os K
  | .ret r os', h => by
    unfold treeM at h
    split at h
    · split at h
      · rename_i h1
        exact ⟨fun _ => by simpa using h1, h⟩
      · exact h.elim
    · exact ⟨(fun h => by cases h), h⟩
  | .need p k, h => ⟨h.1, treeM_ok h.2⟩
  | .br b k1 k2, h => by
    simp only [treeM, M.run, Tree.run] at h ⊢
    cases b
    · exact treeM_ok (t := k2) h
    · exact treeM_ok (t := k1) h
  | .any p k, h => fun x hx => treeM_ok (h x hx)
  | .fail, h => h.elim
theorem oid_inj {d i j : Nat} (h : oid d i = oid d j) : i = j := by unfold oid at h; omega
theorem rn_lt : ∀ {ids : List Nat} {d m i : Nat}, ids[m]? = some i → rn ids d m = i
  | i :: r, d, 0, j, h => by simpa [rn] using h
  | i :: r, d, m + 1, j, h => by simp only [rn]; exact rn_lt (by simpa using h)
theorem rn_ge : ∀ {ids : List Nat} {d m : Nat}, ids.length ≤ m → rn ids d m = oid d (m - ids.length)
  | [], d, m, _ => by simp [rn]
  | i :: r, d, 0, h => by simp at h
  | i :: r, d, m + 1, h => by simp only [rn]; rw [rn_ge (by simpa using h)]; simp
/-- The objects that a call has laid, named by the caller. -/
def lays (ids : List Nat) (d : Nat) : Nat → List Obj' → List (Nat × Obj') → List (Nat × Obj')
  | _, [], os => os
  | m, o :: r, os => lays ids d (m + 1) r ((rn ids d m, renO (rn ids d) o) :: os)
theorem laysM_ok {ids : List Nat} {d : Nat} {r : Rv} : ∀ {os' : List Obj'} {m : Nat} {os : List (Nat × Obj')}, (laysM ids d m os' (.ret r)).run os K → K r (lays ids d m os' os) ∧ ∀ k, k < os'.length → ids.length ≤ m + k → lk os (rn ids d (m + k)) = none
  | [], m, os, h => ⟨h, fun k hk => by simp at hk⟩
  | o :: os', m, os, h => by
    simp only [laysM] at h
    have step : ∀ {os1 : List (Nat × Obj')}, os1 = (rn ids d m, renO (rn ids d) o) :: os → (laysM ids d (m + 1) os' (.ret r)).run os1 K → (ids.length ≤ m → lk os (rn ids d m) = none) →
        K r (lays ids d m (o :: os') os) ∧ ∀ k, k < (o :: os').length → ids.length ≤ m + k → lk os (rn ids d (m + k)) = none := by
      rintro os1 rfl h h0
      obtain ⟨h1, h2⟩ := laysM_ok h
      refine ⟨h1, fun k hk hle => ?_⟩
      rcases k with _ | k
      · exact h0 (by simpa using hle)
      · have := h2 k (by simpa using hk) (by omega)
        rw [show m + (k + 1) = m + 1 + k from by omega]
        by_cases e : rn ids d m = rn ids d (m + 1 + k)
        · rw [e, lk_same] at this; cases this
        · rwa [lk_ne _ _ e] at this
    split at h
    · rename_i hlt
      rw [ln_eq] at hlt
      have hlt : m < ids.length := by simpa using hlt
      simp only [M.run] at h
      split at h
      · exact step rfl h (fun h => by omega)
      · exact h.elim
    · simp only [M.run] at h
      split at h
      · rename_i hn
        exact step rfl h (fun _ => hn)
      · exact h.elim
theorem lk_lays {ids : List Nat} {d : Nat} : ∀ {os' : List Obj'} {m : Nat} {os : List (Nat × Obj')} (i : Nat), (∀ k, k < os'.length → i ≠ rn ids d (m + k)) → lk (lays ids d m os' os) i = lk os i
  | [], m, os, i, _ => rfl
  | o :: os', m, os, i, h => by
    simp only [lays]
    rw [lk_lays i (fun k hk e => h (k + 1) (by simpa using hk) (by rw [e]; congr 1; omega)), lk_ne _ _ (fun e => h 0 (by simp) (by rw [Nat.add_zero]; exact e.symm))]
theorem lk_lays_at {ids : List Nat} {d : Nat} : ∀ {os' : List Obj'} {m : Nat} {os : List (Nat × Obj')} (k : Nat) (hk : k < os'.length), (∀ a b, a < m + os'.length → b < m + os'.length → rn ids d a = rn ids d b → a = b) → lk (lays ids d m os' os) (rn ids d (m + k)) = some (renO (rn ids d) os'[k])
  | [], _, _, k, hk, _ => by simp at hk
  | o :: os', m, os, 0, _, hinj => by
    simp only [lays]
    rw [lk_lays _ (fun k hk e => by have := hinj (m + 0) (m + 1 + k) (by simp) (by simp only [List.length_cons]; omega) e; omega)]
    exact lk_same _ _ _
  | o :: os', m, os, k + 1, hk, hinj => by
    simp only [lays]
    have := lk_lays_at (ids := ids) (d := d) (m := m + 1) (os := (rn ids d m, renO (rn ids d) o) :: os) k (by simpa using hk) (fun a b ha hb e => hinj a b (by simp only [List.length_cons]; omega) (by simp only [List.length_cons]; omega) e)
    rw [show m + (k + 1) = m + 1 + k from by omega, this]
    simp
theorem lk_numb {α : Type} : ∀ {os' : List α} {j : Nat} (i : Nat), lk (numb j os') i = if i < j then none else os'[i - j]?
  | [], j, i => by simp [numb, lk]
  | o :: os', j, i => by
    simp only [numb]
    by_cases e : j = i
    · subst e; rw [lk_same]; simp
    · rw [lk_ne _ _ e, lk_numb]
      by_cases h : i < j
      · rw [if_pos (by omega), if_pos h]
      · rw [if_neg (by omega), if_neg h, show i - j = (i - (j + 1)) + 1 from by omega, List.getElem?_cons_succ]
structure Ren (P : Program) (f : Nat → Nat) (E1 E' : Env) (fl : Bool) : Prop where
  w : E'.w = E1.w
  F : fl = false → ∀ b, E1.F b → E'.F b
  D : ∀ m, E1.D m → E'.D (f m) ∧ E'.σ (f m) = E1.σ m ∧ E'.ι (f m) = E1.ι m
theorem Ren.onA {f : Nat → Nat} {E1 E' : Env} {fl : Bool} (h : Ren P f E1 E' fl) {a : A} {u : Value} (hf : fl = true → flatA a = true) (h1 : AV P E1 a u) : AV P E' (renA f a) u := by
  have rep : fl = false → ∀ {k : Kn} {x : k.T} {cs : List Value}, Rep E1.F E1.w k x cs → Rep E'.F E'.w k x cs := fun hfl _ _ _ h2 => Rep.mono (fun b hb _ => h.F hfl b hb) (fun b _ => by rw [h.w]) h2
  have nf : flatA a = false → fl = false := fun hn => by
    cases hfl : fl with
    | false => rfl
    | true => rw [hf hfl] at hn; cases hn
  cases a with
  | undef => trivial
  | v x => exact h1
  | own i => exact ⟨(h.D i h1.1).1, by rw [(h.D i h1.1).2.1]; exact h1.2⟩
  | ptr i off => exact ⟨(h.D i h1.1).1, by rw [(h.D i h1.1).2.1]; exact h1.2⟩
  | elt k i n off => exact ⟨(h.D i h1.1).1, by rw [(h.D i h1.1).2.1]; exact h1.2⟩
  | inn i n => exact ⟨(h.D i h1.1).1, by rw [(h.D i h1.1).2.2]; exact h1.2⟩
  | fn g caps =>
    obtain ⟨us, h2, h3⟩ := h1
    refine ⟨us, h2, ?_⟩
    clear h2 hf nf
    revert us
    induction caps with
    | nil => intro us h3; cases us <;> exact h3
    | cons c r ih =>
      intro us h3
      rcases us with _ | ⟨u, us⟩
      · exact h3.elim
      · obtain ⟨⟨h4, h5, h6⟩, h7⟩ := h3
        exact ⟨⟨(h.D c h4).1, by rw [(h.D c h4).2.1]; exact h5, by rw [(h.D c h4).2.1]; exact h6⟩, ih us h7⟩
  | ro k l => exact RO.mono h1 (fun b hb _ => h.F (nf rfl) b hb) (fun b _ => by rw [h.w]) (fun _ _ h2 => rep (nf rfl) h2) k.cells_pos
  | clip k l => exact ⟨RO.mono h1.1 (fun b hb _ => h.F (nf rfl) b hb) (fun b _ => by rw [h.w]) (fun _ _ h2 => rep (nf rfl) h2) k.cells_pos, h1.2⟩
  | elr k l n off =>
    obtain ⟨h0, b, o, c, h1, h2⟩ := h1
    exact ⟨h0, b, o, c, RO.mono h1 (fun b hb _ => h.F (nf rfl) b hb) (fun b _ => by rw [h.w]) (fun _ _ h2 => rep (nf rfl) h2) k.cells_pos, h2⟩
  | pf ks r g => exact PFun.mono (h.F (nf rfl)) (fun b _ => by rw [h.w]) h1
  | pp ks r g => exact PPtr.mono (h.F (nf rfl)) (fun b _ => by rw [h.w]) h1
theorem Ren.onL {f : Nat → Nat} {E1 E' : Env} {fl : Bool} (h : Ren P f E1 E' fl) : ∀ {as : List A} {us : List Value}, (fl = true → allB flatA as = true) → All2 (AV P E1) as us → All2 (AV P E') (as.map (renA f)) us
  | [], [], _, _ => trivial
  | a :: r, u :: us, hf, ⟨h1, h2⟩ => ⟨h.onA (fun e => by have := hf e; simp only [allB, Bool.and_eq_true] at this; exact this.1) h1, h.onL (fun e => by have := hf e; simp only [allB, Bool.and_eq_true] at this; exact this.2) h2⟩
theorem Ren.onC {f : Nat → Nat} {E1 E' : Env} {fl : Bool} (h : Ren P f E1 E' fl) {c : Cv} {u : Value} (hf : fl = true → flatC c = true) (hc : CV P E1 c u) : CV P E' (renC f c) u := by
  cases c with
  | one a => exact ⟨h.onA hf hc.1, hc.2⟩
  | agg as =>
    obtain ⟨us, h1, h2, h3⟩ := hc
    exact ⟨us, h1, h.onL hf h2, h3⟩
theorem Ren.onCs {f : Nat → Nat} {E1 E' : Env} {fl : Bool} (h : Ren P f E1 E' fl) : ∀ {cs : List Cv} {us : List Value}, (fl = true → allB flatC cs = true) → All2 (CV P E1) cs us → All2 (CV P E') (cs.map (renC f)) us
  | [], [], _, _ => trivial
  | c :: r, u :: us, hf, ⟨h1, h2⟩ => ⟨h.onC (fun e => by have := hf e; simp only [allB, Bool.and_eq_true] at this; exact this.1) h1, h.onCs (fun e => by have := hf e; simp only [allB, Bool.and_eq_true] at this; exact this.2) h2⟩
theorem Ren.onR {f : Nat → Nat} {E1 E' : Env} {fl : Bool} (h : Ren P f E1 E' fl) {r : Rv} {u : Value} (hf : fl = true → flatR r = true) (hr : RV P E1 r u) : RV P E' (renR f r) u := by
  rcases r with (a | as) | cs
  · cases a <;> first | trivial | exact h.onC (c := .one _) hf hr
  · exact h.onC (c := .agg as) hf hr
  · obtain ⟨us, h1, h2⟩ := hr
    exact ⟨us, h1, h.onCs hf h2⟩
theorem Ren.onO {f : Nat → Nat} {E1 E' : Env} {fl : Bool} (h : Ren P f E1 E' fl) {o : Obj'} {u : Value} {φ : Nat → Prop} {ι : Nat → Value} (hf : fl = true → flatO o = true) (ho : OSat P E1 u φ ι o) : OSat P E' u φ ι (renO f o) := by
  cases o with
  | row t k l =>
    obtain ⟨xs, h1, h2, h3, h4⟩ := ho
    refine ⟨xs, by rw [h.w]; exact h1, h2.imp (fun _ _ h4 => ?_), h3, h4⟩
    cases hfl : fl with
    | true => exact Rep.flat (hf hfl) h4
    | false => exact Rep.mono (fun b hb _ => h.F hfl b hb) (fun b _ => by rw [h.w]) h4
  | fz k l =>
    have hfl : fl = false := by cases fl; rfl; exact absurd (hf rfl) (by simp [flatO])
    exact RO.mono ho (fun b hb _ => h.F hfl b hb) (fun b _ => by rw [h.w]) (fun _ _ h2 => Rep.mono (fun b hb _ => h.F hfl b hb) (fun b _ => by rw [h.w]) h2) k.cells_pos
  | fp ks r g =>
    have hfl : fl = false := by cases fl; rfl; exact absurd (hf rfl) (by simp [flatO])
    exact PPtr.mono (h.F hfl) (fun b _ => by rw [h.w]) ho
  | fb k x =>
    have hfl : fl = false := by cases fl; rfl; exact absurd (hf rfl) (by simp [flatO])
    obtain ⟨b, h1, h2⟩ := ho
    exact ⟨b, h1, RO.mono h2 (fun b hb _ => h.F hfl b hb) (fun b _ => by rw [h.w]) (fun _ _ h2 => Rep.mono (fun b hb _ => h.F hfl b hb) (fun b _ => by rw [h.w]) h2) k.cells_pos⟩
  | box t as =>
    obtain ⟨b, us, h1, h2, h3, h4, h5⟩ := ho
    exact ⟨b, us, h1, by rw [h.w]; exact h2, h.onL hf h3, h4, h5⟩
  | drow t k l =>
    obtain ⟨xs, φ', h1, h2, h3⟩ := ho
    exact ⟨xs, φ', by rw [h.w]; exact h1, by rw [h.w]; exact h2, h3⟩
  | hole t k l n off j =>
    obtain ⟨xs, φ', h1, hD, h2, h3⟩ := ho
    exact ⟨xs, φ', by rw [h.w]; exact h1, (h.D j hD).1, by rw [(h.D j hD).2.1, h.w]; exact h2, h3⟩
  | part t k l m =>
    obtain ⟨xs, φ', h1, h2, h3⟩ := ho
    exact ⟨xs, φ', by rw [h.w]; exact h1, by rw [h.w]; exact h2, h3⟩
  | mp t e z l =>
    have hfl : fl = false := by cases fl; rfl; exact absurd (hf rfl) (by simp [flatO])
    obtain ⟨b, kt, et, zv, D, ps, k1, k2, k3, k4, k5, k6, k7, k8, k9, k10, k11, k12⟩ := ho
    exact ⟨b, kt, et, zv, D, ps, k1, k2, k3, by rw [h.w]; exact k4, k5, k6, k7, k8.mono (h.F hfl) (fun b _ => by rw [h.w]), k9, k10, k11.mono (h.F hfl) (fun b _ => by rw [h.w]), k12⟩
  | mit e l cur =>
    have hfl : fl = false := by cases fl; rfl; exact absurd (hf rfl) (by simp [flatO])
    obtain ⟨b, r, kt, n, D, left, cnt, ps, k1, k2, k3, k4, k5, k6, k7, k8, k9⟩ := ho
    have hw : ∀ b : Nat, E'.w.heap[b]? = E1.w.heap[b]? := fun b => by rw [h.w]
    exact ⟨b, r, kt, n, D, left, cnt, ps, k1, k2, ranges_block k3 (hw b) (hw r), k4, k5, k6.mono (h.F hfl) (fun b _ => hw b), k7, CurOk.mono (h.F hfl) (fun b _ => hw b) k3 (hw b) (hw r) k8, k9⟩
  | dead => trivial
theorem live_ren (f : Nat → Nat) (o : Obj') : (renO f o).live = o.live := by cases o <;> rfl
def findM (f : Nat → Nat) : Nat → Nat → Option Nat
  | 0, _ => none
  | n + 1, i => if f n = i then some n else findM f n i
theorem findM_some {f : Nat → Nat} : ∀ {n i m : Nat}, findM f n i = some m → m < n ∧ f m = i
  | n + 1, i, m, h => by
    simp only [findM] at h
    split at h
    · rename_i e
      injection h with h
      subst h
      exact ⟨Nat.lt_succ_self _, e⟩
    · have := findM_some h
      exact ⟨by omega, this.2⟩
theorem findM_none {f : Nat → Nat} : ∀ {n i : Nat}, findM f n i = none → ∀ m, m < n → f m ≠ i
  | n + 1, i, h, m, hm => by
    simp only [findM] at h
    split at h
    · cases h
    · rename_i e
      rcases Nat.lt_or_eq_of_le (Nat.le_of_lt_succ hm) with h1 | h1
      · exact findM_none h m h1
      · rw [h1]; exact e
/-- A call's contract, at the caller's state. -/
theorem call_ok (hI : Inv P X os E) {f d : Nat} {ms : List Bool} {sp : List Cv → List Obj' → Tree} (hg : Good P f sp) {rs : List Rv} {us : List Value} (ha : All2 (RV P E) rs us) (h : (callC ms sp d rs).run os K) :
    Calls P f us.toArray E.w fun e w' => ∃ v, e = .returned v ∧ Out P X E K v w' := by
  obtain ⟨ids, h⟩ := deepC_ok h
  unfold callI at h
  split at h
  · rename_i hnd
    simp only [Bool.and_eq_true] at hnd
    obtain ⟨hnd, h16⟩ := hnd
    have hnd := nodupB_ok hnd
    have h16 := Nat.le_of_ble_eq_true h16
    rw [ln_eq] at h16
    obtain ⟨os0, hos, h⟩ := getsM_ok h
    have hlen := hos.length
    have hat : ∀ m i, ids[m]? = some i → ∃ o o', os0[m]? = some o' ∧ lk os i = some o ∧ inO ids o = some o' := fun m i hm => by
      obtain ⟨o', h1, o, h2⟩ := hos.get m i hm
      exact ⟨o, o', h1, h2⟩
    have live : ∀ o o', inO ids o = some o' → o.live = true := fun o o' ho => by cases o <;> first | rfl | cases ho
    have live' : ∀ o o', inO ids o = some o' → o'.live = true := fun o o' ho => by
      cases o with
      | row t k l => injection ho with ho; subst ho; rfl
      | drow t k l => injection ho with ho; subst ho; rfl
      | mp t e z l => injection ho with ho; subst ho; rfl
      | box t as =>
        simp only [inO] at ho
        split at ho
        · injection ho with ho; subst ho; rfl
        · cases ho
      | _ => cases ho
    have hh : Handed os ids := fun i hi => by
      obtain ⟨m, hm, rfl⟩ := List.getElem_of_mem hi
      obtain ⟨o, o', _, h2, h3⟩ := hat m _ (List.getElem?_eq_getElem hm)
      exact ⟨o, h2, live o o' h3⟩
    obtain ⟨cs, bw, h1, h2⟩ := argsM_ok hI hh ha h
    have iat : ∀ j, j < os0.length → ∃ i o, ids[j]? = some i ∧ lk os i = some o ∧ (∃ o', inO ids o = some o' ∧ os0[j]? = some o') ∧ True ∧ (En E ids bw).σ j = E.σ i ∧ (En E ids bw).φ j = E.φ i ∧ (En E ids bw).ι j = E.ι i := fun j hj => by
      have hj' : j < ids.length := by omega
      obtain ⟨o, o', h3, h4, h5⟩ := hat j _ (List.getElem?_eq_getElem hj')
      exact ⟨_, o, List.getElem?_eq_getElem hj', h4, ⟨o', h5, h3⟩, trivial, by simp [En, hj'], by simp [En, hj'], by simp [En, hj']⟩
    have live2 : ∀ {o : Obj'} {j : Nat}, (∃ o', inO ids o = some o' ∧ os0[j]? = some o') → o.live = true := fun ⟨o', ho, _⟩ => live _ o' ho
    refine (hg (En E ids bw) cs os0 us _ (fun b hb => ?_) (fun j => by show j < ids.length ↔ _; rw [hlen]) (by omega) (fun j hj => ?_) (fun i j hi hj hne b hb => ?_) (fun j hj b hb => ?_) h1 (treeM_ok h2)).mono ?_
    · cases bw
      · exact hI.flt b hb
      · exact hb.1
    · obtain ⟨i, o, h3, h4, ⟨o', h5, h6⟩, _, h7, h8, h9⟩ := iat j hj
      have e : os0[j] = o' := by rw [List.getElem?_eq_getElem hj] at h6; injection h6
      rw [h7, h8, h9, e]
      refine ⟨?_, live' o o' h5⟩
      have hob := hI.obj i o h4
      have hF : ∀ b, E.F b → Fb E ids bw b := fun b hb => Fb.of_F hI hh hb bw
      cases o with
      | row t k l =>
        injection h5 with h5
        subst h5
        obtain ⟨xs, k1, k2, k3, k4⟩ := hob
        exact ⟨xs, k1, k2.imp (fun _ _ h => Rep.mono (fun b hb _ => hF b hb) (fun _ _ => rfl) h), k3, k4⟩
      | drow t k l =>
        injection h5 with h5
        subst h5
        exact hob
      | mp t e z l =>
        injection h5 with h5
        subst h5
        obtain ⟨b, kt, et, zv, D, ps, k1, k2, k3, k4, k5, k6, k7, k8, k9, k10, k11, k12⟩ := hob
        exact ⟨b, kt, et, zv, D, ps, k1, k2, k3, k4, k5, k6, k7, k8.mono hF (fun _ _ => rfl), k9, k10, k11.mono hF (fun _ _ => rfl), k12⟩
      | mit e l cur => cases h5
      | box t as =>
        simp only [inO] at h5
        split at h5
        · rename_i as' hp
          injection h5 with h5
          subst h5
          obtain ⟨b, us', k1, k2, k3, k4, k5⟩ := hob
          exact ⟨b, us', k1, k2, inL_ok hI hh bw hp k3, k4, k5⟩
        · cases h5
      | fz k l => cases h5
      | fb k x => cases h5
      | fp ks r g => cases h5
      | hole t k l n off j => cases h5
      | part t k l m => cases h5
      | dead => cases h5
    · obtain ⟨i1, o1, h3, h4, h5, _, _, h8, _⟩ := iat i hi
      obtain ⟨i2, o2, k3, k4, k5, _, _, k8, _⟩ := iat j hj
      rw [h8] at hb
      rw [k8]
      refine hI.dis i1 i2 o1 o2 (fun e => ?_) h4 k4 (live2 h5) (live2 k5) b hb
      subst e
      obtain ⟨g1, e1⟩ := List.getElem?_eq_some_iff.1 h3
      obtain ⟨g2, e2⟩ := List.getElem?_eq_some_iff.1 k3
      have hp := List.pairwise_iff_getElem.1 hnd
      rcases Nat.lt_trichotomy i j with h | h | h
      · exact hp i j g1 g2 h (e1.trans e2.symm)
      · exact hne h
      · exact hp j i g2 g1 h (e2.trans e1.symm)
    · obtain ⟨i, o, h3, h4, h5, _, _, h8, _⟩ := iat j hj
      rw [h8] at hb
      intro hF
      cases bw
      · exact (hI.nof i o h4 (live2 h5) b hb).1 hF
      · exact hF.2 i (List.mem_of_getElem? h3) hb
    rintro e w' ⟨r, u, os', E1, rfl, ⟨h3, h4⟩, hle0, rfl, h5, h6⟩
    obtain ⟨h7, h8⟩ := laysM_ok h4
    simp only [Nat.zero_add] at h8
    have hD1 : ∀ m, E1.D m ↔ m < os'.length := fun m => by
      rw [h5.dom, lk_numb]
      simp
    have obj1 : ∀ m (hm : m < os'.length), lk (numb 0 os') m = some os'[m] := fun m hm => by rw [lk_numb]; simp [hm]
    have hE : ∀ i, E.D i ↔ (lk os i).isSome = true := hI.dom
    have idm : ∀ m i, ids[m]? = some i → E.D i := fun m i hm => by
      obtain ⟨o, _, _, h2, _⟩ := hat m i hm
      rw [hE, h2]; rfl
    have inj : ∀ a b, a < os'.length → b < os'.length → rn ids d a = rn ids d b → a = b := by
      intro a b ha hb e
      have hp := List.pairwise_iff_getElem.1 hnd
      rcases Nat.lt_or_ge a ids.length with h9 | h9 <;> rcases Nat.lt_or_ge b ids.length with h10 | h10
      · rw [rn_lt (List.getElem?_eq_getElem h9), rn_lt (List.getElem?_eq_getElem h10)] at e
        rcases Nat.lt_trichotomy a b with h | h | h
        · exact absurd e (hp a b h9 h10 h)
        · exact h
        · exact absurd e.symm (hp b a h10 h9 h)
      · have k1 := h8 b hb h10
        rw [← e, rn_lt (List.getElem?_eq_getElem h9)] at k1
        have k2 := (hE _).1 (idm a _ (List.getElem?_eq_getElem h9))
        rw [k1] at k2; cases k2
      · have k1 := h8 a ha h9
        rw [e, rn_lt (List.getElem?_eq_getElem h10)] at k1
        have k2 := (hE _).1 (idm b _ (List.getElem?_eq_getElem h10))
        rw [k1] at k2; cases k2
      · rw [rn_ge h9, rn_ge h10] at e
        have := oid_inj e
        omega
    let E' : Env := ⟨E1.w, fun b => E.F b ∨ (E1.F b ∧ (E.w.heap.size ≤ b ∨ ∃ j, j < os0.length ∧ (En E ids bw).φ j b)), fun i => match findM (rn ids d) os'.length i with | some m => E1.σ m | none => E.σ i,
      fun i => E.D i ∨ ∃ m, m < os'.length ∧ rn ids d m = i, fun i => match findM (rn ids d) os'.length i with | some m => E1.φ m | none => E.φ i, fun i => match findM (rn ids d) os'.length i with | some m => E1.ι m | none => E.ι i⟩
    have fnd : ∀ m, m < os'.length → findM (rn ids d) os'.length (rn ids d m) = some m := fun m hm => by
      cases hf : findM (rn ids d) os'.length (rn ids d m) with
      | none => exact absurd rfl (findM_none hf m hm)
      | some m' =>
        obtain ⟨h9, h10⟩ := findM_some hf
        rw [inj m' m h9 hm h10]
    have hsz : E.w.heap.size ≤ E1.w.heap.size := h5.size
    have hold : ∀ b, b < E.w.heap.size → (∀ i ∈ ids, ¬ E.φ i b) → E1.w.heap[b]? = E.w.heap[b]? := fun b hb hn => h5.frm b hb (fun ⟨j, hj, hφ⟩ => by
      obtain ⟨i, o, k3, k4, k5, _, _, k8, _⟩ := iat j hj
      rw [k8] at hφ
      exact hn i (List.mem_of_getElem? k3) hφ)
    have FO : ∀ b, E.F b → ∀ i ∈ ids, ¬ E.φ i b := fun b hb i hi hφ => by
      obtain ⟨o, ho, hl⟩ := hh i hi
      exact (hI.nof i o ho hl b hφ).1 hb
    have same : ∀ i, E.D i → E'.σ i = E.σ i ∧ E'.ι i = E.ι i := fun i hi => by
      show (match findM (rn ids d) os'.length i with | some m => E1.σ m | none => E.σ i) = E.σ i ∧ (match findM (rn ids d) os'.length i with | some m => E1.ι m | none => E.ι i) = E.ι i
      split
      · rename_i m hm
        obtain ⟨h9, h10⟩ := findM_some hm
        rcases Nat.lt_or_ge m ids.length with h11 | h11
        · rw [rn_lt (List.getElem?_eq_getElem h11)] at h10
          obtain ⟨k1, k2⟩ := h5.par m (show m < ids.length from h11) ((hD1 m).2 h9)
          rw [k1, k2]
          subst h10
          simp [En, h11]
        · have k1 := h8 m h9 h11
          rw [h10] at k1
          have k2 := (hE _).1 hi
          rw [k1] at k2; cases k2
      · exact ⟨rfl, rfl⟩
    have hle : E.le E' := ⟨fun b hb => .inl hb, fun b hb => hold b (hI.flt b hb) (FO b hb), fun i hi => .inl hi, fun i hi => (same i hi).1, fun i hi => (same i hi).2⟩
    have hren : Ren P (rn ids d) E1 E' bw := ⟨rfl, fun hb b hF => by
      subst hb
      rcases h5.fsub b hF with h | h | h
      · exact .inl h
      · exact .inr ⟨hF, .inl h⟩
      · exact .inr ⟨hF, .inr h⟩, fun m hm => by
      have hm := (hD1 m).1 hm
      refine ⟨.inr ⟨m, hm, rfl⟩, ?_, ?_⟩
      · show (match findM (rn ids d) os'.length (rn ids d m) with | some m => E1.σ m | none => E.σ (rn ids d m)) = _
        rw [fnd m hm]
      · show (match findM (rn ids d) os'.length (rn ids d m) with | some m => E1.ι m | none => E.ι (rn ids d m)) = _
        rw [fnd m hm]⟩
    have look : ∀ i o, lk (lays ids d 0 os' os) i = some o → (∃ m, ∃ hm : m < os'.length, i = rn ids d m ∧ o = renO (rn ids d) os'[m] ∧ E'.σ i = E1.σ m ∧ E'.φ i = E1.φ m ∧ E'.ι i = E1.ι m) ∨ (lk os i = some o ∧ i ∉ ids ∧ E'.σ i = E.σ i ∧ E'.φ i = E.φ i ∧ E'.ι i = E.ι i) := fun i o hi => by
      cases hf : findM (rn ids d) os'.length i with
      | some m =>
        obtain ⟨hm, rfl⟩ := findM_some hf
        have := lk_lays_at (ids := ids) (d := d) (m := 0) (os := os) m hm (by simpa using inj)
        rw [Nat.zero_add, hi] at this
        injection this with this
        exact .inl ⟨m, hm, rfl, this, (hren.D m ((hD1 m).2 hm)).2.1, by
          show (match findM (rn ids d) os'.length (rn ids d m) with | some m => E1.φ m | none => E.φ (rn ids d m)) = _
          rw [hf], (hren.D m ((hD1 m).2 hm)).2.2⟩
      | none =>
        rw [lk_lays i (fun m hm e => findM_none hf m hm (by rw [e, Nat.zero_add]))] at hi
        refine .inr ⟨hi, fun hm => ?_, ?_, ?_, ?_⟩
        · obtain ⟨m, hml, rfl⟩ := List.getElem_of_mem hm
          exact findM_none hf m (by have := h5; omega) (rn_lt (List.getElem?_eq_getElem hml))
        · show (match findM (rn ids d) os'.length i with | some m => E1.σ m | none => E.σ i) = _
          rw [hf]
        · show (match findM (rn ids d) os'.length i with | some m => E1.φ m | none => E.φ i) = _
          rw [hf]
        · show (match findM (rn ids d) os'.length i with | some m => E1.ι m | none => E.ι i) = _
          rw [hf]
    have newb : ∀ m (hm : m < os'.length), os'[m].live = true → ∀ b, E1.φ m b → ¬ E1.F b ∧ (E.w.heap.size ≤ b ∨ ∃ i ∈ ids, E.φ i b) := fun m hm hl b hb => by
      obtain ⟨h9, h10⟩ := h5.nof m _ (obj1 m hm) hl b hb
      refine ⟨h9, h10.imp id (fun ⟨j, hj, hφ⟩ => ?_)⟩
      obtain ⟨i, o, k3, k4, k5, _, _, k8, _⟩ := iat j hj
      rw [k8] at hφ
      exact ⟨i, List.mem_of_getElem? k3, hφ⟩
    have oldfar : ∀ i o, lk os i = some o → o.live = true → i ∉ ids → ∀ b, E.φ i b → ∀ j ∈ ids, ¬ E.φ j b := fun i o hi hl hn b hb j hj => by
      obtain ⟨o', ho', hl'⟩ := hh j hj
      exact hI.dis i j o o' (fun e => hn (e ▸ hj)) hi ho' hl hl' b hb
    refine ⟨u, rfl, E', _, _, rfl, hle, ?_, hren.onR (fun hb => (h3 hb).1) h6, h7⟩
    refine ⟨fun i => ?_, fun i o hi => ?_, fun i j o o2 hne hi hj hl hl2 b hb => ?_, fun i o hi hl b hb => ?_, ?_, ?_, fun b hb => .inl (hI.fsup b hb), h5.os.trans hI.os, h5.tape.trans hI.tape, h5.output.trans hI.output, Nat.le_trans hI.size hsz, fun b hb ho => ?_, hI.pin, fun i hX hi => ?_⟩
    · cases hf : findM (rn ids d) os'.length i with
      | some m =>
        obtain ⟨hm, rfl⟩ := findM_some hf
        have := lk_lays_at (ids := ids) (d := d) (m := 0) (os := os) m hm (by simpa using inj)
        rw [Nat.zero_add] at this
        rw [this]
        exact ⟨fun _ => rfl, fun _ => .inr ⟨m, hm, rfl⟩⟩
      | none =>
        rw [lk_lays i (fun m hm e => findM_none hf m hm (by rw [e, Nat.zero_add])), ← hI.dom]
        exact ⟨fun h => h.resolve_right (fun ⟨m, hm, e⟩ => findM_none hf m hm e), .inl⟩
    · rcases look i o hi with ⟨m, hm, rfl, rfl, hs, hp, hi'⟩ | ⟨hi, hn, hs, hp, hi'⟩
      · rw [hs, hp, hi']
        exact hren.onO (fun hb => allB_ok (h3 hb).2 _ (List.getElem_mem hm)) (h5.obj m _ (obj1 m hm))
      · rw [hs, hp, hi']
        exact OSat.mono hle (fun hl b hb => hold b (hI.lt i o hi hl b hb) (oldfar i o hi hl hn b hb)) (hI.obj i o hi)
    · rcases look i o hi with ⟨m, hm, rfl, rfl, _, hp, _⟩ | ⟨hi, hn, _, hp, _⟩ <;> rcases look j o2 hj with ⟨m2, hm2, rfl, rfl, _, hp2, _⟩ | ⟨hj, hn2, _, hp2, _⟩ <;> rw [hp] at hb <;> rw [hp2] <;> (try rw [live_ren] at hl) <;> (try rw [live_ren] at hl2)
      · exact h5.dis m m2 _ _ (fun e => hne (by rw [e])) (obj1 m hm) (obj1 m2 hm2) hl hl2 b hb
      · intro hb2
        rcases (newb m hm hl b hb).2 with h | ⟨i', hi', hφ⟩
        · have := hI.lt j o2 hj hl2 b hb2
          omega
        · exact oldfar j o2 hj hl2 hn2 b hb2 i' hi' hφ
      · intro hb2
        rcases (newb m2 hm2 hl2 b hb2).2 with h | ⟨i', hi', hφ⟩
        · have := hI.lt i o hi hl b hb
          omega
        · exact oldfar i o hi hl hn b hb i' hi' hφ
      · exact hI.dis i j o o2 hne hi hj hl hl2 b hb
    · rcases look i o hi with ⟨m, hm, rfl, rfl, _, hp, _⟩ | ⟨hi, hn, _, hp, _⟩ <;> rw [hp] at hb <;> (try rw [live_ren] at hl)
      · obtain ⟨h9, h10⟩ := newb m hm hl b hb
        refine ⟨fun hF => ?_, ?_⟩
        · rcases hF with hF | ⟨hF, _⟩
          · rcases h10 with h | ⟨i', hi', hφ⟩
            · have := hI.flt b hF; omega
            · exact FO b hF i' hi' hφ
          · exact h9 hF
        · rcases h10 with h | ⟨i', hi', hφ⟩
          · exact .inl (Nat.le_trans hI.size h)
          · obtain ⟨o', ho', hl'⟩ := hh i' hi'
            exact (hI.nof i' o' ho' hl' b hφ).2
      · obtain ⟨h9, h10⟩ := hI.nof i o hi hl b hb
        refine ⟨fun hF => ?_, h10⟩
        rcases hF with hF | ⟨hF, hge | ⟨j, hj, hφ⟩⟩
        · exact h9 hF
        · have := hI.lt i o hi hl b hb; omega
        · obtain ⟨i', o', k3, k4, k5, _, _, k8, _⟩ := iat j hj
          rw [k8] at hφ
          exact oldfar i o hi hl hn b hb i' (List.mem_of_getElem? k3) hφ
    · rintro b (hb | ⟨hb, _⟩)
      · exact Nat.lt_of_lt_of_le (hI.flt b hb) hsz
      · exact h5.flt b hb
    · rintro b (hb | ⟨_, hb | ⟨j, hj, hφ⟩⟩)
      · exact hI.fsub b hb
      · exact .inr (.inl (Nat.le_trans hI.size hb))
      · obtain ⟨i', o', k3, k4, k5, _, _, k8, _⟩ := iat j hj
        rw [k8] at hφ
        exact .inr (hI.nof i' o' k4 (live2 k5) b hφ).2
    · refine (hold b (Nat.lt_of_lt_of_le hb hI.size) (fun i hi hφ => ?_)).trans (hI.frm b hb ho)
      obtain ⟨o', ho', hl'⟩ := hh i hi
      rcases (hI.nof i o' ho' hl' b hφ).2 with h | h
      · omega
      · exact ho h
    · have hDi : E.D i := by
        rcases hi with hi | ⟨m, hm, e⟩
        · exact hi
        · rcases Nat.lt_or_ge m ids.length with h11 | h11
          · rw [rn_lt (List.getElem?_eq_getElem h11)] at e
            rw [← e]
            exact idm m _ (List.getElem?_eq_getElem h11)
          · rw [rn_ge h11] at e
            exact absurd hX (e ▸ hI.noX d _)
      obtain ⟨k1, k2⟩ := same i hDi
      rw [k1, k2]
      exact hI.par i hX hDi
  · exact h.elim
theorem frzM_ok : ∀ {rs : List Rv} {ms : List Bool} {us : List Value} {Kf : List Rv → M} {os : List (Nat × Obj')} {E : Env} (hI : Inv P X os E) (ha : All2 (RV P E) rs us) (h : (frzM ms rs Kf).run os K),
    ∃ E' os' rs', E'.w = E.w ∧ E.le E' ∧ Inv P X os' E' ∧ All2 (RV P E') rs' us ∧ (Kf rs').run os' K
  | [], ms, us, Kf, os, E, hI, ha, h => ⟨E, os, [], rfl, .refl E, hI, ha, by cases ms with | nil => exact h | cons b r => cases b <;> exact h⟩
  | r :: rs, [], us, Kf, os, E, hI, ha, h => ⟨E, os, r :: rs, rfl, .refl E, hI, ha, h⟩
  | r :: rs, _, [], Kf, os, E, hI, ha, h => ha.elim
  | r :: rs, false :: ms, u :: us, Kf, os, E, hI, ha, h => by
    obtain ⟨E2, os2, rs2, h6, h7, h8, h9, h10⟩ := frzM_ok hI ha.2 h
    exact ⟨E2, os2, r :: rs2, h6, h7, h8, ⟨RV.mono h7 ha.1, h9⟩, h10⟩
  | .tup cs :: rs, true :: ms, u :: us, Kf, os, E, hI, ha, h => ⟨E, os, _, rfl, .refl E, hI, ha, h⟩
  | .val (.agg as) :: rs, true :: ms, u :: us, Kf, os, E, hI, ha, h => by
    obtain ⟨vs, rfl, k1, k2⟩ := ha.1
    obtain ⟨E1, os1, as', h1, h2, h3, h4, h5⟩ := frL_ok hI k1 h
    obtain ⟨E2, os2, rs2, h6, h7, h8, h9, h10⟩ := frzM_ok h3 (ha.2.imp (fun _ _ h => RV.mono h2 h)) h5
    exact ⟨E2, os2, .val (.agg as') :: rs2, h6.trans h1, h2.trans h7, h8, ⟨⟨vs, rfl, h4.imp (fun _ _ h => AV.mono h7 h), k2⟩, h9⟩, h10⟩
  | .val (.one a) :: rs, true :: ms, u :: us, Kf, os, E, hI, ha, h => by
    by_cases hu : a = .undef
    · subst hu
      obtain ⟨E2, os2, rs2, h6, h7, h8, h9, h10⟩ := frzM_ok (ms := ms) (Kf := fun r' => Kf (.val (.one .undef) :: r')) hI ha.2 h
      exact ⟨E2, os2, .val (.one .undef) :: rs2, h6, h7, h8, ⟨trivial, h9⟩, h10⟩
    · have hr : CV P E (.one a) u := by have := ha.1; cases a <;> first | exact absurd rfl hu | exact this
      obtain ⟨E1, os1, a', h1, h2, h3, h4, h5⟩ := frA_ok hI hr.1 h
      obtain ⟨E2, os2, rs2, h6, h7, h8, h9, h10⟩ := frzM_ok h3 (ha.2.imp (fun _ _ h => RV.mono h2 h)) h5
      exact ⟨E2, os2, .val (.one a') :: rs2, h6.trans h1, h2.trans h7, h8, ⟨RV.mono h7 (rv_one h4 hr.2), h9⟩, h10⟩
theorem callF_ok (hI : Inv P X os E) {f d : Nat} {fz ms : List Bool} {sp : List Cv → List Obj' → Tree} (hg : Good P f sp) {rs : List Rv} {us : List Value} (ha : All2 (RV P E) rs us) (h : (frzM fz rs fun args => callC ms sp d args).run os K) :
    Calls P f us.toArray E.w fun e w' => ∃ v, e = .returned v ∧ Out P X E K v w' := by
  obtain ⟨E1, os1, rs1, h1, h2, h3, h4, h5⟩ := frzM_ok hI ha h
  have := call_ok h3 hg h4 h5
  rw [h1] at this
  refine this.mono ?_
  rintro e w' ⟨v, rfl, E2, r, os2, k1, k2, k3, k4, k5⟩
  exact ⟨v, rfl, E2, r, os2, k1, h2.trans k2, k3, k4, k5⟩
end
end Go.Proofs.YthfmlelodmcgkaaGreat.V

set_option linter.unusedVariables false
set_option linter.unusedSimpArgs false
set_option linter.unusedSectionVars false
namespace Go.Proofs.YthfmlelodmcgkaaGreat.V
open Go
/-! ### data as arguments and results -/
def cvK : (k : Kn) → k.T → Cv
  | .int k, x => .one (.v (.int k x)) | .bool, b => .one (.v (.bool b)) | .str, s => .one (.v (.string s)) | .sl _ e, l => .one (.ro e l) | .pr a b, p => .agg ((Kn.pr a b).toAs p)
def cvs : (ks : List Kn) → HT ks → List Cv
  | [], _ => []
  | k :: ks, x => cvK k x.1 :: cvs ks x.2
inductive CK where
  | d (k : Kn) | p (ks : List Kn) (r : Kn)
abbrev CK.T : CK → Type
  | .d k => k.T | .p ks r => HT ks → Option r.T
def HC : List CK → Type
  | [] => Unit
  | c :: cs => c.T × HC cs
def capA : (c : CK) → c.T → A
  | .d k, x => .elr k [x] 0 0
  | .p ks r, f => .pp ks r f
def capC : (cs : List CK) → HC cs → List Cv
  | [], _ => []
  | c :: cs, x => .one (capA c x.1) :: capC cs x.2
theorem rep_toAs {P : Program} {E : Env} : ∀ {k : Kn} {x : k.T} {us : List Value}, All2 (AV P E) (k.toAs x) us → Rep E.F E.w k x us
  | .int _, x, us, h => by
    obtain ⟨u, rfl, rfl, h3⟩ := h.sing
    exact ⟨rfl, h3⟩
  | .bool, x, us, h => by
    obtain ⟨u, rfl, rfl, h3⟩ := h.sing
    rfl
  | .str, x, us, h => by
    obtain ⟨u, rfl, rfl, h3⟩ := h.sing
    rfl
  | .sl _ e, x, us, h => by
    obtain ⟨u, rfl, h3⟩ := h.sing
    exact ⟨u, rfl, h3⟩
  | .pr a b, p, us, h => by
    have h1 := h.take a.cells
    have h2 := h.drop a.cells
    simp only [Kn.toAs] at h1 h2
    rw [List.take_left' (a.toAs_length _)] at h1
    rw [List.drop_left' (a.toAs_length _)] at h2
    exact ⟨us.take a.cells, us.drop a.cells, (List.take_append_drop _ _).symm, rep_toAs h1, rep_toAs h2⟩
theorem cvK_ok {P : Program} {E : Env} : ∀ {k : Kn} {x : k.T} {v : Value}, RepV E.F E.w k x v → CV P E (cvK k x) v
  | .int k, x, v, ⟨h, h1⟩ => by
    cases v <;> first | (cases h1; done) | skip
    all_goals first
      | (have h := h.1; simp [Value.cells] at h; done)
      | (obtain ⟨h, h2⟩ := h; simp [Value.cells] at h; obtain ⟨rfl, rfl⟩ := h; exact ⟨⟨rfl, h2⟩, rfl⟩)
  | .bool, x, v, ⟨h, h1⟩ => by
    have h : v.cells.toList = [.bool x] := h
    cases v <;> first | (cases h1; done) | (simp [Value.cells] at h; done) | (simp [Value.cells] at h; subst h; exact ⟨⟨rfl, trivial⟩, rfl⟩)
  | .str, x, v, ⟨h, h1⟩ => by
    have h : v.cells.toList = [.string x] := h
    cases v <;> first | (cases h1; done) | (simp [Value.cells] at h; done) | (simp [Value.cells] at h; subst h; exact ⟨⟨rfl, trivial⟩, rfl⟩)
  | .sl _ e, x, v, ⟨h, h1⟩ => by
    obtain ⟨u, h, h2⟩ := h
    have : v = u := by
      cases v <;> first | (cases h1; done) | (simp [Value.cells] at h; exact h)
    subst this
    exact ⟨h2, h1⟩
  | .pr a b, p, v, ⟨h, h1⟩ => by
    obtain ⟨cs, rfl⟩ := h1
    obtain ⟨h3, h4⟩ := toAs_ok (P := P) h
    exact ⟨cs.toList, by simp, h3, h4⟩
theorem cvs_ok {P : Program} {E : Env} : ∀ {ks : List Kn} {xs : HT ks} {vs : List Value}, RepVs E.F E.w ks xs vs → All2 (CV P E) (cvs ks xs) vs
  | [], _, vs, h => by
    have h : vs = [] := h
    subst h
    trivial
  | k :: ks, xs, vs, ⟨v, r, h, h1, h2⟩ => by
    subst h
    exact ⟨cvK_ok h1, cvs_ok h2⟩
theorem repV_of {P : Program} {E : Env} : ∀ {k : Kn} {x : k.T} {v : Value}, CV P E (cvK k x) v → RepV E.F E.w k x v
  | .int k, x, v, h => by
    obtain ⟨⟨rfl, h2⟩, h3⟩ := h
    exact ⟨⟨rfl, h2⟩, rfl⟩
  | .bool, x, v, h => by
    obtain ⟨⟨rfl, h2⟩, h3⟩ := h
    exact ⟨rfl, rfl⟩
  | .str, x, v, h => by
    obtain ⟨⟨rfl, h2⟩, h3⟩ := h
    exact ⟨rfl, rfl⟩
  | .sl _ e, x, v, h => by
    obtain ⟨h2, h3⟩ := h
    refine ⟨⟨v, ?_, h2⟩, h3⟩
    obtain ⟨ad, c, h4, _⟩ := h2
    subst h4
    rfl
  | .pr a b, p, v, h => by
    obtain ⟨us, rfl, h2, h3⟩ := h
    exact ⟨by simpa [Value.cells] using rep_toAs h2, ⟨_, rfl⟩⟩
theorem rv_of_cv {P : Program} {E : Env} {k : Kn} {x : k.T} {v : Value} (h : CV P E (cvK k x) v) : RV P E (.val (cvK k x)) v := by
  cases k <;> exact h
theorem cv_of_rv {P : Program} {E : Env} {k : Kn} {x : k.T} {v : Value} (h : RV P E (.val (cvK k x)) v) : CV P E (cvK k x) v := by
  cases k <;> exact h
/-! ### functions that only reckon -/
/-- A function that only reckons: captured variables' kinds, arguments' kinds, the result's kind, what it reckons. -/
structure PFn (P : Program) where
  f : FuncId
  enter : EntB P f
  cks : List CK
  ks : List Kn
  r : Kn
  g : HC cks → HT ks → Option r.T
  sp : List Cv → List Obj' → Tree
  good : Good P f sp
  eq : ∀ ys xs y, g ys xs = some y → ∀ K : Rv → List Obj' → Prop, K (.val (cvK r y)) [] → (sp (cvs ks xs ++ capC cks ys) []).run K
/-- One without captured variables. -/
structure PF0 (P : Program) where
  f : FuncId
  enter : EntB P f
  ks : List Kn
  r : Kn
  g : HT ks → Option r.T
  sp : List Cv → List Obj' → Tree
  good : Good P f sp
  eq : ∀ xs y, g xs = some y → ∀ K : Rv → List Obj' → Prop, K (.val (cvK r y)) [] → (sp (cvs ks xs) []).run K
/-- What a text may use. -/
structure Lib (P : Program) where
  cs : List (Ctr P)
  p0 : List (PF0 P) := []
  ps : List (PFn P) := []
def pf0? {P : Program} : List (PF0 P) → Nat → Option (PF0 P)
  | [], _ => none
  | q :: r, f => match Nat.beq q.f f with | true => some q | false => pf0? r f
def pfn? {P : Program} : List (PFn P) → Nat → Option (PFn P)
  | [], _ => none
  | q :: r, f => match Nat.beq q.f f with | true => some q | false => pfn? r f
theorem pf0?_ok {P : Program} {l : List (PF0 P)} {f : Nat} {q : PF0 P} (h : pf0? l f = some q) : q.f = f := by
  induction l with
  | nil => cases h
  | cons z r ih =>
    simp only [pf0?] at h
    split at h
    · rename_i e
      injection h with h
      subst h
      exact Nat.eq_of_beq_eq_true e
    · exact ih h
theorem pfn?_ok {P : Program} {l : List (PFn P)} {f : Nat} {q : PFn P} (h : pfn? l f = some q) : q.f = f := by
  induction l with
  | nil => cases h
  | cons z r ih =>
    simp only [pfn?] at h
    split at h
    · rename_i e
      injection h with h
      subst h
      exact Nat.eq_of_beq_eq_true e
    · exact ih h
/-- The end of a call that writes nothing. -/
theorem pure_end {P : Program} {w' : World} {F' : Nat → Prop} {E : Env} {os : List Obj'} {D : Nat → Prop} {σ : Nat → Value} {ι : Nat → Nat → Value} (hI : Inv P ⟨w', F', fun _ => False, D, σ, ι⟩ (numb 0 os) E) :
    w'.grownBy E.w none ∧ (∀ b, F' b → E.F b) ∧ ∀ b, E.F b → F' b ∨ (w'.heap.size ≤ b ∧ b < E.w.heap.size) :=
  ⟨⟨hI.os, hI.tape, hI.output, hI.size, fun k hk _ => hI.frm k hk id⟩, hI.fsup, fun b hb => by
    rcases hI.fsub b hb with h | h | h
    · exact .inl h
    · exact .inr ⟨h, hI.flt b hb⟩
    · exact h.elim⟩
theorem good_pure {P : Program} {f : FuncId} {sp : List Cv → List Obj' → Tree} (hg : Good P f sp) {w' : World} {F' : Nat → Prop} (hF : ∀ b, F' b → b < w'.heap.size) {cs : List Cv} {vs : List Value} {σ : Nat → Value}
    (ha : All2 (CV P ⟨w', F', fun _ => undef, fun _ => False, fun _ _ => False, fun _ _ => undef⟩) cs vs) {r : Kn} {y : r.T} (h : ∀ K : Rv → List Obj' → Prop, K (.val (cvK r y)) [] → (sp cs []).run K) :
    Calls P f vs.toArray w' fun e w'' => ∃ v F'', e = .returned v ∧ RepV F'' w'' r y v ∧ w'.grownBy w'' none ∧ (∀ b, F' b → F'' b) ∧ ∀ b, F'' b → F' b ∨ (w'.heap.size ≤ b ∧ b < w''.heap.size) := by
  refine (hg ⟨w', F', fun _ => undef, fun _ => False, fun _ _ => False, fun _ _ => undef⟩ cs [] vs (fun q os => q = .val (cvK r y)) hF (fun j => by simp) (by simp) (fun j hj => by simp at hj) (fun i j hi => by simp at hi) (fun j hj => by simp at hj) ha (h _ rfl)).mono ?_
  rintro e w'' ⟨q, u, os, E, rfl, rfl, _, rfl, hI, hr⟩
  have hI' : Inv P ⟨w', F', fun _ => False, fun _ => False, fun _ => undef, fun _ _ => undef⟩ (numb 0 os) E := by
    have e : (fun b => ∃ j, j < ([] : List Obj').length ∧ False) = fun _ : Nat => False := by
      funext b; simp
    simpa [e] using hI
  obtain ⟨h1, h2, h3⟩ := pure_end hI'
  exact ⟨u, E.F, rfl, repV_of (cv_of_rv hr), h1, h2, h3⟩
theorem PF0.pf {P : Program} (q : PF0 P) (F : Nat → Prop) (w : World) : PFun P F w q.ks q.r q.g (.func (.func q.f) #[] #[]) := by
  intro w' F' h1 h2 h3 xs y vs hv hy
  refine ⟨q.f, #[], #[], rfl, q.enter, ?_⟩
  have := good_pure (σ := fun _ => undef) q.good h3 (cvs_ok hv) (q.eq xs y hy)
  simpa using this
/-- Captured variables that stay as they are. -/
def CapOk (P : Program) (F : Nat → Prop) (w : World) : (c : CK) → c.T → Value → Prop
  | .d k, x, u => ∃ b o c, u = .pointer (some ⟨b, o, none⟩) ∧ RO F w (Rep F w k) k.cells [x] (.slice (some ⟨b, o, none⟩) 1 c)
  | .p ks r, f, u => PPtr P F w ks r f u
def CapsOk (P : Program) (F : Nat → Prop) (w : World) : (cs : List CK) → HC cs → List Value → Prop
  | [], _, us => us = []
  | c :: cs, x, us => ∃ u r, us = u :: r ∧ CapOk P F w c x.1 u ∧ CapsOk P F w cs x.2 r
theorem capOk_cv {P : Program} {F : Nat → Prop} {E : Env} (hF : ∀ b, F b → E.F b) {w : World} (hw : ∀ b, F b → E.w.heap[b]? = w.heap[b]?) {c : CK} {x : c.T} {u : Value} (h : CapOk P F w c x u) : CV P E (.one (capA c x)) u := by
  cases c with
  | d k =>
    obtain ⟨b, o, c, rfl, h1⟩ := h
    exact ⟨⟨by simp, b, o, c, RO.mono h1 (fun b hb _ => hF b hb) hw (fun _ _ h => Rep.mono (fun b hb _ => hF b hb) hw h) k.cells_pos, by simp⟩, rfl⟩
  | p ks r =>
    have h' := PPtr.mono hF hw h
    obtain ⟨b, v, rfl, _⟩ := h
    exact ⟨h', rfl⟩
theorem capsOk_cv {P : Program} {F : Nat → Prop} {E : Env} (hF : ∀ b, F b → E.F b) {w : World} (hw : ∀ b, F b → E.w.heap[b]? = w.heap[b]?) : ∀ {cs : List CK} {x : HC cs} {us : List Value}, CapsOk P F w cs x us → All2 (CV P E) (capC cs x) us
  | [], _, us, h => by
    have h : us = [] := h
    subst h
    trivial
  | c :: cs, x, us, ⟨u, r, h, h1, h2⟩ => by
    subst h
    exact ⟨capOk_cv hF hw h1, capsOk_cv hF hw h2⟩
theorem PFn.pf {P : Program} (q : PFn P) {F : Nat → Prop} {w : World} {ys : HC q.cks} {us : List Value} (hc : CapsOk P F w q.cks ys us) : PFun P F w q.ks q.r (q.g ys) (.func (.func q.f) #[] us.toArray) := by
  intro w' F' h1 h2 h3 xs y vs hv hy
  refine ⟨q.f, #[], us.toArray, rfl, q.enter, ?_⟩
  have := good_pure (σ := fun _ => undef) q.good h3 ((cvs_ok hv).append (capsOk_cv (E := ⟨w', F', fun _ => undef, fun _ => False, fun _ _ => False, fun _ _ => undef⟩) h2 h1 hc)) (q.eq ys xs y hy)
  simpa using this
/-! ### function values in a state -/
/-- An operand that may be a function's name. -/
def evF {P : Program} (L : Lib P) (ρ : Nat → Rv) (x : Operand) : Rv :=
  match x with
  | .func f => match pf0? L.p0 f with
    | some q => .val (.one (.pf q.ks q.r q.g))
    | none => ev ρ x
  | x => ev ρ x
def castCK {c c' : CK} (h : c' = c) (x : c'.T) : c.T := cast (by rw [h]) x
theorem castCK_rfl {c : CK} (h : c = c) (x : c.T) : castCK h x = x := rfl
def castF {ks ks' : List Kn} {r r' : Kn} (h : ks' = ks) (h' : r' = r) (f : HT ks' → Option r'.T) : HT ks → Option r.T := cast (by rw [h, h']) f
theorem castF_rfl {ks : List Kn} {r : Kn} (h : ks = ks) (h' : r = r) (f : HT ks → Option r.T) : castF h h' f = f := rfl
def castKT {k k' : Kn} (h : k' = k) (x : k'.T) : k.T := cast (by rw [h]) x
theorem castKT_rfl {k : Kn} (h : k = k) (x : k.T) : castKT h x = x := rfl
def one? {α : Type} : List α → Option α
  | [x] => some x
  | _ => none
/-- A captured variable, which stays as it is from now on. -/
def capM (c : CK) (a : A) (K : c.T → M) : M :=
  match c with
  | .d k => match a with
    | .ptr i 0 => .get i fun o => match o with
      | .box _ as => frL as fun as' => match k.ofAs as', Nat.beq (ln as') k.cells with
        | some x, true => .get i fun o2 => match o2 with
          | .box _ _ => .put i (.fb k x) (K x)
          | _ => .fail
        | _, _ => .fail
      | .fb k' x => if h : k' = k then K (castKT h x) else .fail
      | _ => .fail
    | .elr k' l 0 0 => if h : k' = k then match one? l with
      | some x => K (castKT h x)
      | none => .fail
      else .fail
    | _ => .fail
  | .p ks r => match a with
    | .ptr i 0 => .get i fun o => match o with
      | .box _ as => match one? as with
        | some (.pf ks' r' f) => if h : ks' = ks then if h' : r' = r then .put i (.fp ks r (castF h h' f)) (K (castF h h' f)) else .fail else .fail
        | _ => .fail
      | .fp ks' r' f => if h : ks' = ks then if h' : r' = r then K (castF h h' f) else .fail else .fail
      | _ => .fail
    | .pp ks' r' f => if h : ks' = ks then if h' : r' = r then K (castF h h' f) else .fail else .fail
    | _ => .fail
def capsM : (cs : List CK) → List Rv → (HC cs → M) → M
  | [], [], K => K ()
  | c :: cs, .val (.one a) :: r, K => capM c a fun x => capsM cs r fun xs => K (x, xs)
  | _, _, _ => .fail
def ptrsM : List Rv → (List Nat → M) → M
  | [], K => K []
  | .val (.one (.ptr i 0)) :: r, K => ptrsM r fun is => K (i :: is)
  | _, _ => .fail
def mkM {P : Program} (L : Lib P) (f : Nat) (args : List Rv) : M :=
  match pfn? L.ps f with
  | some q => capsM q.cks args fun ys => .ret (.val (.one (.pf q.ks q.r (q.g ys))))
  | none => ptrsM args fun is => .ret (.val (.one (.fn f is)))
section
variable {P : Program} {X : Ctx} {os : List (Nat × Obj')} {E : Env} {K : Rv → List (Nat × Obj') → Prop}
theorem one?_ok {α : Type} {l : List α} {x : α} (h : one? l = some x) : l = [x] := by
  unfold one? at h
  split at h
  · injection h with h; rw [h]
  · cases h
theorem capOk_mono {F F' : Nat → Prop} {w w' : World} (hF : ∀ b, F b → F' b) (hw : ∀ b, F b → w'.heap[b]? = w.heap[b]?) {c : CK} {x : c.T} {u : Value} (h : CapOk P F w c x u) : CapOk P F' w' c x u := by
  cases c with
  | d k =>
    obtain ⟨b, o, c, rfl, h1⟩ := h
    exact ⟨b, o, c, rfl, RO.mono h1 (fun b hb _ => hF b hb) hw (fun _ _ h => Rep.mono (fun b hb _ => hF b hb) hw h) k.cells_pos⟩
  | p ks r => exact PPtr.mono hF hw h
theorem box_fb {k : Kn} {x : k.T} {us : List Value} {b : Nat} {t : TypeId} {F : Nat → Prop} {w : World} (hh : w.heap[b]? = some (.cells us.toArray t (0, 0))) (hF : F b) (hr : Rep F w k x us) : RO F w (Rep F w k) k.cells [x] (.slice (some ⟨b, 0, none⟩) 1 1) := by
  refine ⟨_, _, rfl, Nat.le_refl _, by have := maxLen_ge; simp; omega, fun j hj => ?_⟩
  have hj : j = 0 := by simp at hj; exact hj
  subst hj
  refine ⟨b, 0, us, rfl, hF, hr, hr.length, fun i hi => ?_⟩
  rw [World.cell?, hh]
  simp [List.getElem?_eq_getElem hi]
theorem capM_ok {c : CK} {a : A} {u : Value} {Kf : c.T → M} (hI : Inv P X os E) (ha : AV P E a u) (h : (capM c a Kf).run os K) :
    ∃ E' os' x, E'.w = E.w ∧ E.le E' ∧ Inv P X os' E' ∧ CapOk P E'.F E'.w c x u ∧ (Kf x).run os' K := by
  unfold capM at h
  split at h
  · rename_i k _
    split at h
    · rename_i i
      obtain ⟨hD, b, hs, hu⟩ := ha
      simp only [M.run] at h
      split at h
      · rename_i o ho
        split at h
        · rename_i t as
          obtain ⟨b', us, h1, h2, h3, h4, _⟩ := hI.obj i _ ho
          have : b' = b := by rw [hs] at h1; simpa using h1.symm
          subst this
          obtain ⟨E1, os1, as', k1, k2, k3, k4, h⟩ := frL_ok hI h3 h
          split at h
          · rename_i x hx hl
            simp only [M.run] at h
            split at h
            · rename_i o2 ho2
              split at h
              · rename_i t2 as2
                simp only [M.run, ho2] at h
                have hs1 : E1.σ i = .pointer (some ⟨b', 0, none⟩) := by rw [k2.σ i hD]; exact hs
                obtain ⟨b2, us2, m1, m2, m3, m4, m5⟩ := k3.obj i _ ho2
                have : b2 = b' := by rw [hs1] at m1; simpa using m1.symm
                subst this
                have hrep := ofAs_ok k4 hx
                have hh : E1.w.heap[b2]? = some (.cells us.toArray t (0, 0)) := by rw [k1]; exact h2
                obtain ⟨E2, n1, n2, n3, n4⟩ := k3.still (o' := .fb k x) ho2 rfl rfl ⟨b2, hs1, box_fb hh (.inr ((m5 b2).2 (by rw [hs1]; rfl))) (Rep.mono (fun b hb _ => .inl hb) (fun _ _ => rfl) hrep)⟩
                refine ⟨E2, _, x, n1.trans k1, k2.trans n2, n3, ?_, h⟩
                obtain ⟨b3, q1, q2⟩ := n4
                rw [hs1] at q1
                have : b3 = b2 := by simpa using q1.symm
                subst this
                exact ⟨b3, 0, 1, hu, q2⟩
              · exact h.elim
            · exact h.elim
          · exact h.elim
        · split at h
          · rename_i k' x _ hk
            subst hk
            obtain ⟨b', h1, h2⟩ := hI.obj i _ ho
            have : b' = b := by rw [hs] at h1; simpa using h1.symm
            subst this
            exact ⟨E, os, _, rfl, .refl E, hI, ⟨b', 0, 1, hu, h2⟩, h⟩
          · exact h.elim
        · exact h.elim
      · exact h.elim
    · split at h
      · rename_i k' l _ hk
        subst hk
        split at h
        · rename_i x hx
          have := one?_ok hx
          subst this
          obtain ⟨_, b, o, c, h1, h2⟩ := ha
          exact ⟨E, os, x, rfl, .refl E, hI, ⟨b, o, c, by simpa using h2, h1⟩, h⟩
        · exact h.elim
      · exact h.elim
    · exact h.elim
  · rename_i ks r _
    split at h
    · rename_i i
      obtain ⟨hD, b, hs, hu⟩ := ha
      simp only [M.run] at h
      split at h
      · rename_i o ho
        split at h
        · rename_i t as
          split at h
          · rename_i ks' r' f has
            split at h
            · rename_i hk
              subst hk
              split at h
              · rename_i hr
                subst hr
                simp only [M.run, ho] at h
                have := one?_ok has
                subst this
                obtain ⟨b', us, h1, h2, h3, h4, h5⟩ := hI.obj i _ ho
                have : b' = b := by rw [hs] at h1; simpa using h1.symm
                subst this
                obtain ⟨v, rfl, h6⟩ := h3.sing
                obtain ⟨E2, n1, n2, n3, n4⟩ := hI.still (o' := .fp ks' r' f) ho rfl rfl ⟨b', v, hs, .inr ((h5 b').2 (by rw [hs]; rfl)), by
                  show E.w.cell? _ = _
                  rw [World.cell?, h2]; rfl, h4 v (by simp), PFun.mono (fun b hb => .inl hb) (fun _ _ => rfl) h6⟩
                refine ⟨E2, _, f, n1, n2, n3, ?_, h⟩
                obtain ⟨b3, v3, q1, q2⟩ := n4
                rw [hs] at q1
                have : b3 = b' := by simpa using q1.symm
                subst this
                exact ⟨b3, v3, hu, q2⟩
              · exact h.elim
            · exact h.elim
          · exact h.elim
        · split at h
          · rename_i ks' r' f _ hk
            subst hk
            split at h
            · rename_i hr
              subst hr
              obtain ⟨b', v, h1, h2⟩ := hI.obj i _ ho
              have : b' = b := by rw [hs] at h1; simpa using h1.symm
              subst this
              exact ⟨E, os, _, rfl, .refl E, hI, ⟨b', v, hu, h2⟩, h⟩
            · exact h.elim
          · exact h.elim
        · exact h.elim
      · exact h.elim
    · split at h
      · rename_i ks' r' f _ hk
        subst hk
        split at h
        · rename_i hr
          subst hr
          exact ⟨E, os, _, rfl, .refl E, hI, ha, h⟩
        · exact h.elim
      · exact h.elim
    · exact h.elim
theorem capsOk_mono {F F' : Nat → Prop} {w w' : World} (hF : ∀ b, F b → F' b) (hw : ∀ b, F b → w'.heap[b]? = w.heap[b]?) : ∀ {cs : List CK} {x : HC cs} {us : List Value}, CapsOk P F w cs x us → CapsOk P F' w' cs x us
  | [], _, us, h => h
  | c :: cs, x, us, ⟨u, r, h, h1, h2⟩ => ⟨u, r, h, capOk_mono hF hw h1, capsOk_mono hF hw h2⟩
theorem capsM_ok : ∀ {cs : List CK} {rs : List Rv} {us : List Value} {os : List (Nat × Obj')} {E : Env} {Kf : HC cs → M} (hI : Inv P X os E) (ha : All2 (RV P E) rs us) (h : (capsM cs rs Kf).run os K),
    ∃ E' os' x, E'.w = E.w ∧ E.le E' ∧ Inv P X os' E' ∧ CapsOk P E'.F E'.w cs x us ∧ (Kf x).run os' K
  | [], [], us, os, E, Kf, hI, ha, h => by
    cases us with
    | nil => exact ⟨E, os, (), rfl, .refl E, hI, rfl, h⟩
    | cons _ _ => exact ha.elim
  | [], _ :: _, us, os, E, Kf, hI, ha, h => h.elim
  | c :: cs, [], us, os, E, Kf, hI, ha, h => h.elim
  | c :: cs, .tup _ :: r, us, os, E, Kf, hI, ha, h => h.elim
  | c :: cs, .val (.agg _) :: r, us, os, E, Kf, hI, ha, h => h.elim
  | c :: cs, .val (.one a) :: r, [], os, E, Kf, hI, ha, h => ha.elim
  | c :: cs, .val (.one a) :: r, u :: us, os, E, Kf, hI, ha, h => by
    simp only [capsM] at h
    have ha1 : AV P E a u := by
      have := ha.1
      cases a <;> first | trivial | exact this.1
    obtain ⟨E1, os1, x, h1, h2, h3, h4, h5⟩ := capM_ok hI ha1 h
    obtain ⟨E2, os2, xs, k1, k2, k3, k4, k5⟩ := capsM_ok h3 (ha.2.imp (fun _ _ h => RV.mono h2 h)) h5
    exact ⟨E2, os2, (x, xs), k1.trans h1, h2.trans k2, k3, ⟨u, us, rfl, capOk_mono k2.F k2.w h4, k4⟩, k5⟩
theorem ptrsM_ok : ∀ {rs : List Rv} {us : List Value} {Kf : List Nat → M} (ha : All2 (RV P E) rs us) (h : (ptrsM rs Kf).run os K),
    ∃ is, All2 (fun i x => E.D i ∧ (∃ b, E.σ i = .pointer (some ⟨b, 0, none⟩)) ∧ x = E.σ i) is us ∧ (Kf is).run os K
  | [], [], Kf, _, h => ⟨[], trivial, h⟩
  | r :: rs, u :: us, Kf, ha, h => by
    unfold ptrsM at h
    split at h
    · rename_i e; cases e
    · rename_i i r' e
      injection e with e1 e2
      subst e1
      subst e2
      obtain ⟨⟨hD, b, hs, hu⟩, _⟩ := ha.1
      obtain ⟨is, h1, h2⟩ := ptrsM_ok ha.2 h
      exact ⟨i :: is, ⟨⟨hD, ⟨b, hs⟩, by rw [hu, hs]⟩, h1⟩, h2⟩
    · exact h.elim
theorem mk_ok {L : Lib P} {f : Nat} {rs : List Rv} {us : List Value} (hI : Inv P X os E) (ha : All2 (RV P E) rs us) (h : (mkM L f rs).run os K) : Out P X E K (.func (.func f) #[] us.toArray) E.w := by
  unfold mkM at h
  split at h
  · rename_i q hq
    obtain rfl := pfn?_ok hq
    obtain ⟨E1, os1, ys, h1, h2, h3, h4, h5⟩ := capsM_ok hI ha h
    exact ⟨E1, _, os1, h1, h2, h3, rv_one (a := .pf _ _ _) (q.pf h4) rfl, h5⟩
  · obtain ⟨is, h1, h2⟩ := ptrsM_ok ha h
    exact ⟨E, _, os, rfl, .refl E, hI, rv_one (a := .fn _ _) ⟨us, rfl, h1⟩ rfl, h2⟩
theorem evF_ok {L : Lib P} {n : Nat} {ρ : Nat → Rv} {a : Act} (hr : Regs P E n ρ a) (x : Operand) : RV P E (evF L ρ x) (a.eval x) := by
  unfold evF
  split
  · rename_i f
    split
    · rename_i q hq
      obtain rfl := pf0?_ok hq
      exact ⟨q.pf _ _, rfl⟩
    · exact ev_ok hr _
  · exact ev_ok hr _
/-! ### calls of function values -/
def Kn.isPr : Kn → Bool
  | .pr _ _ => true | _ => false
def argP (k : Kn) (r : Rv) (K : k.T → M) : M :=
  match r with
  | .val (.one .undef) => .fail
  | .val (.one a) => match k.isPr with
    | false => frA a fun a' => match k.ofAs [a'] with
      | some x => K x
      | none => .fail
    | true => .fail
  | .val (.agg as) => match k.isPr with
    | true => frL as fun as' => match k.ofAs as' with
      | some x => K x
      | none => .fail
    | false => .fail
  | .tup _ => .fail
def argsP : (ks : List Kn) → List Rv → (HT ks → M) → M
  | [], [], K => K ()
  | k :: ks, r :: rs, K => argP k r fun x => argsP ks rs fun xs => K (x, xs)
  | _, _, _ => .fail
def pfM (ks : List Kn) (r : Kn) (f : HT ks → Option r.T) (args : List Rv) : M :=
  argsP ks args fun xs => .need ((f xs).isSome = true) (.ret (.val (cvK r ((f xs).getD r.dflt))))
theorem cells_one {u : Value} (h : u.oneCell' = true) : u.cells = #[u] := by
  cases u <;> first | rfl | cases h
theorem argP_ok {k : Kn} {r : Rv} {u : Value} {Kf : k.T → M} (hI : Inv P X os E) (hr : RV P E r u) (h : (argP k r Kf).run os K) :
    ∃ E' os' x, E'.w = E.w ∧ E.le E' ∧ Inv P X os' E' ∧ RepV E'.F E'.w k x u ∧ (Kf x).run os' K := by
  unfold argP at h
  split at h
  · exact h.elim
  · rename_i a hne
    have hc : CV P E (.one a) u := by cases a <;> first | exact absurd rfl hne | exact hr
    split at h
    · rename_i hp
      obtain ⟨E1, os1, a', h1, h2, h3, h4, h5⟩ := frA_ok hI hc.1 h
      split at h5
      · rename_i x hx
        have hrep : Rep E1.F E1.w k x [u] := ofAs_ok (P := P) (E := E1) (as := [a']) (us := [u]) ⟨h4, trivial⟩ hx
        refine ⟨E1, os1, x, h1, h2, h3, ⟨by rw [cells_one hc.2]; exact hrep, ?_⟩, h5⟩
        cases k <;> first | exact hc.2 | cases hp
      · exact h5.elim
    · exact h.elim
  · rename_i as
    obtain ⟨us, rfl, h1, h2⟩ := hr
    split at h
    · rename_i hp
      obtain ⟨E1, os1, as', k1, k2, k3, k4, h⟩ := frL_ok hI h1 h
      split at h
      · rename_i x hx
        have hrep : Rep E1.F E1.w k x us := ofAs_ok k4 hx
        refine ⟨E1, os1, x, k1, k2, k3, ⟨by simpa [Value.cells] using hrep, ?_⟩, h⟩
        cases k <;> first | exact ⟨_, rfl⟩ | cases hp
      · exact h.elim
    · exact h.elim
  · exact h.elim
theorem repV_mono {F F' : Nat → Prop} {w w' : World} (hF : ∀ b, F b → F' b) (hw : ∀ b, F b → w'.heap[b]? = w.heap[b]?) {k : Kn} {x : k.T} {u : Value} (h : RepV F w k x u) : RepV F' w' k x u :=
  ⟨Rep.mono (fun b hb _ => hF b hb) hw h.1, h.2⟩
theorem argsP_ok : ∀ {ks : List Kn} {rs : List Rv} {us : List Value} {os : List (Nat × Obj')} {E : Env} {Kf : HT ks → M} (hI : Inv P X os E) (ha : All2 (RV P E) rs us) (h : (argsP ks rs Kf).run os K),
    ∃ E' os' xs, E'.w = E.w ∧ E.le E' ∧ Inv P X os' E' ∧ RepVs E'.F E'.w ks xs us ∧ (Kf xs).run os' K
  | [], [], us, os, E, Kf, hI, ha, h => by
    cases us with
    | nil => exact ⟨E, os, (), rfl, .refl E, hI, rfl, h⟩
    | cons _ _ => exact ha.elim
  | [], _ :: _, us, os, E, Kf, hI, ha, h => h.elim
  | k :: ks, [], us, os, E, Kf, hI, ha, h => h.elim
  | k :: ks, r :: rs, [], os, E, Kf, hI, ha, h => ha.elim
  | k :: ks, r :: rs, u :: us, os, E, Kf, hI, ha, h => by
    simp only [argsP] at h
    obtain ⟨E1, os1, x, h1, h2, h3, h4, h5⟩ := argP_ok hI ha.1 h
    obtain ⟨E2, os2, xs, k1, k2, k3, k4, k5⟩ := argsP_ok h3 (ha.2.imp (fun _ _ h => RV.mono h2 h)) h5
    exact ⟨E2, os2, (x, xs), k1.trans h1, h2.trans k2, k3, ⟨u, us, rfl, repV_mono k2.F k2.w h4, k4⟩, k5⟩
/-- The world has grown, blocks that do not change have come to those there were. -/
theorem Inv.grow (hI : Inv P X os E) {w' : World} {F' : Nat → Prop} (hg : E.w.grownBy w' none) (h1 : ∀ b, E.F b → F' b) (h2 : ∀ b, F' b → E.F b ∨ (E.w.heap.size ≤ b ∧ b < w'.heap.size)) :
    Inv P X os { E with w := w', F := F' } ∧ E.le { E with w := w', F := F' } := by
  have hF : ∀ b, E.F b → w'.heap[b]? = E.w.heap[b]? := fun b hb => hg.block b (hI.flt b hb) (fun e => by cases e)
  have hle : E.le { E with w := w', F := F' } := ⟨h1, hF, fun _ h => h, fun _ _ => rfl, fun _ _ => rfl⟩
  refine ⟨⟨hI.dom, fun i o hi => OSat.mono hle (fun hl b hb => hg.block b (hI.lt i o hi hl b hb) (fun e => by cases e)) (hI.obj i o hi), hI.dis, fun i o hi hl b hb => ⟨fun hF' => ?_, (hI.nof i o hi hl b hb).2⟩,
    fun b hb => ?_, fun b hb => ?_, fun b hb => h1 b (hI.fsup b hb), hg.os.trans hI.os, hg.tape.trans hI.tape, hg.output.trans hI.output, Nat.le_trans hI.size hg.size, fun b hb ho => (hg.block b (Nat.lt_of_lt_of_le hb hI.size) (fun e => by cases e)).trans (hI.frm b hb ho), hI.pin, hI.par⟩, hle⟩
  · rcases h2 b hF' with h | ⟨h, _⟩
    · exact (hI.nof i o hi hl b hb).1 h
    · have := hI.lt i o hi hl b hb; omega
  · rcases h2 b hb with h | ⟨_, h⟩
    · exact Nat.lt_of_lt_of_le (hI.flt b h) hg.size
    · exact h
  · rcases h2 b hb with h | ⟨h, _⟩
    · exact hI.fsub b h
    · exact .inr (.inl (Nat.le_trans hI.size h))
theorem pf_ok {ks : List Kn} {r : Kn} {f : HT ks → Option r.T} {u : Value} {rs : List Rv} {us : List Value} (hI : Inv P X os E) (hu : AV P E (.pf ks r f) u) (ha : All2 (RV P E) rs us) (h : (pfM ks r f rs).run os K) :
    RunsV P u us E.w fun e w' => ∃ v, e = .returned v ∧ Out P X E K v w' := by
  unfold pfM at h
  obtain ⟨E1, os1, xs, h1, h2, h3, h4, h5⟩ := argsP_ok hI ha h
  obtain ⟨hs, hk⟩ := h5
  obtain ⟨y, hy⟩ := Option.isSome_iff_exists.1 hs
  have hu1 : PFun P E1.F E1.w ks r f u := PFun.mono h2.F h2.w hu
  obtain ⟨g, first, cap, e1, e2, e3⟩ := hu1 E1.w E1.F (fun _ _ => rfl) (fun _ h => h) h3.flt xs y us h4 hy
  rw [h1] at e3
  refine ⟨g, first, cap, e1, e2, e3.mono ?_⟩
  rintro e w' ⟨v, F', rfl, k1, k2, k3, k4⟩
  obtain ⟨m1, m2⟩ := h3.grow (w' := w') (F' := F') (by rw [h1]; exact k2) k3 (by rw [h1]; exact k4)
  refine ⟨v, rfl, _, _, os1, rfl, h2.trans m2, m1, rv_of_cv (k := r) (x := y) (cvK_ok k1), ?_⟩
  rw [hy] at hk
  exact hk
end
end Go.Proofs.YthfmlelodmcgkaaGreat.V

set_option linter.unusedVariables false
set_option linter.unusedSimpArgs false
set_option linter.unusedSectionVars false
namespace Go.Proofs.YthfmlelodmcgkaaGreat.V
open Go
/-! ### structs and arrays -/
def placeM (tys : List Ty) (d : TD) (i : Nat) : Option (Nat × Nat) :=
  match d with
  | .st fs => match fld fs i with
    | some p => match ty? tys p.1 with
      | some yf => some (p.2, yf.size)
      | none => none
    | none => none
  | .arr _ e => match ty? tys e with
    | some ye => some (i * ye.size, ye.size)
    | none => none
  | _ => none
def fillM (pl : Nat → Option (Nat × Nat)) : List A → List (Nat × Rv) → Option (List A)
  | as, [] => some as
  | as, (i, r) :: rest => match pl i, cellsOf r with
    | some p, some zs => match Nat.beq (ln zs) p.2 && Nat.ble (p.1 + p.2) (ln as) with
      | true => fillM pl (tk p.1 as ++ zs ++ dr (p.1 + p.2) as) rest
      | false => none
    | _, _ => none
def knownTD (tys : List Ty) : TD → Bool
  | .st fs => allB (fun p => (ty? tys p.1).isSome) fs
  | .arr _ e => (ty? tys e).isSome
  | _ => false
def evP (ρ : Nat → Rv) : List (Nat × Operand) → List (Nat × Rv)
  | [] => []
  | (i, x) :: r => (i, ev ρ x) :: evP ρ r
def buildM (tys : List Ty) (t : Nat) (parts : List (Nat × Rv)) : M :=
  match ty? tys t with
  | some y => match y.zs.all plainB && y.d.agg && knownTD tys y.d, fillM (placeM tys y.d) (y.zs.map .v) parts with
    | true, some as => .ret (.val (.agg as))
    | _, _ => .fail
  | none => .fail
theorem foldl_puts {cs : Array Value} : ∀ (us : List Value) (off k : Nat) (cs : Array Value), off + k + us.length ≤ cs.size →
    ((us.zipIdx k).foldl (fun (cs : Array Value) (p : Value × Nat) => cs.setIfInBounds (off + p.2) p.1) cs).toList = cs.toList.take (off + k) ++ us ++ cs.toList.drop (off + k + us.length)
  | [], off, k, cs, h => by simp
  | u :: us, off, k, cs, h => by
    simp only [List.length_cons] at h
    simp only [List.zipIdx_cons, List.foldl_cons]
    rw [foldl_puts (cs := cs) us off (k + 1) _ (by simp; omega)]
    have hlt : off + k < cs.toList.length := by simp; omega
    have e : (cs.setIfInBounds (off + k) u).toList = cs.toList.take (off + k) ++ u :: cs.toList.drop (off + k + 1) := by
      rw [Array.toList_setIfInBounds, List.set_eq_take_append_cons_drop, if_pos hlt]
    rw [e]
    have l1 : (cs.toList.take (off + k)).length = off + k := by simp; omega
    rw [List.take_append, List.drop_append, l1, show off + (k + 1) - (off + k) = 1 from by omega, show off + (k + 1) + us.length - (off + k) = us.length + 1 from by omega]
    rw [List.take_of_length_le (by omega), List.drop_of_length_le (l := cs.toList.take (off + k)) (by omega)]
    simp [List.drop_drop]
    congr 1
    omega
section
variable {P : Program} {X : Ctx} {os : List (Nat × Obj')} {E : Env} {K : Rv → List (Nat × Obj') → Prop}
theorem fill_ok {n : Nat} {ρ : Nat → Rv} {a : Act} (hr : Regs P E n ρ a) {pl pl' : Nat → Option (Nat × Nat)} (hpl : ∀ i p, pl i = some p → pl' i = some p) : ∀ {parts : List (Nat × Operand)} {as as' : List A} {cs : Array Value},
    All2 (AV P E) as cs.toList → (∀ u ∈ cs.toList, u.oneCell' = true) → fillM pl as (evP ρ parts) = some as' →
    ∃ cs', Instr.fill pl' cs (parts.map fun p => (p.1, a.eval p.2)) = some cs' ∧ All2 (AV P E) as' cs'.toList ∧ ∀ u ∈ cs'.toList, u.oneCell' = true
  | [], as, as', cs, h1, h2, h => by
    simp only [evP, fillM] at h
    injection h with h
    subst h
    exact ⟨cs, rfl, h1, h2⟩
  | (i, x) :: r, as, as', cs, h1, h2, h => by
    simp only [evP, fillM] at h
    split at h
    · rename_i p zs hp hz
      split at h
      · rename_i hc
        simp only [Bool.and_eq_true] at hc
        have c1 := Nat.eq_of_beq_eq_true hc.1
        have c2 := Nat.le_of_ble_eq_true hc.2
        rw [ln_eq] at c1 c2
        obtain ⟨us, hu, k1, k2⟩ := cells_ok hz (ev_ok hr x)
        have l1 := h1.length
        have l2 := k1.length
        simp only [Array.length_toList] at l1
        have e := foldl_puts (cs := cs) us p.1 0 cs (by omega)
        obtain ⟨cs', h3, h4, h5⟩ := fill_ok hr hpl (parts := r) (cs := us.zipIdx.foldl (fun (cs : Array Value) (q : Value × Nat) => cs.setIfInBounds (p.1 + q.2) q.1) cs) (as := tk p.1 as ++ zs ++ dr (p.1 + p.2) as) (by
          rw [e, tk_eq, dr_eq, ← c1, l2]
          exact ((h1.take _).append k1).append (h1.drop _)) (by
          rw [e]
          intro u hu
          rcases List.mem_append.1 hu with hu | hu
          · rcases List.mem_append.1 hu with hu | hu
            · exact h2 u (List.mem_of_mem_take hu)
            · exact k2 u hu
          · exact h2 u (List.mem_of_mem_drop hu)) h
        refine ⟨cs', ?_, h4, h5⟩
        simp only [List.map_cons, Instr.fill, hpl i p hp]
        have s1 : (a.eval x).cells.size = p.2 := by rw [hu]; simp; omega
        have s2 : ¬ (cs.size < p.1 + (a.eval x).cells.size) := by rw [s1]; omega
        simp only [s1]
        have s3 : ¬ (cs.size < p.1 + p.2) := by omega
        simp only [bne_self_eq_false, gt_iff_lt, s3, decide_false, Bool.or_self, Bool.false_eq_true, if_false]
        rw [← h3, hu]
        congr 1
        simp [← Array.foldl_toList]
      · cases h
    · cases h
theorem placeM_st {tys : List Ty} (ht : ∀ y ∈ tys, TyOk P y) : ∀ {fs : List Field}, allB (fun p => (ty? tys p.1).isSome) (fs.map fun f => (f.type, f.offset)) = true →
    ∃ pl : List (Nat × Nat), fs.mapM (fun f => (P.info? f.type).map fun i => (f.offset, i.size)) = some pl ∧ ∀ i p, placeM tys (.st (fs.map fun f => (f.type, f.offset))) i = some p → pl[i]? = some p
  | [], _ => ⟨[], rfl, fun i p h => by cases i <;> cases h⟩
  | f :: fs, h => by
    simp only [List.map_cons, allB, Bool.and_eq_true] at h
    obtain ⟨pl, h1, h2⟩ := placeM_st ht h.2
    obtain ⟨yf, hyf⟩ := Option.isSome_iff_exists.1 h.1
    obtain ⟨hok, he⟩ := ty?_ok ht hyf
    obtain ⟨info, h3, h4, _⟩ := hok.info
    rw [he] at h3
    refine ⟨(f.offset, info.size) :: pl, by simp [List.mapM_cons, h3, h1], fun i p hp => ?_⟩
    rcases i with _ | i
    · simp only [placeM, List.map_cons, fld, hyf] at hp
      simpa [h4] using hp
    · simp only [List.getElem?_cons_succ]
      exact h2 i p (by simpa [placeM, fld] using hp)
theorem build_ok {tys : List Ty} (ht : ∀ y ∈ tys, TyOk P y) {n : Nat} {ρ : Nat → Rv} {a : Act} (hr : Regs P E n ρ a) {t : Nat} {parts : Array (Nat × Operand)} (h : (buildM tys t (evP ρ parts.toList)).run os K) (w : World) :
    ∃ v r, (Instr.build t (parts.map fun (i, x) => (i, a.eval x))).run P w = .ok v w ∧ RV P E r v ∧ K r os := by
  unfold buildM at h
  split at h
  · rename_i y hy
    obtain ⟨hok, rfl⟩ := ty?_ok ht hy
    split at h
    · rename_i as hc hf
      simp only [Bool.and_eq_true] at hc
      obtain ⟨⟨hp, hag⟩, hk⟩ := hc
      obtain ⟨h1, h2⟩ := All2.all_v (P := P) (E := E) hp
      have hz := zero_cells (y := y) (by rw [hag]; rfl) hp
      obtain ⟨info, i1, i2, i3, i4⟩ := hok.info
      obtain ⟨d, u1, u2⟩ := hok.und
      have fin : ∀ pl', (∀ i p, placeM tys y.d i = some p → pl' i = some p) → (∀ parts, P.built y.t parts = Instr.fill pl' y.zs.toArray parts) → ∃ v r, (Instr.build y.t (parts.map fun (i, x) => (i, a.eval x))).run P w = .ok v w ∧ RV P E r v ∧ K r os := fun pl' hpl hb => by
        obtain ⟨cs', h3, h4, h5⟩ := fill_ok hr hpl (parts := parts.toList) (as := y.zs.map .v) (cs := y.zs.toArray) (by simpa using h1) (by simpa using h2) hf
        refine ⟨.agg cs', .val (.agg as), run_build w y.t _ cs' (by rw [hb, ← h3]; simp), ⟨cs'.toList, by simp, h4, h5⟩, h⟩
      rw [← u2] at hk fin
      cases d <;> simp only [TD.of, knownTD, Bool.false_eq_true] at hk
      · rename_i e
        rename_i nn
        obtain ⟨ye, hye⟩ := Option.isSome_iff_exists.1 hk
        obtain ⟨hoke, he⟩ := ty?_ok ht hye
        obtain ⟨ie, k1, k2, _⟩ := hoke.info
        rw [he] at k1
        refine fin (fun i => some (i * ie.size, ie.size)) (fun i p hp => ?_) (fun parts => ?_)
        · simp only [TD.of, placeM, hye] at hp
          rw [k2]; exact hp
        · simp only [Program.built, i1, u1, i4, k1, hz]
      · rename_i fs
        obtain ⟨pl, k1, k2⟩ := placeM_st ht hk
        refine fin (fun i => pl.toArray[i]?) (fun i p hp => ?_) (fun parts => ?_)
        · simpa using k2 i p hp
        · simp only [Program.built, i1, u1, i4, k1, hz]
    · exact h.elim
  · exact h.elim
end
/-! ### parts of values -/
def pickN (as : List A) (n : Int) : Nat → List A → M
  | _, [] => .fail
  | i, a :: r => match a with
    | .undef => .fail
    | a => .br (decide (n = i)) (.ret (.val (.one a))) (pickN as n (i + 1) r)
def idxM (tys : List Ty) (t : Nat) (x ix : Rv) : M :=
  match ix with
  | .val (.one (.v (.int _ n))) => match ty? tys t with
    | some y => match y.d, x with
      | .arr len e, .val (.agg as) => match ty? tys e with
        | some ye => match ye.d.agg, Nat.beq ye.size 1, Nat.beq (ln as) len with
          | false, true, true => .need (0 ≤ n ∧ n < len) (pickN as n 0 as)
          | _, _, _ => .fail
        | none => .fail
      | .str, .val (.one (.v (.string s))) => .need (0 ≤ n ∧ n < s.size) (.int .u8 ((s.data.getD n.toNat 0).toNat : Int))
      | _, _ => .fail
    | none => .fail
  | _ => .fail
def nilM (x : Rv) : M :=
  match x with
  | .val (.one (.ptr i o)) => .ret (.val (.one (.ptr i o)))
  | .val (.one (.elr k l n o)) => .ret (.val (.one (.elr k l n o)))
  | .val (.one (.elt k i n o)) => .ret (.val (.one (.elt k i n o)))
  | _ => .fail
/-- A slice of a row of the state's own that begins where the row begins is the state's own again. -/
def cutOwn (tys : List Ty) (d t : Nat) (x : Rv) (lo hi mx : Option Rv) : M :=
  match x, lo, hi, mx with
  | .val (.one (.own i)), none, some (.val (.one (.v (.int _ h)))), none => .get i fun o => match o with
    | .row ty k l => match sliceE tys t with
      | some y => match Nat.beq y.size k.cells with
        | true => .need (0 ≤ h ∧ h ≤ l.length) (.put i .dead (.new (oid d 0) (.row ty k (l.take h.toNat)) (.ret (.val (.one (.own (oid d 0)))))))
        | false => .fail
      | none => .fail
    | _ => sliceM tys t x lo hi mx
  | _, _, _, _ => sliceM tys t x lo hi mx
section
variable {P : Program} {X : Ctx} {os : List (Nat × Obj')} {E : Env} {K : Rv → List (Nat × Obj') → Prop}
theorem pickN_ok {n : Int} {all : List A} : ∀ {as : List A} {i : Nat} {us : List Value}, All2 (AV P E) as us → (∀ u ∈ us, u.oneCell' = true) → (pickN all n i as).run os K → ∃ m u r, n = (i + m : Nat) ∧ us[m]? = some u ∧ RV P E r u ∧ K r os
  | [], i, us, _, _, h => h.elim
  | a :: r, i, [], h1, _, _ => h1.elim
  | a :: r, i, u :: us, h1, h2, h => by
    have step : (M.br (decide (n = i)) (.ret (.val (.one a))) (pickN all n (i + 1) r)).run os K → ∃ m u' r, n = (i + m : Nat) ∧ (u :: us)[m]? = some u' ∧ RV P E r u' ∧ K r os := fun h => by
      simp only [M.run] at h
      by_cases hn : n = i
      · rw [decide_eq_true hn] at h
        exact ⟨0, u, _, by simpa using hn, rfl, rv_one h1.1 (h2 u List.mem_cons_self), h⟩
      · rw [decide_eq_false hn] at h
        obtain ⟨m, u', r', k1, k2, k3, k4⟩ := pickN_ok h1.2 (fun u hu => h2 u (List.mem_cons_of_mem _ hu)) h
        exact ⟨m + 1, u', r', by omega, by simpa using k2, k3, k4⟩
    cases a <;> first | exact h.elim | exact step h
theorem idx_ok {tys : List Ty} (ht : ∀ y ∈ tys, TyOk P y) {t : Nat} {x ix : Rv} {u ui : Value} (hx : RV P E x u) (hi : RV P E ix ui) (h : (idxM tys t x ix).run os K) (w : World) :
    ∃ v r, (Instr.index t u ui).run P w = .ok v w ∧ RV P E r v ∧ K r os := by
  unfold idxM at h
  split at h
  · rename_i ki n
    obtain ⟨⟨rfl, _⟩, _⟩ := hi
    split at h
    · rename_i y hy
      obtain ⟨hok, rfl⟩ := ty?_ok ht hy
      obtain ⟨d, u1, u2⟩ := hok.und
      split at h
      · rename_i len e as hd
        split at h
        · rename_i ye hye
          obtain ⟨hoke, rfl⟩ := ty?_ok ht hye
          split at h
          · rename_i hag hs hl
            rw [hd] at u2
            cases d <;> simp [TD.of] at u2
            obtain ⟨rfl, rfl⟩ := u2
            obtain ⟨us, rfl, h1, h2⟩ := hx
            obtain ⟨hn, h⟩ := h
            obtain ⟨m, v, r, k1, k2, k3, k4⟩ := pickN_ok h1 h2 h
            have hsz := Nat.eq_of_beq_eq_true hs
            refine ⟨v, r, ?_, k3, k4⟩
            have : n.toNat = m := by omega
            simp [Instr.index, asIntOf, run_underlying u1, hn.1, hn.2, hoke.sizeOf w, hsz, part, hoke.isAgg w, hag, this, k2]
          · exact h.elim
        · exact h.elim
      · rename_i s hd
        rw [hd] at u2
        cases d <;> simp [TD.of] at u2
        obtain ⟨⟨rfl, _⟩, _⟩ := hx
        obtain ⟨hn, h⟩ := h
        have hlt : n.toNat < s.size := by omega
        have e : s[n.toNat]? = some (s.data.getD n.toNat 0) := by
          have hlt' : n.toNat < s.data.size := hlt
          rw [getElem?_pos s n.toNat hlt]
          rw [Array.getD_eq_getD_getElem?, Array.getElem?_eq_getElem hlt']
          rfl
        refine ⟨.int .u8 _, _, ?_, rv_v (x := .int .u8 _) ?_ rfl, h⟩
        · simp [Instr.index, asIntOf, run_underlying u1, hn.1, e]
        · have := UInt8.toNat_lt (s.data.getD n.toNat 0)
          simp only [okV, okI]; omega
      · exact h.elim
    · exact h.elim
  · exact h.elim
theorem nil_ok {x : Rv} {u : Value} (hx : RV P E x u) (h : (nilM x).run os K) : (∃ a, u = .pointer (some a)) ∧ ∃ r, RV P E r u ∧ K r os := by
  unfold nilM at h
  split at h
  · exact ⟨⟨_, hx.1.2.choose_spec.2⟩, _, hx, h⟩
  · obtain ⟨_, b, o, c, _, hu⟩ := hx.1
    exact ⟨⟨_, hu⟩, _, hx, h⟩
  · obtain ⟨_, b, len, c, _, _, hu⟩ := hx.1
    exact ⟨⟨_, hu⟩, _, hx, h⟩
  · exact h.elim
theorem grown_refl (w : World) (r : Option Nat) : w.grownBy w r := ⟨rfl, rfl, rfl, Nat.le_refl _, fun _ _ _ => rfl⟩
theorem Reps.take {F : Nat → Prop} {w : World} {k : Kn} : ∀ (n : Nat) {l : List k.T} {cs : List Value}, Reps F w k l cs → Reps F w k (l.take n) (cs.take ((l.take n).length * k.cells))
  | 0, l, cs, _ => by simp [Reps]
  | n + 1, [], cs, h => by rw [h]; simp [Reps]
  | n + 1, x :: l, cs, ⟨c1, c2, h, h1, h2⟩ => by
    refine ⟨c1, c2.take ((l.take n).length * k.cells), ?_, h1, Reps.take n h2⟩
    rw [h, List.take_succ_cons, List.length_cons, Nat.add_mul, Nat.one_mul, Nat.add_comm, ← h1.length, List.take_length_add_append]
theorem own_take {w : World} {t : TypeId} {sz : Nat} {v : Value} {n m : Nat} {xs : List Value} (h : w.ownsRow 0 t sz v n xs) (hm : m ≤ n) : ∃ ad c, v = .slice ad n c ∧ w.ownsRow 0 t sz (.slice ad m c) m (xs.take (m * sz)) ∧ blkOf (.slice ad m c) = blkOf v := by
  obtain ⟨h1, h2⟩ := h
  have hmm : m * sz ≤ n * sz := Nat.mul_le_mul_right _ hm
  rcases h2 with ⟨rfl, rfl⟩ | ⟨g, cap, cur, rfl, q1, q2, q3, q4, q5, q6⟩
  · have : m = 0 := by omega
    subst this
    exact ⟨none, 0, rfl, ⟨by simp, .inl ⟨rfl, rfl⟩⟩, rfl⟩
  · refine ⟨_, cap, rfl, ⟨by simp; omega, .inr ⟨g, cap, cur, rfl, q1, q2, Nat.le_trans hm q3, q4, q5, ?_⟩⟩, rfl⟩
    rw [← q6, List.take_take, Nat.min_eq_left hmm]
theorem cutOwn_ok {tys : List Ty} (ht : ∀ y ∈ tys, TyOk P y) (hI : Inv P X os E) {d t : Nat} {x : Rv} {u : Value} {lo hi mx : Option Rv} {ulo uhi umx : Option Value} (hx : RV P E x u)
    (hlo : ∀ r, lo = some r → ∃ v, ulo = some v ∧ RV P E r v) (hlo' : lo = none → ulo = none) (hhi : ∀ r, hi = some r → ∃ v, uhi = some v ∧ RV P E r v) (hhi' : hi = none → uhi = none) (hmx' : ∀ r, mx = some r → ∃ v, umx = some v ∧ RV P E r v) (hmx : mx = none → umx = none)
    (h : (cutOwn tys d t x lo hi mx).run os K) : ∃ v, (Instr.sliceAt t u ulo uhi umx).run P E.w = .ok v E.w ∧ Out P X E K v E.w := by
  unfold cutOwn at h
  split at h
  · rename_i i kh hh
    simp only [M.run] at h
    split at h
    · rename_i o ho
      split at h
      · rename_i ty k l
        split at h
        · rename_i y hy
          obtain ⟨hok, hu⟩ := sliceE_ok ht hy
          split at h
          · rename_i hsz
            have hsz := Nat.eq_of_beq_eq_true hsz
            obtain ⟨⟨h0, h1⟩, h⟩ := h
            simp only [M.run, ho] at h
            split at h
            · rename_i hn
              have hn' : lk os (oid d 0) = none := by
                by_cases e : i = oid d 0
                · rw [← e, lk_same] at hn; cases hn
                · rwa [lk_ne _ _ e] at hn
              obtain rfl := hlo' rfl
              obtain rfl := hmx rfl
              obtain ⟨_, rfl, ⟨rfl, _⟩, _⟩ := hhi _ rfl
              obtain ⟨⟨hD, rfl⟩, _⟩ := hx
              obtain ⟨xs, k1, k2, k3, k4⟩ := hI.obj i _ ho
              obtain ⟨ad, c, e1, e2, e3⟩ := own_take (m := hh.toNat) k1 (by omega)
              obtain ⟨E', m1, m2, m3, m4, m5⟩ := hI.move (i := i) (d := oid d 0) ho rfl hn' (hI.noX d 0) (grown_refl E.w none) (fun b hb => by cases hb) (.slice ad hh.toNat c) (fun b => blkOf (.slice ad hh.toNat c) = some b) (fun _ => undef) (.row ty k (l.take hh.toNat))
                (fun b hb => .inl ((k4 b).2 (e3 ▸ hb))) (fun E' hle hw => by
                  have hl : (l.take hh.toNat).length = hh.toNat := by simp; omega
                  refine ⟨xs.take ((l.take hh.toNat).length * k.cells), ?_, (Reps.take hh.toNat k2).imp (fun _ _ h => Rep.mono (fun b hb _ => hle.F b hb) hle.w h), by rw [hl]; omega, fun b => Iff.rfl⟩
                  rw [hl, hw]
                  exact e2)
              refine ⟨.slice ad hh.toNat c, ?_, E', .val (.one (.own (oid d 0))), _, m1, m2, m3, ⟨⟨m4, m5.symm⟩, rfl⟩, h⟩
              have hc := (row_reads k1)
              obtain ⟨ad', c', e4, e5⟩ := hc
              rw [e1] at e4
              injection e4 with e4 _ e4'
              have e6 : (Instr.sliceBound (.int kh hh) c .sliceAcap).run P E.w = .ok hh.toNat E.w := run_sliceBound _ _ _ _ _ h0 (by
                have := own_cells k1
                obtain ⟨ad2, c2, q1, q2, _⟩ := this
                rw [e1] at q1
                injection q1 with _ _ q1
                omega)
              rw [e1]
              have e7 : ∀ n, (ad.map fun a => a.add (0 * n)) = ad := fun n => by cases ad <;> simp [Addr.add]
              simp [Instr.sliceAt, run_underlying hu, Instr.slice, Instr.sliceBounds, hok.sizeOf E.w, e6]
              cases ad <;> simp [Addr.add]
            · exact h.elim
          · exact h.elim
        · exact h.elim
      · exact slice_ok ht hI hx hlo hlo' hhi hhi' hmx' hmx h
    · exact h.elim
  · exact slice_ok ht hI hx hlo hlo' hhi hhi' hmx' hmx h
end
end Go.Proofs.YthfmlelodmcgkaaGreat.V
