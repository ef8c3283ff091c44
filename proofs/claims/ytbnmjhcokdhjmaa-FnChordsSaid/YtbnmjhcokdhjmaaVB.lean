/- Contracts out of rows told in the seat's words. Conditions: in each. Contracts of the functions that are told elsewhere: impl.twice, impl.normal, slices.Clone, impl.renumbered. Conditions: told by each spec. From a contract of a law to its row: rows that came in, what is told. Conditions: in each. -/
import Derived.Test.YtbnmjhcokdhjmaaVW1
import Derived.Test.YtbnmjhcokdhjmaaKRows
import Derived.Test.YtbnmjhcokdhjmaaKWord
import Derived.Test.YtbnmjhcokdhjmaaKCl
set_option linter.unusedVariables false
set_option linter.unusedSimpArgs false
set_option linter.unusedSectionVars false
namespace Go.Proofs.Ytbnmjhcokdhjmaa.V
open Go
open Go.RowKit Go.Proofs.YtbnmjhcokdhjmaaW.PrintWords Go.Proofs.YtbnmjhcokdhjmaaW.PrintLast Go.Proofs.YtbnmjhcokdhjmaaW.PrintMore
section
variable {P : Program}
abbrev E00 (w : World) (F : Nat → Prop) : Env := ⟨w, F, fun _ => undef, fun _ => False, fun _ _ => False, fun _ _ => undef⟩
abbrev X00 (w : World) (F : Nat → Prop) : Ctx := ⟨w, F, fun _ => False, fun _ => False, fun _ => undef, fun _ _ => undef⟩
/-- A contract of a function that is handed nothing to write. -/
theorem good0 {f : FuncId} {sp : List Cv → List Obj' → Tree} (hsp : ∀ cs o os, sp cs (o :: os) = .fail)
    (h : ∀ (w : World) (F : Nat → Prop) (cs : List Cv) (vs : List Value) (K : Rv → List Obj' → Prop), (∀ b, F b → b < w.heap.size) → All2 (CV P (E00 w F)) cs vs → okCs cs → (sp cs []).run K →
      Calls P f vs.toArray w fun e w' => ∃ r u os E, e = .returned u ∧ K r os ∧ E.w = w' ∧ Inv P (X00 w F) (numb 0 os) E ∧ RV P E r u) : Good P f sp := by
  intro E0 cs os0 vs K hF hD h16 hO hdis hnof ha hK
  cases os0 with
  | cons o os => rw [hsp] at hK; exact hK.elim
  | nil =>
    have hD0 : ∀ i, ¬ E0.D i := fun i hi => by have := (hD i).1 hi; simp at this
    have hle : E0.le (E00 E0.w E0.F) := ⟨fun _ h => h, fun _ _ => rfl, fun i hi => absurd hi (hD0 i), fun i hi => absurd hi (hD0 i), fun i hi => absurd hi (hD0 i)⟩
    refine (h E0.w E0.F cs vs K hF (ha.imp (fun _ _ h => CV.mono hle h)) (okCs_of ha) hK).mono ?_
    rintro e w' ⟨r, u, os, E, rfl, h1, rfl, hI, h2⟩
    exact ⟨r, u, os, E, rfl, h1, Nat.zero_le _, rfl, ⟨hI.dom, hI.obj, hI.dis, fun i o hi hl b hb => ⟨(hI.nof i o hi hl b hb).1, (hI.nof i o hi hl b hb).2.imp id False.elim⟩, hI.flt, fun b hb => (hI.fsub b hb).imp id (fun h => h.imp id False.elim), hI.fsup, hI.os, hI.tape, hI.output, hI.size,
      fun b hb _ => hI.frm b hb id, fun i hi => absurd hi (hD0 i), fun i hi => absurd hi (hD0 i)⟩, h2⟩
theorem Inv.start (w : World) (F : Nat → Prop) (hF : ∀ b, F b → b < w.heap.size) : Inv P (X00 w F) [] (E00 w F) :=
  ⟨fun i => by simp [lk], (fun i o h => by cases h), (fun i j o o' _ h => by cases h), (fun i o h => by cases h), hF, fun b hb => .inl hb, fun b hb => hb, rfl, rfl, rfl, Nat.le_refl _, fun _ _ _ => rfl, (fun i h => h.elim), (fun i h => h.elim)⟩
theorem read_of {F : Nat → Prop} {w : World} {l : List Int} {u : Value} (h : RO F w (Rep F w (.int .i64)) 1 l u) : ∃ ad c, u = .slice ad l.length c ∧ l.length ≤ c ∧ K.CI w ad l.length l := by
  obtain ⟨ad, c, h1, h2, h3, h4⟩ := h
  refine ⟨ad, c, h1, h2, rfl, h3, fun hp => ?_⟩
  obtain ⟨b, o, cs, rfl, _⟩ := h4 0 hp
  refine ⟨_, rfl, fun j p hj => ?_⟩
  obtain ⟨hjl, rfl⟩ := List.getElem?_eq_some_iff.1 hj
  obtain ⟨b', o', cs, e, _, h7, h8, h9⟩ := h4 j hjl
  obtain ⟨rfl, rfl⟩ : b = b' ∧ o = o' := by simpa using e
  refine ⟨cs, h8, h7.1, fun i u hu => ?_⟩
  obtain ⟨hi, rfl⟩ := List.getElem?_eq_some_iff.1 hu
  rw [← h9 i hi, Addr.add_lit]
  rfl
theorem blk_own (v : Value) : blkOf v = none ∨ (∃ m, v = .map m) ∨ blkOf v = v.ownBlock ∨ ∃ a, v = .pointer a := by
  cases v <;> first | exact .inl rfl | exact .inr (.inl ⟨_, rfl⟩) | exact .inr (.inr (.inr ⟨_, rfl⟩)) | skip
  rename_i a n c
  refine .inr (.inr (.inl ?_))
  cases a <;> rfl
theorem row_of {w : World} {base : Nat} {ok : Nat → Prop} {v : Value} {l : List Int} (h : K.RI w base ok v l) (hr : ∀ x ∈ l, okI .i64 x) (F : Nat → Prop) :
    ∃ xs, w.ownsRow 0 2 1 v l.length xs ∧ Reps F w (.int .i64) l xs ∧ l.length ≤ maxLen ∧ (∀ b, blkOf v = some b → base ≤ b ∧ v.ownBlock = some b) ∧ v.oneCell' = true := by
  obtain ⟨h0, xs, ho, h1⟩ := h
  have hk : ∀ b, blkOf v = some b → v.ownBlock = some b := fun b hb => by
    rcases ho.2 with ⟨rfl, _⟩ | ⟨g, cap, cur, rfl, _⟩
    · simp [blkOf] at hb
    · simpa [blkOf, Value.ownBlock] using hb
  refine ⟨xs, own_weaken ho (Nat.zero_le _), ?_, ?_, fun b hb => ⟨own_base ho b (hk b hb), hk b hb⟩, ?_⟩
  · refine Reps.of_get h1.1 (fun j hj => ?_)
    have := h1.2 j _ (List.getElem?_eq_getElem hj)
    exact ⟨this, hr _ (List.getElem_mem hj)⟩
  · rcases ho.2 with ⟨_, h2⟩ | ⟨g, cap, cur, _, _, _, h2, h3, _⟩
    · rw [h2]; exact Nat.zero_le _
    · exact Nat.le_trans h2 h3
  · rcases ho.2 with ⟨rfl, _⟩ | ⟨g, cap, cur, rfl, _⟩ <;> rfl
theorem grow_below {w w' : World} {F : Nat → Prop} (hF : ∀ b, F b → b < w.heap.size) (hb : Below w.heap.size w w') : Inv P (X00 w F) [] (E00 w' F) :=
  ((Inv.start (P := P) w F hF).world (w' := w') (row := none) ⟨hb.os, hb.tape, hb.output, hb.size, fun k hk _ => hb.block k hk⟩ (fun b h => by cases h)).1
theorem lay_row {w w' : World} {F : Nat → Prop} (hF : ∀ b, F b → b < w.heap.size) {os : List (Nat × Obj')} {E : Env} (hI : Inv P (X00 w F) os E) (hw : E.w = w') (hEF : ∀ b, E.F b → F b) (i : Nat) (hi : lk os i = none) {v : Value} {l : List Int} (hR : K.RI w' w.heap.size (fun _ => True) v l) (hr : ∀ x ∈ l, okI .i64 x)
    (hsep : ∀ b, v.ownBlock = some b → ∀ j o, lk os j = some o → o.live = true → ¬ E.φ j b) :
    ∃ E', E'.w = w' ∧ E.le E' ∧ Inv P (X00 w F) ((i, .row 2 (.int .i64) l) :: os) E' ∧ E'.D i ∧ E'.σ i = v ∧ (∀ b, E'.F b → F b) ∧ (∀ b, E'.φ i b → v.ownBlock = some b) ∧ ∀ j, j ≠ i → ∀ b, E'.φ j b → E.φ j b := by
  obtain ⟨xs, h1, h2, h3, h4, h5⟩ := row_of hR hr F
  obtain ⟨E', k1, k2, k3, k4, k5, k6, k7, k8⟩ := hI.lay i hi (fun h => h) v (fun b => blkOf v = some b) (fun _ => undef) (.row 2 (.int .i64) l) (fun b hb => by
    have := (h4 b hb).1
    exact ⟨fun h => by have := hF b (hEF b h); omega, .inl this, hsep b (h4 b hb).2⟩) (fun E' hle hw' => ⟨xs, by rw [hw', hw]; exact h1, h2.imp (fun _ _ h => Rep.flat rfl h), h3, fun _ => Iff.rfl⟩)
  exact ⟨E', k1.trans hw, k2, k3, k4, k5, fun b hb => hEF b ((k6 b).1 hb), fun b hb => (h4 b ((k7 b).1 hb)).2, fun j hj b hb => (k8 j hj b).1 hb⟩
end
end Go.Proofs.Ytbnmjhcokdhjmaa.V

set_option linter.unusedVariables false
set_option linter.unusedSimpArgs false
set_option linter.unusedSectionVars false
namespace Go.Proofs.Ytbnmjhcokdhjmaa.V
open Go
open Go.RowKit Go.Proofs.YtbnmjhcokdhjmaaW.PrintWords Go.Proofs.YtbnmjhcokdhjmaaW.PrintLast Go.Proofs.YtbnmjhcokdhjmaaW.PrintMore
def sp_twice : List Cv → List Obj' → Tree
  | [.one (.ro (.int .i64) l)], [] => .need (l.length < 1099511627776) (.ret (vb (K.twiceL l)) [])
  | _, _ => .fail
def sp_normal : List Cv → List Obj' → Tree
  | [.one (.ro (.int .i64) l)], [] => .need (l.length < 1099511627776) (.ret (ow 0) [rwi (K.normalL l)])
  | _, _ => .fail
def sp_clone : List Cv → List Obj' → Tree
  | [.one (.ro (.int .i64) l)], [] => .need (l.length < 1099511627776) (.ret (ow 0) [rwi l])
  | _, _ => .fail
theorem one_arg {P : Program} {E : Env} {c : Cv} {vs : List Value} (h : All2 (CV P E) [c] vs) : ∃ u, vs = [u] ∧ CV P E c u := by
  rcases vs with _ | ⟨u, _ | ⟨_, _⟩⟩
  · exact h.elim
  · exact ⟨u, rfl, h.1⟩
  · exact h.2.elim
theorem normFrom_ok (l : List Int) : ∀ met, ∀ x ∈ K.normFrom met l, 0 ≤ x ∧ x ≤ met.length + l.length := by
  induction l with
  | nil => intro met x h; cases h
  | cons y r ih =>
    intro met x h
    rw [K.normFrom] at h
    split at h
    · rename_i j hj
      have := K.idxOf?_lt hj
      rcases List.mem_cons.1 h with rfl | h
      · simp; omega
      · have := ih _ _ h; simp; omega
    · rcases List.mem_cons.1 h with rfl | h
      · simp; omega
      · have := ih _ _ h; simp at this ⊢; omega
theorem two_args {P : Program} {E : Env} {c1 c2 : Cv} {vs : List Value} (h : All2 (CV P E) [c1, c2] vs) : ∃ u1 u2, vs = [u1, u2] ∧ CV P E c1 u1 ∧ CV P E c2 u2 := by
  rcases vs with _ | ⟨u1, _ | ⟨u2, _ | ⟨_, _⟩⟩⟩
  · exact h.elim
  · exact h.2.elim
  · exact ⟨u1, u2, rfl, h.1, h.2.1⟩
  · exact h.2.2.elim
theorem good_twice : Good Try.prog 86 sp_twice := by
  refine good0 (fun cs o os => by unfold sp_twice; split <;> first | rfl | (rename_i h; cases h)) (fun w F cs vs Kc hF ha hok hK => ?_)
  unfold sp_twice at hK
  split at hK
  case h_2 => exact hK.elim
  rename_i l _
  obtain ⟨u, rfl, hu⟩ := one_arg ha
  obtain ⟨ad, c, rfl, hc, hr⟩ := read_of hu.1
  obtain ⟨hl, hK⟩ := hK
  simp only [okCs, okA, okK] at hok
  refine (K.c_twice ad c l w hl hok.1.2 hr).mono ?_
  rintro e w' ⟨rfl, hb⟩
  exact ⟨_, _, [], _, rfl, hK, rfl, grow_below hF hb, rv_v (x := .bool _) trivial rfl⟩
def c_twice : Ctr Try.prog := ⟨86, ent Try.func86 rfl rfl, [], sp_twice, good_twice, []⟩
@[go_sem] theorem c_twice_f : c_twice.f = 86 := rfl
@[go_sem] theorem c_twice_ms : c_twice.ms = [] := rfl
@[go_sem] theorem c_twice_sp : c_twice.spec = sp_twice := rfl
@[go_sem] theorem c_twice_fz : c_twice.fz = [] := rfl
attribute [go_sem] sp_twice
theorem good_normal : Good Try.prog 87 sp_normal := by
  refine good0 (fun cs o os => by unfold sp_normal; split <;> first | rfl | (rename_i h; cases h)) (fun w F cs vs Kc hF ha hok hK => ?_)
  unfold sp_normal at hK
  split at hK
  case h_2 => exact hK.elim
  rename_i l _
  obtain ⟨u, rfl, hu⟩ := one_arg ha
  obtain ⟨ad, c, rfl, hc, hr⟩ := read_of hu.1
  obtain ⟨hl, hK⟩ := hK
  simp only [okCs, okA, okK] at hok
  refine (K.c_normal ad c l w hl hok.1.2 hr).mono ?_
  rintro e w' ⟨v, rfl, hR, hb⟩
  obtain ⟨E', h1, h2, h3, h4, h5, _⟩ := lay_row hF (grow_below (P := Try.prog) hF hb) rfl (fun b h => h) 0 rfl hR (fun x hx => by have := normFrom_ok l [] x hx; simp at this; simp only [okI]; omega) (fun b _ j o hj => by cases hj)
  obtain ⟨_, _, _, _, _, hv⟩ := row_of hR (fun x hx => by have := normFrom_ok l [] x hx; simp at this; simp only [okI]; omega) F
  exact ⟨_, _, _, E', rfl, hK, h1, h3, ⟨⟨h4, h5.symm⟩, hv⟩⟩
def c_normal : Ctr Try.prog := ⟨87, ent Try.func87 rfl rfl, [], sp_normal, good_normal, []⟩
@[go_sem] theorem c_normal_f : c_normal.f = 87 := rfl
@[go_sem] theorem c_normal_ms : c_normal.ms = [] := rfl
@[go_sem] theorem c_normal_sp : c_normal.spec = sp_normal := rfl
@[go_sem] theorem c_normal_fz : c_normal.fz = [] := rfl
attribute [go_sem] sp_normal
theorem good_clone : Good Try.prog 115 sp_clone := by
  refine good0 (fun cs o os => by unfold sp_clone; split <;> first | rfl | (rename_i h; cases h)) (fun w F cs vs Kc hF ha hok hK => ?_)
  unfold sp_clone at hK
  split at hK
  case h_2 => exact hK.elim
  rename_i l _
  obtain ⟨u, rfl, hu⟩ := one_arg ha
  obtain ⟨ad, c, rfl, hc, hr⟩ := read_of hu.1
  obtain ⟨hl, hK⟩ := hK
  simp only [okCs, okA, okK] at hok
  refine (K.slices_Clone_int64_int64.calls ad c l l w hr hc (by unfold K.slices_Clone_int64_int64.f; rw [if_pos (by omega)])).mono ?_
  rintro e w' ⟨v, rfl, hR, hb⟩
  obtain ⟨E', h1, h2, h3, h4, h5, _⟩ := lay_row hF (grow_below (P := Try.prog) hF hb) rfl (fun b h => h) 0 rfl hR hok.1.2 (fun b _ j o hj => by cases hj)
  obtain ⟨_, _, _, _, _, hv⟩ := row_of hR hok.1.2 F
  exact ⟨_, _, _, E', rfl, hK, h1, h3, ⟨⟨h4, h5.symm⟩, hv⟩⟩
def c_clone : Ctr Try.prog := ⟨115, ent Try.func115 rfl rfl, [], sp_clone, good_clone, []⟩
@[go_sem] theorem c_clone_f : c_clone.f = 115 := rfl
@[go_sem] theorem c_clone_ms : c_clone.ms = [] := rfl
@[go_sem] theorem c_clone_sp : c_clone.spec = sp_clone := rfl
@[go_sem] theorem c_clone_fz : c_clone.fz = [] := rfl
attribute [go_sem] sp_clone
theorem normal_ok {l : List Int} (hl : l.length < 1099511627776) : ∀ x ∈ K.normalL l, okI .i64 x := fun x hx => by
  have := normFrom_ok l [] x hx; simp at this; simp only [okI]; omega
theorem metBy_mem (l : List Int) : ∀ met, ∀ x ∈ K.metBy met l, x ∈ met ∨ x ∈ l := by
  induction l with
  | nil => intro met x h; exact .inl h
  | cons y r ih =>
    intro met x h
    rw [K.metBy] at h
    split at h
    · rcases ih _ _ h with h | h
      · exact .inl h
      · exact .inr (List.mem_cons_of_mem _ h)
    · rcases ih _ _ h with h | h
      · rcases List.mem_append.1 h with h | h
        · exact .inl h
        · simp at h; subst h; exact .inr List.mem_cons_self
      · exact .inr (List.mem_cons_of_mem _ h)
theorem three_args {P : Program} {E : Env} {c1 c2 c3 : Cv} {vs : List Value} (h : All2 (CV P E) [c1, c2, c3] vs) : ∃ u1 u2 u3, vs = [u1, u2, u3] ∧ CV P E c1 u1 ∧ CV P E c2 u2 ∧ CV P E c3 u3 := by
  rcases vs with _ | ⟨u1, _ | ⟨u2, _ | ⟨u3, _ | ⟨_, _⟩⟩⟩⟩
  · exact h.elim
  · exact h.2.elim
  · exact h.2.2.elim
  · exact ⟨u1, u2, u3, rfl, h.1, h.2.1, h.2.2.1⟩
  · exact h.2.2.2.elim
theorem Inv.enter {P : Program} {E0 : Env} {os0 : List Obj'} (hF : ∀ b, E0.F b → b < E0.w.heap.size) (hD : ∀ j, E0.D j ↔ j < os0.length) (h16 : os0.length ≤ 16) (hO : ∀ j (h : j < os0.length), OSat P E0 (E0.σ j) (E0.φ j) (E0.ι j) os0[j] ∧ os0[j].live = true)
    (hdis : ∀ i j, i < os0.length → j < os0.length → i ≠ j → ∀ b, E0.φ i b → ¬ E0.φ j b) (hnof : ∀ j, j < os0.length → ∀ b, E0.φ j b → ¬ E0.F b) : Inv P ⟨E0.w, E0.F, fun b => ∃ j, j < os0.length ∧ E0.φ j b, E0.D, E0.σ, E0.ι⟩ (numb 0 os0) E0 := by
  have hlk : ∀ i o, lk (numb 0 os0) i = some o → ∃ h : i < os0.length, os0[i] = o := fun i o hi => by
    rw [lk_numb] at hi
    simp only [Nat.not_lt_zero, if_false, Nat.sub_zero] at hi
    exact List.getElem?_eq_some_iff.1 hi
  refine ⟨fun i => ?_, fun i o hi => ?_, fun i j o o' hne hi hj _ _ => ?_, fun i o hi _ b hb => ?_, hF, fun b hb => .inl hb, fun b hb => hb, rfl, rfl, rfl, Nat.le_refl _, fun _ _ _ => rfl, fun i hi => ?_, fun i _ _ => ⟨rfl, rfl⟩⟩
  · rw [lk_numb, hD]; simp
  · obtain ⟨h1, rfl⟩ := hlk i o hi
    exact (hO i h1).1
  · obtain ⟨h1, _⟩ := hlk i o hi
    obtain ⟨h2, _⟩ := hlk j o' hj
    exact hdis i j h1 h2 hne
  · obtain ⟨h1, _⟩ := hlk i o hi
    exact ⟨hnof i h1 b hb, .inr ⟨i, h1, hb⟩⟩
  · have := (hD i).1 hi; omega
theorem row_to {F : Nat → Prop} {w : World} {v : Value} {l : List Int} {xs : List Value} (h : w.ownsRow 0 2 1 v l.length xs) (hr : Reps F w (.int .i64) l xs) : K.RI w 0 (fun _ => True) v l := by
  refine ⟨fun _ _ => trivial, xs, h, by have := hr.length; show xs.length = l.length * 1; simpa [Kn.cells] using this, fun j p hj => ?_⟩
  obtain ⟨hjl, rfl⟩ := List.getElem?_eq_some_iff.1 hj
  obtain ⟨c, h1, h2, h3⟩ := hr.get j hjl
  have hc : c = [.int .i64 l[j]] := h1.1
  have h4 := h3 0 (by simp [Kn.cells])
  simp only [Kn.cells, Nat.mul_one, Nat.add_zero, hc, List.getElem?_cons_zero] at h4
  obtain ⟨h5, h6⟩ := List.getElem?_eq_some_iff.1 h4
  show ((xs.drop (j * 1)).take 1) = [_]
  rw [Nat.mul_one, List.drop_eq_getElem_cons h5, List.take_succ_cons, h6]
  rfl
end Go.Proofs.Ytbnmjhcokdhjmaa.V

set_option linter.unusedVariables false
set_option linter.unusedSimpArgs false
namespace Go.Proofs.Ytbnmjhcokdhjmaa.V
open Go Go.RowKit Go.Proofs.YtbnmjhcokdhjmaaW.PrintWords Go.Proofs.YtbnmjhcokdhjmaaW.PrintLast Go.Proofs.YtbnmjhcokdhjmaaW.PrintMore
theorem min64 : IntKind.i64.min = -9223372036854775808 := by decide +kernel
theorem max64 : IntKind.i64.max = 9223372036854775807 := by decide +kernel
abbrev EW (w : World) : Env := E00 w (fun b => b < w.heap.size)
/-- A row that came in. -/
theorem row_in {P : Program} {w : World} {a : Option Addr} {len cap : Nat} {zs : List Int}
    (h : (a = none ∧ len = 0 ∧ cap = 0 ∧ zs = []) ∨ ∃ x, a = some x ∧ len ≤ cap ∧ cap ≤ maxLen ∧ zs.length = cap ∧ (∀ i, i < zs.length → w.cell? (x.add i) = some (.int .i64 (zs.getD i 0))) ∧ ∀ n ∈ zs, (Lit.int .i64 n).wf = true) :
    ∃ l : List Int, AV P (EW w) (.ro (.int .i64) l) (.slice a len cap) := by
  rcases h with ⟨rfl, rfl, rfl, rfl⟩ | ⟨x, rfl, h1, h2, h3, h4, h5⟩
  · exact ⟨[], none, 0, rfl, Nat.le_refl _, Nat.zero_le _, fun j hj => absurd hj (by simp)⟩
  · have hl : (zs.take len).length = len := by rw [List.length_take]; omega
    refine ⟨zs.take len, some x, cap, by rw [hl], by rw [hl]; exact h1, by rw [hl]; omega, fun j hj => ?_⟩
    rw [hl] at hj
    have hc := h4 j (by omega)
    have hz : zs.getD j 0 = zs[j] := by rw [List.getD_eq_getElem?_getD, List.getElem?_eq_getElem (by omega)]; rfl
    have hs : x.spot = none := by
      have hc := h4 0 (by omega)
      rw [Addr.add, if_pos (by rfl)] at hc
      unfold World.cell? at hc
      split at hc
      · split at hc
        · cases hc
        · rename_i hs
          cases he : x.spot with
          | none => rfl
          | some y => exact absurd (by rw [he]; rfl) hs
      · cases hc
    obtain ⟨xb, xo, xs⟩ := x
    obtain rfl : xs = none := hs
    rw [Addr.add_lit] at hc
    refine ⟨xb, xo, [.int .i64 zs[j]], rfl, World.block_lt_of_cell? w _ hc, ⟨by rw [List.getElem_take], ?_⟩, rfl, fun i hi => ?_⟩
    · rw [List.getElem_take]
      have := h5 zs[j] (List.getElem_mem _)
      simp only [Lit.wf, min64, max64, Bool.and_eq_true, decide_eq_true_eq] at this
      exact this
    · have hi : i = 0 := by simpa using hi
      subst hi
      rw [hz] at hc
      show w.cell? ⟨xb, xo + (j * 1 + 0), none⟩ = _
      rw [Nat.mul_one, Nat.add_zero]
      exact hc
theorem cv_one {P : Program} {w : World} {a : A} {A : Option Addr} {n c : Nat} (h : AV P (EW w) a (.slice A n c)) : CV P (EW w) (.one a) (.slice A n c) := ⟨h, rfl⟩
theorem cv_g {P : Program} {w : World} {a b c : A} {A1 A2 A3 : Option Addr} {n1 n2 n3 c1 c2 c3 : Nat} (h1 : AV P (EW w) a (.slice A1 n1 c1)) (h2 : AV P (EW w) b (.slice A2 n2 c2)) (h3 : AV P (EW w) c (.slice A3 n3 c3)) :
    CV P (EW w) (.agg [a, b, c]) (.agg #[.slice A1 n1 c1, .slice A2 n2 c2, .slice A3 n3 c3]) :=
  ⟨_, rfl, ⟨h1, h2, h3, trivial⟩, fun x hx => by simp only [List.mem_cons, List.not_mem_nil, or_false] at hx; rcases hx with rfl | rfl | rfl <;> rfl⟩
theorem cv_i {P : Program} {w : World} {n : Int} (h : (Lit.int .i64 n).wf = true) : CV P (EW w) (.one (.v (.int .i64 n))) (.int .i64 n) := by
  refine ⟨⟨rfl, ?_⟩, rfl⟩
  simp only [Lit.wf, min64, max64, Bool.and_eq_true, decide_eq_true_eq] at h
  exact h
/-- What a law's contract tells of a call. -/
theorem law_of {P : Program} {f : FuncId} {sp : List Cv → List Obj' → Tree} (hg : Good P f sp) (w : World) (cs : List Cv) (vs : List Value) (ha : All2 (CV P (EW w)) cs vs) (hsp : sp cs [] = .ret (vb true) []) :
    Calls P f vs.toArray w fun e w' => e = .returned (.bool true) ∧ Below w.heap.size w w' := by
  refine (hg (EW w) cs [] vs (fun r os => r = vb true) (fun _ h => h) (fun j => by simp) (by simp) (fun j h => absurd h (by simp)) (fun i j h => absurd h (by simp)) (fun j h => absurd h (by simp)) ha (by rw [hsp]; rfl)).mono ?_
  rintro e w' ⟨r, u, os, E, rfl, rfl, _, rfl, hI, hr⟩
  obtain ⟨⟨rfl, _⟩, _⟩ := hr
  exact ⟨rfl, ⟨hI.os, hI.tape, hI.output, hI.size, fun k hk => hI.frm k hk (fun ⟨j, hj, _⟩ => absurd hj (by simp))⟩⟩
end Go.Proofs.Ytbnmjhcokdhjmaa.V
