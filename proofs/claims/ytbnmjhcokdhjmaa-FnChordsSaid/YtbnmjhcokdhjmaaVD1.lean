/- Contracts: slices.DeleteFunc, the word of some chords. Conditions: told by each spec. -/
import Derived.Test.YtbnmjhcokdhjmaaVW2
import Derived.Test.YtbnmjhcokdhjmaaKDelete
set_option linter.unusedVariables false
set_option linter.unusedSimpArgs false
namespace Go.Proofs.Ytbnmjhcokdhjmaa.V
open Go Go.RowKit Go.Proofs.YtbnmjhcokdhjmaaW.PrintWords Go.Proofs.YtbnmjhcokdhjmaaW.PrintLast Go.Proofs.YtbnmjhcokdhjmaaW.PrintMore
def sp_delete : List Cv → List Obj' → Tree
  | [.one (.own 0), .one (.pf [.int .i64] .bool f)], [.row 2 (.int .i64) l] => .need (l.length < 1099511627776 ∧ ∀ x ∈ (l : List Int), (f (x, ())).isSome = true) (.ret (ow 1) [.dead, rwi ((l : List Int).filter fun x => !tst f x)])
  | _, _ => .fail
theorem pf_runs {F : Nat → Prop} {w w1 : World} {f : HT [Kn.int .i64] → Option Kn.bool.T} {u : Value} {row : Option Nat} (h : PFun Try.prog F w [.int .i64] .bool f u) (hF : ∀ b, F b → b < w.heap.size) (hg : w.grownBy w1 row) (hr : ∀ b, row = some b → ¬ F b) {x : Int} (hx : okI .i64 x) (hs : (f (x, ())).isSome = true) :
    K.Runs Try.prog u #[.int .i64 x] w1 fun e w2 => e = .returned (.bool (tst f x)) ∧ Below w1.heap.size w1 w2 := by
  obtain ⟨y, hy⟩ := Option.isSome_iff_exists.1 hs
  have ht : tst f x = y := by unfold tst; rw [hy]; rfl
  obtain ⟨g, first, cap, e1, ⟨fn, f1, f2, f3⟩, e3⟩ := h w1 F (fun b hb => hg.block b (hF b hb) (fun e => hr b e.symm hb)) (fun _ h => h) (fun b hb => Nat.lt_of_lt_of_le (hF b hb) hg.size) (x, ()) y [.int .i64 x] ⟨_, _, rfl, ⟨⟨rfl, hx⟩, rfl⟩, rfl⟩ hy
  refine ⟨g, fn, first, cap, e1, f1, f2, f3, e3.mono ?_⟩
  rintro e w2 ⟨v, F'', rfl, ⟨k1, k2⟩, k3, _, _⟩
  have hv : v = .bool y := by
    have k1 : v.cells.toList = [.bool y] := k1
    have k2 : v.oneCell' = true := k2
    cases v <;> simp [Value.cells, Value.oneCell'] at k1 k2 ⊢ <;> exact k1
  rw [hv, ht]
  exact ⟨rfl, k3.os, k3.tape, k3.output, k3.size, fun k hk => k3.block k hk (fun h => by cases h)⟩
theorem good_delete : Good Try.prog 117 sp_delete := by
  intro E0 cs os0 vs Kc hF hD h16 hO hdis hnof ha hK
  have hI := Inv.enter hF hD h16 hO hdis hnof
  unfold sp_delete at hK
  split at hK
  case h_2 => exact hK.elim
  rename_i f l
  obtain ⟨u1, u2, rfl, hu1, hu2⟩ := two_args ha
  obtain ⟨⟨hD0, rfl⟩, hone⟩ := hu1
  obtain ⟨⟨h1, h2⟩, hK⟩ := hK
  obtain ⟨⟨xs, k1, k2, k3, k4⟩, _⟩ := hO 0 (by simp)
  have hRI := row_to k1 k2
  obtain ⟨A, c, e⟩ : ∃ A c, E0.σ 0 = .slice A l.length c := by
    obtain ⟨ad, c, e, _⟩ := own_cells k1
    exact ⟨ad, c, e⟩
  have hPF : PFun Try.prog E0.F E0.w [.int .i64] .bool f u2 := hu2.1
  have hls : ∀ x ∈ l, okI .i64 x := okReps_of k2
  have hob : ∀ b, (Value.slice A l.length c).ownBlock = some b → E0.φ 0 b := fun b hb => by
    rw [k4, e]
    cases A with
    | none => simp [Value.ownBlock] at hb
    | some a => simpa [Value.ownBlock, blkOf] using hb
  rw [e] at hRI
  have hcall := K.c_deleteAny E0.w 0 (fun _ => True) A c l u2 (tst f) hRI h1 (fun x hx w1 hg => pf_runs hPF hF hg (fun b hb => hnof 0 (by simp) b (hob b hb)) (hls x hx) (h2 x hx))
  rw [← e] at hcall
  refine hcall.mono ?_
  rintro e' w' ⟨n, rfl, hR, hg⟩
  have hrr : ∀ x ∈ (l : List Int).filter (fun x => !tst f x), okI .i64 x := fun x hx => hls x (List.mem_filter.1 hx).1
  obtain ⟨ys, q1, q2, q3, q4, q5⟩ := row_of hR hrr E0.F
  have hbl : blkOf (.slice A n c) = blkOf (.slice A l.length c) := by cases A <;> rfl
  obtain ⟨E', m1, m2, m3, m4, m5⟩ := hI.move (i := 0) (d := 1) (w' := w') (o := .row 2 (.int .i64) l) rfl rfl rfl (fun h => by have := (hD 1).1 h; simp at this) (by rw [e] at hg; exact hg) (fun b hb => hob b hb) (.slice A n c) (fun b => blkOf (.slice A n c) = some b) (fun _ => undef) (.row 2 (.int .i64) ((l : List Int).filter fun x => !tst f x)) (fun b hb => .inl (by
      rw [k4, e, ← hbl]; exact hb)) (fun E' hle hw' => ⟨ys, by rw [hw']; exact q1, q2.imp (fun _ _ h => Rep.flat rfl h), q3, fun _ => Iff.rfl⟩)
  exact ⟨_, _, _, E', rfl, hK, by simp, m1, m3.congr (fun j => by
    simp only [numb]
    by_cases e0 : 0 = j
    · subst e0; rfl
    · by_cases e1 : 1 = j
      · subst e1; rfl
      · simp only [lk_ne _ _ e0, lk_ne _ _ e1]), ⟨⟨m4, m5.symm⟩, q5⟩⟩
def c_delete : Ctr Try.prog := ⟨117, ent Try.func117 rfl rfl, [true], sp_delete, good_delete, []⟩
@[go_sem] theorem c_delete_f : c_delete.f = 117 := rfl
@[go_sem] theorem c_delete_ms : c_delete.ms = [true] := rfl
@[go_sem] theorem c_delete_sp : c_delete.spec = sp_delete := rfl
@[go_sem] theorem c_delete_fz : c_delete.fz = [] := rfl
attribute [go_sem] sp_delete
/-! ### the word of some chords -/
def sp_wo1 : List Cv → List Obj' → Tree
  | [.one (.v (.int .i64 x)), .one (.pp [.int .i64] .bool f)], [] => .need ((f (x, ())).isSome = true) (.ret (vb (!tst f x)) [])
  | _, _ => .fail
set_option maxHeartbeats 4000000 in
set_option maxRecDepth 100000 in
theorem good_wo1 : Good Try.prog 118 sp_wo1 := by
  refine good_ofF Try.func118 rfl _ rfl _ rfl (tab []) (fun X cs os0 K hok hos hK => ?_)
  clear hos; unfold sp_wo1 at hK
  split at hK
  case h_2 => exact hK.elim
  rename_i x f
  refine ⟨by simp, by simp, ?_⟩
  simp only [go_sem] at hK hok
  simp (maxSteps := 4000000) only [go_sem, Try.f118, ↓brB_t, ↓brB_f, Nat.reduceAdd, Int.reduceLE, Int.reduceLT, Int.reduceNeg, decide_true, decide_false, Bool.and_self, Nat.succ_eq_add_one, Int.toNat_natCast, Nat.beq_refl, Bool.and_true, Bool.true_and, Bool.false_or, Bool.or_true, List.all_cons, List.all_nil, Nat.reduceMul, Nat.add_zero, Nat.zero_add, List.length_nil, List.length_cons, dite_true, List.nil_append, Nat.reduceBEq, reduceDIte, reduceIte, reduceCtorEq, Bool.or_false, Bool.true_or, Bool.and_false, Bool.false_and, Bool.not_true, Bool.not_false, Option.isSome_some, Option.isSome_none, Option.getD_some, List.getElem?_cons_zero, List.getElem?_cons_succ, eq_self, and_self, List.take_succ_cons, List.take_zero, List.drop_succ_cons, List.drop_zero]
  exact ⟨hK.1, ret0 hK.2⟩
def woF (ys : HC [.p [.int .i64] .bool]) (xs : HT [Kn.int .i64]) : Option Bool := (ys.1 xs).map (!·)
def p_wo : PFn Try.prog := ⟨118, entB Try.func118 rfl rfl, [.p [.int .i64] .bool], [.int .i64], .bool, woF, sp_wo1, good_wo1, fun ys xs y h K hK => by
  unfold woF at h
  obtain ⟨z, hz, rfl⟩ := Option.map_eq_some_iff.1 h
  have ht : tst ys.1 xs.1 = z := by
    unfold tst
    have hz : ys.1 (xs.1, ()) = some z := hz
    rw [hz]; rfl
  refine ⟨?_, ?_⟩
  · have hz : ys.1 (xs.1, ()) = some z := hz
    rw [hz]; rfl
  · rw [ht]; exact hK⟩
@[go_sem] theorem p_wo_f : p_wo.f = 118 := rfl
@[go_sem] theorem p_wo_caps (args : List Rv) : (capsM p_wo.cks args fun ys => .ret (.val (.one (.pf p_wo.ks p_wo.r (p_wo.g ys))))) = capsM [.p [.int .i64] .bool] args fun ys => .ret (.val (.one (.pf [.int .i64] .bool (woF ys)))) := rfl
theorem wo_some {f : Tst} {x : Int} (h : (f (x, ())).isSome = true) : (woF (f, ()) (x, ())).isSome = true := by
  unfold woF; rw [Option.isSome_map]; exact h
theorem wo_tst {f : Tst} {x : Int} (h : (f (x, ())).isSome = true) : tst (woF (f, ())) x = !tst f x := by
  obtain ⟨y, hy⟩ := Option.isSome_iff_exists.1 h
  unfold tst woF
  show (Option.map (fun x => !x) (f (x, ()))).getD false = _
  rw [hy]; rfl
theorem wo_filter {f : Tst} {l : List Int} (h : ∀ x ∈ l, (f (x, ())).isSome = true) : (l.filter fun x => !tst (woF (f, ())) x) = l.filter (tst f) :=
  List.filter_congr fun x hx => by rw [wo_tst (h x hx), Bool.not_not]
def sp_wordOf : List Cv → List Obj' → Tree
  | [.one (.ro (.int .i64) w), .one (.pf [.int .i64] .bool f)], [] => .need (w.length < 1099511627776 ∧ ∀ x ∈ (w : List Int), (f (x, ())).isSome = true) (.ret (ow 0) [rwi (Go.Proofs.Ytbnmjhcokdhjmaa.K.normalL ((w : List Int).filter (tst f)))])
  | _, _ => .fail
set_option maxHeartbeats 4000000 in
set_option maxRecDepth 100000 in
theorem good_wordOf : Good Try.prog 76 sp_wordOf := by
  refine good_ofF Try.func76 rfl _ rfl _ rfl (tab [c_clone, c_delete, c_normal] [] [p_wo]) (fun X cs os0 K hok hos hK => ?_)
  clear hos; unfold sp_wordOf at hK
  split at hK
  case h_2 => exact hK.elim
  rename_i w f
  refine ⟨by simp, by simp, ?_⟩
  simp only [go_sem] at hK hok
  simp (maxSteps := 4000000) only [go_sem, Try.f76, ↓brB_t, ↓brB_f, Nat.reduceAdd, Int.reduceLE, Int.reduceLT, Int.reduceNeg, decide_true, decide_false, Bool.and_self, Nat.succ_eq_add_one, Int.toNat_natCast, Nat.beq_refl, Bool.and_true, Bool.true_and, Bool.false_or, Bool.or_true, List.all_cons, List.all_nil, Nat.reduceMul, Nat.add_zero, Nat.zero_add, List.length_nil, List.length_cons, dite_true, List.nil_append, Nat.reduceBEq, reduceDIte, reduceIte, reduceCtorEq, Bool.or_false, Bool.true_or, Bool.and_false, Bool.false_and, Bool.not_true, Bool.not_false, Option.isSome_some, Option.isSome_none, Option.getD_some, List.getElem?_cons_zero, List.getElem?_cons_succ, eq_self, and_self, List.take_succ_cons, List.take_zero, List.drop_succ_cons, List.drop_zero]
  obtain ⟨⟨h1, h2⟩, hK⟩ := hK
  clear hok
  have hl := List.length_filter_le (fun x => !tst (woF (f, ())) x) (w : List Int)
  refine ⟨h1, ⟨h1, fun x hx => wo_some (h2 x hx)⟩, Nat.lt_of_le_of_lt hl h1, retN [160] rfl ?_⟩
  have e := wo_filter (l := (w : List Int)) h2
  show K (ow 0) [rwi (Go.Proofs.Ytbnmjhcokdhjmaa.K.normalL ((w : List Int).filter fun x => !tst (woF (f, ())) x))]
  rw [e]; exact hK
def c_wordOf : Ctr Try.prog := ⟨76, ent Try.func76 rfl rfl, [], sp_wordOf, good_wordOf, []⟩
@[go_sem] theorem c_wordOf_f : c_wordOf.f = 76 := rfl
@[go_sem] theorem c_wordOf_ms : c_wordOf.ms = [] := rfl
@[go_sem] theorem c_wordOf_sp : c_wordOf.spec = sp_wordOf := rfl
@[go_sem] theorem c_wordOf_fz : c_wordOf.fz = [] := rfl
attribute [go_sem] sp_wordOf
end Go.Proofs.Ytbnmjhcokdhjmaa.V
