/- Contracts: words drawn from a code. Conditions: told by each spec. -/
import Derived.Test.YtbnmjhcokdhjmaaVUB
set_option linter.unusedVariables false
set_option linter.unusedSimpArgs false
namespace Go.Proofs.Ytbnmjhcokdhjmaa.V
open Go
def sp_draw : List Cv → List Obj' → Tree
  | [.one (.ptr 0 0)], [.box t [.ro (.int .u8) code, .v (.int .i64 at'), .v (.int .u64 h)]] => .need (okC code ∧ (0 ≤ at' ∧ at' ≤ (code.length : Int))) (.any (fun y => isW y = true) fun y => .any (fun x => srcP (code : List Int).length x) fun x => .ret (.val (.one (.ro (.int .i64) y))) [.box t [.ro (.int .u8) code, .v (.int .i64 (x.getD 1 0)), .v (.int .u64 (x.getD 2 0))]])
  | _, _ => .fail
set_option maxHeartbeats 4000000 in
set_option maxRecDepth 100000 in
theorem good_draw : Good Try.prog 109 sp_draw := by
  refine good_ofF Try.func109 rfl _ rfl _ rfl (tab [c_pick, c_drawOf]) (fun X cs os0 K hok hos hK => ?_)
  unfold sp_draw at hK
  split at hK
  case h_2 => exact hK.elim
  rename_i t code a h
  refine ⟨by simp, by simp, ?_⟩
  simp only [go_sem] at hK hok hos
  simp (maxSteps := 4000000) only [go_sem, Try.f109, ↓brB_t, ↓brB_f, Nat.reduceAdd, Int.reduceLE, Int.reduceLT, Int.reduceNeg, decide_true, decide_false, Bool.and_self, Nat.succ_eq_add_one, Int.toNat_natCast, Nat.beq_refl, Bool.and_true, Bool.true_and, Bool.false_or, Bool.or_true, List.all_cons, List.all_nil, Nat.reduceMul, Nat.add_zero, Nat.zero_add, List.length_nil, List.length_cons, dite_true, List.nil_append, Nat.reduceBEq, reduceDIte, reduceIte, reduceCtorEq, Bool.or_false, Bool.true_or, Bool.and_false, Bool.false_and, Bool.not_true, Bool.not_false, Option.isSome_some, Option.isSome_none, Option.getD_some, List.getElem?_cons_zero, List.getElem?_cons_succ, eq_self, and_self, List.take_succ_cons, List.take_zero, List.drop_succ_cons, List.drop_zero]
  obtain ⟨⟨h1, h2⟩, hK⟩ := hK
  clear hok
  refine ⟨⟨h1, h2, by decide, by decide⟩, fun x hx => ⟨⟨h1, hx.2, ?_⟩, fun y hy z hz => retN [0] rfl (hK y hy z hz)⟩⟩
  have := hx.1
  simp only [List.mem_cons, List.not_mem_nil, or_false] at this
  omega
def c_draw : Ctr Try.prog := ⟨109, ent Try.func109 rfl rfl, [true], sp_draw, good_draw, []⟩
@[go_sem] theorem c_draw_f : c_draw.f = 109 := rfl
@[go_sem] theorem c_draw_ms : c_draw.ms = [true] := rfl
@[go_sem] theorem c_draw_sp : c_draw.spec = sp_draw := rfl
@[go_sem] theorem c_draw_fz : c_draw.fz = [] := rfl
attribute [go_sem] sp_draw
def sp_spoil : List Cv → List Obj' → Tree
  | [.one (.ptr 0 0)], [.box t [.ro (.int .u8) code, .v (.int .i64 at'), .v (.int .u64 h)]] => .need (okC code ∧ (0 ≤ at' ∧ at' ≤ (code.length : Int))) (.any (fun y => y.length ≤ 40) fun y => .any (fun x => srcP (code : List Int).length x) fun x => .ret (.val (.one (.ro (.int .i64) y))) [.box t [.ro (.int .u8) code, .v (.int .i64 (x.getD 1 0)), .v (.int .u64 (x.getD 2 0))]])
  | _, _ => .fail
set_option maxHeartbeats 4000000 in
set_option maxRecDepth 100000 in
theorem good_spoil : Good Try.prog 54 sp_spoil := by
  refine good_ofF Try.func54 rfl _ rfl _ rfl (tab [c_draw, c_bad]) (fun X cs os0 K hok hos hK => ?_)
  unfold sp_spoil at hK
  split at hK
  case h_2 => exact hK.elim
  rename_i t code a h
  refine ⟨by simp, by simp, ?_⟩
  simp only [go_sem] at hK hok hos
  simp (maxSteps := 4000000) only [go_sem, Try.f54, ↓brB_t, ↓brB_f, Nat.reduceAdd, Int.reduceLE, Int.reduceLT, Int.reduceNeg, decide_true, decide_false, Bool.and_self, Nat.succ_eq_add_one, Int.toNat_natCast, Nat.beq_refl, Bool.and_true, Bool.true_and, Bool.false_or, Bool.or_true, List.all_cons, List.all_nil, Nat.reduceMul, Nat.add_zero, Nat.zero_add, List.length_nil, List.length_cons, dite_true, List.nil_append, Nat.reduceBEq, reduceDIte, reduceIte, reduceCtorEq, Bool.or_false, Bool.true_or, Bool.and_false, Bool.false_and, Bool.not_true, Bool.not_false, Option.isSome_some, Option.isSome_none, Option.getD_some, List.getElem?_cons_zero, List.getElem?_cons_succ, eq_self, and_self, List.take_succ_cons, List.take_zero, List.drop_succ_cons, List.drop_zero]
  obtain ⟨⟨h1, h2⟩, hK⟩ := hK
  clear hok
  exact ⟨⟨h1, h2⟩, fun y hy x hx => ⟨⟨h1, hx, y_len hy⟩, fun z hz u hu => retN [0] rfl (hK z hz u hu)⟩⟩
def c_spoil : Ctr Try.prog := ⟨54, ent Try.func54 rfl rfl, [true], sp_spoil, good_spoil, []⟩
@[go_sem] theorem c_spoil_f : c_spoil.f = 54 := rfl
@[go_sem] theorem c_spoil_ms : c_spoil.ms = [true] := rfl
@[go_sem] theorem c_spoil_sp : c_spoil.spec = sp_spoil := rfl
@[go_sem] theorem c_spoil_fz : c_spoil.fz = [] := rfl
attribute [go_sem] sp_spoil
def sp_dAdd : List Cv → List Obj' → Tree
  | [.one (.ro (.int .u8) code)], [] => .need (okC code) (.any (fun y => y.length ≤ 40) fun y => .any (fun _ => True) fun x => .ret (.tup [.one (.ro (.int .i64) y), .one (.v (.int .i64 (x.getD 0 0))), .one (.v (.int .i64 (x.getD 1 0)))]) [])
  | _, _ => .fail
set_option maxHeartbeats 4000000 in
set_option maxRecDepth 100000 in
theorem good_dAdd : Good Try.prog 9 sp_dAdd := by
  refine good_ofF Try.func9 rfl _ rfl _ rfl (tab [c_from, c_spoil, c_near]) (fun X cs os0 K hok hos hK => ?_)
  clear hos; unfold sp_dAdd at hK
  split at hK
  case h_2 => exact hK.elim
  rename_i code
  refine ⟨by simp, by simp, ?_⟩
  simp only [go_sem] at hK hok
  simp (maxSteps := 4000000) only [go_sem, Try.f9, ↓brB_t, ↓brB_f, Nat.reduceAdd, Int.reduceLE, Int.reduceLT, Int.reduceNeg, decide_true, decide_false, Bool.and_self, Nat.succ_eq_add_one, Int.toNat_natCast, Nat.beq_refl, Bool.and_true, Bool.true_and, Bool.false_or, Bool.or_true, List.all_cons, List.all_nil, Nat.reduceMul, Nat.add_zero, Nat.zero_add, List.length_nil, List.length_cons, dite_true, List.nil_append, Nat.reduceBEq, reduceDIte, reduceIte, reduceCtorEq, Bool.or_false, Bool.true_or, Bool.and_false, Bool.false_and, Bool.not_true, Bool.not_false, Option.isSome_some, Option.isSome_none, Option.getD_some, List.getElem?_cons_zero, List.getElem?_cons_succ, eq_self, and_self, List.take_succ_cons, List.take_zero, List.drop_succ_cons, List.drop_zero]
  obtain ⟨h1, hK⟩ := hK
  clear hok
  refine ⟨h1, fun x _ => ⟨⟨h1, trivial, by omega⟩, fun y hy u hu => ⟨⟨h1, hu, by omega, by omega⟩, fun v hv => ⟨⟨h1, hv, ?_, ?_⟩, fun z hz => retN [] rfl (hK y hy [z.getD 0 0, v.getD 0 0] trivial)⟩⟩⟩⟩
  · unfold mn mx; split <;> split <;> omega
  · unfold mn mx; split <;> split <;> omega
def c_dAdd : Ctr Try.prog := ⟨9, ent Try.func9 rfl rfl, [], sp_dAdd, good_dAdd, []⟩
@[go_sem] theorem c_dAdd_f : c_dAdd.f = 9 := rfl
@[go_sem] theorem c_dAdd_ms : c_dAdd.ms = [] := rfl
@[go_sem] theorem c_dAdd_sp : c_dAdd.spec = sp_dAdd := rfl
@[go_sem] theorem c_dAdd_fz : c_dAdd.fz = [] := rfl
attribute [go_sem] sp_dAdd
def sp_dJoin : List Cv → List Obj' → Tree
  | [.one (.ro (.int .u8) code)], [] => .need (okC code) (.any (fun y => y.length ≤ 40) fun y => .any (fun z => z.length ≤ 40) fun z => .ret (.tup [.one (.ro (.int .i64) y), .one (.ro (.int .i64) z)]) [])
  | _, _ => .fail
set_option maxHeartbeats 4000000 in
set_option maxRecDepth 100000 in
theorem good_dJoin : Good Try.prog 14 sp_dJoin := by
  refine good_ofF Try.func14 rfl _ rfl _ rfl (tab [c_from, c_spoil, c_next, c_drawOf, c_bad]) (fun X cs os0 K hok hos hK => ?_)
  clear hos; unfold sp_dJoin at hK
  split at hK
  case h_2 => exact hK.elim
  rename_i code
  refine ⟨by simp, by simp, ?_⟩
  simp only [go_sem] at hK hok
  simp (maxSteps := 4000000) only [go_sem, Try.f14, ↓brB_t, ↓brB_f, Nat.reduceAdd, Int.reduceLE, Int.reduceLT, Int.reduceNeg, decide_true, decide_false, Bool.and_self, Nat.succ_eq_add_one, Int.toNat_natCast, Nat.beq_refl, Bool.and_true, Bool.true_and, Bool.false_or, Bool.or_true, List.all_cons, List.all_nil, Nat.reduceMul, Nat.add_zero, Nat.zero_add, List.length_nil, List.length_cons, dite_true, List.nil_append, Nat.reduceBEq, reduceDIte, reduceIte, reduceCtorEq, Bool.or_false, Bool.true_or, Bool.and_false, Bool.false_and, Bool.not_true, Bool.not_false, Option.isSome_some, Option.isSome_none, Option.getD_some, List.getElem?_cons_zero, List.getElem?_cons_succ, eq_self, and_self, List.take_succ_cons, List.take_zero, List.drop_succ_cons, List.drop_zero]
  obtain ⟨h1, hK⟩ := hK
  clear hok
  exact ⟨h1, fun x _ => ⟨⟨h1, trivial, by omega⟩, fun y hy u hu => ⟨⟨h1, hu⟩, fun v hv => ⟨⟨h1, hv.2, by have := hv.1.2.2 (by omega); omega⟩, fun a ha b hb => ⟨⟨h1, hb, y_len ha⟩, fun c hc e he => retN [] rfl (hK y hy c hc)⟩⟩⟩⟩⟩
def c_dJoin : Ctr Try.prog := ⟨14, ent Try.func14 rfl rfl, [], sp_dJoin, good_dJoin, []⟩
@[go_sem] theorem c_dJoin_f : c_dJoin.f = 14 := rfl
@[go_sem] theorem c_dJoin_ms : c_dJoin.ms = [] := rfl
@[go_sem] theorem c_dJoin_sp : c_dJoin.spec = sp_dJoin := rfl
@[go_sem] theorem c_dJoin_fz : c_dJoin.fz = [] := rfl
attribute [go_sem] sp_dJoin
def sp_dWoc : List Cv → List Obj' → Tree
  | [.one (.ro (.int .u8) code)], [] => .need (okC code) (.any (fun y => y.length ≤ 40) fun y => .any (fun z => z.length ≤ 40) fun z => .ret (.tup [.one (.ro (.int .i64) y), .one (.ro (.int .i64) z)]) [])
  | _, _ => .fail
set_option maxHeartbeats 4000000 in
set_option maxRecDepth 100000 in
theorem good_dWoc : Good Try.prog 18 sp_dWoc := by
  refine good_ofF Try.func18 rfl _ rfl _ rfl (tab [c_from, c_spoil, c_next, c_pick]) (fun X cs os0 K hok hos hK => ?_)
  clear hos; unfold sp_dWoc at hK
  split at hK
  case h_2 => exact hK.elim
  rename_i code
  refine ⟨by simp, by simp, ?_⟩
  simp only [go_sem] at hK hok
  simp (maxSteps := 4000000) only [go_sem, Try.f18, ↓brB_t, ↓brB_f, Nat.reduceAdd, Int.reduceLE, Int.reduceLT, Int.reduceNeg, decide_true, decide_false, Bool.and_self, Nat.succ_eq_add_one, Int.toNat_natCast, Nat.beq_refl, Bool.and_true, Bool.true_and, Bool.false_or, Bool.or_true, List.all_cons, List.all_nil, Nat.reduceMul, Nat.add_zero, Nat.zero_add, List.length_nil, List.length_cons, dite_true, List.nil_append, Nat.reduceBEq, reduceDIte, reduceIte, reduceCtorEq, Bool.or_false, Bool.true_or, Bool.and_false, Bool.false_and, Bool.not_true, Bool.not_false, Option.isSome_some, Option.isSome_none, Option.getD_some, List.getElem?_cons_zero, List.getElem?_cons_succ, eq_self, and_self, List.take_succ_cons, List.take_zero, List.drop_succ_cons, List.drop_zero]
  obtain ⟨h1, hK⟩ := hK
  clear hok
  refine ⟨h1, fun x _ => ⟨⟨h1, trivial, by omega⟩, fun y hy u hu => ?_⟩⟩
  have eh : w64 ((y.length : Int).tdiv 2) = ((y.length / 2 : Nat) : Int) := by
    rw [show (y.length : Int).tdiv 2 = ((y.length / 2 : Nat) : Int) from rfl]
    exact w64_id (by omega) (by omega)
  refine loop_okF (T := tab [c_from, c_spoil, c_next, c_pick]) [4, 5, 6, 7] [(16, 160), (17, 208)] (fun s : Nat × List Int × Int × Int => ⟨38, [(4, .val (.one (.ptr 16 0))), (5, ri y), (6, ow 17), (7, vi s.1)], [(16, oSrc code s.2.2.1 s.2.2.2), (17, rwi s.2.1)]⟩)
    (fun s => s.1 ≤ y.length / 2 ∧ s.2.1.length ≤ s.1 ∧ 0 ≤ s.2.2.1 ∧ s.2.2.1 ≤ ((code : List Int).length : Int)) (fun s => y.length / 2 - s.1) (0, [], u.getD 1 0, u.getD 2 0) rfl rfl ⟨Nat.zero_le _, Nat.le_refl _, hu⟩ (fun s hs => ?_)
  obtain ⟨i, out, a, h⟩ := s
  obtain ⟨hi, ho, ha⟩ := hs
  have hi : i ≤ y.length / 2 := hi
  have ho : out.length ≤ i := ho
  have ha : 0 ≤ a ∧ a ≤ ((code : List Int).length : Int) := ha
  simp only [go_sem, ↓brB_t, ↓brB_f, Nat.reduceAdd, Int.reduceLE, Int.reduceLT, Int.reduceNeg, decide_true, decide_false, Bool.and_self, Nat.succ_eq_add_one, Int.toNat_natCast, Nat.beq_refl, Bool.and_true, Bool.true_and, Bool.false_or, Bool.or_true, List.all_cons, List.all_nil, Nat.reduceMul, Nat.add_zero, Nat.zero_add, List.length_nil, List.length_cons, dite_true, List.nil_append, Nat.reduceBEq, reduceDIte, reduceIte, reduceCtorEq, Bool.or_false, Bool.true_or, Bool.and_false, Bool.false_and, Bool.not_true, Bool.not_false, Option.isSome_some, Option.isSome_none, Option.getD_some, List.getElem?_cons_zero, List.getElem?_cons_succ, eq_self, and_self, List.take_succ_cons, List.take_zero, List.drop_succ_cons, List.drop_zero]
  rw [eh]
  refine ⟨by decide, brB_intro (fun h2 => ?_) (fun h2 => ?_)⟩
  · have h2 := of_decide_eq_true h2
    rw [show w64 ((i : Int) + 1) = ((i + 1 : Nat) : Int) from w64_s (n := 40) (by omega) (by omega)]
    refine ⟨⟨h1, ha⟩, fun v hv => brB_intro (fun h3 => ?_) (fun h3 => ?_)⟩
    · exact ⟨by omega, (i + 1, out ++ [(i : Int)], v.getD 1 0, v.getD 2 0), [(16, 16), (17, 432)], ⟨by show i + 1 ≤ y.length / 2; omega, by show (out ++ [(i : Int)]).length ≤ i + 1; rw [List.length_append, List.length_singleton]; omega, hv.2⟩, by show y.length / 2 - (i + 1) < y.length / 2 - i; omega, rfl, rfl⟩
    · exact ⟨(i + 1, out, v.getD 1 0, v.getD 2 0), [(16, 16), (17, 17)], ⟨by show i + 1 ≤ y.length / 2; omega, by show out.length ≤ i + 1; omega, hv.2⟩, by show y.length / 2 - (i + 1) < y.length / 2 - i; omega, rfl, rfl⟩
  · refine ⟨⟨h1, ha⟩, fun v hv => brB_intro (fun h3 => ⟨⟨h1, hv.2, by decide, by decide⟩, fun z hz => ⟨by omega, retN [] rfl (hK y hy (out ++ [z.getD 0 0]) (by rw [List.length_append, List.length_singleton]; omega))⟩⟩) (fun h3 => retN [] rfl (hK y hy out (by omega)))⟩
def c_dWoc : Ctr Try.prog := ⟨18, ent Try.func18 rfl rfl, [], sp_dWoc, good_dWoc, []⟩
@[go_sem] theorem c_dWoc_f : c_dWoc.f = 18 := rfl
@[go_sem] theorem c_dWoc_ms : c_dWoc.ms = [] := rfl
@[go_sem] theorem c_dWoc_sp : c_dWoc.spec = sp_dWoc := rfl
@[go_sem] theorem c_dWoc_fz : c_dWoc.fz = [] := rfl
attribute [go_sem] sp_dWoc
def sp_dRows : List Cv → List Obj' → Tree
  | [.one (.ro (.int .u8) code)], [] => .need (okC code) (.any (fun y => y.length ≤ 40) fun y => .ret (.val (.one (.ro (.int .i64) y))) [])
  | _, _ => .fail
set_option maxHeartbeats 4000000 in
set_option maxRecDepth 100000 in
theorem good_dRows : Good Try.prog 21 sp_dRows := by
  refine good_ofF Try.func21 rfl _ rfl _ rfl (tab [c_from, c_spoil]) (fun X cs os0 K hok hos hK => ?_)
  clear hos; unfold sp_dRows at hK
  split at hK
  case h_2 => exact hK.elim
  rename_i code
  refine ⟨by simp, by simp, ?_⟩
  simp only [go_sem] at hK hok
  simp (maxSteps := 4000000) only [go_sem, Try.f21, ↓brB_t, ↓brB_f, Nat.reduceAdd, Int.reduceLE, Int.reduceLT, Int.reduceNeg, decide_true, decide_false, Bool.and_self, Nat.succ_eq_add_one, Int.toNat_natCast, Nat.beq_refl, Bool.and_true, Bool.true_and, Bool.false_or, Bool.or_true, List.all_cons, List.all_nil, Nat.reduceMul, Nat.add_zero, Nat.zero_add, List.length_nil, List.length_cons, dite_true, List.nil_append, Nat.reduceBEq, reduceDIte, reduceIte, reduceCtorEq, Bool.or_false, Bool.true_or, Bool.and_false, Bool.false_and, Bool.not_true, Bool.not_false, Option.isSome_some, Option.isSome_none, Option.getD_some, List.getElem?_cons_zero, List.getElem?_cons_succ, eq_self, and_self, List.take_succ_cons, List.take_zero, List.drop_succ_cons, List.drop_zero]
  obtain ⟨h1, hK⟩ := hK
  clear hok
  exact ⟨h1, fun x _ => ⟨⟨h1, trivial, by omega⟩, fun y hy u hu => retN [] rfl (hK y hy)⟩⟩
def c_dRows : Ctr Try.prog := ⟨21, ent Try.func21 rfl rfl, [], sp_dRows, good_dRows, []⟩
@[go_sem] theorem c_dRows_f : c_dRows.f = 21 := rfl
@[go_sem] theorem c_dRows_ms : c_dRows.ms = [] := rfl
@[go_sem] theorem c_dRows_sp : c_dRows.spec = sp_dRows := rfl
@[go_sem] theorem c_dRows_fz : c_dRows.fz = [] := rfl
attribute [go_sem] sp_dRows
def sp_dDel : List Cv → List Obj' → Tree
  | [.one (.ro (.int .u8) code)], [] => .need (okC code) (.any (fun y => y.length ≤ 40) fun y => .any (fun _ => True) fun x => .ret (.tup [.one (.ro (.int .i64) y), .one (.v (.int .i64 (x.getD 0 0)))]) [])
  | _, _ => .fail
set_option maxHeartbeats 4000000 in
set_option maxRecDepth 100000 in
theorem good_dDel : Good Try.prog 26 sp_dDel := by
  refine good_ofF Try.func26 rfl _ rfl _ rfl (tab [c_from, c_spoil, c_near]) (fun X cs os0 K hok hos hK => ?_)
  clear hos; unfold sp_dDel at hK
  split at hK
  case h_2 => exact hK.elim
  rename_i code
  refine ⟨by simp, by simp, ?_⟩
  simp only [go_sem] at hK hok
  simp (maxSteps := 4000000) only [go_sem, Try.f26, ↓brB_t, ↓brB_f, Nat.reduceAdd, Int.reduceLE, Int.reduceLT, Int.reduceNeg, decide_true, decide_false, Bool.and_self, Nat.succ_eq_add_one, Int.toNat_natCast, Nat.beq_refl, Bool.and_true, Bool.true_and, Bool.false_or, Bool.or_true, List.all_cons, List.all_nil, Nat.reduceMul, Nat.add_zero, Nat.zero_add, List.length_nil, List.length_cons, dite_true, List.nil_append, Nat.reduceBEq, reduceDIte, reduceIte, reduceCtorEq, Bool.or_false, Bool.true_or, Bool.and_false, Bool.false_and, Bool.not_true, Bool.not_false, Option.isSome_some, Option.isSome_none, Option.getD_some, List.getElem?_cons_zero, List.getElem?_cons_succ, eq_self, and_self, List.take_succ_cons, List.take_zero, List.drop_succ_cons, List.drop_zero]
  obtain ⟨h1, hK⟩ := hK
  clear hok
  refine ⟨h1, fun x _ => ⟨⟨h1, trivial, by omega⟩, fun y hy u hu => ⟨by decide, ⟨h1, hu, ?_, ?_⟩, fun z hz => retN [] rfl (hK y hy z trivial)⟩⟩⟩ <;>
    (rw [Int.tdiv_eq_ediv_of_nonneg (by omega), w64_id (x := (y.length : Int) / 2) (by omega) (by omega), w64_id (by omega) (by omega)]; unfold mx; split <;> omega)
def c_dDel : Ctr Try.prog := ⟨26, ent Try.func26 rfl rfl, [], sp_dDel, good_dDel, []⟩
@[go_sem] theorem c_dDel_f : c_dDel.f = 26 := rfl
@[go_sem] theorem c_dDel_ms : c_dDel.ms = [] := rfl
@[go_sem] theorem c_dDel_sp : c_dDel.spec = sp_dDel := rfl
@[go_sem] theorem c_dDel_fz : c_dDel.fz = [] := rfl
attribute [go_sem] sp_dDel
def sp_dPo : List Cv → List Obj' → Tree
  | [.one (.ro (.int .u8) code)], [] => .need (okC code) (.any (fun y => y.length ≤ 40) fun y => .any (fun _ => True) fun x => .ret (.tup [.one (.ro (.int .i64) y), .one (.v (.int .i64 (x.getD 0 0)))]) [])
  | _, _ => .fail
set_option maxHeartbeats 4000000 in
set_option maxRecDepth 100000 in
theorem good_dPo : Good Try.prog 28 sp_dPo := by
  refine good_ofF Try.func28 rfl _ rfl _ rfl (tab [c_from, c_spoil, c_near]) (fun X cs os0 K hok hos hK => ?_)
  clear hos; unfold sp_dPo at hK
  split at hK
  case h_2 => exact hK.elim
  rename_i code
  refine ⟨by simp, by simp, ?_⟩
  simp only [go_sem] at hK hok
  simp (maxSteps := 4000000) only [go_sem, Try.f28, ↓brB_t, ↓brB_f, Nat.reduceAdd, Int.reduceLE, Int.reduceLT, Int.reduceNeg, decide_true, decide_false, Bool.and_self, Nat.succ_eq_add_one, Int.toNat_natCast, Nat.beq_refl, Bool.and_true, Bool.true_and, Bool.false_or, Bool.or_true, List.all_cons, List.all_nil, Nat.reduceMul, Nat.add_zero, Nat.zero_add, List.length_nil, List.length_cons, dite_true, List.nil_append, Nat.reduceBEq, reduceDIte, reduceIte, reduceCtorEq, Bool.or_false, Bool.true_or, Bool.and_false, Bool.false_and, Bool.not_true, Bool.not_false, Option.isSome_some, Option.isSome_none, Option.getD_some, List.getElem?_cons_zero, List.getElem?_cons_succ, eq_self, and_self, List.take_succ_cons, List.take_zero, List.drop_succ_cons, List.drop_zero]
  obtain ⟨h1, hK⟩ := hK
  clear hok
  refine ⟨h1, fun x _ => ⟨⟨h1, trivial, by omega⟩, fun y hy u hu => ⟨by decide, ⟨h1, hu, ?_, ?_⟩, fun z hz => retN [] rfl (hK y hy z trivial)⟩⟩⟩ <;>
    (rw [Int.tdiv_eq_ediv_of_nonneg (by omega), w64_id (x := (y.length : Int) / 2) (by omega) (by omega), w64_id (by omega) (by omega)]; unfold mx; split <;> omega)
def c_dPo : Ctr Try.prog := ⟨28, ent Try.func28 rfl rfl, [], sp_dPo, good_dPo, []⟩
@[go_sem] theorem c_dPo_f : c_dPo.f = 28 := rfl
@[go_sem] theorem c_dPo_ms : c_dPo.ms = [] := rfl
@[go_sem] theorem c_dPo_sp : c_dPo.spec = sp_dPo := rfl
@[go_sem] theorem c_dPo_fz : c_dPo.fz = [] := rfl
attribute [go_sem] sp_dPo
def sp_dNw : List Cv → List Obj' → Tree
  | [.one (.ro (.int .u8) code)], [] => .need (okC code) (.any (fun y => y.length ≤ 40) fun y => .ret (.val (.one (.ro (.int .i64) y))) [])
  | _, _ => .fail
set_option maxHeartbeats 4000000 in
set_option maxRecDepth 100000 in
theorem good_dNw : Good Try.prog 31 sp_dNw := by
  refine good_ofF Try.func31 rfl _ rfl _ rfl (tab [c_from, c_spoil, c_own, c_pick]) (fun X cs os0 K hok hos hK => ?_)
  clear hos; unfold sp_dNw at hK
  split at hK
  case h_2 => exact hK.elim
  rename_i code
  refine ⟨by simp, by simp, ?_⟩
  simp only [go_sem] at hK hok
  simp (maxSteps := 4000000) only [go_sem, Try.f31, ↓brB_t, ↓brB_f, Nat.reduceAdd, Int.reduceLE, Int.reduceLT, Int.reduceNeg, decide_true, decide_false, Bool.and_self, Nat.succ_eq_add_one, Int.toNat_natCast, Nat.beq_refl, Bool.and_true, Bool.true_and, Bool.false_or, Bool.or_true, List.all_cons, List.all_nil, Nat.reduceMul, Nat.add_zero, Nat.zero_add, List.length_nil, List.length_cons, dite_true, List.nil_append, Nat.reduceBEq, reduceDIte, reduceIte, reduceCtorEq, Bool.or_false, Bool.true_or, Bool.and_false, Bool.false_and, Bool.not_true, Bool.not_false, Option.isSome_some, Option.isSome_none, Option.getD_some, List.getElem?_cons_zero, List.getElem?_cons_succ, eq_self, and_self, List.take_succ_cons, List.take_zero, List.drop_succ_cons, List.drop_zero]
  obtain ⟨h1, hK⟩ := hK
  clear hok
  refine ⟨h1, fun x _ => ⟨⟨h1, trivial, by omega⟩, fun y hy u hu => ⟨by omega, ⟨h1, hu, by decide, by decide⟩, fun v hv => ?_⟩⟩⟩
  refine loop_okF (T := tab [c_from, c_spoil, c_own, c_pick]) [4, 5, 6] [(16, 192)] (fun s : Nat × List Int => ⟨32, [(4, ow 16), (5, vi (v.getD 0 0)), (6, vi s.1)], [(16, rwi s.2)]⟩)
    (fun s => s.1 ≤ y.length ∧ s.2.length = y.length) (fun s => y.length - s.1) (0, y) rfl rfl ⟨Nat.zero_le _, rfl⟩ (fun s hs => ?_)
  obtain ⟨i, l⟩ := s
  obtain ⟨hi, hl⟩ := hs
  have hi : i ≤ y.length := hi
  have hl : l.length = y.length := hl
  simp only [go_sem, ↓brB_t, ↓brB_f, Nat.reduceAdd, Int.reduceLE, Int.reduceLT, Int.reduceNeg, decide_true, decide_false, Bool.and_self, Nat.succ_eq_add_one, Int.toNat_natCast, Nat.beq_refl, Bool.and_true, Bool.true_and, Bool.false_or, Bool.or_true, List.all_cons, List.all_nil, Nat.reduceMul, Nat.add_zero, Nat.zero_add, List.length_nil, List.length_cons, dite_true, List.nil_append, Nat.reduceBEq, reduceDIte, reduceIte, reduceCtorEq, Bool.or_false, Bool.true_or, Bool.and_false, Bool.false_and, Bool.not_true, Bool.not_false, Option.isSome_some, Option.isSome_none, Option.getD_some, List.getElem?_cons_zero, List.getElem?_cons_succ, eq_self, and_self, List.take_succ_cons, List.take_zero, List.drop_succ_cons, List.drop_zero]
  refine brB_intro (fun h2 => ?_) (fun h2 => retN [] rfl (hK l (by omega)))
  have h2 := of_decide_eq_true h2
  rw [show w64 ((i : Int) + 1) = ((i + 1 : Nat) : Int) from w64_s (n := 40) (by omega) (by omega)]
  exact ⟨⟨by omega, by omega⟩, ⟨by omega, by omega⟩, (i + 1, l.set i (w64 (5 - w64 (v.getD 0 0 * l.getD i 0)))), [(16, 16)], ⟨by show i + 1 ≤ y.length; omega, by show (l.set i _).length = y.length; rw [List.length_set]; exact hl⟩, by show y.length - (i + 1) < y.length - i; omega, rfl, rfl⟩
def c_dNw : Ctr Try.prog := ⟨31, ent Try.func31 rfl rfl, [], sp_dNw, good_dNw, []⟩
@[go_sem] theorem c_dNw_f : c_dNw.f = 31 := rfl
@[go_sem] theorem c_dNw_ms : c_dNw.ms = [] := rfl
@[go_sem] theorem c_dNw_sp : c_dNw.spec = sp_dNw := rfl
@[go_sem] theorem c_dNw_fz : c_dNw.fz = [] := rfl
attribute [go_sem] sp_dNw
end Go.Proofs.Ytbnmjhcokdhjmaa.V
