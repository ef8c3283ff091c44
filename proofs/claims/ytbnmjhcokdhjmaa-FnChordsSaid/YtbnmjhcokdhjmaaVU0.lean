/- Contracts: numbers drawn from a code. Conditions: told by each spec. -/
import Derived.Test.YtbnmjhcokdhjmaaVXA
import Derived.Test.YtbnmjhcokdhjmaaVJW
set_option linter.unusedVariables false
set_option linter.unusedSimpArgs false
namespace Go.Proofs.Ytbnmjhcokdhjmaa.V
open Go
abbrev tSrc : TypeId := 85
/-- What numbers are drawn from. -/
abbrev oSrc (code : List Int) (at' h : Int) : Obj' := .box tSrc [.ro (.int .u8) code, .v (.int .i64 at'), .v (.int .u64 h)]
/-- A number that is drawn, and the place and the sum from then on. -/
def nextP (n : Int) (m : Nat) (x : List Int) : Prop := (0 ≤ x.getD 0 0 ∧ (n ≤ 0 → x.getD 0 0 = 0) ∧ (0 < n → x.getD 0 0 < n)) ∧ 0 ≤ x.getD 1 0 ∧ x.getD 1 0 ≤ m
/-- A code that is not too long. -/
def okC (code : List Int) : Prop := code.length ≤ 4096 ∧ ∀ x ∈ code, 0 ≤ x ∧ x ≤ 255
def srcP (m : Nat) (x : List Int) : Prop := 0 ≤ x.getD 1 0 ∧ x.getD 1 0 ≤ m
def sp_from : List Cv → List Obj' → Tree
  | [.one (.ro (.int .u8) code)], [] => .need (okC code) (.any (fun _ => True) fun x => .ret (.val (.one (.ptr 0 0))) [oSrc code 0 (x.getD 2 0)])
  | _, _ => .fail
set_option maxHeartbeats 4000000 in
set_option maxRecDepth 100000 in
theorem good_from : Good Try.prog 53 sp_from := by
  refine good_ofF Try.func53 rfl _ rfl _ rfl (tab []) (fun X cs os0 K hok hos hK => ?_)
  clear hos; unfold sp_from at hK
  split at hK
  case h_2 => exact hK.elim
  rename_i code
  refine ⟨by simp, by simp, ?_⟩
  simp only [go_sem] at hK hok
  simp (maxSteps := 4000000) only [go_sem, Try.f53, ↓brB_t, ↓brB_f, Nat.reduceAdd, Int.reduceLE, Int.reduceLT, Int.reduceNeg, decide_true, decide_false, Bool.and_self, Nat.succ_eq_add_one, Int.toNat_natCast, Nat.beq_refl, Bool.and_true, Bool.true_and, Bool.false_or, Bool.or_true, List.all_cons, List.all_nil, Nat.reduceMul, Nat.add_zero, Nat.zero_add, List.length_nil, List.length_cons, dite_true, List.nil_append, Nat.reduceBEq, reduceDIte, reduceIte, reduceCtorEq, Bool.or_false, Bool.true_or, Bool.and_false, Bool.false_and, Bool.not_true, Bool.not_false, Option.isSome_some, Option.isSome_none, Option.getD_some, List.getElem?_cons_zero, List.getElem?_cons_succ, eq_self, and_self, List.take_succ_cons, List.take_zero, List.drop_succ_cons, List.drop_zero]
  obtain ⟨h1, hK⟩ := hK
  clear hok
  have h1 := h1.1
  refine loop_okF (T := tab []) [0, 3, 4] [(16, 192)] (fun x : Nat × Int => ⟨38, [(0, .val (.one (.ro (.int .u8) code))), (3, .val (.one (.ptr 16 0))), (4, vi x.1)], [(16, oSrc code 0 x.2)]⟩)
    (fun x => x.1 ≤ (code : List Int).length) (fun x => (code : List Int).length - x.1) (0, _) rfl rfl (Nat.zero_le _) (fun x hi => ?_)
  obtain ⟨i, h⟩ := x
  have hi : i ≤ (code : List Int).length := hi
  simp only [go_sem, ↓brB_t, ↓brB_f, Nat.reduceAdd, Int.reduceLE, Int.reduceLT, Int.reduceNeg, decide_true, decide_false, Bool.and_self, Nat.succ_eq_add_one, Int.toNat_natCast, Nat.beq_refl, Bool.and_true, Bool.true_and, Bool.false_or, Bool.or_true, List.all_cons, List.all_nil, Nat.reduceMul, Nat.add_zero, Nat.zero_add, List.length_nil, List.length_cons, dite_true, List.nil_append, Nat.reduceBEq, reduceDIte, reduceIte, reduceCtorEq, Bool.or_false, Bool.true_or, Bool.and_false, Bool.false_and, Bool.not_true, Bool.not_false, Option.isSome_some, Option.isSome_none, Option.getD_some, List.getElem?_cons_zero, List.getElem?_cons_succ, eq_self, and_self, List.take_succ_cons, List.take_zero, List.drop_succ_cons, List.drop_zero]
  refine brB_intro (fun h2 => brB_intro (fun h3 => ?_) (fun h3 => retN [16] rfl (hK [0, 0, h] trivial))) (fun h2 => retN [16] rfl (hK [0, 0, h] trivial))
  have h2 := of_decide_eq_true h2
  refine ⟨⟨by omega, by omega⟩, by kernel_rfl, (i + 1, IntKind.u64.wrap (IntKind.u64.wrap (IntKind.u64.wrap (h * 1099511628211) + IntKind.u64.wrap ((code : List Int).getD i 0)) + 113)), [(16, 16)], by show i + 1 ≤ (code : List Int).length; omega, by show (code : List Int).length - (i + 1) < (code : List Int).length - i; omega, rfl, ?_⟩
  rw [show w64 ((i : Int) + 1) = ((i + 1 : Nat) : Int) from w64_s (n := (code : List Int).length) (by omega) (by omega)]
  rfl
def c_from : Ctr Try.prog := ⟨53, ent Try.func53 rfl rfl, [], sp_from, good_from, []⟩
@[go_sem] theorem c_from_f : c_from.f = 53 := rfl
@[go_sem] theorem c_from_ms : c_from.ms = [] := rfl
@[go_sem] theorem c_from_sp : c_from.spec = sp_from := rfl
@[go_sem] theorem c_from_fz : c_from.fz = [] := rfl
attribute [go_sem] sp_from
theorem and24 (x : Int) : 0 ≤ andK .u64 x 16777215 ∧ andK .u64 x 16777215 ≤ 16777215 := by
  unfold andK bitsI
  have h : ((BitVec.ofInt IntKind.u64.bits x &&& BitVec.ofInt IntKind.u64.bits 16777215).toNat) ≤ 16777215 := by
    rw [BitVec.toNat_and]
    exact Nat.le_trans Nat.and_le_right (by decide)
  generalize (BitVec.ofInt IntKind.u64.bits x &&& BitVec.ofInt IntKind.u64.bits 16777215).toNat = v at *
  rw [wrapK_eq]
  show 0 ≤ ((v : Int) % 18446744073709551616) ∧ ((v : Int) % 18446744073709551616) ≤ 16777215
  omega
def sp_next : List Cv → List Obj' → Tree
  | [.one (.ptr 0 0), .one (.v (.int .i64 n))], [.box t [.ro (.int .u8) code, .v (.int .i64 at'), .v (.int .u64 h)]] => .need (okC code ∧ 0 ≤ at' ∧ at' ≤ (code.length : Int)) (.any (nextP n (code : List Int).length) fun x => .ret (vi (x.getD 0 0)) [.box t [.ro (.int .u8) code, .v (.int .i64 (x.getD 1 0)), .v (.int .u64 (x.getD 2 0))]])
  | _, _ => .fail
set_option maxHeartbeats 4000000 in
set_option maxRecDepth 100000 in
theorem good_next : Good Try.prog 66 sp_next := by
  refine good_ofF Try.func66 rfl _ rfl _ rfl (tab []) (fun X cs os0 K hok hos hK => ?_)
  unfold sp_next at hK
  split at hK
  case h_2 => exact hK.elim
  rename_i n t code a h
  refine ⟨by simp, by simp, ?_⟩
  simp only [go_sem] at hK hok hos
  simp (maxSteps := 4000000) only [go_sem, Try.f66, ↓brB_t, ↓brB_f, Nat.reduceAdd, Int.reduceLE, Int.reduceLT, Int.reduceNeg, decide_true, decide_false, Bool.and_self, Nat.succ_eq_add_one, Int.toNat_natCast, Nat.beq_refl, Bool.and_true, Bool.true_and, Bool.false_or, Bool.or_true, List.all_cons, List.all_nil, Nat.reduceMul, Nat.add_zero, Nat.zero_add, List.length_nil, List.length_cons, dite_true, List.nil_append, Nat.reduceBEq, reduceDIte, reduceIte, reduceCtorEq, Bool.or_false, Bool.true_or, Bool.and_false, Bool.false_and, Bool.not_true, Bool.not_false, Option.isSome_some, Option.isSome_none, Option.getD_some, List.getElem?_cons_zero, List.getElem?_cons_succ, eq_self, and_self, List.take_succ_cons, List.take_zero, List.drop_succ_cons, List.drop_zero]
  obtain ⟨⟨h1, h2, h3⟩, hK⟩ := hK
  clear hok
  refine brB_intro (fun h4 => ?_) (fun h4 => ⟨trivial, by kernel_rfl, brB_intro (fun h5 => ?_) (fun h5 => ?_)⟩)
  · have h4 := of_decide_eq_true h4
    exact retN [0] rfl (hK [0, a, h] ⟨⟨Int.le_refl 0, fun _ => rfl, fun _ => by show (0 : Int) < n; omega⟩, h2, h3⟩)
  · have h4 := of_decide_eq_false h4
    have h5 := of_decide_eq_true h5
    have hb := h1.2 _ (getD_mem (l := (code : List Int)) (i := a.toNat) (by omega))
    have hx := and24 (shrI IntKind.u64 (IntKind.u64.wrap (IntKind.u64.wrap (h * 6364136223846793005) + 1442695040888963407)) 33)
    generalize andK IntKind.u64 (shrI IntKind.u64 (IntKind.u64.wrap (IntKind.u64.wrap (h * 6364136223846793005) + 1442695040888963407)) 33) 16777215 = X at *
    generalize (code : List Int).getD a.toNat 0 = b at *
    have e : w64 (w64 X + w64 b) = X + b := by rw [w64_id (x := X) (by omega) (by omega), w64_id (x := b) (by omega) (by omega), w64_id (by omega) (by omega)]
    have r0 : 0 ≤ (X + b).tmod n := Int.tmod_nonneg _ (by omega)
    have r1 : (X + b).tmod n < n := Int.tmod_lt_of_pos _ (by omega)
    have ea : w64 (a + 1) = a + 1 := w64_id (by omega) (by have := h1.1; omega)
    rw [e, ea]
    exact ⟨⟨h2, h5⟩, by kernel_rfl, by omega, retN [0] rfl (hK [(X + b).tmod n, a + 1, IntKind.u64.wrap (IntKind.u64.wrap (h * 6364136223846793005) + 1442695040888963407)] ⟨⟨r0, fun h => absurd h (by omega), fun _ => r1⟩, by show 0 ≤ a + 1; omega, by show a + 1 ≤ _; omega⟩)⟩
  · have h4 := of_decide_eq_false h4
    have hx := and24 (shrI IntKind.u64 (IntKind.u64.wrap (IntKind.u64.wrap (h * 6364136223846793005) + 1442695040888963407)) 33)
    generalize andK IntKind.u64 (shrI IntKind.u64 (IntKind.u64.wrap (IntKind.u64.wrap (h * 6364136223846793005) + 1442695040888963407)) 33) 16777215 = X at *
    have e : w64 X = X := w64_id (by omega) (by omega)
    have r0 : 0 ≤ X.tmod n := Int.tmod_nonneg _ (by omega)
    have r1 : X.tmod n < n := Int.tmod_lt_of_pos _ (by omega)
    rw [e]
    exact ⟨by omega, retN [0] rfl (hK [X.tmod n, a, IntKind.u64.wrap (IntKind.u64.wrap (h * 6364136223846793005) + 1442695040888963407)] ⟨⟨r0, fun h => absurd h (by omega), fun _ => r1⟩, h2, h3⟩)⟩
def c_next : Ctr Try.prog := ⟨66, ent Try.func66 rfl rfl, [true], sp_next, good_next, []⟩
@[go_sem] theorem c_next_f : c_next.f = 66 := rfl
@[go_sem] theorem c_next_ms : c_next.ms = [true] := rfl
@[go_sem] theorem c_next_sp : c_next.spec = sp_next := rfl
@[go_sem] theorem c_next_fz : c_next.fz = [] := rfl
attribute [go_sem] sp_next
def sp_pick : List Cv → List Obj' → Tree
  | [.one (.ptr 0 0), .one (.ro (.int .i64) l)], [.box t [.ro (.int .u8) code, .v (.int .i64 at'), .v (.int .u64 h)]] => .need (okC code ∧ (0 ≤ at' ∧ at' ≤ (code.length : Int)) ∧ 0 < (l : List Int).length ∧ (l : List Int).length ≤ 1000) (.any (fun x => x.getD 0 0 ∈ (l : List Int) ∧ srcP (code : List Int).length x) fun x => .ret (vi (x.getD 0 0)) [.box t [.ro (.int .u8) code, .v (.int .i64 (x.getD 1 0)), .v (.int .u64 (x.getD 2 0))]])
  | _, _ => .fail
set_option maxHeartbeats 4000000 in
set_option maxRecDepth 100000 in
theorem good_pick1 : Good Try.prog 74 sp_pick := by
  refine good_ofF Try.func74 rfl _ rfl _ rfl (tab [c_next]) (fun X cs os0 K hok hos hK => ?_)
  unfold sp_pick at hK
  split at hK
  case h_2 => exact hK.elim
  rename_i l t code a h
  refine ⟨by simp, by simp, ?_⟩
  simp only [go_sem] at hK hok hos
  simp (maxSteps := 4000000) only [go_sem, Try.f74, ↓brB_t, ↓brB_f, Nat.reduceAdd, Int.reduceLE, Int.reduceLT, Int.reduceNeg, decide_true, decide_false, Bool.and_self, Nat.succ_eq_add_one, Int.toNat_natCast, Nat.beq_refl, Bool.and_true, Bool.true_and, Bool.false_or, Bool.or_true, List.all_cons, List.all_nil, Nat.reduceMul, Nat.add_zero, Nat.zero_add, List.length_nil, List.length_cons, dite_true, List.nil_append, Nat.reduceBEq, reduceDIte, reduceIte, reduceCtorEq, Bool.or_false, Bool.true_or, Bool.and_false, Bool.false_and, Bool.not_true, Bool.not_false, Option.isSome_some, Option.isSome_none, Option.getD_some, List.getElem?_cons_zero, List.getElem?_cons_succ, eq_self, and_self, List.take_succ_cons, List.take_zero, List.drop_succ_cons, List.drop_zero]
  obtain ⟨⟨h1, h2, h3, h4⟩, hK⟩ := hK
  clear hok
  refine ⟨⟨h1, h2⟩, fun x hx => ?_⟩
  have h5 := hx.1.2.2 (by omega)
  refine ⟨⟨hx.1.1, h5⟩, retN [0] rfl ?_⟩
  exact hK [(l : List Int).getD (x.getD 0 0).toNat 0, x.getD 1 0, x.getD 2 0] ⟨getD_mem (by have := hx.1.1; omega), hx.2⟩
def c_pick : Ctr Try.prog := ⟨74, ent Try.func74 rfl rfl, [true, false], sp_pick, good_pick1, [false, true]⟩
@[go_sem] theorem c_pick_f : c_pick.f = 74 := rfl
@[go_sem] theorem c_pick_ms : c_pick.ms = [true, false] := rfl
@[go_sem] theorem c_pick_sp : c_pick.spec = sp_pick := rfl
@[go_sem] theorem c_pick_fz : c_pick.fz = [false, true] := rfl
attribute [go_sem] sp_pick
def sp_near : List Cv → List Obj' → Tree
  | [.one (.ptr 0 0), .one (.v (.int .i64 n))], [.box t [.ro (.int .u8) code, .v (.int .i64 at'), .v (.int .u64 h)]] => .need (okC code ∧ (0 ≤ at' ∧ at' ≤ (code.length : Int)) ∧ -1000 ≤ n ∧ n ≤ 1000000) (.any (fun x => srcP (code : List Int).length x) fun x => .ret (vi (x.getD 0 0)) [.box t [.ro (.int .u8) code, .v (.int .i64 (x.getD 1 0)), .v (.int .u64 (x.getD 2 0))]])
  | _, _ => .fail
set_option maxHeartbeats 4000000 in
set_option maxRecDepth 100000 in
theorem good_near : Good Try.prog 55 sp_near := by
  refine good_ofF Try.func55 rfl _ rfl _ rfl (tab [c_next, c_pick]) (fun X cs os0 K hok hos hK => ?_)
  unfold sp_near at hK
  split at hK
  case h_2 => exact hK.elim
  rename_i n t code a h
  refine ⟨by simp, by simp, ?_⟩
  simp only [go_sem] at hK hok hos
  simp (maxSteps := 4000000) only [go_sem, Try.f55, ↓brB_t, ↓brB_f, Nat.reduceAdd, Int.reduceLE, Int.reduceLT, Int.reduceNeg, decide_true, decide_false, Bool.and_self, Nat.succ_eq_add_one, Int.toNat_natCast, Nat.beq_refl, Bool.and_true, Bool.true_and, Bool.false_or, Bool.or_true, List.all_cons, List.all_nil, Nat.reduceMul, Nat.add_zero, Nat.zero_add, List.length_nil, List.length_cons, dite_true, List.nil_append, Nat.reduceBEq, reduceDIte, reduceIte, reduceCtorEq, Bool.or_false, Bool.true_or, Bool.and_false, Bool.false_and, Bool.not_true, Bool.not_false, Option.isSome_some, Option.isSome_none, Option.getD_some, List.getElem?_cons_zero, List.getElem?_cons_succ, eq_self, and_self, List.take_succ_cons, List.take_zero, List.drop_succ_cons, List.drop_zero]
  obtain ⟨⟨h1, h2, h3, h4⟩, hK⟩ := hK
  clear hok
  refine ⟨⟨h1, h2⟩, fun x hx => brB_intro (fun h5 => ⟨⟨h1, hx.2, by decide, by decide⟩, fun y hy => retN [0] rfl (hK y hy.2)⟩) (fun h5 => ⟨⟨h1, hx.2⟩, fun y hy => retN [0] rfl (hK y hy.2)⟩)⟩
def c_near : Ctr Try.prog := ⟨55, ent Try.func55 rfl rfl, [true], sp_near, good_near, []⟩
@[go_sem] theorem c_near_f : c_near.f = 55 := rfl
@[go_sem] theorem c_near_ms : c_near.ms = [true] := rfl
@[go_sem] theorem c_near_sp : c_near.spec = sp_near := rfl
@[go_sem] theorem c_near_fz : c_near.fz = [] := rfl
attribute [go_sem] sp_near
def sp_drawOf : List Cv → List Obj' → Tree
  | [.one (.ptr 0 0), .one (.v (.int .i64 n))], [.box t [.ro (.int .u8) code, .v (.int .i64 at'), .v (.int .u64 h)]] => .need (okC code ∧ (0 ≤ at' ∧ at' ≤ (code.length : Int)) ∧ n ≤ 6) (.any (fun y => isW y = true) fun y => .any (fun x => srcP (code : List Int).length x) fun x => .ret (.val (.one (.ro (.int .i64) y))) [.box t [.ro (.int .u8) code, .v (.int .i64 (x.getD 1 0)), .v (.int .u64 (x.getD 2 0))]])
  | _, _ => .fail
set_option maxHeartbeats 4000000 in
set_option maxRecDepth 100000 in
theorem good_drawOf : Good Try.prog 65 sp_drawOf := by
  refine good_ofF Try.func65 rfl _ rfl _ rfl (tab [c_next, c_addS]) (fun X cs os0 K hok hos hK => ?_)
  unfold sp_drawOf at hK
  split at hK
  case h_2 => exact hK.elim
  rename_i n t code a h
  refine ⟨by simp, by simp, ?_⟩
  simp only [go_sem] at hK hok hos
  simp (maxSteps := 4000000) only [go_sem, Try.f65, ↓brB_t, ↓brB_f, Nat.reduceAdd, Int.reduceLE, Int.reduceLT, Int.reduceNeg, decide_true, decide_false, Bool.and_self, Nat.succ_eq_add_one, Int.toNat_natCast, Nat.beq_refl, Bool.and_true, Bool.true_and, Bool.false_or, Bool.or_true, List.all_cons, List.all_nil, Nat.reduceMul, Nat.add_zero, Nat.zero_add, List.length_nil, List.length_cons, dite_true, List.nil_append, Nat.reduceBEq, reduceDIte, reduceIte, reduceCtorEq, Bool.or_false, Bool.true_or, Bool.and_false, Bool.false_and, Bool.not_true, Bool.not_false, Option.isSome_some, Option.isSome_none, Option.getD_some, List.getElem?_cons_zero, List.getElem?_cons_succ, eq_self, and_self, List.take_succ_cons, List.take_zero, List.drop_succ_cons, List.drop_zero]
  obtain ⟨⟨h1, h2, h3⟩, hK⟩ := hK
  clear hok
  refine loop_okF (T := tab [c_next, c_addS]) [0, 1, 5, 6] [(0, 0), (16, 160)] (fun x : Nat × List Int × Int × Int => ⟨29, [(0, .val (.one (.ptr 0 0))), (1, vi n), (5, ow 16), (6, vi x.1)], [(0, .box t [.ro (.int .u8) code, .v (.int .i64 x.2.2.1), .v (.int .u64 x.2.2.2)]), (16, rwi x.2.1)]⟩)
    (fun x => (x.1 : Int) ≤ max n 0 ∧ isW x.2.1 = true ∧ x.2.1.length = 2 * x.1 ∧ 0 ≤ x.2.2.1 ∧ x.2.2.1 ≤ ((code : List Int).length : Int)) (fun x => 6 - x.1) (0, [], a, h) rfl rfl ⟨by show ((0 : Nat) : Int) ≤ max n 0; omega, (by decide : isW [] = true), rfl, h2⟩ (fun x hx => ?_)
  obtain ⟨i, w, a, h⟩ := x
  obtain ⟨hi, hw, hl, ha⟩ := hx
  have hi : (i : Int) ≤ max n 0 := hi
  have hw : isW w = true := hw
  have hl : w.length = 2 * i := hl
  have ha : 0 ≤ a ∧ a ≤ ((code : List Int).length : Int) := ha
  simp only [go_sem, ↓brB_t, ↓brB_f, Nat.reduceAdd, Int.reduceLE, Int.reduceLT, Int.reduceNeg, decide_true, decide_false, Bool.and_self, Nat.succ_eq_add_one, Int.toNat_natCast, Nat.beq_refl, Bool.and_true, Bool.true_and, Bool.false_or, Bool.or_true, List.all_cons, List.all_nil, Nat.reduceMul, Nat.add_zero, Nat.zero_add, List.length_nil, List.length_cons, dite_true, List.nil_append, Nat.reduceBEq, reduceDIte, reduceIte, reduceCtorEq, Bool.or_false, Bool.true_or, Bool.and_false, Bool.false_and, Bool.not_true, Bool.not_false, Option.isSome_some, Option.isSome_none, Option.getD_some, List.getElem?_cons_zero, List.getElem?_cons_succ, eq_self, and_self, List.take_succ_cons, List.take_zero, List.drop_succ_cons, List.drop_zero]
  refine brB_intro (fun h4 => ⟨⟨h1, ha⟩, fun x hx => ⟨⟨h1, hx.2⟩, fun y hy => ?_⟩⟩) (fun h4 => retN [0] rfl (hK w hw [0, a, h] ha))
  have h4 := of_decide_eq_true h4
  have hwl := y_len hw
  have e1 : w64 ((w.length : Int) + 1) = (w.length : Int) + 1 := w64_id (by omega) (by omega)
  obtain ⟨⟨x0, _, x1⟩, xa⟩ := hx
  obtain ⟨⟨y0, _, y1⟩, ya⟩ := hy
  rw [e1] at x1
  have x1 := x1 (by omega)
  have e2 : w64 (x.getD 0 0 + 1) = x.getD 0 0 + 1 := w64_id (by omega) (by omega)
  rw [e2] at y1
  have y1 := y1 (by omega)
  generalize x.getD 0 0 = q at *
  generalize y.getD 0 0 = p at *
  refine ⟨⟨hw, y0, by omega, by omega⟩, (i + 1, addL w p.toNat q.toNat, y.getD 1 0, y.getD 2 0), [(0, 0), (16, 448)], ⟨by show ((i + 1 : Nat) : Int) ≤ max n 0; omega, addL_isW hw (by omega) (by omega) (by omega), ?_, ya⟩, by show 6 - (i + 1) < 6 - i; omega, rfl, ?_⟩
  · show (addL w p.toNat q.toNat).length = 2 * (i + 1)
    rw [addL_len (by omega) (by omega)]; omega
  · rw [show w64 ((i : Int) + 1) = ((i + 1 : Nat) : Int) from w64_s (n := 6) (by omega) (by omega)]
    rfl
def c_drawOf : Ctr Try.prog := ⟨65, ent Try.func65 rfl rfl, [true], sp_drawOf, good_drawOf, []⟩
@[go_sem] theorem c_drawOf_f : c_drawOf.f = 65 := rfl
@[go_sem] theorem c_drawOf_ms : c_drawOf.ms = [true] := rfl
@[go_sem] theorem c_drawOf_sp : c_drawOf.spec = sp_drawOf := rfl
@[go_sem] theorem c_drawOf_fz : c_drawOf.fz = [] := rfl
attribute [go_sem] sp_drawOf
end Go.Proofs.Ytbnmjhcokdhjmaa.V
