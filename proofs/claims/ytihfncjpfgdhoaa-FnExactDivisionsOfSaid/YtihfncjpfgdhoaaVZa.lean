/- Contracts: divisions of words, at each depth of closures. Conditions: told by each spec. Printed by a program of the author's. -/
import Derived.Test.YtihfncjpfgdhoaaVZ0
set_option linter.unusedVariables false
set_option linter.unusedSimpArgs false
namespace Go.Proofs.Ytihfncjpfgdhoaa.V
open Go
def sp_doR0 : List Cv → List Obj' → Tree
  | [.one (.ro (.int .i64) p), .one (.v (.int .i64 k)), .one (.ptr 0 0)], [.box 2 [.v (.int .i64 m)]] => .need (0 ≤ m ∧ m ≤ 1000) (.ret (.tup []) [.box 2 [.v (.int .i64 (m + 1))]])
  | _, _ => .fail
set_option maxHeartbeats 4000000 in
set_option maxRecDepth 100000 in
theorem good_doR0 : Good Try.prog 84 sp_doR0 := by
  refine good_ofF Try.func84 rfl _ rfl _ rfl (tab []) (fun X cs os0 K hok hos hK => ?_)
  unfold sp_doR0 at hK
  split at hK
  case h_2 => exact hK.elim
  rename_i p k m
  refine ⟨by simp, by simp, ?_⟩
  simp only [go_sem] at hK hok hos
  simp (maxSteps := 4000000) only [go_sem, Try.f84, ↓brB_t, ↓brB_f, Nat.reduceAdd, Int.reduceLE, Int.reduceLT, Int.reduceNeg, decide_true, decide_false, Bool.and_self, Nat.succ_eq_add_one, Int.toNat_natCast, Nat.beq_refl, Bool.and_true, Bool.true_and, Bool.false_or, Bool.or_true, List.all_cons, List.all_nil, Nat.reduceMul, Nat.add_zero, Nat.zero_add, List.length_nil, List.length_cons, dite_true, List.nil_append, Nat.reduceBEq, reduceDIte, reduceIte, reduceCtorEq, Bool.or_false, Bool.true_or, Bool.and_false, Bool.false_and, Bool.not_true, Bool.not_false, Option.isSome_some, Option.isSome_none, Option.getD_some, List.getElem?_cons_zero, List.getElem?_cons_succ, eq_self, and_self, List.take_succ_cons, List.take_zero, List.drop_succ_cons, List.drop_zero]
  obtain ⟨⟨h0, hm⟩, hK⟩ := hK
  clear hok hos
  rw [w64_id (by omega) (by omega)]
  exact retN [0] rfl hK
def c_doR0 : Ctr Try.prog := ⟨84, ent Try.func84 rfl rfl, [false, false, true], sp_doR0, good_doR0, [true, false, false]⟩
@[go_sem] theorem c_doR0_f : c_doR0.f = 84 := rfl
@[go_sem] theorem c_doR0_ms : c_doR0.ms = [false, false, true] := rfl
@[go_sem] theorem c_doR0_sp : c_doR0.spec = sp_doR0 := rfl
@[go_sem] theorem c_doR0_fz : c_doR0.fz = [true, false, false] := rfl
attribute [go_sem] sp_doR0
def sp_doN0 : List Cv → List Obj' → Tree
  | [.one (.v (.slice none 0 0)), .one (.v (.int .i64 k)), .one (.ptr 0 0)], [.box 2 [.v (.int .i64 m)]] => .need (0 ≤ m ∧ m ≤ 1000) (.ret (.tup []) [.box 2 [.v (.int .i64 (m + 1))]])
  | _, _ => .fail
set_option maxHeartbeats 4000000 in
set_option maxRecDepth 100000 in
theorem good_doN0 : Good Try.prog 84 sp_doN0 := by
  refine good_ofF Try.func84 rfl _ rfl _ rfl (tab []) (fun X cs os0 K hok hos hK => ?_)
  unfold sp_doN0 at hK
  split at hK
  case h_2 => exact hK.elim
  rename_i k m
  refine ⟨by simp, by simp, ?_⟩
  simp only [go_sem] at hK hok hos
  simp (maxSteps := 4000000) only [go_sem, Try.f84, ↓brB_t, ↓brB_f, Nat.reduceAdd, Int.reduceLE, Int.reduceLT, Int.reduceNeg, decide_true, decide_false, Bool.and_self, Nat.succ_eq_add_one, Int.toNat_natCast, Nat.beq_refl, Bool.and_true, Bool.true_and, Bool.false_or, Bool.or_true, List.all_cons, List.all_nil, Nat.reduceMul, Nat.add_zero, Nat.zero_add, List.length_nil, List.length_cons, dite_true, List.nil_append, Nat.reduceBEq, reduceDIte, reduceIte, reduceCtorEq, Bool.or_false, Bool.true_or, Bool.and_false, Bool.false_and, Bool.not_true, Bool.not_false, Option.isSome_some, Option.isSome_none, Option.getD_some, List.getElem?_cons_zero, List.getElem?_cons_succ, eq_self, and_self, List.take_succ_cons, List.take_zero, List.drop_succ_cons, List.drop_zero]
  obtain ⟨⟨h0, hm⟩, hK⟩ := hK
  clear hok hos
  rw [w64_id (by omega) (by omega)]
  exact retN [0] rfl hK
def c_doN0 : Ctr Try.prog := ⟨84, ent Try.func84 rfl rfl, [false, false, true], sp_doN0, good_doN0, []⟩
@[go_sem] theorem c_doN0_f : c_doN0.f = 84 := rfl
@[go_sem] theorem c_doN0_ms : c_doN0.ms = [false, false, true] := rfl
@[go_sem] theorem c_doN0_sp : c_doN0.spec = sp_doN0 := rfl
@[go_sem] theorem c_doN0_fz : c_doN0.fz = [] := rfl
attribute [go_sem] sp_doN0
def sp_doR1 : List Cv → List Obj' → Tree
  | [.one (.ro (.int .i64) p), .one (.v (.int .i64 k)), .one (.ptr 0 0), .one (.ptr 1 0)], [.box 76 [.fn 84 [2]], .box 22 [.ro (.int .i64) h1], .box 2 [.v (.int .i64 m)]] => .need (0 ≤ m ∧ m ≤ 1000 ∧ p.length ≤ 900 ∧ h1.length ≤ 100) (.ret (.tup []) [.box 76 [.fn 84 [2]], .box 22 [.ro (.int .i64) h1], .box 2 [.v (.int .i64 (m + 1))]])
  | _, _ => .fail
set_option maxHeartbeats 4000000 in
set_option maxRecDepth 100000 in
theorem good_doR1 : Good Try.prog 108 sp_doR1 := by
  refine good_ofF Try.func108 rfl _ rfl _ rfl (tab [c_joinI, c_doR0]) (fun X cs os0 K hok hos hK => ?_)
  unfold sp_doR1 at hK
  split at hK
  case h_2 => exact hK.elim
  rename_i p k h1 m
  refine ⟨by simp, by simp, ?_⟩
  simp only [go_sem] at hK hok hos
  simp (maxSteps := 4000000) only [go_sem, Try.f108, ↓brB_t, ↓brB_f, Nat.reduceAdd, Int.reduceLE, Int.reduceLT, Int.reduceNeg, decide_true, decide_false, Bool.and_self, Nat.succ_eq_add_one, Int.toNat_natCast, Nat.beq_refl, Bool.and_true, Bool.true_and, Bool.false_or, Bool.or_true, List.all_cons, List.all_nil, Nat.reduceMul, Nat.add_zero, Nat.zero_add, List.length_nil, List.length_cons, dite_true, List.nil_append, Nat.reduceBEq, reduceDIte, reduceIte, reduceCtorEq, Bool.or_false, Bool.true_or, Bool.and_false, Bool.false_and, Bool.not_true, Bool.not_false, Option.isSome_some, Option.isSome_none, Option.getD_some, List.getElem?_cons_zero, List.getElem?_cons_succ, eq_self, and_self, List.take_succ_cons, List.take_zero, List.drop_succ_cons, List.drop_zero]
  obtain ⟨⟨h0, hm, hp, g1⟩, hK⟩ := hK
  clear hok hos
  have hj := joL_len h1 p
  exact ⟨⟨by omega, by omega⟩, ⟨by omega, by omega⟩, by kernel_rfl, retN [0, 1, 2] rfl hK⟩
def c_doR1 : Ctr Try.prog := ⟨108, ent Try.func108 rfl rfl, [false, false, true, true], sp_doR1, good_doR1, [true, false, false, false]⟩
@[go_sem] theorem c_doR1_f : c_doR1.f = 108 := rfl
@[go_sem] theorem c_doR1_ms : c_doR1.ms = [false, false, true, true] := rfl
@[go_sem] theorem c_doR1_sp : c_doR1.spec = sp_doR1 := rfl
@[go_sem] theorem c_doR1_fz : c_doR1.fz = [true, false, false, false] := rfl
attribute [go_sem] sp_doR1
def sp_doN1 : List Cv → List Obj' → Tree
  | [.one (.v (.slice none 0 0)), .one (.v (.int .i64 k)), .one (.ptr 0 0), .one (.ptr 1 0)], [.box 76 [.fn 84 [2]], .box 22 [.ro (.int .i64) h1], .box 2 [.v (.int .i64 m)]] => .need (0 ≤ m ∧ m ≤ 1000 ∧ h1.length ≤ 100) (.ret (.tup []) [.box 76 [.fn 84 [2]], .box 22 [.ro (.int .i64) h1], .box 2 [.v (.int .i64 (m + 1))]])
  | _, _ => .fail
set_option maxHeartbeats 4000000 in
set_option maxRecDepth 100000 in
theorem good_doN1 : Good Try.prog 108 sp_doN1 := by
  refine good_ofF Try.func108 rfl _ rfl _ rfl (tab [c_joinN, c_doR0]) (fun X cs os0 K hok hos hK => ?_)
  unfold sp_doN1 at hK
  split at hK
  case h_2 => exact hK.elim
  rename_i k h1 m
  refine ⟨by simp, by simp, ?_⟩
  simp only [go_sem] at hK hok hos
  simp (maxSteps := 4000000) only [go_sem, Try.f108, ↓brB_t, ↓brB_f, Nat.reduceAdd, Int.reduceLE, Int.reduceLT, Int.reduceNeg, decide_true, decide_false, Bool.and_self, Nat.succ_eq_add_one, Int.toNat_natCast, Nat.beq_refl, Bool.and_true, Bool.true_and, Bool.false_or, Bool.or_true, List.all_cons, List.all_nil, Nat.reduceMul, Nat.add_zero, Nat.zero_add, List.length_nil, List.length_cons, dite_true, List.nil_append, Nat.reduceBEq, reduceDIte, reduceIte, reduceCtorEq, Bool.or_false, Bool.true_or, Bool.and_false, Bool.false_and, Bool.not_true, Bool.not_false, Option.isSome_some, Option.isSome_none, Option.getD_some, List.getElem?_cons_zero, List.getElem?_cons_succ, eq_self, and_self, List.take_succ_cons, List.take_zero, List.drop_succ_cons, List.drop_zero]
  obtain ⟨⟨h0, hm, g1⟩, hK⟩ := hK
  clear hok hos
  exact ⟨by omega, ⟨by omega, by omega⟩, by kernel_rfl, retN [0, 1, 2] rfl hK⟩
def c_doN1 : Ctr Try.prog := ⟨108, ent Try.func108 rfl rfl, [false, false, true, true], sp_doN1, good_doN1, []⟩
@[go_sem] theorem c_doN1_f : c_doN1.f = 108 := rfl
@[go_sem] theorem c_doN1_ms : c_doN1.ms = [false, false, true, true] := rfl
@[go_sem] theorem c_doN1_sp : c_doN1.spec = sp_doN1 := rfl
@[go_sem] theorem c_doN1_fz : c_doN1.fz = [] := rfl
attribute [go_sem] sp_doN1
def sp_doR2 : List Cv → List Obj' → Tree
  | [.one (.ro (.int .i64) p), .one (.v (.int .i64 k)), .one (.ptr 0 0), .one (.ptr 1 0)], [.box 76 [.fn 108 [2, 3]], .box 22 [.ro (.int .i64) h2], .box 76 [.fn 84 [4]], .box 22 [.ro (.int .i64) h1], .box 2 [.v (.int .i64 m)]] => .need (0 ≤ m ∧ m ≤ 1000 ∧ p.length ≤ 800 ∧ h2.length ≤ 100 ∧ h1.length ≤ 100) (.ret (.tup []) [.box 76 [.fn 108 [2, 3]], .box 22 [.ro (.int .i64) h2], .box 76 [.fn 84 [4]], .box 22 [.ro (.int .i64) h1], .box 2 [.v (.int .i64 (m + 1))]])
  | _, _ => .fail
set_option maxHeartbeats 4000000 in
set_option maxRecDepth 100000 in
theorem good_doR2 : Good Try.prog 108 sp_doR2 := by
  refine good_ofF Try.func108 rfl _ rfl _ rfl (tab [c_joinI, c_doR1]) (fun X cs os0 K hok hos hK => ?_)
  unfold sp_doR2 at hK
  split at hK
  case h_2 => exact hK.elim
  rename_i p k h2 h1 m
  refine ⟨by simp, by simp, ?_⟩
  simp only [go_sem] at hK hok hos
  simp (maxSteps := 4000000) only [go_sem, Try.f108, ↓brB_t, ↓brB_f, Nat.reduceAdd, Int.reduceLE, Int.reduceLT, Int.reduceNeg, decide_true, decide_false, Bool.and_self, Nat.succ_eq_add_one, Int.toNat_natCast, Nat.beq_refl, Bool.and_true, Bool.true_and, Bool.false_or, Bool.or_true, List.all_cons, List.all_nil, Nat.reduceMul, Nat.add_zero, Nat.zero_add, List.length_nil, List.length_cons, dite_true, List.nil_append, Nat.reduceBEq, reduceDIte, reduceIte, reduceCtorEq, Bool.or_false, Bool.true_or, Bool.and_false, Bool.false_and, Bool.not_true, Bool.not_false, Option.isSome_some, Option.isSome_none, Option.getD_some, List.getElem?_cons_zero, List.getElem?_cons_succ, eq_self, and_self, List.take_succ_cons, List.take_zero, List.drop_succ_cons, List.drop_zero]
  obtain ⟨⟨h0, hm, hp, g2, g1⟩, hK⟩ := hK
  clear hok hos
  have hj := joL_len h2 p
  exact ⟨⟨by omega, by omega⟩, ⟨by omega, by omega, by omega, by omega⟩, by kernel_rfl, retN [0, 1, 2, 3, 4] rfl hK⟩
def c_doR2 : Ctr Try.prog := ⟨108, ent Try.func108 rfl rfl, [false, false, true, true], sp_doR2, good_doR2, [true, false, false, false]⟩
@[go_sem] theorem c_doR2_f : c_doR2.f = 108 := rfl
@[go_sem] theorem c_doR2_ms : c_doR2.ms = [false, false, true, true] := rfl
@[go_sem] theorem c_doR2_sp : c_doR2.spec = sp_doR2 := rfl
@[go_sem] theorem c_doR2_fz : c_doR2.fz = [true, false, false, false] := rfl
attribute [go_sem] sp_doR2
def sp_doN2 : List Cv → List Obj' → Tree
  | [.one (.v (.slice none 0 0)), .one (.v (.int .i64 k)), .one (.ptr 0 0), .one (.ptr 1 0)], [.box 76 [.fn 108 [2, 3]], .box 22 [.ro (.int .i64) h2], .box 76 [.fn 84 [4]], .box 22 [.ro (.int .i64) h1], .box 2 [.v (.int .i64 m)]] => .need (0 ≤ m ∧ m ≤ 1000 ∧ h2.length ≤ 100 ∧ h1.length ≤ 100) (.ret (.tup []) [.box 76 [.fn 108 [2, 3]], .box 22 [.ro (.int .i64) h2], .box 76 [.fn 84 [4]], .box 22 [.ro (.int .i64) h1], .box 2 [.v (.int .i64 (m + 1))]])
  | _, _ => .fail
set_option maxHeartbeats 4000000 in
set_option maxRecDepth 100000 in
theorem good_doN2 : Good Try.prog 108 sp_doN2 := by
  refine good_ofF Try.func108 rfl _ rfl _ rfl (tab [c_joinN, c_doR1]) (fun X cs os0 K hok hos hK => ?_)
  unfold sp_doN2 at hK
  split at hK
  case h_2 => exact hK.elim
  rename_i k h2 h1 m
  refine ⟨by simp, by simp, ?_⟩
  simp only [go_sem] at hK hok hos
  simp (maxSteps := 4000000) only [go_sem, Try.f108, ↓brB_t, ↓brB_f, Nat.reduceAdd, Int.reduceLE, Int.reduceLT, Int.reduceNeg, decide_true, decide_false, Bool.and_self, Nat.succ_eq_add_one, Int.toNat_natCast, Nat.beq_refl, Bool.and_true, Bool.true_and, Bool.false_or, Bool.or_true, List.all_cons, List.all_nil, Nat.reduceMul, Nat.add_zero, Nat.zero_add, List.length_nil, List.length_cons, dite_true, List.nil_append, Nat.reduceBEq, reduceDIte, reduceIte, reduceCtorEq, Bool.or_false, Bool.true_or, Bool.and_false, Bool.false_and, Bool.not_true, Bool.not_false, Option.isSome_some, Option.isSome_none, Option.getD_some, List.getElem?_cons_zero, List.getElem?_cons_succ, eq_self, and_self, List.take_succ_cons, List.take_zero, List.drop_succ_cons, List.drop_zero]
  obtain ⟨⟨h0, hm, g2, g1⟩, hK⟩ := hK
  clear hok hos
  exact ⟨by omega, ⟨by omega, by omega, by omega, by omega⟩, by kernel_rfl, retN [0, 1, 2, 3, 4] rfl hK⟩
def c_doN2 : Ctr Try.prog := ⟨108, ent Try.func108 rfl rfl, [false, false, true, true], sp_doN2, good_doN2, []⟩
@[go_sem] theorem c_doN2_f : c_doN2.f = 108 := rfl
@[go_sem] theorem c_doN2_ms : c_doN2.ms = [false, false, true, true] := rfl
@[go_sem] theorem c_doN2_sp : c_doN2.spec = sp_doN2 := rfl
@[go_sem] theorem c_doN2_fz : c_doN2.fz = [] := rfl
attribute [go_sem] sp_doN2
def sp_doR3 : List Cv → List Obj' → Tree
  | [.one (.ro (.int .i64) p), .one (.v (.int .i64 k)), .one (.ptr 0 0), .one (.ptr 1 0)], [.box 76 [.fn 108 [2, 3]], .box 22 [.ro (.int .i64) h3], .box 76 [.fn 108 [4, 5]], .box 22 [.ro (.int .i64) h2], .box 76 [.fn 84 [6]], .box 22 [.ro (.int .i64) h1], .box 2 [.v (.int .i64 m)]] => .need (0 ≤ m ∧ m ≤ 1000 ∧ p.length ≤ 700 ∧ h3.length ≤ 100 ∧ h2.length ≤ 100 ∧ h1.length ≤ 100) (.ret (.tup []) [.box 76 [.fn 108 [2, 3]], .box 22 [.ro (.int .i64) h3], .box 76 [.fn 108 [4, 5]], .box 22 [.ro (.int .i64) h2], .box 76 [.fn 84 [6]], .box 22 [.ro (.int .i64) h1], .box 2 [.v (.int .i64 (m + 1))]])
  | _, _ => .fail
set_option maxHeartbeats 4000000 in
set_option maxRecDepth 100000 in
theorem good_doR3 : Good Try.prog 108 sp_doR3 := by
  refine good_ofF Try.func108 rfl _ rfl _ rfl (tab [c_joinI, c_doR2]) (fun X cs os0 K hok hos hK => ?_)
  unfold sp_doR3 at hK
  split at hK
  case h_2 => exact hK.elim
  rename_i p k h3 h2 h1 m
  refine ⟨by simp, by simp, ?_⟩
  simp only [go_sem] at hK hok hos
  simp (maxSteps := 4000000) only [go_sem, Try.f108, ↓brB_t, ↓brB_f, Nat.reduceAdd, Int.reduceLE, Int.reduceLT, Int.reduceNeg, decide_true, decide_false, Bool.and_self, Nat.succ_eq_add_one, Int.toNat_natCast, Nat.beq_refl, Bool.and_true, Bool.true_and, Bool.false_or, Bool.or_true, List.all_cons, List.all_nil, Nat.reduceMul, Nat.add_zero, Nat.zero_add, List.length_nil, List.length_cons, dite_true, List.nil_append, Nat.reduceBEq, reduceDIte, reduceIte, reduceCtorEq, Bool.or_false, Bool.true_or, Bool.and_false, Bool.false_and, Bool.not_true, Bool.not_false, Option.isSome_some, Option.isSome_none, Option.getD_some, List.getElem?_cons_zero, List.getElem?_cons_succ, eq_self, and_self, List.take_succ_cons, List.take_zero, List.drop_succ_cons, List.drop_zero]
  obtain ⟨⟨h0, hm, hp, g3, g2, g1⟩, hK⟩ := hK
  clear hok hos
  have hj := joL_len h3 p
  exact ⟨⟨by omega, by omega⟩, ⟨by omega, by omega, by omega, by omega, by omega⟩, by kernel_rfl, retN [0, 1, 2, 3, 4, 5, 6] rfl hK⟩
def c_doR3 : Ctr Try.prog := ⟨108, ent Try.func108 rfl rfl, [false, false, true, true], sp_doR3, good_doR3, [true, false, false, false]⟩
@[go_sem] theorem c_doR3_f : c_doR3.f = 108 := rfl
@[go_sem] theorem c_doR3_ms : c_doR3.ms = [false, false, true, true] := rfl
@[go_sem] theorem c_doR3_sp : c_doR3.spec = sp_doR3 := rfl
@[go_sem] theorem c_doR3_fz : c_doR3.fz = [true, false, false, false] := rfl
attribute [go_sem] sp_doR3
def sp_doN3 : List Cv → List Obj' → Tree
  | [.one (.v (.slice none 0 0)), .one (.v (.int .i64 k)), .one (.ptr 0 0), .one (.ptr 1 0)], [.box 76 [.fn 108 [2, 3]], .box 22 [.ro (.int .i64) h3], .box 76 [.fn 108 [4, 5]], .box 22 [.ro (.int .i64) h2], .box 76 [.fn 84 [6]], .box 22 [.ro (.int .i64) h1], .box 2 [.v (.int .i64 m)]] => .need (0 ≤ m ∧ m ≤ 1000 ∧ h3.length ≤ 100 ∧ h2.length ≤ 100 ∧ h1.length ≤ 100) (.ret (.tup []) [.box 76 [.fn 108 [2, 3]], .box 22 [.ro (.int .i64) h3], .box 76 [.fn 108 [4, 5]], .box 22 [.ro (.int .i64) h2], .box 76 [.fn 84 [6]], .box 22 [.ro (.int .i64) h1], .box 2 [.v (.int .i64 (m + 1))]])
  | _, _ => .fail
set_option maxHeartbeats 4000000 in
set_option maxRecDepth 100000 in
theorem good_doN3 : Good Try.prog 108 sp_doN3 := by
  refine good_ofF Try.func108 rfl _ rfl _ rfl (tab [c_joinN, c_doR2]) (fun X cs os0 K hok hos hK => ?_)
  unfold sp_doN3 at hK
  split at hK
  case h_2 => exact hK.elim
  rename_i k h3 h2 h1 m
  refine ⟨by simp, by simp, ?_⟩
  simp only [go_sem] at hK hok hos
  simp (maxSteps := 4000000) only [go_sem, Try.f108, ↓brB_t, ↓brB_f, Nat.reduceAdd, Int.reduceLE, Int.reduceLT, Int.reduceNeg, decide_true, decide_false, Bool.and_self, Nat.succ_eq_add_one, Int.toNat_natCast, Nat.beq_refl, Bool.and_true, Bool.true_and, Bool.false_or, Bool.or_true, List.all_cons, List.all_nil, Nat.reduceMul, Nat.add_zero, Nat.zero_add, List.length_nil, List.length_cons, dite_true, List.nil_append, Nat.reduceBEq, reduceDIte, reduceIte, reduceCtorEq, Bool.or_false, Bool.true_or, Bool.and_false, Bool.false_and, Bool.not_true, Bool.not_false, Option.isSome_some, Option.isSome_none, Option.getD_some, List.getElem?_cons_zero, List.getElem?_cons_succ, eq_self, and_self, List.take_succ_cons, List.take_zero, List.drop_succ_cons, List.drop_zero]
  obtain ⟨⟨h0, hm, g3, g2, g1⟩, hK⟩ := hK
  clear hok hos
  exact ⟨by omega, ⟨by omega, by omega, by omega, by omega, by omega⟩, by kernel_rfl, retN [0, 1, 2, 3, 4, 5, 6] rfl hK⟩
def c_doN3 : Ctr Try.prog := ⟨108, ent Try.func108 rfl rfl, [false, false, true, true], sp_doN3, good_doN3, []⟩
@[go_sem] theorem c_doN3_f : c_doN3.f = 108 := rfl
@[go_sem] theorem c_doN3_ms : c_doN3.ms = [false, false, true, true] := rfl
@[go_sem] theorem c_doN3_sp : c_doN3.spec = sp_doN3 := rfl
@[go_sem] theorem c_doN3_fz : c_doN3.fz = [] := rfl
attribute [go_sem] sp_doN3
def sp_doN4 : List Cv → List Obj' → Tree
  | [.one (.v (.slice none 0 0)), .one (.v (.int .i64 k)), .one (.ptr 0 0), .one (.ptr 1 0)], [.box 76 [.fn 108 [2, 3]], .box 22 [.ro (.int .i64) h4], .box 76 [.fn 108 [4, 5]], .box 22 [.ro (.int .i64) h3], .box 76 [.fn 108 [6, 7]], .box 22 [.ro (.int .i64) h2], .box 76 [.fn 84 [8]], .box 22 [.ro (.int .i64) h1], .box 2 [.v (.int .i64 m)]] => .need (0 ≤ m ∧ m ≤ 1000 ∧ h4.length ≤ 100 ∧ h3.length ≤ 100 ∧ h2.length ≤ 100 ∧ h1.length ≤ 100) (.ret (.tup []) [.box 76 [.fn 108 [2, 3]], .box 22 [.ro (.int .i64) h4], .box 76 [.fn 108 [4, 5]], .box 22 [.ro (.int .i64) h3], .box 76 [.fn 108 [6, 7]], .box 22 [.ro (.int .i64) h2], .box 76 [.fn 84 [8]], .box 22 [.ro (.int .i64) h1], .box 2 [.v (.int .i64 (m + 1))]])
  | _, _ => .fail
set_option maxHeartbeats 4000000 in
set_option maxRecDepth 100000 in
theorem good_doN4 : Good Try.prog 108 sp_doN4 := by
  refine good_ofF Try.func108 rfl _ rfl _ rfl (tab [c_joinN, c_doR3]) (fun X cs os0 K hok hos hK => ?_)
  unfold sp_doN4 at hK
  split at hK
  case h_2 => exact hK.elim
  rename_i k h4 h3 h2 h1 m
  refine ⟨by simp, by simp, ?_⟩
  simp only [go_sem] at hK hok hos
  simp (maxSteps := 4000000) only [go_sem, Try.f108, ↓brB_t, ↓brB_f, Nat.reduceAdd, Int.reduceLE, Int.reduceLT, Int.reduceNeg, decide_true, decide_false, Bool.and_self, Nat.succ_eq_add_one, Int.toNat_natCast, Nat.beq_refl, Bool.and_true, Bool.true_and, Bool.false_or, Bool.or_true, List.all_cons, List.all_nil, Nat.reduceMul, Nat.add_zero, Nat.zero_add, List.length_nil, List.length_cons, dite_true, List.nil_append, Nat.reduceBEq, reduceDIte, reduceIte, reduceCtorEq, Bool.or_false, Bool.true_or, Bool.and_false, Bool.false_and, Bool.not_true, Bool.not_false, Option.isSome_some, Option.isSome_none, Option.getD_some, List.getElem?_cons_zero, List.getElem?_cons_succ, eq_self, and_self, List.take_succ_cons, List.take_zero, List.drop_succ_cons, List.drop_zero]
  obtain ⟨⟨h0, hm, g4, g3, g2, g1⟩, hK⟩ := hK
  clear hok hos
  exact ⟨by omega, ⟨by omega, by omega, by omega, by omega, by omega, by omega⟩, by kernel_rfl, retN [0, 1, 2, 3, 4, 5, 6, 7, 8] rfl hK⟩
def c_doN4 : Ctr Try.prog := ⟨108, ent Try.func108 rfl rfl, [false, false, true, true], sp_doN4, good_doN4, []⟩
@[go_sem] theorem c_doN4_f : c_doN4.f = 108 := rfl
@[go_sem] theorem c_doN4_ms : c_doN4.ms = [false, false, true, true] := rfl
@[go_sem] theorem c_doN4_sp : c_doN4.spec = sp_doN4 := rfl
@[go_sem] theorem c_doN4_fz : c_doN4.fz = [] := rfl
attribute [go_sem] sp_doN4
end Go.Proofs.Ytihfncjpfgdhoaa.V
