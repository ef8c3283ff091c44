/- Contracts: comparisons, what a sum is, by the program. Conditions: told by each spec. -/
import Derived.Test.YtokakggilajjlaaVS2
import Derived.Test.YtokakggilajjlaaVW12
set_option linter.unusedVariables false
set_option linter.unusedSimpArgs false
namespace Go.Proofs.Ytokakggilajjlaa.V
open Go
def sp_nan : List Cv → List Obj' → Tree
  | [.one (.v (.int .i64 x))], [] => .ret (vb false) []
  | _, _ => .fail
set_option maxHeartbeats 4000000 in
set_option maxRecDepth 100000 in
theorem good_nan : Good Try.prog 201 sp_nan := by
  refine good_ofF Try.func201 rfl _ rfl _ rfl (tab []) (fun X cs os0 K hok hos hK => ?_)
  clear hos; unfold sp_nan at hK
  split at hK
  case h_2 => exact hK.elim
  rename_i x
  refine ⟨by simp, by simp, ?_⟩
  simp only [go_sem] at hK hok
  simp (maxSteps := 4000000) only [go_sem, Try.f201, ↓brB_t, ↓brB_f, Nat.reduceAdd, Int.reduceLE, Int.reduceLT, Int.reduceNeg, decide_true, decide_false, Bool.and_self, Nat.succ_eq_add_one, Int.toNat_natCast, Nat.beq_refl, Bool.and_true, Bool.true_and, Bool.false_or, Bool.or_true, List.all_cons, List.all_nil, Nat.reduceMul, Nat.add_zero, Nat.zero_add, List.length_nil, List.length_cons, dite_true, List.nil_append, Nat.reduceBEq, reduceDIte, reduceIte, reduceCtorEq, Bool.or_false, Bool.true_or, Bool.and_false, Bool.false_and, Bool.not_true, Bool.not_false, Option.isSome_some, Option.isSome_none, Option.getD_some, List.getElem?_cons_zero, List.getElem?_cons_succ, eq_self, and_self, List.take_succ_cons, List.take_zero, List.drop_succ_cons, List.drop_zero]
  exact ret0 hK
def c_nan : Ctr Try.prog := ⟨201, ent Try.func201 rfl rfl, [], sp_nan, good_nan, []⟩
@[go_sem] theorem c_nan_f : c_nan.f = 201 := rfl
@[go_sem] theorem c_nan_ms : c_nan.ms = [] := rfl
@[go_sem] theorem c_nan_sp : c_nan.spec = sp_nan := rfl
@[go_sem] theorem c_nan_fz : c_nan.fz = [] := rfl
attribute [go_sem] sp_nan
set_option maxHeartbeats 4000000 in
set_option maxRecDepth 100000 in
theorem good_nan64 : Good Try.prog 220 sp_nan := by
  refine good_ofF Try.func220 rfl _ rfl _ rfl (tab []) (fun X cs os0 K hok hos hK => ?_)
  clear hos; unfold sp_nan at hK
  split at hK
  case h_2 => exact hK.elim
  rename_i x
  refine ⟨by simp, by simp, ?_⟩
  simp only [go_sem] at hK hok
  simp (maxSteps := 4000000) only [go_sem, Try.f220, ↓brB_t, ↓brB_f, Nat.reduceAdd, Int.reduceLE, Int.reduceLT, Int.reduceNeg, decide_true, decide_false, Bool.and_self, Nat.succ_eq_add_one, Int.toNat_natCast, Nat.beq_refl, Bool.and_true, Bool.true_and, Bool.false_or, Bool.or_true, List.all_cons, List.all_nil, Nat.reduceMul, Nat.add_zero, Nat.zero_add, List.length_nil, List.length_cons, dite_true, List.nil_append, Nat.reduceBEq, reduceDIte, reduceIte, reduceCtorEq, Bool.or_false, Bool.true_or, Bool.and_false, Bool.false_and, Bool.not_true, Bool.not_false, Option.isSome_some, Option.isSome_none, Option.getD_some, List.getElem?_cons_zero, List.getElem?_cons_succ, eq_self, and_self, List.take_succ_cons, List.take_zero, List.drop_succ_cons, List.drop_zero]
  exact ret0 hK
def c_nan64 : Ctr Try.prog := ⟨220, ent Try.func220 rfl rfl, [], sp_nan, good_nan64, []⟩
@[go_sem] theorem c_nan64_f : c_nan64.f = 220 := rfl
@[go_sem] theorem c_nan64_ms : c_nan64.ms = [] := rfl
@[go_sem] theorem c_nan64_sp : c_nan64.spec = sp_nan := rfl
@[go_sem] theorem c_nan64_fz : c_nan64.fz = [] := rfl
attribute [go_sem] sp_nan
def cmpI (x y : Int) : Int := if x < y then -1 else if y < x then 1 else 0
def sp_cmp : List Cv → List Obj' → Tree
  | [.one (.v (.int .i64 x)), .one (.v (.int .i64 y))], [] => .ret (vi (cmpI x y)) []
  | _, _ => .fail
set_option maxHeartbeats 4000000 in
set_option maxRecDepth 100000 in
theorem good_cmp : Good Try.prog 160 sp_cmp := by
  refine good_ofF Try.func160 rfl _ rfl _ rfl (tab [c_nan]) (fun X cs os0 K hok hos hK => ?_)
  clear hos; unfold sp_cmp at hK
  split at hK
  case h_2 => exact hK.elim
  rename_i x y
  refine ⟨by simp, by simp, ?_⟩
  simp only [go_sem] at hK hok
  simp (maxSteps := 4000000) only [go_sem, Try.f160, ↓brB_t, ↓brB_f, Nat.reduceAdd, Int.reduceLE, Int.reduceLT, Int.reduceNeg, decide_true, decide_false, Bool.and_self, Nat.succ_eq_add_one, Int.toNat_natCast, Nat.beq_refl, Bool.and_true, Bool.true_and, Bool.false_or, Bool.or_true, List.all_cons, List.all_nil, Nat.reduceMul, Nat.add_zero, Nat.zero_add, List.length_nil, List.length_cons, dite_true, List.nil_append, Nat.reduceBEq, reduceDIte, reduceIte, reduceCtorEq, Bool.or_false, Bool.true_or, Bool.and_false, Bool.false_and, Bool.not_true, Bool.not_false, Option.isSome_some, Option.isSome_none, Option.getD_some, List.getElem?_cons_zero, List.getElem?_cons_succ, eq_self, and_self, List.take_succ_cons, List.take_zero, List.drop_succ_cons, List.drop_zero]
  clear hok
  refine brB_intro (fun h => ret0 ?_) (fun h => brB_intro (fun h2 => ret0 ?_) (fun h2 => ret0 ?_))
  · rw [cmpI, if_pos (of_decide_eq_true h)] at hK; exact hK
  · rw [cmpI, if_neg (of_decide_eq_false h), if_pos (of_decide_eq_true h2)] at hK; exact hK
  · rw [cmpI, if_neg (of_decide_eq_false h), if_neg (of_decide_eq_false h2)] at hK; exact hK
def c_cmp : Ctr Try.prog := ⟨160, ent Try.func160 rfl rfl, [], sp_cmp, good_cmp, []⟩
@[go_sem] theorem c_cmp_f : c_cmp.f = 160 := rfl
@[go_sem] theorem c_cmp_ms : c_cmp.ms = [] := rfl
@[go_sem] theorem c_cmp_sp : c_cmp.spec = sp_cmp := rfl
@[go_sem] theorem c_cmp_fz : c_cmp.fz = [] := rfl
attribute [go_sem] sp_cmp
set_option maxHeartbeats 4000000 in
set_option maxRecDepth 100000 in
theorem good_cmp64 : Good Try.prog 202 sp_cmp := by
  refine good_ofF Try.func202 rfl _ rfl _ rfl (tab [c_nan64]) (fun X cs os0 K hok hos hK => ?_)
  clear hos; unfold sp_cmp at hK
  split at hK
  case h_2 => exact hK.elim
  rename_i x y
  refine ⟨by simp, by simp, ?_⟩
  simp only [go_sem] at hK hok
  simp (maxSteps := 4000000) only [go_sem, Try.f202, ↓brB_t, ↓brB_f, Nat.reduceAdd, Int.reduceLE, Int.reduceLT, Int.reduceNeg, decide_true, decide_false, Bool.and_self, Nat.succ_eq_add_one, Int.toNat_natCast, Nat.beq_refl, Bool.and_true, Bool.true_and, Bool.false_or, Bool.or_true, List.all_cons, List.all_nil, Nat.reduceMul, Nat.add_zero, Nat.zero_add, List.length_nil, List.length_cons, dite_true, List.nil_append, Nat.reduceBEq, reduceDIte, reduceIte, reduceCtorEq, Bool.or_false, Bool.true_or, Bool.and_false, Bool.false_and, Bool.not_true, Bool.not_false, Option.isSome_some, Option.isSome_none, Option.getD_some, List.getElem?_cons_zero, List.getElem?_cons_succ, eq_self, and_self, List.take_succ_cons, List.take_zero, List.drop_succ_cons, List.drop_zero]
  clear hok
  refine brB_intro (fun h => ret0 ?_) (fun h => brB_intro (fun h2 => ret0 ?_) (fun h2 => ret0 ?_))
  · rw [cmpI, if_pos (of_decide_eq_true h)] at hK; exact hK
  · rw [cmpI, if_neg (of_decide_eq_false h), if_pos (of_decide_eq_true h2)] at hK; exact hK
  · rw [cmpI, if_neg (of_decide_eq_false h), if_neg (of_decide_eq_false h2)] at hK; exact hK
def c_cmp64 : Ctr Try.prog := ⟨202, ent Try.func202 rfl rfl, [], sp_cmp, good_cmp64, []⟩
@[go_sem] theorem c_cmp64_f : c_cmp64.f = 202 := rfl
@[go_sem] theorem c_cmp64_ms : c_cmp64.ms = [] := rfl
@[go_sem] theorem c_cmp64_sp : c_cmp64.spec = sp_cmp := rfl
@[go_sem] theorem c_cmp64_fz : c_cmp64.fz = [] := rfl
attribute [go_sem] sp_cmp
def cmpL : List Int → List Int → Int
  | [], [] => 0
  | [], _ :: _ => -1
  | _ :: _, [] => 1
  | x :: a, y :: b => if cmpI x y = 0 then cmpL a b else cmpI x y
def sp_cmpS : List Cv → List Obj' → Tree
  | [.one (.ro (.int .i64) a), .one (.ro (.int .i64) b)], [] => .ret (vi (cmpL a b)) []
  | _, _ => .fail
theorem cmpL_s {a b : List Int} {i : Nat} (h : i < a.length) (hb : i < b.length) : cmpL (a.drop i) (b.drop i) = if cmpI (a.getD i 0) (b.getD i 0) = 0 then cmpL (a.drop (i + 1)) (b.drop (i + 1)) else cmpI (a.getD i 0) (b.getD i 0) := by
  rw [List.drop_eq_getElem_cons h, List.drop_eq_getElem_cons hb, cmpL, getD_eq h, getD_eq hb]
theorem cmpL_e {a b : List Int} {i : Nat} (h : i < a.length) (hb : ¬ i < b.length) : cmpL (a.drop i) (b.drop i) = 1 := by
  have e : b.drop i = [] := List.drop_eq_nil_of_le (by omega)
  rw [List.drop_eq_getElem_cons h, e, cmpL]
theorem cmpL_0 {a b : List Int} {i : Nat} (h : ¬ i < a.length) : cmpL (a.drop i) (b.drop i) = if i < b.length then -1 else 0 := by
  rw [List.drop_eq_nil_of_le (by omega)]
  split
  · rename_i hb
    rw [List.drop_eq_getElem_cons hb, cmpL]
  · rw [List.drop_eq_nil_of_le (by omega), cmpL]
set_option maxHeartbeats 4000000 in
set_option maxRecDepth 100000 in
theorem good_cmpS : Good Try.prog 161 sp_cmpS := by
  refine good_ofF Try.func161 rfl _ rfl _ rfl (tab [c_cmp64]) (fun X cs os0 K hok hos hK => ?_)
  clear hos; unfold sp_cmpS at hK
  split at hK
  case h_2 => exact hK.elim
  rename_i a b
  refine ⟨by simp, by simp, ?_⟩
  simp only [go_sem] at hK hok
  simp (maxSteps := 4000000) only [go_sem, Try.f161, ↓brB_t, ↓brB_f, Nat.reduceAdd, Int.reduceLE, Int.reduceLT, Int.reduceNeg, decide_true, decide_false, Bool.and_self, Nat.succ_eq_add_one, Int.toNat_natCast, Nat.beq_refl, Bool.and_true, Bool.true_and, Bool.false_or, Bool.or_true, List.all_cons, List.all_nil, Nat.reduceMul, Nat.add_zero, Nat.zero_add, List.length_nil, List.length_cons, dite_true, List.nil_append, Nat.reduceBEq, reduceDIte, reduceIte, reduceCtorEq, Bool.or_false, Bool.true_or, Bool.and_false, Bool.false_and, Bool.not_true, Bool.not_false, Option.isSome_some, Option.isSome_none, Option.getD_some, List.getElem?_cons_zero, List.getElem?_cons_succ, eq_self, and_self, List.take_succ_cons, List.take_zero, List.drop_succ_cons, List.drop_zero]
  have hl := len_i hok.1.1
  clear hok
  refine loop_okF (T := tab [c_cmp64]) [0, 1, 9, 10, 11] [] (fun i : Nat => ⟨36, [(0, ri a), (1, ri b), (9, ri a), (10, vi (a.length : Nat)), (11, vi i)], []⟩)
    (fun i => i ≤ a.length ∧ i ≤ b.length ∧ cmpL a b = cmpL (a.drop i) (b.drop i)) (fun i => a.length - i) 0 rfl rfl ⟨Nat.zero_le _, Nat.zero_le _, rfl⟩ (fun i hi => ?_)
  obtain ⟨hi, hib, hm⟩ := hi
  simp only [go_sem, ↓brB_t, ↓brB_f, Nat.reduceAdd, Int.reduceLE, Int.reduceLT, Int.reduceNeg, decide_true, decide_false, Bool.and_self, Nat.succ_eq_add_one, Int.toNat_natCast, Nat.beq_refl, Bool.and_true, Bool.true_and, Bool.false_or, Bool.or_true, List.all_cons, List.all_nil, Nat.reduceMul, Nat.add_zero, Nat.zero_add, List.length_nil, List.length_cons, dite_true, List.nil_append, Nat.reduceBEq, reduceDIte, reduceIte, reduceCtorEq, Bool.or_false, Bool.true_or, Bool.and_false, Bool.false_and, Bool.not_true, Bool.not_false, Option.isSome_some, Option.isSome_none, Option.getD_some, List.getElem?_cons_zero, List.getElem?_cons_succ, eq_self, and_self, List.take_succ_cons, List.take_zero, List.drop_succ_cons, List.drop_zero]
  refine brB_intro (fun h1 => ?_) (fun h1 => ?_)
  · have h1 := of_decide_eq_true h1
    have hw : w64 ((i : Int) + 1) = ((i + 1 : Nat) : Int) := w64_s (n := a.length) (by omega) hl
    refine ⟨⟨by omega, by omega⟩, brB_intro (fun h2 => ret0 ?_) (fun h2 => ?_)⟩
    · have h2 := of_decide_eq_true h2
      rw [hm, cmpL_e (by omega) (by omega)] at hK; exact hK
    · have h2 := of_decide_eq_false h2
      have hs := cmpL_s (a := a) (b := b) (i := i) (by omega) (by omega)
      refine ⟨⟨by omega, by omega⟩, brB_intro (fun h3 => ret0 ?_) (fun h3 => ⟨i + 1, [], ⟨by omega, by omega, ?_⟩, by omega, rfl, by rw [hw]; rfl⟩)⟩
      · rw [if_neg (of_decide_eq_false (snb h3))] at hs
        rw [hm, hs] at hK; exact hK
      · rw [if_pos (of_decide_eq_true (snb' h3))] at hs
        rw [hm, hs]
  · have h1 := of_decide_eq_false h1
    have h0 := cmpL_0 (a := a) (b := b) (i := i) (by omega)
    refine brB_intro (fun h2 => ret0 ?_) (fun h2 => ret0 ?_)
    · have h2 := of_decide_eq_true h2
      rw [if_pos (by omega)] at h0
      rw [hm, h0] at hK; exact hK
    · have h2 := of_decide_eq_false h2
      rw [if_neg (by omega)] at h0
      rw [hm, h0] at hK; exact hK
def c_cmpS : Ctr Try.prog := ⟨161, ent Try.func161 rfl rfl, [], sp_cmpS, good_cmpS, []⟩
@[go_sem] theorem c_cmpS_f : c_cmpS.f = 161 := rfl
@[go_sem] theorem c_cmpS_ms : c_cmpS.ms = [] := rfl
@[go_sem] theorem c_cmpS_sp : c_cmpS.spec = sp_cmpS := rfl
@[go_sem] theorem c_cmpS_fz : c_cmpS.fz = [] := rfl
attribute [go_sem] sp_cmpS
def orL : List Int → Int
  | [] => 0
  | x :: r => if x = 0 then orL r else x
def sp_or : List Cv → List Obj' → Tree
  | [.one (.ro (.int .i64) l)], [] => .ret (vi (orL l)) []
  | _, _ => .fail
theorem orL_s {l : List Int} {i : Nat} (h : i < l.length) : orL (l.drop i) = if l.getD i 0 = 0 then orL (l.drop (i + 1)) else l.getD i 0 := by
  rw [List.drop_eq_getElem_cons h, orL, getD_eq h]
set_option maxHeartbeats 4000000 in
set_option maxRecDepth 100000 in
theorem good_or : Good Try.prog 145 sp_or := by
  refine good_ofF Try.func145 rfl _ rfl _ rfl (tab []) (fun X cs os0 K hok hos hK => ?_)
  clear hos; unfold sp_or at hK
  split at hK
  case h_2 => exact hK.elim
  rename_i l
  refine ⟨by simp, by simp, ?_⟩
  simp only [go_sem] at hK hok
  simp (maxSteps := 4000000) only [go_sem, Try.f145, ↓brB_t, ↓brB_f, Nat.reduceAdd, Int.reduceLE, Int.reduceLT, Int.reduceNeg, decide_true, decide_false, Bool.and_self, Nat.succ_eq_add_one, Int.toNat_natCast, Nat.beq_refl, Bool.and_true, Bool.true_and, Bool.false_or, Bool.or_true, List.all_cons, List.all_nil, Nat.reduceMul, Nat.add_zero, Nat.zero_add, List.length_nil, List.length_cons, dite_true, List.nil_append, Nat.reduceBEq, reduceDIte, reduceIte, reduceCtorEq, Bool.or_false, Bool.true_or, Bool.and_false, Bool.false_and, Bool.not_true, Bool.not_false, Option.isSome_some, Option.isSome_none, Option.getD_some, List.getElem?_cons_zero, List.getElem?_cons_succ, eq_self, and_self, List.take_succ_cons, List.take_zero, List.drop_succ_cons, List.drop_zero]
  have hl := len_i hok.1.1
  clear hok
  refine loop_okF (T := tab []) [3, 6, 7, 8] [] (fun i : Nat => ⟨18, [(3, vi 0), (6, ri l), (7, vi (l.length : Nat)), (8, vi i)], []⟩)
    (fun i => i ≤ l.length ∧ orL l = orL (l.drop i)) (fun i => l.length - i) 0 rfl rfl ⟨Nat.zero_le _, rfl⟩ (fun i hi => ?_)
  obtain ⟨hi, hm⟩ := hi
  simp only [go_sem, ↓brB_t, ↓brB_f, Nat.reduceAdd, Int.reduceLE, Int.reduceLT, Int.reduceNeg, decide_true, decide_false, Bool.and_self, Nat.succ_eq_add_one, Int.toNat_natCast, Nat.beq_refl, Bool.and_true, Bool.true_and, Bool.false_or, Bool.or_true, List.all_cons, List.all_nil, Nat.reduceMul, Nat.add_zero, Nat.zero_add, List.length_nil, List.length_cons, dite_true, List.nil_append, Nat.reduceBEq, reduceDIte, reduceIte, reduceCtorEq, Bool.or_false, Bool.true_or, Bool.and_false, Bool.false_and, Bool.not_true, Bool.not_false, Option.isSome_some, Option.isSome_none, Option.getD_some, List.getElem?_cons_zero, List.getElem?_cons_succ, eq_self, and_self, List.take_succ_cons, List.take_zero, List.drop_succ_cons, List.drop_zero]
  refine brB_intro (fun h1 => ?_) (fun h1 => ret0 ?_)
  · have h1 := of_decide_eq_true h1
    have hw : w64 ((i : Int) + 1) = ((i + 1 : Nat) : Int) := w64_s (n := l.length) (by omega) hl
    have hs := orL_s (l := l) (i := i) (by omega)
    refine ⟨⟨by omega, by omega⟩, brB_intro (fun h2 => ret0 ?_) (fun h2 => ⟨i + 1, [], ⟨by omega, ?_⟩, by omega, rfl, by rw [hw]; rfl⟩)⟩
    · rw [if_neg (of_decide_eq_false (snb h2))] at hs
      rw [hm, hs] at hK; exact hK
    · rw [if_pos (of_decide_eq_true (snb' h2))] at hs
      rw [hm, hs]
  · have h1 := of_decide_eq_false h1
    rw [hm, List.drop_eq_nil_of_le (by omega)] at hK; exact hK
def c_or : Ctr Try.prog := ⟨145, ent Try.func145 rfl rfl, [], sp_or, good_or, []⟩
@[go_sem] theorem c_or_f : c_or.f = 145 := rfl
@[go_sem] theorem c_or_ms : c_or.ms = [] := rfl
@[go_sem] theorem c_or_sp : c_or.spec = sp_or := rfl
@[go_sem] theorem c_or_fz : c_or.fz = [] := rfl
attribute [go_sem] sp_or
def sp_wordOrder : List Cv → List Obj' → Tree
  | [.one (.ro (.int .i64) a), .one (.ro (.int .i64) b)], [] => .ret (vi (orL [cmpI a.length b.length, cmpL a b])) []
  | _, _ => .fail
set_option maxHeartbeats 4000000 in
set_option maxRecDepth 100000 in
theorem good_wordOrder : Good Try.prog 115 sp_wordOrder := by
  refine good_ofF Try.func115 rfl _ rfl _ rfl (tab [c_cmp, c_cmpS, c_or]) (fun X cs os0 K hok hos hK => ?_)
  clear hos; unfold sp_wordOrder at hK
  split at hK
  case h_2 => exact hK.elim
  rename_i a b
  refine ⟨by simp, by simp, ?_⟩
  simp only [go_sem] at hK hok
  simp (maxSteps := 4000000) only [go_sem, Try.f115, ↓brB_t, ↓brB_f, Nat.reduceAdd, Int.reduceLE, Int.reduceLT, Int.reduceNeg, decide_true, decide_false, Bool.and_self, Nat.succ_eq_add_one, Int.toNat_natCast, Nat.beq_refl, Bool.and_true, Bool.true_and, Bool.false_or, Bool.or_true, List.all_cons, List.all_nil, Nat.reduceMul, Nat.add_zero, Nat.zero_add, List.length_nil, List.length_cons, dite_true, List.nil_append, Nat.reduceBEq, reduceDIte, reduceIte, reduceCtorEq, Bool.or_false, Bool.true_or, Bool.and_false, Bool.false_and, Bool.not_true, Bool.not_false, Option.isSome_some, Option.isSome_none, Option.getD_some, List.getElem?_cons_zero, List.getElem?_cons_succ, eq_self, and_self, List.take_succ_cons, List.take_zero, List.drop_succ_cons, List.drop_zero]
  exact ret0 hK
def c_wordOrder : Ctr Try.prog := ⟨115, ent Try.func115 rfl rfl, [], sp_wordOrder, good_wordOrder, []⟩
@[go_sem] theorem c_wordOrder_f : c_wordOrder.f = 115 := rfl
@[go_sem] theorem c_wordOrder_ms : c_wordOrder.ms = [] := rfl
@[go_sem] theorem c_wordOrder_sp : c_wordOrder.spec = sp_wordOrder := rfl
@[go_sem] theorem c_wordOrder_fz : c_wordOrder.fz = [] := rfl
attribute [go_sem] sp_wordOrder
theorem cmpL_lex : ∀ {a b : List Int}, a.length = b.length → decide (0 ≤ cmpL a b) = !lexLt a b
  | [], [], _ => rfl
  | [], _ :: _, h => by simp at h
  | _ :: _, [], h => by simp at h
  | x :: a, y :: b, h => by
    have ih := cmpL_lex (a := a) (b := b) (by simpa using h)
    rw [cmpL, lexLt]
    by_cases e : x = y
    · subst e
      have e0 : cmpI x x = 0 := by rw [cmpI, if_neg (by omega), if_neg (by omega)]
      rw [if_pos e0, if_pos rfl, ih]
    · rw [if_neg e]
      by_cases l : x < y
      · have e1 : cmpI x y = -1 := by rw [cmpI, if_pos l]
        rw [e1, if_neg (by omega), decide_eq_true l]; rfl
      · have e1 : cmpI x y = 1 := by rw [cmpI, if_neg l, if_pos (by omega)]
        rw [e1, if_neg (by omega), decide_eq_false l]; rfl
theorem order_before (a b : List Int) : decide (0 ≤ orL [cmpI a.length b.length, cmpL a b]) = !beforeB a b := by
  rw [beforeB, orL]
  by_cases e : a.length = b.length
  · have e0 : cmpI (a.length : Int) b.length = 0 := by rw [cmpI, if_neg (by omega), if_neg (by omega)]
    rw [if_pos e0, if_pos e, ← cmpL_lex e, orL]
    split
    · rename_i h; rw [h]; rfl
    · rfl
  · rw [if_neg e]
    by_cases l : a.length < b.length
    · have e1 : cmpI (a.length : Int) b.length = -1 := by rw [cmpI, if_pos (by omega)]
      rw [e1, if_neg (by omega), decide_eq_true l]; rfl
    · have e1 : cmpI (a.length : Int) b.length = 1 := by rw [cmpI, if_neg (by omega), if_pos (by omega)]
      rw [e1, if_neg (by omega), decide_eq_false l]; rfl
def sp_has : List Cv → List Obj' → Tree
  | [.one (.ro (.int .i64) l), .one (.v (.int .i64 x))], [] => .ret (vb (decide ((x : Int) ∈ (l : List Int)))) []
  | _, _ => .fail
theorem idxI_mem (l : List Int) (x : Int) : decide (0 ≤ idxI l x) = decide (x ∈ l) := by
  by_cases h : x ∈ l
  · rw [decide_eq_true h]
    unfold idxI
    cases e : l.idxOf? x with
    | some j => simp
    | none => exact absurd h (by simpa [List.idxOf?_eq_none_iff] using e)
  · rw [decide_eq_false h, idxI_none h]; rfl
set_option maxHeartbeats 4000000 in
set_option maxRecDepth 100000 in
theorem good_has : Good Try.prog 135 sp_has := by
  refine good_ofF Try.func135 rfl _ rfl _ rfl (tab [c_index]) (fun X cs os0 K hok hos hK => ?_)
  clear hos; unfold sp_has at hK
  split at hK
  case h_2 => exact hK.elim
  rename_i l x
  refine ⟨by simp, by simp, ?_⟩
  simp only [go_sem] at hK hok
  simp (maxSteps := 4000000) only [go_sem, Try.f135, ↓brB_t, ↓brB_f, Nat.reduceAdd, Int.reduceLE, Int.reduceLT, Int.reduceNeg, decide_true, decide_false, Bool.and_self, Nat.succ_eq_add_one, Int.toNat_natCast, Nat.beq_refl, Bool.and_true, Bool.true_and, Bool.false_or, Bool.or_true, List.all_cons, List.all_nil, Nat.reduceMul, Nat.add_zero, Nat.zero_add, List.length_nil, List.length_cons, dite_true, List.nil_append, Nat.reduceBEq, reduceDIte, reduceIte, reduceCtorEq, Bool.or_false, Bool.true_or, Bool.and_false, Bool.false_and, Bool.not_true, Bool.not_false, Option.isSome_some, Option.isSome_none, Option.getD_some, List.getElem?_cons_zero, List.getElem?_cons_succ, eq_self, and_self, List.take_succ_cons, List.take_zero, List.drop_succ_cons, List.drop_zero]
  clear hok
  rw [← idxI_mem] at hK
  exact ret0 hK
def c_has : Ctr Try.prog := ⟨135, ent Try.func135 rfl rfl, [], sp_has, good_has, []⟩
@[go_sem] theorem c_has_f : c_has.f = 135 := rfl
@[go_sem] theorem c_has_ms : c_has.ms = [] := rfl
@[go_sem] theorem c_has_sp : c_has.spec = sp_has := rfl
@[go_sem] theorem c_has_fz : c_has.fz = [] := rfl
attribute [go_sem] sp_has
set_option maxHeartbeats 4000000 in
set_option maxRecDepth 100000 in
theorem good_isPrime : Good Try.prog 78 sp_prime := by
  refine good_ofF Try.func78 rfl _ rfl _ rfl (tab [c_has]) (fun X cs os0 K hok hos hK => ?_)
  clear hos; unfold sp_prime at hK
  split at hK
  case h_2 => exact hK.elim
  rename_i p
  refine ⟨by simp, by simp, ?_⟩
  simp only [go_sem] at hK hok
  simp (maxSteps := 4000000) only [go_sem, Try.f78, ↓brB_t, ↓brB_f, Nat.reduceAdd, Int.reduceLE, Int.reduceLT, Int.reduceNeg, decide_true, decide_false, Bool.and_self, Nat.succ_eq_add_one, Int.toNat_natCast, Nat.beq_refl, Bool.and_true, Bool.true_and, Bool.false_or, Bool.or_true, List.all_cons, List.all_nil, Nat.reduceMul, Nat.add_zero, Nat.zero_add, List.length_nil, List.length_cons, dite_true, List.nil_append, Nat.reduceBEq, reduceDIte, reduceIte, reduceCtorEq, Bool.or_false, Bool.true_or, Bool.and_false, Bool.false_and, Bool.not_true, Bool.not_false, Option.isSome_some, Option.isSome_none, Option.getD_some, List.getElem?_cons_zero, List.getElem?_cons_succ, eq_self, and_self, List.take_succ_cons, List.take_zero, List.drop_succ_cons, List.drop_zero]
  clear hok
  have e : decide (p ∈ ([2, 3, 5, 7, 11, 13] : List Int)) = primeB p := by
    rw [primeB, Bool.eq_iff_iff]
    simp only [decide_eq_true_eq, Bool.or_eq_true, List.mem_cons, List.not_mem_nil, or_false]
  rw [← e] at hK
  exact ret0 hK
def c_isPrime : Ctr Try.prog := ⟨78, ent Try.func78 rfl rfl, [], sp_prime, good_isPrime, []⟩
@[go_sem] theorem c_isPrime_f : c_isPrime.f = 78 := rfl
@[go_sem] theorem c_isPrime_ms : c_isPrime.ms = [] := rfl
@[go_sem] theorem c_isPrime_sp : c_isPrime.spec = sp_prime := rfl
@[go_sem] theorem c_isPrime_fz : c_isPrime.fz = [] := rfl
attribute [go_sem] sp_prime
def sp_rest : List Cv → List Obj' → Tree
  | [.one (.v (.int .i64 x)), .one (.v (.int .i64 p))], [] => .need (p ≠ 0) (.ret (vi (modI p x)) [])
  | _, _ => .fail
set_option maxHeartbeats 4000000 in
set_option maxRecDepth 100000 in
theorem good_rest : Good Try.prog 92 sp_rest := by
  refine good_ofF Try.func92 rfl _ rfl _ rfl (tab []) (fun X cs os0 K hok hos hK => ?_)
  clear hos; unfold sp_rest at hK
  split at hK
  case h_2 => exact hK.elim
  rename_i x p
  refine ⟨by simp, by simp, ?_⟩
  simp only [go_sem] at hK hok
  simp (maxSteps := 4000000) only [go_sem, Try.f92, ↓brB_t, ↓brB_f, Nat.reduceAdd, Int.reduceLE, Int.reduceLT, Int.reduceNeg, decide_true, decide_false, Bool.and_self, Nat.succ_eq_add_one, Int.toNat_natCast, Nat.beq_refl, Bool.and_true, Bool.true_and, Bool.false_or, Bool.or_true, List.all_cons, List.all_nil, Nat.reduceMul, Nat.add_zero, Nat.zero_add, List.length_nil, List.length_cons, dite_true, List.nil_append, Nat.reduceBEq, reduceDIte, reduceIte, reduceCtorEq, Bool.or_false, Bool.true_or, Bool.and_false, Bool.false_and, Bool.not_true, Bool.not_false, Option.isSome_some, Option.isSome_none, Option.getD_some, List.getElem?_cons_zero, List.getElem?_cons_succ, eq_self, and_self, List.take_succ_cons, List.take_zero, List.drop_succ_cons, List.drop_zero]
  clear hok
  exact ⟨hK.1, hK.1, ret0 hK.2⟩
def c_rest : Ctr Try.prog := ⟨92, ent Try.func92 rfl rfl, [], sp_rest, good_rest, []⟩
@[go_sem] theorem c_rest_f : c_rest.f = 92 := rfl
@[go_sem] theorem c_rest_ms : c_rest.ms = [] := rfl
@[go_sem] theorem c_rest_sp : c_rest.spec = sp_rest := rfl
@[go_sem] theorem c_rest_fz : c_rest.fz = [] := rfl
attribute [go_sem] sp_rest
end Go.Proofs.Ytokakggilajjlaa.V
