/- Contracts: small functions of words. Conditions: told by each spec. -/
import Derived.Test.YtbnmjhcokdhjmaaVTy
set_option linter.unusedVariables false
set_option linter.unusedSimpArgs false
namespace Go.Proofs.Ytbnmjhcokdhjmaa.V
open Go
abbrev ri (l : List Int) : Rv := .val (.one (.ro (.int .i64) l))
abbrev vi (n : Int) : Rv := .val (.one (.v (.int .i64 n)))
abbrev vb (b : Bool) : Rv := .val (.one (.v (.bool b)))
abbrev ow (i : Nat) : Rv := .val (.one (.own i))
abbrev rwi (l : List Int) : Obj' := .row 2 (.int .i64) l
theorem w64_id {x : Int} (h0 : -9223372036854775808 ≤ x) (h1 : x ≤ 9223372036854775807) : w64 x = x := by rw [w64_def]; omega
theorem len_i {α : Type} {l : List α} (h : l.length ≤ maxLen) : (l.length : Int) ≤ 9223372036854775807 := by unfold maxLen at h; omega
theorem w64_s {i n : Nat} (h : i < n) (hn : (n : Int) ≤ 9223372036854775807) : w64 ((i : Int) + 1) = ((i + 1 : Nat) : Int) := by rw [w64_id (by omega) (by omega)]; omega
theorem take_s {α : Type} {l m : List α} {i : Nat} {d : α} (h : l.take i = m.take i) (h1 : i < l.length) (h2 : i < m.length) (h3 : l.getD i d = m.getD i d) : l.take (i + 1) = m.take (i + 1) := by
  simp [List.getD_eq_getElem?_getD, h1, h2] at h3
  rw [List.take_succ_eq_append_getElem h1, List.take_succ_eq_append_getElem h2, h, h3]
def inB (n a b : Int) : Bool := decide (a ≤ n) && decide (n ≤ b)
/-! ### in -/
def sp_in : List Cv → List Obj' → Tree
  | [.one (.v (.int .i64 n)), .one (.v (.int .i64 a)), .one (.v (.int .i64 b))], [] => .ret (vb (inB n a b)) []
  | _, _ => .fail
set_option maxHeartbeats 4000000 in
set_option maxRecDepth 100000 in
theorem good_in : Good Try.prog 105 sp_in := by
  refine good_ofF Try.func105 rfl _ rfl _ rfl (tab []) (fun X cs os0 K hok hos hK => ?_)
  clear hos; unfold sp_in at hK
  split at hK
  case h_2 => exact hK.elim
  rename_i n a b
  refine ⟨by simp, by simp, ?_⟩
  simp only [go_sem] at hK hok
  simp (maxSteps := 4000000) only [go_sem, Try.f105, ↓brB_t, ↓brB_f, Nat.reduceAdd, Int.reduceLE, Int.reduceLT, Int.reduceNeg, decide_true, decide_false, Bool.and_self, Nat.succ_eq_add_one, Int.toNat_natCast, Nat.beq_refl, Bool.and_true, Bool.true_and, Bool.false_or, Bool.or_true, List.all_cons, List.all_nil, Nat.reduceMul, Nat.add_zero, Nat.zero_add, List.length_nil, List.length_cons, dite_true, List.nil_append, Nat.reduceBEq, reduceDIte, reduceIte, reduceCtorEq, Bool.or_false, Bool.true_or, Bool.and_false, Bool.false_and, Bool.not_true, Bool.not_false, Option.isSome_some, Option.isSome_none, Option.getD_some, List.getElem?_cons_zero, List.getElem?_cons_succ, eq_self, and_self, List.take_succ_cons, List.take_zero, List.drop_succ_cons, List.drop_zero]
  refine brB_intro (fun h => ret0 ?_) (fun h => ret0 ?_) <;> simpa [go_sem, inB, h] using hK
def c_in : Ctr Try.prog := ⟨105, ent Try.func105 rfl rfl, [], sp_in, good_in, []⟩
@[go_sem] theorem c_in_f : c_in.f = 105 := rfl
@[go_sem] theorem c_in_ms : c_in.ms = [] := rfl
@[go_sem] theorem c_in_sp : c_in.spec = sp_in := rfl
@[go_sem] theorem c_in_fz : c_in.fz = [] := rfl
attribute [go_sem] sp_in
set_option maxHeartbeats 4000000 in
set_option maxRecDepth 100000 in
theorem good_l01In : Good Try.prog 49 sp_in := by
  refine good_ofF Try.func49 rfl _ rfl _ rfl (tab []) (fun X cs os0 K hok hos hK => ?_)
  clear hos; unfold sp_in at hK
  split at hK
  case h_2 => exact hK.elim
  rename_i n a b
  refine ⟨by simp, by simp, ?_⟩
  simp only [go_sem] at hK hok
  simp (maxSteps := 4000000) only [go_sem, Try.f49, ↓brB_t, ↓brB_f, Nat.reduceAdd, Int.reduceLE, Int.reduceLT, Int.reduceNeg, decide_true, decide_false, Bool.and_self, Nat.succ_eq_add_one, Int.toNat_natCast, Nat.beq_refl, Bool.and_true, Bool.true_and, Bool.false_or, Bool.or_true, List.all_cons, List.all_nil, Nat.reduceMul, Nat.add_zero, Nat.zero_add, List.length_nil, List.length_cons, dite_true, List.nil_append, Nat.reduceBEq, reduceDIte, reduceIte, reduceCtorEq, Bool.or_false, Bool.true_or, Bool.and_false, Bool.false_and, Bool.not_true, Bool.not_false, Option.isSome_some, Option.isSome_none, Option.getD_some, List.getElem?_cons_zero, List.getElem?_cons_succ, eq_self, and_self, List.take_succ_cons, List.take_zero, List.drop_succ_cons, List.drop_zero]
  refine brB_intro (fun h => ret0 ?_) (fun h => ret0 ?_) <;> simpa [go_sem, inB, h] using hK
def c_l01In : Ctr Try.prog := ⟨49, ent Try.func49 rfl rfl, [], sp_in, good_l01In, []⟩
@[go_sem] theorem c_l01In_f : c_l01In.f = 49 := rfl
@[go_sem] theorem c_l01In_ms : c_l01In.ms = [] := rfl
@[go_sem] theorem c_l01In_sp : c_l01In.spec = sp_in := rfl
@[go_sem] theorem c_l01In_fz : c_l01In.fz = [] := rfl
attribute [go_sem] sp_in
/-! ### chords -/
theorem half {n : Nat} (hn : (n : Int) ≤ 9223372036854775807) : w64 ((n : Int).tdiv 2) = ((n / 2 : Nat) : Int) := by
  have : ((n : Int).tdiv 2) = ((n / 2 : Nat) : Int) := by rw [Int.tdiv_eq_ediv_of_nonneg (by omega)]; omega
  rw [this, w64_id (by omega) (by omega)]
def sp_chords : List Cv → List Obj' → Tree
  | [.one (.ro (.int .i64) l)], [] => .ret (vi ((l.length / 2 : Nat) : Int)) []
  | _, _ => .fail
set_option maxHeartbeats 4000000 in
set_option maxRecDepth 100000 in
theorem good_chords : Good Try.prog 58 sp_chords := by
  refine good_ofF Try.func58 rfl _ rfl _ rfl (tab []) (fun X cs os0 K hok hos hK => ?_)
  clear hos; unfold sp_chords at hK
  split at hK
  case h_2 => exact hK.elim
  rename_i l
  refine ⟨by simp, by simp, ?_⟩
  simp only [go_sem] at hK hok
  simp (maxSteps := 4000000) only [go_sem, Try.f58, ↓brB_t, ↓brB_f, Nat.reduceAdd, Int.reduceLE, Int.reduceLT, Int.reduceNeg, decide_true, decide_false, Bool.and_self, Nat.succ_eq_add_one, Int.toNat_natCast, Nat.beq_refl, Bool.and_true, Bool.true_and, Bool.false_or, Bool.or_true, List.all_cons, List.all_nil, Nat.reduceMul, Nat.add_zero, Nat.zero_add, List.length_nil, List.length_cons, dite_true, List.nil_append, Nat.reduceBEq, reduceDIte, reduceIte, reduceCtorEq, Bool.or_false, Bool.true_or, Bool.and_false, Bool.false_and, Bool.not_true, Bool.not_false, Option.isSome_some, Option.isSome_none, Option.getD_some, List.getElem?_cons_zero, List.getElem?_cons_succ, eq_self, and_self, List.take_succ_cons, List.take_zero, List.drop_succ_cons, List.drop_zero]
  have hl := len_i hok.1.1
  rw [half hl]
  exact ⟨by decide, ret0 hK⟩
def c_chords : Ctr Try.prog := ⟨58, ent Try.func58 rfl rfl, [], sp_chords, good_chords, []⟩
@[go_sem] theorem c_chords_f : c_chords.f = 58 := rfl
@[go_sem] theorem c_chords_ms : c_chords.ms = [] := rfl
@[go_sem] theorem c_chords_sp : c_chords.spec = sp_chords := rfl
@[go_sem] theorem c_chords_fz : c_chords.fz = [] := rfl
attribute [go_sem] sp_chords
/-! ### lists as they are -/
def sp_eq : List Cv → List Obj' → Tree
  | [.one (.ro (.int .i64) l), .one (.ro (.int .i64) m)], [] => .ret (vb (decide ((l : List Int) = m))) []
  | _, _ => .fail
theorem eq_len {l m : List Int} (h : (!decide ((l.length : Int) = m.length)) = true) : decide (l = m) = false := by
  simp at h ⊢; intro e; exact h (by rw [e])
theorem eq_get {l m : List Int} {i : Nat} {d : Int} (h : (!decide (l.getD i d = m.getD i d)) = true) : decide (l = m) = false := by
  simp at h ⊢; intro e; exact h (by rw [e])
theorem eq_all {l m : List Int} {i : Nat} (h : decide ((i : Int) < l.length) = false) (ht : l.take i = m.take i) (hlm : (l.length : Int) = m.length) : decide (l = m) = true := by
  simp at h ⊢
  rw [List.take_of_length_le h, List.take_of_length_le (by omega)] at ht
  exact ht
set_option maxHeartbeats 4000000 in
set_option maxRecDepth 100000 in
theorem good_eq : Good Try.prog 110 sp_eq := by
  refine good_ofF Try.func110 rfl _ rfl _ rfl (tab []) (fun X cs os0 K hok hos hK => ?_)
  clear hos; unfold sp_eq at hK
  split at hK
  case h_2 => exact hK.elim
  rename_i l m
  refine ⟨by simp, by simp, ?_⟩
  simp only [go_sem] at hK hok
  simp (maxSteps := 4000000) only [go_sem, Try.f110, ↓brB_t, ↓brB_f, Nat.reduceAdd, Int.reduceLE, Int.reduceLT, Int.reduceNeg, decide_true, decide_false, Bool.and_self, Nat.succ_eq_add_one, Int.toNat_natCast, Nat.beq_refl, Bool.and_true, Bool.true_and, Bool.false_or, Bool.or_true, List.all_cons, List.all_nil, Nat.reduceMul, Nat.add_zero, Nat.zero_add, List.length_nil, List.length_cons, dite_true, List.nil_append, Nat.reduceBEq, reduceDIte, reduceIte, reduceCtorEq, Bool.or_false, Bool.true_or, Bool.and_false, Bool.false_and, Bool.not_true, Bool.not_false, Option.isSome_some, Option.isSome_none, Option.getD_some, List.getElem?_cons_zero, List.getElem?_cons_succ, eq_self, and_self, List.take_succ_cons, List.take_zero, List.drop_succ_cons, List.drop_zero]
  have hl := len_i hok.1.1
  refine brB_intro (fun h => ret0 (by rw [eq_len h] at hK; exact hK)) (fun h => ?_)
  simp at h
  refine loop_okF (T := tab []) [0, 1, 12, 13] [] (fun i : Nat => ⟨26, [(0, ri l), (1, ri m), (12, vi l.length), (13, vi i)], []⟩)
    (fun i => i ≤ l.length ∧ l.take i = m.take i) (fun i => l.length - i) 0 rfl rfl ⟨Nat.zero_le _, rfl⟩ (fun i hi => ?_)
  obtain ⟨hi, ht⟩ := hi
  simp only [go_sem, ↓brB_t, ↓brB_f, Nat.reduceAdd, Int.reduceLE, Int.reduceLT, Int.reduceNeg, decide_true, decide_false, Bool.and_self, Nat.succ_eq_add_one, Int.toNat_natCast, Nat.beq_refl, Bool.and_true, Bool.true_and, Bool.false_or, Bool.or_true, List.all_cons, List.all_nil, Nat.reduceMul, Nat.add_zero, Nat.zero_add, List.length_nil, List.length_cons, dite_true, List.nil_append, Nat.reduceBEq, reduceDIte, reduceIte, reduceCtorEq, Bool.or_false, Bool.true_or, Bool.and_false, Bool.false_and, Bool.not_true, Bool.not_false, Option.isSome_some, Option.isSome_none, Option.getD_some, List.getElem?_cons_zero, List.getElem?_cons_succ, eq_self, and_self, List.take_succ_cons, List.take_zero, List.drop_succ_cons, List.drop_zero]
  refine brB_intro (fun h1 => ⟨by simp at h1; omega, by simp at h1; omega, by kernel_rfl, brB_intro (fun h2 => ret0 (by rw [eq_get h2] at hK; exact hK)) (fun h2 => ?_)⟩) (fun h1 => ret0 (by rw [eq_all h1 ht h] at hK; exact hK))
  simp at h1 h2
  refine ⟨i + 1, [], ⟨by omega, take_s ht (by omega) (by omega) (by simpa using h2)⟩, by omega, rfl, ?_⟩
  rw [w64_s h1 hl]; rfl
def c_equal : Ctr Try.prog := ⟨110, ent Try.func110 rfl rfl, [], sp_eq, good_eq, []⟩
@[go_sem] theorem c_equal_f : c_equal.f = 110 := rfl
@[go_sem] theorem c_equal_ms : c_equal.ms = [] := rfl
@[go_sem] theorem c_equal_sp : c_equal.spec = sp_eq := rfl
@[go_sem] theorem c_equal_fz : c_equal.fz = [] := rfl
attribute [go_sem] sp_eq
set_option maxHeartbeats 4000000 in
set_option maxRecDepth 100000 in
theorem good_l01Same : Good Try.prog 116 sp_eq := by
  refine good_ofF Try.func116 rfl _ rfl _ rfl (tab []) (fun X cs os0 K hok hos hK => ?_)
  clear hos; unfold sp_eq at hK
  split at hK
  case h_2 => exact hK.elim
  rename_i l m
  refine ⟨by simp, by simp, ?_⟩
  simp only [go_sem] at hK hok
  simp (maxSteps := 4000000) only [go_sem, Try.f116, ↓brB_t, ↓brB_f, Nat.reduceAdd, Int.reduceLE, Int.reduceLT, Int.reduceNeg, decide_true, decide_false, Bool.and_self, Nat.succ_eq_add_one, Int.toNat_natCast, Nat.beq_refl, Bool.and_true, Bool.true_and, Bool.false_or, Bool.or_true, List.all_cons, List.all_nil, Nat.reduceMul, Nat.add_zero, Nat.zero_add, List.length_nil, List.length_cons, dite_true, List.nil_append, Nat.reduceBEq, reduceDIte, reduceIte, reduceCtorEq, Bool.or_false, Bool.true_or, Bool.and_false, Bool.false_and, Bool.not_true, Bool.not_false, Option.isSome_some, Option.isSome_none, Option.getD_some, List.getElem?_cons_zero, List.getElem?_cons_succ, eq_self, and_self, List.take_succ_cons, List.take_zero, List.drop_succ_cons, List.drop_zero]
  have hl := len_i hok.1.1
  refine brB_intro (fun h => ret0 (by rw [eq_len h] at hK; exact hK)) (fun h => ?_)
  simp at h
  refine loop_okF (T := tab []) [0, 1, 5] [] (fun i : Nat => ⟨26, [(0, ri l), (1, ri m), (5, vi i)], []⟩)
    (fun i => i ≤ l.length ∧ l.take i = m.take i) (fun i => l.length - i) 0 rfl rfl ⟨Nat.zero_le _, rfl⟩ (fun i hi => ?_)
  obtain ⟨hi, ht⟩ := hi
  simp only [go_sem, ↓brB_t, ↓brB_f, Nat.reduceAdd, Int.reduceLE, Int.reduceLT, Int.reduceNeg, decide_true, decide_false, Bool.and_self, Nat.succ_eq_add_one, Int.toNat_natCast, Nat.beq_refl, Bool.and_true, Bool.true_and, Bool.false_or, Bool.or_true, List.all_cons, List.all_nil, Nat.reduceMul, Nat.add_zero, Nat.zero_add, List.length_nil, List.length_cons, dite_true, List.nil_append, Nat.reduceBEq, reduceDIte, reduceIte, reduceCtorEq, Bool.or_false, Bool.true_or, Bool.and_false, Bool.false_and, Bool.not_true, Bool.not_false, Option.isSome_some, Option.isSome_none, Option.getD_some, List.getElem?_cons_zero, List.getElem?_cons_succ, eq_self, and_self, List.take_succ_cons, List.take_zero, List.drop_succ_cons, List.drop_zero]
  refine brB_intro (fun h1 => ⟨by simp at h1; omega, by simp at h1; omega, by kernel_rfl, brB_intro (fun h2 => ret0 (by rw [eq_get h2] at hK; exact hK)) (fun h2 => ?_)⟩) (fun h1 => ret0 (by rw [eq_all h1 ht h] at hK; exact hK))
  simp at h1 h2
  refine ⟨i + 1, [], ⟨by omega, take_s ht (by omega) (by omega) (by simpa using h2)⟩, by omega, rfl, ?_⟩
  rw [w64_s h1 hl]; rfl
def c_l01Same : Ctr Try.prog := ⟨116, ent Try.func116 rfl rfl, [], sp_eq, good_l01Same, []⟩
@[go_sem] theorem c_l01Same_f : c_l01Same.f = 116 := rfl
@[go_sem] theorem c_l01Same_ms : c_l01Same.ms = [] := rfl
@[go_sem] theorem c_l01Same_sp : c_l01Same.spec = sp_eq := rfl
@[go_sem] theorem c_l01Same_fz : c_l01Same.fz = [] := rfl
attribute [go_sem] sp_eq
end Go.Proofs.Ytbnmjhcokdhjmaa.V
