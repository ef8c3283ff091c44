/- Contracts: small functions of words. Conditions: told by each spec. -/
import Derived.Test.YtihfncjpfgdhoaaVTy
set_option linter.unusedVariables false
set_option linter.unusedSimpArgs false
namespace Go.Proofs.Ytihfncjpfgdhoaa.V
open Go
abbrev ri (l : List Int) : Rv := .val (.one (.ro (.int .i64) l))
abbrev vi (n : Int) : Rv := .val (.one (.v (.int .i64 n)))
abbrev vb (b : Bool) : Rv := .val (.one (.v (.bool b)))
abbrev ow (i : Nat) : Rv := .val (.one (.own i))
abbrev rwi (l : List Int) : Obj' := .row 2 (.int .i64) l
theorem w64_id {x : Int} (h0 : -9223372036854775808 ≤ x) (h1 : x ≤ 9223372036854775807) : w64 x = x := by rw [w64_def]; omega
theorem len_i {α : Type} {l : List α} (h : l.length ≤ maxLen) : (l.length : Int) ≤ 9223372036854775807 := by unfold maxLen at h; omega
theorem w64_s {i n : Nat} (h : i < n) (hn : (n : Int) ≤ 9223372036854775807) : w64 ((i : Int) + 1) = ((i + 1 : Nat) : Int) := by rw [w64_id (by omega) (by omega)]; omega
theorem take_s {α : Type} {l m : List α} {i : Nat} {d : α} (h : l.take i = m.take i) (h1 : i < l.length) (h2 : i < m.length) (h3 : l.getD i d = m.getD i d) : l.take (i + 1) = m.take (i + 1) := by
  simp [List.getD_eq_getElem?_getD, h1, h2] at h3
  rw [List.take_succ_eq_append_getElem h1, List.take_succ_eq_append_getElem h2, h, h3]
def inB (n a b : Int) : Bool := decide (a ≤ n) && decide (n ≤ b)
/-! ### in -/
def sp_in : List Cv → List Obj' → Tree
  | [.one (.v (.int .i64 n)), .one (.v (.int .i64 a)), .one (.v (.int .i64 b))], [] => .ret (vb (inB n a b)) []
  | _, _ => .fail
set_option maxHeartbeats 4000000 in
set_option maxRecDepth 100000 in
theorem good_in : Good Try.prog 81 sp_in := by
  refine good_ofF Try.func81 rfl _ rfl _ rfl (tab []) (fun X cs os0 K hok hos hK => ?_)
  clear hos; unfold sp_in at hK
  split at hK
  case h_2 => exact hK.elim
  rename_i n a b
  refine ⟨by simp, by simp, ?_⟩
  simp only [go_sem] at hK hok
  simp (maxSteps := 4000000) only [go_sem, Try.f81, ↓brB_t, ↓brB_f, Nat.reduceAdd, Int.reduceLE, Int.reduceLT, Int.reduceNeg, decide_true, decide_false, Bool.and_self, Nat.succ_eq_add_one, Int.toNat_natCast, Nat.beq_refl, Bool.and_true, Bool.true_and, Bool.false_or, Bool.or_true, List.all_cons, List.all_nil, Nat.reduceMul, Nat.add_zero, Nat.zero_add, List.length_nil, List.length_cons, dite_true, List.nil_append, Nat.reduceBEq, reduceDIte, reduceIte, reduceCtorEq, Bool.or_false, Bool.true_or, Bool.and_false, Bool.false_and, Bool.not_true, Bool.not_false, Option.isSome_some, Option.isSome_none, Option.getD_some, List.getElem?_cons_zero, List.getElem?_cons_succ, eq_self, and_self, List.take_succ_cons, List.take_zero, List.drop_succ_cons, List.drop_zero]
  refine brB_intro (fun h => ret0 ?_) (fun h => ret0 ?_) <;> simpa [go_sem, inB, h] using hK
def c_in : Ctr Try.prog := ⟨81, ent Try.func81 rfl rfl, [], sp_in, good_in, []⟩
@[go_sem] theorem c_in_f : c_in.f = 81 := rfl
@[go_sem] theorem c_in_ms : c_in.ms = [] := rfl
@[go_sem] theorem c_in_sp : c_in.spec = sp_in := rfl
@[go_sem] theorem c_in_fz : c_in.fz = [] := rfl
attribute [go_sem] sp_in
set_option maxHeartbeats 4000000 in
set_option maxRecDepth 100000 in
theorem good_l01In : Good Try.prog 49 sp_in := by
  refine good_ofF Try.func49 rfl _ rfl _ rfl (tab []) (fun X cs os0 K hok hos hK => ?_)
  clear hos; unfold sp_in at hK
  split at hK
  case h_2 => exact hK.elim
  rename_i n a b
  refine ⟨by simp, by simp, ?_⟩
  simp only [go_sem] at hK hok
  simp (maxSteps := 4000000) only [go_sem, Try.f49, ↓brB_t, ↓brB_f, Nat.reduceAdd, Int.reduceLE, Int.reduceLT, Int.reduceNeg, decide_true, decide_false, Bool.and_self, Nat.succ_eq_add_one, Int.toNat_natCast, Nat.beq_refl, Bool.and_true, Bool.true_and, Bool.false_or, Bool.or_true, List.all_cons, List.all_nil, Nat.reduceMul, Nat.add_zero, Nat.zero_add, List.length_nil, List.length_cons, dite_true, List.nil_append, Nat.reduceBEq, reduceDIte, reduceIte, reduceCtorEq, Bool.or_false, Bool.true_or, Bool.and_false, Bool.false_and, Bool.not_true, Bool.not_false, Option.isSome_some, Option.isSome_none, Option.getD_some, List.getElem?_cons_zero, List.getElem?_cons_succ, eq_self, and_self, List.take_succ_cons, List.take_zero, List.drop_succ_cons, List.drop_zero]
  refine brB_intro (fun h => ret0 ?_) (fun h => ret0 ?_) <;> simpa [go_sem, inB, h] using hK
def c_l01In : Ctr Try.prog := ⟨49, ent Try.func49 rfl rfl, [], sp_in, good_l01In, []⟩
@[go_sem] theorem c_l01In_f : c_l01In.f = 49 := rfl
@[go_sem] theorem c_l01In_ms : c_l01In.ms = [] := rfl
@[go_sem] theorem c_l01In_sp : c_l01In.spec = sp_in := rfl
@[go_sem] theorem c_l01In_fz : c_l01In.fz = [] := rfl
attribute [go_sem] sp_in
def sp_isHead : List Cv → List Obj' → Tree
  | [.one (.v (.int .i64 n))], [] => .ret (vb (inB n 0 1)) []
  | _, _ => .fail
set_option maxHeartbeats 4000000 in
set_option maxRecDepth 100000 in
theorem good_isHead : Good Try.prog 76 sp_isHead := by
  refine good_ofF Try.func76 rfl _ rfl _ rfl (tab [c_in]) (fun X cs os0 K hok hos hK => ?_)
  clear hos; unfold sp_isHead at hK
  split at hK
  case h_2 => exact hK.elim
  rename_i n
  refine ⟨by simp, by simp, ?_⟩
  simp only [go_sem] at hK hok
  simp (maxSteps := 4000000) only [go_sem, Try.f76, ↓brB_t, ↓brB_f, Nat.reduceAdd, Int.reduceLE, Int.reduceLT, Int.reduceNeg, decide_true, decide_false, Bool.and_self, Nat.succ_eq_add_one, Int.toNat_natCast, Nat.beq_refl, Bool.and_true, Bool.true_and, Bool.false_or, Bool.or_true, List.all_cons, List.all_nil, Nat.reduceMul, Nat.add_zero, Nat.zero_add, List.length_nil, List.length_cons, dite_true, List.nil_append, Nat.reduceBEq, reduceDIte, reduceIte, reduceCtorEq, Bool.or_false, Bool.true_or, Bool.and_false, Bool.false_and, Bool.not_true, Bool.not_false, Option.isSome_some, Option.isSome_none, Option.getD_some, List.getElem?_cons_zero, List.getElem?_cons_succ, eq_self, and_self, List.take_succ_cons, List.take_zero, List.drop_succ_cons, List.drop_zero]
  refine ret0 ?_; simpa [go_sem] using hK
def c_isHead : Ctr Try.prog := ⟨76, ent Try.func76 rfl rfl, [], sp_isHead, good_isHead, []⟩
@[go_sem] theorem c_isHead_f : c_isHead.f = 76 := rfl
@[go_sem] theorem c_isHead_ms : c_isHead.ms = [] := rfl
@[go_sem] theorem c_isHead_sp : c_isHead.spec = sp_isHead := rfl
@[go_sem] theorem c_isHead_fz : c_isHead.fz = [] := rfl
attribute [go_sem] sp_isHead
def sp_isSign : List Cv → List Obj' → Tree
  | [.one (.v (.int .i64 n))], [] => .ret (vb (decide (n = 1 ∨ n = -1))) []
  | _, _ => .fail
set_option maxHeartbeats 4000000 in
set_option maxRecDepth 100000 in
theorem good_isSign : Good Try.prog 77 sp_isSign := by
  refine good_ofF Try.func77 rfl _ rfl _ rfl (tab []) (fun X cs os0 K hok hos hK => ?_)
  clear hos; unfold sp_isSign at hK
  split at hK
  case h_2 => exact hK.elim
  rename_i n
  refine ⟨by simp, by simp, ?_⟩
  simp only [go_sem] at hK hok
  simp (maxSteps := 4000000) only [go_sem, Try.f77, ↓brB_t, ↓brB_f, Nat.reduceAdd, Int.reduceLE, Int.reduceLT, Int.reduceNeg, decide_true, decide_false, Bool.and_self, Nat.succ_eq_add_one, Int.toNat_natCast, Nat.beq_refl, Bool.and_true, Bool.true_and, Bool.false_or, Bool.or_true, List.all_cons, List.all_nil, Nat.reduceMul, Nat.add_zero, Nat.zero_add, List.length_nil, List.length_cons, dite_true, List.nil_append, Nat.reduceBEq, reduceDIte, reduceIte, reduceCtorEq, Bool.or_false, Bool.true_or, Bool.and_false, Bool.false_and, Bool.not_true, Bool.not_false, Option.isSome_some, Option.isSome_none, Option.getD_some, List.getElem?_cons_zero, List.getElem?_cons_succ, eq_self, and_self, List.take_succ_cons, List.take_zero, List.drop_succ_cons, List.drop_zero]
  refine brB_intro (fun h => ret0 ?_) (fun h => ret0 ?_) <;> simpa [go_sem, inB, h] using hK
def c_isSign : Ctr Try.prog := ⟨77, ent Try.func77 rfl rfl, [], sp_isSign, good_isSign, []⟩
@[go_sem] theorem c_isSign_f : c_isSign.f = 77 := rfl
@[go_sem] theorem c_isSign_ms : c_isSign.ms = [] := rfl
@[go_sem] theorem c_isSign_sp : c_isSign.spec = sp_isSign := rfl
@[go_sem] theorem c_isSign_fz : c_isSign.fz = [] := rfl
attribute [go_sem] sp_isSign
/-! ### chords -/
theorem half {n : Nat} (hn : (n : Int) ≤ 9223372036854775807) : w64 ((n : Int).tdiv 2) = ((n / 2 : Nat) : Int) := by
  have : ((n : Int).tdiv 2) = ((n / 2 : Nat) : Int) := by rw [Int.tdiv_eq_ediv_of_nonneg (by omega)]; omega
  rw [this, w64_id (by omega) (by omega)]
def sp_chords : List Cv → List Obj' → Tree
  | [.one (.ro (.int .i64) l)], [] => .ret (vi ((l.length / 2 : Nat) : Int)) []
  | _, _ => .fail
set_option maxHeartbeats 4000000 in
set_option maxRecDepth 100000 in
theorem good_chords : Good Try.prog 53 sp_chords := by
  refine good_ofF Try.func53 rfl _ rfl _ rfl (tab []) (fun X cs os0 K hok hos hK => ?_)
  clear hos; unfold sp_chords at hK
  split at hK
  case h_2 => exact hK.elim
  rename_i l
  refine ⟨by simp, by simp, ?_⟩
  simp only [go_sem] at hK hok
  simp (maxSteps := 4000000) only [go_sem, Try.f53, ↓brB_t, ↓brB_f, Nat.reduceAdd, Int.reduceLE, Int.reduceLT, Int.reduceNeg, decide_true, decide_false, Bool.and_self, Nat.succ_eq_add_one, Int.toNat_natCast, Nat.beq_refl, Bool.and_true, Bool.true_and, Bool.false_or, Bool.or_true, List.all_cons, List.all_nil, Nat.reduceMul, Nat.add_zero, Nat.zero_add, List.length_nil, List.length_cons, dite_true, List.nil_append, Nat.reduceBEq, reduceDIte, reduceIte, reduceCtorEq, Bool.or_false, Bool.true_or, Bool.and_false, Bool.false_and, Bool.not_true, Bool.not_false, Option.isSome_some, Option.isSome_none, Option.getD_some, List.getElem?_cons_zero, List.getElem?_cons_succ, eq_self, and_self, List.take_succ_cons, List.take_zero, List.drop_succ_cons, List.drop_zero]
  have hl := len_i hok.1.1
  rw [half hl]
  exact ⟨by decide, ret0 hK⟩
def c_chords : Ctr Try.prog := ⟨53, ent Try.func53 rfl rfl, [], sp_chords, good_chords, []⟩
@[go_sem] theorem c_chords_f : c_chords.f = 53 := rfl
@[go_sem] theorem c_chords_ms : c_chords.ms = [] := rfl
@[go_sem] theorem c_chords_sp : c_chords.spec = sp_chords := rfl
@[go_sem] theorem c_chords_fz : c_chords.fz = [] := rfl
attribute [go_sem] sp_chords
/-! ### lists as they are -/
def sp_eq : List Cv → List Obj' → Tree
  | [.one (.ro (.int .i64) l), .one (.ro (.int .i64) m)], [] => .ret (vb (decide ((l : List Int) = m))) []
  | _, _ => .fail
theorem eq_len {l m : List Int} (h : (!decide ((l.length : Int) = m.length)) = true) : decide (l = m) = false := by
  simp at h ⊢; intro e; exact h (by rw [e])
theorem eq_get {l m : List Int} {i : Nat} {d : Int} (h : (!decide (l.getD i d = m.getD i d)) = true) : decide (l = m) = false := by
  simp at h ⊢; intro e; exact h (by rw [e])
theorem eq_all {l m : List Int} {i : Nat} (h : decide ((i : Int) < l.length) = false) (ht : l.take i = m.take i) (hlm : (l.length : Int) = m.length) : decide (l = m) = true := by
  simp at h ⊢
  rw [List.take_of_length_le h, List.take_of_length_le (by omega)] at ht
  exact ht
set_option maxHeartbeats 4000000 in
set_option maxRecDepth 100000 in
theorem good_eq : Good Try.prog 91 sp_eq := by
  refine good_ofF Try.func91 rfl _ rfl _ rfl (tab []) (fun X cs os0 K hok hos hK => ?_)
  clear hos; unfold sp_eq at hK
  split at hK
  case h_2 => exact hK.elim
  rename_i l m
  refine ⟨by simp, by simp, ?_⟩
  simp only [go_sem] at hK hok
  simp (maxSteps := 4000000) only [go_sem, Try.f91, ↓brB_t, ↓brB_f, Nat.reduceAdd, Int.reduceLE, Int.reduceLT, Int.reduceNeg, decide_true, decide_false, Bool.and_self, Nat.succ_eq_add_one, Int.toNat_natCast, Nat.beq_refl, Bool.and_true, Bool.true_and, Bool.false_or, Bool.or_true, List.all_cons, List.all_nil, Nat.reduceMul, Nat.add_zero, Nat.zero_add, List.length_nil, List.length_cons, dite_true, List.nil_append, Nat.reduceBEq, reduceDIte, reduceIte, reduceCtorEq, Bool.or_false, Bool.true_or, Bool.and_false, Bool.false_and, Bool.not_true, Bool.not_false, Option.isSome_some, Option.isSome_none, Option.getD_some, List.getElem?_cons_zero, List.getElem?_cons_succ, eq_self, and_self, List.take_succ_cons, List.take_zero, List.drop_succ_cons, List.drop_zero]
  have hl := len_i hok.1.1
  refine brB_intro (fun h => ret0 (by rw [eq_len h] at hK; exact hK)) (fun h => ?_)
  simp at h
  refine loop_okF (T := tab []) [0, 1, 12, 13] [] (fun i : Nat => ⟨26, [(0, ri l), (1, ri m), (12, vi l.length), (13, vi i)], []⟩)
    (fun i => i ≤ l.length ∧ l.take i = m.take i) (fun i => l.length - i) 0 rfl rfl ⟨Nat.zero_le _, rfl⟩ (fun i hi => ?_)
  obtain ⟨hi, ht⟩ := hi
  simp only [go_sem, ↓brB_t, ↓brB_f, Nat.reduceAdd, Int.reduceLE, Int.reduceLT, Int.reduceNeg, decide_true, decide_false, Bool.and_self, Nat.succ_eq_add_one, Int.toNat_natCast, Nat.beq_refl, Bool.and_true, Bool.true_and, Bool.false_or, Bool.or_true, List.all_cons, List.all_nil, Nat.reduceMul, Nat.add_zero, Nat.zero_add, List.length_nil, List.length_cons, dite_true, List.nil_append, Nat.reduceBEq, reduceDIte, reduceIte, reduceCtorEq, Bool.or_false, Bool.true_or, Bool.and_false, Bool.false_and, Bool.not_true, Bool.not_false, Option.isSome_some, Option.isSome_none, Option.getD_some, List.getElem?_cons_zero, List.getElem?_cons_succ, eq_self, and_self, List.take_succ_cons, List.take_zero, List.drop_succ_cons, List.drop_zero]
  refine brB_intro (fun h1 => ⟨by simp at h1; omega, by simp at h1; omega, by kernel_rfl, brB_intro (fun h2 => ret0 (by rw [eq_get h2] at hK; exact hK)) (fun h2 => ?_)⟩) (fun h1 => ret0 (by rw [eq_all h1 ht h] at hK; exact hK))
  simp at h1 h2
  refine ⟨i + 1, [], ⟨by omega, take_s ht (by omega) (by omega) (by simpa using h2)⟩, by omega, rfl, ?_⟩
  rw [w64_s h1 hl]; rfl
def c_equal : Ctr Try.prog := ⟨91, ent Try.func91 rfl rfl, [], sp_eq, good_eq, []⟩
@[go_sem] theorem c_equal_f : c_equal.f = 91 := rfl
@[go_sem] theorem c_equal_ms : c_equal.ms = [] := rfl
@[go_sem] theorem c_equal_sp : c_equal.spec = sp_eq := rfl
@[go_sem] theorem c_equal_fz : c_equal.fz = [] := rfl
attribute [go_sem] sp_eq
set_option maxHeartbeats 4000000 in
set_option maxRecDepth 100000 in
theorem good_eqS : Good Try.prog 18 sp_eq := by
  refine good_ofF Try.func18 rfl _ rfl _ rfl (tab []) (fun X cs os0 K hok hos hK => ?_)
  clear hos; unfold sp_eq at hK
  split at hK
  case h_2 => exact hK.elim
  rename_i l m
  refine ⟨by simp, by simp, ?_⟩
  simp only [go_sem] at hK hok
  simp (maxSteps := 4000000) only [go_sem, Try.f18, ↓brB_t, ↓brB_f, Nat.reduceAdd, Int.reduceLE, Int.reduceLT, Int.reduceNeg, decide_true, decide_false, Bool.and_self, Nat.succ_eq_add_one, Int.toNat_natCast, Nat.beq_refl, Bool.and_true, Bool.true_and, Bool.false_or, Bool.or_true, List.all_cons, List.all_nil, Nat.reduceMul, Nat.add_zero, Nat.zero_add, List.length_nil, List.length_cons, dite_true, List.nil_append, Nat.reduceBEq, reduceDIte, reduceIte, reduceCtorEq, Bool.or_false, Bool.true_or, Bool.and_false, Bool.false_and, Bool.not_true, Bool.not_false, Option.isSome_some, Option.isSome_none, Option.getD_some, List.getElem?_cons_zero, List.getElem?_cons_succ, eq_self, and_self, List.take_succ_cons, List.take_zero, List.drop_succ_cons, List.drop_zero]
  have hl := len_i hok.1.1
  refine brB_intro (fun h => ret0 (by rw [eq_len h] at hK; exact hK)) (fun h => ?_)
  simp at h
  refine loop_okF (T := tab []) [0, 1, 5] [] (fun i : Nat => ⟨26, [(0, ri l), (1, ri m), (5, vi i)], []⟩)
    (fun i => i ≤ l.length ∧ l.take i = m.take i) (fun i => l.length - i) 0 rfl rfl ⟨Nat.zero_le _, rfl⟩ (fun i hi => ?_)
  obtain ⟨hi, ht⟩ := hi
  simp only [go_sem, ↓brB_t, ↓brB_f, Nat.reduceAdd, Int.reduceLE, Int.reduceLT, Int.reduceNeg, decide_true, decide_false, Bool.and_self, Nat.succ_eq_add_one, Int.toNat_natCast, Nat.beq_refl, Bool.and_true, Bool.true_and, Bool.false_or, Bool.or_true, List.all_cons, List.all_nil, Nat.reduceMul, Nat.add_zero, Nat.zero_add, List.length_nil, List.length_cons, dite_true, List.nil_append, Nat.reduceBEq, reduceDIte, reduceIte, reduceCtorEq, Bool.or_false, Bool.true_or, Bool.and_false, Bool.false_and, Bool.not_true, Bool.not_false, Option.isSome_some, Option.isSome_none, Option.getD_some, List.getElem?_cons_zero, List.getElem?_cons_succ, eq_self, and_self, List.take_succ_cons, List.take_zero, List.drop_succ_cons, List.drop_zero]
  refine brB_intro (fun h1 => ⟨by simp at h1; omega, by simp at h1; omega, by kernel_rfl, brB_intro (fun h2 => ret0 (by rw [eq_get h2] at hK; exact hK)) (fun h2 => ?_)⟩) (fun h1 => ret0 (by rw [eq_all h1 ht h] at hK; exact hK))
  simp at h1 h2
  refine ⟨i + 1, [], ⟨by omega, take_s ht (by omega) (by omega) (by simpa using h2)⟩, by omega, rfl, ?_⟩
  rw [w64_s h1 hl]; rfl
def c_eqS : Ctr Try.prog := ⟨18, ent Try.func18 rfl rfl, [], sp_eq, good_eqS, []⟩
@[go_sem] theorem c_eqS_f : c_eqS.f = 18 := rfl
@[go_sem] theorem c_eqS_ms : c_eqS.ms = [] := rfl
@[go_sem] theorem c_eqS_sp : c_eqS.spec = sp_eq := rfl
@[go_sem] theorem c_eqS_fz : c_eqS.fz = [] := rfl
attribute [go_sem] sp_eq
set_option maxHeartbeats 4000000 in
set_option maxRecDepth 100000 in
theorem good_l01Same : Good Try.prog 95 sp_eq := by
  refine good_ofF Try.func95 rfl _ rfl _ rfl (tab []) (fun X cs os0 K hok hos hK => ?_)
  clear hos; unfold sp_eq at hK
  split at hK
  case h_2 => exact hK.elim
  rename_i l m
  refine ⟨by simp, by simp, ?_⟩
  simp only [go_sem] at hK hok
  simp (maxSteps := 4000000) only [go_sem, Try.f95, ↓brB_t, ↓brB_f, Nat.reduceAdd, Int.reduceLE, Int.reduceLT, Int.reduceNeg, decide_true, decide_false, Bool.and_self, Nat.succ_eq_add_one, Int.toNat_natCast, Nat.beq_refl, Bool.and_true, Bool.true_and, Bool.false_or, Bool.or_true, List.all_cons, List.all_nil, Nat.reduceMul, Nat.add_zero, Nat.zero_add, List.length_nil, List.length_cons, dite_true, List.nil_append, Nat.reduceBEq, reduceDIte, reduceIte, reduceCtorEq, Bool.or_false, Bool.true_or, Bool.and_false, Bool.false_and, Bool.not_true, Bool.not_false, Option.isSome_some, Option.isSome_none, Option.getD_some, List.getElem?_cons_zero, List.getElem?_cons_succ, eq_self, and_self, List.take_succ_cons, List.take_zero, List.drop_succ_cons, List.drop_zero]
  have hl := len_i hok.1.1
  refine brB_intro (fun h => ret0 (by rw [eq_len h] at hK; exact hK)) (fun h => ?_)
  simp at h
  refine loop_okF (T := tab []) [0, 1, 5] [] (fun i : Nat => ⟨26, [(0, ri l), (1, ri m), (5, vi i)], []⟩)
    (fun i => i ≤ l.length ∧ l.take i = m.take i) (fun i => l.length - i) 0 rfl rfl ⟨Nat.zero_le _, rfl⟩ (fun i hi => ?_)
  obtain ⟨hi, ht⟩ := hi
  simp only [go_sem, ↓brB_t, ↓brB_f, Nat.reduceAdd, Int.reduceLE, Int.reduceLT, Int.reduceNeg, decide_true, decide_false, Bool.and_self, Nat.succ_eq_add_one, Int.toNat_natCast, Nat.beq_refl, Bool.and_true, Bool.true_and, Bool.false_or, Bool.or_true, List.all_cons, List.all_nil, Nat.reduceMul, Nat.add_zero, Nat.zero_add, List.length_nil, List.length_cons, dite_true, List.nil_append, Nat.reduceBEq, reduceDIte, reduceIte, reduceCtorEq, Bool.or_false, Bool.true_or, Bool.and_false, Bool.false_and, Bool.not_true, Bool.not_false, Option.isSome_some, Option.isSome_none, Option.getD_some, List.getElem?_cons_zero, List.getElem?_cons_succ, eq_self, and_self, List.take_succ_cons, List.take_zero, List.drop_succ_cons, List.drop_zero]
  refine brB_intro (fun h1 => ⟨by simp at h1; omega, by simp at h1; omega, by kernel_rfl, brB_intro (fun h2 => ret0 (by rw [eq_get h2] at hK; exact hK)) (fun h2 => ?_)⟩) (fun h1 => ret0 (by rw [eq_all h1 ht h] at hK; exact hK))
  simp at h1 h2
  refine ⟨i + 1, [], ⟨by omega, take_s ht (by omega) (by omega) (by simpa using h2)⟩, by omega, rfl, ?_⟩
  rw [w64_s h1 hl]; rfl
def c_l01Same : Ctr Try.prog := ⟨95, ent Try.func95 rfl rfl, [], sp_eq, good_l01Same, []⟩
@[go_sem] theorem c_l01Same_f : c_l01Same.f = 95 := rfl
@[go_sem] theorem c_l01Same_ms : c_l01Same.ms = [] := rfl
@[go_sem] theorem c_l01Same_sp : c_l01Same.spec = sp_eq := rfl
@[go_sem] theorem c_l01Same_fz : c_l01Same.fz = [] := rfl
attribute [go_sem] sp_eq
/-! ### the law's own functions -/
def sp_sz : List Cv → List Obj' → Tree
  | [.one (.ro (.int .i64) l), .one (.v (.int .i64 n))], [] => .need (0 ≤ n) (.ret (vi (if n < l.length then -1 else n - l.length)) [])
  | _, _ => .fail
set_option maxHeartbeats 4000000 in
set_option maxRecDepth 100000 in
theorem good_sz : Good Try.prog 55 sp_sz := by
  refine good_ofF Try.func55 rfl _ rfl _ rfl (tab []) (fun X cs os0 K hok hos hK => ?_)
  clear hos; unfold sp_sz at hK
  split at hK
  case h_2 => exact hK.elim
  rename_i l n
  refine ⟨by simp, by simp, ?_⟩
  simp only [go_sem] at hK hok
  simp (maxSteps := 4000000) only [go_sem, Try.f55, ↓brB_t, ↓brB_f, Nat.reduceAdd, Int.reduceLE, Int.reduceLT, Int.reduceNeg, decide_true, decide_false, Bool.and_self, Nat.succ_eq_add_one, Int.toNat_natCast, Nat.beq_refl, Bool.and_true, Bool.true_and, Bool.false_or, Bool.or_true, List.all_cons, List.all_nil, Nat.reduceMul, Nat.add_zero, Nat.zero_add, List.length_nil, List.length_cons, dite_true, List.nil_append, Nat.reduceBEq, reduceDIte, reduceIte, reduceCtorEq, Bool.or_false, Bool.true_or, Bool.and_false, Bool.false_and, Bool.not_true, Bool.not_false, Option.isSome_some, Option.isSome_none, Option.getD_some, List.getElem?_cons_zero, List.getElem?_cons_succ, eq_self, and_self, List.take_succ_cons, List.take_zero, List.drop_succ_cons, List.drop_zero]
  have hl := len_i hok.1.1
  obtain ⟨hn, hK⟩ := hK
  simp only [show w64 (n - l.length) = n - l.length from w64_id (by omega) (by omega)]
  refine brB_intro (fun h => ret0 ?_) (fun h => ret0 ?_)
  · have e : n < l.length := by simp at h; omega
    simpa [go_sem, e] using hK
  · have e : ¬ n < l.length := by simp at h; omega
    rw [if_neg e] at hK; exact hK
def c_sz : Ctr Try.prog := ⟨55, ent Try.func55 rfl rfl, [], sp_sz, good_sz, []⟩
@[go_sem] theorem c_sz_f : c_sz.f = 55 := rfl
@[go_sem] theorem c_sz_ms : c_sz.ms = [] := rfl
@[go_sem] theorem c_sz_sp : c_sz.spec = sp_sz := rfl
@[go_sem] theorem c_sz_fz : c_sz.fz = [] := rfl
attribute [go_sem] sp_sz
def sp_to : List Cv → List Obj' → Tree
  | [.one (.ro (.int .i64) l)], [] => .need (l.length ≤ 1099511627776) (.ret (ow 0) [rwi l])
  | _, _ => .fail
theorem copy_s {l : List Int} {i : Nat} (h : i < l.length) : (l.take i ++ List.replicate (l.length - i) (0 : Int)).set i (l.getD i 0) = l.take (i + 1) ++ List.replicate (l.length - (i + 1)) 0 := by
  have e : l.length - i = (l.length - (i + 1)) + 1 := by omega
  rw [e, List.replicate_succ, List.set_append_right _ _ (by simp; omega)]
  simp only [List.length_take, Nat.min_eq_left (Nat.le_of_lt h), Nat.sub_self, List.set_cons_zero]
  rw [List.take_succ_eq_append_getElem h, List.append_assoc]
  simp [List.getD_eq_getElem?_getD, h]
set_option maxHeartbeats 4000000 in
set_option maxRecDepth 100000 in
theorem good_to : Good Try.prog 16 sp_to := by
  refine good_ofF Try.func16 rfl _ rfl _ rfl (tab []) (fun X cs os0 K hok hos hK => ?_)
  clear hos; unfold sp_to at hK
  split at hK
  case h_2 => exact hK.elim
  rename_i l
  refine ⟨by simp, by simp, ?_⟩
  simp only [go_sem] at hK hok
  simp (maxSteps := 4000000) only [go_sem, Try.f16, ↓brB_t, ↓brB_f, Nat.reduceAdd, Int.reduceLE, Int.reduceLT, Int.reduceNeg, decide_true, decide_false, Bool.and_self, Nat.succ_eq_add_one, Int.toNat_natCast, Nat.beq_refl, Bool.and_true, Bool.true_and, Bool.false_or, Bool.or_true, List.all_cons, List.all_nil, Nat.reduceMul, Nat.add_zero, Nat.zero_add, List.length_nil, List.length_cons, dite_true, List.nil_append, Nat.reduceBEq, reduceDIte, reduceIte, reduceCtorEq, Bool.or_false, Bool.true_or, Bool.and_false, Bool.false_and, Bool.not_true, Bool.not_false, Option.isSome_some, Option.isSome_none, Option.getD_some, List.getElem?_cons_zero, List.getElem?_cons_succ, eq_self, and_self, List.take_succ_cons, List.take_zero, List.drop_succ_cons, List.drop_zero]
  obtain ⟨hl, hK⟩ := hK
  refine ⟨⟨by omega, by omega, trivial⟩, ?_⟩
  refine loop_okF (T := tab []) [0, 3, 4] [(128, 128)] (fun i : Nat => ⟨22, [(0, ri l), (3, ow 128), (4, vi i)], [(128, rwi (l.take i ++ List.replicate (l.length - i) 0))]⟩)
    (fun i => i ≤ l.length) (fun i => l.length - i) 0 rfl rfl (Nat.zero_le _) (fun i hi => ?_)
  simp only [go_sem, ↓brB_t, ↓brB_f, Nat.reduceAdd, Int.reduceLE, Int.reduceLT, Int.reduceNeg, decide_true, decide_false, Bool.and_self, Nat.succ_eq_add_one, Int.toNat_natCast, Nat.beq_refl, Bool.and_true, Bool.true_and, Bool.false_or, Bool.or_true, List.all_cons, List.all_nil, Nat.reduceMul, Nat.add_zero, Nat.zero_add, List.length_nil, List.length_cons, dite_true, List.nil_append, Nat.reduceBEq, reduceDIte, reduceIte, reduceCtorEq, Bool.or_false, Bool.true_or, Bool.and_false, Bool.false_and, Bool.not_true, Bool.not_false, Option.isSome_some, Option.isSome_none, Option.getD_some, List.getElem?_cons_zero, List.getElem?_cons_succ, eq_self, and_self, List.take_succ_cons, List.take_zero, List.drop_succ_cons, List.drop_zero]
  refine brB_intro (fun h1 => ?_) (fun h1 => retN [128] rfl ?_)
  · simp at h1
    have e : (l.take i ++ List.replicate (l.length - i) (0 : Int)).length = l.length := by simp; omega
    refine ⟨⟨by omega, by omega⟩, ⟨by omega, by rw [e]; omega⟩, ?_⟩
    refine ⟨i + 1, [(128, 128)], by omega, by omega, rfl, ?_⟩
    rw [copy_s h1, w64_s h1 (by omega)]; rfl
  · have e : l.take i ++ List.replicate (l.length - i) (0 : Int) = l := by simp at h1; rw [List.take_of_length_le h1]; simp [Nat.sub_eq_zero_of_le h1]
    rw [e]; exact hK
def c_to : Ctr Try.prog := ⟨16, ent Try.func16 rfl rfl, [], sp_to, good_to, []⟩
@[go_sem] theorem c_to_f : c_to.f = 16 := rfl
@[go_sem] theorem c_to_ms : c_to.ms = [] := rfl
@[go_sem] theorem c_to_sp : c_to.spec = sp_to := rfl
@[go_sem] theorem c_to_fz : c_to.fz = [] := rfl
attribute [go_sem] sp_to
/-- Marks: numbers from k on. -/
def marks (k : Int) : Nat → List Int
  | 0 => []
  | n + 1 => k :: marks (k + 1) n
theorem marks_length (n : Nat) : ∀ k, (marks k n).length = n := by
  induction n with
  | zero => intro k; rfl
  | succ n ih => intro k; simp [marks, ih]
theorem marks_get (n : Nat) : ∀ (k : Int) (i : Nat), i < n → (marks k n).getD i 0 = k + i := by
  induction n with
  | zero => intro k i h; omega
  | succ n ih =>
    intro k i h
    rcases i with _ | i
    · simp [marks]
    · simp only [marks, List.getD_cons_succ]; rw [ih _ _ (by omega)]; omega
theorem marks_snoc (n : Nat) : ∀ k, marks k (n + 1) = marks k n ++ [k + n] := by
  induction n with
  | zero => intro k; simp [marks]
  | succ n ih => intro k; rw [marks, ih]; simp [marks]; omega
def sp_mark : List Cv → List Obj' → Tree
  | [.one (.own 0), .one (.v (.int .i64 k))], [.row t (.int .i64) l] => .need (0 ≤ k ∧ k ≤ 1099511627776 ∧ (l.length : Int) ≤ 1099511627776) (.ret (vi (k + l.length)) [.row t (.int .i64) (marks k l.length)])
  | _, _ => .fail
theorem mark_s {l : List Int} {k : Int} {i : Nat} (h : i < l.length) : (marks k i ++ l.drop i).set i (k + i) = marks k (i + 1) ++ l.drop (i + 1) := by
  rw [List.drop_eq_getElem_cons h, List.set_append_right _ _ (by rw [marks_length]; omega), marks_length, Nat.sub_self, List.set_cons_zero, marks_snoc]
  simp
set_option maxHeartbeats 4000000 in
set_option maxRecDepth 100000 in
theorem good_mark : Good Try.prog 19 sp_mark := by
  refine good_ofF Try.func19 rfl _ rfl _ rfl (tab []) (fun X cs os0 K hok hos hK => ?_)
  unfold sp_mark at hK
  split at hK
  case h_2 => exact hK.elim
  rename_i k t l
  refine ⟨by simp, by simp, ?_⟩
  simp only [go_sem] at hK hok hos
  simp (maxSteps := 4000000) only [go_sem, Try.f19, ↓brB_t, ↓brB_f, Nat.reduceAdd, Int.reduceLE, Int.reduceLT, Int.reduceNeg, decide_true, decide_false, Bool.and_self, Nat.succ_eq_add_one, Int.toNat_natCast, Nat.beq_refl, Bool.and_true, Bool.true_and, Bool.false_or, Bool.or_true, List.all_cons, List.all_nil, Nat.reduceMul, Nat.add_zero, Nat.zero_add, List.length_nil, List.length_cons, dite_true, List.nil_append, Nat.reduceBEq, reduceDIte, reduceIte, reduceCtorEq, Bool.or_false, Bool.true_or, Bool.and_false, Bool.false_and, Bool.not_true, Bool.not_false, Option.isSome_some, Option.isSome_none, Option.getD_some, List.getElem?_cons_zero, List.getElem?_cons_succ, eq_self, and_self, List.take_succ_cons, List.take_zero, List.drop_succ_cons, List.drop_zero]
  obtain ⟨⟨hk0, hk1, hl⟩, hK⟩ := hK
  refine loop_okF (T := tab []) [0, 1, 5] [(0, 0)] (fun i : Nat => ⟨19, [(0, ow 0), (1, vi (k + i)), (5, vi i)], [(0, .row t (.int .i64) (marks k i ++ l.drop i))]⟩)
    (fun i => i ≤ l.length) (fun i => l.length - i) 0 rfl (by simp [reS, reS1, closeL, closeO, reRs, reOs, reO, reO', lk, S.ρ, reR, reC, reA, nw?, marks, go_sem]) (Nat.zero_le _) (fun i hi => ?_)
  have e : (marks k i ++ l.drop i).length = l.length := by simp [marks_length]; omega
  simp only [go_sem, ↓brB_t, ↓brB_f, Nat.reduceAdd, Int.reduceLE, Int.reduceLT, Int.reduceNeg, decide_true, decide_false, Bool.and_self, Nat.succ_eq_add_one, Int.toNat_natCast, Nat.beq_refl, Bool.and_true, Bool.true_and, Bool.false_or, Bool.or_true, List.all_cons, List.all_nil, Nat.reduceMul, Nat.add_zero, Nat.zero_add, List.length_nil, List.length_cons, dite_true, List.nil_append, Nat.reduceBEq, reduceDIte, reduceIte, reduceCtorEq, Bool.or_false, Bool.true_or, Bool.and_false, Bool.false_and, Bool.not_true, Bool.not_false, Option.isSome_some, Option.isSome_none, Option.getD_some, List.getElem?_cons_zero, List.getElem?_cons_succ, eq_self, and_self, List.take_succ_cons, List.take_zero, List.drop_succ_cons, List.drop_zero]
  rw [e]
  refine brB_intro (fun h1 => ?_) (fun h1 => retN [0] rfl ?_)
  · simp at h1
    refine ⟨⟨by omega, by omega⟩, ?_⟩
    refine ⟨i + 1, [(0, 0)], by omega, by omega, rfl, ?_⟩
    rw [mark_s h1, w64_s h1 (by omega), w64_id (by omega) (by omega), Int.add_assoc]; rfl
  · have e : i = l.length := by simp at h1; omega
    subst e
    have e : marks k l.length ++ l.drop l.length = marks k l.length := by simp
    rw [e]; exact hK
def c_mark : Ctr Try.prog := ⟨19, ent Try.func19 rfl rfl, [true], sp_mark, good_mark, []⟩
@[go_sem] theorem c_mark_f : c_mark.f = 19 := rfl
@[go_sem] theorem c_mark_ms : c_mark.ms = [true] := rfl
@[go_sem] theorem c_mark_sp : c_mark.spec = sp_mark := rfl
@[go_sem] theorem c_mark_fz : c_mark.fz = [] := rfl
attribute [go_sem] sp_mark
def sp_held : List Cv → List Obj' → Tree
  | [.one (.ro (.int .i64) l), .one (.v (.int .i64 k))], [] => .need (0 ≤ k ∧ k ≤ 1099511627776 ∧ (l.length : Int) ≤ 1099511627776) (.ret (vi (if (l : List Int) = marks k l.length then k + l.length else -1)) [])
  | _, _ => .fail
theorem held_s {l : List Int} {k : Int} {i : Nat} (h : i < l.length) (ht : l.take i = marks k i) (hx : l.getD i 0 = k + i) : l.take (i + 1) = marks k (i + 1) := by
  rw [marks_snoc, ← ht, List.take_succ_eq_append_getElem h]
  simp [List.getD_eq_getElem?_getD, h] at hx
  rw [hx]
set_option maxHeartbeats 4000000 in
set_option maxRecDepth 100000 in
theorem good_held : Good Try.prog 20 sp_held := by
  refine good_ofF Try.func20 rfl _ rfl _ rfl (tab []) (fun X cs os0 K hok hos hK => ?_)
  clear hos; unfold sp_held at hK
  split at hK
  case h_2 => exact hK.elim
  rename_i l k
  refine ⟨by simp, by simp, ?_⟩
  simp only [go_sem] at hK hok
  simp (maxSteps := 4000000) only [go_sem, Try.f20, ↓brB_t, ↓brB_f, Nat.reduceAdd, Int.reduceLE, Int.reduceLT, Int.reduceNeg, decide_true, decide_false, Bool.and_self, Nat.succ_eq_add_one, Int.toNat_natCast, Nat.beq_refl, Bool.and_true, Bool.true_and, Bool.false_or, Bool.or_true, List.all_cons, List.all_nil, Nat.reduceMul, Nat.add_zero, Nat.zero_add, List.length_nil, List.length_cons, dite_true, List.nil_append, Nat.reduceBEq, reduceDIte, reduceIte, reduceCtorEq, Bool.or_false, Bool.true_or, Bool.and_false, Bool.false_and, Bool.not_true, Bool.not_false, Option.isSome_some, Option.isSome_none, Option.getD_some, List.getElem?_cons_zero, List.getElem?_cons_succ, eq_self, and_self, List.take_succ_cons, List.take_zero, List.drop_succ_cons, List.drop_zero]
  obtain ⟨⟨hk0, hk1, hl⟩, hK⟩ := hK
  refine loop_okF (T := tab []) [0, 1, 5] [] (fun i : Nat => ⟨21, [(0, ri l), (1, vi (k + i)), (5, vi i)], []⟩)
    (fun i => i ≤ l.length ∧ l.take i = marks k i) (fun i => l.length - i) 0 rfl (by simp [reS, reS1, closeL, closeO, reRs, reOs, reO, reO', lk, S.ρ, reR, reC, reA, nw?, marks, go_sem]) ⟨Nat.zero_le _, rfl⟩ (fun i hi => ?_)
  obtain ⟨hi, ht⟩ := hi
  simp only [go_sem, ↓brB_t, ↓brB_f, Nat.reduceAdd, Int.reduceLE, Int.reduceLT, Int.reduceNeg, decide_true, decide_false, Bool.and_self, Nat.succ_eq_add_one, Int.toNat_natCast, Nat.beq_refl, Bool.and_true, Bool.true_and, Bool.false_or, Bool.or_true, List.all_cons, List.all_nil, Nat.reduceMul, Nat.add_zero, Nat.zero_add, List.length_nil, List.length_cons, dite_true, List.nil_append, Nat.reduceBEq, reduceDIte, reduceIte, reduceCtorEq, Bool.or_false, Bool.true_or, Bool.and_false, Bool.false_and, Bool.not_true, Bool.not_false, Option.isSome_some, Option.isSome_none, Option.getD_some, List.getElem?_cons_zero, List.getElem?_cons_succ, eq_self, and_self, List.take_succ_cons, List.take_zero, List.drop_succ_cons, List.drop_zero]
  refine brB_intro (fun h1 => ⟨by simp at h1; omega, brB_intro (fun h2 => ret0 ?_) (fun h2 => ?_)⟩) (fun h1 => ret0 ?_)
  · have e : ¬ l = marks k l.length := fun e => by
      simp at h1 h2
      apply h2
      have : l.getD i 0 = (marks k l.length).getD i 0 := by rw [← e]
      rw [marks_get _ _ _ h1] at this
      simpa [List.getD_eq_getElem?_getD] using this
    rw [if_neg e] at hK; exact hK
  · simp at h1 h2
    refine ⟨i + 1, [], ⟨by omega, held_s h1 ht (by simpa [List.getD_eq_getElem?_getD] using h2)⟩, by omega, rfl, ?_⟩
    rw [w64_s h1 (by omega), w64_id (by omega) (by omega), Int.add_assoc]; rfl
  · have e : i = l.length := by simp at h1; omega
    subst e
    rw [List.take_length] at ht
    rw [if_pos ht] at hK; exact hK
def c_held : Ctr Try.prog := ⟨20, ent Try.func20 rfl rfl, [], sp_held, good_held, []⟩
@[go_sem] theorem c_held_f : c_held.f = 20 := rfl
@[go_sem] theorem c_held_ms : c_held.ms = [] := rfl
@[go_sem] theorem c_held_sp : c_held.spec = sp_held := rfl
@[go_sem] theorem c_held_fz : c_held.fz = [] := rfl
attribute [go_sem] sp_held
end Go.Proofs.Ytihfncjpfgdhoaa.V
