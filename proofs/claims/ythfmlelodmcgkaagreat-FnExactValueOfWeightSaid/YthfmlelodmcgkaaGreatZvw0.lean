/- Packed texts of this session's: VW1, WWords, WLast, WApart, WArr, WFoot, WKept, WShare, WN, WMore, KRows, KMap, KEv, KWord, KCl, VB, VW2, VL, VI0, VY3, VFl, VI1, VDel, VI3, VLX, VG, VCat, VD0. Conditions: in each. -/
import Derived.Test.YthfmlelodmcgkaaGreatProg
import Derived.Test.YthfmlelodmcgkaaGreatVCore
import Derived.Test.YthfmlelodmcgkaaGreatVNest
import Derived.Test.YthfmlelodmcgkaaGreatVStep
import Derived.Test.YthfmlelodmcgkaaGreatVHole
import Derived.Test.YthfmlelodmcgkaaGreatVMap
import Derived.Test.YthfmlelodmcgkaaGreatVRun
import Derived.Test.YthfmlelodmcgkaaGreatVKf
import Derived.Test.YthfmlelodmcgkaaGreatVTy
import Derived.Below
import Derived.Deep.Draws
import Derived.Deep.AppendLies
import Derived.Maps.AppendAt
import Derived.OwnWalk
import Derived.Laws.BytesArg
import Derived.Laws.MakeOwn
import Derived.Laws.OwnMore
import Derived.Deep.OwnRows
import Derived.Tactics
import Derived.Lib.ConvBytes
import Derived.Laws.Slices
import Derived.WalkKit
import Derived.KernelRfl
import Derived.RowKit3
import Derived.Deep.LoopGhost
import Derived.Deep.QuietTactic
import Derived.BigQuiet
import Derived.WideLaws
import Derived.Deep.DeepCutAuto
import Derived.Deep.CutBlock
import Derived.Deep.RegionHeld3
import Derived.Laws.Rows
import Derived.Lib.AppendStr
import Derived.ArgAppend
import Derived.Laws.IdiomCopy
import Derived.RowKit
import Derived.OrdersHeld
import Derived.Laws.BitsLemmas
import Derived.Maps.OwnOps
import Derived.Maps.OwnSet
import Derived.Maps.Ext
import Derived.Maps.RangeWalk
import Derived.Lib.Walk
import Derived.Lib.SliceRun
import Derived.Laws.Externs
import Derived.Laws.NewBlocks
import Derived.Shelf.SlicesE.Delete
import Derived.Lib.AppendZerosOnto
import Derived.Shelf.SlSortCmp.NoneTotal
import Derived.Sort.Grow
import Derived.ChangeSame
import Derived.WideShapes
set_option linter.unusedVariables false
set_option linter.unusedSimpArgs false
set_option linter.unusedSectionVars false
section
namespace Go.Proofs.YthfmlelodmcgkaaGreat.V
open Go
abbrev ri (l : List Int) : Rv := .val (.one (.ro (.int .i64) l))
abbrev vi (n : Int) : Rv := .val (.one (.v (.int .i64 n)))
abbrev vb (b : Bool) : Rv := .val (.one (.v (.bool b)))
abbrev ow (i : Nat) : Rv := .val (.one (.own i))
abbrev rwi (l : List Int) : Obj' := .row 2 (.int .i64) l
theorem w64_id {x : Int} (h0 : -9223372036854775808 ≤ x) (h1 : x ≤ 9223372036854775807) : w64 x = x := by rw [w64_def]; omega
theorem len_i {α : Type} {l : List α} (h : l.length ≤ maxLen) : (l.length : Int) ≤ 9223372036854775807 := by unfold maxLen at h; omega
theorem w64_s {i n : Nat} (h : i < n) (hn : (n : Int) ≤ 9223372036854775807) : w64 ((i : Int) + 1) = ((i + 1 : Nat) : Int) := by rw [w64_id (by omega) (by omega)]; omega
theorem take_s {α : Type} {l m : List α} {i : Nat} {d : α} (h : l.take i = m.take i) (h1 : i < l.length) (h2 : i < m.length) (h3 : l.getD i d = m.getD i d) : l.take (i + 1) = m.take (i + 1) := by
  simp [List.getD_eq_getElem?_getD, h1, h2] at h3
  rw [List.take_succ_eq_append_getElem h1, List.take_succ_eq_append_getElem h2, h, h3]
def inB (n a b : Int) : Bool := decide (a ≤ n) && decide (n ≤ b)
def sp_in : List Cv → List Obj' → Tree
  | [.one (.v (.int .i64 n)), .one (.v (.int .i64 a)), .one (.v (.int .i64 b))], [] => .ret (vb (inB n a b)) []
  | _, _ => .fail
set_option maxHeartbeats 4000000 in
set_option maxRecDepth 100000 in
theorem good_in : Good Tryz.prog 53 sp_in := by
  refine good_ofF Tryz.func53 rfl _ rfl _ rfl (tab []) (fun X cs os0 K hok hos hK => ?_)
  clear hos; unfold sp_in at hK
  split at hK
  case h_2 => exact hK.elim
  rename_i n a b
  refine ⟨by simp, by simp, ?_⟩
  simp only [go_sem] at hK hok
  simp (maxSteps := 4000000) only [go_sem, Tryz.f53, ↓brB_t, ↓brB_f, Nat.reduceAdd, Int.reduceLE, Int.reduceLT, Int.reduceNeg, decide_true, decide_false, Bool.and_self, Nat.succ_eq_add_one, Int.toNat_natCast, Nat.beq_refl, Bool.and_true, Bool.true_and, Bool.false_or, Bool.or_true, List.all_cons, List.all_nil, Nat.reduceMul, Nat.add_zero, Nat.zero_add, List.length_nil, List.length_cons, dite_true, List.nil_append, Nat.reduceBEq, reduceDIte, reduceIte, reduceCtorEq, Bool.or_false, Bool.true_or, Bool.and_false, Bool.false_and, Bool.not_true, Bool.not_false, Option.isSome_some, Option.isSome_none, Option.getD_some, List.getElem?_cons_zero, List.getElem?_cons_succ, eq_self, and_self, List.take_succ_cons, List.take_zero, List.drop_succ_cons, List.drop_zero]
  refine brB_intro (fun h => ret0 ?_) (fun h => ret0 ?_) <;> simpa [go_sem, inB, h] using hK
def c_in : Ctr Tryz.prog := ⟨53, ent Tryz.func53 rfl rfl, [], sp_in, good_in, []⟩
@[go_sem] theorem c_in_f : c_in.f = 53 := rfl
@[go_sem] theorem c_in_ms : c_in.ms = [] := rfl
@[go_sem] theorem c_in_sp : c_in.spec = sp_in := rfl
@[go_sem] theorem c_in_fz : c_in.fz = [] := rfl
attribute [go_sem] sp_in
set_option maxHeartbeats 4000000 in
set_option maxRecDepth 100000 in
theorem good_l01In : Good Tryz.prog 47 sp_in := by
  refine good_ofF Tryz.func47 rfl _ rfl _ rfl (tab []) (fun X cs os0 K hok hos hK => ?_)
  clear hos; unfold sp_in at hK
  split at hK
  case h_2 => exact hK.elim
  rename_i n a b
  refine ⟨by simp, by simp, ?_⟩
  simp only [go_sem] at hK hok
  simp (maxSteps := 4000000) only [go_sem, Tryz.f47, ↓brB_t, ↓brB_f, Nat.reduceAdd, Int.reduceLE, Int.reduceLT, Int.reduceNeg, decide_true, decide_false, Bool.and_self, Nat.succ_eq_add_one, Int.toNat_natCast, Nat.beq_refl, Bool.and_true, Bool.true_and, Bool.false_or, Bool.or_true, List.all_cons, List.all_nil, Nat.reduceMul, Nat.add_zero, Nat.zero_add, List.length_nil, List.length_cons, dite_true, List.nil_append, Nat.reduceBEq, reduceDIte, reduceIte, reduceCtorEq, Bool.or_false, Bool.true_or, Bool.and_false, Bool.false_and, Bool.not_true, Bool.not_false, Option.isSome_some, Option.isSome_none, Option.getD_some, List.getElem?_cons_zero, List.getElem?_cons_succ, eq_self, and_self, List.take_succ_cons, List.take_zero, List.drop_succ_cons, List.drop_zero]
  refine brB_intro (fun h => ret0 ?_) (fun h => ret0 ?_) <;> simpa [go_sem, inB, h] using hK
def c_l01In : Ctr Tryz.prog := ⟨47, ent Tryz.func47 rfl rfl, [], sp_in, good_l01In, []⟩
@[go_sem] theorem c_l01In_f : c_l01In.f = 47 := rfl
@[go_sem] theorem c_l01In_ms : c_l01In.ms = [] := rfl
@[go_sem] theorem c_l01In_sp : c_l01In.spec = sp_in := rfl
@[go_sem] theorem c_l01In_fz : c_l01In.fz = [] := rfl
attribute [go_sem] sp_in
theorem half {n : Nat} (hn : (n : Int) ≤ 9223372036854775807) : w64 ((n : Int).tdiv 2) = ((n / 2 : Nat) : Int) := by
  have : ((n : Int).tdiv 2) = ((n / 2 : Nat) : Int) := by rw [Int.tdiv_eq_ediv_of_nonneg (by omega)]; omega
  rw [this, w64_id (by omega) (by omega)]
def sp_chords : List Cv → List Obj' → Tree
  | [.one (.ro (.int .i64) l)], [] => .ret (vi ((l.length / 2 : Nat) : Int)) []
  | _, _ => .fail
set_option maxHeartbeats 4000000 in
set_option maxRecDepth 100000 in
theorem good_chords : Good Tryz.prog 135 sp_chords := by
  refine good_ofF Tryz.func135 rfl _ rfl _ rfl (tab []) (fun X cs os0 K hok hos hK => ?_)
  clear hos; unfold sp_chords at hK
  split at hK
  case h_2 => exact hK.elim
  rename_i l
  refine ⟨by simp, by simp, ?_⟩
  simp only [go_sem] at hK hok
  simp (maxSteps := 4000000) only [go_sem, Tryz.f135, ↓brB_t, ↓brB_f, Nat.reduceAdd, Int.reduceLE, Int.reduceLT, Int.reduceNeg, decide_true, decide_false, Bool.and_self, Nat.succ_eq_add_one, Int.toNat_natCast, Nat.beq_refl, Bool.and_true, Bool.true_and, Bool.false_or, Bool.or_true, List.all_cons, List.all_nil, Nat.reduceMul, Nat.add_zero, Nat.zero_add, List.length_nil, List.length_cons, dite_true, List.nil_append, Nat.reduceBEq, reduceDIte, reduceIte, reduceCtorEq, Bool.or_false, Bool.true_or, Bool.and_false, Bool.false_and, Bool.not_true, Bool.not_false, Option.isSome_some, Option.isSome_none, Option.getD_some, List.getElem?_cons_zero, List.getElem?_cons_succ, eq_self, and_self, List.take_succ_cons, List.take_zero, List.drop_succ_cons, List.drop_zero]
  have hl := len_i hok.1.1
  rw [half hl]
  exact ⟨by decide, ret0 hK⟩
def c_chords : Ctr Tryz.prog := ⟨135, ent Tryz.func135 rfl rfl, [], sp_chords, good_chords, []⟩
@[go_sem] theorem c_chords_f : c_chords.f = 135 := rfl
@[go_sem] theorem c_chords_ms : c_chords.ms = [] := rfl
@[go_sem] theorem c_chords_sp : c_chords.spec = sp_chords := rfl
@[go_sem] theorem c_chords_fz : c_chords.fz = [] := rfl
attribute [go_sem] sp_chords
def sp_eq : List Cv → List Obj' → Tree
  | [.one (.ro (.int .i64) l), .one (.ro (.int .i64) m)], [] => .ret (vb (decide ((l : List Int) = m))) []
  | _, _ => .fail
theorem eq_len {l m : List Int} (h : (!decide ((l.length : Int) = m.length)) = true) : decide (l = m) = false := by
  simp at h ⊢; intro e; exact h (by rw [e])
theorem eq_get {l m : List Int} {i : Nat} {d : Int} (h : (!decide (l.getD i d = m.getD i d)) = true) : decide (l = m) = false := by
  simp at h ⊢; intro e; exact h (by rw [e])
theorem eq_all {l m : List Int} {i : Nat} (h : decide ((i : Int) < l.length) = false) (ht : l.take i = m.take i) (hlm : (l.length : Int) = m.length) : decide (l = m) = true := by
  simp at h ⊢
  rw [List.take_of_length_le h, List.take_of_length_le (by omega)] at ht
  exact ht
set_option maxHeartbeats 4000000 in
set_option maxRecDepth 100000 in
theorem good_eq : Good Tryz.prog 136 sp_eq := by
  refine good_ofF Tryz.func136 rfl _ rfl _ rfl (tab []) (fun X cs os0 K hok hos hK => ?_)
  clear hos; unfold sp_eq at hK
  split at hK
  case h_2 => exact hK.elim
  rename_i l m
  refine ⟨by simp, by simp, ?_⟩
  simp only [go_sem] at hK hok
  simp (maxSteps := 4000000) only [go_sem, Tryz.f136, ↓brB_t, ↓brB_f, Nat.reduceAdd, Int.reduceLE, Int.reduceLT, Int.reduceNeg, decide_true, decide_false, Bool.and_self, Nat.succ_eq_add_one, Int.toNat_natCast, Nat.beq_refl, Bool.and_true, Bool.true_and, Bool.false_or, Bool.or_true, List.all_cons, List.all_nil, Nat.reduceMul, Nat.add_zero, Nat.zero_add, List.length_nil, List.length_cons, dite_true, List.nil_append, Nat.reduceBEq, reduceDIte, reduceIte, reduceCtorEq, Bool.or_false, Bool.true_or, Bool.and_false, Bool.false_and, Bool.not_true, Bool.not_false, Option.isSome_some, Option.isSome_none, Option.getD_some, List.getElem?_cons_zero, List.getElem?_cons_succ, eq_self, and_self, List.take_succ_cons, List.take_zero, List.drop_succ_cons, List.drop_zero]
  have hl := len_i hok.1.1
  refine brB_intro (fun h => ret0 (by rw [eq_len h] at hK; exact hK)) (fun h => ?_)
  simp at h
  refine loop_okF (T := tab []) [0, 1, 12, 13] [] (fun i : Nat => ⟨26, [(0, ri l), (1, ri m), (12, vi l.length), (13, vi i)], []⟩)
    (fun i => i ≤ l.length ∧ l.take i = m.take i) (fun i => l.length - i) 0 rfl rfl ⟨Nat.zero_le _, rfl⟩ (fun i hi => ?_)
  obtain ⟨hi, ht⟩ := hi
  simp only [go_sem, ↓brB_t, ↓brB_f, Nat.reduceAdd, Int.reduceLE, Int.reduceLT, Int.reduceNeg, decide_true, decide_false, Bool.and_self, Nat.succ_eq_add_one, Int.toNat_natCast, Nat.beq_refl, Bool.and_true, Bool.true_and, Bool.false_or, Bool.or_true, List.all_cons, List.all_nil, Nat.reduceMul, Nat.add_zero, Nat.zero_add, List.length_nil, List.length_cons, dite_true, List.nil_append, Nat.reduceBEq, reduceDIte, reduceIte, reduceCtorEq, Bool.or_false, Bool.true_or, Bool.and_false, Bool.false_and, Bool.not_true, Bool.not_false, Option.isSome_some, Option.isSome_none, Option.getD_some, List.getElem?_cons_zero, List.getElem?_cons_succ, eq_self, and_self, List.take_succ_cons, List.take_zero, List.drop_succ_cons, List.drop_zero]
  refine brB_intro (fun h1 => ⟨by simp at h1; omega, by simp at h1; omega, by kernel_rfl, brB_intro (fun h2 => ret0 (by rw [eq_get h2] at hK; exact hK)) (fun h2 => ?_)⟩) (fun h1 => ret0 (by rw [eq_all h1 ht h] at hK; exact hK))
  simp at h1 h2
  refine ⟨i + 1, [], ⟨by omega, take_s ht (by omega) (by omega) (by simpa using h2)⟩, by omega, rfl, ?_⟩
  rw [w64_s h1 hl]; rfl
def c_equal : Ctr Tryz.prog := ⟨136, ent Tryz.func136 rfl rfl, [], sp_eq, good_eq, []⟩
@[go_sem] theorem c_equal_f : c_equal.f = 136 := rfl
@[go_sem] theorem c_equal_ms : c_equal.ms = [] := rfl
@[go_sem] theorem c_equal_sp : c_equal.spec = sp_eq := rfl
@[go_sem] theorem c_equal_fz : c_equal.fz = [] := rfl
attribute [go_sem] sp_eq
set_option maxHeartbeats 4000000 in
set_option maxRecDepth 100000 in
theorem good_eqS : Good Tryz.prog 17 sp_eq := by
  refine good_ofF Tryz.func17 rfl _ rfl _ rfl (tab []) (fun X cs os0 K hok hos hK => ?_)
  clear hos; unfold sp_eq at hK
  split at hK
  case h_2 => exact hK.elim
  rename_i l m
  refine ⟨by simp, by simp, ?_⟩
  simp only [go_sem] at hK hok
  simp (maxSteps := 4000000) only [go_sem, Tryz.f17, ↓brB_t, ↓brB_f, Nat.reduceAdd, Int.reduceLE, Int.reduceLT, Int.reduceNeg, decide_true, decide_false, Bool.and_self, Nat.succ_eq_add_one, Int.toNat_natCast, Nat.beq_refl, Bool.and_true, Bool.true_and, Bool.false_or, Bool.or_true, List.all_cons, List.all_nil, Nat.reduceMul, Nat.add_zero, Nat.zero_add, List.length_nil, List.length_cons, dite_true, List.nil_append, Nat.reduceBEq, reduceDIte, reduceIte, reduceCtorEq, Bool.or_false, Bool.true_or, Bool.and_false, Bool.false_and, Bool.not_true, Bool.not_false, Option.isSome_some, Option.isSome_none, Option.getD_some, List.getElem?_cons_zero, List.getElem?_cons_succ, eq_self, and_self, List.take_succ_cons, List.take_zero, List.drop_succ_cons, List.drop_zero]
  have hl := len_i hok.1.1
  refine brB_intro (fun h => ret0 (by rw [eq_len h] at hK; exact hK)) (fun h => ?_)
  simp at h
  refine loop_okF (T := tab []) [0, 1, 5] [] (fun i : Nat => ⟨26, [(0, ri l), (1, ri m), (5, vi i)], []⟩)
    (fun i => i ≤ l.length ∧ l.take i = m.take i) (fun i => l.length - i) 0 rfl rfl ⟨Nat.zero_le _, rfl⟩ (fun i hi => ?_)
  obtain ⟨hi, ht⟩ := hi
  simp only [go_sem, ↓brB_t, ↓brB_f, Nat.reduceAdd, Int.reduceLE, Int.reduceLT, Int.reduceNeg, decide_true, decide_false, Bool.and_self, Nat.succ_eq_add_one, Int.toNat_natCast, Nat.beq_refl, Bool.and_true, Bool.true_and, Bool.false_or, Bool.or_true, List.all_cons, List.all_nil, Nat.reduceMul, Nat.add_zero, Nat.zero_add, List.length_nil, List.length_cons, dite_true, List.nil_append, Nat.reduceBEq, reduceDIte, reduceIte, reduceCtorEq, Bool.or_false, Bool.true_or, Bool.and_false, Bool.false_and, Bool.not_true, Bool.not_false, Option.isSome_some, Option.isSome_none, Option.getD_some, List.getElem?_cons_zero, List.getElem?_cons_succ, eq_self, and_self, List.take_succ_cons, List.take_zero, List.drop_succ_cons, List.drop_zero]
  refine brB_intro (fun h1 => ⟨by simp at h1; omega, by simp at h1; omega, by kernel_rfl, brB_intro (fun h2 => ret0 (by rw [eq_get h2] at hK; exact hK)) (fun h2 => ?_)⟩) (fun h1 => ret0 (by rw [eq_all h1 ht h] at hK; exact hK))
  simp at h1 h2
  refine ⟨i + 1, [], ⟨by omega, take_s ht (by omega) (by omega) (by simpa using h2)⟩, by omega, rfl, ?_⟩
  rw [w64_s h1 hl]; rfl
def c_eqS : Ctr Tryz.prog := ⟨17, ent Tryz.func17 rfl rfl, [], sp_eq, good_eqS, []⟩
@[go_sem] theorem c_eqS_f : c_eqS.f = 17 := rfl
@[go_sem] theorem c_eqS_ms : c_eqS.ms = [] := rfl
@[go_sem] theorem c_eqS_sp : c_eqS.spec = sp_eq := rfl
@[go_sem] theorem c_eqS_fz : c_eqS.fz = [] := rfl
attribute [go_sem] sp_eq
set_option maxHeartbeats 4000000 in
set_option maxRecDepth 100000 in
theorem good_l01Same : Good Tryz.prog 88 sp_eq := by
  refine good_ofF Tryz.func88 rfl _ rfl _ rfl (tab []) (fun X cs os0 K hok hos hK => ?_)
  clear hos; unfold sp_eq at hK
  split at hK
  case h_2 => exact hK.elim
  rename_i l m
  refine ⟨by simp, by simp, ?_⟩
  simp only [go_sem] at hK hok
  simp (maxSteps := 4000000) only [go_sem, Tryz.f88, ↓brB_t, ↓brB_f, Nat.reduceAdd, Int.reduceLE, Int.reduceLT, Int.reduceNeg, decide_true, decide_false, Bool.and_self, Nat.succ_eq_add_one, Int.toNat_natCast, Nat.beq_refl, Bool.and_true, Bool.true_and, Bool.false_or, Bool.or_true, List.all_cons, List.all_nil, Nat.reduceMul, Nat.add_zero, Nat.zero_add, List.length_nil, List.length_cons, dite_true, List.nil_append, Nat.reduceBEq, reduceDIte, reduceIte, reduceCtorEq, Bool.or_false, Bool.true_or, Bool.and_false, Bool.false_and, Bool.not_true, Bool.not_false, Option.isSome_some, Option.isSome_none, Option.getD_some, List.getElem?_cons_zero, List.getElem?_cons_succ, eq_self, and_self, List.take_succ_cons, List.take_zero, List.drop_succ_cons, List.drop_zero]
  have hl := len_i hok.1.1
  refine brB_intro (fun h => ret0 (by rw [eq_len h] at hK; exact hK)) (fun h => ?_)
  simp at h
  refine loop_okF (T := tab []) [0, 1, 5] [] (fun i : Nat => ⟨26, [(0, ri l), (1, ri m), (5, vi i)], []⟩)
    (fun i => i ≤ l.length ∧ l.take i = m.take i) (fun i => l.length - i) 0 rfl rfl ⟨Nat.zero_le _, rfl⟩ (fun i hi => ?_)
  obtain ⟨hi, ht⟩ := hi
  simp only [go_sem, ↓brB_t, ↓brB_f, Nat.reduceAdd, Int.reduceLE, Int.reduceLT, Int.reduceNeg, decide_true, decide_false, Bool.and_self, Nat.succ_eq_add_one, Int.toNat_natCast, Nat.beq_refl, Bool.and_true, Bool.true_and, Bool.false_or, Bool.or_true, List.all_cons, List.all_nil, Nat.reduceMul, Nat.add_zero, Nat.zero_add, List.length_nil, List.length_cons, dite_true, List.nil_append, Nat.reduceBEq, reduceDIte, reduceIte, reduceCtorEq, Bool.or_false, Bool.true_or, Bool.and_false, Bool.false_and, Bool.not_true, Bool.not_false, Option.isSome_some, Option.isSome_none, Option.getD_some, List.getElem?_cons_zero, List.getElem?_cons_succ, eq_self, and_self, List.take_succ_cons, List.take_zero, List.drop_succ_cons, List.drop_zero]
  refine brB_intro (fun h1 => ⟨by simp at h1; omega, by simp at h1; omega, by kernel_rfl, brB_intro (fun h2 => ret0 (by rw [eq_get h2] at hK; exact hK)) (fun h2 => ?_)⟩) (fun h1 => ret0 (by rw [eq_all h1 ht h] at hK; exact hK))
  simp at h1 h2
  refine ⟨i + 1, [], ⟨by omega, take_s ht (by omega) (by omega) (by simpa using h2)⟩, by omega, rfl, ?_⟩
  rw [w64_s h1 hl]; rfl
def c_l01Same : Ctr Tryz.prog := ⟨88, ent Tryz.func88 rfl rfl, [], sp_eq, good_l01Same, []⟩
@[go_sem] theorem c_l01Same_f : c_l01Same.f = 88 := rfl
@[go_sem] theorem c_l01Same_ms : c_l01Same.ms = [] := rfl
@[go_sem] theorem c_l01Same_sp : c_l01Same.spec = sp_eq := rfl
@[go_sem] theorem c_l01Same_fz : c_l01Same.fz = [] := rfl
attribute [go_sem] sp_eq
def sp_sz : List Cv → List Obj' → Tree
  | [.one (.ro (.int .i64) l), .one (.v (.int .i64 n))], [] => .need (0 ≤ n) (.ret (vi (if n < l.length then -1 else n - l.length)) [])
  | _, _ => .fail
set_option maxHeartbeats 4000000 in
set_option maxRecDepth 100000 in
theorem good_sz : Good Tryz.prog 125 sp_sz := by
  refine good_ofF Tryz.func125 rfl _ rfl _ rfl (tab []) (fun X cs os0 K hok hos hK => ?_)
  clear hos; unfold sp_sz at hK
  split at hK
  case h_2 => exact hK.elim
  rename_i l n
  refine ⟨by simp, by simp, ?_⟩
  simp only [go_sem] at hK hok
  simp (maxSteps := 4000000) only [go_sem, Tryz.f125, ↓brB_t, ↓brB_f, Nat.reduceAdd, Int.reduceLE, Int.reduceLT, Int.reduceNeg, decide_true, decide_false, Bool.and_self, Nat.succ_eq_add_one, Int.toNat_natCast, Nat.beq_refl, Bool.and_true, Bool.true_and, Bool.false_or, Bool.or_true, List.all_cons, List.all_nil, Nat.reduceMul, Nat.add_zero, Nat.zero_add, List.length_nil, List.length_cons, dite_true, List.nil_append, Nat.reduceBEq, reduceDIte, reduceIte, reduceCtorEq, Bool.or_false, Bool.true_or, Bool.and_false, Bool.false_and, Bool.not_true, Bool.not_false, Option.isSome_some, Option.isSome_none, Option.getD_some, List.getElem?_cons_zero, List.getElem?_cons_succ, eq_self, and_self, List.take_succ_cons, List.take_zero, List.drop_succ_cons, List.drop_zero]
  have hl := len_i hok.1.1
  obtain ⟨hn, hK⟩ := hK
  simp only [show w64 (n - l.length) = n - l.length from w64_id (by omega) (by omega)]
  refine brB_intro (fun h => ret0 ?_) (fun h => ret0 ?_)
  · have e : n < l.length := by simp at h; omega
    simpa [go_sem, e] using hK
  · have e : ¬ n < l.length := by simp at h; omega
    rw [if_neg e] at hK; exact hK
def c_sz : Ctr Tryz.prog := ⟨125, ent Tryz.func125 rfl rfl, [], sp_sz, good_sz, []⟩
@[go_sem] theorem c_sz_f : c_sz.f = 125 := rfl
@[go_sem] theorem c_sz_ms : c_sz.ms = [] := rfl
@[go_sem] theorem c_sz_sp : c_sz.spec = sp_sz := rfl
@[go_sem] theorem c_sz_fz : c_sz.fz = [] := rfl
attribute [go_sem] sp_sz
def sp_to : List Cv → List Obj' → Tree
  | [.one (.ro (.int .i64) l)], [] => .need (l.length ≤ 1099511627776) (.ret (ow 0) [rwi l])
  | _, _ => .fail
theorem copy_s {l : List Int} {i : Nat} (h : i < l.length) : (l.take i ++ List.replicate (l.length - i) (0 : Int)).set i (l.getD i 0) = l.take (i + 1) ++ List.replicate (l.length - (i + 1)) 0 := by
  have e : l.length - i = (l.length - (i + 1)) + 1 := by omega
  rw [e, List.replicate_succ, List.set_append_right _ _ (by simp; omega)]
  simp only [List.length_take, Nat.min_eq_left (Nat.le_of_lt h), Nat.sub_self, List.set_cons_zero]
  rw [List.take_succ_eq_append_getElem h, List.append_assoc]
  simp [List.getD_eq_getElem?_getD, h]
set_option maxHeartbeats 4000000 in
set_option maxRecDepth 100000 in
theorem good_to : Good Tryz.prog 23 sp_to := by
  refine good_ofF Tryz.func23 rfl _ rfl _ rfl (tab []) (fun X cs os0 K hok hos hK => ?_)
  clear hos; unfold sp_to at hK
  split at hK
  case h_2 => exact hK.elim
  rename_i l
  refine ⟨by simp, by simp, ?_⟩
  simp only [go_sem] at hK hok
  simp (maxSteps := 4000000) only [go_sem, Tryz.f23, ↓brB_t, ↓brB_f, Nat.reduceAdd, Int.reduceLE, Int.reduceLT, Int.reduceNeg, decide_true, decide_false, Bool.and_self, Nat.succ_eq_add_one, Int.toNat_natCast, Nat.beq_refl, Bool.and_true, Bool.true_and, Bool.false_or, Bool.or_true, List.all_cons, List.all_nil, Nat.reduceMul, Nat.add_zero, Nat.zero_add, List.length_nil, List.length_cons, dite_true, List.nil_append, Nat.reduceBEq, reduceDIte, reduceIte, reduceCtorEq, Bool.or_false, Bool.true_or, Bool.and_false, Bool.false_and, Bool.not_true, Bool.not_false, Option.isSome_some, Option.isSome_none, Option.getD_some, List.getElem?_cons_zero, List.getElem?_cons_succ, eq_self, and_self, List.take_succ_cons, List.take_zero, List.drop_succ_cons, List.drop_zero]
  obtain ⟨hl, hK⟩ := hK
  refine ⟨⟨by omega, by omega, trivial⟩, ?_⟩
  refine loop_okF (T := tab []) [0, 3, 4] [(128, 128)] (fun i : Nat => ⟨22, [(0, ri l), (3, ow 128), (4, vi i)], [(128, rwi (l.take i ++ List.replicate (l.length - i) 0))]⟩)
    (fun i => i ≤ l.length) (fun i => l.length - i) 0 rfl rfl (Nat.zero_le _) (fun i hi => ?_)
  simp only [go_sem, ↓brB_t, ↓brB_f, Nat.reduceAdd, Int.reduceLE, Int.reduceLT, Int.reduceNeg, decide_true, decide_false, Bool.and_self, Nat.succ_eq_add_one, Int.toNat_natCast, Nat.beq_refl, Bool.and_true, Bool.true_and, Bool.false_or, Bool.or_true, List.all_cons, List.all_nil, Nat.reduceMul, Nat.add_zero, Nat.zero_add, List.length_nil, List.length_cons, dite_true, List.nil_append, Nat.reduceBEq, reduceDIte, reduceIte, reduceCtorEq, Bool.or_false, Bool.true_or, Bool.and_false, Bool.false_and, Bool.not_true, Bool.not_false, Option.isSome_some, Option.isSome_none, Option.getD_some, List.getElem?_cons_zero, List.getElem?_cons_succ, eq_self, and_self, List.take_succ_cons, List.take_zero, List.drop_succ_cons, List.drop_zero]
  refine brB_intro (fun h1 => ?_) (fun h1 => retN [128] rfl ?_)
  · simp at h1
    have e : (l.take i ++ List.replicate (l.length - i) (0 : Int)).length = l.length := by simp; omega
    refine ⟨⟨by omega, by omega⟩, ⟨by omega, by rw [e]; omega⟩, ?_⟩
    refine ⟨i + 1, [(128, 128)], by omega, by omega, rfl, ?_⟩
    rw [copy_s h1, w64_s h1 (by omega)]; rfl
  · have e : l.take i ++ List.replicate (l.length - i) (0 : Int) = l := by simp at h1; rw [List.take_of_length_le h1]; simp [Nat.sub_eq_zero_of_le h1]
    rw [e]; exact hK
def c_to : Ctr Tryz.prog := ⟨23, ent Tryz.func23 rfl rfl, [], sp_to, good_to, []⟩
@[go_sem] theorem c_to_f : c_to.f = 23 := rfl
@[go_sem] theorem c_to_ms : c_to.ms = [] := rfl
@[go_sem] theorem c_to_sp : c_to.spec = sp_to := rfl
@[go_sem] theorem c_to_fz : c_to.fz = [] := rfl
attribute [go_sem] sp_to
end Go.Proofs.YthfmlelodmcgkaaGreat.V
end
section
namespace Go.Proofs.YthfmlelodmcgkaaGreatW.PrintWords
open Go.RowKit
structure Aside0 (p : Prop) : Prop where mk :: (out : p)
structure Drawn0 (w w' : World) : Prop where mk :: (out : ∃ n, w' = w.drewN n)
theorem Drawn0.refl (w : World) : Drawn0 w w := ⟨⟨0, rfl⟩⟩
theorem Drawn0.step {w w' : World} (h : Drawn0 w w') (n : Nat) : Drawn0 w (w'.drewN n) := by
  obtain ⟨m, rfl⟩ := h
  exact ⟨⟨m + n, World.drewN_drewN ..⟩⟩
theorem Drawn0.grown {w w' : World} (h : Drawn0 w w') : Grown w w' := by
  obtain ⟨n, rfl⟩ := h
  induction n with
  | zero => exact Grown.refl _
  | succ n ih => rw [← World.drew_drewN]; exact Grown.drew ih
theorem Drawn0.below {w w' : World} (h : Drawn0 w w') : Below w.heap.size w w' := by
  obtain ⟨n, rfl⟩ := h
  induction n with
  | zero => exact Below.refl _ _
  | succ n ih => rw [← World.drew_drewN]; exact ih.drew
def rd (xs : List Int) (i : Int) : Int := xs.getD i.toNat 0
def bt (s : ByteArray) (i : Int) : Int := if h : i.toNat < s.size then ((s[i.toNat]'h).toNat : Int) else 0
theorem below_alloc {w W : World} (h : Below w.heap.size w W) (o : Obj) : Below w.heap.size w (W.alloc o) := h.alloc h.size o
theorem below_drew {B : Nat} {w W : World} (h : Below B w W) : Below B w W.drew := ⟨h.os, h.tape, h.output, h.size, h.block⟩
theorem pw_below_drewN {B : Nat} {w W : World} (h : Below B w W) (n : Nat) : Below B w (W.drewN n) := ⟨h.os, h.tape, h.output, h.size, h.block⟩
theorem below_then {B : Nat} {w w1 w2 : World} (h : Below B w w1) (hB : B ≤ w1.heap.size) (k : Below w1.heap.size w1 w2) : Below B w w2 :=
  h.trans ⟨k.os, k.tape, k.output, k.size, fun i hi => k.block i (Nat.lt_of_lt_of_le hi hB)⟩
theorem grown_of_below {w w1 : World} (h : Below w.heap.size w w1) (row : Option Nat) : w.grownBy w1 row := ⟨h.os, h.tape, h.output, h.size, fun i hi _ => h.block i hi⟩
theorem pw_cell_below {w w1 : World} (h : Below w.heap.size w w1) {a : Addr} {v : Value} (hc : w.cell? a = some v) : w1.cell? a = some v := (h.cell (World.block_lt_of_cell? w a hc)).trans hc
theorem add_plain (g j : Nat) : (⟨g, 0, none⟩ : Addr).add j = ⟨g, j, none⟩ := by unfold Addr.add; split <;> simp_all
def ReadsInt (w : World) (k : IntKind) (A : Option Addr) (n : Nat) (xs : List Int) : Prop :=
  xs.length = n ∧ n ≤ 9223372036854775807 ∧ (0 < n → ∃ ad, A = some ad ∧ ∀ j, j < n → w.cell? (ad.add j) = some (.int k (xs.getD j 0)))
theorem ReadsInt.at_ {w : World} {k : IntKind} {A : Option Addr} {n : Nat} {xs : List Int} (h : ReadsInt w k A n xs) (i : Int) (h0 : 0 ≤ i) (h1 : i < n) : ∃ ad, A = some ad ∧ w.cell? (ad.add i.toNat) = some (.int k (rd xs i)) := by
  obtain ⟨ad, e, hc⟩ := h.2.2 (by omega)
  exact ⟨ad, e, hc _ (by omega)⟩
theorem ReadsInt.below {w w1 : World} {k : IntKind} {A : Option Addr} {n : Nat} {xs : List Int} (h : ReadsInt w k A n xs) (hb : Below w.heap.size w w1) : ReadsInt w1 k A n xs :=
  ⟨h.1, h.2.1, fun hn => by
    obtain ⟨ad, e, hc⟩ := h.2.2 hn
    exact ⟨ad, e, fun j hj => pw_cell_below hb (hc j hj)⟩⟩
theorem own_nil (W : World) (base : Nat) (e : TypeId) (size : Nat) : W.ownsRow base e size (.slice none 0 0) 0 [] := ⟨by simp, .inl ⟨rfl, rfl⟩⟩
theorem own_base {w : World} {base : Nat} {e : TypeId} {size n : Nat} {v : Value} {xs : List Value} (h : w.ownsRow base e size v n xs) (k : Nat) (hk : v.ownBlock = some k) : base ≤ k := by
  rcases h.2 with ⟨rfl, _⟩ | ⟨g, cap, cur, rfl, hb, _⟩
  · simp [Value.ownBlock] at hk
  · have : g = k := by simpa [Value.ownBlock] using hk
    omega
theorem own_lt {w : World} {base : Nat} {e : TypeId} {size n : Nat} {v : Value} {xs : List Value} (h : w.ownsRow base e size v n xs) (k : Nat) (hk : v.ownBlock = some k) : k < w.heap.size := by
  rcases h.2 with ⟨rfl, _⟩ | ⟨g, cap, cur, rfl, hb, hh, _⟩
  · simp [Value.ownBlock] at hk
  · have : g = k := by simpa [Value.ownBlock] using hk
    subst this
    exact (Array.getElem?_eq_some_iff.1 hh).1
theorem pw_own_below {w w1 : World} {base : Nat} {e : TypeId} {size n : Nat} {v : Value} {xs : List Value} (h : w.ownsRow base e size v n xs) (hb : Below w.heap.size w w1) : w1.ownsRow base e size v n xs :=
  h.kept (grown_of_below hb none) (by cases v.ownBlock <;> simp)
theorem own_other {w w1 : World} {base : Nat} {e : TypeId} {size n : Nat} {v : Value} {xs : List Value} (h : w.ownsRow base e size v n xs) {row : Option Nat} (hg : w.grownBy w1 row) (hne : v.ownBlock = none ∨ v.ownBlock ≠ row) : w1.ownsRow base e size v n xs := h.kept hg hne
theorem own_slice {w : World} {base n : Nat} {e : TypeId} {size : Nat} {v : Value} {xs : List Value} (h : w.ownsRow base e size v n xs) : ∃ A c, v = .slice A n c := by
  rcases h.2 with ⟨rfl, rfl⟩ | ⟨g, cap, cur, rfl, _⟩
  · exact ⟨none, 0, rfl⟩
  · exact ⟨_, cap, rfl⟩
def LeO {α : Type} (a b : Option α) : Prop := ∀ r, a = some r → b = some r
theorem LeO.refl {α : Type} (a : Option α) : LeO a a := fun _ h => h
theorem LeO.none {α : Type} (b : Option α) : LeO Option.none b := fun _ h => by cases h
theorem LeO.trans {α : Type} {a b c : Option α} (h : LeO a b) (k : LeO b c) : LeO a c := fun r hr => k r (h r hr)
theorem LeO.ite {α : Type} {c : Prop} [Decidable c] {a a' b b' : Option α} (h : LeO a a') (k : LeO b b') : LeO (if c then a else b) (if c then a' else b') := by
  split
  · exact h
  · exact k
theorem LeO.bind {α β : Type} {a a' : Option α} {f f' : α → Option β} (h : LeO a a') (k : ∀ x, LeO (f x) (f' x)) : LeO (a.bind f) (a'.bind f') := by
  intro r hr
  obtain ⟨x, hx, hf⟩ := Option.bind_eq_some_iff.1 hr
  exact Option.bind_eq_some_iff.2 ⟨x, h x hx, k x r hf⟩
theorem LeO.map {α β : Type} {a a' : Option α} (f : α → β) (h : LeO a a') : LeO (a.map f) (a'.map f) := by
  intro r hr
  obtain ⟨x, hx, hf⟩ := Option.map_eq_some_iff.1 hr
  exact Option.map_eq_some_iff.2 ⟨x, h x hx, hf⟩
theorem more_rounds {α : Type} {g : Nat → Option α} (h : ∀ k, LeO (g k) (g (k + 1))) (k : Nat) : ∀ j, LeO (g k) (g (k + j))
  | 0 => LeO.refl _
  | j + 1 => (more_rounds h k j).trans (h (k + j))
theorem at_rounds {α : Type} {g : Nat → Option α} (h : ∀ k, LeO (g k) (g (k + 1))) {k k' : Nat} (hk : k ≤ k') {r : α} (hr : g k = some r) : g k' = some r := by
  have := more_rounds h k (k' - k) r hr
  rwa [Nat.add_sub_cancel' hk] at this
def Reps {α : Type} (R : α → List Value → Prop) (size : Nat) (ps : List α) (cs : List Value) : Prop :=
  cs.length = ps.length * size ∧ ∀ j p, ps[j]? = some p → R p ((cs.drop (j * size)).take size)
theorem Reps.none {α : Type} (R : α → List Value → Prop) (size : Nat) : Reps R size [] [] := ⟨by simp, fun j p h => by simp at h⟩
theorem Reps.snoc {α : Type} {R : α → List Value → Prop} {size : Nat} {ps : List α} {cs c : List Value} {p : α} (h : Reps R size ps cs) (hp : R p c) (hc : c.length = size) : Reps R size (ps ++ [p]) (cs ++ c) := by
  refine ⟨by rw [List.length_append, h.1, hc, List.length_append, List.length_singleton, Nat.add_mul, Nat.one_mul], fun j q hq => ?_⟩
  rcases Nat.lt_or_ge j ps.length with hj | hj
  · rw [List.getElem?_append_left hj] at hq
    have h1 : j * size + size ≤ cs.length := by rw [h.1, ← Nat.succ_mul]; exact Nat.mul_le_mul_right _ hj
    have h2 := h.2 j q hq
    rw [List.drop_append_of_le_length (by omega), List.take_append_of_le_length (by rw [List.length_drop]; omega)]
    exact h2
  · have hj' : j = ps.length := by
      have := (List.getElem?_eq_some_iff.1 hq).1
      rw [List.length_append, List.length_singleton] at this
      omega
    subst hj'
    have hq' : p = q := by simpa using hq
    subst hq'
    rw [← h.1, List.drop_left, ← hc, List.take_length]
    exact hp
theorem Reps.imp_ {α : Type} {R R' : α → List Value → Prop} {size : Nat} {ps : List α} {cs : List Value} (h : Reps R size ps cs) (hR : ∀ p c, R p c → R' p c) : Reps R' size ps cs := ⟨h.1, fun j p hj => hR _ _ (h.2 j p hj)⟩
def ReadsRow {α : Type} (R : α → List Value → Prop) (size : Nat) (w : World) (A : Option Addr) (n : Nat) (ps : List α) : Prop :=
  ps.length = n ∧ n ≤ 9223372036854775807 ∧ (0 < n → ∃ ad, A = some ad ∧ ∀ j p, ps[j]? = some p → ∃ c, c.length = size ∧ R p c ∧ ∀ i u, c[i]? = some u → w.cell? (ad.add (j * size + i)) = some u)
theorem ReadsRow.imp_ {α : Type} {R R' : α → List Value → Prop} {size : Nat} {w w1 : World} {A : Option Addr} {n : Nat} {ps : List α} (h : ReadsRow R size w A n ps) (hb : Below w.heap.size w w1) (hR : ∀ p c, R p c → R' p c) : ReadsRow R' size w1 A n ps :=
  ⟨h.1, h.2.1, fun hn => by
    obtain ⟨ad, e, hc⟩ := h.2.2 hn
    refine ⟨ad, e, fun j p hj => ?_⟩
    obtain ⟨c, hs, hr, hcell⟩ := hc j p hj
    exact ⟨c, hs, hR _ _ hr, fun i u hu => pw_cell_below hb (hcell i u hu)⟩⟩
theorem own_reads_row {α : Type} {R : α → List Value → Prop} {w : World} {base n size : Nat} {e : TypeId} {v : Value} {ps : List α} {cs : List Value} (h : w.ownsRow base e size v n cs) (hR : Reps R size ps cs) (hn : ps.length = n) :
    ∃ A c, v = .slice A n c ∧ ReadsRow R size w A n ps := by
  rcases Nat.eq_zero_or_pos n with h0 | h0
  · rcases h.2 with ⟨rfl, rfl⟩ | ⟨g, cap, cur, rfl, _⟩
    · exact ⟨none, 0, rfl, hn, by omega, fun hp => absurd hp (by omega)⟩
    · exact ⟨_, cap, rfl, hn, by omega, fun hp => absurd hp (by omega)⟩
  · obtain ⟨g, cap, rfl, _, _⟩ := h.form h0
    have hm : n ≤ 9223372036854775807 := by
      rcases h.2 with ⟨_, h1⟩ | ⟨g', cap', cur, he, _, _, h1, h2, _⟩
      · omega
      · simp only [maxLen] at h2
        omega
    refine ⟨_, cap, rfl, hn, hm, fun _ => ⟨_, rfl, fun j p hj => ⟨(cs.drop (j * size)).take size, ?_, hR.2 j p hj, fun i u hu => ?_⟩⟩⟩
    · have hjl := (List.getElem?_eq_some_iff.1 hj).1
      have h1 : j * size + size ≤ cs.length := by rw [hR.1, ← Nat.succ_mul]; exact Nat.mul_le_mul_right _ hjl
      rw [List.length_take, List.length_drop]
      omega
    · refine h.cells (g := g) rfl _ u ?_
      rw [List.getElem?_take] at hu
      split at hu
      · rw [List.getElem?_drop] at hu
        exact hu
      · cases hu
section
variable {P : Program} {ops : Array Oper} {rest : List Oper} {o : Oper} {a : Act} {Q : Exit → Act → World → Prop}
theorem print_append_cells {w0 W : World} (base : Nat) (hgd : o.guard = none) (s x : Operand) (t e : TypeId) (z : Value) (size bytes : Nat)
    (ho : o.op = .call { callee := .builtin .append, args := #[s, x], argTypes := #[t, t] })
    (ht : P.underlying t = some (.slice e)) (hinfo : (P.info? e).map (fun i => (i.zero, i.size, i.bytes)) = some (some z, size, bytes)) (hz : z.cells.size = size) (hs0 : 0 < size) (hb0 : 0 < bytes)
    (v : Value) (n : Nat) (xs ys : List Value) (hs : a.eval s = v) (hx : a.eval x = .slice (some ⟨W.heap.size, 0, none⟩) 1 1) (hys : ys.length = size) (h1 : ∀ u ∈ ys, u.oneCell' = true)
    (HO : W.ownsRow base e size v n xs) (HB : Below base w0 W) (hbase : base ≤ W.heap.size) (hl : (n + 1) * bytes ≤ 140737488355328)
    (h : ∀ v1 w1, w1.ownsRow base e size v1 (n + 1) (xs ++ ys) → Below base w0 w1 → W.grownBy w1 v.ownBlock → (v1.ownBlock = v.ownBlock ∨ ∃ b, v1.ownBlock = some b ∧ W.heap.size ≤ b) → wpList P ops Q rest (a.put o.dst v1) w1) :
    wpList P ops Q (o :: rest) a (W.alloc (.cells ys.toArray e)) := by
  obtain ⟨i0, hi, hzz⟩ := Option.map_eq_some_iff.1 hinfo
  simp only [Prod.mk.injEq] at hzz
  obtain ⟨hz0, hz1, hz2⟩ := hzz
  have hlen : n + 1 ≤ 140737488355328 := Nat.le_trans (Nat.le_mul_of_pos_right _ hb0) hl
  refine wpList_append_own_at (W.alloc (.cells ys.toArray e)) hgd s x t ho base e i0 z size bytes ht hi hz0 hz1 hz2 hz hs0 v n xs hs (HO.alloc _) ⟨W.heap.size, 0, none⟩ 1 1 ys hx (by rw [hys]; simp)
    (by simpa using World.news_of_block (cs := ys.toArray) (t := e) (fr := (0, 0)) (heap_alloc_new W (.cells ys.toArray e))) h1 (by simp only [maxLen]; omega) hl (by simp; omega) ?_
  intro v1 w1 hown hg _ hat
  refine h v1 w1 hown ((HB.alloc hbase _).grown hg (by simp; omega) (own_base HO)) (World.grownBy.trans (World.grownBy_alloc W _ _) hg) ?_
  rcases hat with hat | hat
  · exact .inl hat
  · exact .inr ⟨_, hat, by simp⟩
end
theorem blk_set {w : World} {g : Nat} {t : TypeId} {cs : Array Value} (h : w.heap[g]? = some (.cells cs t (0, 0))) (i : Nat) (u : Value) : (w.setCell ⟨g, i, none⟩ u).heap[g]? = some (.cells (cs.setIfInBounds i u) t (0, 0)) := by
  simp [World.setCell, Array.getElem?_modify, h]
theorem blk_lt {w : World} {g : Nat} {o : Obj} (h : w.heap[g]? = some o) : g < w.heap.size := (Array.getElem?_eq_some_iff.1 h).1
theorem blk_frozen {w : World} {g : Nat} {t : TypeId} {cs : Array Value} (h : w.heap[g]? = some (.cells cs t (0, 0))) (i : Nat) : w.frozen? ⟨g, i, none⟩ = false := by simp [World.frozen?, h]
def KeepBut (w w' : World) (g : Nat) (row : Option Nat) : Prop := w.heap.size ≤ w'.heap.size ∧ ∀ i, i < w.heap.size → i ≠ g → some i ≠ row → w'.heap[i]? = w.heap[i]?
theorem KeepBut.refl (w : World) (g : Nat) (row : Option Nat) : KeepBut w w g row := ⟨Nat.le_refl _, fun _ _ _ _ => rfl⟩
theorem KeepBut.of_below {w w1 : World} (h : Below w.heap.size w w1) (g : Nat) (row : Option Nat) : KeepBut w w1 g row := ⟨h.size, fun i hi _ _ => h.block i hi⟩
theorem KeepBut.trans {w w1 w2 : World} {g : Nat} {row row1 : Option Nat} (h : KeepBut w w1 g row) (k : KeepBut w1 w2 g row1) (hr : row1 = row ∨ ∃ b, row1 = some b ∧ w.heap.size ≤ b) : KeepBut w w2 g row :=
  ⟨Nat.le_trans h.1 k.1, fun i hi hg hn => by
    refine (k.2 i (Nat.lt_of_lt_of_le hi h.1) hg ?_).trans (h.2 i hi hg hn)
    rcases hr with rfl | ⟨b, rfl, hb⟩
    · exact hn
    · intro e
      injection e with e
      omega⟩
theorem KeepBut.blk {w w1 : World} {g g' : Nat} {row : Option Nat} {o : Obj} (h : KeepBut w w1 g row) (hb : w.heap[g']? = some o) (hg : g' ≠ g) (hr : some g' ≠ row) : w1.heap[g']? = some o := (h.2 g' (blk_lt hb) hg hr).trans hb
theorem KeepBut.own {w w1 : World} {g : Nat} {row : Option Nat} {base : Nat} {e : TypeId} {size n : Nat} {v : Value} {xs : List Value} (h : KeepBut w w1 g row) (ho : w.ownsRow base e size v n xs) (hg : v.ownBlock ≠ some g) (hr : v.ownBlock = none ∨ v.ownBlock ≠ row) : w1.ownsRow base e size v n xs := by
  obtain ⟨h1, h2⟩ := ho
  refine ⟨h1, ?_⟩
  rcases h2 with h2 | ⟨b, cap, cur, rfl, hb, hh, r⟩
  · exact .inl h2
  · refine .inr ⟨b, cap, cur, rfl, hb, h.blk hh ?_ ?_, r⟩
    · intro e
      exact hg (by rw [← e]; rfl)
    · rcases hr with hr | hr
      · simp [Value.ownBlock] at hr
      · exact hr
def Ev {α : Type} (g : Nat → Option α) (r : α) : Prop := ∃ K, ∀ k, K ≤ k → g k = some r
theorem Ev.of {α : Type} {g : Nat → Option α} {r : α} (hg : ∀ k, LeO (g k) (g (k + 1))) {k : Nat} (h : g k = some r) : Ev g r := ⟨k, fun _ hk => at_rounds hg hk h⟩
theorem Ev.rounds {α : Type} {g : Nat → Option α} {r : α} (h : Ev g r) : ∃ k, g k = some r := by
  obtain ⟨K, h⟩ := h
  exact ⟨K, h K (Nat.le_refl _)⟩
theorem Ev.bind {α β : Type} {g : Nat → Option α} {f : Nat → α → Option β} {a : α} {r : β} (h : Ev g a) (k : Ev (fun n => f n a) r) : Ev (fun n => (g n).bind (f n)) r := by
  obtain ⟨K, h⟩ := h
  obtain ⟨K', k⟩ := k
  refine ⟨max K K', fun n hn => ?_⟩
  have h1 := h n (by omega)
  have h2 := k n (by omega)
  simp only [h1, Option.bind_some]
  exact h2
theorem Ev.step {α : Type} {g f : Nat → Option α} {r : α} (h : ∀ k, g (k + 1) = f k) (k : Ev f r) : Ev g r := by
  obtain ⟨K, k⟩ := k
  refine ⟨K + 1, fun n hn => ?_⟩
  obtain ⟨m, rfl⟩ : ∃ m, n = m + 1 := ⟨n - 1, by omega⟩
  rw [h]
  exact k m (by omega)
theorem Ev.congr {α : Type} {g f : Nat → Option α} {r : α} (h : ∀ k, g k = f k) (k : Ev f r) : Ev g r := by
  obtain ⟨K, k⟩ := k
  exact ⟨K, fun n hn => (h n).trans (k n hn)⟩
theorem own_weaken {w : World} {base base' : Nat} {e : TypeId} {size n : Nat} {v : Value} {xs : List Value} (h : w.ownsRow base e size v n xs) (hb : base' ≤ base) : w.ownsRow base' e size v n xs := by
  obtain ⟨h1, h2⟩ := h
  refine ⟨h1, ?_⟩
  rcases h2 with h2 | ⟨g, cap, cur, rfl, hg, r⟩
  · exact .inl h2
  · exact .inr ⟨g, cap, cur, rfl, Nat.le_trans hb hg, r⟩
section
variable {α : Type} {enc : α → Value} {d : α}
def encs (enc : α → Value) (xs : List α) : List Value := xs.map enc
def rdOf (d : α) (xs : List α) (i : Int) : α := xs.getD i.toNat d
theorem encs_length (xs : List α) : (encs enc xs).length = xs.length := by simp [encs]
def ReadsOf (enc : α → Value) (d : α) (w : World) (A : Option Addr) (n : Nat) (xs : List α) : Prop :=
  xs.length = n ∧ n ≤ 9223372036854775807 ∧ (0 < n → ∃ ad, A = some ad ∧ ∀ j, j < n → w.cell? (ad.add j) = some (enc (xs.getD j d)))
theorem ReadsOf.at_ {w : World} {A : Option Addr} {n : Nat} {xs : List α} (h : ReadsOf enc d w A n xs) (i : Int) (h0 : 0 ≤ i) (h1 : i < n) : ∃ ad, A = some ad ∧ w.cell? (ad.add i.toNat) = some (enc (rdOf d xs i)) := by
  obtain ⟨ad, e, hc⟩ := h.2.2 (by omega)
  exact ⟨ad, e, hc _ (by omega)⟩
theorem ReadsOf.below {w w1 : World} {A : Option Addr} {n : Nat} {xs : List α} (h : ReadsOf enc d w A n xs) (hb : Below w.heap.size w w1) : ReadsOf enc d w1 A n xs :=
  ⟨h.1, h.2.1, fun hn => by
    obtain ⟨ad, e, hc⟩ := h.2.2 hn
    exact ⟨ad, e, fun j hj => pw_cell_below hb (hc j hj)⟩⟩
theorem own_store_of {W : World} {base g n cap : Nat} {e : TypeId} {xs : List α} (h : W.ownsRow base e 1 (.slice (some ⟨g, 0, none⟩) n cap) n (encs enc xs)) (i : Int) (x : α) :
    (W.setCell ⟨g, i.toNat, none⟩ (enc x)).ownsRow base e 1 (.slice (some ⟨g, 0, none⟩) n cap) n (encs enc (xs.set i.toNat x)) ∧ W.grownBy (W.setCell ⟨g, i.toNat, none⟩ (enc x)) (some g) := by
  have hs := h.stored i.toNat (enc x)
  have he : (encs enc xs).set i.toNat (enc x) = encs enc (xs.set i.toNat x) := by simp [encs, List.map_set]
  rwa [he] at hs
end
theorem own_le {w : World} {base n m c size : Nat} {e : TypeId} {A : Option Addr} {xs : List Value} (h : w.ownsRow base e size (.slice A m c) n xs) : m ≤ c := by
  rcases h.2 with ⟨he, _⟩ | ⟨g, cap, cur, he, _, _, hnc, _⟩
  · injection he with _ h2 h3
    omega
  · injection he with _ h2 h3
    omega
def OwnRow {α : Type} (R : α → List Value → Prop) (e : TypeId) (size : Nat) (w : World) (base : Nat) (v : Value) (ps : List α) : Prop :=
  ∃ inner, w.ownsRow base e size v ps.length inner ∧ Reps R size ps inner
section
variable {α : Type} {R R' : α → List Value → Prop} {e : TypeId} {size : Nat} {w w1 : World} {base : Nat} {v : Value} {ps : List α}
theorem OwnRow.none_ (R : α → List Value → Prop) (e : TypeId) (size : Nat) (w : World) (base : Nat) : OwnRow R e size w base (.slice none 0 0) [] := ⟨[], own_nil _ _ _ _, Reps.none _ _⟩
theorem OwnRow.imp_ (h : OwnRow R e size w base v ps) (hR : ∀ p c, R p c → R' p c) : OwnRow R' e size w base v ps := by
  obtain ⟨inner, ho, hr⟩ := h
  exact ⟨inner, ho, hr.imp_ hR⟩
theorem OwnRow.below (h : OwnRow R e size w base v ps) (hb : Below w.heap.size w w1) : OwnRow R e size w1 base v ps := by
  obtain ⟨inner, ho, hr⟩ := h
  exact ⟨inner, pw_own_below ho hb, hr⟩
theorem OwnRow.other (h : OwnRow R e size w base v ps) {row : Option Nat} (hg : w.grownBy w1 row) (hne : v.ownBlock = none ∨ v.ownBlock ≠ row) : OwnRow R e size w1 base v ps := by
  obtain ⟨inner, ho, hr⟩ := h
  exact ⟨inner, own_other ho hg hne, hr⟩
theorem OwnRow.reads (h : OwnRow R e size w base v ps) : ∃ A c, v = .slice A ps.length c ∧ ps.length ≤ c ∧ ReadsRow R size w A ps.length ps := by
  obtain ⟨inner, ho, hr⟩ := h
  obtain ⟨A, c, rfl, hrow⟩ := own_reads_row ho hr rfl
  exact ⟨A, c, rfl, own_le ho, hrow⟩
theorem OwnRow.lit (W : World) (base : Nat) {inner : List Value} (hr : Reps R size ps inner) (hb : base ≤ W.heap.size) (hm : ps.length ≤ 9223372036854775807) :
    OwnRow R e size (W.alloc (.cells inner.toArray e)) base (.slice (some ⟨W.heap.size, 0, none⟩) ps.length ps.length) ps := by
  have h := World.ownsRow_lit (base := base) (e := e) (size := size) W inner.toArray ps.length hb (by simpa [maxLen] using hm) (by simpa using hr.1)
  exact ⟨inner, by simpa using h, hr⟩
end
section
variable {P : Program} {ops : Array Oper} {rest : List Oper} {o : Oper} {a : Act} {Q : Exit → Act → World → Prop} {α : Type} {R : α → List Value → Prop}
theorem OwnRow.append {w0 W : World} (base : Nat) (hgd : o.guard = none) (s x : Operand) (t e : TypeId) (z : Value) (size bytes : Nat)
    (ho : o.op = .call { callee := .builtin .append, args := #[s, x], argTypes := #[t, t] })
    (ht : P.underlying t = some (.slice e)) (hinfo : (P.info? e).map (fun i => (i.zero, i.size, i.bytes)) = some (some z, size, bytes)) (hz : z.cells.size = size) (hs0 : 0 < size) (hb0 : 0 < bytes)
    (v : Value) (ps : List α) (p : α) (cs : List Value) (hs : a.eval s = v) (hx : a.eval x = .slice (some ⟨W.heap.size, 0, none⟩) 1 1) (hp : R p cs) (hcs : cs.length = size) (h1 : ∀ u ∈ cs, u.oneCell' = true)
    (HO : OwnRow R e size W base v ps) (HB : Below base w0 W) (hbase : base ≤ W.heap.size) (hl : (ps.length + 1) * bytes ≤ 140737488355328)
    (h : ∀ v1 w1, OwnRow R e size w1 base v1 (ps ++ [p]) → Below base w0 w1 → W.grownBy w1 v.ownBlock → (v1.ownBlock = v.ownBlock ∨ ∃ b, v1.ownBlock = some b ∧ W.heap.size ≤ b) → wpList P ops Q rest (a.put o.dst v1) w1) :
    wpList P ops Q (o :: rest) a (W.alloc (.cells cs.toArray e)) := by
  obtain ⟨inner, hown, hr⟩ := HO
  refine print_append_cells base hgd s x t e z size bytes ho ht hinfo hz hs0 hb0 v ps.length inner cs hs hx hcs h1 hown HB hbase hl ?_
  intro v1 w1 hown1 hb1 hg1 hat1
  exact h v1 w1 ⟨inner ++ cs, by rw [List.length_append, List.length_singleton]; exact hown1, hr.snoc hp hcs⟩ hb1 hg1 hat1
end
theorem ReadsRow.inner_ {α : Type} {R : α → List Value → Prop} {size : Nat} {w : World} {ad : Addr} {n : Nat} {ps : List α} (h : ReadsRow R size w (some ad) n ps) :
    ∃ inner, Reps R size ps inner ∧ ∀ j u, inner[j]? = some u → w.cell? (ad.add j) = some u := by
  have key : ∀ m, m ≤ ps.length → ∃ inner, Reps R size (ps.take m) inner ∧ ∀ j u, inner[j]? = some u → w.cell? (ad.add j) = some u := by
    intro m
    induction m with
    | zero => exact fun _ => ⟨[], Reps.none _ _, fun j u hu => by simp at hu⟩
    | succ m ih =>
      intro hm
      obtain ⟨inner, hr, hc⟩ := ih (by omega)
      obtain ⟨ad', he, hcell⟩ := h.2.2 (by have := h.1; omega)
      injection he with he
      subst he
      obtain ⟨c, hcl, hp, hcc⟩ := hcell m _ (List.getElem?_eq_getElem (show m < ps.length by omega))
      refine ⟨inner ++ c, ?_, fun j u hu => ?_⟩
      · rw [List.take_succ_eq_append_getElem (show m < ps.length by omega)]
        exact hr.snoc hp hcl
      · have hil : inner.length = m * size := by rw [hr.1, List.length_take, Nat.min_eq_left (by omega)]
        rcases Nat.lt_or_ge j inner.length with hj | hj
        · rw [List.getElem?_append_left hj] at hu
          exact hc j u hu
        · rw [List.getElem?_append_right hj] at hu
          have := hcc (j - inner.length) u hu
          rwa [hil, Nat.add_sub_cancel' (by omega)] at this
  obtain ⟨inner, hr, hc⟩ := key ps.length (Nat.le_refl _)
  rw [List.take_length] at hr
  exact ⟨inner, hr, hc⟩
section
variable {α : Type} {P : Program}
theorem ReadsOf.len_ {enc : α → Value} {d : α} {w : World} {A : Option Addr} {n : Nat} {xs : List α} (h : ReadsOf enc d w A n xs) : ReadsOf enc d w A xs.length xs := by rw [h.1]; exact h
end
structure Kd (α : Type) where
  sz : Nat
  E : List Nat
  K : World → α → List Value → Prop
  M : World → Nat → (Nat → Prop) → α → List Value → Prop
  K_len : ∀ {w x cs}, K w x cs → cs.length = sz
  K_one : ∀ {w x cs}, K w x cs → ∀ u ∈ cs, u.oneCell' = true
  K_below : ∀ {w w1 : World} {x cs}, Below w.heap.size w w1 → K w x cs → K w1 x cs
  K_of_M : ∀ {w base ok x cs}, M w base ok x cs → K w x cs
  M_mono : ∀ {w base ok ok' x cs}, (∀ k, ok k → ok' k) → M w base ok x cs → M w base ok' x cs
  M_bound : ∀ {w : World} {base ok x cs}, M w base ok x cs → M w base (fun k => ok k ∧ base ≤ k ∧ k < w.heap.size ∧ ∃ q, q ∈ E ∧ ∃ cells, w.heap[k]? = some (.cells cells q (0, 0))) x cs
  M_move : ∀ {w w1 : World} {base ok x cs}, (∀ k, ok k → w1.heap[k]? = w.heap[k]?) → M w base ok x cs → M w1 base ok x cs
  M_lower : ∀ {w base base' ok x cs}, base' ≤ base → M w base ok x cs → M w base' ok x cs
theorem own_move {w w1 : World} {base : Nat} {e : TypeId} {size n : Nat} {v : Value} {xs : List Value} (h : w.ownsRow base e size v n xs) (hm : ∀ k, v.ownBlock = some k → w1.heap[k]? = w.heap[k]?) : w1.ownsRow base e size v n xs := by
  obtain ⟨h1, h2⟩ := h
  refine ⟨h1, ?_⟩
  rcases h2 with h2 | ⟨g, cap, cur, rfl, hg, hh, r⟩
  · exact .inl h2
  · exact .inr ⟨g, cap, cur, rfl, hg, (hm g (by simp [Value.ownBlock])).trans hh, r⟩
theorem own_typed {w : World} {base : Nat} {e : TypeId} {size n : Nat} {v : Value} {xs : List Value} (h : w.ownsRow base e size v n xs) (k : Nat) (hk : v.ownBlock = some k) : ∃ cells, w.heap[k]? = some (.cells cells e (0, 0)) := by
  rcases h.2 with ⟨rfl, _⟩ | ⟨g, cap, cur, rfl, hg, hh, r⟩
  · simp [Value.ownBlock] at hk
  · have : g = k := by simpa [Value.ownBlock] using hk
    subst this
    exact ⟨cur, hh⟩
namespace Kd
def C {α : Type} (d : Kd α) (w : World) (A : Option Addr) (n : Nat) (xs : List α) : Prop := ReadsRow (d.K w) d.sz w A n xs
def R {α : Type} (d : Kd α) (e : Nat) (w : World) (base : Nat) (ok : Nat → Prop) (v : Value) (xs : List α) : Prop :=
  (∀ k, v.ownBlock = some k → ok k) ∧ OwnRow (d.M w base (fun k => ok k ∧ some k ≠ v.ownBlock)) e d.sz w base v xs
section
variable {α : Type} {d : Kd α} {e : Nat} {w w1 : World} {base : Nat} {ok ok' : Nat → Prop} {v : Value} {xs : List α}
theorem C_below {A : Option Addr} {n : Nat} (h : d.C w A n xs) (hb : Below w.heap.size w w1) : d.C w1 A n xs := ReadsRow.imp_ h hb (fun _ _ hp => d.K_below hb hp)
theorem R_nil (d : Kd α) (e : Nat) (w : World) (base : Nat) (ok : Nat → Prop) : d.R e w base ok (.slice none 0 0) [] := ⟨fun k hk => by simp [Value.ownBlock] at hk, OwnRow.none_ _ _ _ _ _⟩
theorem R_mono (h : d.R e w base ok v xs) (hok : ∀ k, ok k → ok' k) : d.R e w base ok' v xs := ⟨fun k hk => hok k (h.1 k hk), h.2.imp_ (fun _ _ hp => d.M_mono (fun k hk => ⟨hok k hk.1, hk.2⟩) hp)⟩
theorem R_bound (h : d.R e w base ok v xs) : d.R e w base (fun k => ok k ∧ base ≤ k ∧ k < w.heap.size ∧ ∃ q, q ∈ e :: d.E ∧ ∃ cells, w.heap[k]? = some (.cells cells q (0, 0))) v xs := by
  obtain ⟨h0, inner, ho, hr⟩ := h
  refine ⟨fun k hk => ?_, inner, ho, hr.imp_ (fun _ _ hp => d.M_mono (fun k hk => ?_) (d.M_bound hp))⟩
  · obtain ⟨cells, hc⟩ := own_typed ho k hk
    exact ⟨h0 k hk, own_base ho k hk, own_lt ho k hk, e, List.mem_cons_self, cells, hc⟩
  · obtain ⟨⟨h1, h2⟩, h3, h4, q, hq, hc⟩ := hk
    exact ⟨⟨h1, h3, h4, q, List.mem_cons_of_mem _ hq, hc⟩, h2⟩
theorem R_move (h : d.R e w base ok v xs) (hm : ∀ k, ok k → w1.heap[k]? = w.heap[k]?) : d.R e w1 base ok v xs := by
  obtain ⟨h0, inner, ho, hr⟩ := h
  exact ⟨h0, inner, own_move ho (fun k hk => hm k (h0 k hk)), hr.imp_ (fun _ _ hp => d.M_move (fun k hk => hm k hk.1) hp)⟩
theorem R_lower {base' : Nat} (h : d.R e w base ok v xs) (hb : base' ≤ base) : d.R e w base' ok v xs := by
  obtain ⟨h0, inner, ho, hr⟩ := h
  exact ⟨h0, inner, own_weaken ho hb, hr.imp_ (fun _ _ hp => d.M_lower hb hp)⟩
theorem R_step (h : d.R e w base ok v xs) (hm : ∀ k, ok k → k < w.heap.size → w1.heap[k]? = w.heap[k]?) : d.R e w1 base ok v xs :=
  R_mono (R_move (R_bound h) (fun k hk => hm k hk.1 hk.2.2.1)) (fun _ hk => hk.1)
theorem M_step {x : α} {cs : List Value} (h : d.M w base ok x cs) (hm : ∀ k, ok k → k < w.heap.size → w1.heap[k]? = w.heap[k]?) : d.M w1 base ok x cs :=
  d.M_mono (fun _ hk => hk.1) (d.M_move (fun k hk => hm k hk.1 hk.2.2.1) (d.M_bound h))
theorem R_below (h : d.R e w base ok v xs) (hb : Below w.heap.size w w1) : d.R e w1 base ok v xs := R_step h (fun k _ hk => hb.block k hk)
theorem M_below {x : α} {cs : List Value} (h : d.M w base ok x cs) (hb : Below w.heap.size w w1) : d.M w1 base ok x cs := M_step h (fun k _ hk => hb.block k hk)
theorem R_grown (h : d.R e w base ok v xs) {row : Option Nat} (hg : w.grownBy w1 row) (hok : ∀ k, ok k → some k ≠ row) : d.R e w1 base ok v xs := R_step h (fun k ho hk => hg.block k hk (hok k ho))
theorem R_reads (h : d.R e w base ok v xs) : ∃ A c, v = .slice A xs.length c ∧ xs.length ≤ c ∧ d.C w A xs.length xs := by
  obtain ⟨A, c, he, hl, hr⟩ := OwnRow.reads h.2
  exact ⟨A, c, he, hl, hr.imp_ (Below.refl _ _) (fun _ _ hp => d.K_of_M hp)⟩
theorem R_own (h : d.R e w base ok v xs) : ∃ inner, w.ownsRow base e d.sz v xs.length inner := by
  obtain ⟨_, inner, ho, _⟩ := h
  exact ⟨inner, ho⟩
end
def scalar {α : Type} (enc : α → Value) (h1 : ∀ x, (enc x).oneCell' = true) : Kd α where
  sz := 1
  E := []
  K := fun _ x cs => cs = [enc x]
  M := fun _ _ _ x cs => cs = [enc x]
  K_len := fun h => by rw [h]; rfl
  K_one := fun h u hu => by
    rw [h] at hu
    rw [List.mem_singleton.1 hu]
    exact h1 _
  K_below := fun _ h => h
  K_of_M := fun h => h
  M_mono := fun _ h => h
  M_bound := fun h => h
  M_move := fun _ h => h
  M_lower := fun _ h => h
def int (k : IntKind) : Kd Int := scalar (Value.int k) (fun _ => rfl)
def bool : Kd Bool := scalar Value.bool (fun _ => rfl)
def string : Kd ByteArray := scalar Value.string (fun _ => rfl)
def slice {α : Type} (e : Nat) (d : Kd α) : Kd (List α) where
  sz := 1
  E := e :: d.E
  K := fun w xs cs => ∃ A c, cs = [.slice A xs.length c] ∧ xs.length ≤ c ∧ d.C w A xs.length xs
  M := fun w base ok xs cs => ∃ v, cs = [v] ∧ d.R e w base ok v xs
  K_len := by
    rintro w x cs ⟨A, c, rfl, _⟩
    rfl
  K_one := by
    rintro w x cs ⟨A, c, rfl, _⟩ u hu
    rw [List.mem_singleton.1 hu]
    rfl
  K_below := by
    rintro w w1 x cs hb ⟨A, c, rfl, hl, hr⟩
    exact ⟨A, c, rfl, hl, C_below hr hb⟩
  K_of_M := by
    rintro w base ok x cs ⟨v, rfl, h⟩
    obtain ⟨A, c, rfl, hl, hr⟩ := R_reads h
    exact ⟨A, c, rfl, hl, hr⟩
  M_mono := by
    rintro w base ok ok' x cs hok ⟨v, rfl, h⟩
    exact ⟨v, rfl, R_mono h hok⟩
  M_bound := by
    rintro w base ok x cs ⟨v, rfl, h⟩
    exact ⟨v, rfl, R_bound h⟩
  M_move := by
    rintro w w1 base ok x cs hm ⟨v, rfl, h⟩
    exact ⟨v, rfl, R_move h hm⟩
  M_lower := by
    rintro w base base' ok x cs hb ⟨v, rfl, h⟩
    exact ⟨v, rfl, R_lower h hb⟩
theorem R_appended {α : Type} {d : Kd α} {e base : Nat} {ok okp : Nat → Prop} {W w1 : World} {v v1 : Value} {xs : List α} {p : α} {inner cs : List Value} (h0 : ∀ k, v.ownBlock = some k → ok k) (hr : Reps (d.M W base (fun k => ok k ∧ some k ≠ v.ownBlock)) d.sz xs inner) (hp : d.M W base okp p cs) (hokp : ∀ k, okp k → ok k ∧ some k ≠ v.ownBlock) (hfresh : ∀ k, W.heap.size ≤ k → ok k)
    (hown : w1.ownsRow base e d.sz v1 (xs.length + 1) (inner ++ cs)) (hg : W.grownBy w1 v.ownBlock) (hat : v1.ownBlock = v.ownBlock ∨ ∃ b, v1.ownBlock = some b ∧ W.heap.size ≤ b) : d.R e w1 base ok v1 (xs ++ [p]) := by
  have hne : ∀ k, some k ≠ v.ownBlock → k < W.heap.size → some k ≠ v1.ownBlock := by
    intro k hk hlt
    rcases hat with hat | ⟨b, hb, hle⟩
    · rw [hat]; exact hk
    · rw [hb]
      intro he
      injection he with he
      omega
  have step : ∀ {q : α} {c : List Value} {o : Nat → Prop}, d.M W base o q c → (∀ k, o k → ok k ∧ some k ≠ v.ownBlock) → d.M w1 base (fun k => ok k ∧ some k ≠ v1.ownBlock) q c := by
    intro q c o hq ho
    have h1 := d.M_move (w1 := w1) (fun k hk => hg.block k hk.2.2.1 (ho k hk.1).2) (d.M_bound hq)
    exact d.M_mono (fun k hk => ⟨(ho k hk.1).1, hne k (ho k hk.1).2 hk.2.2.1⟩) h1
  refine ⟨fun k hk => ?_, inner ++ cs, by rw [List.length_append, List.length_singleton]; exact hown, ?_⟩
  · rcases hat with hat | ⟨b, hb, hle⟩
    · exact h0 k (hat ▸ hk)
    · rw [hb] at hk
      injection hk with hk
      exact hfresh k (by omega)
  · exact (hr.imp_ (fun _ _ hq => step hq (fun _ hk => hk))).snoc (step hp hokp) (d.K_len (d.K_of_M hp))
section
variable {P : Program} {ops : Array Oper} {rest : List Oper} {o : Oper} {a : Act} {Q : Exit → Act → World → Prop} {α : Type}
theorem R_append (d : Kd α) {w0 W : World} (base : Nat) (hgd : o.guard = none) (s x : Operand) (t e : TypeId) (z : Value) (bytes : Nat)
    (ho : o.op = .call { callee := .builtin .append, args := #[s, x], argTypes := #[t, t] })
    (ht : P.underlying t = some (.slice e)) (hinfo : (P.info? e).map (fun i => (i.zero, i.size, i.bytes)) = some (some z, d.sz, bytes)) (hz : z.cells.size = d.sz) (hs0 : 0 < d.sz) (hb0 : 0 < bytes)
    (v : Value) (xs : List α) (p : α) (cs : List Value) (ok okp : Nat → Prop) (hs : a.eval s = v) (hx : a.eval x = .slice (some ⟨W.heap.size, 0, none⟩) 1 1) (hp : d.M W base okp p cs) (hokp : ∀ k, okp k → ok k ∧ some k ≠ v.ownBlock) (hfresh : ∀ k, W.heap.size ≤ k → ok k)
    (HO : d.R e W base ok v xs) (HB : Below base w0 W) (hbase : base ≤ W.heap.size) (hl : (xs.length + 1) * bytes ≤ 140737488355328)
    (h : ∀ v1 w1, d.R e w1 base ok v1 (xs ++ [p]) → Below base w0 w1 → W.grownBy w1 v.ownBlock → (v1.ownBlock = v.ownBlock ∨ ∃ b, v1.ownBlock = some b ∧ W.heap.size ≤ b) → wpList P ops Q rest (a.put o.dst v1) w1) :
    wpList P ops Q (o :: rest) a (W.alloc (.cells cs.toArray e)) := by
  obtain ⟨h0, inner, hown, hr⟩ := HO
  refine print_append_cells base hgd s x t e z d.sz bytes ho ht hinfo hz hs0 hb0 v xs.length inner cs hs hx (d.K_len (d.K_of_M hp)) (d.K_one (d.K_of_M hp)) hown HB hbase hl ?_
  intro v1 w1 hown1 hb1 hg1 hat1
  exact h v1 w1 (R_appended h0 hr hp hokp hfresh hown1 hg1 hat1) hb1 hg1 hat1
end
theorem reps_scalar {α : Type} {enc : α → Value} (xs : List α) : Reps (fun (x : α) (cs : List Value) => cs = [enc x]) 1 xs (encs enc xs) := by
  refine ⟨by simp [encs], fun j p hj => ?_⟩
  obtain ⟨hl, hp⟩ := List.getElem?_eq_some_iff.1 hj
  have hl' : j < (encs enc xs).length := by rw [encs_length]; exact hl
  rw [Nat.mul_one, List.drop_eq_getElem_cons hl']
  simp [encs, hp]
theorem R_of_own {α : Type} {enc : α → Value} {h1 : ∀ x, (enc x).oneCell' = true} {e : Nat} {w : World} {base : Nat} {ok : Nat → Prop} {v : Value} {xs : List α} (ho : w.ownsRow base e 1 v xs.length (encs enc xs)) (hok : ∀ k, v.ownBlock = some k → ok k) : (scalar enc h1).R e w base ok v xs := ⟨hok, encs enc xs, ho, reps_scalar xs⟩
theorem own_of_R {α : Type} {enc : α → Value} {h1 : ∀ x, (enc x).oneCell' = true} {e : Nat} {w : World} {base : Nat} {ok : Nat → Prop} {v : Value} {xs : List α} (h : (scalar enc h1).R e w base ok v xs) : w.ownsRow base e 1 v xs.length (encs enc xs) := by
  obtain ⟨_, inner, ho, hr⟩ := h
  have : inner = encs enc xs := by
    apply List.ext_getElem?
    intro j
    rcases Nat.lt_or_ge j xs.length with hj | hj
    · have h2 := hr.2 j _ (List.getElem?_eq_getElem hj)
      have hl : j < inner.length := by have := hr.1; simp [scalar] at this; omega
      have h3 : (inner.drop (j * 1)).take 1 = [enc xs[j]] := h2
      rw [Nat.mul_one, List.drop_eq_getElem_cons hl] at h3
      have h4 : inner[j] = enc xs[j] := by
        have h5 := congrArg List.head? h3
        rw [List.take_succ_cons] at h5
        exact Option.some.inj h5
      rw [List.getElem?_eq_getElem hl, h4]
      simp [encs, List.getElem?_eq_getElem hj]
    · have h3 : inner.length = xs.length := by have := hr.1; simp [scalar] at this; omega
      rw [List.getElem?_eq_none (by omega), List.getElem?_eq_none (by rw [encs_length]; omega)]
  rw [← this]
  exact ho
theorem reads_of_C {α : Type} {enc : α → Value} {d : α} {h1 : ∀ x, (enc x).oneCell' = true} {w : World} {A : Option Addr} {n : Nat} {xs : List α} (h : (scalar enc h1).C w A n xs) : ReadsOf enc d w A n xs := by
  refine ⟨h.1, h.2.1, fun hn => ?_⟩
  obtain ⟨ad, e, hc⟩ := h.2.2 hn
  refine ⟨ad, e, fun j hj => ?_⟩
  have hl : j < xs.length := by have := h.1; omega
  obtain ⟨c, _, hK, hcell⟩ := hc j _ (List.getElem?_eq_getElem hl)
  have hK' : c = [enc xs[j]] := hK
  subst hK'
  have := hcell 0 _ rfl
  simpa [scalar, List.getD_eq_getElem?_getD, List.getElem?_eq_getElem hl] using this
end Kd
namespace Kd
def Sub {α β : Type} (F : Kd α → Kd β) (E : List Nat) : Prop := ∀ d : Kd α, (∀ q, q ∈ d.E → q ∈ E) → ∀ q, q ∈ (F d).E → q ∈ E
end Kd
namespace Kd
end Kd
namespace Kd
section
variable {α β : Type} {d : Kd α} {d' : Kd β} {e e' : Nat} {w w1 W : World} {base b b' : Nat} {ok ok' okv oku : Nat → Prop} {v u : Value} {xs : List α} {ys : List β}
theorem C_alloc {A : Option Addr} {n : Nat} (h : d.C w A n xs) (o : Obj) : d.C (w.alloc o) A n xs := C_below h (below_alloc (Below.refl _ _) o)
theorem C_drew {A : Option Addr} {n : Nat} (h : d.C w A n xs) : d.C w.drew A n xs := C_below h (below_drew (Below.refl _ _))
theorem C_drewN {A : Option Addr} {n : Nat} (h : d.C w A n xs) (m : Nat) : d.C (w.drewN m) A n xs := C_below h (pw_below_drewN (Below.refl _ _) m)
theorem R_reads' {A : Option Addr} {n c : Nat} (h : d.R e w base ok (.slice A n c) xs) : n = xs.length ∧ n ≤ c ∧ d.C w A xs.length xs := by
  obtain ⟨A', c', he, hl, hr⟩ := R_reads h
  injection he with h1 h2 h3
  subst h1
  exact ⟨h2, by omega, hr⟩
theorem R_base (h : d.R e w base ok v xs) : ∀ k, v.ownBlock = some k → base ≤ k := by
  obtain ⟨inner, ho⟩ := R_own h
  exact own_base ho
theorem R_form (h : d.R e w base ok v xs) (hp : 0 < xs.length) : ∃ g cap, v = .slice (some ⟨g, 0, none⟩) xs.length cap ∧ base ≤ g ∧ g < w.heap.size ∧ ∃ cells, w.heap[g]? = some (.cells cells e (0, 0)) := by
  obtain ⟨inner, ho⟩ := R_own h
  obtain ⟨g, cap, he, hb, hl⟩ := ho.form hp
  obtain ⟨cells, hc⟩ := own_typed ho g (by rw [he]; simp [Value.ownBlock])
  exact ⟨g, cap, he, hb, hl, cells, hc⟩
end
section
variable {w W : World} {A : Option Addr} {n : Nat}
theorem at_int {k : IntKind} {xs : List Int} (h : (Kd.int k).C w A n xs) (i : Int) (h0 : 0 ≤ i) (h1 : i < n) : ∃ ad, A = some ad ∧ w.cell? (ad.add i.toNat) = some (.int k (rd xs i)) :=
  ReadsOf.at_ (reads_of_C (enc := Value.int k) (d := (0 : Int)) (h1 := fun _ => rfl) h) i h0 h1
variable {α : Type} {enc : α → Value} {h1 : ∀ x, (enc x).oneCell' = true} {e base g cap : Nat} {ok : Nat → Prop} {xs : List α}
theorem R_put (h : (scalar enc h1).R e W base ok (.slice (some ⟨g, 0, none⟩) xs.length cap) xs) (i : Int) (x : α) : (scalar enc h1).R e (W.setCell ⟨g, i.toNat, none⟩ (enc x)) base ok (.slice (some ⟨g, 0, none⟩) xs.length cap) (xs.set i.toNat x) ∧ W.grownBy (W.setCell ⟨g, i.toNat, none⟩ (enc x)) (some g) := by
  obtain ⟨ho, hg⟩ := own_store_of (own_of_R h) i x
  exact ⟨R_of_own (by rw [List.length_set]; exact ho) h.1, hg⟩
end
section
variable {P : Program} {ops : Array Oper} {rest : List Oper} {o : Oper} {a : Act} {Q : Exit → Act → World → Prop}
theorem event_run {W w1 : World} {v : Value} (hgd : o.guard = none) (hrun : (execOp a.eval o).run P W = .ok (.value v) w1) (h : wpList P ops Q rest (a.put o.dst v) w1) : wpList P ops Q (o :: rest) a W := by
  refine wpList_plain hgd fun K hK => ?_
  unfold Oper.wp
  rw [hrun]
  exact hK _ _ h
variable {α : Type}
theorem R_lit (d : Kd α) {w0 W : World} (base e : Nat) (hgd : o.guard = none) {N : Tmp} (_hd : o.dst = some N) {xs : List α} {inner : List Value} {ok okp : Nat → Prop}
    (hrun : (execOp a.eval o).run P W = .ok (.value (.slice (some ⟨W.heap.size, 0, none⟩) xs.length xs.length)) (W.alloc (.cells inner.toArray e)))
    (hrep : Reps (d.M W base okp) d.sz xs inner) (hok : ∀ k, okp k → ok k) (hfresh : ok W.heap.size) (HB : Below base w0 W) (hbase : base ≤ W.heap.size) (hm : xs.length ≤ 9223372036854775807)
    (h : ∀ v1 w1, d.R e w1 base ok v1 xs → Below base w0 w1 → W.grownBy w1 none → (∃ b, v1.ownBlock = some b ∧ W.heap.size ≤ b) → wpList P ops Q rest (a.put o.dst v1) w1) : wpList P ops Q (o :: rest) a W := by
  refine event_run hgd hrun (h _ _ ⟨fun k hk => ?_, inner, ?_, ?_⟩ (HB.alloc hbase _) (World.grownBy_alloc W _ none) ⟨W.heap.size, by simp [Value.ownBlock], Nat.le_refl _⟩)
  · have : W.heap.size = k := by simpa [Value.ownBlock] using hk
    subst this
    exact hfresh
  · have h2 := World.ownsRow_lit (base := base) (e := e) (size := d.sz) W inner.toArray xs.length hbase (by simpa [maxLen] using hm) (by simpa using hrep.1)
    simpa using h2
  · refine hrep.imp_ (fun p c hp => d.M_mono (fun k hk => ⟨hok k hk.1, fun he => ?_⟩) (M_below (d.M_bound hp) (below_alloc (Below.refl _ _) _)))
    have h3 : k = W.heap.size := by simpa [Value.ownBlock] using he
    have := hk.2.2.1
    omega
end
end Kd
theorem own_take {w : World} {base n m c size : Nat} {e : TypeId} {A : Option Addr} {xs : List Value} (h : w.ownsRow base e size (.slice A n c) n xs) (hm : m ≤ n) : w.ownsRow base e size (.slice A m c) m (xs.take (m * size)) := by
  obtain ⟨h1, h2⟩ := h
  refine ⟨by rw [List.length_take, h1]; exact Nat.min_eq_left (Nat.mul_le_mul_right _ hm), ?_⟩
  rcases h2 with ⟨he, h0⟩ | ⟨g, cap, cur, he, hb, hh, hnc, hcm, hcs, ht⟩
  · injection he with ha _ hc
    subst ha; subst hc
    exact .inl ⟨by rw [show m = 0 by omega], by omega⟩
  · injection he with ha _ hc
    subst ha; subst hc
    refine .inr ⟨g, c, cur, rfl, hb, hh, by omega, hcm, hcs, ?_⟩
    rw [← ht, List.take_take, Nat.min_eq_left (Nat.mul_le_mul_right _ hm)]
def QRow (w : World) (base : Nat) (e : TypeId) (size : Nat) (v : Value) (n : Nat) (xs : List Value) : Prop :=
  xs.length = n * size ∧
  ((n = 0 ∧ ∃ A, v = .slice A 0 0 ∧ ∀ a, A = some a → base ≤ a.block ∧ ∃ cur, w.heap[a.block]? = some (.cells cur e (0, 0))) ∨
   ∃ g off cap cur, v = .slice (some ⟨g, off * size, none⟩) n cap ∧ base ≤ g ∧ w.heap[g]? = some (.cells cur e (0, 0)) ∧ n ≤ cap ∧ off + cap ≤ maxLen ∧ cur.size = (off + cap) * size ∧ (cur.toList.drop (off * size)).take (n * size) = xs)
section
variable {w w1 : World} {base n size : Nat} {e : TypeId} {v : Value} {xs : List Value}
theorem setCells_far {g : Nat} : ∀ (vs : List Value) (o : Nat) {w : World} (k : Nat), k ≠ g → (w.setCells g o vs).heap[k]? = w.heap[k]?
  | [], _, _, _, _ => rfl
  | v :: r, o, w, k, hk => by
    rw [World.setCells, setCells_far r (o + 1) k hk]
    exact Below.heap_setCell w ⟨g, o, none⟩ v k hk
theorem setCells_same (g : Nat) : ∀ (vs : List Value) (o : Nat) (w : World), (w.setCells g o vs).os = w.os ∧ (w.setCells g o vs).tape = w.tape ∧ (w.setCells g o vs).output = w.output ∧ (w.setCells g o vs).heap.size = w.heap.size
  | [], _, _ => ⟨rfl, rfl, rfl, rfl⟩
  | v :: r, o, w => by
    obtain ⟨h1, h2, h3, h4⟩ := setCells_same g r (o + 1) (w.setCell ⟨g, o, none⟩ v)
    rw [World.setCells]
    exact ⟨h1, h2, h3, by rw [h4]; simp [World.setCell]⟩
theorem setCells_row {g : Nat} {e : TypeId} : ∀ (vs : List Value) (o : Nat) (w : World) (cur : Array Value), w.heap[g]? = some (.cells cur e (0, 0)) → o + vs.length ≤ cur.size →
    ∃ cur', (w.setCells g o vs).heap[g]? = some (.cells cur' e (0, 0)) ∧ cur'.size = cur.size ∧ cur'.toList = cur.toList.take o ++ vs ++ cur.toList.drop (o + vs.length)
  | [], o, w, cur, h, _ => ⟨cur, h, rfl, by simp⟩
  | v :: r, o, w, cur, h, hl => by
    have h2 := blk_set h o v
    simp only [List.length_cons] at hl
    obtain ⟨cur', h3, h4, h5⟩ := setCells_row r (o + 1) (w.setCell ⟨g, o, none⟩ v) _ h2 (by simp; omega)
    refine ⟨cur', h3, by rw [h4]; simp, ?_⟩
    rw [h5, Array.toList_setIfInBounds]
    have ho : o < cur.toList.length := by rw [Array.length_toList]; omega
    rw [List.take_set, List.drop_set_of_lt (by omega)]
    simp only [List.length_cons]
    rw [show o + 1 + r.length = o + (r.length + 1) by omega]
    congr 1
    rw [List.take_succ_eq_append_getElem ho, List.set_append_right _ _ (by rw [List.length_take]; omega)]
    have ho' : o < cur.size := by omega
    simp [Nat.min_eq_left (Nat.le_of_lt ho')]
end
namespace Kd
theorem reps_take {α : Type} {R : α → List Value → Prop} {size m : Nat} {ps : List α} {cs : List Value} (h : Reps R size ps cs) (hm : m ≤ ps.length) : Reps R size (ps.take m) (cs.take (m * size)) := by
  refine ⟨by rw [List.length_take, List.length_take, h.1, Nat.min_eq_left hm, Nat.min_eq_left (Nat.mul_le_mul_right _ hm)], fun j p hj => ?_⟩
  rw [List.getElem?_take] at hj
  split at hj
  · rename_i hjm
    have := h.2 j p hj
    have hle : j * size + size ≤ m * size := by rw [← Nat.succ_mul]; exact Nat.mul_le_mul_right _ hjm
    rw [List.drop_take, List.take_take, Nat.min_eq_left (by omega)]
    exact this
  · cases hj
theorem R_take {α : Type} {d : Kd α} {e m n c : Nat} {w : World} {base : Nat} {ok : Nat → Prop} {A : Option Addr} {xs : List α} (h : d.R e w base ok (.slice A n c) xs) (hm : m ≤ xs.length) : d.R e w base ok (.slice A m c) (xs.take m) := by
  obtain ⟨h0, inner, ho, hr⟩ := h
  have hn : n = xs.length := by
    obtain ⟨A', c', he⟩ := own_slice ho
    injection he
  subst hn
  have hb : ∀ x y : Nat, (Value.slice A x c).ownBlock = (Value.slice A y c).ownBlock := by
    intro x y
    cases A <;> rfl
  refine ⟨fun k hk => h0 k (by rw [hb _ m]; exact hk), inner.take (m * d.sz), ?_, ?_⟩
  · rw [List.length_take, Nat.min_eq_left hm]
    exact own_take ho hm
  · rw [hb m xs.length]
    exact reps_take hr hm
def Q {α : Type} (d : Kd α) (e : Nat) (w : World) (base : Nat) (ok : Nat → Prop) (v : Value) (xs : List α) : Prop :=
  (∀ k, v.ownBlock = some k → ok k) ∧ ∃ inner, QRow w base e d.sz v xs.length inner ∧ Reps (d.M w base (fun k => ok k ∧ some k ≠ v.ownBlock)) d.sz xs inner
end Kd
namespace Kd
section
variable {α : Type} {d : Kd α} {e e' : Nat} {w w1 W : World} {base : Nat} {ok : Nat → Prop} {u v : Value} {xs : List α}
theorem R_typed (h : d.R e w base ok v xs) : ∀ k, v.ownBlock = some k → ∃ cells, w.heap[k]? = some (.cells cells e (0, 0)) := by
  obtain ⟨inner, ho⟩ := R_own h
  exact fun k hk => own_typed ho k hk
end
end Kd
theorem seg_get {α : Type} (a seg : List α) (o : Nat) (h : o + seg.length ≤ a.length) (q : Nat) :
    (a.take o ++ seg ++ a.drop (o + seg.length))[q]? = if q < o then a[q]? else if q < o + seg.length then seg[q - o]? else a[q]? := by
  have hl : (a.take o).length = o := by rw [List.length_take]; omega
  rw [List.append_assoc]
  by_cases h1 : q < o
  · rw [if_pos h1, List.getElem?_append_left (by omega), List.getElem?_take, if_pos h1]
  · rw [if_neg h1, List.getElem?_append_right (by omega), hl]
    by_cases h2 : q < o + seg.length
    · rw [if_pos h2, List.getElem?_append_left (by omega)]
    · rw [if_neg h2, List.getElem?_append_right (by omega), List.getElem?_drop]
      congr 1
      omega
namespace Kd
section
variable {α : Type} {d : Kd α} {e base g n cap : Nat} {ok okp : Nat → Prop} {W : World} {xs : List α}
theorem R_seg (h : d.R e W base ok (.slice (some ⟨g, 0, none⟩) n cap) xs) (i : Int) (h0 : 0 ≤ i) (h1 : i < n) {c seg : List Value} {j : Nat} (hcl : c.length = d.sz) (hcc : ∀ j u, c[j]? = some u → W.cell? ⟨g, i.toNat * d.sz + j, none⟩ = some u)
    (hj : j + seg.length ≤ d.sz) {x' : α} (hM : d.M W base okp x' (c.take j ++ seg ++ c.drop (j + seg.length))) (hokp : ∀ k, okp k → ok k ∧ k ≠ g) :
    d.R e (W.setCells g (i.toNat * d.sz + j) seg) base ok (.slice (some ⟨g, 0, none⟩) n cap) (xs.set i.toNat x') ∧ W.grownBy (W.setCells g (i.toNat * d.sz + j) seg) (some g) := by
  obtain ⟨hn, hnc, _⟩ := R_reads' h
  obtain ⟨hok, inner, ho, hr⟩ := h
  have hil : i.toNat < xs.length := by omega
  have hseg : i.toNat * d.sz + d.sz ≤ inner.length := by rw [hr.1, ← Nat.succ_mul]; exact Nat.mul_le_mul_right _ hil
  have hin : inner.length = n * d.sz := by rw [hr.1, hn]
  obtain ⟨ho1, ho2⟩ := ho
  rcases ho2 with ⟨hv, _⟩ | ⟨g', cap', cur, hv, hb, hh, hnc', hcm, hcs, ht⟩
  · cases hv
  injection hv with ha _ hc
  injection ha with ha
  injection ha with hg
  subst hg; subst hc
  have hfit : i.toNat * d.sz + j + seg.length ≤ cur.size := by
    have : n * d.sz ≤ cap * d.sz := Nat.mul_le_mul_right _ hnc
    omega
  obtain ⟨cur', h3, h4, h5⟩ := setCells_row seg (i.toNat * d.sz + j) W cur hh hfit
  obtain ⟨s1, s2, s3, s4⟩ := setCells_same g seg (i.toNat * d.sz + j) W
  have hfar : ∀ k, k ≠ g → (W.setCells g (i.toNat * d.sz + j) seg).heap[k]? = W.heap[k]? := fun k hk => setCells_far seg _ k hk
  -- the element's cells before are what was read
  have hcin : ∀ q, q < d.sz → c[q]? = inner[i.toNat * d.sz + q]? := by
    intro q hq
    have hq' : q < c.length := by omega
    have h6 := hcc q _ (List.getElem?_eq_getElem hq')
    rw [cell_of_row W g _ cur e (0, 0) hh] at h6
    rw [List.getElem?_eq_getElem hq', ← h6, ← ht, List.getElem?_take, if_pos (by rw [← hn]; omega), Array.getElem?_toList]
  refine ⟨⟨hok, inner.take (i.toNat * d.sz + j) ++ seg ++ inner.drop (i.toNat * d.sz + j + seg.length), ⟨?_, .inr ⟨g, cap, cur', by rw [List.length_set, hn], hb, h3, by rw [List.length_set, ← hn]; exact hnc, hcm, by rw [h4, hcs], ?_⟩⟩, ?_⟩,
    ⟨s1, s2, s3, by rw [s4]; exact Nat.le_refl _, fun k _ hk => hfar k (fun he => hk (by rw [he]))⟩⟩
  · rw [List.length_set]
    simp only [List.length_append, List.length_take, List.length_drop]
    rw [hr.1] at hseg ⊢
    omega
  · rw [List.length_set, ← hn]
    apply List.ext_getElem?
    intro q
    rw [List.getElem?_take, h5]
    rw [seg_get cur.toList seg (i.toNat * d.sz + j) (by rw [Array.length_toList]; omega) q, seg_get inner seg (i.toNat * d.sz + j) (by omega) q]
    have hcur : ∀ q, q < n * d.sz → cur.toList[q]? = inner[q]? := by
      intro q hq
      rw [← ht, List.getElem?_take, if_pos (by rw [← hn]; exact hq)]
    by_cases hq : q < n * d.sz
    · rw [if_pos hq, hcur q hq]
    · rw [if_neg hq, if_neg (by omega), if_neg (by omega), List.getElem?_eq_none (by omega)]
  · refine ⟨?_, fun m p hm => ?_⟩
    · rw [List.length_set]
      simp only [List.length_append, List.length_take, List.length_drop]
      rw [hr.1] at hseg ⊢
      omega
    · have hml : m < xs.length := by
        have := (List.getElem?_eq_some_iff.1 hm).1
        rwa [List.length_set] at this
      have hmfit : m * d.sz + d.sz ≤ inner.length := by rw [hr.1, ← Nat.succ_mul]; exact Nat.mul_le_mul_right _ hml
      have hgo : some g = (Value.slice (some ⟨g, 0, none⟩) n cap).ownBlock := by simp [Value.ownBlock]
      by_cases hmi : m = i.toNat
      · subst hmi
        rw [List.getElem?_set_self (by omega)] at hm
        injection hm with hm
        subst hm
        have hcells : ((inner.take (i.toNat * d.sz + j) ++ seg ++ inner.drop (i.toNat * d.sz + j + seg.length)).drop (i.toNat * d.sz)).take d.sz = c.take j ++ seg ++ c.drop (j + seg.length) := by
          apply List.ext_getElem?
          intro q
          rw [List.getElem?_take, List.getElem?_drop, seg_get inner seg _ (by omega), seg_get c seg j (by omega) q]
          by_cases hq : q < d.sz
          · rw [if_pos hq, hcin q hq]
            by_cases hq1 : q < j
            · rw [if_pos (by omega), if_pos hq1]
            · rw [if_neg (by omega), if_neg hq1]
              by_cases hq2 : q < j + seg.length
              · rw [if_pos (by omega), if_pos hq2]
                congr 1
                omega
              · rw [if_neg (by omega), if_neg hq2]
          · rw [if_neg hq, if_neg (by omega), if_neg (by omega), List.getElem?_eq_none (by omega)]
        rw [hcells]
        refine d.M_mono (fun k hk => ?_) (d.M_move (w1 := W.setCells g (i.toNat * d.sz + j) seg) (fun k hk => hfar k (hokp k hk).2) hM)
        exact ⟨(hokp k hk).1, fun he => (hokp k hk).2 (by rw [← hgo] at he; injection he)⟩
      · rw [List.getElem?_set_ne (by omega)] at hm
        have hold := hr.2 m p hm
        have hcells : ((inner.take (i.toNat * d.sz + j) ++ seg ++ inner.drop (i.toNat * d.sz + j + seg.length)).drop (m * d.sz)).take d.sz = (inner.drop (m * d.sz)).take d.sz := by
          apply List.ext_getElem?
          intro q
          rw [List.getElem?_take, List.getElem?_take, List.getElem?_drop, List.getElem?_drop, seg_get inner seg _ (by omega)]
          by_cases hq : q < d.sz
          · rw [if_pos hq, if_pos hq]
            rcases Nat.lt_or_gt_of_ne hmi with hlt | hgt
            · have : m * d.sz + d.sz ≤ i.toNat * d.sz := by rw [← Nat.succ_mul]; exact Nat.mul_le_mul_right _ hlt
              rw [if_pos (by omega)]
            · have : i.toNat * d.sz + d.sz ≤ m * d.sz := by rw [← Nat.succ_mul]; exact Nat.mul_le_mul_right _ hgt
              rw [if_neg (by omega), if_neg (by omega)]
          · rw [if_neg hq, if_neg hq]
        rw [hcells]
        refine d.M_move (fun k hk => hfar k (fun he => hk.2 (by rw [he]; exact hgo))) hold
end
end Kd
namespace Kd
def fixed {α : Type} (d : Kd α) (w0 : World) : Kd α where
  sz := d.sz
  E := []
  K := fun _ x cs => d.K w0 x cs
  M := fun _ _ _ x cs => d.K w0 x cs
  K_len := d.K_len
  K_one := d.K_one
  K_below := fun _ h => h
  K_of_M := fun h => h
  M_mono := fun _ h => h
  M_bound := fun h => h
  M_move := fun _ h => h
  M_lower := fun _ h => h
def or_ {α : Type} (a b : Kd α) (h : b.sz = a.sz) : Kd α where
  sz := a.sz
  E := a.E ++ b.E
  K := fun w x cs => a.K w x cs ∨ b.K w x cs
  M := fun w base ok x cs => a.M w base ok x cs ∨ b.M w base ok x cs
  K_len := fun hk => hk.elim a.K_len (fun hk => (b.K_len hk).trans h)
  K_one := fun hk => hk.elim a.K_one b.K_one
  K_below := fun hb hk => hk.imp (a.K_below hb) (b.K_below hb)
  K_of_M := fun hk => hk.imp a.K_of_M b.K_of_M
  M_mono := fun hok hk => hk.imp (a.M_mono hok) (b.M_mono hok)
  M_bound := fun hk => hk.imp
    (fun hk => a.M_mono (fun _ ⟨h1, h2, h3, q, hq, hc⟩ => ⟨h1, h2, h3, q, List.mem_append_left _ hq, hc⟩) (a.M_bound hk))
    (fun hk => b.M_mono (fun _ ⟨h1, h2, h3, q, hq, hc⟩ => ⟨h1, h2, h3, q, List.mem_append_right _ hq, hc⟩) (b.M_bound hk))
  M_move := fun hm hk => hk.imp (a.M_move hm) (b.M_move hm)
  M_lower := fun hb hk => hk.imp (a.M_lower hb) (b.M_lower hb)
def mix {α : Type} (e : Nat) (d dm : Kd α) (w0 : World) : Kd (List α) := or_ (fixed (slice e d) w0) (slice e dm) rfl
end Kd
namespace Kd
theorem reps_append {α : Type} {R : α → List Value → Prop} {size : Nat} {ps qs : List α} {cs ds : List Value} (h : Reps R size ps cs) (h' : Reps R size qs ds) : Reps R size (ps ++ qs) (cs ++ ds) := by
  refine ⟨by rw [List.length_append, List.length_append, h.1, h'.1, Nat.add_mul], fun j p hj => ?_⟩
  rcases Nat.lt_or_ge j ps.length with hlt | hge
  · rw [List.getElem?_append_left hlt] at hj
    have hle : j * size + size ≤ cs.length := by rw [h.1, ← Nat.succ_mul]; exact Nat.mul_le_mul_right _ hlt
    rw [List.drop_append_of_le_length (by omega), List.take_append_of_le_length (by rw [List.length_drop]; omega)]
    exact h.2 j p hj
  · rw [List.getElem?_append_right hge] at hj
    have h2 := h'.2 (j - ps.length) p hj
    have hle : ps.length * size ≤ j * size := Nat.mul_le_mul_right _ hge
    rw [List.drop_append, List.drop_eq_nil_of_le (by rw [h.1]; exact hle), List.nil_append, h.1, ← Nat.sub_mul]
    exact h2
section
variable {P : Program} {ops : Array Oper} {rest : List Oper} {o : Oper} {a : Act} {Q : Exit → Act → World → Prop} {α : Type}
theorem R_append_rows (d : Kd α) {Rr : α → List Value → Prop} {w0 W : World} (base : Nat) (hgd : o.guard = none) (s x : Operand) (t e : TypeId) (z : Value) (bytes : Nat)
    (ho : o.op = .call { callee := .builtin .append, args := #[s, x], argTypes := #[t, t] })
    (ht : P.underlying t = some (.slice e)) (hinfo : (P.info? e).map (fun i => (i.zero, i.size, i.bytes)) = some (some z, d.sz, bytes)) (hz : z.cells.size = d.sz) (hs0 : 0 < d.sz) (hb0 : 0 < bytes)
    (v : Value) (xs ys : List α) (A : Option Addr) (m c : Nat) (ok okp : Nat → Prop) (hs : a.eval s = v) (hx : a.eval x = .slice A m c)
    (HO : d.R e W base ok v xs) (HR : ReadsRow Rr d.sz W A m ys) (hKM : ∀ x cs, Rr x cs → d.M W base okp x cs) (hokp : ∀ k, okp k → ok k ∧ some k ≠ v.ownBlock) (hfresh : ∀ k, W.heap.size ≤ k → ok k)
    (HB : Below base w0 W) (hbase : base ≤ W.heap.size) (hl : (xs.length + m) * bytes ≤ 140737488355328)
    (h : ∀ v1 w1, d.R e w1 base ok v1 (xs ++ ys) → Below base w0 w1 → W.grownBy w1 v.ownBlock → (v1.ownBlock = v.ownBlock ∨ ∃ b, v1.ownBlock = some b ∧ W.heap.size ≤ b) → wpList P ops Q rest (a.put o.dst v1) w1) :
    wpList P ops Q (o :: rest) a W := by
  obtain ⟨i0, hi, hzz⟩ := Option.map_eq_some_iff.1 hinfo
  simp only [Prod.mk.injEq] at hzz
  obtain ⟨hz0, hz1, hz2⟩ := hzz
  have hm : ys.length = m := HR.1
  have hlen : xs.length + m ≤ 140737488355328 := Nat.le_trans (Nat.le_mul_of_pos_right _ hb0) hl
  obtain ⟨hok, inner, hown, hr⟩ := HO
  have hrun : ∃ v1 w1, (Builtin.append_ #[t, t] o.type #[v, .slice A m c]).run P W = .ok v1 w1 ∧ d.R e w1 base ok v1 (xs ++ ys) ∧ W.grownBy w1 v.ownBlock ∧ (v1.ownBlock = v.ownBlock ∨ ∃ b, v1.ownBlock = some b ∧ W.heap.size ≤ b) := by
    rcases A with _ | ad
    · have h0 : m = 0 := by
        rcases Nat.eq_zero_or_pos m with h0 | h0
        · exact h0
        · obtain ⟨ad, h, _⟩ := HR.2.2 h0
          cases h
      subst h0
      obtain rfl : ys = [] := List.eq_nil_of_length_eq_zero hm
      refine ⟨v, W, ?_, by rw [List.append_nil]; exact ⟨hok, inner, hown, hr⟩, World.grownBy.refl W _, .inl rfl⟩
      rcases hown.2 with ⟨rfl, hn⟩ | ⟨g, cap, cur, rfl, _, _, hnc, _⟩
      · simp [Builtin.append_, run_underlying ht, sizeOf, typeInfo, hi, Builtin.lenOf, Builtin.firstCells]
      · simp [Builtin.append_, run_underlying ht, sizeOf, typeInfo, hi, Builtin.lenOf, Builtin.firstCells, hnc, storeCells]
    · obtain ⟨news, hnr, hnc⟩ := ReadsRow.inner_ HR
      have hnM : Reps (d.M W base okp) d.sz ys news := hnr.imp_ (fun p c hp => hKM p c hp)
      have hone : ∀ u ∈ news, u.oneCell' = true := by
        intro u hu
        obtain ⟨q, hq, rfl⟩ := List.mem_iff_getElem.1 hu
        have hql : q / d.sz < ys.length := by
          rw [Nat.div_lt_iff_lt_mul hs0]
          rw [← hnM.1]
          exact hq
        have hc := hnM.2 (q / d.sz) _ (List.getElem?_eq_getElem hql)
        refine d.K_one (d.K_of_M hc) _ ?_
        rw [List.mem_iff_getElem?]
        refine ⟨q % d.sz, ?_⟩
        rw [List.getElem?_take, if_pos (Nat.mod_lt _ hs0), List.getElem?_drop, Nat.mul_comm, Nat.div_add_mod, List.getElem?_eq_getElem hq]
      obtain ⟨v1, w1, hrun, h2, hg, _, hat⟩ := run_append_own_at (P := P) W base t o.type e i0 z d.sz bytes ht hi hz0 hz1 hz2 hz hs0 v xs.length inner hown ad m c news (by rw [hnM.1, hm]) hnc hone (by simp only [maxLen]; omega) hl hbase
      have hat' : v1.ownBlock = v.ownBlock ∨ ∃ b, v1.ownBlock = some b ∧ W.heap.size ≤ b := by
        rcases hat with hat | hat
        · exact .inl hat
        · exact .inr ⟨_, hat, Nat.le_refl _⟩
      have hne : ∀ k, some k ≠ v.ownBlock → k < W.heap.size → some k ≠ v1.ownBlock := by
        intro k hk hlt
        rcases hat' with hat | ⟨b, hb, hle⟩
        · rw [hat]; exact hk
        · rw [hb]
          intro he
          injection he with he
          omega
      have step : ∀ {q : α} {c : List Value} {o : Nat → Prop}, d.M W base o q c → (∀ k, o k → ok k ∧ some k ≠ v.ownBlock) → d.M w1 base (fun k => ok k ∧ some k ≠ v1.ownBlock) q c := by
        intro q c o hq ho
        have h1 := d.M_move (w1 := w1) (fun k hk => hg.block k hk.2.2.1 (ho k hk.1).2) (d.M_bound hq)
        exact d.M_mono (fun k hk => ⟨(ho k hk.1).1, hne k (ho k hk.1).2 hk.2.2.1⟩) h1
      refine ⟨v1, w1, hrun, ⟨fun k hk => ?_, inner ++ news, by rw [List.length_append, hm]; exact h2, reps_append (hr.imp_ (fun _ _ hq => step hq (fun _ hk => hk))) (hnM.imp_ (fun _ _ hq => step hq hokp))⟩, hg, hat'⟩
      rcases hat' with hat | ⟨b, hb, hle⟩
      · exact hok k (hat ▸ hk)
      · rw [hb] at hk
        injection hk with hk
        exact hfresh k (by omega)
  obtain ⟨v1, w1, hr1, h1, hg, hat⟩ := hrun
  refine wpList_plain hgd fun K hK => ?_
  unfold Oper.wp execOp
  simp only [ho, resolve, invoke, builtin, Sem.run_bind, Sem.run_pure, Result.andThen_ok, List.map_toArray, List.map_cons, List.map_nil, hs, hx, hr1]
  exact hK _ _ (h v1 w1 h1 (HB.grown hg hbase (own_base hown)) hg hat)
end
end Kd
theorem run_store_run {P : Program} {w : World} {g o : Nat} {e : TypeId} {cur : Array Value} (t : TypeId) (u : Value) (seg : List Value) (hh : w.heap[g]? = some (.cells cur e (0, 0))) (hu : u.cells.toList = seg) (ht : (P.info? t).map (·.size) = some seg.length)
    (hfit : o + seg.length ≤ cur.size) (h1 : ∀ q ∈ seg, q.oneCell' = true) : (Instr.storeAt t (.pointer (some ⟨g, o, none⟩)) u).run P w = .ok () (w.setCells g o seg) := by
  obtain ⟨i, hi, hsz⟩ := Option.map_eq_some_iff.1 ht
  have hc : u.cells.size = i.size := by rw [hsz, ← hu, Array.length_toList]
  have hst := run_storeCells_cells (P := P) g o seg 0 w (fun j hj => by rw [cell_of_row w g _ cur e (0, 0) hh]; simp; omega) (fun j _ => blk_frozen hh _) h1
  simp only [Nat.add_zero] at hst
  simp [Instr.storeAt, Instr.sureAddr, storeVar, sizeOf, typeInfo, hi, hc, hu, hst]
namespace Kd
section
variable {P : Program} {ops : Array Oper} {rest : List Oper} {o : Oper} {a : Act} {Q : Exit → Act → World → Prop} {α : Type}
theorem R_store (d : Kd α) {w0 W : World} (base : Nat) (hN : o.dst = none) (hgd : o.guard = none) (t : TypeId) (p x : Operand) (ho : o.op = .store t p x) (e : TypeId) {g n cap o' : Nat} (i : Int) (j : Nat) (xs : List α) (x' : α) (u : Value) (seg c : List Value) (ok okp : Nat → Prop)
    (haddr : a.eval p = .pointer (some ⟨g, o', none⟩)) (hoff : o' = i.toNat * d.sz + j) (hx : a.eval x = u) (hu : u.cells.toList = seg) (ht : (P.info? t).map (·.size) = some seg.length) (h1 : ∀ q ∈ seg, q.oneCell' = true)
    (HO : d.R e W base ok (.slice (some ⟨g, 0, none⟩) n cap) xs) (h0 : 0 ≤ i) (hi : i < n) (hcl : c.length = d.sz) (hcc : ∀ j u, c[j]? = some u → W.cell? ⟨g, i.toNat * d.sz + j, none⟩ = some u)
    (hj : j + seg.length ≤ d.sz) (hM : d.M W base okp x' (c.take j ++ seg ++ c.drop (j + seg.length))) (hokp : ∀ k, okp k → ok k ∧ k ≠ g) (HB : Below base w0 W)
    (h : ∀ w1, d.R e w1 base ok (.slice (some ⟨g, 0, none⟩) n cap) (xs.set i.toNat x') → Below base w0 w1 → W.grownBy w1 (some g) → wpList P ops Q rest a w1) : wpList P ops Q (o :: rest) a W := by
  subst hoff
  obtain ⟨hrow, hg⟩ := R_seg HO i h0 hi hcl hcc hj hM hokp
  have hbg : base ≤ g := R_base HO g (by simp [Value.ownBlock])
  have hnx : n = xs.length := (R_reads' HO).1
  obtain ⟨_, inner, hown, hr⟩ := HO
  have hil : i.toNat < n := by omega
  have hB : Below base w0 (W.setCells g (i.toNat * d.sz + j) seg) := HB.trans ⟨hg.os, hg.tape, hg.output, hg.size, fun k hk => by
    have hlt : k < W.heap.size ∨ W.heap.size ≤ k := Nat.lt_or_ge _ _
    rcases hlt with hlt | hge
    · exact hg.block k hlt (fun he => by injection he with he; omega)
    · exact setCells_far seg _ k (by omega)⟩
  refine wpList_plain hgd fun K hK => ?_
  have hrun : (Instr.storeAt t (.pointer (some ⟨g, i.toNat * d.sz + j, none⟩)) u).run P W = .ok () (W.setCells g (i.toNat * d.sz + j) seg) := by
    rcases hown.2 with ⟨hv, _⟩ | ⟨g', cap', cur, hv, hb, hh, hnc, hcm, hcs, _⟩
    · cases hv
    injection hv with ha _ hc
    injection ha with ha
    injection ha with hg'
    subst hg'; subst hc
    refine run_store_run t u seg hh hu ht ?_ h1
    have h2 : i.toNat * d.sz + d.sz ≤ n * d.sz := by rw [← Nat.succ_mul]; exact Nat.mul_le_mul_right _ hil
    have h3 : n * d.sz ≤ cap * d.sz := Nat.mul_le_mul_right _ (by omega)
    omega
  unfold Oper.wp execOp
  simp only [ho, haddr, hx, Sem.run_bind, Sem.run_pure, Result.andThen_ok, hrun]
  show K (a.put o.dst undef) _
  rw [hN]
  exact hK a _ (h _ hrow hB hg)
end
end Kd
namespace Kd
end Kd
theorem ReadsInt.nil (W : World) (k : IntKind) : ReadsInt W k none ([] : List Int).length [] := ⟨rfl, by simp, fun h => absurd h (Nat.lt_irrefl 0)⟩
theorem ReadsInt.drewN {W : World} {k : IntKind} {A : Option Addr} {n : Nat} {xs : List Int} (h : ReadsInt W k A n xs) (m : Nat) : ReadsInt (W.drewN m) k A n xs := h
theorem ReadsOf.nil {α : Type} (enc : α → Value) (d : α) (W : World) : ReadsOf enc d W none ([] : List α).length [] := ⟨rfl, by simp, fun h => absurd h (Nat.lt_irrefl 0)⟩
theorem ReadsOf.drewN {α : Type} {enc : α → Value} {d : α} {W : World} {A : Option Addr} {n : Nat} {xs : List α} (h : ReadsOf enc d W A n xs) (m : Nat) : ReadsOf enc d (W.drewN m) A n xs := h
namespace Kd
end Kd
namespace Kd
end Kd
namespace Kd
end Kd
namespace Kd
section
variable {α : Type} {enc : α → Value} {h1 : ∀ x, (enc x).oneCell' = true} {e base g n cap : Nat} {ok : Nat → Prop} {W : World} {xs : List α}
theorem R_putg (h : (scalar enc h1).R e W base ok (.slice (some ⟨g, 0, none⟩) n cap) xs) (i : Int) (x : α) : (scalar enc h1).R e (W.setCell ⟨g, i.toNat, none⟩ (enc x)) base ok (.slice (some ⟨g, 0, none⟩) n cap) (xs.set i.toNat x) ∧ W.grownBy (W.setCell ⟨g, i.toNat, none⟩ (enc x)) (some g) := by
  obtain ⟨rfl, _⟩ := R_reads' h
  exact R_put h i x
end
end Kd
section
variable {P : Program} {ops : Array Oper} {rest : List Oper} {o : Oper} {a : Act} {Q : Exit → Act → World → Prop} {W : World}
theorem gate_dst {N : Tmp} (_hN : o.dst = some N) (h : wpList P ops Q (o :: rest) a W) : wpList P ops Q (o :: rest) a W := h
theorem gate_store {t : TypeId} {p : Tmp} {v : Operand} (_ho : o.op = .store t (.tmp p) v) (h : wpList P ops Q (o :: rest) a W) : wpList P ops Q (o :: rest) a W := h
end
namespace Kd
end Kd
end Go.Proofs.YthfmlelodmcgkaaGreatW.PrintWords
end
section
/-
  PRINTED WORDS, second file: A REGION THAT DRAWS ITS ORDER, WALKED BY HAND, where its last store writes what its own loads read ('x.f = append(x.f, f(i))'). Plain theorems; no macro, no elab. A claim may hold it (turn the namespace's name).
  A load may be taken first in every world that meets S; behind the operations of ds nothing is shown; sound because each of ds waits for what is taken (Region.lastB). The kernel checks it.
  By an AI agent of Go's test side, Mon Nov 16 2026. No person has read it.
-/
namespace Go.Proofs.YthfmlelodmcgkaaGreatW.PrintLast
section
variable {P : Program} {ops : Array Oper} {Q : Exit → Act → World → Prop} {md : Region.Mode} {S : World → Prop} {ds : List Nat}
def ListedClosed (md : Region.Mode) (ops : Array Oper) (listed : Array Bool) : Prop :=
  ∀ j oj, ops[j]? = some oj → listed.getD j false = true → ∀ e ∈ oj.after, Region.binds md e = true → listed.getD e.on false = true
theorem ListedClosed.set {listed : Array Bool} {i : Nat} (h : ListedClosed md ops listed) (hi : i ∈ Region.ready md ops listed) : ListedClosed md ops (listed.setIfInBounds i true) := by
  obtain ⟨_, oi, hoi, hall⟩ := mem_ready.1 hi
  intro j oj hj hl e he hb
  by_cases hij : i = j
  · subst hij
    have : oj = oi := Option.some.inj (hj.symm.trans hoi)
    subst this
    exact getD_set_true (hall e he hb)
  · rw [getD_set_ne false hij] at hl
    exact getD_set_true (h j oj hj hl e he hb)
def wpAnyLast (P : Program) (md : Region.Mode) (ops : Array Oper) (Q : Exit → Act → World → Prop) (S : World → Prop) (ds : List Nat) : Nat → Array Bool → Act → World → Prop
  | 0, listed, a, w => Region.ready md ops listed = [] ∧ Q .normal a w
  | fuel + 1, listed, a, w =>
    (Region.ready md ops listed = [] → Q .normal a w) ∧
    ∀ i ∈ Region.ready md ops listed, wpOp P ops Q i (fun a' w' => (i ∉ ds → S w → S w') ∧ wpAnyLast P md ops Q S ds fuel (listed.setIfInBounds i true) a' w') a w
end
section
variable {P : Program} {ops : Array Oper} {Q : Exit → Act → World → Prop} {md : Region.Mode} {S : World → Prop} {ds : List Nat}
def AllReadyL (P : Program) (md : Region.Mode) (ops : Array Oper) (Q : Exit → Act → World → Prop) (S : World → Prop) (ds : List Nat) (fuel : Nat) (listed : Array Bool) (a : Act) (w : World) (rs : List Nat) : Prop :=
  ∀ i ∈ rs, wpOp P ops Q i (fun a' w' => (i ∉ ds → S w → S w') ∧ wpAnyLast P md ops Q S ds fuel (listed.setIfInBounds i true) a' w') a w
theorem AllReadyL.nil {fuel : Nat} {listed : Array Bool} {a : Act} {w : World} : AllReadyL P md ops Q S ds fuel listed a w [] := fun _ h => by cases h
theorem AllReadyL.cons {fuel : Nat} {listed : Array Bool} {a : Act} {w : World} {i : Nat} {o : Oper} {rs : List Nat} (ho : ops[i]? = some o) (hd : i ∉ ds)
    (h : ∀ K' : Act → World → Prop, Shut (∀ a w, S w → (S w → wpAnyLast P md ops Q S ds fuel (listed.setIfInBounds i true) a w) → K' a w) → if Region.wanted o (yielded ops a.tmps) = true then Oper.wp P o a w K' Q else K' (a.put o.dst undef) w)
    (hs : AllReadyL P md ops Q S ds fuel listed a w rs) : AllReadyL P md ops Q S ds fuel listed a w (i :: rs) := fun j hj => by
  rcases List.mem_cons.1 hj with rfl | hj
  · exact wpOp_step ho (fun K' hK => h K' (fun a w hS hW => hK a w ⟨fun _ _ => hS, hW hS⟩))
  · exact hs j hj
theorem enters_ {f : FuncId} {fn : Func} (hf : P.funcs[f]? = some fn) (hname : (fn.name == "runtime.NumGoroutine") = false) (hb : fn.body.isSome = true) (args : Array Value) (w : World) : (callFunc f args).run P w = .ok (.enter f args) w := by
  have h1 : fn.name ≠ "runtime.NumGoroutine" := by simpa using hname
  obtain ⟨c, hc⟩ := Option.isSome_iff_exists.1 hb
  simp [callFunc, hf, h1, hc]
theorem goesL_ {rest : List Oper} {oi : Oper} {a : Act} {w : World} (N : Option Tmp) (hd : oi.dst = N) (hg : oi.guard = none) {f : FuncId} {fn : Func} {az_ : Array Operand} {ts : Array TypeId} (hf : P.funcs[f]? = some fn) (hname : (fn.name == "runtime.NumGoroutine") = false) (hb : fn.body.isSome = true) (args : Array Value)
    (hop : oi.op = .call { callee := .value (.func f), args := az_, argTypes := ts }) (hargs : az_.map a.eval = args)
    (h : Calls P f args w fun e w' => ∃ v, e = .returned v ∧ wpList P ops Q rest (a.put N v) w') : wpList P ops Q (oi :: rest) a w := by
  refine wpList_plain hg fun K hK => ?_
  have he := enters_ hf hname hb args w
  have hrun : (execOp a.eval oi).run P w = .ok (.enter f args) w := by
    unfold execOp
    simp [hop, resolve, Deferred.ofValue, invoke, Act.eval, hargs, he]
  unfold Oper.wp
  rw [hrun, Oper.upon_enter]
  refine h.mono fun e w'' hh => ?_
  obtain ⟨v, rfl, hk⟩ := hh
  subst hd
  exact hK _ _ hk
end
end Go.Proofs.YthfmlelodmcgkaaGreatW.PrintLast
end
section
namespace Go.Proofs.YthfmlelodmcgkaaGreatW.PrintWords
open Go.RowKit
namespace Kd
def tag {α : Type} (f : Nat → Nat) (d : Kd α) : Kd (α × Nat) where
  sz := d.sz
  E := d.E
  K := fun w x cs => d.K w x.1 cs
  M := fun w base ok x cs => d.M w base (fun k => ok k ∧ f k = x.2) x.1 cs
  K_len := fun h => d.K_len h
  K_one := fun h => d.K_one h
  K_below := fun hb h => d.K_below hb h
  K_of_M := fun h => d.K_of_M h
  M_mono := fun hok h => d.M_mono (fun k hk => ⟨hok k hk.1, hk.2⟩) h
  M_bound := fun h => d.M_mono (fun _ hk => ⟨⟨hk.1.1, hk.2⟩, hk.1.2⟩) (d.M_bound h)
  M_move := fun hm h => d.M_move (fun k hk => hm k hk.1) h
  M_lower := fun hb h => d.M_lower hb h
def raw (sz : Nat) : Kd (List Value) where
  sz := sz
  E := []
  K := fun _ x cs => cs = x ∧ cs.length = sz ∧ ∀ u ∈ cs, u.oneCell' = true
  M := fun _ _ _ x cs => cs = x ∧ cs.length = sz ∧ ∀ u ∈ cs, u.oneCell' = true
  K_len := fun h => h.2.1
  K_one := fun h => h.2.2
  K_below := fun _ h => h
  K_of_M := fun h => h
  M_mono := fun _ h => h
  M_bound := fun h => h
  M_move := fun _ h => h
  M_lower := fun _ h => h
def S {α : Type} (d : Kd α) (e : Nat) (w : World) (base : Nat) (ok : Nat → Prop) (v : Value) (xs : List α) : Prop := ∃ f, (tag f d).R e w base ok v xs.zipIdx
def gap {α : Type} (f : Nat → Nat) (d : Kd α) (i : Nat) (c : List Value) : Kd (α × Nat) where
  sz := d.sz
  E := d.E
  K := fun w x cs => (x.2 = i → cs = c ∧ cs.length = d.sz ∧ ∀ u ∈ cs, u.oneCell' = true) ∧ (x.2 ≠ i → d.K w x.1 cs)
  M := fun w base ok x cs => (x.2 = i → cs = c ∧ cs.length = d.sz ∧ ∀ u ∈ cs, u.oneCell' = true) ∧ (x.2 ≠ i → d.M w base (fun k => ok k ∧ f k = x.2) x.1 cs)
  K_len := fun {w x cs} h => by
    by_cases hx : x.2 = i
    · exact (h.1 hx).2.1
    · exact d.K_len (h.2 hx)
  K_one := fun {w x cs} h => by
    by_cases hx : x.2 = i
    · exact (h.1 hx).2.2
    · exact d.K_one (h.2 hx)
  K_below := fun hb h => ⟨h.1, fun hx => d.K_below hb (h.2 hx)⟩
  K_of_M := fun h => ⟨h.1, fun hx => d.K_of_M (h.2 hx)⟩
  M_mono := fun hok h => ⟨h.1, fun hx => d.M_mono (fun k hk => ⟨hok k hk.1, hk.2⟩) (h.2 hx)⟩
  M_bound := fun h => ⟨h.1, fun hx => d.M_mono (fun _ hk => ⟨⟨hk.1.1, hk.2⟩, hk.1.2⟩) (d.M_bound (h.2 hx))⟩
  M_move := fun hm h => ⟨h.1, fun hx => d.M_move (fun k hk => hm k hk.1) (h.2 hx)⟩
  M_lower := fun hb h => ⟨h.1, fun hx => d.M_lower hb (h.2 hx)⟩
def H {α : Type} (d : Kd α) (e : Nat) (w : World) (base : Nat) (ok : Nat → Prop) (v : Value) (xs : List α) (i : Int) (oki : Nat → Prop) (c : List Value) : Prop :=
  (∀ k, oki k → ok k) ∧ ∃ f, (gap f d i.toNat c).R e w base (fun k => ok k ∧ ¬ oki k) v xs.zipIdx
end Kd
end Go.Proofs.YthfmlelodmcgkaaGreatW.PrintWords
end
section
namespace Go.Proofs.YthfmlelodmcgkaaGreatW.PrintWords
open Go.RowKit
namespace Kd
theorem reps_one {α : Type} {R : α → List Value → Prop} {size : Nat} {ps : List α} {cs : List Value} (h : Reps R size ps cs) (hs0 : 0 < size) (hR : ∀ p c, R p c → ∀ u ∈ c, u.oneCell' = true) : ∀ u ∈ cs, u.oneCell' = true := by
  intro u hu
  obtain ⟨q, hq, rfl⟩ := List.mem_iff_getElem.1 hu
  have hql : q / size < ps.length := by
    rw [Nat.div_lt_iff_lt_mul hs0, ← h.1]
    exact hq
  refine hR _ _ (h.2 (q / size) _ (List.getElem?_eq_getElem hql)) _ ?_
  rw [List.mem_iff_getElem?]
  refine ⟨q % size, ?_⟩
  rw [List.getElem?_take, if_pos (Nat.mod_lt _ hs0), List.getElem?_drop, Nat.mul_comm, Nat.div_add_mod, List.getElem?_eq_getElem hq]
def arr {α : Type} (n : Nat) (d : Kd α) (hs : 0 < d.sz) : Kd (List α) where
  sz := n * d.sz
  E := d.E
  K := fun w xs cs => xs.length = n ∧ Reps (d.K w) d.sz xs cs
  M := fun w base ok xs cs => xs.length = n ∧ Reps (d.M w base ok) d.sz xs cs
  K_len := fun h => by rw [← h.1]; exact h.2.1
  K_one := fun h => reps_one h.2 hs (fun _ _ hk => d.K_one hk)
  K_below := fun hb h => ⟨h.1, h.2.imp_ (fun _ _ hk => d.K_below hb hk)⟩
  K_of_M := fun h => ⟨h.1, h.2.imp_ (fun _ _ hk => d.K_of_M hk)⟩
  M_mono := fun hok h => ⟨h.1, h.2.imp_ (fun _ _ hk => d.M_mono hok hk)⟩
  M_bound := fun h => ⟨h.1, h.2.imp_ (fun _ _ hk => d.M_bound hk)⟩
  M_move := fun hm h => ⟨h.1, h.2.imp_ (fun _ _ hk => d.M_move hm hk)⟩
  M_lower := fun hb h => ⟨h.1, h.2.imp_ (fun _ _ hk => d.M_lower hb hk)⟩
end Kd
end Go.Proofs.YthfmlelodmcgkaaGreatW.PrintWords
end
section
namespace Go.Proofs.YthfmlelodmcgkaaGreatW.PrintWords
open Go.RowKit
namespace Kd
structure Heap {α : Type} (d : Kd α) : Prop where
  K : ∀ {w w1 : World} {x : α} {cs : List Value}, (∀ k, k < w.heap.size → w1.heap[k]? = w.heap[k]?) → d.K w x cs → d.K w1 x cs
theorem cell_heap {w w1 : World} (hb : ∀ k, k < w.heap.size → w1.heap[k]? = w.heap[k]?) {a : Addr} {v : Value} (h : w.cell? a = some v) : w1.cell? a = some v := by
  have := hb a.block (World.block_lt_of_cell? w a h)
  simpa [World.cell?, this] using h
theorem Heap.C {α : Type} {d : Kd α} (hd : Heap d) {w w1 : World} {A : Option Addr} {n : Nat} {xs : List α} (hb : ∀ k, k < w.heap.size → w1.heap[k]? = w.heap[k]?) (h : d.C w A n xs) : d.C w1 A n xs :=
  ⟨h.1, h.2.1, fun hn => by
    obtain ⟨ad, e, hc⟩ := h.2.2 hn
    refine ⟨ad, e, fun j p hj => ?_⟩
    obtain ⟨c, hs, hr, hcell⟩ := hc j p hj
    exact ⟨c, hs, hd.K hb hr, fun i u hu => cell_heap hb (hcell i u hu)⟩⟩
end Kd
end Go.Proofs.YthfmlelodmcgkaaGreatW.PrintWords
end
section
namespace Go.Proofs.YthfmlelodmcgkaaGreatW.PrintWords
open Go.RowKit
def Kept (w W : World) (S : Nat → Prop) : Prop := w.heap.size ≤ W.heap.size ∧ ∀ i, i < w.heap.size → ¬ S i → W.heap[i]? = w.heap[i]?
section
variable {w W W2 : World} {S S2 S' : Nat → Prop}
theorem Kept.refl (w : World) (S : Nat → Prop) : Kept w w S := ⟨Nat.le_refl _, fun _ _ _ => rfl⟩
theorem Kept.of_below (h : Below w.heap.size w W) (S : Nat → Prop) : Kept w W S := ⟨h.size, fun i hi _ => h.block i hi⟩
theorem Kept.mono (h : Kept w W S) (hs : ∀ k, S k → S' k) : Kept w W S' := ⟨h.1, fun i hi hn => h.2 i hi (fun hk => hn (hs i hk))⟩
theorem Kept.then_ (h : Kept w W S) (k : Kept W W2 S2) (hs : ∀ k, S2 k → S k ∨ w.heap.size ≤ k) : Kept w W2 S :=
  ⟨Nat.le_trans h.1 k.1, fun i hi hn => (k.2 i (Nat.lt_of_lt_of_le hi h.1) (fun h2 => (hs i h2).elim hn (fun h3 => by omega))).trans (h.2 i hi hn)⟩
theorem Kept.below (h : Kept w W S) (hb : Below W.heap.size W W2) : Kept w W2 S := h.then_ (Kept.of_below hb (fun _ => False)) (fun _ hk => hk.elim)
theorem Kept.alloc (h : Kept w W S) (o : Obj) : Kept w (W.alloc o) S := h.below (below_alloc (Below.refl _ _) o)
theorem Kept.drew (h : Kept w W S) : Kept w W.drew S := h
theorem Kept.drewN (h : Kept w W S) (m : Nat) : Kept w (W.drewN m) S := h
theorem Kept.setCell (h : Kept w W S) {p : Addr} (hp : S p.block ∨ w.heap.size ≤ p.block) (u : Value) : Kept w (W.setCell p u) S :=
  h.then_ (S2 := fun k => k = p.block) ⟨by simp [World.setCell], fun i _ hn => Below.heap_setCell W p u i hn⟩ (fun k hk => by rw [hk]; exact hp)
end
namespace Kd
end Kd
end Go.Proofs.YthfmlelodmcgkaaGreatW.PrintWords
end
section
namespace Go.Proofs.YthfmlelodmcgkaaGreatW.PrintWords
open Go.RowKit
def Foot (P : World → Prop) (W : World) (ok : Nat → Prop) : Prop := ∀ W' : World, (∀ k, ok k → k < W.heap.size → W'.heap[k]? = W.heap[k]?) → P W'
theorem heap_lt {W W1 : World} {k : Nat} (h : W1.heap[k]? = W.heap[k]?) (hlt : k < W.heap.size) : k < W1.heap.size := by
  rw [Array.getElem?_eq_getElem hlt] at h
  exact (Array.getElem?_eq_some_iff.1 h).1
namespace Foot
variable {P Q : World → Prop} {W W1 : World} {ok ok' : Nat → Prop}
theorem mono (h : Foot P W ok) (hok : ∀ k, ok k → ok' k) : Foot P W ok' := fun W' hW => h W' (fun k hk hlt => hW k (hok k hk) hlt)
theorem bound (h : Foot P W ok) : Foot P W (fun k => ok k ∧ k < W.heap.size) := fun W' hW => h W' (fun k hk hlt => hW k ⟨hk, hlt⟩ hlt)
theorem step (h : Foot P W ok) (hm : ∀ k, ok k → k < W.heap.size → W1.heap[k]? = W.heap[k]?) : Foot P W1 ok := fun W' hW => h W' (fun k hk hlt => (hW k hk (heap_lt (hm k hk hlt) hlt)).trans (hm k hk hlt))
theorem imp (h : Foot P W ok) (hi : ∀ W', P W' → Q W') : Foot Q W ok := fun W' hW => hi W' (h W' hW)
theorem old (h : Foot P W ok) (hb : Below W.heap.size W W1) : Foot P W1 (fun k => ok k ∧ k < W.heap.size) := (h.bound).step (fun k _ hlt => hb.block k hlt)
end Foot
namespace Kd
def F {α : Type} (d : Kd α) (W : World) (ok : Nat → Prop) (A : Option Addr) (n : Nat) (xs : List α) : Prop := Foot (fun W => d.C W A n xs) W ok
def FK {α : Type} (d : Kd α) (W : World) (ok : Nat → Prop) (x : α) (c : List Value) : Prop := Foot (fun W => d.K W x c) W ok
end Kd
end Go.Proofs.YthfmlelodmcgkaaGreatW.PrintWords
end
section
namespace Go.Proofs.YthfmlelodmcgkaaGreatW.PrintWords
open Go.RowKit
namespace Kd
section
variable {α : Type} {d : Kd α} {e base n cc g : Nat} {ok ok' okp S : Nat → Prop} {w w1 W W1 : World} {A : Option Addr} {u v v1 : Value} {xs : List α} {x : α} {c : List Value}
def N {α : Type} (d : Kd α) (e : Nat) (w : World) (base : Nat) (ok : Nat → Prop) (v : Value) (xs : List α) : Prop :=
  (∀ k, v.ownBlock = some k → ok k) ∧ ∃ rows : List (List Value), rows.length = xs.length ∧ (raw d.sz).R e w base (fun k => some k = v.ownBlock) v rows ∧ ∀ (j : Nat) (x : α) (c : List Value), xs[j]? = some x → rows[j]? = some c → FK d w (fun k => ok k ∧ some k ≠ v.ownBlock) x c
end
end Kd
end Go.Proofs.YthfmlelodmcgkaaGreatW.PrintWords
end
section
namespace Go.Proofs.YthfmlelodmcgkaaGreatW.PrintMore
open Go.RowKit Go.Proofs.YthfmlelodmcgkaaGreatW.PrintWords
namespace Kd
open Go.Proofs.YthfmlelodmcgkaaGreatW.PrintWords.Kd
end Kd
namespace Kd
open Go.Proofs.YthfmlelodmcgkaaGreatW.PrintWords.Kd
end Kd
end Go.Proofs.YthfmlelodmcgkaaGreatW.PrintMore
namespace Go.Proofs.YthfmlelodmcgkaaGreatW.PrintWords
open Go.RowKit
section
variable {P : Program} {ops : Array Oper} {rest : List Oper} {o : Oper} {a : Act} {Q : Exit → Act → World → Prop} {W : World}
theorem gate_callee {f : FuncId} {az_ : Array Operand} {ts : Array TypeId} (_ho : o.op = .call { callee := .value (.func f), args := az_, argTypes := ts }) (h : wpList P ops Q (o :: rest) a W) : wpList P ops Q (o :: rest) a W := h
theorem gate_builtin {b : Builtin} {xs : Array Operand} {ts : Array TypeId} (_ho : o.op = .call { callee := .builtin b, args := xs, argTypes := ts }) (h : wpList P ops Q (o :: rest) a W) : wpList P ops Q (o :: rest) a W := h
end
def mx (a b : Int) : Int := if a < b then b else a
def mn (a b : Int) : Int := if b < a then b else a
def shl (k : IntKind) (x y : Int) : Int := k.wrap (x * 2 ^ min y.toNat k.bits)
def shr (k : IntKind) (x y : Int) : Int := x / 2 ^ min y.toNat k.bits
namespace Kd
end Kd
end Go.Proofs.YthfmlelodmcgkaaGreatW.PrintWords
namespace Go.Proofs.YthfmlelodmcgkaaGreatW.PrintWords
open Go.RowKit
namespace Kd
def V {α : Type} (d : Kd α) (_e : Nat) (W : World) (_base : Nat) (ok : Nat → Prop) (v : Value) (xs : List α) : Prop := ∃ A c, v = .slice A xs.length c ∧ xs.length ≤ c ∧ F d W ok A xs.length xs
end Kd
end Go.Proofs.YthfmlelodmcgkaaGreatW.PrintWords
end
section
namespace Go.Proofs.YthfmlelodmcgkaaGreat.K
open Go.RowKit Go.Proofs.YthfmlelodmcgkaaGreatW.PrintWords Go.Proofs.YthfmlelodmcgkaaGreatW.PrintLast Go.Proofs.YthfmlelodmcgkaaGreatW.PrintMore
def Runs (P : Program) (fv : Value) (args : Array Value) (w : World) (Q : Ending → World → Prop) : Prop :=
  ∃ (k : Nat) (fn : Func) (first cap : Array Value), fv = .func (.func k) first cap ∧ P.funcs[k]? = some fn ∧ (fn.name == "runtime.NumGoroutine") = false ∧ fn.body.isSome = true ∧ Calls P k (first ++ args ++ cap) w Q
theorem Runs.mono {P : Program} {fv : Value} {args : Array Value} {w : World} {Q Q' : Ending → World → Prop} (h : Runs P fv args w Q) (hq : ∀ e w', Q e w' → Q' e w') : Runs P fv args w Q' := by
  obtain ⟨k, fn, first, cap, h1, h2, h3, h4, h5⟩ := h
  exact ⟨k, fn, first, cap, h1, h2, h3, h4, h5.mono hq⟩
theorem goesV {P : Program} {ops : Array Oper} {Q : Exit → Act → World → Prop} {rest : List Oper} {oi : Oper} {a : Act} {w : World} (N : Option Tmp) (hd : oi.dst = N) (hg : oi.guard = none) {fo : Operand} {aa : Array Operand} {ts : Array TypeId}
    (hop : oi.op = .call { callee := .value fo, args := aa, argTypes := ts }) {fv : Value} (hfv : a.eval fo = fv) (args : Array Value) (hargs : aa.map a.eval = args)
    (h : Runs P fv args w fun e w' => ∃ v, e = .returned v ∧ wpList P ops Q rest (a.put N v) w') : wpList P ops Q (oi :: rest) a w := by
  obtain ⟨k, fn, first, cap, rfl, hf, hname, hb, hc⟩ := h
  refine wpList_plain hg fun K hK => ?_
  have he := enters_ hf hname hb (first ++ args ++ cap) w
  have hrun : (execOp a.eval oi).run P w = .ok (.enter k (first ++ args ++ cap)) w := by
    unfold execOp
    simp [hop, resolve, Deferred.ofValue, invoke, hargs, hfv]
    rw [← Array.append_assoc]
    exact he
  unfold Oper.wp
  rw [hrun, Oper.upon_enter]
  refine hc.mono fun e w'' hh => ?_
  obtain ⟨v, rfl, hk⟩ := hh
  subst hd
  exact hK _ _ hk
structure Step (R : World → World → Prop) : Prop where
  refl : ∀ w, R w w
  trans : ∀ {w1 w2 w3}, R w1 w2 → R w2 w3 → R w1 w3
  draw : ∀ w n, R w (w.drewN n)
  below : ∀ {w w'}, R w w' → Below w.heap.size w w'
structure Bel (w w' : World) : Prop where mk :: (out : Below w.heap.size w w')
theorem step_bel : Step Bel := ⟨fun w => ⟨Below.refl _ _⟩, fun h k => ⟨below_then h.out h.out.size k.out⟩, fun w n => ⟨pw_below_drewN (Below.refl _ _) n⟩, fun h => h.out⟩
end Go.Proofs.YthfmlelodmcgkaaGreat.K
namespace Go.Proofs.YthfmlelodmcgkaaGreat.K
open Go.RowKit Go.Proofs.YthfmlelodmcgkaaGreatW.PrintWords Go.Proofs.YthfmlelodmcgkaaGreatW.PrintMore
theorem rd_mem (l : List Int) (k : Nat) (h : k < l.length) : rd l k ∈ l := by
  unfold rd
  rw [List.getD_eq_getElem?_getD, Int.toNat_natCast, List.getElem?_eq_getElem h]
  exact List.getElem_mem _
theorem drop_at (l : List Int) (k : Nat) (h : k < l.length) : l.drop k = rd l k :: l.drop (k + 1) := by
  rw [List.drop_eq_getElem_cons h]
  unfold rd
  rw [List.getD_eq_getElem?_getD, Int.toNat_natCast, List.getElem?_eq_getElem h]
  rfl
def inB (n lo hi : Int) : Bool := decide (lo ≤ n) && decide (n ≤ hi)
end Go.Proofs.YthfmlelodmcgkaaGreat.K
namespace Go.Proofs.YthfmlelodmcgkaaGreat.K
open Go.RowKit Go.Proofs.YthfmlelodmcgkaaGreatW.PrintWords Go.Proofs.YthfmlelodmcgkaaGreatW.PrintLast Go.Proofs.YthfmlelodmcgkaaGreatW.PrintMore
theorem info2 : (Tryz.prog.info? 2).map (fun i => (i.zero, i.size, i.bytes)) = some (some (.int .i64 0), 1, 8) := by kernel_rfl
abbrev RI (w : World) (base : Nat) (ok : Nat → Prop) (v : Value) (xs : List Int) : Prop := Kd.R (Kd.int .i64) 2 w base ok v xs
abbrev CI (w : World) (A : Option Addr) (n : Nat) (xs : List Int) : Prop := Kd.C (Kd.int .i64) w A n xs
theorem Bel.refl (w : World) : Bel w w := ⟨Below.refl _ _⟩
theorem Bel.trans {a b c : World} (h : Bel a b) (k : Bel b c) : Bel a c := step_bel.trans h k
theorem Bel.of {a b : World} (h : Below a.heap.size a b) : Bel a b := ⟨h⟩
section
variable {ops : Array Oper} {rest : List Oper} {o : Oper} {a : Act} {Q : Exit → Act → World → Prop}
theorem lit0 {w0 W : World} (base : Nat) {ok : Nat → Prop} (hgd : o.guard = none) {N : Tmp} (hd : o.dst = some N) (ho : o.op = .buildSlice 26 0 #[]) (hfresh : ok W.heap.size) (HB : Below base w0 W) (hbase : base ≤ W.heap.size)
    (h : ∀ v1 w1, RI w1 base ok v1 [] → Below base w0 w1 → W.grownBy w1 none → (∃ b, v1.ownBlock = some b ∧ W.heap.size ≤ b) → wpList Tryz.prog ops Q rest (a.put o.dst v1) w1) : wpList Tryz.prog ops Q (o :: rest) a W := by
  refine Kd.R_lit (Kd.int .i64) base 2 hgd hd (xs := []) (inner := []) (okp := fun _ => False) ?_ (Reps.none _ _) (fun _ h => h.elim) hfresh HB hbase (by simp) h
  unfold execOp
  rw [ho]
  go_simp
theorem appI {w0 W : World} {base : Nat} {ok : Nat → Prop} (hgd : o.guard = none) {s x : Operand} (ho : o.op = .call { callee := .builtin .append, args := #[s, x], argTypes := #[26, 26] })
    (v : Value) (xs : List Int) (y : Int) (hs : a.eval s = v) (hx : a.eval x = .slice (some ⟨W.heap.size, 0, none⟩) 1 1) (hfresh : ∀ k, W.heap.size ≤ k → ok k)
    (HO : RI W base ok v xs) (HB : Below base w0 W) (hbase : base ≤ W.heap.size) (hl : xs.length < 17592186044416)
    (h : ∀ v1 w1, RI w1 base ok v1 (xs ++ [y]) → Below base w0 w1 → W.grownBy w1 v.ownBlock → (v1.ownBlock = v.ownBlock ∨ ∃ b, v1.ownBlock = some b ∧ W.heap.size ≤ b) → wpList Tryz.prog ops Q rest (a.put o.dst v1) w1) :
    wpList Tryz.prog ops Q (o :: rest) a (W.alloc (.cells #[.int .i64 y] 2)) :=
  Kd.R_append (Kd.int .i64) base hgd s x 26 2 (.int .i64 0) 8 ho Tryz.underlying26 info2 rfl (by decide) (by omega) v xs y [.int .i64 y] ok (fun _ => False) hs hx rfl (fun _ h => h.elim) hfresh HO HB hbase (by omega) h
end
end Go.Proofs.YthfmlelodmcgkaaGreat.K
end
section
namespace Go.Proofs.YthfmlelodmcgkaaGreat.K
open Go.RowKit Go.Proofs.YthfmlelodmcgkaaGreatW.PrintWords Go.Proofs.YthfmlelodmcgkaaGreatW.PrintLast Go.Proofs.YthfmlelodmcgkaaGreatW.PrintMore
open Go.Maps (Keyed)
def hR (v : Value) : Option (DataW Value × List MemPlace) := some (.held v, [])
def MapV (w : World) (P : Program) (k : TypeId) (b s : Nat) (m : Lit → Option Value) : Prop :=
  ∃ D, w.ownsMap P k hR b s D ∧ Maps.size D = s ∧ ∀ kl, WideAt.IsKeyLit kl → Maps.has D kl = (m kl).isSome ∧ ∀ v, m kl = some v → ∀ z, D.atKey kl z = .held v
section
variable {P : Program} {k : TypeId} {w w1 : World} {b s : Nat} {m : Lit → Option Value}
theorem MapV.made (w : World) (P : Program) (k : TypeId) : MapV (w.alloc (.map #[] 0)) P k w.heap.size 0 fun _ => none :=
  ⟨.map [], World.ownsMap_made _ _ _ _, rfl, fun kl _ => ⟨rfl, fun v h => by cases h⟩⟩
theorem MapV.lt (h : MapV w P k b s m) : b < w.heap.size := by
  obtain ⟨D, hD, _⟩ := h
  exact hD.lt
theorem MapV.kept (h : MapV w P k b s m) {row : Option Nat} (hg : w.grownBy w1 row) (hne : some b ≠ row) : MapV w1 P k b s m := by
  obtain ⟨D, hD, hs, hm⟩ := h
  exact ⟨D, hD.kept hg hne, hs, hm⟩
theorem MapV.block (h : MapV w P k b s m) (hb : w1.heap[b]? = w.heap[b]?) : MapV w1 P k b s m := by
  obtain ⟨D, ⟨es, clock, h1, h2⟩, hs, hm⟩ := h
  exact ⟨D, ⟨es, clock, hb.trans h1, h2⟩, hs, hm⟩
theorem MapV.below (h : MapV w P k b s m) (hb : Below w.heap.size w w1) : MapV w1 P k b s m := h.block (hb.block b h.lt)
theorem MapV.congr (h : MapV w P k b s m) {m' : Lit → Option Value} (he : ∀ kl, WideAt.IsKeyLit kl → m' kl = m kl) : MapV w P k b s m' := by
  obtain ⟨D, hD, hs, hm⟩ := h
  exact ⟨D, hD, hs, fun kl hk => by rw [he kl hk]; exact hm kl hk⟩
variable {ops : Array Oper} {rest : List Oper} {o : Oper} {a : Act} {Q : Exit → Act → World → Prop} {W : World}
theorem mapMake {t e : TypeId} (hgd : o.guard = none) {N : Tmp} (hd : o.dst = some N) (ho : o.op = .makeMap t none) (ht : P.underlying t = some (.map k e))
    (h : ∀ w1, MapV w1 P k W.heap.size 0 (fun _ => none) → W.grownBy w1 none → Below W.heap.size W w1 → w1.heap.size = W.heap.size + 1 → wpList P ops Q rest (a.put o.dst (.map (some W.heap.size))) w1) : wpList P ops Q (o :: rest) a W := by
  refine Kd.event_run hgd ?_ (h (W.alloc (.map #[] 0)) (MapV.made _ _ _) (World.grownBy_alloc W _ none) (below_alloc (Below.refl _ _) _) (by simp))
  unfold execOp
  have hmm := @run_makeMap P
  simp [ho, hmm, Result.andThen]
theorem mapLookOk {t e : TypeId} (hgd : o.guard = none) {mm x : Operand} (ho : o.op = .lookup t mm x true) (K : Keyed P k) (ht : P.underlying t = some (.map k e)) {z : Value} (hz : (zeroValue e).run P W = .ok z W)
    (hM : MapV W P k b s m) (hm : a.eval mm = .map (some b)) (key : Value) (kl : Lit) (hx : a.eval x = key) (hkey : keyOf P k key = some kl) (hkl : WideAt.IsKeyLit kl)
    (h : wpList P ops Q rest (a.put o.dst (.tuple #[(m kl).getD z, .bool (m kl).isSome])) W) : wpList P ops Q (o :: rest) a W := by
  obtain ⟨D, hD, hs, hmm⟩ := hM
  obtain ⟨h1, h2⟩ := hmm kl hkl
  refine wpList_lookup_own_ok W hgd mm x t ho k e K ht hR hz (.held z) [] rfl b s D hm hD key kl hx hkey fun v ps hv => ?_
  have hv2 : DataW.held v = D.atKey kl (.held z) := (Prod.mk.inj (Option.some.inj hv)).1
  rw [h1]
  cases e1 : m kl with
  | none =>
    rw [e1] at h1 h
    rw [Maps.atKey_of_not_has h1] at hv2
    injection hv2 with hv2
    subst hv2
    exact h
  | some u =>
    rw [e1] at h
    rw [h2 u e1] at hv2
    injection hv2 with hv2
    subst hv2
    exact h
theorem mapLook {t e : TypeId} (hgd : o.guard = none) {mm x : Operand} (ho : o.op = .lookup t mm x false) (K : Keyed P k) (ht : P.underlying t = some (.map k e)) {z : Value} (hz : (zeroValue e).run P W = .ok z W)
    (hM : MapV W P k b s m) (hm : a.eval mm = .map (some b)) (key : Value) (kl : Lit) (hx : a.eval x = key) (hkey : keyOf P k key = some kl) (hkl : WideAt.IsKeyLit kl)
    (h : wpList P ops Q rest (a.put o.dst ((m kl).getD z)) W) : wpList P ops Q (o :: rest) a W := by
  obtain ⟨D, hD, hs, hmm⟩ := hM
  obtain ⟨h1, h2⟩ := hmm kl hkl
  obtain ⟨v, ps, hrun, hv⟩ := hD.lookup K ht hz (zd := .held z) (zp := []) rfl hkey
  have hv2 : DataW.held v = D.atKey kl (.held z) := (Prod.mk.inj (Option.some.inj hv)).1
  have hv3 : (m kl).getD z = v := by
    cases e1 : m kl with
    | none =>
      rw [e1] at h1
      rw [Maps.atKey_of_not_has h1] at hv2
      injection hv2 with hv2
      exact hv2.symm
    | some u =>
      rw [h2 u e1] at hv2
      injection hv2 with hv2
      exact hv2.symm
  rw [hv3] at h
  refine Kd.event_run hgd ?_ h
  unfold execOp
  simp [ho, hm, hx, hrun, Result.andThen]
theorem mapStore {t e : TypeId} (hgd : o.guard = none) {mm x y : Operand} (ho : o.op = .mapUpdate t mm x y) (K : Keyed P k) (ht : P.underlying t = some (.map k e))
    (hM : MapV W P k b s m) (hs : s < 1099511627776) (hm : a.eval mm = .map (some b)) (key val : Value) (kl : Lit) (hx : a.eval x = key) (hv : a.eval y = val) (hkey : keyOf P k key = some kl) (hkl : WideAt.IsKeyLit kl)
    (h : ∀ w', MapV w' P k b (if (m kl).isSome then s else s + 1) (fun l => if l.sameKey kl = true then some val else m l) → W.grownBy w' (some b) → wpList P ops Q rest (a.put o.dst undef) w') : wpList P ops Q (o :: rest) a W := by
  obtain ⟨D, hD, hsz, hmm⟩ := hM
  refine wpList_mapUpdate_own W hgd mm x y t ho k e K ht hR b s D hm hD (by simp only [maxLen]; omega) key val kl hx hv hkey (.held val) [] rfl fun w' hD' hg => h w' ⟨D.put kl (.held val), ?_, ?_, ?_⟩ hg
  · have ht2 := hD.tidy K
    have e1 : Maps.size (D.put kl (.held val)) = if (m kl).isSome then s else s + 1 := by rw [Maps.size_put ht2, (hmm kl hkl).1, hsz]
    obtain ⟨es, clock, hb, F, hle, hDe⟩ := hD'
    refine ⟨es, clock, hb, F, ?_, hDe⟩
    have : es.size = Maps.size (D.put kl (.held val)) := by rw [hDe]; simp [Maps.size, length_sorted]
    rw [this, e1]
    exact Nat.le_refl _
  · rw [Maps.size_put (hD.tidy K), (hmm kl hkl).1, hsz]
  · intro kl' hk'
    dsimp only
    by_cases he : kl' = kl
    · subst he
      refine ⟨by rw [Maps.has_put_same hD.isMap hk', if_pos (WideAt.sameKey_self hk')]; rfl, fun v hv z => ?_⟩
      rw [if_pos (WideAt.sameKey_self hk')] at hv
      obtain rfl := Option.some.inj hv
      exact Maps.atKey_put_same hD.isMap hk' _ _
    · have hes : ¬ kl'.sameKey kl = true := fun h => he (WideAt.sameKey_eq h)
      refine ⟨by rw [Maps.has_put_other he, if_neg hes]; exact (hmm kl' hk').1, fun v hv z => ?_⟩
      rw [if_neg hes] at hv
      rw [Maps.atKey_put_other he]
      exact (hmm kl' hk').2 v hv z
theorem mapLen {t e : TypeId} (hgd : o.guard = none) {mm : Operand} (ho : o.op = .call { callee := .builtin .len, args := #[mm], argTypes := #[t] }) (ht : P.underlying t = some (.map k e))
    (hM : MapV W P k b s m) (hm : a.eval mm = .map (some b)) (h : wpList P ops Q rest (a.put o.dst (.int .i64 s)) W) : wpList P ops Q (o :: rest) a W := by
  obtain ⟨D, hD, hs, _⟩ := hM
  subst hs
  exact wpList_len_own W hgd mm t ho k e ht hR b _ D hm hD h
def MapR (w : World) (P : Program) (k : TypeId) (b r : Nat) (m : Lit → Option Value) (left : Lit → Bool) (cnt : Nat) : Prop :=
  ∃ D n, w.ranges P k hR b r n D left cnt ∧ ∀ kl, WideAt.IsKeyLit kl → Maps.has D kl = (m kl).isSome ∧ ∀ v, m kl = some v → ∀ z, D.atKey kl z = .held v
theorem MapR.left_eq {left : Lit → Bool} {r cnt : Nat} (h : MapR w P k b r m left cnt) : w.rangeLeft b r = cnt := by
  obtain ⟨D, n, h, _⟩ := h
  exact h.left_eq
theorem MapR.kept {left : Lit → Bool} {r cnt : Nat} (h : MapR w P k b r m left cnt) {row : Option Nat} (hg : w.grownBy w1 row) (hb : some b ≠ row) (hr : some r ≠ row) : MapR w1 P k b r m left cnt := by
  obtain ⟨D, n, h, hm⟩ := h
  exact ⟨D, n, h.kept hg hb hr, hm⟩
theorem MapR.lt {left : Lit → Bool} {r cnt : Nat} (h : MapR w P k b r m left cnt) : b < w.heap.size ∧ r < w.heap.size := by
  obtain ⟨D, n, h, hm⟩ := h
  exact ⟨h.owns.lt, h.lt⟩
theorem MapR.below {left : Lit → Bool} {r cnt : Nat} (h : MapR w P k b r m left cnt) (hb : Below w.heap.size w w1) : MapR w1 P k b r m left cnt :=
  h.kept (grown_of_below hb none) (by simp) (by simp)
theorem mapRange {t e : TypeId} (hgd : o.guard = none) {mm : Operand} (ho : o.op = .range t mm) (K : Keyed P k) (ht : P.underlying t = some (.map k e)) (hM : MapV W P k b s m) (hm : a.eval mm = .map (some b))
    (h : ∀ w' left, (∀ kl, WideAt.IsKeyLit kl → left kl = (m kl).isSome) → MapR w' P k b W.heap.size m left s → W.grownBy w' none → w'.heap.size = W.heap.size + 1 → wpList P ops Q rest (a.put o.dst (.pointer (some ⟨W.heap.size, 0, none⟩))) w') : wpList P ops Q (o :: rest) a W := by
  obtain ⟨D, hD, hs, hmm⟩ := hM
  subst hs
  exact wpList_range_own W hgd mm t ho k e K ht hR b _ D hm hD fun w' h1 h2 h3 => h w' _ (fun kl hk => (hmm kl hk).1) ⟨D, _, h1, hmm⟩ h2 h3
theorem mapNext (hgd : o.guard = none) {it : Operand} (ho : o.op = .next it false) (K : Keyed P k) {r cnt : Nat} {left : Lit → Bool} (hM : MapR W P k b r m left cnt) (hit : a.eval it = .pointer (some ⟨r, 0, none⟩))
    (hDone : cnt = 0 → (∀ kl, left kl = false) → wpList P ops Q rest (a.put o.dst (.tuple #[.bool false])) W)
    (hMore : ∀ key v kl w' cnt', keyOf P k key = some kl → WideAt.IsKeyLit kl → left kl = true → m kl = some v → MapR w' P k b r m (fun z => left z && !z.sameKey kl) cnt' → cnt' < cnt → W.grownBy w' (some r) → w'.heap.size = W.heap.size →
      (Instr.entry (.pointer (some ⟨r, 0, none⟩))).run P w' = .ok (.tuple #[key, v]) w' → wpList P ops Q rest (a.put o.dst (.tuple #[.bool true, key, v])) w') : wpList P ops Q (o :: rest) a W := by
  obtain ⟨D, n, hD, hmm⟩ := hM
  refine wpList_next_ranges W hgd it ho k K hR id id (fun key kl _ => ⟨key, rfl⟩) (fun v y _ => ⟨v, rfl⟩) b r n D left cnt hit hD hDone ?_
  intro key v kl y w' cnt' hkey hl hv hat hD' hc hg hsz hen
  have hkl := K.key hkey
  have hy : y.1 = .held v := by
    have := Option.some.inj hv
    rw [← this]
    rfl
  have hmk : m kl = some v := by
    obtain ⟨h1, h2⟩ := hmm kl hkl
    cases e1 : m kl with
    | none =>
      rw [e1] at h1
      have h3 := hat .nil
      rw [Maps.atKey_of_not_has h1, hy] at h3
      cases h3
    | some u =>
      have h3 := h2 u e1 .nil
      rw [hat .nil, hy] at h3
      injection h3 with h3
      rw [h3]
  exact hMore key v kl w' cnt' hkey hkl hl hmk ⟨D, n, hD', hmm⟩ hc hg hsz hen
end
end Go.Proofs.YthfmlelodmcgkaaGreat.K
end
section
namespace Go.Proofs.YthfmlelodmcgkaaGreat.K
open Go.RowKit Go.Proofs.YthfmlelodmcgkaaGreatW.PrintWords Go.Proofs.YthfmlelodmcgkaaGreatW.PrintLast Go.Proofs.YthfmlelodmcgkaaGreatW.PrintMore
theorem wrap_id {x : Int} (h0 : -9223372036854775808 ≤ x) (h1 : x ≤ 9223372036854775807) : wrap64 x = x := by unfold wrap64; omega
end Go.Proofs.YthfmlelodmcgkaaGreat.K
end
section
namespace Go.Proofs.YthfmlelodmcgkaaGreat.K
open Go.RowKit Go.Proofs.YthfmlelodmcgkaaGreatW.PrintWords Go.Proofs.YthfmlelodmcgkaaGreatW.PrintLast Go.Proofs.YthfmlelodmcgkaaGreatW.PrintMore
def normFrom (met : List Int) : List Int → List Int
  | [] => []
  | x :: r => match met.idxOf? x with
    | some j => (j : Int) :: normFrom met r
    | none => (met.length : Int) :: normFrom (met ++ [x]) r
def normalL (l : List Int) : List Int := normFrom [] l
def metBy (met : List Int) : List Int → List Int
  | [] => met
  | x :: r => match met.idxOf? x with
    | some j => metBy met r
    | none => metBy (met ++ [x]) r
theorem normFrom_length (l : List Int) : ∀ met, (normFrom met l).length = l.length := by
  induction l with
  | nil => intro met; rfl
  | cons x r ih => intro met; rw [normFrom]; split <;> simp [ih]
theorem normalL_length (l : List Int) : (normalL l).length = l.length := normFrom_length _ _
theorem idxOf?_lt {met : List Int} {x : Int} {j : Nat} (h : met.idxOf? x = some j) : j < met.length := by
  rw [List.idxOf?, List.findIdx?_eq_some_iff_findIdx_eq] at h
  exact h.1
theorem idxOf?_snoc (met : List Int) (x y : Int) (h : met.idxOf? x = none) : (met ++ [x]).idxOf? y = if y = x then some met.length else met.idxOf? y := by
  have h2 : x ∉ met := by simpa [List.idxOf?_eq_none_iff] using h
  by_cases e : y = x
  · subst e
    rw [if_pos rfl]
    simp only [List.idxOf?, List.findIdx?_append]
    have : List.findIdx? (fun z => z == y) met = none := h
    simp [this]
  · rw [if_neg e]
    simp only [List.idxOf?, List.findIdx?_append]
    cases h3 : List.findIdx? (fun z => z == y) met with
    | some j => simp
    | none => simp [Ne.symm e]
theorem law_i64 : Go.Maps.Keyed Tryz.prog 2 := Go.Maps.int_keyed Tryz.underlying2
theorem zero_i64 (w : World) : (zeroValue 2).run Tryz.prog w = .ok (.int .i64 0) w := by kernel_rfl
theorem zero_int (w : World) : (zeroValue 3).run Tryz.prog w = .ok (.int .i64 0) w := by kernel_rfl
theorem key_i64 {x : Int} (h : (Lit.int .i64 x).wf = true) : keyOf Tryz.prog 2 (.int .i64 x) = some (.int .i64 x) := Go.Maps.keyOf_int_mk Tryz.underlying2 h
def in64 (x : Int) : Prop := -9223372036854775808 ≤ x ∧ x ≤ 9223372036854775807
def Ok64 (l : List Int) : Prop := ∀ x ∈ l, in64 x
theorem in64_wf {x : Int} (h : in64 x) : (Lit.int .i64 x).wf = true := WalkArith.wf_i64 h
theorem drop_at' (l : List Int) (k : Int) (h0 : 0 ≤ k) (h : k < l.length) : l.drop ((k + 1).toNat - 1) = rd l k :: l.drop (k + 1).toNat := by
  have := drop_at l k.toNat (by omega)
  rw [show ((k.toNat : Nat) : Int) = k by omega] at this
  rw [show (k + 1).toNat - 1 = k.toNat by omega, this, show (k + 1).toNat = k.toNat + 1 by omega]
def namesOf (met : List Int) : Lit → Option Value
  | .int .i64 x => (met.idxOf? x).map fun (j : Nat) => Value.int .i64 (j : Int)
  | _ => none
theorem namesOf_snoc (met : List Int) (x : Int) (h : met.idxOf? x = none) (kl : Lit) :
    namesOf (met ++ [x]) kl = if kl.sameKey (.int .i64 x) = true then some (.int .i64 (met.length : Int)) else namesOf met kl := by
  cases kl with
  | int q y =>
    cases q <;> simp [namesOf, Lit.sameKey]
    rw [idxOf?_snoc met x y h]
    split <;> simp
  | _ => simp [namesOf, Lit.sameKey]
set_option maxHeartbeats 1000000 in
set_option maxRecDepth 100000 in
theorem c_normal (A0 : Option Addr) (c0 : Nat) (l : List Int) (w : World) (hl : l.length < 1099511627776) (h64 : Ok64 l) (hr : CI w A0 l.length l) :
    Calls Tryz.prog 163 #[.slice A0 l.length c0] w fun e w' => ∃ v : Value, e = .returned v ∧ RI w' w.heap.size (fun _ => True) v (normalL l) ∧ Below w.heap.size w w' := by
  have HR := Aside0.mk hr
  have H64 := Aside0.mk h64
  clear hr h64
  go_enter Tryz.func163, Tryz.ntmps163
  go_wp2_with (first
    | ((with_reducible refine gate_dst (N := 9) rfl ?_); refine mapMake rfl rfl rfl Tryz.underlying159 ?_; intro w1 hM hg hb hsz; have HM := Aside0.mk hM; have HB := Aside0.mk hb; clear hM hb hg)
    | ((with_reducible refine gate_dst (N := 10) rfl ?_); refine lit0 (w0 := w) w.heap.size (ok := fun k => k ≠ w.heap.size) rfl rfl rfl (by show w1.heap.size ≠ w.heap.size; omega) HB.out HB.out.size ?_; intro v2 w2 hv hb2 hgr hnew; have HO := Aside0.mk hv; have HM2 := Aside0.mk (HM.out.kept hgr (by simp)); clear HM HB hv hgr hnew; have HM := HM2; have HB := Aside0.mk hb2; clear hb2 HM2))
  go_loopw [4, 13] (fun vo i wr => ∃ (k : Int) (vO : Value), 0 ≤ k ∧ k ≤ l.length ∧ vo = vO ∧ i = .int .i64 k ∧ Aside0 (∃ met os, os.length = k.toNat ∧ met.length ≤ k.toNat ∧ os ++ normFrom met (l.drop k.toNat) = normalL l ∧ MapV wr Tryz.prog 2 w.heap.size met.length (namesOf met) ∧ RI wr w.heap.size (fun k => k ≠ w.heap.size) vO os ∧ Below w.heap.size w wr)) (fun _ i _ => l.length - (intOf i).toNat)
  case atStart => exact ⟨0, v2, by omega, by omega, rfl, rfl, ⟨[], [], rfl, Nat.le_refl _, rfl, HM.out.congr (fun kl _ => by cases kl with | int q x => cases q <;> rfl | _ => rfl), HO.out, HB.out⟩⟩
  case round =>
    clear HM HO HB
    obtain ⟨k, vO, hk0, hk, rfl, rfl, ⟨met, os, hol, hml, hos, hM, hO, hB⟩⟩ := hrel
    have HM := Aside0.mk hM
    have HO := Aside0.mk hO
    have HB := Aside0.mk hB
    have HU := Aside0.mk (And.intro hol (And.intro hml hos))
    have hbs := hM.lt
    clear hM hO hB hol hml hos
    by_cases hlt : k < l.length
    · obtain ⟨ad, hA, hc⟩ := Kd.at_int (Kd.C_below HR.out HB.out) k (by omega) (by omega)
      subst hA
      obtain ⟨x, hx⟩ : ∃ x, x = rd l k := ⟨_, rfl⟩
      rw [← hx] at hc
      have HX := Aside0.mk hx
      have hxm : in64 x := by
        have := rd_mem l k.toNat (by omega)
        rw [show ((k.toNat : Nat) : Int) = k by omega, ← hx] at this
        exact H64.out x this
      have HK := Aside0.mk (key_i64 (in64_wf hxm))
      clear hx hxm
      cases hmx : met.idxOf? x with
      | some j =>
        have HE := Aside0.mk (show namesOf met (.int .i64 x) = some (.int .i64 (j : Int)) by simp [namesOf, hmx])
        have HMX := Aside0.mk hmx
        clear hmx
        go_wp2_with (first
          | ((with_reducible refine gate_dst (N := 20) rfl ?_); refine mapLookOk rfl rfl law_i64 Tryz.underlying159 (zero_i64 _) HM.out rfl (.int .i64 x) (.int .i64 x) rfl HK.out trivial ?_; simp only [HE.out, Option.getD_some, Option.isSome_some])
          | ((with_reducible refine gate_builtin (b := .append) (xs := #[.tmp 30, .tmp 32]) rfl ?_); refine appI (w0 := w) rfl rfl _ os (j : Int) rfl rfl (fun k hk => Nat.ne_of_gt (Nat.lt_of_lt_of_le hbs hk)) HO.out HB.out HB.out.size (by have := HU.out.1; omega) ?_; intro v3 w3 ho3 hb3 hg3 _; have HM3 := Aside0.mk (HM.out.kept hg3 (fun h => HO.out.1 _ h.symm rfl)); have HO3 := Aside0.mk ho3; have HB3 := Aside0.mk hb3; clear ho3 hb3 hg3))
        go_roundw
        case rel =>
          obtain ⟨hol, hml, hos⟩ := HU.out
          refine ⟨k + 1, v3, by omega, by omega, rfl, rfl, ⟨met, os ++ [(j : Int)], by simp; omega, by omega, ?_, HM3.out, HO3.out, HB3.out⟩⟩
          rw [← hos, show k.toNat = (k + 1).toNat - 1 by omega, drop_at' l k hk0 hlt, ← HX.out, normFrom, HMX.out]
          simp
        case measure => simp [intOf]; omega
      | none =>
        have HE := Aside0.mk (show namesOf met (.int .i64 x) = none by simp [namesOf, hmx])
        have HMX := Aside0.mk hmx
        clear hmx
        go_wp2_with (first
          | ((with_reducible refine gate_dst (N := 20) rfl ?_); refine mapLookOk rfl rfl law_i64 Tryz.underlying159 (zero_i64 _) HM.out rfl (.int .i64 x) (.int .i64 x) rfl HK.out trivial ?_; simp only [HE.out, Option.getD_none, Option.isSome_none])
          | ((with_reducible refine gate_dst (N := 26) rfl ?_); refine mapLen rfl rfl Tryz.underlying159 HM.out rfl ?_)
          | (at_mapUpdate; refine mapStore rfl rfl law_i64 Tryz.underlying159 HM.out (by have := HU.out.2.1; omega) rfl (.int .i64 x) (.int .i64 (met.length : Int)) (.int .i64 x) rfl rfl HK.out trivial ?_; intro w2 hM2 hg2; have HM2 := Aside0.mk ((show MapV w2 Tryz.prog 2 w.heap.size (met ++ [x]).length _ by rw [HE.out] at hM2; simpa using hM2).congr (fun kl _ => namesOf_snoc met x HMX.out kl)); have HO2 := Aside0.mk (Kd.R_grown HO.out hg2 (fun k hk h => hk (Option.some.inj h))); have HB2 := Aside0.mk (HB.out.grown hg2 HB.out.size (fun k hk => by cases hk; exact Nat.le_refl _)); have hbs2 := HM2.out.lt; clear HM HO HB hM2 hg2)
          | ((with_reducible refine gate_builtin (b := .append) (xs := #[.tmp 30, .tmp 32]) rfl ?_); refine appI (w0 := w) rfl rfl _ os (met.length : Int) rfl rfl (fun k hk => Nat.ne_of_gt (Nat.lt_of_lt_of_le hbs2 hk)) HO2.out HB2.out HB2.out.size (by have := HU.out.1; omega) ?_; intro v3 w3 ho3 hb3 hg3 _; have HM3 := Aside0.mk (HM2.out.kept hg3 (fun h => HO2.out.1 _ h.symm rfl)); have HO3 := Aside0.mk ho3; have HB3 := Aside0.mk hb3; clear ho3 hb3 hg3))
        go_roundw
        case rel =>
          obtain ⟨hol, hml, hos⟩ := HU.out
          refine ⟨k + 1, v3, by omega, by omega, rfl, rfl, ⟨met ++ [x], os ++ [(met.length : Int)], by simp; omega, by simp; omega, ?_, HM3.out, HO3.out, HB3.out⟩⟩
          rw [← hos, show k.toNat = (k + 1).toNat - 1 by omega, drop_at' l k hk0 hlt, ← HX.out, normFrom, HMX.out]
          simp
        case measure => simp [intOf]; omega
    · obtain rfl : k = l.length := by omega
      go_wp2
      go_ret
      obtain ⟨hol, hml, hos⟩ := HU.out
      rw [List.drop_of_length_le (by omega), normFrom, List.append_nil] at hos
      rw [← hos]
      exact ⟨_, rfl, Kd.R_mono HO.out (fun _ _ => trivial), HB.out⟩
end Go.Proofs.YthfmlelodmcgkaaGreat.K
namespace Go.Proofs.YthfmlelodmcgkaaGreat.K
open Go.RowKit Go.Proofs.YthfmlelodmcgkaaGreatW.PrintWords Go.Proofs.YthfmlelodmcgkaaGreatW.PrintLast Go.Proofs.YthfmlelodmcgkaaGreatW.PrintMore
def twiceL (l : List Int) : Bool := l.all fun x => l.count x == 2
def cntsOf (t : List Int) : Lit → Option Value
  | .int .i64 x => if t.count x = 0 then none else some (.int .i64 (t.count x : Int))
  | _ => none
theorem cntsOf_get (t : List Int) (x : Int) : (cntsOf t (.int .i64 x)).getD (.int .i64 0) = .int .i64 (t.count x : Int) := by
  simp only [cntsOf]
  split <;> rename_i h
  · rw [h]; rfl
  · rfl
theorem cntsOf_snoc (t : List Int) (x : Int) (kl : Lit) :
    cntsOf (t ++ [x]) kl = if kl.sameKey (.int .i64 x) = true then some (.int .i64 ((t.count x : Int) + 1)) else cntsOf t kl := by
  cases kl with
  | int q y =>
    cases q <;> simp [cntsOf, Lit.sameKey]
    by_cases e : y = x
    · subst e; simp
    · have h2 : List.count y [x] = 0 := List.count_eq_zero.mpr (by simpa using e)
      simp [h2, e]
  | _ => simp [cntsOf, Lit.sameKey]
theorem cntsOf_true (l : List Int) (h : ∀ kl v, cntsOf l kl = some v → v = .int .i64 2) : twiceL l = true := by
  refine List.all_eq_true.mpr fun x hx => ?_
  have := h (.int .i64 x) (.int .i64 (l.count x : Int)) (by simp [cntsOf, List.count_eq_zero]; exact hx)
  injection this with _ h2
  simpa using (by omega : l.count x = 2)
theorem cntsOf_false (l : List Int) (kl : Lit) (v : Value) (h : cntsOf l kl = some v) (hv : v ≠ .int .i64 2) : twiceL l = false := by
  cases kl with
  | int q y =>
    cases q <;> simp [cntsOf] at h
    obtain ⟨h1, rfl⟩ := h
    refine Bool.eq_false_iff.mpr fun h2 => hv ?_
    have h3 := List.all_eq_true.mp h2 y (List.count_pos_iff.mp (Nat.pos_of_ne_zero h1))
    have h4 : l.count y = 2 := by simpa using h3
    rw [h4]; rfl
  | _ => simp [cntsOf] at h
theorem take_snoc' (l : List Int) (k : Int) (h0 : 0 ≤ k) (h : k < l.length) : l.take (k + 1).toNat = l.take k.toNat ++ [rd l k] := by
  have := drop_at l k.toNat (by omega)
  rw [show ((k.toNat : Nat) : Int) = k by omega] at this
  rw [show (k + 1).toNat = k.toNat + 1 by omega, List.take_add_one]
  have h2 : l[k.toNat]? = some (rd l k) := by
    have := congrArg List.head? this
    simpa [List.head?_drop] using this
  rw [h2]
  rfl
set_option maxHeartbeats 1000000 in
set_option maxRecDepth 100000 in
theorem c_twice (A0 : Option Addr) (c0 : Nat) (l : List Int) (w : World) (hl : l.length < 1099511627776) (h64 : Ok64 l) (hr : CI w A0 l.length l) :
    Calls Tryz.prog 182 #[.slice A0 l.length c0] w fun e w' => e = .returned (.bool (twiceL l)) ∧ Below w.heap.size w w' := by
  have HR := Aside0.mk hr
  have H64 := Aside0.mk h64
  clear hr h64
  go_enter Tryz.func182, Tryz.ntmps182
  go_wp2_with (first
    | ((with_reducible refine gate_dst (N := 8) rfl ?_); refine mapMake rfl rfl rfl Tryz.underlying175 ?_; intro w1 hM hg hb hsz; have HM := Aside0.mk hM; have HB := Aside0.mk hb; clear hM hb hg))
  go_loopw [11] (fun i wr => ∃ (k : Int), 0 ≤ k ∧ k ≤ l.length ∧ i = .int .i64 k ∧ Aside0 (∃ s, s ≤ k.toNat ∧ MapV wr Tryz.prog 2 w.heap.size s (cntsOf (l.take k.toNat)) ∧ Below w.heap.size w wr)) (fun i _ => l.length - (intOf i).toNat)
  case atStart => exact ⟨0, by omega, by omega, rfl, ⟨0, Nat.zero_le _, HM.out.congr (fun kl _ => by cases kl with | int q x => cases q <;> simp [cntsOf] | _ => rfl), HB.out⟩⟩
  case round =>
    clear HM HB
    obtain ⟨k, hk0, hk, rfl, ⟨s, hs, hM, hB⟩⟩ := hrel
    have HM := Aside0.mk hM
    have HB := Aside0.mk hB
    have HS := Aside0.mk hs
    have hbs := hM.lt
    clear hM hB hs
    by_cases hlt : k < l.length
    · obtain ⟨ad, hA, hc⟩ := Kd.at_int (Kd.C_below HR.out HB.out) k (by omega) (by omega)
      subst hA
      have HT := Aside0.mk (take_snoc' l k hk0 hlt)
      obtain ⟨x, hx⟩ : ∃ x, x = rd l k := ⟨_, rfl⟩
      rw [← hx] at hc HT
      have hxm : in64 x := by
        have := rd_mem l k.toNat (by omega)
        rw [show ((k.toNat : Nat) : Int) = k by omega, ← hx] at this
        exact H64.out x this
      have HK := Aside0.mk (key_i64 (in64_wf hxm))
      clear hx hxm
      have HG := Aside0.mk (cntsOf_get (l.take k.toNat) x)
      have hcn : (l.take k.toNat).count x < 1099511627776 := Nat.lt_of_le_of_lt List.count_le_length (by rw [List.length_take]; omega)
      obtain ⟨c, hcE⟩ : ∃ c : Int, c = ((l.take k.toNat).count x : Int) := ⟨_, rfl⟩
      have hc0 : 0 ≤ c ∧ c < 1099511627776 := by omega
      rw [← hcE] at HG
      have HC := Aside0.mk hcE
      clear hcn hcE
      have HW := Aside0.mk (wrap_id (x := c + 1) (by omega) (by omega))
      go_wp2_with (first
        | ((with_reducible refine gate_dst (N := 17) rfl ?_); refine mapLook rfl rfl law_i64 Tryz.underlying175 (zero_int _) HM.out rfl (.int .i64 x) (.int .i64 x) rfl HK.out trivial ?_; rw [HG.out])
        | (at_mapUpdate; refine mapStore rfl rfl law_i64 Tryz.underlying175 HM.out (by have := HS.out; omega) rfl (.int .i64 x) (.int .i64 (c + 1)) (.int .i64 x) rfl rfl HK.out trivial ?_; intro w2 hM2 hg2; have HM2 := Aside0.mk (hM2.congr (m' := cntsOf (l.take k.toNat ++ [x])) (fun kl _ => by rw [cntsOf_snoc, HC.out])); have HB2 := Aside0.mk (HB.out.grown hg2 HB.out.size (fun k hk => by cases hk; exact Nat.le_refl _)); clear HM HB hM2 hg2))
      go_roundw
      case rel =>
        refine ⟨k + 1, by omega, by omega, rfl, ⟨_, ?_, by rw [HT.out]; exact HM2.out, HB2.out⟩⟩
        have := HS.out
        split <;> omega
      case measure => simp [intOf]; omega
    · obtain rfl : k = l.length := by omega
      rw [show ((l.length : Int)).toNat = l.length by omega, List.take_length] at HM
      have hbs2 : wr.heap.size ≠ w.heap.size := by omega
      go_wp2_with (first
        | ((with_reducible refine gate_dst (N := 21) rfl ?_); refine mapRange rfl rfl law_i64 Tryz.underlying175 HM.out rfl ?_; intro w2 left hleft hR hg2 hs2; have HR2 := Aside0.mk hR; have HL := Aside0.mk hleft; have HB2 := Aside0.mk (HB.out.grown hg2 HB.out.size (by simp)); clear HM HB hR hg2 hleft))
      go_loopw [22] (fun _ w' => Aside0 (∃ left cnt, MapR w' Tryz.prog 2 w.heap.size wr.heap.size (cntsOf l) left cnt ∧ (∀ kl v, left kl = false → cntsOf l kl = some v → v = .int .i64 2) ∧ Below w.heap.size w w')) (fun _ w' => w'.rangeLeft w.heap.size wr.heap.size)
      case atStart =>
        refine ⟨⟨left, s, HR2.out, ?_, HB2.out⟩⟩
        intro kl v h1 h2
        have : left kl = true := by
          rw [HL.out kl (by cases kl <;> first | trivial | (simp [cntsOf] at h2)), h2]; rfl
        rw [this] at h1
        cases h1
      case round =>
        clear HR2 HB2 HL
        obtain ⟨left, cnt, hR, hL, hB⟩ := hrel
        have HR2 := Aside0.mk hR
        have HL := Aside0.mk hL
        have HB2 := Aside0.mk hB
        have hbs3 := hR.lt
        clear hR hL hB
        go_wp2_with (first
          | ((with_reducible refine gate_dst (N := 22) rfl ?_); refine mapNext rfl rfl law_i64 HR2.out rfl ?_ ?_))
        · intro hc0 hl0
          have HL0 := Aside0.mk hl0
          clear hl0
          go_wp2
          go_ret
          refine ⟨?_, HB2.out⟩
          rw [cntsOf_true l (fun kl v h => HL.out kl v (HL0.out kl) h)]
          rfl
        · intro key v kl w' cnt' hkey hkl hlk hmk hR' hlt' hg' hsz' hen
          obtain ⟨c, rfl⟩ : ∃ c, v = .int .i64 c := by
            cases kl with
            | int q y => cases q <;> simp [cntsOf] at hmk; exact ⟨_, hmk.2.symm⟩
            | _ => simp [cntsOf] at hmk
          have HMK := Aside0.mk hmk
          have HR3 := Aside0.mk hR'
          have HB3 := Aside0.mk (HB2.out.grown hg' HB2.out.size (fun k hk => by cases hk; omega))
          have hlq := HR2.out.left_eq
          have HKL := Aside0.mk hkl
          have HLK := Aside0.mk hlk
          clear hkey hkl hlk hmk hR' hg' HB2
          by_cases hc2 : c = 2
          · subst hc2
            go_wp2
            go_roundw
            case rel =>
              refine ⟨⟨_, cnt', HR3.out, ?_, HB3.out⟩⟩
              intro kl' v' h1 h2
              simp only [Bool.and_eq_false_iff, Bool.not_eq_false'] at h1
              rcases h1 with h1 | h1
              · exact HL.out kl' v' h1 h2
              · obtain rfl := WideAt.sameKey_eq h1
                exact (Option.some.inj (h2.symm.trans HMK.out))
            case measure =>
              rw [HR3.out.left_eq, hlq]; exact hlt'
          · have hd := beq_eq_false_iff_ne.mpr hc2
            have hd2 := bne_iff_ne.mpr hc2
            go_wp2
            go_ret
            refine ⟨?_, HB3.out⟩
            rw [cntsOf_false l kl _ HMK.out (by intro h; injection h with _ h; exact hc2 h)]
            rfl
end Go.Proofs.YthfmlelodmcgkaaGreat.K
namespace Go.Proofs.YthfmlelodmcgkaaGreat.K
open Go.RowKit Go.Proofs.YthfmlelodmcgkaaGreatW.PrintWords Go.Proofs.YthfmlelodmcgkaaGreatW.PrintLast Go.Proofs.YthfmlelodmcgkaaGreatW.PrintMore
instance (x : Int) : Decidable (in64 x) := by unfold in64; infer_instance
instance (l : List Int) : Decidable (Ok64 l) := by unfold Ok64; infer_instance
def impl_twice.f (l0 : List Int) : Option Bool := if l0.length < 1099511627776 ∧ Ok64 l0 then some (twiceL l0) else none
theorem impl_twice.calls (A0 : Option Addr) (c0 : Nat) (l0 : List Int) (r : Bool) (w : World) (hr0 : Kd.C (Kd.int .i64) w A0 l0.length l0) (hc0 : l0.length ≤ c0) (h : impl_twice.f l0 = some r) :
    Calls Tryz.prog 182 #[.slice A0 l0.length c0] w fun e w' => e = .returned (.bool r) ∧ Below w.heap.size w w' := by
  unfold impl_twice.f at h
  split at h
  · rename_i hh
    obtain rfl := Option.some.inj h
    exact c_twice A0 c0 l0 w hh.1 hh.2 hr0
  · cases h
def impl_normal.f (l0 : List Int) : Option (List Int) := if l0.length < 1099511627776 ∧ Ok64 l0 then some (normalL l0) else none
theorem impl_normal.calls (A0 : Option Addr) (c0 : Nat) (l0 : List Int) (r : List Int) (w : World) (hr0 : Kd.C (Kd.int .i64) w A0 l0.length l0) (hc0 : l0.length ≤ c0) (h : impl_normal.f l0 = some r) :
    Calls Tryz.prog 163 #[.slice A0 l0.length c0] w fun e w' => ∃ v0_ : Value, e = .returned (v0_) ∧ Kd.R (Kd.int .i64) 2 w' w.heap.size (fun _ => True) v0_ r ∧ Below w.heap.size w w' := by
  unfold impl_normal.f at h
  split at h
  · rename_i hh
    obtain rfl := Option.some.inj h
    exact c_normal A0 c0 l0 w hh.1 hh.2 hr0
  · cases h
theorem metBy_append (l t : List Int) : ∀ met, metBy met (l ++ t) = metBy (metBy met l) t := by
  induction l with
  | nil => intro met; rfl
  | cons x r ih =>
    intro met
    rw [List.cons_append, metBy, metBy]
    split <;> exact ih _
end Go.Proofs.YthfmlelodmcgkaaGreat.K
end
section
namespace Go.Proofs.YthfmlelodmcgkaaGreat.K
open Go.RowKit Go.Proofs.YthfmlelodmcgkaaGreatW.PrintWords Go.Proofs.YthfmlelodmcgkaaGreatW.PrintLast Go.Proofs.YthfmlelodmcgkaaGreatW.PrintMore
def slices_Clone_int64_int64.f (l0 : List Int) : Option (List Int) := if l0.length < 17592186044416 then some l0 else none
set_option maxHeartbeats 1000000 in
set_option maxRecDepth 100000 in
theorem slices_Clone_int64_int64.calls (A0 : Option Addr) (c0 : Nat) (l0 : List Int) (r : List Int) (w : World) (hr0 : Kd.C (Kd.int .i64) w A0 l0.length l0) (hc0 : l0.length ≤ c0) (h : slices_Clone_int64_int64.f l0 = some r) :
    Calls Tryz.prog 142 #[.slice A0 l0.length c0] w fun e w' => ∃ v0_ : Value, e = .returned (v0_) ∧ Kd.R (Kd.int .i64) 2 w' w.heap.size (fun _ => True) v0_ r ∧ Below w.heap.size w w' := by
  unfold slices_Clone_int64_int64.f at h
  split at h
  case isFalse => cases h
  rename_i hl
  obtain rfl := Option.some.inj h
  have HR := Aside0.mk hr0
  clear hr0 h
  have q22 : ∀ (w : World) (a : Option Addr) (n c n' c' : Nat), (binOp .eql 26 (.slice a n c) (.slice none n' c')).run Tryz.prog w = .ok (.bool a.isNone) w := fun w a n c n' c' => Go.Lib.run_eql_slice_nil w _ _ a n c n' c' Tryz.underlying26
  cases A0 with
  | none =>
    have h0 : l0 = [] := by
      rcases Nat.eq_zero_or_pos l0.length with h0 | h0
      · exact List.eq_nil_of_length_eq_zero h0
      · obtain ⟨ad, h, _⟩ := HR.out.2.2 h0
        cases h
    subst h0
    go_enter Tryz.func142, Tryz.ntmps142
    go_wp2
    go_ret
    exact ⟨_, rfl, Kd.R_nil _ _ _ _ _, Below.refl _ _⟩
  | some ad =>
    go_enter Tryz.func142, Tryz.ntmps142
    go_wp2_with (first
      | ((with_reducible refine gate_dst (N := 5) rfl ?_); refine lit0 (w0 := w) w.heap.size (ok := fun _ => True) rfl rfl rfl trivial (Below.refl _ _) (Nat.le_refl _) ?_; intro v2 w2 hv hb2 hgr hnew; have HO := Aside0.mk hv; have HB := Aside0.mk hb2; clear hv hb2 hgr hnew)
      | ((with_reducible refine gate_builtin (b := .append) (xs := #[.tmp 5, .tmp 6]) rfl ?_); at_builtin; refine Kd.R_append_rows (Kd.int .i64) (w0 := w) w.heap.size rfl (.tmp 5) (.tmp 6) 26 2 (.int .i64 0) 8 rfl Tryz.underlying26 info2 rfl (by decide) (by omega) v2 [] l0 _ _ _ (fun _ => True) (fun _ => False) rfl rfl HO.out (Kd.C_below HR.out HB.out) (fun _ _ h => h) (fun _ h => h.elim) (fun _ _ => trivial) HB.out HB.out.size (by simp; omega) ?_; intro v3 w3 ho hb hg hat; have HO3 := Aside0.mk ho; have HB3 := Aside0.mk hb; clear ho hb hg hat HB HO))
    go_ret
    exact ⟨_, rfl, HO3.out, HB3.out⟩
end Go.Proofs.YthfmlelodmcgkaaGreat.K
end
section
namespace Go.Proofs.YthfmlelodmcgkaaGreat.V
open Go
open Go.RowKit Go.Proofs.YthfmlelodmcgkaaGreatW.PrintWords Go.Proofs.YthfmlelodmcgkaaGreatW.PrintLast Go.Proofs.YthfmlelodmcgkaaGreatW.PrintMore
section
variable {P : Program}
abbrev E00 (w : World) (F : Nat → Prop) : Env := ⟨w, F, fun _ => undef, fun _ => False, fun _ _ => False, fun _ _ => undef⟩
abbrev X00 (w : World) (F : Nat → Prop) : Ctx := ⟨w, F, fun _ => False, fun _ => False, fun _ => undef, fun _ _ => undef⟩
theorem good0 {f : FuncId} {sp : List Cv → List Obj' → Tree} (hsp : ∀ cs o os, sp cs (o :: os) = .fail)
    (h : ∀ (w : World) (F : Nat → Prop) (cs : List Cv) (vs : List Value) (K : Rv → List Obj' → Prop), (∀ b, F b → b < w.heap.size) → All2 (CV P (E00 w F)) cs vs → okCs cs → (sp cs []).run K →
      Calls P f vs.toArray w fun e w' => ∃ r u os E, e = .returned u ∧ K r os ∧ E.w = w' ∧ Inv P (X00 w F) (numb 0 os) E ∧ RV P E r u) : Good P f sp := by
  intro E0 cs os0 vs K hF hD h16 hO hdis hnof ha hK
  cases os0 with
  | cons o os => rw [hsp] at hK; exact hK.elim
  | nil =>
    have hD0 : ∀ i, ¬ E0.D i := fun i hi => by have := (hD i).1 hi; simp at this
    have hle : E0.le (E00 E0.w E0.F) := ⟨fun _ h => h, fun _ _ => rfl, fun i hi => absurd hi (hD0 i), fun i hi => absurd hi (hD0 i), fun i hi => absurd hi (hD0 i)⟩
    refine (h E0.w E0.F cs vs K hF (ha.imp (fun _ _ h => CV.mono hle h)) (okCs_of ha) hK).mono ?_
    rintro e w' ⟨r, u, os, E, rfl, h1, rfl, hI, h2⟩
    exact ⟨r, u, os, E, rfl, h1, Nat.zero_le _, rfl, ⟨hI.dom, hI.obj, hI.dis, fun i o hi hl b hb => ⟨(hI.nof i o hi hl b hb).1, (hI.nof i o hi hl b hb).2.imp id False.elim⟩, hI.flt, fun b hb => (hI.fsub b hb).imp id (fun h => h.imp id False.elim), hI.fsup, hI.os, hI.tape, hI.output, hI.size,
      fun b hb _ => hI.frm b hb id, fun i hi => absurd hi (hD0 i), fun i hi => absurd hi (hD0 i)⟩, h2⟩
theorem Inv.start (w : World) (F : Nat → Prop) (hF : ∀ b, F b → b < w.heap.size) : Inv P (X00 w F) [] (E00 w F) :=
  ⟨fun i => by simp [lk], (fun i o h => by cases h), (fun i j o o' _ h => by cases h), (fun i o h => by cases h), hF, fun b hb => .inl hb, fun b hb => hb, rfl, rfl, rfl, Nat.le_refl _, fun _ _ _ => rfl, (fun i h => h.elim), (fun i h => h.elim)⟩
theorem read_of {F : Nat → Prop} {w : World} {l : List Int} {u : Value} (h : RO F w (Rep F w (.int .i64)) 1 l u) : ∃ ad c, u = .slice ad l.length c ∧ l.length ≤ c ∧ K.CI w ad l.length l := by
  obtain ⟨ad, c, h1, h2, h3, h4⟩ := h
  refine ⟨ad, c, h1, h2, rfl, h3, fun hp => ?_⟩
  obtain ⟨b, o, cs, rfl, _⟩ := h4 0 hp
  refine ⟨_, rfl, fun j p hj => ?_⟩
  obtain ⟨hjl, rfl⟩ := List.getElem?_eq_some_iff.1 hj
  obtain ⟨b', o', cs, e, _, h7, h8, h9⟩ := h4 j hjl
  obtain ⟨rfl, rfl⟩ : b = b' ∧ o = o' := by simpa using e
  refine ⟨cs, h8, h7.1, fun i u hu => ?_⟩
  obtain ⟨hi, rfl⟩ := List.getElem?_eq_some_iff.1 hu
  rw [← h9 i hi, Addr.add_lit]
  rfl
theorem row_of {w : World} {base : Nat} {ok : Nat → Prop} {v : Value} {l : List Int} (h : K.RI w base ok v l) (hr : ∀ x ∈ l, okI .i64 x) (F : Nat → Prop) :
    ∃ xs, w.ownsRow 0 2 1 v l.length xs ∧ Reps F w (.int .i64) l xs ∧ l.length ≤ maxLen ∧ (∀ b, blkOf v = some b → base ≤ b ∧ v.ownBlock = some b) ∧ v.oneCell' = true := by
  obtain ⟨h0, xs, ho, h1⟩ := h
  have hk : ∀ b, blkOf v = some b → v.ownBlock = some b := fun b hb => by
    rcases ho.2 with ⟨rfl, _⟩ | ⟨g, cap, cur, rfl, _⟩
    · simp [blkOf] at hb
    · simpa [blkOf, Value.ownBlock] using hb
  refine ⟨xs, own_weaken ho (Nat.zero_le _), ?_, ?_, fun b hb => ⟨own_base ho b (hk b hb), hk b hb⟩, ?_⟩
  · refine Reps.of_get h1.1 (fun j hj => ?_)
    have := h1.2 j _ (List.getElem?_eq_getElem hj)
    exact ⟨this, hr _ (List.getElem_mem hj)⟩
  · rcases ho.2 with ⟨_, h2⟩ | ⟨g, cap, cur, _, _, _, h2, h3, _⟩
    · rw [h2]; exact Nat.zero_le _
    · exact Nat.le_trans h2 h3
  · rcases ho.2 with ⟨rfl, _⟩ | ⟨g, cap, cur, rfl, _⟩ <;> rfl
theorem grow_below {w w' : World} {F : Nat → Prop} (hF : ∀ b, F b → b < w.heap.size) (hb : Below w.heap.size w w') : Inv P (X00 w F) [] (E00 w' F) :=
  ((Inv.start (P := P) w F hF).world (w' := w') (row := none) ⟨hb.os, hb.tape, hb.output, hb.size, fun k hk _ => hb.block k hk⟩ (fun b h => by cases h)).1
theorem lay_row {w w' : World} {F : Nat → Prop} (hF : ∀ b, F b → b < w.heap.size) {os : List (Nat × Obj')} {E : Env} (hI : Inv P (X00 w F) os E) (hw : E.w = w') (hEF : ∀ b, E.F b → F b) (i : Nat) (hi : lk os i = none) {v : Value} {l : List Int} (hR : K.RI w' w.heap.size (fun _ => True) v l) (hr : ∀ x ∈ l, okI .i64 x)
    (hsep : ∀ b, v.ownBlock = some b → ∀ j o, lk os j = some o → o.live = true → ¬ E.φ j b) :
    ∃ E', E'.w = w' ∧ E.le E' ∧ Inv P (X00 w F) ((i, .row 2 (.int .i64) l) :: os) E' ∧ E'.D i ∧ E'.σ i = v ∧ (∀ b, E'.F b → F b) ∧ (∀ b, E'.φ i b → v.ownBlock = some b) ∧ ∀ j, j ≠ i → ∀ b, E'.φ j b → E.φ j b := by
  obtain ⟨xs, h1, h2, h3, h4, h5⟩ := row_of hR hr F
  obtain ⟨E', k1, k2, k3, k4, k5, k6, k7, k8⟩ := hI.lay i hi (fun h => h) v (fun b => blkOf v = some b) (fun _ => undef) (.row 2 (.int .i64) l) (fun b hb => by
    have := (h4 b hb).1
    exact ⟨fun h => by have := hF b (hEF b h); omega, .inl this, hsep b (h4 b hb).2⟩) (fun E' hle hw' => ⟨xs, by rw [hw', hw]; exact h1, h2.imp (fun _ _ h => Rep.flat rfl h), h3, fun _ => Iff.rfl⟩)
  exact ⟨E', k1.trans hw, k2, k3, k4, k5, fun b hb => hEF b ((k6 b).1 hb), fun b hb => (h4 b ((k7 b).1 hb)).2, fun j hj b hb => (k8 j hj b).1 hb⟩
end
end Go.Proofs.YthfmlelodmcgkaaGreat.V
namespace Go.Proofs.YthfmlelodmcgkaaGreat.V
open Go
open Go.RowKit Go.Proofs.YthfmlelodmcgkaaGreatW.PrintWords Go.Proofs.YthfmlelodmcgkaaGreatW.PrintLast Go.Proofs.YthfmlelodmcgkaaGreatW.PrintMore
def sp_twice : List Cv → List Obj' → Tree
  | [.one (.ro (.int .i64) l)], [] => .need (l.length < 1099511627776) (.ret (vb (K.twiceL l)) [])
  | _, _ => .fail
def sp_normal : List Cv → List Obj' → Tree
  | [.one (.ro (.int .i64) l)], [] => .need (l.length < 1099511627776) (.ret (ow 0) [rwi (K.normalL l)])
  | _, _ => .fail
def sp_clone : List Cv → List Obj' → Tree
  | [.one (.ro (.int .i64) l)], [] => .need (l.length < 1099511627776) (.ret (ow 0) [rwi l])
  | _, _ => .fail
theorem one_arg {P : Program} {E : Env} {c : Cv} {vs : List Value} (h : All2 (CV P E) [c] vs) : ∃ u, vs = [u] ∧ CV P E c u := by
  rcases vs with _ | ⟨u, _ | ⟨_, _⟩⟩
  · exact h.elim
  · exact ⟨u, rfl, h.1⟩
  · exact h.2.elim
theorem normFrom_ok (l : List Int) : ∀ met, ∀ x ∈ K.normFrom met l, 0 ≤ x ∧ x ≤ met.length + l.length := by
  induction l with
  | nil => intro met x h; cases h
  | cons y r ih =>
    intro met x h
    rw [K.normFrom] at h
    split at h
    · rename_i j hj
      have := K.idxOf?_lt hj
      rcases List.mem_cons.1 h with rfl | h
      · simp; omega
      · have := ih _ _ h; simp; omega
    · rcases List.mem_cons.1 h with rfl | h
      · simp; omega
      · have := ih _ _ h; simp at this ⊢; omega
theorem two_args {P : Program} {E : Env} {c1 c2 : Cv} {vs : List Value} (h : All2 (CV P E) [c1, c2] vs) : ∃ u1 u2, vs = [u1, u2] ∧ CV P E c1 u1 ∧ CV P E c2 u2 := by
  rcases vs with _ | ⟨u1, _ | ⟨u2, _ | ⟨_, _⟩⟩⟩
  · exact h.elim
  · exact h.2.elim
  · exact ⟨u1, u2, rfl, h.1, h.2.1⟩
  · exact h.2.2.elim
theorem good_twice : Good Tryz.prog 182 sp_twice := by
  refine good0 (fun cs o os => by unfold sp_twice; split <;> first | rfl | (rename_i h; cases h)) (fun w F cs vs Kc hF ha hok hK => ?_)
  unfold sp_twice at hK
  split at hK
  case h_2 => exact hK.elim
  rename_i l _
  obtain ⟨u, rfl, hu⟩ := one_arg ha
  obtain ⟨ad, c, rfl, hc, hr⟩ := read_of hu.1
  obtain ⟨hl, hK⟩ := hK
  simp only [okCs, okA, okK] at hok
  refine (K.c_twice ad c l w hl hok.1.2 hr).mono ?_
  rintro e w' ⟨rfl, hb⟩
  exact ⟨_, _, [], _, rfl, hK, rfl, grow_below hF hb, rv_v (x := .bool _) trivial rfl⟩
def c_twice : Ctr Tryz.prog := ⟨182, ent Tryz.func182 rfl rfl, [], sp_twice, good_twice, []⟩
@[go_sem] theorem c_twice_f : c_twice.f = 182 := rfl
@[go_sem] theorem c_twice_ms : c_twice.ms = [] := rfl
@[go_sem] theorem c_twice_sp : c_twice.spec = sp_twice := rfl
@[go_sem] theorem c_twice_fz : c_twice.fz = [] := rfl
attribute [go_sem] sp_twice
theorem good_normal : Good Tryz.prog 163 sp_normal := by
  refine good0 (fun cs o os => by unfold sp_normal; split <;> first | rfl | (rename_i h; cases h)) (fun w F cs vs Kc hF ha hok hK => ?_)
  unfold sp_normal at hK
  split at hK
  case h_2 => exact hK.elim
  rename_i l _
  obtain ⟨u, rfl, hu⟩ := one_arg ha
  obtain ⟨ad, c, rfl, hc, hr⟩ := read_of hu.1
  obtain ⟨hl, hK⟩ := hK
  simp only [okCs, okA, okK] at hok
  refine (K.c_normal ad c l w hl hok.1.2 hr).mono ?_
  rintro e w' ⟨v, rfl, hR, hb⟩
  obtain ⟨E', h1, h2, h3, h4, h5, _⟩ := lay_row hF (grow_below (P := Tryz.prog) hF hb) rfl (fun b h => h) 0 rfl hR (fun x hx => by have := normFrom_ok l [] x hx; simp at this; simp only [okI]; omega) (fun b _ j o hj => by cases hj)
  obtain ⟨_, _, _, _, _, hv⟩ := row_of hR (fun x hx => by have := normFrom_ok l [] x hx; simp at this; simp only [okI]; omega) F
  exact ⟨_, _, _, E', rfl, hK, h1, h3, ⟨⟨h4, h5.symm⟩, hv⟩⟩
def c_normal : Ctr Tryz.prog := ⟨163, ent Tryz.func163 rfl rfl, [], sp_normal, good_normal, []⟩
@[go_sem] theorem c_normal_f : c_normal.f = 163 := rfl
@[go_sem] theorem c_normal_ms : c_normal.ms = [] := rfl
@[go_sem] theorem c_normal_sp : c_normal.spec = sp_normal := rfl
@[go_sem] theorem c_normal_fz : c_normal.fz = [] := rfl
attribute [go_sem] sp_normal
theorem good_clone : Good Tryz.prog 142 sp_clone := by
  refine good0 (fun cs o os => by unfold sp_clone; split <;> first | rfl | (rename_i h; cases h)) (fun w F cs vs Kc hF ha hok hK => ?_)
  unfold sp_clone at hK
  split at hK
  case h_2 => exact hK.elim
  rename_i l _
  obtain ⟨u, rfl, hu⟩ := one_arg ha
  obtain ⟨ad, c, rfl, hc, hr⟩ := read_of hu.1
  obtain ⟨hl, hK⟩ := hK
  simp only [okCs, okA, okK] at hok
  refine (K.slices_Clone_int64_int64.calls ad c l l w hr hc (by unfold K.slices_Clone_int64_int64.f; rw [if_pos (by omega)])).mono ?_
  rintro e w' ⟨v, rfl, hR, hb⟩
  obtain ⟨E', h1, h2, h3, h4, h5, _⟩ := lay_row hF (grow_below (P := Tryz.prog) hF hb) rfl (fun b h => h) 0 rfl hR hok.1.2 (fun b _ j o hj => by cases hj)
  obtain ⟨_, _, _, _, _, hv⟩ := row_of hR hok.1.2 F
  exact ⟨_, _, _, E', rfl, hK, h1, h3, ⟨⟨h4, h5.symm⟩, hv⟩⟩
def c_clone : Ctr Tryz.prog := ⟨142, ent Tryz.func142 rfl rfl, [], sp_clone, good_clone, []⟩
@[go_sem] theorem c_clone_f : c_clone.f = 142 := rfl
@[go_sem] theorem c_clone_ms : c_clone.ms = [] := rfl
@[go_sem] theorem c_clone_sp : c_clone.spec = sp_clone := rfl
@[go_sem] theorem c_clone_fz : c_clone.fz = [] := rfl
attribute [go_sem] sp_clone
theorem three_args {P : Program} {E : Env} {c1 c2 c3 : Cv} {vs : List Value} (h : All2 (CV P E) [c1, c2, c3] vs) : ∃ u1 u2 u3, vs = [u1, u2, u3] ∧ CV P E c1 u1 ∧ CV P E c2 u2 ∧ CV P E c3 u3 := by
  rcases vs with _ | ⟨u1, _ | ⟨u2, _ | ⟨u3, _ | ⟨_, _⟩⟩⟩⟩
  · exact h.elim
  · exact h.2.elim
  · exact h.2.2.elim
  · exact ⟨u1, u2, u3, rfl, h.1, h.2.1, h.2.2.1⟩
  · exact h.2.2.2.elim
theorem Inv.enter {P : Program} {E0 : Env} {os0 : List Obj'} (hF : ∀ b, E0.F b → b < E0.w.heap.size) (hD : ∀ j, E0.D j ↔ j < os0.length) (h16 : os0.length ≤ 16) (hO : ∀ j (h : j < os0.length), OSat P E0 (E0.σ j) (E0.φ j) (E0.ι j) os0[j] ∧ os0[j].live = true)
    (hdis : ∀ i j, i < os0.length → j < os0.length → i ≠ j → ∀ b, E0.φ i b → ¬ E0.φ j b) (hnof : ∀ j, j < os0.length → ∀ b, E0.φ j b → ¬ E0.F b) : Inv P ⟨E0.w, E0.F, fun b => ∃ j, j < os0.length ∧ E0.φ j b, E0.D, E0.σ, E0.ι⟩ (numb 0 os0) E0 := by
  have hlk : ∀ i o, lk (numb 0 os0) i = some o → ∃ h : i < os0.length, os0[i] = o := fun i o hi => by
    rw [lk_numb] at hi
    simp only [Nat.not_lt_zero, if_false, Nat.sub_zero] at hi
    exact List.getElem?_eq_some_iff.1 hi
  refine ⟨fun i => ?_, fun i o hi => ?_, fun i j o o' hne hi hj _ _ => ?_, fun i o hi _ b hb => ?_, hF, fun b hb => .inl hb, fun b hb => hb, rfl, rfl, rfl, Nat.le_refl _, fun _ _ _ => rfl, fun i hi => ?_, fun i _ _ => ⟨rfl, rfl⟩⟩
  · rw [lk_numb, hD]; simp
  · obtain ⟨h1, rfl⟩ := hlk i o hi
    exact (hO i h1).1
  · obtain ⟨h1, _⟩ := hlk i o hi
    obtain ⟨h2, _⟩ := hlk j o' hj
    exact hdis i j h1 h2 hne
  · obtain ⟨h1, _⟩ := hlk i o hi
    exact ⟨hnof i h1 b hb, .inr ⟨i, h1, hb⟩⟩
  · have := (hD i).1 hi; omega
end Go.Proofs.YthfmlelodmcgkaaGreat.V
namespace Go.Proofs.YthfmlelodmcgkaaGreat.V
open Go Go.RowKit Go.Proofs.YthfmlelodmcgkaaGreatW.PrintWords Go.Proofs.YthfmlelodmcgkaaGreatW.PrintLast Go.Proofs.YthfmlelodmcgkaaGreatW.PrintMore
theorem min64 : IntKind.i64.min = -9223372036854775808 := by decide +kernel
theorem max64 : IntKind.i64.max = 9223372036854775807 := by decide +kernel
abbrev EW (w : World) : Env := E00 w (fun b => b < w.heap.size)
theorem row_in {P : Program} {w : World} {a : Option Addr} {len cap : Nat} {zs : List Int}
    (h : (a = none ∧ len = 0 ∧ cap = 0 ∧ zs = []) ∨ ∃ x, a = some x ∧ len ≤ cap ∧ cap ≤ maxLen ∧ zs.length = cap ∧ (∀ i, i < zs.length → w.cell? (x.add i) = some (.int .i64 (zs.getD i 0))) ∧ ∀ n ∈ zs, (Lit.int .i64 n).wf = true) :
    ∃ l : List Int, AV P (EW w) (.ro (.int .i64) l) (.slice a len cap) := by
  rcases h with ⟨rfl, rfl, rfl, rfl⟩ | ⟨x, rfl, h1, h2, h3, h4, h5⟩
  · exact ⟨[], none, 0, rfl, Nat.le_refl _, Nat.zero_le _, fun j hj => absurd hj (by simp)⟩
  · have hl : (zs.take len).length = len := by rw [List.length_take]; omega
    refine ⟨zs.take len, some x, cap, by rw [hl], by rw [hl]; exact h1, by rw [hl]; omega, fun j hj => ?_⟩
    rw [hl] at hj
    have hc := h4 j (by omega)
    have hz : zs.getD j 0 = zs[j] := by rw [List.getD_eq_getElem?_getD, List.getElem?_eq_getElem (by omega)]; rfl
    have hs : x.spot = none := by
      have hc := h4 0 (by omega)
      rw [Addr.add, if_pos (by rfl)] at hc
      unfold World.cell? at hc
      split at hc
      · split at hc
        · cases hc
        · rename_i hs
          cases he : x.spot with
          | none => rfl
          | some y => exact absurd (by rw [he]; rfl) hs
      · cases hc
    obtain ⟨xb, xo, xs⟩ := x
    obtain rfl : xs = none := hs
    rw [Addr.add_lit] at hc
    refine ⟨xb, xo, [.int .i64 zs[j]], rfl, World.block_lt_of_cell? w _ hc, ⟨by rw [List.getElem_take], ?_⟩, rfl, fun i hi => ?_⟩
    · rw [List.getElem_take]
      have := h5 zs[j] (List.getElem_mem _)
      simp only [Lit.wf, min64, max64, Bool.and_eq_true, decide_eq_true_eq] at this
      exact this
    · have hi : i = 0 := by simpa using hi
      subst hi
      rw [hz] at hc
      show w.cell? ⟨xb, xo + (j * 1 + 0), none⟩ = _
      rw [Nat.mul_one, Nat.add_zero]
      exact hc
theorem cv_one {P : Program} {w : World} {a : A} {A : Option Addr} {n c : Nat} (h : AV P (EW w) a (.slice A n c)) : CV P (EW w) (.one a) (.slice A n c) := ⟨h, rfl⟩
theorem cv_i {P : Program} {w : World} {n : Int} (h : (Lit.int .i64 n).wf = true) : CV P (EW w) (.one (.v (.int .i64 n))) (.int .i64 n) := by
  refine ⟨⟨rfl, ?_⟩, rfl⟩
  simp only [Lit.wf, min64, max64, Bool.and_eq_true, decide_eq_true_eq] at h
  exact h
theorem law_of {P : Program} {f : FuncId} {sp : List Cv → List Obj' → Tree} (hg : Good P f sp) (w : World) (cs : List Cv) (vs : List Value) (ha : All2 (CV P (EW w)) cs vs) (hsp : sp cs [] = .ret (vb true) []) :
    Calls P f vs.toArray w fun e w' => e = .returned (.bool true) ∧ Below w.heap.size w w' := by
  refine (hg (EW w) cs [] vs (fun r os => r = vb true) (fun _ h => h) (fun j => by simp) (by simp) (fun j h => absurd h (by simp)) (fun i j h => absurd h (by simp)) (fun j h => absurd h (by simp)) ha (by rw [hsp]; rfl)).mono ?_
  rintro e w' ⟨r, u, os, E, rfl, rfl, _, rfl, hI, hr⟩
  obtain ⟨⟨rfl, _⟩, _⟩ := hr
  exact ⟨rfl, ⟨hI.os, hI.tape, hI.output, hI.size, fun k hk => hI.frm k hk (fun ⟨j, hj, _⟩ => absurd hj (by simp))⟩⟩
end Go.Proofs.YthfmlelodmcgkaaGreat.V
end
section
namespace Go.Proofs.YthfmlelodmcgkaaGreat.V
open Go
set_option maxHeartbeats 4000000 in
set_option maxRecDepth 100000 in
theorem good_own : Good Tryz.prog 128 sp_clone := by
  refine good_ofF Tryz.func128 rfl _ rfl _ rfl (tab []) (fun X cs os0 K hok hos hK => ?_)
  clear hos; unfold sp_clone at hK
  split at hK
  case h_2 => exact hK.elim
  rename_i l
  refine ⟨by simp, by simp, ?_⟩
  simp only [go_sem] at hK hok
  simp (maxSteps := 4000000) only [go_sem, Tryz.f128, ↓brB_t, ↓brB_f, Nat.reduceAdd, Int.reduceLE, Int.reduceLT, Int.reduceNeg, decide_true, decide_false, Bool.and_self, Nat.succ_eq_add_one, Int.toNat_natCast, Nat.beq_refl, Bool.and_true, Bool.true_and, Bool.false_or, Bool.or_true, List.all_cons, List.all_nil, Nat.reduceMul, Nat.add_zero, Nat.zero_add, List.length_nil, List.length_cons, dite_true, List.nil_append, Nat.reduceBEq, reduceDIte, reduceIte, reduceCtorEq, Bool.or_false, Bool.true_or, Bool.and_false, Bool.false_and, Bool.not_true, Bool.not_false, Option.isSome_some, Option.isSome_none, Option.getD_some, List.getElem?_cons_zero, List.getElem?_cons_succ, eq_self, and_self, List.take_succ_cons, List.take_zero, List.drop_succ_cons, List.drop_zero]
  obtain ⟨hl, hK⟩ := hK
  refine ⟨by omega, retN [96] rfl ?_⟩
  exact hK
def c_own : Ctr Tryz.prog := ⟨128, ent Tryz.func128 rfl rfl, [], sp_clone, good_own, []⟩
@[go_sem] theorem c_own_f : c_own.f = 128 := rfl
@[go_sem] theorem c_own_ms : c_own.ms = [] := rfl
@[go_sem] theorem c_own_sp : c_own.spec = sp_clone := rfl
@[go_sem] theorem c_own_fz : c_own.fz = [] := rfl
attribute [go_sem] sp_clone
theorem count_s {l : List Int} {k : Nat} (h : k < l.length) (x : Int) : (l.take (k + 1)).count x = (l.take k).count x + (if l.getD k 0 = x then 1 else 0) := by
  rw [List.take_succ_eq_append_getElem h, List.count_append]
  simp [List.getD_eq_getElem?_getD, h, List.count_singleton, beq_iff_eq]
theorem count_lt {l : List Int} (k : Nat) (x : Int) : (l.take k).count x ≤ k := Nat.le_trans (List.count_le_length ..) (by simp; omega)
set_option maxHeartbeats 4000000 in
set_option maxRecDepth 100000 in
theorem good_l01Twice : Good Tryz.prog 159 sp_twice := by
  refine good_ofF Tryz.func159 rfl _ rfl _ rfl (tab []) (fun X cs os0 K hok hos hK => ?_)
  clear hos; unfold sp_twice at hK
  split at hK
  case h_2 => exact hK.elim
  rename_i l
  refine ⟨by simp, by simp, ?_⟩
  simp only [go_sem] at hK hok
  simp (maxSteps := 4000000) only [go_sem, Tryz.f159, ↓brB_t, ↓brB_f, Nat.reduceAdd, Int.reduceLE, Int.reduceLT, Int.reduceNeg, decide_true, decide_false, Bool.and_self, Nat.succ_eq_add_one, Int.toNat_natCast, Nat.beq_refl, Bool.and_true, Bool.true_and, Bool.false_or, Bool.or_true, List.all_cons, List.all_nil, Nat.reduceMul, Nat.add_zero, Nat.zero_add, List.length_nil, List.length_cons, dite_true, List.nil_append, Nat.reduceBEq, reduceDIte, reduceIte, reduceCtorEq, Bool.or_false, Bool.true_or, Bool.and_false, Bool.false_and, Bool.not_true, Bool.not_false, Option.isSome_some, Option.isSome_none, Option.getD_some, List.getElem?_cons_zero, List.getElem?_cons_succ, eq_self, and_self, List.take_succ_cons, List.take_zero, List.drop_succ_cons, List.drop_zero]
  obtain ⟨hl, hK⟩ := hK
  refine loop_okF (T := tab []) [0, 3] [] (fun i : Nat => ⟨31, [(0, ri l), (3, vi i)], []⟩)
    (fun i => i ≤ l.length ∧ (l.take i).all (fun x => l.count x == 2) = true) (fun i => l.length - i) 0 rfl rfl ⟨Nat.zero_le _, rfl⟩ (fun i hi => ?_)
  obtain ⟨hi, ht⟩ := hi
  simp only [go_sem, ↓brB_t, ↓brB_f, Nat.reduceAdd, Int.reduceLE, Int.reduceLT, Int.reduceNeg, decide_true, decide_false, Bool.and_self, Nat.succ_eq_add_one, Int.toNat_natCast, Nat.beq_refl, Bool.and_true, Bool.true_and, Bool.false_or, Bool.or_true, List.all_cons, List.all_nil, Nat.reduceMul, Nat.add_zero, Nat.zero_add, List.length_nil, List.length_cons, dite_true, List.nil_append, Nat.reduceBEq, reduceDIte, reduceIte, reduceCtorEq, Bool.or_false, Bool.true_or, Bool.and_false, Bool.false_and, Bool.not_true, Bool.not_false, Option.isSome_some, Option.isSome_none, Option.getD_some, List.getElem?_cons_zero, List.getElem?_cons_succ, eq_self, and_self, List.take_succ_cons, List.take_zero, List.drop_succ_cons, List.drop_zero]
  refine brB_intro (fun h1 => ?_) (fun h1 => ret0 ?_)
  · simp at h1
    refine loop_okF (T := tab []) [0, 3, 4, 5] [] (fun k : Nat => ⟨31, [(0, ri l), (3, vi i), (4, vi ((l.take k).count (l.getD i 0) : Nat)), (5, vi k)], []⟩)
      (fun k => k ≤ l.length) (fun k => l.length - k) 0 rfl rfl (Nat.zero_le _) (fun k hk => ?_)
    simp only [go_sem, ↓brB_t, ↓brB_f, Nat.reduceAdd, Int.reduceLE, Int.reduceLT, Int.reduceNeg, decide_true, decide_false, Bool.and_self, Nat.succ_eq_add_one, Int.toNat_natCast, Nat.beq_refl, Bool.and_true, Bool.true_and, Bool.false_or, Bool.or_true, List.all_cons, List.all_nil, Nat.reduceMul, Nat.add_zero, Nat.zero_add, List.length_nil, List.length_cons, dite_true, List.nil_append, Nat.reduceBEq, reduceDIte, reduceIte, reduceCtorEq, Bool.or_false, Bool.true_or, Bool.and_false, Bool.false_and, Bool.not_true, Bool.not_false, Option.isSome_some, Option.isSome_none, Option.getD_some, List.getElem?_cons_zero, List.getElem?_cons_succ, eq_self, and_self, List.take_succ_cons, List.take_zero, List.drop_succ_cons, List.drop_zero]
    refine brB_intro (fun h2 => ⟨by simp at h2; omega, by omega, by kernel_rfl, brB_intro (fun h3 => ?_) (fun h3 => ?_)⟩) (fun h2 => ?_)
    · simp only [decide_eq_true_eq] at h2 h3
      refine ⟨k + 1, [], by omega, by omega, rfl, ?_⟩
      have := count_lt (l := l) k (l.getD i 0)
      rw [w64_s (n := l.length) (by omega) (by omega), w64_id (by omega) (by omega), count_s (by omega), if_pos h3]; rfl
    · simp only [decide_eq_true_eq, decide_eq_false_iff_not] at h2 h3
      refine ⟨k + 1, [], by omega, by omega, rfl, ?_⟩
      rw [w64_s (n := l.length) (by omega) (by omega), count_s (by omega), if_neg h3]; rfl
    · have e : k = l.length := by simp at h2; omega
      subst e
      rw [List.take_length]
      have hm : l.getD i 0 ∈ l := by rw [List.getD_eq_getElem?_getD, List.getElem?_eq_getElem h1]; exact List.getElem_mem _
      refine brB_intro (fun h3 => ret0 ?_) (fun h3 => ?_)
      · have e : Go.Proofs.YthfmlelodmcgkaaGreat.K.twiceL l = false := by
          rw [Go.Proofs.YthfmlelodmcgkaaGreat.K.twiceL, ← Bool.not_eq_true, List.all_eq_true]
          intro h
          have := h _ hm
          simp at h3 this
          omega
        rw [e] at hK; exact hK
      · refine ⟨i + 1, [], ⟨by omega, ?_⟩, by omega, rfl, ?_⟩
        · rw [List.take_succ_eq_append_getElem h1, List.all_append, ht]
          simp at h3
          simp [List.getD_eq_getElem?_getD, h1] at h3
          simp; omega
        · rw [w64_s h1 (by omega)]; rfl
  · have e : Go.Proofs.YthfmlelodmcgkaaGreat.K.twiceL l = true := by
      simp at h1
      rwa [List.take_of_length_le h1] at ht
    rw [e] at hK; exact hK
def c_l01Twice : Ctr Tryz.prog := ⟨159, ent Tryz.func159 rfl rfl, [], sp_twice, good_l01Twice, []⟩
@[go_sem] theorem c_l01Twice_f : c_l01Twice.f = 159 := rfl
@[go_sem] theorem c_l01Twice_ms : c_l01Twice.ms = [] := rfl
@[go_sem] theorem c_l01Twice_sp : c_l01Twice.spec = sp_twice := rfl
@[go_sem] theorem c_l01Twice_fz : c_l01Twice.fz = [] := rfl
attribute [go_sem] sp_twice
def sp_l01Normal : List Cv → List Obj' → Tree
  | [.one (.ro (.int .i64) l)], [] => .need (l.length < 1099511627776) (.ret (ow 0) [rwi (Go.Proofs.YthfmlelodmcgkaaGreat.K.normalL l)])
  | _, _ => .fail
def atOf (met : List Int) (x : Int) (k : Nat) : Int := match (met.take k).idxOf? x with | some j => j | none => -1
theorem atOf_0 (met : List Int) (x : Int) : atOf met x 0 = -1 := by simp [atOf, List.idxOf?]
theorem idxOf?_take_s {met : List Int} (hn : met.Nodup) {x : Int} {k : Nat} (h : k < met.length) : (met.take (k + 1)).idxOf? x = if met.getD k 0 = x then some k else (met.take k).idxOf? x := by
  rw [List.take_succ_eq_append_getElem h]
  simp only [List.getD_eq_getElem?_getD, List.getElem?_eq_getElem h, Option.getD_some]
  by_cases e : met[k] = x
  · rw [if_pos e]
    have : x ∉ met.take k := fun hm => by
      obtain ⟨j, hj, e2⟩ := List.getElem_of_mem hm
      have hj' := hj
      rw [List.length_take] at hj'
      rw [List.getElem_take] at e2
      exact List.pairwise_iff_getElem.1 hn j k (by omega) h (by omega) (e2.trans e.symm)
    have h0 : (met.take k).idxOf? x = none := by simpa [List.idxOf?_eq_none_iff] using this
    subst e
    rw [Go.Proofs.YthfmlelodmcgkaaGreat.K.idxOf?_snoc _ _ _ h0, if_pos rfl]
    simp; omega
  · rw [if_neg e]
    simp only [List.idxOf?, List.findIdx?_append]
    cases List.findIdx? (fun z => z == x) (met.take k) with
    | some j => simp
    | none => simp [List.findIdx?_singleton, e]
theorem normFrom_append (l m : List Int) : ∀ met, Go.Proofs.YthfmlelodmcgkaaGreat.K.normFrom met (l ++ m) = Go.Proofs.YthfmlelodmcgkaaGreat.K.normFrom met l ++ Go.Proofs.YthfmlelodmcgkaaGreat.K.normFrom (Go.Proofs.YthfmlelodmcgkaaGreat.K.metBy met l) m := by
  induction l with
  | nil => intro met; rfl
  | cons x r ih =>
    intro met
    rw [List.cons_append, Go.Proofs.YthfmlelodmcgkaaGreat.K.normFrom, Go.Proofs.YthfmlelodmcgkaaGreat.K.normFrom, Go.Proofs.YthfmlelodmcgkaaGreat.K.metBy]
    split <;> simp [ih]
theorem metBy_nodup (l : List Int) : ∀ met : List Int, met.Nodup → (Go.Proofs.YthfmlelodmcgkaaGreat.K.metBy met l).Nodup := by
  induction l with
  | nil => intro met h; exact h
  | cons x r ih =>
    intro met h
    rw [Go.Proofs.YthfmlelodmcgkaaGreat.K.metBy]
    split
    · exact ih _ h
    · rename_i hx
      refine ih _ (List.nodup_append.2 ⟨h, by simp, ?_⟩)
      intro a ha b hb
      simp at hb
      subst hb
      have : b ∉ met := by simpa [List.idxOf?_eq_none_iff] using hx
      exact fun e => this (e ▸ ha)
theorem metBy_length (l : List Int) : ∀ met : List Int, (Go.Proofs.YthfmlelodmcgkaaGreat.K.metBy met l).length ≤ met.length + l.length := by
  induction l with
  | nil => intro met; simp [Go.Proofs.YthfmlelodmcgkaaGreat.K.metBy]
  | cons x r ih =>
    intro met
    rw [Go.Proofs.YthfmlelodmcgkaaGreat.K.metBy]
    split
    · have := ih met; simp; omega
    · have := ih (met ++ [x]); simp at this ⊢; omega
abbrev metI (l : List Int) (i : Nat) : List Int := Go.Proofs.YthfmlelodmcgkaaGreat.K.metBy [] (l.take i)
abbrev norI (l : List Int) (i : Nat) : List Int := Go.Proofs.YthfmlelodmcgkaaGreat.K.normFrom [] (l.take i)
theorem metI_nodup (l : List Int) (i : Nat) : (metI l i).Nodup := metBy_nodup _ _ List.nodup_nil
theorem metI_len (l : List Int) (i : Nat) : (metI l i).length ≤ i := Nat.le_trans (metBy_length _ _) (by simp; omega)
theorem metI_s {l : List Int} {i : Nat} (h : i < l.length) : metI l (i + 1) = match (metI l i).idxOf? (l.getD i 0) with | some _ => metI l i | none => metI l i ++ [l.getD i 0] := by
  have e : l.getD i 0 = l[i] := by simp [List.getD_eq_getElem?_getD, h]
  rw [metI, List.take_succ_eq_append_getElem h, Go.Proofs.YthfmlelodmcgkaaGreat.K.metBy_append, Go.Proofs.YthfmlelodmcgkaaGreat.K.metBy, e]
  rfl
theorem norI_s {l : List Int} {i : Nat} (h : i < l.length) : norI l (i + 1) = norI l i ++ [match (metI l i).idxOf? (l.getD i 0) with | some j => (j : Int) | none => (metI l i).length] := by
  have e : l.getD i 0 = l[i] := by simp [List.getD_eq_getElem?_getD, h]
  rw [norI, List.take_succ_eq_append_getElem h, normFrom_append, e]
  simp only [Go.Proofs.YthfmlelodmcgkaaGreat.K.normFrom]
  split <;> rename_i hx <;> simp only [metI, norI, hx]
set_option maxHeartbeats 4000000 in
set_option maxRecDepth 100000 in
theorem good_l01Normal : Good Tryz.prog 160 sp_l01Normal := by
  refine good_ofF Tryz.func160 rfl _ rfl _ rfl (tab []) (fun X cs os0 K hok hos hK => ?_)
  clear hos; unfold sp_l01Normal at hK
  split at hK
  case h_2 => exact hK.elim
  rename_i l
  refine ⟨by simp, by simp, ?_⟩
  simp only [go_sem] at hK hok
  simp (maxSteps := 4000000) only [go_sem, Tryz.f160, ↓brB_t, ↓brB_f, Nat.reduceAdd, Int.reduceLE, Int.reduceLT, Int.reduceNeg, decide_true, decide_false, Bool.and_self, Nat.succ_eq_add_one, Int.toNat_natCast, Nat.beq_refl, Bool.and_true, Bool.true_and, Bool.false_or, Bool.or_true, List.all_cons, List.all_nil, Nat.reduceMul, Nat.add_zero, Nat.zero_add, List.length_nil, List.length_cons, dite_true, List.nil_append, Nat.reduceBEq, reduceDIte, reduceIte, reduceCtorEq, Bool.or_false, Bool.true_or, Bool.and_false, Bool.false_and, Bool.not_true, Bool.not_false, Option.isSome_some, Option.isSome_none, Option.getD_some, List.getElem?_cons_zero, List.getElem?_cons_succ, eq_self, and_self, List.take_succ_cons, List.take_zero, List.drop_succ_cons, List.drop_zero]
  obtain ⟨hl, hK⟩ := hK
  refine loop_okF (T := tab []) [0, 3, 4, 5] [(16, 144), (17, 160)] (fun i : Nat => ⟨48, [(0, ri l), (3, ow 16), (4, ow 17), (5, vi i)], [(16, rwi (metI l i)), (17, rwi (norI l i))]⟩)
    (fun i => i ≤ l.length) (fun i => l.length - i) 0 rfl rfl (Nat.zero_le _) (fun i hi => ?_)
  have hm := metI_len l i
  have hnl : (norI l i).length = i := by rw [norI, Go.Proofs.YthfmlelodmcgkaaGreat.K.normFrom_length, List.length_take]; omega
  simp only [go_sem, ↓brB_t, ↓brB_f, Nat.reduceAdd, Int.reduceLE, Int.reduceLT, Int.reduceNeg, decide_true, decide_false, Bool.and_self, Nat.succ_eq_add_one, Int.toNat_natCast, Nat.beq_refl, Bool.and_true, Bool.true_and, Bool.false_or, Bool.or_true, List.all_cons, List.all_nil, Nat.reduceMul, Nat.add_zero, Nat.zero_add, List.length_nil, List.length_cons, dite_true, List.nil_append, Nat.reduceBEq, reduceDIte, reduceIte, reduceCtorEq, Bool.or_false, Bool.true_or, Bool.and_false, Bool.false_and, Bool.not_true, Bool.not_false, Option.isSome_some, Option.isSome_none, Option.getD_some, List.getElem?_cons_zero, List.getElem?_cons_succ, eq_self, and_self, List.take_succ_cons, List.take_zero, List.drop_succ_cons, List.drop_zero]
  refine brB_intro (fun h1 => ?_) (fun h1 => retN [17] rfl ?_)
  · simp at h1
    refine loop_okF (T := tab []) [0, 3, 4, 5, 6, 7] [(16, 16), (17, 17)] (fun k : Nat => ⟨48, [(0, ri l), (3, ow 16), (4, ow 17), (5, vi i), (6, vi (atOf (metI l i) (l.getD i 0) k)), (7, vi k)], [(16, rwi (metI l i)), (17, rwi (norI l i))]⟩)
      (fun k => k ≤ (metI l i).length) (fun k => (metI l i).length - k) 0 rfl (by rw [atOf_0]; rfl) (Nat.zero_le _) (fun k hk => ?_)
    simp only [go_sem, ↓brB_t, ↓brB_f, Nat.reduceAdd, Int.reduceLE, Int.reduceLT, Int.reduceNeg, decide_true, decide_false, Bool.and_self, Nat.succ_eq_add_one, Int.toNat_natCast, Nat.beq_refl, Bool.and_true, Bool.true_and, Bool.false_or, Bool.or_true, List.all_cons, List.all_nil, Nat.reduceMul, Nat.add_zero, Nat.zero_add, List.length_nil, List.length_cons, dite_true, List.nil_append, Nat.reduceBEq, reduceDIte, reduceIte, reduceCtorEq, Bool.or_false, Bool.true_or, Bool.and_false, Bool.false_and, Bool.not_true, Bool.not_false, Option.isSome_some, Option.isSome_none, Option.getD_some, List.getElem?_cons_zero, List.getElem?_cons_succ, eq_self, and_self, List.take_succ_cons, List.take_zero, List.drop_succ_cons, List.drop_zero]
    refine brB_intro (fun h2 => ⟨by simp at h2; omega, by omega, by kernel_rfl, brB_intro (fun h3 => ?_) (fun h3 => ?_)⟩) (fun h2 => ?_)
    · simp only [decide_eq_true_eq] at h2 h3
      refine ⟨k + 1, [(16, 16), (17, 17)], by omega, by omega, rfl, ?_⟩
      have e : atOf (metI l i) (l.getD i 0) (k + 1) = k := by rw [atOf, idxOf?_take_s (metI_nodup l i) (by omega), if_pos h3]
      rw [w64_s (n := l.length) (by omega) (by omega), e]; rfl
    · simp only [decide_eq_true_eq, decide_eq_false_iff_not] at h2 h3
      refine ⟨k + 1, [(16, 16), (17, 17)], by omega, by omega, rfl, ?_⟩
      have e : atOf (metI l i) (l.getD i 0) (k + 1) = atOf (metI l i) (l.getD i 0) k := by rw [atOf, idxOf?_take_s (metI_nodup l i) (by omega), if_neg h3]; rfl
      rw [w64_s (n := l.length) (by omega) (by omega), e]; rfl
    · have e : k = (metI l i).length := by simp at h2; omega
      subst e
      have ea : atOf (metI l i) (l.getD i 0) (metI l i).length = match (metI l i).idxOf? (l.getD i 0) with | some j => (j : Int) | none => -1 := by rw [atOf, List.take_length]
      rw [ea]
      have es := metI_s h1
      have en := norI_s h1
      cases hx : (metI l i).idxOf? (l.getD i 0) with
      | some j =>
        simp only [hx] at es en ⊢
        refine brB_intro (fun h3 => by simp at h3; omega) (fun h3 => ⟨by omega, i + 1, [(16, 16), (17, 752)], by omega, by omega, rfl, ?_⟩)
        rw [w64_s h1 (by omega), es, en]; rfl
      | none =>
        simp only [hx] at es en ⊢
        refine brB_intro (fun h3 => ⟨⟨by omega, by omega⟩, by omega, by omega, i + 1, [(16, 688), (17, 752)], by omega, by omega, rfl, ?_⟩) (fun h3 => by simp at h3)
        rw [w64_s h1 (by omega), es, en]; rfl
  · have e : i = l.length := by simp at h1; omega
    subst e
    have e : norI l l.length = Go.Proofs.YthfmlelodmcgkaaGreat.K.normalL l := by rw [norI, List.take_length]; rfl
    rw [e]; exact hK
def c_l01Normal : Ctr Tryz.prog := ⟨160, ent Tryz.func160 rfl rfl, [], sp_l01Normal, good_l01Normal, []⟩
@[go_sem] theorem c_l01Normal_f : c_l01Normal.f = 160 := rfl
@[go_sem] theorem c_l01Normal_ms : c_l01Normal.ms = [] := rfl
@[go_sem] theorem c_l01Normal_sp : c_l01Normal.spec = sp_l01Normal := rfl
@[go_sem] theorem c_l01Normal_fz : c_l01Normal.fz = [] := rfl
attribute [go_sem] sp_l01Normal
end Go.Proofs.YthfmlelodmcgkaaGreat.V
namespace Go.Proofs.YthfmlelodmcgkaaGreat.V
open Go
def isW (l : List Int) : Bool := decide (l.length ≤ 12) && (Go.Proofs.YthfmlelodmcgkaaGreat.K.twiceL l && decide (Go.Proofs.YthfmlelodmcgkaaGreat.K.normalL l = l))
def sp_isW : List Cv → List Obj' → Tree
  | [.one (.ro (.int .i64) l)], [] => .ret (vb (isW l)) []
  | _, _ => .fail
set_option maxHeartbeats 4000000 in
set_option maxRecDepth 100000 in
theorem good_l01Is : Good Tryz.prog 126 sp_isW := by
  refine good_ofF Tryz.func126 rfl _ rfl _ rfl (tab [c_l01Twice, c_l01Normal, c_l01Same]) (fun X cs os0 K hok hos hK => ?_)
  clear hos; unfold sp_isW at hK
  split at hK
  case h_2 => exact hK.elim
  rename_i l
  refine ⟨by simp, by simp, ?_⟩
  simp only [go_sem] at hK hok
  simp (maxSteps := 4000000) only [go_sem, Tryz.f126, ↓brB_t, ↓brB_f, Nat.reduceAdd, Int.reduceLE, Int.reduceLT, Int.reduceNeg, decide_true, decide_false, Bool.and_self, Nat.succ_eq_add_one, Int.toNat_natCast, Nat.beq_refl, Bool.and_true, Bool.true_and, Bool.false_or, Bool.or_true, List.all_cons, List.all_nil, Nat.reduceMul, Nat.add_zero, Nat.zero_add, List.length_nil, List.length_cons, dite_true, List.nil_append, Nat.reduceBEq, reduceDIte, reduceIte, reduceCtorEq, Bool.or_false, Bool.true_or, Bool.and_false, Bool.false_and, Bool.not_true, Bool.not_false, Option.isSome_some, Option.isSome_none, Option.getD_some, List.getElem?_cons_zero, List.getElem?_cons_succ, eq_self, and_self, List.take_succ_cons, List.take_zero, List.drop_succ_cons, List.drop_zero]
  refine brB_intro (fun h => ?_) (fun h => ret0 (by simp [isW] at hK; simpa [go_sem, isW, h, show ¬ l.length ≤ 12 by simp at h; omega] using hK))
  have h' : l.length ≤ 12 := by simp at h; omega
  refine ⟨by omega, brB_intro (fun h2 => ⟨by omega, ret0 (by simpa [go_sem, isW, h', h2] using hK)⟩) (fun h2 => ret0 (by simpa [go_sem, isW, h', h2] using hK))⟩
def c_l01Is : Ctr Tryz.prog := ⟨126, ent Tryz.func126 rfl rfl, [], sp_isW, good_l01Is, []⟩
@[go_sem] theorem c_l01Is_f : c_l01Is.f = 126 := rfl
@[go_sem] theorem c_l01Is_ms : c_l01Is.ms = [] := rfl
@[go_sem] theorem c_l01Is_sp : c_l01Is.spec = sp_isW := rfl
@[go_sem] theorem c_l01Is_fz : c_l01Is.fz = [] := rfl
attribute [go_sem] sp_isW
set_option maxHeartbeats 4000000 in
set_option maxRecDepth 100000 in
theorem good_IsWord : Good Tryz.prog 161 sp_isW := by
  refine good_ofF Tryz.func161 rfl _ rfl _ rfl (tab [c_twice, c_normal, c_equal]) (fun X cs os0 K hok hos hK => ?_)
  clear hos; unfold sp_isW at hK
  split at hK
  case h_2 => exact hK.elim
  rename_i l
  refine ⟨by simp, by simp, ?_⟩
  simp only [go_sem] at hK hok
  simp (maxSteps := 4000000) only [go_sem, Tryz.f161, ↓brB_t, ↓brB_f, Nat.reduceAdd, Int.reduceLE, Int.reduceLT, Int.reduceNeg, decide_true, decide_false, Bool.and_self, Nat.succ_eq_add_one, Int.toNat_natCast, Nat.beq_refl, Bool.and_true, Bool.true_and, Bool.false_or, Bool.or_true, List.all_cons, List.all_nil, Nat.reduceMul, Nat.add_zero, Nat.zero_add, List.length_nil, List.length_cons, dite_true, List.nil_append, Nat.reduceBEq, reduceDIte, reduceIte, reduceCtorEq, Bool.or_false, Bool.true_or, Bool.and_false, Bool.false_and, Bool.not_true, Bool.not_false, Option.isSome_some, Option.isSome_none, Option.getD_some, List.getElem?_cons_zero, List.getElem?_cons_succ, eq_self, and_self, List.take_succ_cons, List.take_zero, List.drop_succ_cons, List.drop_zero]
  refine brB_intro (fun h => ?_) (fun h => ret0 (by simp [isW] at hK; simpa [go_sem, isW, h, show ¬ l.length ≤ 12 by simp at h; omega] using hK))
  have h' : l.length ≤ 12 := by simp at h; omega
  refine ⟨by omega, brB_intro (fun h2 => ⟨by omega, ret0 (by simpa [go_sem, isW, h', h2] using hK)⟩) (fun h2 => ret0 (by simpa [go_sem, isW, h', h2] using hK))⟩
def c_IsWord : Ctr Tryz.prog := ⟨161, ent Tryz.func161 rfl rfl, [], sp_isW, good_IsWord, []⟩
@[go_sem] theorem c_IsWord_f : c_IsWord.f = 161 := rfl
@[go_sem] theorem c_IsWord_ms : c_IsWord.ms = [] := rfl
@[go_sem] theorem c_IsWord_sp : c_IsWord.spec = sp_isW := rfl
@[go_sem] theorem c_IsWord_fz : c_IsWord.fz = [] := rfl
attribute [go_sem] sp_isW
end Go.Proofs.YthfmlelodmcgkaaGreat.V
namespace Go.Proofs.YthfmlelodmcgkaaGreat.V
open Go
abbrev Tst := HT [Kn.int .i64] → Option Kn.bool.T
def tst (f : Tst) (x : Int) : Bool := (f (x, ())).getD false
def idxP (p : Int → Bool) (l : List Int) : Int := match l.findIdx? p with | some j => (j : Int) | none => -1
def sp_indexF : List Cv → List Obj' → Tree
  | [.one (.ro (.int .i64) l), .one (.pf [.int .i64] .bool f)], [] => .need (∀ x ∈ (l : List Int), (f (x, ())).isSome = true) (.ret (vi (idxP (tst f) l)) [])
  | _, _ => .fail
def sp_contains : List Cv → List Obj' → Tree
  | [.one (.ro (.int .i64) l), .one (.pf [.int .i64] .bool f)], [] => .need (∀ x ∈ (l : List Int), (f (x, ())).isSome = true) (.ret (vb ((l : List Int).any (tst f))) [])
  | _, _ => .fail
theorem getD_mem {l : List Int} {i : Nat} (h : i < l.length) : l.getD i 0 ∈ l := by rw [List.getD_eq_getElem?_getD, List.getElem?_eq_getElem h]; exact List.getElem_mem _
theorem getD_eq {l : List Int} {i : Nat} (h : i < l.length) : l.getD i 0 = l[i] := by rw [List.getD_eq_getElem?_getD, List.getElem?_eq_getElem h]; rfl
set_option maxHeartbeats 4000000 in
set_option maxRecDepth 100000 in
theorem good_indexF : Good Tryz.prog 115 sp_indexF := by
  refine good_ofF Tryz.func115 rfl _ rfl _ rfl (tab []) (fun X cs os0 K hok hos hK => ?_)
  clear hos; unfold sp_indexF at hK
  split at hK
  case h_2 => exact hK.elim
  rename_i l f
  refine ⟨by simp, by simp, ?_⟩
  simp only [go_sem] at hK hok
  simp (maxSteps := 4000000) only [go_sem, Tryz.f115, ↓brB_t, ↓brB_f, Nat.reduceAdd, Int.reduceLE, Int.reduceLT, Int.reduceNeg, decide_true, decide_false, Bool.and_self, Nat.succ_eq_add_one, Int.toNat_natCast, Nat.beq_refl, Bool.and_true, Bool.true_and, Bool.false_or, Bool.or_true, List.all_cons, List.all_nil, Nat.reduceMul, Nat.add_zero, Nat.zero_add, List.length_nil, List.length_cons, dite_true, List.nil_append, Nat.reduceBEq, reduceDIte, reduceIte, reduceCtorEq, Bool.or_false, Bool.true_or, Bool.and_false, Bool.false_and, Bool.not_true, Bool.not_false, Option.isSome_some, Option.isSome_none, Option.getD_some, List.getElem?_cons_zero, List.getElem?_cons_succ, eq_self, and_self, List.take_succ_cons, List.take_zero, List.drop_succ_cons, List.drop_zero]
  obtain ⟨hf, hK⟩ := hK
  have hl := len_i hok.1.1
  refine loop_okF (T := tab []) [0, 1, 7, 8] [] (fun i : Nat => ⟨19, [(0, ri l), (1, .val (.one (.pf [.int .i64] .bool f))), (7, vi l.length), (8, vi i)], []⟩)
    (fun i => i ≤ l.length ∧ (l.take i).all (fun x => !tst f x) = true) (fun i => l.length - i) 0 rfl rfl ⟨Nat.zero_le _, rfl⟩ (fun i hi => ?_)
  obtain ⟨hi, ht⟩ := hi
  simp only [go_sem, ↓brB_t, ↓brB_f, Nat.reduceAdd, Int.reduceLE, Int.reduceLT, Int.reduceNeg, decide_true, decide_false, Bool.and_self, Nat.succ_eq_add_one, Int.toNat_natCast, Nat.beq_refl, Bool.and_true, Bool.true_and, Bool.false_or, Bool.or_true, List.all_cons, List.all_nil, Nat.reduceMul, Nat.add_zero, Nat.zero_add, List.length_nil, List.length_cons, dite_true, List.nil_append, Nat.reduceBEq, reduceDIte, reduceIte, reduceCtorEq, Bool.or_false, Bool.true_or, Bool.and_false, Bool.false_and, Bool.not_true, Bool.not_false, Option.isSome_some, Option.isSome_none, Option.getD_some, List.getElem?_cons_zero, List.getElem?_cons_succ, eq_self, and_self, List.take_succ_cons, List.take_zero, List.drop_succ_cons, List.drop_zero]
  refine brB_intro (fun h1 => ?_) (fun h1 => ret0 ?_)
  · simp at h1
    refine ⟨⟨by omega, by omega⟩, hf _ (getD_mem h1), brB_intro (fun h2 => ret0 ?_) (fun h2 => ⟨i + 1, [], ⟨by omega, ?_⟩, by omega, rfl, ?_⟩)⟩
    · have e : idxP (tst f) l = i := by
        have : List.findIdx? (tst f) l = some i := by
          rw [List.findIdx?_eq_some_iff_getElem]
          refine ⟨h1, by rw [← getD_eq h1]; exact h2, fun j hj => ?_⟩
          have := List.all_eq_true.1 ht l[j] (by rw [List.mem_take_iff_getElem]; exact ⟨j, by omega, rfl⟩)
          simpa using this
        rw [idxP, this]
      rw [e] at hK; exact hK
    · rw [List.take_succ_eq_append_getElem h1, List.all_append, ht, ← getD_eq h1]
      simp only [List.all_cons, List.all_nil, Bool.and_true, Bool.true_and, Bool.not_eq_true']
      exact h2
    · rw [w64_s h1 hl]; rfl
  · have e : idxP (tst f) l = -1 := by
      have : List.findIdx? (tst f) l = none := by
        rw [List.findIdx?_eq_none_iff]
        intro x hx
        simp at h1
        rw [List.take_of_length_le h1] at ht
        simpa using List.all_eq_true.1 ht x hx
      rw [idxP, this]
    rw [e] at hK; exact hK
def c_indexF : Ctr Tryz.prog := ⟨115, ent Tryz.func115 rfl rfl, [], sp_indexF, good_indexF, []⟩
@[go_sem] theorem c_indexF_f : c_indexF.f = 115 := rfl
@[go_sem] theorem c_indexF_ms : c_indexF.ms = [] := rfl
@[go_sem] theorem c_indexF_sp : c_indexF.spec = sp_indexF := rfl
@[go_sem] theorem c_indexF_fz : c_indexF.fz = [] := rfl
attribute [go_sem] sp_indexF
set_option maxHeartbeats 4000000 in
set_option maxRecDepth 100000 in
theorem good_contains : Good Tryz.prog 98 sp_contains := by
  refine good_ofF Tryz.func98 rfl _ rfl _ rfl (tab [c_indexF]) (fun X cs os0 K hok hos hK => ?_)
  clear hos; unfold sp_contains at hK
  split at hK
  case h_2 => exact hK.elim
  rename_i l f
  refine ⟨by simp, by simp, ?_⟩
  simp only [go_sem] at hK hok
  simp (maxSteps := 4000000) only [go_sem, Tryz.f98, ↓brB_t, ↓brB_f, Nat.reduceAdd, Int.reduceLE, Int.reduceLT, Int.reduceNeg, decide_true, decide_false, Bool.and_self, Nat.succ_eq_add_one, Int.toNat_natCast, Nat.beq_refl, Bool.and_true, Bool.true_and, Bool.false_or, Bool.or_true, List.all_cons, List.all_nil, Nat.reduceMul, Nat.add_zero, Nat.zero_add, List.length_nil, List.length_cons, dite_true, List.nil_append, Nat.reduceBEq, reduceDIte, reduceIte, reduceCtorEq, Bool.or_false, Bool.true_or, Bool.and_false, Bool.false_and, Bool.not_true, Bool.not_false, Option.isSome_some, Option.isSome_none, Option.getD_some, List.getElem?_cons_zero, List.getElem?_cons_succ, eq_self, and_self, List.take_succ_cons, List.take_zero, List.drop_succ_cons, List.drop_zero]
  obtain ⟨hf, hK⟩ := hK
  refine ⟨hf, ret0 ?_⟩
  have e : decide (0 ≤ idxP (tst f) l) = l.any (tst f) := by
    unfold idxP
    cases h : List.findIdx? (tst f) l with
    | none =>
      rw [List.findIdx?_eq_none_iff] at h
      symm
      simpa using h
    | some j =>
      rw [List.findIdx?_eq_some_iff_getElem] at h
      obtain ⟨h1, h2, _⟩ := h
      have : l.any (tst f) = true := List.any_eq_true.2 ⟨_, List.getElem_mem h1, h2⟩
      rw [this]; simp
  rw [← e] at hK; exact hK
def c_contains : Ctr Tryz.prog := ⟨98, ent Tryz.func98 rfl rfl, [], sp_contains, good_contains, []⟩
@[go_sem] theorem c_contains_f : c_contains.f = 98 := rfl
@[go_sem] theorem c_contains_ms : c_contains.ms = [] := rfl
@[go_sem] theorem c_contains_sp : c_contains.spec = sp_contains := rfl
@[go_sem] theorem c_contains_fz : c_contains.fz = [] := rfl
attribute [go_sem] sp_contains
theorem nb {b : Bool} (h : (!b) = true) : b = false := by simpa using h
theorem nb' {b : Bool} (h : (!b) = false) : b = true := by simpa using h
end Go.Proofs.YthfmlelodmcgkaaGreat.V
end
section
namespace Go.Proofs.YthfmlelodmcgkaaGreat.L
open Go Go.RowKit Go.Proofs.YthfmlelodmcgkaaGreatW.PrintWords Go.Proofs.YthfmlelodmcgkaaGreatW.PrintLast Go.Proofs.YthfmlelodmcgkaaGreatW.PrintMore Go.Proofs.YthfmlelodmcgkaaGreat.K
def isWordL (l : List Int) : Bool := decide (l.length ≤ 12) && (twiceL l && decide (normalL l = l))
structure Word (l : List Int) (n : Nat) : Prop where
  len : l.length = 2 * n
  small : n ≤ 6
  range : ∀ j, j < l.length → 0 ≤ rd l j ∧ rd l j < n
  two : ∀ i, i < n → l.count (i : Int) = 2
theorem normFrom_range (l : List Int) : ∀ met, ∀ y ∈ normFrom met l, 0 ≤ y ∧ y < ((metBy met l).length : Int) := by
  have hmono : ∀ (l : List Int) (met : List Int), met.length ≤ (metBy met l).length := by
    intro l
    induction l with
    | nil => intro met; exact Nat.le_refl _
    | cons x r ih =>
      intro met
      rw [metBy]
      split
      · exact ih met
      · have := ih (met ++ [x])
        simp at this
        omega
  induction l with
  | nil => intro met y hy; simp [normFrom] at hy
  | cons x r ih =>
    intro met y hy
    rw [normFrom] at hy
    rw [metBy]
    cases h : met.idxOf? x with
    | some j =>
      rw [h] at hy
      simp only at hy ⊢
      rcases List.mem_cons.mp hy with rfl | hy
      · have h1 := idxOf?_lt h
        have h2 := hmono r met
        omega
      · exact ih met y hy
    | none =>
      rw [h] at hy
      simp only at hy ⊢
      rcases List.mem_cons.mp hy with rfl | hy
      · have h2 := hmono r (met ++ [x])
        simp at h2
        omega
      · exact ih (met ++ [x]) y hy
theorem normFrom_onto (l : List Int) : ∀ met (k : Nat), met.length ≤ k → k < (metBy met l).length → (k : Int) ∈ normFrom met l := by
  induction l with
  | nil => intro met k h1 h2; simp [metBy] at h2; omega
  | cons x r ih =>
    intro met k h1 h2
    rw [metBy] at h2
    rw [normFrom]
    cases h : met.idxOf? x with
    | some j =>
      rw [h] at h2
      exact List.mem_cons_of_mem _ (ih met k h1 h2)
    | none =>
      rw [h] at h2
      simp only at h2 ⊢
      by_cases e : k = met.length
      · subst e; exact List.mem_cons_self
      · exact List.mem_cons_of_mem _ (ih (met ++ [x]) k (by simp; omega) h2)
theorem length_of_counts (n : Nat) : ∀ (l : List Int), (∀ y ∈ l, 0 ≤ y ∧ y < (n : Int)) → (∀ i : Nat, i < n → l.count (i : Int) = 2) → l.length = 2 * n := by
  induction n with
  | zero =>
    intro l h _
    cases l with
    | nil => rfl
    | cons y r =>
      have := h y List.mem_cons_self
      omega
  | succ n ih =>
    intro l h h2
    have h3 := ih (l.filter (fun y => y != (n : Int))) (fun y hy => by
      obtain ⟨hy1, hy2⟩ := List.mem_filter.mp hy
      have := h y hy1
      have : y ≠ (n : Int) := by simpa using hy2
      omega) (fun i hi => by
      rw [List.count_filter (by have : (i : Int) ≠ n := by omega
                                simpa using this)]
      exact h2 i (by omega))
    have h4 : l.length = (l.filter (fun y => y != (n : Int))).length + l.count (n : Int) := by
      clear h h2 h3 ih
      induction l with
      | nil => rfl
      | cons y r ihr =>
        by_cases e : y = (n : Int)
        · subst e; simp; omega
        · have h5 : (y != (n : Int)) = true := by simpa using e
          rw [List.filter_cons, if_pos h5, List.count_cons]
          simp [e]
          omega
    have := h2 n (by omega)
    omega
theorem word_of (l : List Int) (h : isWordL l = true) : ∃ n, Word l n := by
  unfold isWordL at h
  simp only [Bool.and_eq_true, decide_eq_true_eq] at h
  obtain ⟨h12, ht, hn⟩ := h
  have hr : ∀ y ∈ l, 0 ≤ y ∧ y < ((metBy [] l).length : Int) := by
    intro y hy
    exact normFrom_range l [] y (by
      have : normFrom [] l = l := hn
      rw [this]; exact hy)
  have hc : ∀ i : Nat, i < (metBy [] l).length → l.count (i : Int) = 2 := by
    intro i hi
    have hm : (i : Int) ∈ l := by
      have h5 := normFrom_onto l [] i (by simp) hi
      have : normFrom [] l = l := hn
      rw [this] at h5
      exact h5
    have := List.all_eq_true.mp ht _ hm
    simpa using this
  have hlen := length_of_counts _ l hr hc
  exact ⟨_, hlen, by omega, fun j hj => hr _ (rd_mem l j hj), hc⟩
theorem word_range {w : List Int} (hw : isWordL w = true) : w.length ≤ 12 ∧ ∀ x ∈ w, 0 ≤ x ∧ x < ((w.length / 2 : Nat) : Int) := by
  unfold isWordL at hw
  simp only [Bool.and_eq_true, decide_eq_true_eq] at hw
  obtain ⟨h12, ht, hn⟩ := hw
  have hN : normFrom [] w = w := hn
  have hr : ∀ y ∈ w, 0 ≤ y ∧ y < ((metBy [] w).length : Int) := by
    intro y hy
    exact normFrom_range w [] y (by rw [hN]; exact hy)
  have hc : ∀ i : Nat, i < (metBy [] w).length → w.count (i : Int) = 2 := by
    intro i hi
    have h5 := normFrom_onto w [] i (by simp) hi
    rw [hN] at h5
    have := List.all_eq_true.mp ht _ h5
    simpa using this
  have := length_of_counts _ w hr hc
  refine ⟨h12, fun x hx => ?_⟩
  have := hr x hx
  omega
structure Two (l : List Int) (x : Int) (a b : Nat) : Prop where
  ab : a < b
  bl : b < l.length
  ra : rd l a = x
  rb : rd l b = x
  only : ∀ j, j < l.length → rd l j = x → j = a ∨ j = b
theorem rd_append_left (s t : List Int) (j : Nat) (h : j < s.length) : rd (s ++ t) j = rd s j := by
  unfold rd
  rw [Int.toNat_natCast, List.getD_eq_getElem?_getD, List.getD_eq_getElem?_getD, List.getElem?_append_left h]
theorem rd_append_right (s t : List Int) (j : Nat) : rd (s ++ t) ((s.length + j : Nat) : Int) = rd t j := by
  unfold rd
  rw [Int.toNat_natCast, Int.toNat_natCast, List.getD_eq_getElem?_getD, List.getD_eq_getElem?_getD, List.getElem?_append_right (by omega), Nat.add_sub_cancel_left]
theorem rd_cons_zero (x : Int) (t : List Int) : rd (x :: t) ((0 : Nat) : Int) = x := rfl
theorem rd_cons_succ (x : Int) (t : List Int) (j : Nat) : rd (x :: t) ((j + 1 : Nat) : Int) = rd t j := by
  unfold rd
  rw [Int.toNat_natCast, Int.toNat_natCast, List.getD_cons_succ]
theorem rd_not_mem (s : List Int) (x : Int) (h : x ∉ s) (j : Nat) (hj : j < s.length) : rd s j ≠ x := fun e => h (e ▸ rd_mem s j hj)
theorem two_of_count (l : List Int) (x : Int) (h : l.count x = 2) : ∃ a b, Two l x a b := by
  obtain ⟨s, t, rfl, hs⟩ := List.eq_append_cons_of_mem (List.count_pos_iff.mp (show 0 < l.count x by omega))
  have h0 : s.count x = 0 := List.count_eq_zero.mpr hs
  rw [List.count_append, List.count_cons_self, h0] at h
  obtain ⟨s2, t2, rfl, hs2⟩ := List.eq_append_cons_of_mem (List.count_pos_iff.mp (show 0 < t.count x by omega))
  have h1 : s2.count x = 0 := List.count_eq_zero.mpr hs2
  rw [List.count_append, List.count_cons_self, h1] at h
  have ht2 : x ∉ t2 := List.count_eq_zero.mp (by omega)
  refine ⟨s.length, s.length + (s2.length + 1), by omega, by simp, ?_, ?_, fun j hj e => ?_⟩
  · have := rd_append_right s (x :: (s2 ++ x :: t2)) 0
    rw [Nat.add_zero] at this
    rw [this, rd_cons_zero]
  · rw [rd_append_right, rd_cons_succ]
    have := rd_append_right s2 (x :: t2) 0
    rw [Nat.add_zero] at this
    rw [this, rd_cons_zero]
  · rcases Nat.lt_or_ge j s.length with h1 | h1
    · rw [rd_append_left _ _ _ h1] at e
      exact absurd e (rd_not_mem s x hs j h1)
    · obtain ⟨k, rfl⟩ : ∃ k, j = s.length + k := ⟨j - s.length, by omega⟩
      rw [rd_append_right] at e
      match k with
      | 0 => exact Or.inl rfl
      | k + 1 =>
        rw [rd_cons_succ] at e
        right
        rcases Nat.lt_or_ge k s2.length with h2 | h2
        · rw [rd_append_left _ _ _ h2] at e
          exact absurd e (rd_not_mem s2 x hs2 k h2)
        · obtain ⟨u, rfl⟩ : ∃ u, k = s2.length + u := ⟨k - s2.length, by omega⟩
          rw [rd_append_right] at e
          match u with
          | 0 => omega
          | u + 1 =>
            rw [rd_cons_succ] at e
            simp only [List.length_append, List.length_cons] at hj
            exact absurd e (rd_not_mem t2 x ht2 u (by omega))
section
variable {l : List Int} {n : Nat} (hw : Word l n)
include hw
theorem Word.at_ (j : Nat) (hj : j < l.length) : ∃ (i a b : Nat), i < n ∧ rd l j = i ∧ Two l i a b ∧ (j = a ∨ j = b) := by
  obtain ⟨h0, h1⟩ := hw.range j hj
  obtain ⟨i, hi⟩ : ∃ i : Nat, rd l j = i := ⟨(rd l j).toNat, by omega⟩
  obtain ⟨a, b, ht⟩ := two_of_count l i (hw.two i (by omega))
  exact ⟨i, a, b, by omega, hi, ht, ht.only j hj hi⟩
end
theorem idxOf?_map (f : Int → Int) (x : Int) : ∀ met : List Int, (∀ y ∈ met, f y = f x → y = x) → (met.map f).idxOf? (f x) = met.idxOf? x := by
  intro met
  induction met with
  | nil => intro _; rfl
  | cons y r ih =>
    intro h
    rw [List.map_cons, List.idxOf?_cons, List.idxOf?_cons, ih fun z hz => h z (by simp [hz])]
    have : (f y == f x) = (y == x) := by
      by_cases e : y = x
      · subst e; simp
      · have h2 : f y ≠ f x := fun e2 => e (h y (by simp) e2)
        rw [beq_eq_false_iff_ne.mpr h2, beq_eq_false_iff_ne.mpr e]
    rw [this]
theorem normFrom_map (f : Int → Int) (l : List Int) : ∀ met : List Int, (∀ x ∈ met ++ l, ∀ y ∈ met ++ l, f x = f y → x = y) → normFrom (met.map f) (l.map f) = normFrom met l := by
  induction l with
  | nil => intro met _; rfl
  | cons x r ih =>
    intro met h
    rw [List.map_cons, normFrom, normFrom, idxOf?_map f x met fun y hy => h y (by simp [hy]) x (by simp)]
    cases hx : met.idxOf? x with
    | some j =>
      show (j : Int) :: _ = (j : Int) :: _
      rw [ih met fun a ha b hb => h a (by simp at ha ⊢; rcases ha with ha | ha <;> simp [ha]) b (by simp at hb ⊢; rcases hb with hb | hb <;> simp [hb])]
    | none =>
      have := ih (met ++ [x]) fun a ha b hb => h a (by simpa [or_assoc] using ha) b (by simpa [or_assoc] using hb)
      rw [List.map_append, List.map_cons, List.map_nil] at this
      rw [this, List.length_map]
theorem isW_eq (l : List Int) : V.isW l = isWordL l := rfl
end Go.Proofs.YthfmlelodmcgkaaGreat.L
end
section
namespace Go.Proofs.YthfmlelodmcgkaaGreat.V
open Go
abbrev LL := List (List Int)
def preF (g : Nat → LL) : Nat → LL
  | 0 => []
  | x + 1 => preF g x ++ g x
def fillL (n : Nat) : Nat → List Int → Nat → LL
  | 0, w, _ => [w]
  | d + 1, w, met => preF (fun x => if w.count (x : Int) < 2 then fillL n d (w ++ [(x : Int)]) (max met (x + 1)) else []) (min (met + 1) n)
def stepL (n d : Nat) (w : List Int) (met x : Nat) : LL := if w.count (x : Int) < 2 then fillL n d (w ++ [(x : Int)]) (max met (x + 1)) else []
theorem fillL_s (n d : Nat) (w : List Int) (met : Nat) : fillL n (d + 1) w met = preF (stepL n d w met) (min (met + 1) n) := rfl
theorem preF_len {g : Nat → LL} {b : Nat} (h : ∀ x, (g x).length ≤ b) : ∀ n, (preF g n).length ≤ n * b
  | 0 => by simp [preF]
  | n + 1 => by
    have h1 := preF_len h n
    have h2 := h n
    rw [preF, List.length_append, Nat.add_mul]; omega
theorem fillL_len (n : Nat) : ∀ (d : Nat) (w : List Int) (met : Nat), (fillL n d w met).length ≤ n ^ d
  | 0, w, met => by simp [fillL]
  | d + 1, w, met => by
    have h1 := preF_len (g := stepL n d w met) (b := n ^ d) (fun x => by
      unfold stepL
      split
      · exact fillL_len n d _ _
      · exact Nat.zero_le _) (min (met + 1) n)
    rw [fillL_s]
    refine Nat.le_trans h1 ?_
    rw [Nat.pow_succ, Nat.mul_comm (n ^ d)]
    exact Nat.mul_le_mul_right _ (Nat.min_le_right _ _)
theorem stepL_len (n d : Nat) (w : List Int) (met x : Nat) : (stepL n d w met x).length ≤ n ^ d := by
  unfold stepL
  split
  · exact fillL_len n d _ _
  · exact Nat.zero_le _
def onesL (w : List Int) (met : Nat) : List Int := ((List.range met).filter fun x : Nat => decide (w.count (x : Int) = 1)).map fun x : Nat => (x : Int)
theorem onesL_s (w : List Int) (met : Nat) : onesL w (met + 1) = onesL w met ++ if w.count (met : Int) = 1 then [(met : Int)] else [] := by
  unfold onesL
  rw [List.range_succ, List.filter_append, List.map_append]
  by_cases h : w.count (met : Int) = 1
  · simp [h]
  · simp [h]
theorem onesL_mem {w : List Int} {met : Nat} {x : Int} (h : x ∈ onesL w met) : ∃ i : Nat, x = i ∧ i < met ∧ w.count (i : Int) = 1 := by
  obtain ⟨i, hi, rfl⟩ := List.mem_map.1 h
  have := List.mem_filter.1 hi
  exact ⟨i, rfl, List.mem_range.1 this.1, by simpa using this.2⟩
theorem onesL_len (w : List Int) : ∀ met, (onesL w met).length ≤ met
  | 0 => by simp [onesL]
  | m + 1 => by
    have := onesL_len w m
    rw [onesL_s, List.length_append]
    split <;> simp <;> omega
theorem onesL_nodup (w : List Int) : ∀ met, (onesL w met).Nodup
  | 0 => by simp [onesL]
  | m + 1 => by
    rw [onesL_s]
    split
    · rw [List.nodup_append]
      refine ⟨onesL_nodup w m, by simp, fun a ha b hb => ?_⟩
      obtain ⟨i, rfl, hi, _⟩ := onesL_mem ha
      have hb : b = (m : Int) := by simpa using hb
      omega
    · simpa using onesL_nodup w m
def begB (w : List Int) (met : Nat) : Prop := (∀ x ∈ w, 0 ≤ x ∧ x < (met : Int)) ∧ ∀ i : Nat, i < met → 1 ≤ w.count (i : Int) ∧ w.count (i : Int) ≤ 2
theorem begB_nil : begB [] 0 := ⟨fun x hx => by simp at hx, fun i hi => by omega⟩
theorem count_snoc (w : List Int) (a x : Int) : (w ++ [a]).count x = w.count x + if a = x then 1 else 0 := by
  rw [List.count_append, List.count_singleton]
  simp
theorem begB_count {w : List Int} {met x : Nat} (h : begB w met) (hx : met ≤ x) : w.count (x : Int) = 0 := by
  rw [List.count_eq_zero]
  intro hm
  have := (h.1 _ hm).2
  omega
theorem begB_old {w : List Int} {met x : Nat} (h : begB w met) (hx : x < met) (h1 : w.count (x : Int) = 1) : begB (w ++ [(x : Int)]) met := by
  refine ⟨fun y hy => ?_, fun i hi => ?_⟩
  · rcases List.mem_append.1 hy with hy | hy
    · exact h.1 y hy
    · have : y = (x : Int) := by simpa using hy
      omega
  · rw [count_snoc]
    have := h.2 i hi
    split
    · rename_i e
      have : x = i := by omega
      subst this
      omega
    · omega
theorem begB_new {w : List Int} {met : Nat} (h : begB w met) : begB (w ++ [(met : Int)]) (met + 1) := by
  refine ⟨fun y hy => ?_, fun i hi => ?_⟩
  · rcases List.mem_append.1 hy with hy | hy
    · have := h.1 y hy; omega
    · have : y = (met : Int) := by simpa using hy
      omega
  · rw [count_snoc]
    by_cases e : i = met
    · subst e
      rw [begB_count h (Nat.le_refl _)]; simp
    · have := h.2 i (by omega)
      rw [if_neg (by omega)]; omega
theorem onesL_new {w : List Int} {met : Nat} (h : begB w met) : onesL (w ++ [(met : Int)]) (met + 1) = onesL w met ++ [(met : Int)] := by
  rw [onesL_s, count_snoc, begB_count h (Nat.le_refl _), if_pos rfl, if_pos rfl]
  congr 1
  unfold onesL
  congr 1
  refine List.filter_congr fun x hx => ?_
  have hx := List.mem_range.1 hx
  rw [count_snoc, if_neg (by omega)]; simp
theorem onesL_old {w : List Int} {met : Nat} {k : Nat} (hk : k < (onesL w met).length) : onesL (w ++ [(onesL w met)[k]]) met = (onesL w met).eraseIdx k := by
  have e : onesL (w ++ [(onesL w met)[k]]) met = (onesL w met).filter (fun x => decide (x ≠ (onesL w met)[k])) := by
    obtain ⟨i, hi, him, hc⟩ := onesL_mem (List.getElem_mem hk)
    rw [hi]
    unfold onesL
    rw [List.filter_map, List.filter_filter]
    congr 1
    refine List.filter_congr fun x hx => ?_
    simp only [Function.comp]
    rw [count_snoc]
    by_cases e : i = x
    · subst e
      rw [if_pos rfl, hc]; simp
    · rw [if_neg (by omega)]
      have : ¬ ((x : Int) = (i : Int)) := by omega
      simp [this]
  rw [e]
  have hn := onesL_nodup w met
  generalize onesL w met = l at *
  clear e
  induction l generalizing k with
  | nil => simp at hk
  | cons a l ih =>
    have hn' := List.nodup_cons.1 hn
    cases k with
    | zero =>
      simp only [List.getElem_cons_zero, List.eraseIdx_cons_zero]
      rw [List.filter_cons_of_neg (by simp), List.filter_eq_self]
      intro x hx
      have : x ≠ a := fun e => hn'.1 (e ▸ hx)
      simp [this]
    | succ k =>
      simp only [List.getElem_cons_succ, List.eraseIdx_cons_succ]
      have hkl : k < l.length := by simpa using hk
      have : a ≠ l[k] := fun e => hn'.1 (e ▸ List.getElem_mem hkl)
      rw [List.filter_cons_of_pos (by simp [this]), ih hkl hn'.2]
def onesF (n d : Nat) (w : List Int) (met k : Nat) : LL := ((onesL w met).take k).flatMap fun x => fillL n d (w ++ [x]) met
theorem onesF_s {n d : Nat} {w : List Int} {met k : Nat} (hk : k < (onesL w met).length) : onesF n d w met (k + 1) = onesF n d w met k ++ fillL n d (w ++ [(onesL w met)[k]]) met := by
  unfold onesF
  rw [List.take_succ_eq_append_getElem hk, List.flatMap_append]; simp
theorem pre_ones (n d : Nat) (w : List Int) (met : Nat) : ∀ m, m ≤ met → (∀ i : Nat, i < met → 1 ≤ w.count (i : Int) ∧ w.count (i : Int) ≤ 2) → preF (stepL n d w met) m = (onesL w m).flatMap fun x => fillL n d (w ++ [x]) met
  | 0, _, _ => by simp [preF, onesL]
  | m + 1, hm, h => by
    rw [preF, pre_ones n d w met m (by omega) h, onesL_s, List.flatMap_append]
    congr 1
    unfold stepL
    have h1 := h m (by omega)
    by_cases e : w.count (m : Int) = 1
    · rw [if_pos (by omega), if_pos e, Nat.max_eq_left (by omega)]; simp
    · rw [if_neg (by omega), if_neg e]; simp
theorem fill_ones {n d : Nat} {w : List Int} {met : Nat} (h : begB w met) (hm : met ≤ n) : fillL n (d + 1) w met = onesF n d w met (onesL w met).length ++ if met < n then fillL n d (w ++ [(met : Int)]) (met + 1) else [] := by
  rw [fillL_s, onesF, List.take_length]
  by_cases e : met < n
  · rw [if_pos e, Nat.min_eq_left (by omega), preF, pre_ones n d w met met (Nat.le_refl _) h.2]
    congr 1
    unfold stepL
    rw [begB_count h (Nat.le_refl _), if_pos (by omega), Nat.max_eq_right (by omega)]
  · have : met = n := by omega
    subst this
    rw [if_neg e, Nat.min_eq_right (by omega), pre_ones _ d w _ _ (Nat.le_refl _) h.2, List.append_nil]
def allL (n : Nat) : LL := fillL n (2 * n) [] 0
end Go.Proofs.YthfmlelodmcgkaaGreat.V
end
section
namespace Go.Proofs.YthfmlelodmcgkaaGreat.V
open Go
abbrev kR : Kn := .sl 2 (.int .i64)
abbrev RowL := List (List Int)
end Go.Proofs.YthfmlelodmcgkaaGreat.V
end
section
namespace Go.Proofs.YthfmlelodmcgkaaGreat.V
open Go
theorem sub_flat {P : Program} {i : Nat} {t : TypeId} {k : Kn} {s : S} (h : lk s.os i = some (.drow t k [])) : Sub P s ⟨s.n, s.rs, (i, .row t k []) :: s.os⟩ := by
  rintro X a w ⟨E, rfl, hI, hr⟩
  have hD := (hI.dom i).2 (by rw [h]; rfl)
  obtain ⟨xs, φ', h1, h2, h3, h4, h5⟩ := hI.obj i _ h
  obtain ⟨rfl, h6⟩ := h2
  obtain ⟨m1, m2⟩ := hI.set i (E.σ i) (E.φ i) (E.ι i) (.row t k []) (fun _ => ⟨rfl, rfl⟩) (fun _ h => absurd hD h) ⟨[], h1, rfl, Nat.zero_le _, fun b => by rw [h4]; simp [h6]⟩
    (fun _ b hb => ⟨(hI.nof i _ h rfl b hb).1, (hI.nof i _ h rfl b hb).2, fun j o hj hlk hlo => hI.dis i j _ _ (Ne.symm hj) h hlk rfl hlo b hb⟩)
  exact ⟨E.at i (E.σ i) (E.φ i) (E.ι i), rfl, m1, hr.defers, hr.size, fun t => RV.mono m2 (hr.reg t)⟩
def mvA (i j : Nat) (a : A) : A := match a with
  | .own k => match Nat.beq k i with | true => .own j | false => .own k
  | a => a
theorem mvA_ok {P : Program} {E : Env} {i j : Nat} (hD : E.D j) (hs : E.σ j = E.σ i) {a : A} {u : Value} (h : AV P E a u) : AV P E (mvA i j a) u := by
  unfold mvA
  split
  · rename_i k
    split
    · rename_i e
      have e := Nat.eq_of_beq_eq_true e
      subst e
      exact ⟨hD, by rw [hs]; exact h.2⟩
    · exact h
  · exact h
theorem mvL_ok {P : Program} {E : Env} {i j : Nat} (hD : E.D j) (hs : E.σ j = E.σ i) : ∀ {az_ : List A} {us : List Value}, All2 (AV P E) az_ us → All2 (AV P E) (az_.map (mvA i j)) us
  | [], [], h => h
  | _ :: _, _ :: _, ⟨h1, h2⟩ => ⟨mvA_ok hD hs h1, mvL_ok hD hs h2⟩
theorem sub_move {P : Program} {i j c : Nat} {o : Obj'} {t : TypeId} {az_ : List A} {s : S} (h : lk s.os i = some o) (hl : o.live = true) (hj : lk s.os j = none) (h16 : 16 ≤ j) (hc : lk s.os c = some (.box t az_)) (hci : Nat.beq c i = false) :
    Sub P s ⟨s.n, s.rs, (c, .box t (az_.map (mvA i j))) :: (j, o) :: (i, .dead) :: s.os⟩ := by
  rintro X a w ⟨E, rfl, hI, hr⟩
  have hX : ¬ X.D j := fun h => by have := hI.pin _ h; omega
  have hne : i ≠ c := fun e => by subst e; simp at hci
  have hjc : j ≠ c := fun e => by rw [e, hc] at hj; cases hj
  obtain ⟨E1, h1, h2, h3, h4, h5⟩ := hI.move (i := i) (d := j) h hl hj hX (grown_refl E.w none) (fun b hb => by cases hb) (E.σ i) (E.φ i) (E.ι i) o (fun b hb => .inl hb) (fun E' hle hw => OSat.mono hle (fun _ b _ => by rw [hw]) (hI.obj i _ h))
  have hD : E.D i := (hI.dom i).2 (by rw [h]; rfl)
  have hs : E1.σ j = E1.σ i := by rw [h5, h2.σ i hD]
  have hc1 : lk ((j, o) :: (i, .dead) :: s.os) c = some (.box t az_) := by rw [lk_ne _ _ hjc, lk_ne _ _ hne]; exact hc
  obtain ⟨b, us, k1, k2, k3, k4, k5⟩ := h3.obj c _ hc1
  obtain ⟨E2, m1, m2, m3⟩ := h3.upd (b := b) (w' := E1.w) hc1 rfl ((k5 b).2 (by rw [k1]; rfl)) (grown_refl _ _) (.box t (az_.map (mvA i j))) (fun E' hle hw => ⟨b, us, k1, by rw [hw]; exact k2, (mvL_ok h4 hs k3).imp (fun _ _ h => AV.mono hle h), k4, k5⟩)
  exact ⟨E2, m1.trans h1, m3, hr.defers, hr.size, fun t => RV.mono m2 (RV.mono h2 (hr.reg t))⟩
theorem good_ex {P : Program} {f : FuncId} {α : Type} {sp : List Cv → List Obj' → Tree} {sps : α → List Cv → List Obj' → Tree} (h : ∀ x, Good P f (sps x)) (hs : ∀ cs os K, (sp cs os).run K → ∃ x, (sps x cs os).run K) : Good P f sp := by
  intro E0 cs os0 vs K hF hD h16 hO hdis hnof ha hK
  obtain ⟨x, hx⟩ := hs cs os0 K hK
  exact h x E0 cs os0 vs K hF hD h16 hO hdis hnof ha hx
def nilR (k : Kn) : Cv → Cv
  | .one (.v (.slice none 0 0)) => .one (.ro k [])
  | c => c
theorem nilR_ok {P : Program} {E : Env} {k : Kn} {c : Cv} {u : Value} (h : CV P E c u) : CV P E (nilR k c) u := by
  unfold nilR
  split
  · obtain ⟨⟨rfl, h1⟩, h2⟩ := h
    exact ⟨⟨none, 0, rfl, Nat.le_refl _, Nat.zero_le _, fun j hj => absurd hj (Nat.not_lt_zero j)⟩, h2⟩
  · exact h
theorem nilR_all {P : Program} {E : Env} {k : Kn} : ∀ {cs : List Cv} {us : List Value}, All2 (CV P E) cs us → All2 (CV P E) (cs.map (nilR k)) us
  | [], [], h => h
  | _ :: _, _ :: _, ⟨h1, h2⟩ => ⟨nilR_ok h1, nilR_all h2⟩
theorem good_nil {P : Program} {f : FuncId} (k : Kn) {sp sp' : List Cv → List Obj' → Tree} (h : Good P f sp) (hs : ∀ cs os K, (sp' cs os).run K → (sp (cs.map (nilR k)) os).run K) : Good P f sp' :=
  fun E0 cs os0 vs K hF hD h16 hO hdis hnof ha hK => h E0 _ os0 vs K hF hD h16 hO hdis hnof (nilR_all ha) (hs cs os0 K hK)
end Go.Proofs.YthfmlelodmcgkaaGreat.V
end
section
namespace Go.Proofs.YthfmlelodmcgkaaGreat.V
open Go
abbrev tRR : Nat := 26
def sp_fill (d : Nat) : List Cv → List Obj' → Tree
  | [.one (.ro (.int .i64) w), .one (.v (.int .i64 m)), .one (.v (.int .i64 n))], [] =>
    .need ((0 ≤ m ∧ m ≤ n ∧ n ≤ 5) ∧ ((w : List Int).length : Int) + (d : Nat) = 2 * n) (.ret (.val (.one (.ro (.sl 2 (.int .i64)) (fillL n.toNat d w m.toNat)))) [])
  | _, _ => .fail
set_option maxHeartbeats 4000000 in
set_option maxRecDepth 100000 in
theorem good_fill0 : Good Tryz.prog 130 (sp_fill 0) := by
  refine good_ofF Tryz.func130 rfl _ rfl _ rfl (tab [c_own]) (fun X cs os0 K hok hos hK => ?_)
  clear hos; unfold sp_fill at hK
  split at hK
  case h_2 => exact hK.elim
  rename_i w m n
  refine ⟨by simp, by simp, ?_⟩
  simp only [go_sem] at hK hok
  simp (maxSteps := 4000000) only [go_sem, Tryz.f130, ↓brB_t, ↓brB_f, Nat.reduceAdd, Int.reduceLE, Int.reduceLT, Int.reduceNeg, decide_true, decide_false, Bool.and_self, Nat.succ_eq_add_one, Int.toNat_natCast, Nat.beq_refl, Bool.and_true, Bool.true_and, Bool.false_or, Bool.or_true, List.all_cons, List.all_nil, Nat.reduceMul, Nat.add_zero, Nat.zero_add, List.length_nil, List.length_cons, dite_true, List.nil_append, Nat.reduceBEq, reduceDIte, reduceIte, reduceCtorEq, Bool.or_false, Bool.true_or, Bool.and_false, Bool.false_and, Bool.not_true, Bool.not_false, Option.isSome_some, Option.isSome_none, Option.getD_some, List.getElem?_cons_zero, List.getElem?_cons_succ, eq_self, and_self, List.take_succ_cons, List.take_zero, List.drop_succ_cons, List.drop_zero]
  obtain ⟨⟨⟨h0, hm, hn⟩, hl⟩, hK⟩ := hK
  clear hok
  refine brB_intro (fun h1 => retN [] rfl hK) (fun h1 => ?_)
  have h1 := of_decide_eq_false h1
  rw [w64_id (by omega) (by omega)] at h1
  omega
def c_fill (d : Nat) (ih : Good Tryz.prog 130 (sp_fill d)) : Ctr Tryz.prog := ⟨130, ent Tryz.func130 rfl rfl, [], sp_fill d, ih, [true]⟩
@[go_sem] theorem c_fill_f (d : Nat) (ih : Good Tryz.prog 130 (sp_fill d)) : (c_fill d ih).f = 130 := rfl
@[go_sem] theorem c_fill_ms (d : Nat) (ih : Good Tryz.prog 130 (sp_fill d)) : (c_fill d ih).ms = [] := rfl
@[go_sem] theorem c_fill_s (d : Nat) (ih : Good Tryz.prog 130 (sp_fill d)) : (c_fill d ih).spec = sp_fill d := rfl
@[go_sem] theorem c_fill_fz (d : Nat) (ih : Good Tryz.prog 130 (sp_fill d)) : (c_fill d ih).fz = [true] := rfl
attribute [go_sem] sp_fill
set_option maxHeartbeats 4000000 in
set_option maxRecDepth 100000 in
theorem good_fillS (d : Nat) (ih : Good Tryz.prog 130 (sp_fill d)) : Good Tryz.prog 130 (sp_fill (d + 1)) := by
  refine good_ofF Tryz.func130 rfl _ rfl _ rfl (tab [c_own, c_fill d ih]) (fun X cs os0 K hok hos hK => ?_)
  clear hos; unfold sp_fill at hK
  split at hK
  case h_2 => exact hK.elim
  rename_i w m n
  refine ⟨by simp, by simp, ?_⟩
  simp only [go_sem] at hK hok
  simp (maxSteps := 4000000) only [go_sem, Tryz.f130, ↓brB_t, ↓brB_f, Nat.reduceAdd, Int.reduceLE, Int.reduceLT, Int.reduceNeg, decide_true, decide_false, Bool.and_self, Nat.succ_eq_add_one, Int.toNat_natCast, Nat.beq_refl, Bool.and_true, Bool.true_and, Bool.false_or, Bool.or_true, List.all_cons, List.all_nil, Nat.reduceMul, Nat.add_zero, Nat.zero_add, List.length_nil, List.length_cons, dite_true, List.nil_append, Nat.reduceBEq, reduceDIte, reduceIte, reduceCtorEq, Bool.or_false, Bool.true_or, Bool.and_false, Bool.false_and, Bool.not_true, Bool.not_false, Option.isSome_some, Option.isSome_none, Option.getD_some, List.getElem?_cons_zero, List.getElem?_cons_succ, eq_self, and_self, List.take_succ_cons, List.take_zero, List.drop_succ_cons, List.drop_zero]
  obtain ⟨⟨⟨h0, hm, hn⟩, hl⟩, hK⟩ := hK
  clear hok
  refine brB_intro (fun h1 => ?_) (fun h1 => ?_)
  · have h1 := of_decide_eq_true h1
    rw [w64_id (by omega) (by omega)] at h1
    omega
  clear h1
  obtain ⟨M, rfl⟩ : ∃ M : Nat, m = M := ⟨m.toNat, by omega⟩
  obtain ⟨N, rfl⟩ : ∃ N : Nat, n = N := ⟨n.toNat, by omega⟩
  rw [Int.toNat_natCast, Int.toNat_natCast, fillL_s] at hK
  have hsl : ∀ x, (stepL N d w M x).length ≤ N ^ d := stepL_len N d w M
  have hpl : ∀ x, (preF (stepL N d w M) x).length ≤ x * N ^ d := preF_len hsl
  have hN5 : N ^ d ≤ 9765625 := Nat.le_trans (Nat.pow_le_pow_left (show N ≤ 5 by omega) d) (Nat.le_trans (Nat.pow_le_pow_right (by omega) (show d ≤ 10 by omega)) (by decide))
  refine holds_sub (sub_flat (i := 304) (t := tRR) (k := kR) rfl) ?_
  refine loop_okF (T := tab [c_own, c_fill d ih]) [0, 1, 2, 7, 8] [(16, 304)] (fun x : Nat => ⟨59, [(0, ri w), (1, vi M), (2, vi N), (7, ow 16), (8, vi x)], [(16, .row tRR kR (preF (stepL N d w M) x))]⟩)
    (fun x => x ≤ min (M + 1) N) (fun x => min (M + 1) N - x) 0 rfl rfl (Nat.zero_le _) (fun x hx => ?_)
  simp only [go_sem, ↓brB_t, ↓brB_f, Nat.reduceAdd, Int.reduceLE, Int.reduceLT, Int.reduceNeg, decide_true, decide_false, Bool.and_self, Nat.succ_eq_add_one, Int.toNat_natCast, Nat.beq_refl, Bool.and_true, Bool.true_and, Bool.false_or, Bool.or_true, List.all_cons, List.all_nil, Nat.reduceMul, Nat.add_zero, Nat.zero_add, List.length_nil, List.length_cons, dite_true, List.nil_append, Nat.reduceBEq, reduceDIte, reduceIte, reduceCtorEq, Bool.or_false, Bool.true_or, Bool.and_false, Bool.false_and, Bool.not_true, Bool.not_false, Option.isSome_some, Option.isSome_none, Option.getD_some, List.getElem?_cons_zero, List.getElem?_cons_succ, eq_self, and_self, List.take_succ_cons, List.take_zero, List.drop_succ_cons, List.drop_zero]
  refine brB_intro (fun h1 => brB_intro (fun h2 => ?_) (fun h2 => ?_)) (fun h1 => ?_)
  · have h1 := of_decide_eq_true h1
    have h2 := of_decide_eq_true h2
    have hs := hpl x
    have hxn : x * N ^ d ≤ 5 * 9765625 := Nat.mul_le_mul (by omega) hN5
    have hw1 : w64 ((x : Int) + 1) = ((x + 1 : Nat) : Int) := w64_id (by omega) (by omega)
    refine loop_okF (T := tab [c_own, c_fill d ih]) [0, 1, 2, 7, 8, 9, 10] [(16, 16)] (fun i : Nat => ⟨59, [(0, ri w), (1, vi M), (2, vi N), (7, ow 16), (8, vi x), (9, vi ((w.take i).count (x : Int) : Nat)), (10, vi i)], [(16, .row tRR kR (preF (stepL N d w M) x))]⟩)
      (fun i => i ≤ w.length) (fun i => w.length - i) 0 rfl rfl (Nat.zero_le _) (fun i hi => ?_)
    have hcl := List.count_le_length (a := (x : Int)) (l := w.take i)
    rw [List.length_take] at hcl
    simp only [go_sem, ↓brB_t, ↓brB_f, Nat.reduceAdd, Int.reduceLE, Int.reduceLT, Int.reduceNeg, decide_true, decide_false, Bool.and_self, Nat.succ_eq_add_one, Int.toNat_natCast, Nat.beq_refl, Bool.and_true, Bool.true_and, Bool.false_or, Bool.or_true, List.all_cons, List.all_nil, Nat.reduceMul, Nat.add_zero, Nat.zero_add, List.length_nil, List.length_cons, dite_true, List.nil_append, Nat.reduceBEq, reduceDIte, reduceIte, reduceCtorEq, Bool.or_false, Bool.true_or, Bool.and_false, Bool.false_and, Bool.not_true, Bool.not_false, Option.isSome_some, Option.isSome_none, Option.getD_some, List.getElem?_cons_zero, List.getElem?_cons_succ, eq_self, and_self, List.take_succ_cons, List.take_zero, List.drop_succ_cons, List.drop_zero]
    refine brB_intro (fun h3 => ?_) (fun h3 => ?_)
    · have h3 := of_decide_eq_true h3
      have hi1 : w64 ((i : Int) + 1) = ((i + 1 : Nat) : Int) := w64_id (by omega) (by omega)
      have hcs : (w.take (i + 1)).count (x : Int) = (w.take i).count (x : Int) + if w.getD i 0 = (x : Int) then 1 else 0 := by
        rw [List.take_succ_eq_append_getElem (by omega), count_snoc, getD_eq (by omega)]
      refine ⟨⟨by omega, by omega⟩, brB_intro (fun h4 => ?_) (fun h4 => ?_)⟩
      · have h4 := of_decide_eq_true h4
        rw [if_pos h4] at hcs
        refine ⟨i + 1, [(16, 16)], by omega, by omega, rfl, ?_⟩
        rw [hi1, hcs, w64_id (by omega) (by omega)]; rfl
      · have h4 := of_decide_eq_false h4
        rw [if_neg h4] at hcs
        refine ⟨i + 1, [(16, 16)], by omega, by omega, rfl, ?_⟩
        rw [hi1, hcs]; rfl
    · have h3 := of_decide_eq_false h3
      have e : i = w.length := by omega
      subst e
      rw [List.take_length] at hcl ⊢
      have hps : preF (stepL N d w M) (x + 1) = preF (stepL N d w M) x ++ stepL N d w M x := rfl
      have hsx := hsl x
      refine brB_intro (fun h4 => ?_) (fun h4 => ?_)
      · have h4 := of_decide_eq_true h4
        have hst : stepL N d w M x = fillL N d (w ++ [(x : Int)]) (max M (x + 1)) := if_pos (by omega)
        rw [hst] at hps hsx
        have hmx : mx (M : Int) (w64 ((x : Int) + 1)) = ((max M (x + 1) : Nat) : Int) := by
          rw [hw1]; unfold mx; split <;> omega
        have hla : (w ++ [(x : Int)]).length = w.length + 1 := by rw [List.length_append]; rfl
        rw [hmx]
        refine ⟨by omega, by omega, ⟨⟨by omega, by omega, hn⟩, by rw [hla]; omega⟩, by rw [Int.toNat_natCast]; omega, x + 1, [(16, 928)], by omega, by omega, rfl, ?_⟩
        rw [hw1, hps, Int.toNat_natCast]; rfl
      · have h4 := of_decide_eq_false h4
        have hst : stepL N d w M x = [] := if_neg (by omega)
        rw [hst, List.append_nil] at hps
        refine ⟨x + 1, [(16, 16)], by omega, by omega, rfl, ?_⟩
        rw [hw1, hps]; rfl
  · have h1 := of_decide_eq_true h1
    have h2 := of_decide_eq_false h2
    have e : x = min (M + 1) N := by omega
    rw [e]; exact retN [] rfl hK
  · have h1 := of_decide_eq_false h1
    have e : x = min (M + 1) N := by omega
    rw [e]; exact retN [] rfl hK
theorem good_fill : ∀ d, Good Tryz.prog 130 (sp_fill d)
  | 0 => good_fill0
  | d + 1 => good_fillS d (good_fill d)
def sp_allN (N : Nat) : List Cv → List Obj' → Tree
  | [.one (.v (.int .i64 n))], [] => .need (n = (N : Nat) ∧ N ≤ 5) (.ret (.val (.one (.ro (.sl 2 (.int .i64)) (allL N)))) [])
  | _, _ => .fail
set_option maxHeartbeats 4000000 in
set_option maxRecDepth 100000 in
theorem good_allN (N : Nat) : Good Tryz.prog 87 (sp_allN N) := by
  refine good_ofF Tryz.func87 rfl _ rfl _ rfl (tab [c_fill (2 * N) (good_fill (2 * N))]) (fun X cs os0 K hok hos hK => ?_)
  clear hos; unfold sp_allN at hK
  split at hK
  case h_2 => exact hK.elim
  rename_i n
  refine ⟨by simp, by simp, ?_⟩
  simp only [go_sem] at hK hok
  simp (maxSteps := 4000000) only [go_sem, Tryz.f87, ↓brB_t, ↓brB_f, Nat.reduceAdd, Int.reduceLE, Int.reduceLT, Int.reduceNeg, decide_true, decide_false, Bool.and_self, Nat.succ_eq_add_one, Int.toNat_natCast, Nat.beq_refl, Bool.and_true, Bool.true_and, Bool.false_or, Bool.or_true, List.all_cons, List.all_nil, Nat.reduceMul, Nat.add_zero, Nat.zero_add, List.length_nil, List.length_cons, dite_true, List.nil_append, Nat.reduceBEq, reduceDIte, reduceIte, reduceCtorEq, Bool.or_false, Bool.true_or, Bool.and_false, Bool.false_and, Bool.not_true, Bool.not_false, Option.isSome_some, Option.isSome_none, Option.getD_some, List.getElem?_cons_zero, List.getElem?_cons_succ, eq_self, and_self, List.take_succ_cons, List.take_zero, List.drop_succ_cons, List.drop_zero]
  obtain ⟨⟨rfl, hN⟩, hK⟩ := hK
  clear hok
  refine ⟨⟨⟨trivial, by omega, by omega⟩, by omega⟩, retN [] rfl ?_⟩
  show K (Rv.val (Cv.one (A.ro (Kn.sl 2 (Kn.int IntKind.i64)) (fillL ((N : Nat) : Int).toNat (2 * N) [] (Int.toNat 0))))) []
  rw [Int.toNat_natCast]; exact hK
def sp_all : List Cv → List Obj' → Tree
  | [.one (.v (.int .i64 n))], [] => .need (0 ≤ n ∧ n ≤ 5) (.ret (.val (.one (.ro (.sl 2 (.int .i64)) (allL n.toNat)))) [])
  | _, _ => .fail
theorem good_all : Good Tryz.prog 87 sp_all := good_ex good_allN fun cs os K h => by
  unfold sp_all at h
  split at h
  case h_2 => exact h.elim
  rename_i n
  obtain ⟨⟨h0, h5⟩, h⟩ := h
  exact ⟨n.toNat, ⟨by omega, by omega⟩, h⟩
def c_all : Ctr Tryz.prog := ⟨87, ent Tryz.func87 rfl rfl, [], sp_all, good_all, []⟩
@[go_sem] theorem c_all_f : c_all.f = 87 := rfl
@[go_sem] theorem c_all_ms : c_all.ms = [] := rfl
@[go_sem] theorem c_all_sp : c_all.spec = sp_all := rfl
@[go_sem] theorem c_all_fz : c_all.fz = [] := rfl
attribute [go_sem] sp_all
end Go.Proofs.YthfmlelodmcgkaaGreat.V
end
section
namespace Go.Proofs.YthfmlelodmcgkaaGreat.V
open Go Go.Shelf Go.Proofs
def dl_ren : Go.Shelf.Ren := ⟨fun | 45 => 148 | n => n, fun | 22 => 26 | 23 => 2 | 3 => 3 | 0 => 0 | 4 => 4 | n => n, fun | n => n⟩
theorem dl_lay : Go.Proofs.SlLaysE.n45 Tryz.prog dl_ren := {
  mixed := by kernel_rfl,
  f45 := ⟨Tryz.f148.name, by decide, Tryz.func148.trans (congrArg some (by kernel_rfl))⟩,
  t0 := Tryz.underlying0,
  a0 := Tryz.isAgg0,
  z0 := Tryz.sizeOf0,
  v0 := Tryz.zeroValue0,
  t3 := Tryz.underlying3,
  a3 := Tryz.isAgg3,
  z3 := Tryz.sizeOf3,
  v3 := Tryz.zeroValue3,
  t4 := Tryz.underlying4,
  a4 := Tryz.isAgg4,
  z4 := Tryz.sizeOf4,
  v4 := Tryz.zeroValue4,
  t22 := Tryz.underlying26,
  a22 := Tryz.isAgg26,
  z22 := Tryz.sizeOf26,
  v22 := Tryz.zeroValue26,
  a23 := Tryz.isAgg2,
  z23 := Tryz.sizeOf2 }
def sp_delAt : List Cv → List Obj' → Tree
  | [.one (.own 0), .one (.v (.int .i64 i)), .one (.v (.int .i64 j))], [.row 2 (.int .i64) l] => .need (0 ≤ i ∧ i < j ∧ j ≤ (l.length : Int)) (.ret (ow 1) [.dead, rwi (l.take i.toNat ++ l.drop j.toNat)])
  | _, _ => .fail
theorem putC_take (F : Array Int) (c : Array Value) (h : F.size ≤ c.size) : (Go.Sort.putCells (Value.int .i64) 0 F c).toList.take F.size = F.toList.map (Value.int .i64) := by
  apply List.ext_getElem?
  intro t
  rw [List.getElem?_take]
  by_cases ht : t < F.size
  · rw [if_pos ht]
    have hc : t < c.size := by omega
    simp [Go.Sort.putCells, ht, hc]
  · rw [if_neg ht]
    simp [ht]
theorem reps_ints {F : Nat → Prop} {w : World} : ∀ {l : List Int} {xs : List Value}, Reps F w (.int .i64) l xs → xs = l.map (Value.int .i64) ∧ ∀ x ∈ l, okI .i64 x
  | [], xs, h => ⟨h, fun _ h => (by cases h)⟩
  | x :: l, xs, ⟨c1, c2, h, ⟨h1, h2⟩, h3⟩ => by
    obtain ⟨e, k⟩ := reps_ints h3
    refine ⟨by rw [h, h1, e]; rfl, fun y hy => ?_⟩
    rcases List.mem_cons.1 hy with rfl | hy
    · exact h2
    · exact k y hy
theorem ints_reps {F : Nat → Prop} {w : World} : ∀ {l : List Int}, (∀ x ∈ l, okI .i64 x) → Reps F w (.int .i64) l (l.map (Value.int .i64))
  | [], _ => rfl
  | x :: l, h => ⟨[.int .i64 x], _, rfl, ⟨rfl, h x List.mem_cons_self⟩, ints_reps fun y hy => h y (List.mem_cons_of_mem _ hy)⟩
theorem good_delAt : Good Tryz.prog 148 sp_delAt := by
  intro E0 cs os0 vs Kc hF hD h16 hO hdis hnof ha hK
  have hI := Inv.enter hF hD h16 hO hdis hnof
  unfold sp_delAt at hK
  split at hK
  case h_2 => exact hK.elim
  rename_i i j l
  obtain ⟨u1, u2, u3, rfl, hu1, hu2, hu3⟩ := three_args ha
  obtain ⟨⟨hD0, rfl⟩, hone⟩ := hu1
  obtain ⟨⟨rfl, _⟩, _⟩ := hu2
  obtain ⟨⟨rfl, _⟩, _⟩ := hu3
  obtain ⟨⟨h0, hij, hjl⟩, hK⟩ := hK
  obtain ⟨⟨xs, k1, k2, k3, k4⟩, _⟩ := hO 0 (by simp)
  obtain ⟨rfl, hls⟩ := reps_ints k2
  obtain ⟨k5, k6⟩ := k1
  rcases k6 with ⟨_, hn⟩ | ⟨g, cap, cur, e, _, hcur, hnc, hcm, hcs, htk⟩
  · omega
  obtain ⟨m, rfl⟩ : ∃ m : Nat, i = m := ⟨i.toNat, by omega⟩
  obtain ⟨n, rfl⟩ : ∃ n : Nat, j = n := ⟨j.toNat, by omega⟩
  simp only [Int.toNat_natCast] at hK
  have hcs : cur.size = cap * 1 := hcs
  have htk : cur.toList.take (l.length * 1) = l.map (Value.int .i64) := htk
  rw [Nat.mul_one] at hcs htk
  have hH : Go.Sort.Holds (Value.int .i64) E0.w g 0 l.toArray := fun t ht => by
    have ht : t < l.length := by simpa using ht
    have hc : t < cur.size := by omega
    have : cur.toList[t]? = some (.int .i64 l[t]) := by
      have := congrArg (fun z => z[t]?) htk
      simp only [List.getElem?_take, if_pos ht, List.getElem?_map, List.getElem?_eq_getElem ht, Option.map_some] at this
      exact this
    refine ⟨?_, by simp [World.frozen?, hcur]⟩
    rw [World.cell?, hcur]
    simp only [Nat.zero_add]
    rw [Array.getElem?_toList] at this
    simp [this, ht]
  have hm : cap ≤ 9223372036854775807 := by unfold maxLen at hcm; omega
  obtain ⟨i0, hi0, hi1, hi2, _⟩ := y2_ok.info
  have hcall := AnyE.slices_Delete dl_lay (Value.int .i64) (fun _ => rfl) (0 : Int) (Tryz.zeroValue2) i0 hi0 hi1 g 0 cap m n l.toArray E0.w hH (by simpa using hnc) hm (by omega) (by simpa using (show n ≤ l.length by omega))
  have hcall : Calls Tryz.prog 148 #[.slice (some ⟨g, 0, none⟩) l.length cap, .int .i64 m, .int .i64 n] E0.w _ := hcall
  rw [← e] at hcall
  refine hcall.mono ?_
  rintro e' w' ⟨rfl, q, rfl⟩
  have hd : ((l.toArray.toList.take m ++ l.toArray.toList.drop n ++ List.replicate (n - m) (0 : Int)).toArray) = (l.take m ++ l.drop n ++ List.replicate (n - m) 0).toArray := rfl
  rw [hd]
  have hsz : (l.take m ++ l.drop n ++ List.replicate (n - m) (0 : Int)).length = l.length := by
    simp only [List.length_append, List.length_take, List.length_drop, List.length_replicate]; omega
  generalize hF' : (l.take m ++ l.drop n ++ List.replicate (n - m) (0 : Int)) = F' at *
  have hll : (l.take m ++ l.drop n).length = l.length - (n - m) := by rw [List.length_append, List.length_take, List.length_drop]; omega
  have hFt : F'.take (l.length - (n - m)) = l.take m ++ l.drop n := by rw [← hF', ← hll, List.take_left]
  have hg : E0.w.grownBy (Go.Sort.putRow (Value.int .i64) (Go.Sort.ahead E0.w q) g 0 F'.toArray) (some g) :=
    ⟨rfl, rfl, rfl, by show E0.w.heap.size ≤ (Array.modify ..).size; simp [Go.Sort.ahead], fun b hb hne => by
      show (Array.modify _ _ _)[b]? = _
      rw [Array.getElem?_modify, if_neg (fun e => hne (by rw [e]))]; rfl⟩
  have hh : (Go.Sort.putRow (Value.int .i64) (Go.Sort.ahead E0.w q) g 0 F'.toArray).heap[g]? = some (.cells (Go.Sort.putCells (Value.int .i64) 0 F'.toArray cur) 2 (0, 0)) := by
    show (Array.modify _ _ _)[g]? = _
    rw [Array.getElem?_modify, if_pos rfl]
    show Option.map _ (E0.w.heap[g]?) = _
    rw [hcur]; rfl
  have htk2 : (Go.Sort.putCells (Value.int .i64) 0 F'.toArray cur).toList.take (l.length - (n - m)) = (l.take m ++ l.drop n).map (Value.int .i64) := by
    have := putC_take F'.toArray cur (by simp only [List.size_toArray]; omega)
    have := congrArg (List.take (l.length - (n - m))) this
    rw [List.take_take, Nat.min_eq_left (by simp only [List.size_toArray]; omega), ← List.map_take] at this
    rw [this]
    simp only [hFt]
  have hrr : ∀ x ∈ l.take m ++ l.drop n, okI .i64 x := fun x hx => hls x ((List.mem_append.1 hx).elim List.mem_of_mem_take List.mem_of_mem_drop)
  have hsz2 : l.toArray.size - (n - m) = (l.take m ++ l.drop n).length := by rw [hll]; simp
  rw [hsz2]
  rw [← hll] at htk2
  generalize l.take m ++ l.drop n = R at *
  obtain ⟨E', m1, m2, m3, m4, m5⟩ := hI.move (i := 0) (d := 1) (w' := Go.Sort.putRow (Value.int .i64) (Go.Sort.ahead E0.w q) g 0 F'.toArray) (o := .row 2 (.int .i64) l) rfl rfl rfl (fun h => by have := (hD 1).1 h; simp at this) hg (fun b hb => by
      rw [k4, e]; rw [← Option.some.inj hb]; rfl) (.slice (some ⟨g, 0, none⟩) R.length cap) (fun b => blkOf (.slice (some ⟨g, 0, none⟩) R.length cap) = some b) (fun _ => undef) (rwi R) (fun b hb => .inl (by
      rw [k4, e]; exact hb)) (fun E' hle hw' => ⟨R.map (Value.int .i64), ⟨by rw [List.length_map]; show _ = _ * 1; omega, .inr ⟨g, cap, _, rfl, Nat.zero_le _, by rw [hw']; exact hh, by omega, hcm, by show (Array.mapIdx _ _).size = _; rw [Array.size_mapIdx, hcs]; exact (Nat.mul_one cap).symm, by show List.take (R.length * 1) _ = _; rw [Nat.mul_one]; exact htk2⟩⟩, ints_reps hrr, by omega, fun _ => Iff.rfl⟩)
  exact ⟨_, _, _, E', rfl, hK, by simp, m1, m3.congr (fun j => by
    simp only [numb]
    by_cases e0 : 0 = j
    · subst e0; rfl
    · by_cases e1 : 1 = j
      · subst e1; rfl
      · simp only [lk_ne _ _ e0, lk_ne _ _ e1]), ⟨⟨m4, m5.symm⟩, rfl⟩⟩
def c_delAt : Ctr Tryz.prog := ⟨148, ent Tryz.func148 rfl rfl, [true], sp_delAt, good_delAt, []⟩
@[go_sem] theorem c_delAt_f : c_delAt.f = 148 := rfl
@[go_sem] theorem c_delAt_ms : c_delAt.ms = [true] := rfl
@[go_sem] theorem c_delAt_sp : c_delAt.spec = sp_delAt := rfl
@[go_sem] theorem c_delAt_fz : c_delAt.fz = [] := rfl
attribute [go_sem] sp_delAt
end Go.Proofs.YthfmlelodmcgkaaGreat.V
end
section
namespace Go.Proofs.YthfmlelodmcgkaaGreat.V
open Go
def sp_clip : List Cv → List Obj' → Tree
  | [.one (.ro (.int .i64) l)], [] => .ret (.val (.one (.clip (.int .i64) l))) []
  | _, _ => .fail
set_option maxHeartbeats 4000000 in
set_option maxRecDepth 100000 in
theorem good_clip : Good Tryz.prog 147 sp_clip := by
  refine good_ofF Tryz.func147 rfl _ rfl _ rfl (tab []) (fun X cs os0 K hok hos hK => ?_)
  clear hos; unfold sp_clip at hK
  split at hK
  case h_2 => exact hK.elim
  rename_i l
  refine ⟨by simp, by simp, ?_⟩
  simp only [go_sem] at hK hok
  simp (maxSteps := 4000000) only [go_sem, Tryz.f147, ↓brB_t, ↓brB_f, Nat.reduceAdd, Int.reduceLE, Int.reduceLT, Int.reduceNeg, decide_true, decide_false, Bool.and_self, Nat.succ_eq_add_one, Int.toNat_natCast, Nat.beq_refl, Bool.and_true, Bool.true_and, Bool.false_or, Bool.or_true, List.all_cons, List.all_nil, Nat.reduceMul, Nat.add_zero, Nat.zero_add, List.length_nil, List.length_cons, dite_true, List.nil_append, Nat.reduceBEq, reduceDIte, reduceIte, reduceCtorEq, Bool.or_false, Bool.true_or, Bool.and_false, Bool.false_and, Bool.not_true, Bool.not_false, Option.isSome_some, Option.isSome_none, Option.getD_some, List.getElem?_cons_zero, List.getElem?_cons_succ, eq_self, and_self, List.take_succ_cons, List.take_zero, List.drop_succ_cons, List.drop_zero]
  clear hok
  exact ⟨trivial, ret0 hK⟩
def c_clip : Ctr Tryz.prog := ⟨147, ent Tryz.func147 rfl rfl, [], sp_clip, good_clip, []⟩
@[go_sem] theorem c_clip_f : c_clip.f = 147 := rfl
@[go_sem] theorem c_clip_ms : c_clip.ms = [] := rfl
@[go_sem] theorem c_clip_sp : c_clip.spec = sp_clip := rfl
@[go_sem] theorem c_clip_fz : c_clip.fz = [] := rfl
attribute [go_sem] sp_clip
theorem onesF_mono (n : Int) (N d : Nat) (w : List Int) (M : Nat) {k l : Nat} (h : k ≤ l) : (onesF N d w M k).length ≤ (onesF N d w M l).length := by
  unfold onesF
  have e : (onesL w M).take l = (onesL w M).take k ++ ((onesL w M).take l).drop k := by
    conv => lhs; rw [← List.take_append_drop k ((onesL w M).take l), List.take_take, Nat.min_eq_left h]
  rw [e, List.flatMap_append, List.length_append]; omega
def sp_more (d : Nat) : List Cv → List Obj' → Tree
  | [.one (.ro (.int .i64) w), .one (.ro (.int .i64) left), .one (.v (.int .i64 m)), .one (.ptr 0 0), .one (.ptr 1 0), .one (.ptr 2 0)], [.box 3 [.v (.int .i64 n)], .box 44 [.own 3], .box 107 [.fn 146 [0, 1, 2]], .drow 26 (.sl 2 (.int .i64)) L] =>
    .need ((0 ≤ m ∧ m ≤ n ∧ n ≤ 5) ∧ ((w : List Int).length : Int) + (d : Nat) = 2 * n ∧ begB w m.toNat ∧ (left : List Int) = onesL w m.toNat ∧ (L : RowL).length + (fillL n.toNat d w m.toNat).length ≤ 100000000)
      (.ret (.tup []) [.box 3 [.v (.int .i64 n)], .box 44 [.own 4], .box 107 [.fn 146 [0, 1, 2]], .dead, .drow 26 (.sl 2 (.int .i64)) ((L : RowL) ++ fillL n.toNat d w m.toNat)])
  | _, _ => .fail
set_option maxHeartbeats 4000000 in
set_option maxRecDepth 100000 in
theorem good_more0 : Good Tryz.prog 146 (sp_more 0) := by
  refine good_ofF Tryz.func146 rfl _ rfl _ rfl (tab [c_clone]) (fun X cs os0 K hok hos hK => ?_)
  unfold sp_more at hK
  split at hK
  case h_2 => exact hK.elim
  rename_i w left m n L
  refine ⟨by simp, by simp, ?_⟩
  simp only [go_sem] at hK hok hos
  simp (maxSteps := 4000000) only [go_sem, Tryz.f146, ↓brB_t, ↓brB_f, Nat.reduceAdd, Int.reduceLE, Int.reduceLT, Int.reduceNeg, decide_true, decide_false, Bool.and_self, Nat.succ_eq_add_one, Int.toNat_natCast, Nat.beq_refl, Bool.and_true, Bool.true_and, Bool.false_or, Bool.or_true, List.all_cons, List.all_nil, Nat.reduceMul, Nat.add_zero, Nat.zero_add, List.length_nil, List.length_cons, dite_true, List.nil_append, Nat.reduceBEq, reduceDIte, reduceIte, reduceCtorEq, Bool.or_false, Bool.true_or, Bool.and_false, Bool.false_and, Bool.not_true, Bool.not_false, Option.isSome_some, Option.isSome_none, Option.getD_some, List.getElem?_cons_zero, List.getElem?_cons_succ, eq_self, and_self, List.take_succ_cons, List.take_zero, List.drop_succ_cons, List.drop_zero]
  obtain ⟨⟨⟨h0, hm, hn⟩, hl, hb, rfl, hL⟩, hK⟩ := hK
  clear hok hos
  refine brB_intro (fun h1 => ?_) (fun h1 => ?_)
  · exact ⟨by omega, by show L.length + 1 ≤ _; omega, by kernel_rfl, retN [0, 1, 2, 3, 336] rfl hK⟩
  · have h1 := of_decide_eq_false h1
    rw [w64_id (by omega) (by omega)] at h1
    omega
def c_more (d : Nat) (ih : Good Tryz.prog 146 (sp_more d)) : Ctr Tryz.prog := ⟨146, ent Tryz.func146 rfl rfl, [false, false, false, true, true, true], sp_more d, ih, []⟩
@[go_sem] theorem c_more_f (d : Nat) (ih : Good Tryz.prog 146 (sp_more d)) : (c_more d ih).f = 146 := rfl
@[go_sem] theorem c_more_ms (d : Nat) (ih : Good Tryz.prog 146 (sp_more d)) : (c_more d ih).ms = [false, false, false, true, true, true] := rfl
@[go_sem] theorem c_more_s (d : Nat) (ih : Good Tryz.prog 146 (sp_more d)) : (c_more d ih).spec = sp_more d := rfl
@[go_sem] theorem c_more_fz (d : Nat) (ih : Good Tryz.prog 146 (sp_more d)) : (c_more d ih).fz = [] := rfl
attribute [go_sem] sp_more
set_option maxHeartbeats 4000000 in
set_option maxRecDepth 100000 in
theorem good_moreS (d : Nat) (ih : Good Tryz.prog 146 (sp_more d)) : Good Tryz.prog 146 (sp_more (d + 1)) := by
  refine good_ofF Tryz.func146 rfl _ rfl _ rfl (tab [c_clone, c_clip, c_delAt, c_more d ih]) (fun X cs os0 K hok hos hK => ?_)
  unfold sp_more at hK
  split at hK
  case h_2 => exact hK.elim
  rename_i w left m n L
  refine ⟨by simp, by simp, ?_⟩
  simp only [go_sem] at hK hok hos
  simp (maxSteps := 4000000) only [go_sem, Tryz.f146, ↓brB_t, ↓brB_f, Nat.reduceAdd, Int.reduceLE, Int.reduceLT, Int.reduceNeg, decide_true, decide_false, Bool.and_self, Nat.succ_eq_add_one, Int.toNat_natCast, Nat.beq_refl, Bool.and_true, Bool.true_and, Bool.false_or, Bool.or_true, List.all_cons, List.all_nil, Nat.reduceMul, Nat.add_zero, Nat.zero_add, List.length_nil, List.length_cons, dite_true, List.nil_append, Nat.reduceBEq, reduceDIte, reduceIte, reduceCtorEq, Bool.or_false, Bool.true_or, Bool.and_false, Bool.false_and, Bool.not_true, Bool.not_false, Option.isSome_some, Option.isSome_none, Option.getD_some, List.getElem?_cons_zero, List.getElem?_cons_succ, eq_self, and_self, List.take_succ_cons, List.take_zero, List.drop_succ_cons, List.drop_zero]
  obtain ⟨⟨⟨h0, hm, hn⟩, hl, hb, rfl, hL⟩, hK⟩ := hK
  clear hok hos
  refine brB_intro (fun h1 => ?_) (fun h1 => ?_)
  · have h1 := of_decide_eq_true h1
    rw [w64_id (by omega) (by omega)] at h1
    omega
  clear h1
  obtain ⟨M, rfl⟩ : ∃ M : Nat, m = M := ⟨m.toNat, by omega⟩
  obtain ⟨N, rfl⟩ : ∃ N : Nat, n = N := ⟨n.toNat, by omega⟩
  simp only [Int.toNat_natCast] at hK hL hb ⊢
  have hge : ∀ k, (onesF N d w M k).length ≤ (fillL N (d + 1) w M).length := fun k => by
    rw [fill_ones hb (by omega), List.length_append]
    refine Nat.le_trans ?_ (Nat.le_add_right _ _)
    rcases Nat.lt_or_ge k (onesL w M).length with h | h
    · exact onesF_mono 0 N d w M (Nat.le_of_lt h)
    · unfold onesF; rw [List.take_of_length_le h, List.take_length]; exact Nat.le_refl _
  refine holds_sub (sub_move (i := 3) (j := 16) (c := 1) (o := .drow 26 kR L) rfl rfl rfl (by decide) rfl rfl) ?_
  refine loop_okF (T := tab [c_clone, c_clip, c_delAt, c_more d ih]) [0, 1, 2, 3, 4, 5, 21, 22, 23] [(0, 0), (1, 1), (2, 2), (3, 3), (16, 16)] (fun k : Nat => ⟨60, [(0, ri w), (1, ri (onesL w M)), (2, vi M), (3, .val (.one (.ptr 0 0))), (4, .val (.one (.ptr 1 0))), (5, .val (.one (.ptr 2 0))), (21, ri (onesL w M)), (22, vi (onesL w M).length), (23, vi k)],
      [(0, .box 3 [.v (.int .i64 N)]), (1, .box 44 [.own 16]), (2, .box 107 [.fn 146 [0, 1, 2]]), (3, .dead), (16, .drow 26 kR (L ++ onesF N d w M k))]⟩)
    (fun k => k ≤ (onesL w M).length) (fun k => (onesL w M).length - k) 0 rfl (by rw [show onesF N d w M 0 = [] from rfl, List.append_nil]; rfl) (Nat.zero_le _) (fun k hk => ?_)
  simp (maxSteps := 4000000) only [go_sem, ↓brB_t, ↓brB_f, Nat.reduceAdd, Int.reduceLE, Int.reduceLT, Int.reduceNeg, decide_true, decide_false, Bool.and_self, Nat.succ_eq_add_one, Int.toNat_natCast, Nat.beq_refl, Bool.and_true, Bool.true_and, Bool.false_or, Bool.or_true, List.all_cons, List.all_nil, Nat.reduceMul, Nat.add_zero, Nat.zero_add, List.length_nil, List.length_cons, dite_true, List.nil_append, Nat.reduceBEq, reduceDIte, reduceIte, reduceCtorEq, Bool.or_false, Bool.true_or, Bool.and_false, Bool.false_and, Bool.not_true, Bool.not_false, Option.isSome_some, Option.isSome_none, Option.getD_some, List.getElem?_cons_zero, List.getElem?_cons_succ, eq_self, and_self, List.take_succ_cons, List.take_zero, List.drop_succ_cons, List.drop_zero]
  have hgk := hge k
  have hll := onesL_len w M
  refine brB_intro (fun h1 => ?_) (fun h1 => ?_)
  · have h1 := of_decide_eq_true h1
    have hk1 : k < (onesL w M).length := by omega
    have hw1 : w64 ((k : Int) + 1) = ((k + 1 : Nat) : Int) := w64_id (by omega) (by omega)
    obtain ⟨x, hx, hxM, hxc⟩ := onesL_mem (List.getElem_mem hk1)
    have hg : (onesL w M).getD k 0 = (onesL w M)[k] := getD_eq hk1
    have hle := onesL_old hk1
    have hfs := onesF_s (n := N) (d := d) hk1
    have hgs := hge (k + 1)
    have hbo : begB (w ++ [(onesL w M)[k]]) M := by rw [hx]; exact begB_old hb hxM hxc
    have hla : (w ++ [(onesL w M)[k]]).length = w.length + 1 := by rw [List.length_append]; rfl
    rw [hw1, hg, Int.toNat_natCast]
    generalize (onesL w M)[k] = y at *
    rw [hfs, List.length_append] at hgs
    have hlo : (L ++ onesF N d w M k).length = L.length + (onesF N d w M k).length := List.length_append
    have hter : (onesL w M).take k ++ (onesL w M).drop (k + 1) = onesL (w ++ [y]) M := by rw [hle, List.eraseIdx_eq_take_drop_succ]
    refine ⟨⟨by omega, by omega⟩, ⟨Nat.le_refl 1, by omega⟩, by omega, ⟨by omega, by omega, by omega⟩, ⟨⟨by omega, by omega, by omega⟩, by omega, hbo, hter, by rw [hlo]; omega⟩, by kernel_rfl, k + 1, [(0, 0), (1, 1), (2, 2), (3, 3), (16, 672)], by omega, by omega, rfl, ?_⟩
    rw [hfs, ← List.append_assoc]; rfl
  · have h1 := of_decide_eq_false h1
    have e : k = (onesL w M).length := by omega
    subst e
    have hfo := fill_ones (n := N) (d := d) hb (by omega)
    have hlo : (L ++ onesF N d w M (onesL w M).length).length = L.length + (onesF N d w M (onesL w M).length).length := List.length_append
    refine brB_intro (fun h2 => ?_) (fun h2 => ?_)
    · have h2 := of_decide_eq_true h2
      have hM1 : w64 ((M : Int) + 1) = ((M + 1 : Nat) : Int) := w64_id (by omega) (by omega)
      have hla : (w ++ [(M : Int)]).length = w.length + 1 := by rw [List.length_append]; rfl
      rw [if_pos (by omega)] at hfo
      rw [hfo, List.length_append] at hL
      rw [hfo, ← List.append_assoc] at hK
      rw [hM1, Int.toNat_natCast]
      exact ⟨⟨Nat.le_refl 1, by omega⟩, ⟨Nat.le_refl 1, by omega⟩, ⟨⟨by omega, by omega, hn⟩, by omega, begB_new hb, (onesL_new hb).symm, by rw [hlo]; omega⟩, by kernel_rfl, retN [0, 1, 2, 3, 960] rfl hK⟩
    · have h2 := of_decide_eq_false h2
      rw [if_neg (by omega), List.append_nil] at hfo
      rw [hfo] at hK
      exact retN [0, 1, 2, 3, 16] rfl hK
theorem good_more : ∀ d, Good Tryz.prog 146 (sp_more d)
  | 0 => good_more0
  | d + 1 => good_moreS d (good_more d)
def sp_moreN (N : Nat) : List Cv → List Obj' → Tree
  | [.one (.v (.slice none 0 0)), .one (.v (.slice none 0 0)), .one (.v (.int .i64 m)), .one (.ptr 0 0), .one (.ptr 1 0), .one (.ptr 2 0)], [.box 3 [.v (.int .i64 n)], .box 44 [.own 3], .box 107 [.fn 146 [0, 1, 2]], .drow 26 (.sl 2 (.int .i64)) L] =>
    .need (m = 0 ∧ n = (N : Nat) ∧ N ≤ 5 ∧ (L : RowL) = [])
      (.ret (.tup []) [.box 3 [.v (.int .i64 n)], .box 44 [.own 4], .box 107 [.fn 146 [0, 1, 2]], .dead, .drow 26 (.sl 2 (.int .i64)) (allL N)])
  | _, _ => .fail
theorem allL_len {N : Nat} (h : N ≤ 5) : (allL N).length ≤ 9765625 :=
  Nat.le_trans (fillL_len N (2 * N) [] 0) (Nat.le_trans (Nat.pow_le_pow_left h _) (Nat.le_trans (Nat.pow_le_pow_right (by omega) (show 2 * N ≤ 10 by omega)) (by decide)))
theorem good_moreN (N : Nat) : Good Tryz.prog 146 (sp_moreN N) := good_nil (.int .i64) (good_more (2 * N)) fun cs os K h => by
  unfold sp_moreN at h
  split at h
  case h_2 => exact h.elim
  obtain ⟨⟨rfl, rfl, hN, rfl⟩, h⟩ := h
  have := allL_len hN
  refine ⟨⟨⟨Int.le_refl 0, by omega, by omega⟩, by show ((([] : List Int).length : Nat) : Int) + ((2 * N : Nat) : Int) = 2 * N; simp, begB_nil, rfl, ?_⟩, ?_⟩
  · show ([] : RowL).length + (fillL ((N : Nat) : Int).toNat (2 * N) [] 0).length ≤ _
    rw [Int.toNat_natCast]
    show 0 + (allL N).length ≤ _
    omega
  · show K _ [_, _, _, _, .drow _ _ ([] ++ fillL ((N : Nat) : Int).toNat (2 * N) [] 0)]
    rw [Int.toNat_natCast, List.nil_append]
    exact h
def c_moreN (N : Nat) : Ctr Tryz.prog := ⟨146, ent Tryz.func146 rfl rfl, [false, false, false, true, true, true], sp_moreN N, good_moreN N, []⟩
@[go_sem] theorem c_moreN_f (N : Nat) : (c_moreN N).f = 146 := rfl
@[go_sem] theorem c_moreN_ms (N : Nat) : (c_moreN N).ms = [false, false, false, true, true, true] := rfl
@[go_sem] theorem c_moreN_s (N : Nat) : (c_moreN N).spec = sp_moreN N := rfl
@[go_sem] theorem c_moreN_fz (N : Nat) : (c_moreN N).fz = [] := rfl
attribute [go_sem] sp_moreN
def sp_wordsN (N : Nat) : List Cv → List Obj' → Tree
  | [.one (.v (.int .i64 n))], [] => .need (n = (N : Nat) ∧ N ≤ 5) (.ret (ow 0) [.drow 26 (.sl 2 (.int .i64)) (allL N)])
  | _, _ => .fail
set_option maxHeartbeats 4000000 in
set_option maxRecDepth 100000 in
theorem good_wordsN (N : Nat) : Good Tryz.prog 105 (sp_wordsN N) := by
  refine good_ofF Tryz.func105 rfl _ rfl _ rfl (tab [c_moreN N]) (fun X cs os0 K hok hos hK => ?_)
  clear hos; unfold sp_wordsN at hK
  split at hK
  case h_2 => exact hK.elim
  rename_i n
  refine ⟨by simp, by simp, ?_⟩
  simp only [go_sem] at hK hok
  simp (maxSteps := 4000000) only [go_sem, Tryz.f105, ↓brB_t, ↓brB_f, Nat.reduceAdd, Int.reduceLE, Int.reduceLT, Int.reduceNeg, decide_true, decide_false, Bool.and_self, Nat.succ_eq_add_one, Int.toNat_natCast, Nat.beq_refl, Bool.and_true, Bool.true_and, Bool.false_or, Bool.or_true, List.all_cons, List.all_nil, Nat.reduceMul, Nat.add_zero, Nat.zero_add, List.length_nil, List.length_cons, dite_true, List.nil_append, Nat.reduceBEq, reduceDIte, reduceIte, reduceCtorEq, Bool.or_false, Bool.true_or, Bool.and_false, Bool.false_and, Bool.not_true, Bool.not_false, Option.isSome_some, Option.isSome_none, Option.getD_some, List.getElem?_cons_zero, List.getElem?_cons_succ, eq_self, and_self, List.take_succ_cons, List.take_zero, List.drop_succ_cons, List.drop_zero]
  obtain ⟨⟨rfl, hN⟩, hK⟩ := hK
  clear hok
  exact ⟨⟨trivial, rfl, hN, trivial⟩, retN [144] rfl hK⟩
def sp_words : List Cv → List Obj' → Tree
  | [.one (.v (.int .i64 n))], [] => .need (0 ≤ n ∧ n ≤ 5) (.ret (ow 0) [.drow 26 (.sl 2 (.int .i64)) (allL n.toNat)])
  | _, _ => .fail
theorem good_words : Good Tryz.prog 105 sp_words := good_ex good_wordsN fun cs os K h => by
  unfold sp_words at h
  split at h
  case h_2 => exact h.elim
  rename_i n
  obtain ⟨⟨h0, h5⟩, h⟩ := h
  exact ⟨n.toNat, ⟨by omega, by omega⟩, h⟩
def c_words : Ctr Tryz.prog := ⟨105, ent Tryz.func105 rfl rfl, [], sp_words, good_words, []⟩
@[go_sem] theorem c_words_f : c_words.f = 105 := rfl
@[go_sem] theorem c_words_ms : c_words.ms = [] := rfl
@[go_sem] theorem c_words_sp : c_words.spec = sp_words := rfl
@[go_sem] theorem c_words_fz : c_words.fz = [] := rfl
attribute [go_sem] sp_words
end Go.Proofs.YthfmlelodmcgkaaGreat.V
end
section
namespace Go.Proofs.YthfmlelodmcgkaaGreat.V
open Go
def lexLt : List Int → List Int → Bool
  | x :: a, y :: b => if x = y then lexLt a b else decide (x < y)
  | _, _ => false
def beforeB (a b : List Int) : Bool := if a.length = b.length then lexLt a b else decide (a.length < b.length)
def sp_before : List Cv → List Obj' → Tree
  | [.one (.ro (.int .i64) a), .one (.ro (.int .i64) b)], [] => .ret (vb (beforeB a b)) []
  | _, _ => .fail
theorem lexLt_s {a b : List Int} {i : Nat} (h : i < a.length) (hb : i < b.length) : lexLt (a.drop i) (b.drop i) = if a.getD i 0 = b.getD i 0 then lexLt (a.drop (i + 1)) (b.drop (i + 1)) else decide (a.getD i 0 < b.getD i 0) := by
  rw [List.drop_eq_getElem_cons h, List.drop_eq_getElem_cons hb, lexLt, getD_eq h, getD_eq hb]
set_option maxHeartbeats 4000000 in
set_option maxRecDepth 100000 in
theorem good_l01Before : Good Tryz.prog 127 sp_before := by
  refine good_ofF Tryz.func127 rfl _ rfl _ rfl (tab []) (fun X cs os0 K hok hos hK => ?_)
  clear hos; unfold sp_before at hK
  split at hK
  case h_2 => exact hK.elim
  rename_i a b
  refine ⟨by simp, by simp, ?_⟩
  simp only [go_sem] at hK hok
  simp (maxSteps := 4000000) only [go_sem, Tryz.f127, ↓brB_t, ↓brB_f, Nat.reduceAdd, Int.reduceLE, Int.reduceLT, Int.reduceNeg, decide_true, decide_false, Bool.and_self, Nat.succ_eq_add_one, Int.toNat_natCast, Nat.beq_refl, Bool.and_true, Bool.true_and, Bool.false_or, Bool.or_true, List.all_cons, List.all_nil, Nat.reduceMul, Nat.add_zero, Nat.zero_add, List.length_nil, List.length_cons, dite_true, List.nil_append, Nat.reduceBEq, reduceDIte, reduceIte, reduceCtorEq, Bool.or_false, Bool.true_or, Bool.and_false, Bool.false_and, Bool.not_true, Bool.not_false, Option.isSome_some, Option.isSome_none, Option.getD_some, List.getElem?_cons_zero, List.getElem?_cons_succ, eq_self, and_self, List.take_succ_cons, List.take_zero, List.drop_succ_cons, List.drop_zero]
  have hl := len_i hok.1.1
  clear hok
  refine brB_intro (fun h => ret0 ?_) (fun h => ?_)
  · have h := of_decide_eq_false (nb h)
    have e : decide ((a.length : Int) < b.length) = decide (a.length < b.length) := by simp
    rw [beforeB, if_neg (by omega)] at hK
    rw [e]; exact hK
  · have h := of_decide_eq_true (nb' h)
    rw [beforeB, if_pos (by omega)] at hK
    refine loop_okF (T := tab []) [0, 1, 5] [] (fun i : Nat => ⟨40, [(0, ri a), (1, ri b), (5, vi i)], []⟩)
      (fun i => i ≤ a.length ∧ lexLt a b = lexLt (a.drop i) (b.drop i)) (fun i => a.length - i) 0 rfl rfl ⟨Nat.zero_le _, rfl⟩ (fun i hi => ?_)
    obtain ⟨hi, hm⟩ := hi
    simp only [go_sem, ↓brB_t, ↓brB_f, Nat.reduceAdd, Int.reduceLE, Int.reduceLT, Int.reduceNeg, decide_true, decide_false, Bool.and_self, Nat.succ_eq_add_one, Int.toNat_natCast, Nat.beq_refl, Bool.and_true, Bool.true_and, Bool.false_or, Bool.or_true, List.all_cons, List.all_nil, Nat.reduceMul, Nat.add_zero, Nat.zero_add, List.length_nil, List.length_cons, dite_true, List.nil_append, Nat.reduceBEq, reduceDIte, reduceIte, reduceCtorEq, Bool.or_false, Bool.true_or, Bool.and_false, Bool.false_and, Bool.not_true, Bool.not_false, Option.isSome_some, Option.isSome_none, Option.getD_some, List.getElem?_cons_zero, List.getElem?_cons_succ, eq_self, and_self, List.take_succ_cons, List.take_zero, List.drop_succ_cons, List.drop_zero]
    refine brB_intro (fun h1 => ?_) (fun h1 => ret0 ?_)
    · have h1 := of_decide_eq_true h1
      have hs := lexLt_s (a := a) (b := b) (i := i) (by omega) (by omega)
      have hw : w64 ((i : Int) + 1) = ((i + 1 : Nat) : Int) := w64_s (n := a.length) (by omega) hl
      refine ⟨⟨by omega, by omega⟩, ⟨by omega, by omega⟩, by kernel_rfl, brB_intro (fun h2 => ⟨⟨by omega, by omega⟩, ⟨by omega, by omega⟩, by kernel_rfl, ret0 ?_⟩) (fun h2 => ⟨i + 1, [], ⟨by omega, ?_⟩, by omega, rfl, by rw [hw]; rfl⟩)⟩
      · have h2 := of_decide_eq_false (nb h2)
        rw [if_neg h2] at hs
        rw [hm, hs] at hK; exact hK
      · have h2 := of_decide_eq_true (nb' h2)
        rw [if_pos h2] at hs
        rw [hm, hs]
    · have h1 := of_decide_eq_false h1
      have e : lexLt (a.drop i) (b.drop i) = false := by rw [List.drop_eq_nil_of_le (by omega)]; rfl
      rw [hm, e] at hK; exact hK
def c_l01Before : Ctr Tryz.prog := ⟨127, ent Tryz.func127 rfl rfl, [], sp_before, good_l01Before, []⟩
@[go_sem] theorem c_l01Before_f : c_l01Before.f = 127 := rfl
@[go_sem] theorem c_l01Before_ms : c_l01Before.ms = [] := rfl
@[go_sem] theorem c_l01Before_sp : c_l01Before.spec = sp_before := rfl
@[go_sem] theorem c_l01Before_fz : c_l01Before.fz = [] := rfl
attribute [go_sem] sp_before
def sp_nan : List Cv → List Obj' → Tree
  | [.one (.v (.int .i64 x))], [] => .ret (vb false) []
  | _, _ => .fail
set_option maxHeartbeats 4000000 in
set_option maxRecDepth 100000 in
theorem good_nan64 : Good Tryz.prog 184 sp_nan := by
  refine good_ofF Tryz.func184 rfl _ rfl _ rfl (tab []) (fun X cs os0 K hok hos hK => ?_)
  clear hos; unfold sp_nan at hK
  split at hK
  case h_2 => exact hK.elim
  rename_i x
  refine ⟨by simp, by simp, ?_⟩
  simp only [go_sem] at hK hok
  simp (maxSteps := 4000000) only [go_sem, Tryz.f184, ↓brB_t, ↓brB_f, Nat.reduceAdd, Int.reduceLE, Int.reduceLT, Int.reduceNeg, decide_true, decide_false, Bool.and_self, Nat.succ_eq_add_one, Int.toNat_natCast, Nat.beq_refl, Bool.and_true, Bool.true_and, Bool.false_or, Bool.or_true, List.all_cons, List.all_nil, Nat.reduceMul, Nat.add_zero, Nat.zero_add, List.length_nil, List.length_cons, dite_true, List.nil_append, Nat.reduceBEq, reduceDIte, reduceIte, reduceCtorEq, Bool.or_false, Bool.true_or, Bool.and_false, Bool.false_and, Bool.not_true, Bool.not_false, Option.isSome_some, Option.isSome_none, Option.getD_some, List.getElem?_cons_zero, List.getElem?_cons_succ, eq_self, and_self, List.take_succ_cons, List.take_zero, List.drop_succ_cons, List.drop_zero]
  exact ret0 hK
def c_nan64 : Ctr Tryz.prog := ⟨184, ent Tryz.func184 rfl rfl, [], sp_nan, good_nan64, []⟩
@[go_sem] theorem c_nan64_f : c_nan64.f = 184 := rfl
@[go_sem] theorem c_nan64_ms : c_nan64.ms = [] := rfl
@[go_sem] theorem c_nan64_sp : c_nan64.spec = sp_nan := rfl
@[go_sem] theorem c_nan64_fz : c_nan64.fz = [] := rfl
attribute [go_sem] sp_nan
def cmpI (x y : Int) : Int := if x < y then -1 else if y < x then 1 else 0
def sp_cmp : List Cv → List Obj' → Tree
  | [.one (.v (.int .i64 x)), .one (.v (.int .i64 y))], [] => .ret (vi (cmpI x y)) []
  | _, _ => .fail
set_option maxHeartbeats 4000000 in
set_option maxRecDepth 100000 in
theorem good_cmp64 : Good Tryz.prog 165 sp_cmp := by
  refine good_ofF Tryz.func165 rfl _ rfl _ rfl (tab [c_nan64]) (fun X cs os0 K hok hos hK => ?_)
  clear hos; unfold sp_cmp at hK
  split at hK
  case h_2 => exact hK.elim
  rename_i x y
  refine ⟨by simp, by simp, ?_⟩
  simp only [go_sem] at hK hok
  simp (maxSteps := 4000000) only [go_sem, Tryz.f165, ↓brB_t, ↓brB_f, Nat.reduceAdd, Int.reduceLE, Int.reduceLT, Int.reduceNeg, decide_true, decide_false, Bool.and_self, Nat.succ_eq_add_one, Int.toNat_natCast, Nat.beq_refl, Bool.and_true, Bool.true_and, Bool.false_or, Bool.or_true, List.all_cons, List.all_nil, Nat.reduceMul, Nat.add_zero, Nat.zero_add, List.length_nil, List.length_cons, dite_true, List.nil_append, Nat.reduceBEq, reduceDIte, reduceIte, reduceCtorEq, Bool.or_false, Bool.true_or, Bool.and_false, Bool.false_and, Bool.not_true, Bool.not_false, Option.isSome_some, Option.isSome_none, Option.getD_some, List.getElem?_cons_zero, List.getElem?_cons_succ, eq_self, and_self, List.take_succ_cons, List.take_zero, List.drop_succ_cons, List.drop_zero]
  clear hok
  refine brB_intro (fun h => ret0 ?_) (fun h => brB_intro (fun h2 => ret0 ?_) (fun h2 => ret0 ?_))
  · rw [cmpI, if_pos (of_decide_eq_true h)] at hK; exact hK
  · rw [cmpI, if_neg (of_decide_eq_false h), if_pos (of_decide_eq_true h2)] at hK; exact hK
  · rw [cmpI, if_neg (of_decide_eq_false h), if_neg (of_decide_eq_false h2)] at hK; exact hK
def c_cmp64 : Ctr Tryz.prog := ⟨165, ent Tryz.func165 rfl rfl, [], sp_cmp, good_cmp64, []⟩
@[go_sem] theorem c_cmp64_f : c_cmp64.f = 165 := rfl
@[go_sem] theorem c_cmp64_ms : c_cmp64.ms = [] := rfl
@[go_sem] theorem c_cmp64_sp : c_cmp64.spec = sp_cmp := rfl
@[go_sem] theorem c_cmp64_fz : c_cmp64.fz = [] := rfl
attribute [go_sem] sp_cmp
def cmpL : List Int → List Int → Int
  | [], [] => 0
  | [], _ :: _ => -1
  | _ :: _, [] => 1
  | x :: a, y :: b => if cmpI x y = 0 then cmpL a b else cmpI x y
def sp_cmpS : List Cv → List Obj' → Tree
  | [.one (.ro (.int .i64) a), .one (.ro (.int .i64) b)], [] => .ret (vi (cmpL a b)) []
  | _, _ => .fail
theorem cmpL_s {a b : List Int} {i : Nat} (h : i < a.length) (hb : i < b.length) : cmpL (a.drop i) (b.drop i) = if cmpI (a.getD i 0) (b.getD i 0) = 0 then cmpL (a.drop (i + 1)) (b.drop (i + 1)) else cmpI (a.getD i 0) (b.getD i 0) := by
  rw [List.drop_eq_getElem_cons h, List.drop_eq_getElem_cons hb, cmpL, getD_eq h, getD_eq hb]
theorem cmpL_e {a b : List Int} {i : Nat} (h : i < a.length) (hb : ¬ i < b.length) : cmpL (a.drop i) (b.drop i) = 1 := by
  have e : b.drop i = [] := List.drop_eq_nil_of_le (by omega)
  rw [List.drop_eq_getElem_cons h, e, cmpL]
theorem cmpL_0 {a b : List Int} {i : Nat} (h : ¬ i < a.length) : cmpL (a.drop i) (b.drop i) = if i < b.length then -1 else 0 := by
  rw [List.drop_eq_nil_of_le (by omega)]
  split
  · rename_i hb
    rw [List.drop_eq_getElem_cons hb, cmpL]
  · rw [List.drop_eq_nil_of_le (by omega), cmpL]
set_option maxHeartbeats 4000000 in
set_option maxRecDepth 100000 in
theorem good_cmpS : Good Tryz.prog 141 sp_cmpS := by
  refine good_ofF Tryz.func141 rfl _ rfl _ rfl (tab [c_cmp64]) (fun X cs os0 K hok hos hK => ?_)
  clear hos; unfold sp_cmpS at hK
  split at hK
  case h_2 => exact hK.elim
  rename_i a b
  refine ⟨by simp, by simp, ?_⟩
  simp only [go_sem] at hK hok
  simp (maxSteps := 4000000) only [go_sem, Tryz.f141, ↓brB_t, ↓brB_f, Nat.reduceAdd, Int.reduceLE, Int.reduceLT, Int.reduceNeg, decide_true, decide_false, Bool.and_self, Nat.succ_eq_add_one, Int.toNat_natCast, Nat.beq_refl, Bool.and_true, Bool.true_and, Bool.false_or, Bool.or_true, List.all_cons, List.all_nil, Nat.reduceMul, Nat.add_zero, Nat.zero_add, List.length_nil, List.length_cons, dite_true, List.nil_append, Nat.reduceBEq, reduceDIte, reduceIte, reduceCtorEq, Bool.or_false, Bool.true_or, Bool.and_false, Bool.false_and, Bool.not_true, Bool.not_false, Option.isSome_some, Option.isSome_none, Option.getD_some, List.getElem?_cons_zero, List.getElem?_cons_succ, eq_self, and_self, List.take_succ_cons, List.take_zero, List.drop_succ_cons, List.drop_zero]
  have hl := len_i hok.1.1
  clear hok
  refine loop_okF (T := tab [c_cmp64]) [0, 1, 9, 10, 11] [] (fun i : Nat => ⟨36, [(0, ri a), (1, ri b), (9, ri a), (10, vi (a.length : Nat)), (11, vi i)], []⟩)
    (fun i => i ≤ a.length ∧ i ≤ b.length ∧ cmpL a b = cmpL (a.drop i) (b.drop i)) (fun i => a.length - i) 0 rfl rfl ⟨Nat.zero_le _, Nat.zero_le _, rfl⟩ (fun i hi => ?_)
  obtain ⟨hi, hib, hm⟩ := hi
  simp only [go_sem, ↓brB_t, ↓brB_f, Nat.reduceAdd, Int.reduceLE, Int.reduceLT, Int.reduceNeg, decide_true, decide_false, Bool.and_self, Nat.succ_eq_add_one, Int.toNat_natCast, Nat.beq_refl, Bool.and_true, Bool.true_and, Bool.false_or, Bool.or_true, List.all_cons, List.all_nil, Nat.reduceMul, Nat.add_zero, Nat.zero_add, List.length_nil, List.length_cons, dite_true, List.nil_append, Nat.reduceBEq, reduceDIte, reduceIte, reduceCtorEq, Bool.or_false, Bool.true_or, Bool.and_false, Bool.false_and, Bool.not_true, Bool.not_false, Option.isSome_some, Option.isSome_none, Option.getD_some, List.getElem?_cons_zero, List.getElem?_cons_succ, eq_self, and_self, List.take_succ_cons, List.take_zero, List.drop_succ_cons, List.drop_zero]
  refine brB_intro (fun h1 => ?_) (fun h1 => ?_)
  · have h1 := of_decide_eq_true h1
    have hw : w64 ((i : Int) + 1) = ((i + 1 : Nat) : Int) := w64_s (n := a.length) (by omega) hl
    refine ⟨⟨by omega, by omega⟩, brB_intro (fun h2 => ret0 ?_) (fun h2 => ?_)⟩
    · have h2 := of_decide_eq_true h2
      rw [hm, cmpL_e (by omega) (by omega)] at hK; exact hK
    · have h2 := of_decide_eq_false h2
      have hs := cmpL_s (a := a) (b := b) (i := i) (by omega) (by omega)
      refine ⟨⟨by omega, by omega⟩, brB_intro (fun h3 => ret0 ?_) (fun h3 => ⟨i + 1, [], ⟨by omega, by omega, ?_⟩, by omega, rfl, by rw [hw]; rfl⟩)⟩
      · rw [if_neg (of_decide_eq_false (nb h3))] at hs
        rw [hm, hs] at hK; exact hK
      · rw [if_pos (of_decide_eq_true (nb' h3))] at hs
        rw [hm, hs]
  · have h1 := of_decide_eq_false h1
    have h0 := cmpL_0 (a := a) (b := b) (i := i) (by omega)
    refine brB_intro (fun h2 => ret0 ?_) (fun h2 => ret0 ?_)
    · have h2 := of_decide_eq_true h2
      rw [if_pos (by omega)] at h0
      rw [hm, h0] at hK; exact hK
    · have h2 := of_decide_eq_false h2
      rw [if_neg (by omega)] at h0
      rw [hm, h0] at hK; exact hK
def c_cmpS : Ctr Tryz.prog := ⟨141, ent Tryz.func141 rfl rfl, [], sp_cmpS, good_cmpS, []⟩
@[go_sem] theorem c_cmpS_f : c_cmpS.f = 141 := rfl
@[go_sem] theorem c_cmpS_ms : c_cmpS.ms = [] := rfl
@[go_sem] theorem c_cmpS_sp : c_cmpS.spec = sp_cmpS := rfl
@[go_sem] theorem c_cmpS_fz : c_cmpS.fz = [] := rfl
attribute [go_sem] sp_cmpS
theorem cmpL_lex : ∀ {a b : List Int}, a.length = b.length → decide (0 ≤ cmpL a b) = !lexLt a b
  | [], [], _ => rfl
  | [], _ :: _, h => by simp at h
  | _ :: _, [], h => by simp at h
  | x :: a, y :: b, h => by
    have ih := cmpL_lex (a := a) (b := b) (by simpa using h)
    rw [cmpL, lexLt]
    by_cases e : x = y
    · subst e
      have e0 : cmpI x x = 0 := by rw [cmpI, if_neg (by omega), if_neg (by omega)]
      rw [if_pos e0, if_pos rfl, ih]
    · rw [if_neg e]
      by_cases l : x < y
      · have e1 : cmpI x y = -1 := by rw [cmpI, if_pos l]
        rw [e1, if_neg (by omega), decide_eq_true l]; rfl
      · have e1 : cmpI x y = 1 := by rw [cmpI, if_neg l, if_pos (by omega)]
        rw [e1, if_neg (by omega), decide_eq_false l]; rfl
end Go.Proofs.YthfmlelodmcgkaaGreat.V
end
section
namespace Go.Proofs.YthfmlelodmcgkaaGreat.V
open Go
open Go.RowKit Go.Lib Go.Proofs.YthfmlelodmcgkaaGreatW.PrintWords Go.Proofs.YthfmlelodmcgkaaGreatW.PrintLast Go.Proofs.YthfmlelodmcgkaaGreatW.PrintMore
set_option maxHeartbeats 1000000 in
set_option maxRecDepth 100000 in
theorem grow_nil (n : Nat) (w : World) (h0 : 0 < n) (hn : n ≤ 1099511627776) :
    Calls Tryz.prog 183 #[.slice none 0 0, .int .i64 n] w fun e w' => ∃ (cap : Nat) (cur : Array Value), e = .returned (.slice (some ⟨w.heap.size, 0, none⟩) 0 cap) ∧ w' = w.drew.alloc (.cells cur 2) ∧ cap ≤ maxLen ∧ cur.size = cap := by
  obtain ⟨i0, hi0, hz0, hs0, hb0⟩ := info_parts Go.Proofs.YthfmlelodmcgkaaGreat.K.info2
  have h1 : ¬ ((n : Int) < 0) := by omega
  have h2 : wrap64 ((n : Int) - 0) = (n : Int) := by unfold wrap64; omega
  have h4 : (n : Int) > 0 := by omega
  have hold : (Builtin.firstCells i0.size 0 (.slice none 0 0)).run Tryz.prog w.drew = .ok #[] w.drew := run_firstCells_none w.drew i0.size 0 0 0
  have hrz : ∀ ty, (Builtin.append_ #[26, 3] ty #[.slice none 0 0, .int .i64 (n : Int)]).run Tryz.prog w =
      .ok (.slice (some ⟨w.heap.size, 0, none⟩) n (grownCap w n 0 2)) (w.drew.alloc (.cells (#[] ++ Builtin.zeroCells (Value.int .i64 0).cells n ++ Builtin.zeroCells (Value.int .i64 0).cells (grownCap w n 0 2 - n)) 2)) := fun ty => by
    have h := Lib.run_append_grow_zeros w 26 3 ty 2 i0 _ .i64 .i64 Tryz.underlying26 Tryz.underlying3 hi0 hz0 none 0 0 [] hold n h0 (by omega) (by omega) (by omega) (by rw [hb0]; omega) (by rw [hb0]; exact growslice_fits (by omega) (by omega))
    simpa only [Nat.zero_add] using h
  have hGn : n ≤ grownCap w n 0 2 := grownCap_ge w _ _ _
  have hGm := grownCap_le_maxLen w n 0 2 (by unfold maxLen; omega)
  obtain ⟨G, hG⟩ : ∃ G, G = grownCap w n 0 2 := ⟨_, rfl⟩
  rw [← hG] at hrz hGn hGm
  have hG63 : G ≤ 9223372036854775807 := by unfold maxLen at hGm; omega
  have hsz : (#[] ++ Builtin.zeroCells (Value.int .i64 0).cells n ++ Builtin.zeroCells (Value.int .i64 0).cells (G - n)).size = G := by
    simp only [Array.size_append, size_zeroCells, Value.cells]
    simp
    omega
  have HS := Aside0.mk hsz
  have HM := Aside0.mk hGm
  clear hold hG hsz hGm
  go_enter Tryz.func183, Tryz.ntmps183
  go_wp2_with (at_builtin; refine Lib.wpList_append_run _ rfl _ _ _ _ rfl _ _ rfl rfl _ _ (hrz _) ?_)
  all_goals go_ret
  exact ⟨_, rfl, _, rfl, HM.out, by have := HS.out; rwa [Array.empty_append] at this⟩
theorem grow_zero (w : World) : Calls Tryz.prog 183 #[.slice none 0 0, .int .i64 0] w fun e w' => e = .returned (.slice none 0 0) ∧ w' = w := by
  go_enter Tryz.func183, Tryz.ntmps183
  go_wp2
  go_ret
  exact ⟨rfl, rfl⟩
def sp_grow : List Cv → List Obj' → Tree
  | [.one (.v (.slice none 0 0)), .one (.v (.int .i64 n))], [] => .need (0 ≤ n ∧ n ≤ 1099511627776) (.ret (ow 0) [rwi []])
  | _, _ => .fail
theorem good_grow : Good Tryz.prog 183 sp_grow := by
  refine good0 (fun cs o os => by unfold sp_grow; split <;> first | rfl | (rename_i h; cases h)) (fun w F cs vs Kc hF ha hok hK => ?_)
  unfold sp_grow at hK
  split at hK
  case h_2 => exact hK.elim
  rename_i n _
  obtain ⟨u1, u2, rfl, hu1, hu2⟩ : ∃ u1 u2, vs = [u1, u2] ∧ CV Tryz.prog (E00 w F) (.one (.v (.slice none 0 0))) u1 ∧ CV Tryz.prog (E00 w F) (.one (.v (.int .i64 n))) u2 := by
    rcases vs with _ | ⟨u1, _ | ⟨u2, _ | ⟨u3, _⟩⟩⟩
    · exact ha.elim
    · exact ha.2.elim
    · exact ⟨u1, u2, rfl, ha.1, ha.2.1⟩
    · exact ha.2.2.elim
  obtain ⟨⟨rfl, _⟩, _⟩ := hu1
  obtain ⟨⟨rfl, _⟩, _⟩ := hu2
  obtain ⟨⟨h0, h1⟩, hK⟩ := hK
  have fin : ∀ (v : Value) (w' : World), w.grownBy w' none → w'.ownsRow 0 2 1 v 0 [] → (∀ b, blkOf v = some b → w.heap.size ≤ b) → v.oneCell' = true → ∃ r u os E, Ending.returned v = .returned u ∧ Kc r os ∧ E.w = w' ∧ Inv Tryz.prog (X00 w F) (numb 0 os) E ∧ RV Tryz.prog E r u := by
    intro v w' hg ho hb h1
    have hI := ((Inv.start (P := Tryz.prog) w F hF).world (w' := w') (row := none) hg (fun b h => by cases h)).1
    obtain ⟨E', k1, k2, k3, k4, k5, _⟩ := hI.lay 0 rfl (fun h => h) v (fun b => blkOf v = some b) (fun _ => undef) (.row 2 (.int .i64) []) (fun b hb' => ⟨fun h => by have := hF b h; have := hb b hb'; omega, .inl (hb b hb'), fun j o hj => by cases hj⟩) (fun E' hle hw => ⟨[], by rw [hw]; exact ho, rfl, Nat.zero_le _, fun _ => Iff.rfl⟩)
    exact ⟨_, _, _, E', rfl, hK, k1, k3, ⟨⟨k4, k5.symm⟩, h1⟩⟩
  obtain ⟨m, rfl⟩ : ∃ m : Nat, n = m := ⟨n.toNat, by omega⟩
  rcases Nat.eq_zero_or_pos m with hm | hm
  · subst hm
    refine (grow_zero w).mono ?_
    rintro e w' ⟨rfl, rfl⟩
    exact fin _ _ ⟨rfl, rfl, rfl, Nat.le_refl _, fun _ _ _ => rfl⟩ (World.ownsRow_nil _ _ _ _) (fun b h => by cases h) rfl
  · refine (grow_nil m w hm (by omega)).mono ?_
    rintro e w' ⟨cap, cur, rfl, rfl, hc, hs⟩
    refine fin _ _ ⟨rfl, rfl, rfl, by simp, fun k hk _ => heap_alloc_old w.drew _ hk⟩ ⟨rfl, .inr ⟨w.heap.size, cap, cur, rfl, Nat.zero_le _, heap_alloc_new w.drew _, Nat.zero_le _, hc, by rw [hs, Nat.mul_one], rfl⟩⟩ (fun b h => ?_) rfl
    have : w.heap.size = b := by simpa [blkOf] using h
    omega
def c_grow : Ctr Tryz.prog := ⟨183, ent Tryz.func183 rfl rfl, [], sp_grow, good_grow, []⟩
@[go_sem] theorem c_grow_f : c_grow.f = 183 := rfl
@[go_sem] theorem c_grow_ms : c_grow.ms = [] := rfl
@[go_sem] theorem c_grow_sp : c_grow.spec = sp_grow := rfl
@[go_sem] theorem c_grow_fz : c_grow.fz = [] := rfl
attribute [go_sem] sp_grow
end Go.Proofs.YthfmlelodmcgkaaGreat.V
end
section
namespace Go.Proofs.YthfmlelodmcgkaaGreat.V
open Go
abbrev kRow : Kn := .sl 2 (.int .i64)
def sumLen (ls : List (List Int)) : Nat := (ls.map List.length).sum
def sp_concat : List Cv → List Obj' → Tree
  | [.one (.ro (.sl 2 (.int .i64)) ls)], [] => .need (sumLen ls < 1099511627776) (.ret (ow 0) [rwi (List.flatten (ls : List (List Int)))])
  | _, _ => .fail
theorem sumLen_s {ls : List (List Int)} {i : Nat} (h : i < ls.length) : sumLen (ls.take (i + 1)) = sumLen (ls.take i) + (ls.getD i []).length := by
  rw [sumLen, sumLen, List.take_succ_eq_append_getElem h, List.map_append, List.sum_append, List.getD_eq_getElem?_getD, List.getElem?_eq_getElem h]
  simp
theorem sumLen_le (ls : List (List Int)) (i : Nat) : sumLen (ls.take i) ≤ sumLen ls := by
  have e : sumLen ls = sumLen (ls.take i) + sumLen (ls.drop i) := by
    rw [sumLen, sumLen, sumLen, ← List.sum_append, ← List.map_append, List.take_append_drop]
  omega
theorem flat_s {ls : List (List Int)} {i : Nat} (h : i < ls.length) : (ls.take (i + 1)).flatten = (ls.take i).flatten ++ ls.getD i [] := by
  rw [List.take_succ_eq_append_getElem h, List.flatten_append, List.getD_eq_getElem?_getD, List.getElem?_eq_getElem h]
  simp
theorem flat_len (ls : List (List Int)) : ls.flatten.length = sumLen ls := by rw [List.length_flatten]; rfl
theorem w64_add {m n : Nat} (h : m + n < 1099511627776) : w64 ((m : Int) + n) = ((m + n : Nat) : Int) := by rw [w64_id (by omega) (by omega)]; omega
set_option maxHeartbeats 4000000 in
set_option maxRecDepth 100000 in
theorem good_concat : Good Tryz.prog 164 sp_concat := by
  refine good_ofF Tryz.func164 rfl _ rfl _ rfl (tab [c_grow]) (fun X cs os0 K hok hos hK => ?_)
  clear hos; unfold sp_concat at hK
  split at hK
  case h_2 => exact hK.elim
  rename_i ls
  refine ⟨by simp, by simp, ?_⟩
  simp only [go_sem] at hK hok
  simp (maxSteps := 4000000) only [go_sem, Tryz.f164, ↓brB_t, ↓brB_f, Nat.reduceAdd, Int.reduceLE, Int.reduceLT, Int.reduceNeg, decide_true, decide_false, Bool.and_self, Nat.succ_eq_add_one, Int.toNat_natCast, Nat.beq_refl, Bool.and_true, Bool.true_and, Bool.false_or, Bool.or_true, List.all_cons, List.all_nil, Nat.reduceMul, Nat.add_zero, Nat.zero_add, List.length_nil, List.length_cons, dite_true, List.nil_append, Nat.reduceBEq, reduceDIte, reduceIte, reduceCtorEq, Bool.or_false, Bool.true_or, Bool.and_false, Bool.false_and, Bool.not_true, Bool.not_false, Option.isSome_some, Option.isSome_none, Option.getD_some, List.getElem?_cons_zero, List.getElem?_cons_succ, eq_self, and_self, List.take_succ_cons, List.take_zero, List.drop_succ_cons, List.drop_zero]
  obtain ⟨ht, hK⟩ := hK
  have hl := len_i hok.1.1
  clear hok
  refine loop_okF (T := tab [c_grow]) [0, 3, 9, 10, 11] [] (fun i : Nat => ⟨36, [(0, .val (.one (.ro kRow ls))), (3, vi (sumLen (ls.take i) : Nat)), (9, .val (.one (.ro kRow ls))), (10, vi (ls.length : Nat)), (11, vi i)], []⟩)
    (fun i => i ≤ ls.length) (fun i => ls.length - i) 0 rfl rfl (Nat.zero_le _) (fun i hi => ?_)
  simp only [go_sem, ↓brB_t, ↓brB_f, Nat.reduceAdd, Int.reduceLE, Int.reduceLT, Int.reduceNeg, decide_true, decide_false, Bool.and_self, Nat.succ_eq_add_one, Int.toNat_natCast, Nat.beq_refl, Bool.and_true, Bool.true_and, Bool.false_or, Bool.or_true, List.all_cons, List.all_nil, Nat.reduceMul, Nat.add_zero, Nat.zero_add, List.length_nil, List.length_cons, dite_true, List.nil_append, Nat.reduceBEq, reduceDIte, reduceIte, reduceCtorEq, Bool.or_false, Bool.true_or, Bool.and_false, Bool.false_and, Bool.not_true, Bool.not_false, Option.isSome_some, Option.isSome_none, Option.getD_some, List.getElem?_cons_zero, List.getElem?_cons_succ, eq_self, and_self, List.take_succ_cons, List.take_zero, List.drop_succ_cons, List.drop_zero]
  have hti := sumLen_le ls i
  refine brB_intro (fun h1 => ?_) (fun h1 => ⟨⟨by omega, by omega⟩, ?_⟩)
  · have h1 := of_decide_eq_true h1
    have hs := sumLen_s (ls := ls) (i := i) (by omega)
    have hle := sumLen_le ls (i + 1)
    have hw : w64 ((sumLen (ls.take i) : Int) + (ls.getD i []).length) = ((sumLen (ls.take (i + 1)) : Nat) : Int) := by rw [w64_add (by omega), hs]
    simp only [hw]
    refine ⟨⟨by omega, by omega⟩, brB_intro (fun h2 => by have := of_decide_eq_true h2; omega) (fun _ => ⟨i + 1, [], by omega, by omega, rfl, ?_⟩)⟩
    rw [w64_s (n := ls.length) (by omega) hl]; rfl
  · refine loop_okF (T := tab [c_grow]) [6, 25, 26, 27] [(16, 400)] (fun i : Nat => ⟨36, [(6, ow 16), (25, .val (.one (.ro kRow ls))), (26, vi (ls.length : Nat)), (27, vi i)], [(16, rwi (ls.take i).flatten)]⟩)
      (fun i => i ≤ ls.length) (fun i => ls.length - i) 0 rfl rfl (Nat.zero_le _) (fun i hi => ?_)
    have hfl : (ls.take i).flatten.length = sumLen (ls.take i) := flat_len _
    simp only [go_sem, ↓brB_t, ↓brB_f, Nat.reduceAdd, Int.reduceLE, Int.reduceLT, Int.reduceNeg, decide_true, decide_false, Bool.and_self, Nat.succ_eq_add_one, Int.toNat_natCast, Nat.beq_refl, Bool.and_true, Bool.true_and, Bool.false_or, Bool.or_true, List.all_cons, List.all_nil, Nat.reduceMul, Nat.add_zero, Nat.zero_add, List.length_nil, List.length_cons, dite_true, List.nil_append, Nat.reduceBEq, reduceDIte, reduceIte, reduceCtorEq, Bool.or_false, Bool.true_or, Bool.and_false, Bool.false_and, Bool.not_true, Bool.not_false, Option.isSome_some, Option.isSome_none, Option.getD_some, List.getElem?_cons_zero, List.getElem?_cons_succ, eq_self, and_self, List.take_succ_cons, List.take_zero, List.drop_succ_cons, List.drop_zero]
    refine brB_intro (fun h1 => ?_) (fun h1 => retN [16] rfl ?_)
    · have h1 := of_decide_eq_true h1
      have hs := sumLen_s (ls := ls) (i := i) (by omega)
      have hle := sumLen_le ls (i + 1)
      refine ⟨⟨by omega, by omega⟩, by rw [hfl]; omega, i + 1, [(16, 544)], by omega, by omega, rfl, ?_⟩
      rw [w64_s (n := ls.length) (by omega) hl, flat_s (by omega)]; rfl
    · have h1 := of_decide_eq_false h1
      have e : i = ls.length := by omega
      rw [e, List.take_length]; exact hK
def c_concat : Ctr Tryz.prog := ⟨164, ent Tryz.func164 rfl rfl, [], sp_concat, good_concat, []⟩
@[go_sem] theorem c_concat_f : c_concat.f = 164 := rfl
@[go_sem] theorem c_concat_ms : c_concat.ms = [] := rfl
@[go_sem] theorem c_concat_sp : c_concat.spec = sp_concat := rfl
@[go_sem] theorem c_concat_fz : c_concat.fz = [] := rfl
attribute [go_sem] sp_concat
end Go.Proofs.YthfmlelodmcgkaaGreat.V
end
section
namespace Go.Proofs.YthfmlelodmcgkaaGreat.V
open Go
open Go.Proofs.YthfmlelodmcgkaaGreat.K (normFrom normalL metBy idxOf?_lt idxOf?_snoc normFrom_length normalL_length twiceL)
theorem idx_keep (l : List Int) : ∀ (met : List Int) (x : Int), x ∈ met → (metBy met l).idxOf? x = met.idxOf? x := by
  induction l with
  | nil => intro met x _; rfl
  | cons y r ih =>
    intro met x hx
    rw [metBy]
    cases h : met.idxOf? y with
    | some j => exact ih met x hx
    | none =>
      show (metBy (met ++ [y]) r).idxOf? x = _
      rw [ih (met ++ [y]) x (List.mem_append_left _ hx), idxOf?_snoc met y x h, if_neg]
      intro e
      have : y ∉ met := by simpa [List.idxOf?_eq_none_iff] using h
      exact this (e ▸ hx)
theorem mem_metBy (l : List Int) : ∀ (met : List Int) (x : Int), x ∈ met ∨ x ∈ l → x ∈ metBy met l := by
  induction l with
  | nil => intro met x h; simpa [metBy] using h
  | cons y r ih =>
    intro met x h
    rw [metBy]
    cases hy : met.idxOf? y with
    | some j =>
      refine ih met x ?_
      rcases h with h | h
      · exact .inl h
      · rcases List.mem_cons.1 h with e | h
        · subst e
          exact .inl (Decidable.byContradiction fun hn => by
            rw [List.idxOf?_eq_none_iff.2 hn] at hy; cases hy)
        · exact .inr h
    | none =>
      refine ih (met ++ [y]) x ?_
      rcases h with h | h
      · exact .inl (List.mem_append_left _ h)
      · rcases List.mem_cons.1 h with e | h
        · exact .inl (List.mem_append_right _ (by simp [e]))
        · exact .inr h
def gI (m : List Int) (x : Int) : Int := (((m.idxOf? x).getD 0 : Nat) : Int)
theorem normFrom_map' (l : List Int) : ∀ met : List Int, normFrom met l = l.map (gI (metBy met l)) := by
  induction l with
  | nil => intro met; rfl
  | cons x r ih =>
    intro met
    rw [normFrom, metBy]
    cases h : met.idxOf? x with
    | some j =>
      have hx : x ∈ met := Decidable.byContradiction fun hn => by rw [List.idxOf?_eq_none_iff.2 hn] at h; cases h
      show (j : Int) :: normFrom met r = gI (metBy met r) x :: r.map (gI (metBy met r))
      rw [ih met, gI, idx_keep r met x hx, h]; rfl
    | none =>
      show (met.length : Int) :: normFrom (met ++ [x]) r = gI (metBy (met ++ [x]) r) x :: r.map (gI (metBy (met ++ [x]) r))
      rw [ih (met ++ [x]), gI, idx_keep r (met ++ [x]) x (by simp), idxOf?_snoc met x x h, if_pos rfl]; rfl
theorem idx_some {m : List Int} {x : Int} (h : x ∈ m) : ∃ i, m.idxOf? x = some i ∧ m[i]? = some x := by
  cases hx : m.idxOf? x with
  | none => rw [List.idxOf?_eq_none_iff] at hx; exact absurd h hx
  | some i =>
    rw [List.idxOf?, List.findIdx?_eq_some_iff_getElem] at hx
    obtain ⟨h1, h2, _⟩ := hx
    exact ⟨i, rfl, by rw [List.getElem?_eq_getElem h1]; simpa using h2⟩
theorem gI_inj {m : List Int} {x y : Int} (hx : x ∈ m) (hy : y ∈ m) (h : gI m x = gI m y) : x = y := by
  obtain ⟨i, h1, h2⟩ := idx_some hx
  obtain ⟨j, h3, h4⟩ := idx_some hy
  unfold gI at h
  rw [h1, h3] at h
  have : i = j := by
    have h : ((i : Nat) : Int) = ((j : Nat) : Int) := h
    omega
  subst this
  rw [h2] at h4
  injection h4
theorem normalL_gI (l : List Int) : normalL l = l.map (gI (metBy [] l)) := normFrom_map' l []
theorem normal_idem (l : List Int) : normalL (normalL l) = normalL l := by
  have h := Go.Proofs.YthfmlelodmcgkaaGreat.L.normFrom_map (gI (metBy [] l)) l [] (fun x hx y hy e => gI_inj (mem_metBy l [] x (.inr (by simpa using hx))) (mem_metBy l [] y (.inr (by simpa using hy))) e)
  rw [← normalL_gI] at h
  exact h
theorem count_gI {l : List Int} {x : Int} (hx : x ∈ l) : (l.map (gI (metBy [] l))).count (gI (metBy [] l) x) = l.count x := by
  rw [List.count, List.countP_map, List.count]
  refine List.countP_congr fun y hy => ?_
  simp only [Function.comp_apply, beq_iff_eq]
  exact ⟨fun e => gI_inj (mem_metBy l [] y (.inr hy)) (mem_metBy l [] x (.inr hx)) e, fun e => by rw [e]⟩
theorem normal_isW {l : List Int} (hl : l.length ≤ 12) (ht : twiceL l = true) : isW (normalL l) = true := by
  unfold isW
  rw [normalL_length, decide_eq_true hl, normal_idem, decide_eq_true (rfl : normalL l = normalL l), Bool.true_and, Bool.and_true]
  unfold twiceL at ht ⊢
  rw [List.all_eq_true] at ht ⊢
  intro y hy
  rw [normalL_gI] at hy ⊢
  obtain ⟨x, hx, rfl⟩ := List.mem_map.1 hy
  rw [count_gI hx]
  exact ht x hx
end Go.Proofs.YthfmlelodmcgkaaGreat.V
end
