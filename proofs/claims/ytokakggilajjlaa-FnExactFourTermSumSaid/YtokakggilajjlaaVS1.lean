/- Contracts: the law's own functions of sums. Conditions: told by each spec. -/
import Derived.Test.YtokakggilajjlaaVW1
set_option linter.unusedVariables false
set_option linter.unusedSimpArgs false
namespace Go.Proofs.Ytokakggilajjlaa.V
open Go
attribute [go_sem] marks_length
abbrev kTerm : Kn := .pr (.sl 2 (.int .i64)) (.int .i64)
abbrev TermL := List (List Int × Int)
abbrev tI : Nat := 68
theorem snb {b : Bool} (h : (!b) = true) : b = false := by simpa using h
theorem snb' {b : Bool} (h : (!b) = false) : b = true := by simpa using h
/-! ### copies -/
def sp_toTerm : List Cv → List Obj' → Tree
  | [.agg [.ro (.int .i64) w, .v (.int .i64 v)]], [] => .need (w.length ≤ 1099511627776) (.ret (.val (.agg [.own 0, .v (.int .i64 v)])) [rwi w])
  | _, _ => .fail
set_option maxHeartbeats 4000000 in
set_option maxRecDepth 100000 in
theorem good_toTerm : Good Try.prog 114 sp_toTerm := by
  refine good_ofF Try.func114 rfl _ rfl _ rfl (tab [c_to]) (fun X cs os0 K hok hos hK => ?_)
  clear hos; unfold sp_toTerm at hK
  split at hK
  case h_2 => exact hK.elim
  rename_i w v
  refine ⟨by simp, by simp, ?_⟩
  simp only [go_sem] at hK hok
  simp (maxSteps := 4000000) only [go_sem, Try.f114, ↓brB_t, ↓brB_f, Nat.reduceAdd, Int.reduceLE, Int.reduceLT, Int.reduceNeg, decide_true, decide_false, Bool.and_self, Nat.succ_eq_add_one, Int.toNat_natCast, Nat.beq_refl, Bool.and_true, Bool.true_and, Bool.false_or, Bool.or_true, List.all_cons, List.all_nil, Nat.reduceMul, Nat.add_zero, Nat.zero_add, List.length_nil, List.length_cons, dite_true, List.nil_append, Nat.reduceBEq, reduceDIte, reduceIte, reduceCtorEq, Bool.or_false, Bool.true_or, Bool.and_false, Bool.false_and, Bool.not_true, Bool.not_false, Option.isSome_some, Option.isSome_none, Option.getD_some, List.getElem?_cons_zero, List.getElem?_cons_succ, eq_self, and_self, List.take_succ_cons, List.take_zero, List.drop_succ_cons, List.drop_zero]
  exact ⟨hK.1, retN [112] rfl hK.2⟩
def c_toTerm : Ctr Try.prog := ⟨114, ent Try.func114 rfl rfl, [], sp_toTerm, good_toTerm, []⟩
@[go_sem] theorem c_toTerm_f : c_toTerm.f = 114 := rfl
@[go_sem] theorem c_toTerm_ms : c_toTerm.ms = [] := rfl
@[go_sem] theorem c_toTerm_sp : c_toTerm.spec = sp_toTerm := rfl
@[go_sem] theorem c_toTerm_fz : c_toTerm.fz = [] := rfl
attribute [go_sem] sp_toTerm
def cpT (l : TermL) (i : Nat) : TermL := l.take i ++ List.replicate (l.length - i) ([], 0)
theorem cpT_len {l : TermL} {i : Nat} (h : i ≤ l.length) : (cpT l i).length = l.length := by
  rw [cpT, List.length_append, List.length_take, List.length_replicate]; omega
theorem cpT_s {l : TermL} {i : Nat} (h : i < l.length) : (cpT l i).set i (l.getD i ([], 0)) = cpT l (i + 1) := by
  unfold cpT
  have e : l.length - i = (l.length - (i + 1)) + 1 := by omega
  rw [e, List.replicate_succ, List.set_append_right _ _ (by simp; omega)]
  simp only [List.length_take, Nat.min_eq_left (Nat.le_of_lt h), Nat.sub_self, List.set_cons_zero]
  rw [List.take_succ_eq_append_getElem h, List.append_assoc]
  simp [List.getD_eq_getElem?_getD, h]
theorem cpT_all (l : TermL) : cpT l l.length = l := by rw [cpT, Nat.sub_self, List.take_length, List.replicate_zero, List.append_nil]
theorem getD_memT {l : TermL} {i : Nat} (h : i < l.length) : l.getD i ([], 0) ∈ l := by rw [List.getD_eq_getElem?_getD, List.getElem?_eq_getElem h]; exact List.getElem_mem _
def sp_toTermS : List Cv → List Obj' → Tree
  | [.one (.ro (.pr (.sl 2 (.int .i64)) (.int .i64)) ts)], [] => .need (ts.length ≤ 1099511627776 ∧ ∀ x ∈ (ts : TermL), x.1.length ≤ 1099511627776) (.ret (ow 0) [.drow 68 (.pr (.sl 2 (.int .i64)) (.int .i64)) ts])
  | _, _ => .fail
set_option maxHeartbeats 4000000 in
set_option maxRecDepth 100000 in
theorem good_toTermS : Good Try.prog 53 sp_toTermS := by
  refine good_ofF Try.func53 rfl _ rfl _ rfl (tab [c_toTerm]) (fun X cs os0 K hok hos hK => ?_)
  clear hos; unfold sp_toTermS at hK
  split at hK
  case h_2 => exact hK.elim
  rename_i ts
  refine ⟨by simp, by simp, ?_⟩
  simp only [go_sem] at hK hok
  simp (maxSteps := 4000000) only [go_sem, Try.f53, ↓brB_t, ↓brB_f, Nat.reduceAdd, Int.reduceLE, Int.reduceLT, Int.reduceNeg, decide_true, decide_false, Bool.and_self, Nat.succ_eq_add_one, Int.toNat_natCast, Nat.beq_refl, Bool.and_true, Bool.true_and, Bool.false_or, Bool.or_true, List.all_cons, List.all_nil, Nat.reduceMul, Nat.add_zero, Nat.zero_add, List.length_nil, List.length_cons, dite_true, List.nil_append, Nat.reduceBEq, reduceDIte, reduceIte, reduceCtorEq, Bool.or_false, Bool.true_or, Bool.and_false, Bool.false_and, Bool.not_true, Bool.not_false, Option.isSome_some, Option.isSome_none, Option.getD_some, List.getElem?_cons_zero, List.getElem?_cons_succ, eq_self, and_self, List.take_succ_cons, List.take_zero, List.drop_succ_cons, List.drop_zero]
  obtain ⟨⟨hl, hw⟩, hK⟩ := hK
  clear hok
  refine ⟨⟨by omega, by omega, trivial⟩, ?_⟩
  refine loop_okF (T := tab [c_toTerm]) [0, 3, 4] [(16, 128)] (fun i : Nat => ⟨23, [(0, .val (.one (.ro kTerm ts))), (3, ow 16), (4, vi i)], [(16, .drow tI kTerm (cpT ts i))]⟩)
    (fun i => i ≤ ts.length) (fun i => ts.length - i) 0 rfl rfl (Nat.zero_le _) (fun i hi => ?_)
  have hcl := cpT_len hi
  simp only [go_sem, ↓brB_t, ↓brB_f, Nat.reduceAdd, Int.reduceLE, Int.reduceLT, Int.reduceNeg, decide_true, decide_false, Bool.and_self, Nat.succ_eq_add_one, Int.toNat_natCast, Nat.beq_refl, Bool.and_true, Bool.true_and, Bool.false_or, Bool.or_true, List.all_cons, List.all_nil, Nat.reduceMul, Nat.add_zero, Nat.zero_add, List.length_nil, List.length_cons, dite_true, List.nil_append, Nat.reduceBEq, reduceDIte, reduceIte, reduceCtorEq, Bool.or_false, Bool.true_or, Bool.and_false, Bool.false_and, Bool.not_true, Bool.not_false, Option.isSome_some, Option.isSome_none, Option.getD_some, List.getElem?_cons_zero, List.getElem?_cons_succ, eq_self, and_self, List.take_succ_cons, List.take_zero, List.drop_succ_cons, List.drop_zero]
  refine brB_intro (fun h1 => ?_) (fun h1 => retN [16] rfl ?_)
  · have h1 := of_decide_eq_true h1
    refine ⟨⟨by omega, by omega⟩, hw _ (getD_memT (by omega)), ⟨by omega, by omega⟩, i + 1, [(16, 16)], by omega, by omega, rfl, ?_⟩
    have e := cpT_s (l := ts) (i := i) (by omega)
    have hs : w64 ((i : Int) + 1) = ((i + 1 : Nat) : Int) := w64_s (n := ts.length) (by omega) (by omega)
    rw [hs, ← e]; rfl
  · have h1 := of_decide_eq_false h1
    have e : i = ts.length := by omega
    rw [e, cpT_all]; exact hK
def c_toTermS : Ctr Try.prog := ⟨53, ent Try.func53 rfl rfl, [], sp_toTermS, good_toTermS, []⟩
@[go_sem] theorem c_toTermS_f : c_toTermS.f = 53 := rfl
@[go_sem] theorem c_toTermS_ms : c_toTermS.ms = [] := rfl
@[go_sem] theorem c_toTermS_sp : c_toTermS.spec = sp_toTermS := rfl
@[go_sem] theorem c_toTermS_fz : c_toTermS.fz = [] := rfl
attribute [go_sem] sp_toTermS
def sp_toSum : List Cv → List Obj' → Tree
  | [.agg [.v (.int .i64 p), .ro (.pr (.sl 2 (.int .i64)) (.int .i64)) ts]], [] => .need (ts.length ≤ 1099511627776 ∧ ∀ x ∈ (ts : TermL), x.1.length ≤ 1099511627776) (.ret (.val (.agg [.v (.int .i64 p), .own 0])) [.drow 68 (.pr (.sl 2 (.int .i64)) (.int .i64)) ts])
  | _, _ => .fail
set_option maxHeartbeats 4000000 in
set_option maxRecDepth 100000 in
theorem good_toSum : Good Try.prog 15 sp_toSum := by
  refine good_ofF Try.func15 rfl _ rfl _ rfl (tab [c_toTermS]) (fun X cs os0 K hok hos hK => ?_)
  clear hos; unfold sp_toSum at hK
  split at hK
  case h_2 => exact hK.elim
  rename_i p ts
  refine ⟨by simp, by simp, ?_⟩
  simp only [go_sem] at hK hok
  simp (maxSteps := 4000000) only [go_sem, Try.f15, ↓brB_t, ↓brB_f, Nat.reduceAdd, Int.reduceLE, Int.reduceLT, Int.reduceNeg, decide_true, decide_false, Bool.and_self, Nat.succ_eq_add_one, Int.toNat_natCast, Nat.beq_refl, Bool.and_true, Bool.true_and, Bool.false_or, Bool.or_true, List.all_cons, List.all_nil, Nat.reduceMul, Nat.add_zero, Nat.zero_add, List.length_nil, List.length_cons, dite_true, List.nil_append, Nat.reduceBEq, reduceDIte, reduceIte, reduceCtorEq, Bool.or_false, Bool.true_or, Bool.and_false, Bool.false_and, Bool.not_true, Bool.not_false, Option.isSome_some, Option.isSome_none, Option.getD_some, List.getElem?_cons_zero, List.getElem?_cons_succ, eq_self, and_self, List.take_succ_cons, List.take_zero, List.drop_succ_cons, List.drop_zero]
  exact ⟨hK.1, retN [160] rfl hK.2⟩
def c_toSum : Ctr Try.prog := ⟨15, ent Try.func15 rfl rfl, [], sp_toSum, good_toSum, []⟩
@[go_sem] theorem c_toSum_f : c_toSum.f = 15 := rfl
@[go_sem] theorem c_toSum_ms : c_toSum.ms = [] := rfl
@[go_sem] theorem c_toSum_sp : c_toSum.spec = sp_toSum := rfl
@[go_sem] theorem c_toSum_fz : c_toSum.fz = [] := rfl
attribute [go_sem] sp_toSum
/-! ### comparisons -/
def sp_eqTerm : List Cv → List Obj' → Tree
  | [.agg [.ro (.int .i64) w, .v (.int .i64 v)], .agg [.ro (.int .i64) w', .v (.int .i64 v')]], [] => .ret (vb (decide ((w : List Int) = w') && decide (v = v'))) []
  | _, _ => .fail
set_option maxHeartbeats 4000000 in
set_option maxRecDepth 100000 in
theorem good_eqTerm : Good Try.prog 119 sp_eqTerm := by
  refine good_ofF Try.func119 rfl _ rfl _ rfl (tab [c_eqS]) (fun X cs os0 K hok hos hK => ?_)
  clear hos; unfold sp_eqTerm at hK
  split at hK
  case h_2 => exact hK.elim
  rename_i w v w' v'
  refine ⟨by simp, by simp, ?_⟩
  simp only [go_sem] at hK hok
  simp (maxSteps := 4000000) only [go_sem, Try.f119, ↓brB_t, ↓brB_f, Nat.reduceAdd, Int.reduceLE, Int.reduceLT, Int.reduceNeg, decide_true, decide_false, Bool.and_self, Nat.succ_eq_add_one, Int.toNat_natCast, Nat.beq_refl, Bool.and_true, Bool.true_and, Bool.false_or, Bool.or_true, List.all_cons, List.all_nil, Nat.reduceMul, Nat.add_zero, Nat.zero_add, List.length_nil, List.length_cons, dite_true, List.nil_append, Nat.reduceBEq, reduceDIte, reduceIte, reduceCtorEq, Bool.or_false, Bool.true_or, Bool.and_false, Bool.false_and, Bool.not_true, Bool.not_false, Option.isSome_some, Option.isSome_none, Option.getD_some, List.getElem?_cons_zero, List.getElem?_cons_succ, eq_self, and_self, List.take_succ_cons, List.take_zero, List.drop_succ_cons, List.drop_zero]
  refine brB_intro (fun h => ret0 (by rw [snb h] at hK; exact hK)) (fun h => brB_intro (fun h2 => ret0 (by rw [snb' h, snb h2] at hK; exact hK)) (fun h2 => ret0 (by rw [snb' h, snb' h2] at hK; exact hK)))
def c_eqTerm : Ctr Try.prog := ⟨119, ent Try.func119 rfl rfl, [], sp_eqTerm, good_eqTerm, []⟩
@[go_sem] theorem c_eqTerm_f : c_eqTerm.f = 119 := rfl
@[go_sem] theorem c_eqTerm_ms : c_eqTerm.ms = [] := rfl
@[go_sem] theorem c_eqTerm_sp : c_eqTerm.spec = sp_eqTerm := rfl
@[go_sem] theorem c_eqTerm_fz : c_eqTerm.fz = [] := rfl
attribute [go_sem] sp_eqTerm
def sp_eqTermS : List Cv → List Obj' → Tree
  | [.one (.ro (.pr (.sl 2 (.int .i64)) (.int .i64)) ts), .one (.ro (.pr (.sl 2 (.int .i64)) (.int .i64)) us)], [] => .ret (vb (decide ((ts : TermL) = us))) []
  | _, _ => .fail
theorem takeT_s {l m : TermL} {i : Nat} (h : i < l.length) (hm : i < m.length) (e : l.take i = m.take i) (e1 : l.getD i ([], 0) = m.getD i ([], 0)) : l.take (i + 1) = m.take (i + 1) := by
  rw [List.take_succ_eq_append_getElem h, List.take_succ_eq_append_getElem hm, e]
  rw [List.getD_eq_getElem?_getD, List.getD_eq_getElem?_getD, List.getElem?_eq_getElem h, List.getElem?_eq_getElem hm] at e1
  congr 2
set_option maxHeartbeats 4000000 in
set_option maxRecDepth 100000 in
theorem good_eqTermS : Good Try.prog 58 sp_eqTermS := by
  refine good_ofF Try.func58 rfl _ rfl _ rfl (tab [c_eqTerm]) (fun X cs os0 K hok hos hK => ?_)
  clear hos; unfold sp_eqTermS at hK
  split at hK
  case h_2 => exact hK.elim
  rename_i ts us
  refine ⟨by simp, by simp, ?_⟩
  simp only [go_sem] at hK hok
  simp (maxSteps := 4000000) only [go_sem, Try.f58, ↓brB_t, ↓brB_f, Nat.reduceAdd, Int.reduceLE, Int.reduceLT, Int.reduceNeg, decide_true, decide_false, Bool.and_self, Nat.succ_eq_add_one, Int.toNat_natCast, Nat.beq_refl, Bool.and_true, Bool.true_and, Bool.false_or, Bool.or_true, List.all_cons, List.all_nil, Nat.reduceMul, Nat.add_zero, Nat.zero_add, List.length_nil, List.length_cons, dite_true, List.nil_append, Nat.reduceBEq, reduceDIte, reduceIte, reduceCtorEq, Bool.or_false, Bool.true_or, Bool.and_false, Bool.false_and, Bool.not_true, Bool.not_false, Option.isSome_some, Option.isSome_none, Option.getD_some, List.getElem?_cons_zero, List.getElem?_cons_succ, eq_self, and_self, List.take_succ_cons, List.take_zero, List.drop_succ_cons, List.drop_zero]
  have hl1 := len_i hok.1.1
  clear hok
  refine brB_intro (fun h => ret0 ?_) (fun h => ?_)
  · have e : ¬ ts = us := fun e => by rw [e] at h; simp at h
    rw [decide_eq_false e] at hK; exact hK
  · have hl : ts.length = us.length := by have := of_decide_eq_true (snb' h); omega
    refine loop_okF (T := tab [c_eqTerm]) [0, 1, 5] [] (fun i : Nat => ⟨27, [(0, .val (.one (.ro kTerm ts))), (1, .val (.one (.ro kTerm us))), (5, vi i)], []⟩)
      (fun i => i ≤ ts.length ∧ ts.take i = us.take i) (fun i => ts.length - i) 0 rfl rfl ⟨Nat.zero_le _, rfl⟩ (fun i hi => ?_)
    obtain ⟨hi, he⟩ := hi
    simp only [go_sem, ↓brB_t, ↓brB_f, Nat.reduceAdd, Int.reduceLE, Int.reduceLT, Int.reduceNeg, decide_true, decide_false, Bool.and_self, Nat.succ_eq_add_one, Int.toNat_natCast, Nat.beq_refl, Bool.and_true, Bool.true_and, Bool.false_or, Bool.or_true, List.all_cons, List.all_nil, Nat.reduceMul, Nat.add_zero, Nat.zero_add, List.length_nil, List.length_cons, dite_true, List.nil_append, Nat.reduceBEq, reduceDIte, reduceIte, reduceCtorEq, Bool.or_false, Bool.true_or, Bool.and_false, Bool.false_and, Bool.not_true, Bool.not_false, Option.isSome_some, Option.isSome_none, Option.getD_some, List.getElem?_cons_zero, List.getElem?_cons_succ, eq_self, and_self, List.take_succ_cons, List.take_zero, List.drop_succ_cons, List.drop_zero]
    refine brB_intro (fun h1 => ?_) (fun h1 => ret0 ?_)
    · have h1 := of_decide_eq_true h1
      have hs : w64 ((i : Int) + 1) = ((i + 1 : Nat) : Int) := w64_s (n := ts.length) (by omega) hl1
      refine ⟨⟨by omega, by omega⟩, ⟨by omega, by omega⟩, by kernel_rfl, brB_intro (fun h2 => ret0 ?_) (fun h2 => ⟨i + 1, [], ⟨by omega, takeT_s (by omega) (by omega) he ?_⟩, by omega, rfl, by rw [hs]; rfl⟩)⟩
      · have e : ¬ ts = us := fun e => by
          have h2 := snb h2
          rw [e] at h2
          simp at h2
        rw [decide_eq_false e] at hK; exact hK
      · have h2 := Bool.and_eq_true_iff.1 (snb' h2)
        exact Prod.ext (of_decide_eq_true h2.1) (of_decide_eq_true h2.2)
    · have h1 := of_decide_eq_false h1
      have e : i = ts.length := by omega
      rw [e, List.take_length, hl, List.take_length] at he
      rw [decide_eq_true he] at hK; exact hK
def c_eqTermS : Ctr Try.prog := ⟨58, ent Try.func58 rfl rfl, [], sp_eqTermS, good_eqTermS, []⟩
@[go_sem] theorem c_eqTermS_f : c_eqTermS.f = 58 := rfl
@[go_sem] theorem c_eqTermS_ms : c_eqTermS.ms = [] := rfl
@[go_sem] theorem c_eqTermS_sp : c_eqTermS.spec = sp_eqTermS := rfl
@[go_sem] theorem c_eqTermS_fz : c_eqTermS.fz = [] := rfl
attribute [go_sem] sp_eqTermS
def sp_eqSum : List Cv → List Obj' → Tree
  | [.agg [.v (.int .i64 p), .ro (.pr (.sl 2 (.int .i64)) (.int .i64)) ts], .agg [.v (.int .i64 q), .ro (.pr (.sl 2 (.int .i64)) (.int .i64)) us]], [] => .ret (vb (decide (p = q) && decide ((ts : TermL) = us))) []
  | _, _ => .fail
set_option maxHeartbeats 4000000 in
set_option maxRecDepth 100000 in
theorem good_eqSum : Good Try.prog 17 sp_eqSum := by
  refine good_ofF Try.func17 rfl _ rfl _ rfl (tab [c_eqTermS]) (fun X cs os0 K hok hos hK => ?_)
  clear hos; unfold sp_eqSum at hK
  split at hK
  case h_2 => exact hK.elim
  rename_i p ts q us
  refine ⟨by simp, by simp, ?_⟩
  simp only [go_sem] at hK hok
  simp (maxSteps := 4000000) only [go_sem, Try.f17, ↓brB_t, ↓brB_f, Nat.reduceAdd, Int.reduceLE, Int.reduceLT, Int.reduceNeg, decide_true, decide_false, Bool.and_self, Nat.succ_eq_add_one, Int.toNat_natCast, Nat.beq_refl, Bool.and_true, Bool.true_and, Bool.false_or, Bool.or_true, List.all_cons, List.all_nil, Nat.reduceMul, Nat.add_zero, Nat.zero_add, List.length_nil, List.length_cons, dite_true, List.nil_append, Nat.reduceBEq, reduceDIte, reduceIte, reduceCtorEq, Bool.or_false, Bool.true_or, Bool.and_false, Bool.false_and, Bool.not_true, Bool.not_false, Option.isSome_some, Option.isSome_none, Option.getD_some, List.getElem?_cons_zero, List.getElem?_cons_succ, eq_self, and_self, List.take_succ_cons, List.take_zero, List.drop_succ_cons, List.drop_zero]
  refine brB_intro (fun h => ret0 (by rw [snb h] at hK; exact hK)) (fun h => brB_intro (fun h2 => ret0 (by rw [snb' h, snb h2] at hK; exact hK)) (fun h2 => ret0 (by rw [snb' h, snb' h2] at hK; exact hK)))
def c_eqSum : Ctr Try.prog := ⟨17, ent Try.func17 rfl rfl, [], sp_eqSum, good_eqSum, []⟩
@[go_sem] theorem c_eqSum_f : c_eqSum.f = 17 := rfl
@[go_sem] theorem c_eqSum_ms : c_eqSum.ms = [] := rfl
@[go_sem] theorem c_eqSum_sp : c_eqSum.spec = sp_eqSum := rfl
@[go_sem] theorem c_eqSum_fz : c_eqSum.fz = [] := rfl
attribute [go_sem] sp_eqSum
/-! ### sizes -/
def szT (ts : TermL) : Nat := (ts.map fun x => x.1.length).sum
theorem szT_s {ts : TermL} {i : Nat} (h : i < ts.length) : szT (ts.take (i + 1)) = szT (ts.take i) + (ts.getD i ([], 0)).1.length := by
  rw [szT, szT, List.take_succ_eq_append_getElem h, List.map_append, List.sum_append, List.getD_eq_getElem?_getD, List.getElem?_eq_getElem h]
  simp
theorem szT_le (ts : TermL) (i : Nat) : szT (ts.take i) ≤ szT ts := by
  have e : szT ts = szT (ts.take i) + szT (ts.drop i) := by
    rw [szT, szT, szT, ← List.sum_append, ← List.map_append, List.take_append_drop]
  omega
theorem szT_mem {ts : TermL} {x : List Int × Int} (h : x ∈ ts) : x.1.length ≤ szT ts := by
  induction ts with
  | nil => cases h
  | cons y r ih =>
    have e : szT (y :: r) = y.1.length + szT r := by simp [szT]
    rcases List.mem_cons.1 h with rfl | h
    · omega
    · have := ih h; omega
def sp_szTerm : List Cv → List Obj' → Tree
  | [.agg [.ro (.int .i64) w, .v (.int .i64 v)], .one (.v (.int .i64 n))], [] => .need (0 ≤ n) (.ret (vi (if n < w.length then -1 else n - w.length)) [])
  | _, _ => .fail
set_option maxHeartbeats 4000000 in
set_option maxRecDepth 100000 in
theorem good_szTerm : Good Try.prog 109 sp_szTerm := by
  refine good_ofF Try.func109 rfl _ rfl _ rfl (tab [c_sz]) (fun X cs os0 K hok hos hK => ?_)
  clear hos; unfold sp_szTerm at hK
  split at hK
  case h_2 => exact hK.elim
  rename_i w v n
  refine ⟨by simp, by simp, ?_⟩
  simp only [go_sem] at hK hok
  simp (maxSteps := 4000000) only [go_sem, Try.f109, ↓brB_t, ↓brB_f, Nat.reduceAdd, Int.reduceLE, Int.reduceLT, Int.reduceNeg, decide_true, decide_false, Bool.and_self, Nat.succ_eq_add_one, Int.toNat_natCast, Nat.beq_refl, Bool.and_true, Bool.true_and, Bool.false_or, Bool.or_true, List.all_cons, List.all_nil, Nat.reduceMul, Nat.add_zero, Nat.zero_add, List.length_nil, List.length_cons, dite_true, List.nil_append, Nat.reduceBEq, reduceDIte, reduceIte, reduceCtorEq, Bool.or_false, Bool.true_or, Bool.and_false, Bool.false_and, Bool.not_true, Bool.not_false, Option.isSome_some, Option.isSome_none, Option.getD_some, List.getElem?_cons_zero, List.getElem?_cons_succ, eq_self, and_self, List.take_succ_cons, List.take_zero, List.drop_succ_cons, List.drop_zero]
  obtain ⟨hn, hK⟩ := hK
  clear hok
  refine ⟨hn, brB_intro (fun h => ret0 ?_) (fun h => ret0 ?_)⟩
  · have h := of_decide_eq_true h
    have e : n < w.length := by split at h <;> omega
    rw [if_pos e] at hK; exact hK
  · exact hK
def c_szTerm : Ctr Try.prog := ⟨109, ent Try.func109 rfl rfl, [], sp_szTerm, good_szTerm, []⟩
@[go_sem] theorem c_szTerm_f : c_szTerm.f = 109 := rfl
@[go_sem] theorem c_szTerm_ms : c_szTerm.ms = [] := rfl
@[go_sem] theorem c_szTerm_sp : c_szTerm.spec = sp_szTerm := rfl
@[go_sem] theorem c_szTerm_fz : c_szTerm.fz = [] := rfl
attribute [go_sem] sp_szTerm
def sp_szTermS : List Cv → List Obj' → Tree
  | [.one (.ro (.pr (.sl 2 (.int .i64)) (.int .i64)) ts), .one (.v (.int .i64 n))], [] => .need (0 ≤ n) (.ret (vi (if n < ts.length + szT ts then -1 else n - ts.length - szT ts)) [])
  | _, _ => .fail
set_option maxHeartbeats 4000000 in
set_option maxRecDepth 100000 in
theorem good_szTermS : Good Try.prog 48 sp_szTermS := by
  refine good_ofF Try.func48 rfl _ rfl _ rfl (tab [c_szTerm]) (fun X cs os0 K hok hos hK => ?_)
  clear hos; unfold sp_szTermS at hK
  split at hK
  case h_2 => exact hK.elim
  rename_i ts n
  refine ⟨by simp, by simp, ?_⟩
  simp only [go_sem] at hK hok
  simp (maxSteps := 4000000) only [go_sem, Try.f48, ↓brB_t, ↓brB_f, Nat.reduceAdd, Int.reduceLE, Int.reduceLT, Int.reduceNeg, decide_true, decide_false, Bool.and_self, Nat.succ_eq_add_one, Int.toNat_natCast, Nat.beq_refl, Bool.and_true, Bool.true_and, Bool.false_or, Bool.or_true, List.all_cons, List.all_nil, Nat.reduceMul, Nat.add_zero, Nat.zero_add, List.length_nil, List.length_cons, dite_true, List.nil_append, Nat.reduceBEq, reduceDIte, reduceIte, reduceCtorEq, Bool.or_false, Bool.true_or, Bool.and_false, Bool.false_and, Bool.not_true, Bool.not_false, Option.isSome_some, Option.isSome_none, Option.getD_some, List.getElem?_cons_zero, List.getElem?_cons_succ, eq_self, and_self, List.take_succ_cons, List.take_zero, List.drop_succ_cons, List.drop_zero]
  obtain ⟨hn, hK⟩ := hK
  have hl1 := len_i hok.1.1
  have hn2 := hok.2.1.2
  clear hok
  have ew : w64 (n - ts.length) = n - ts.length := w64_id (by omega) (by omega)
  simp only [ew]
  refine brB_intro (fun h => ret0 ?_) (fun h => ?_)
  · have h := of_decide_eq_true h
    rw [if_pos (by omega)] at hK; exact hK
  · have h := of_decide_eq_false h
    refine loop_okF (T := tab [c_szTerm]) [0, 1, 5] [] (fun i : Nat => ⟨27, [(0, .val (.one (.ro kTerm ts))), (1, vi (n - ts.length - szT (ts.take i))), (5, vi i)], []⟩)
      (fun i => i ≤ ts.length ∧ 0 ≤ n - ts.length - szT (ts.take i)) (fun i => ts.length - i) 0 rfl (by rw [show n - (ts.length : Int) - (szT (ts.take 0) : Nat) = n - ts.length by simp [szT]]; rfl) ⟨Nat.zero_le _, by simp [szT]; omega⟩ (fun i hi => ?_)
    obtain ⟨hi, h0⟩ := hi
    simp only [go_sem, ↓brB_t, ↓brB_f, Nat.reduceAdd, Int.reduceLE, Int.reduceLT, Int.reduceNeg, decide_true, decide_false, Bool.and_self, Nat.succ_eq_add_one, Int.toNat_natCast, Nat.beq_refl, Bool.and_true, Bool.true_and, Bool.false_or, Bool.or_true, List.all_cons, List.all_nil, Nat.reduceMul, Nat.add_zero, Nat.zero_add, List.length_nil, List.length_cons, dite_true, List.nil_append, Nat.reduceBEq, reduceDIte, reduceIte, reduceCtorEq, Bool.or_false, Bool.true_or, Bool.and_false, Bool.false_and, Bool.not_true, Bool.not_false, Option.isSome_some, Option.isSome_none, Option.getD_some, List.getElem?_cons_zero, List.getElem?_cons_succ, eq_self, and_self, List.take_succ_cons, List.take_zero, List.drop_succ_cons, List.drop_zero]
    refine brB_intro (fun h1 => ?_) (fun h1 => ret0 ?_)
    · have h1 := of_decide_eq_true h1
      have hs := szT_s (ts := ts) (i := i) (by omega)
      have hle := szT_le ts (i + 1)
      have hw : w64 ((i : Int) + 1) = ((i + 1 : Nat) : Int) := w64_s (n := ts.length) (by omega) hl1
      refine ⟨⟨by omega, by omega⟩, h0, brB_intro (fun h2 => ret0 ?_) (fun h2 => ?_)⟩
      · have h2 := of_decide_eq_true h2
        have e : n < ts.length + szT ts := by split at h2 <;> omega
        rw [if_pos e] at hK; exact hK
      · have h2 := of_decide_eq_false h2
        by_cases e : n - ts.length - szT (ts.take i) < ((ts.getD i ([], 0)).1.length : Int)
        · rw [if_pos e] at h2; omega
        · refine ⟨i + 1, [], ⟨by omega, by rw [hs]; omega⟩, by omega, rfl, ?_⟩
          rw [if_neg e, hw, hs]
          have e2 : n - (ts.length : Int) - (szT (ts.take i) : Int) - ((ts.getD i ([], 0)).1.length : Int) = n - ts.length - ((szT (ts.take i) + (ts.getD i ([], 0)).1.length : Nat) : Int) := by omega
          rw [e2]; rfl
    · have h1 := of_decide_eq_false h1
      have e : i = ts.length := by omega
      rw [e, List.take_length] at h0 ⊢
      rw [if_neg (by omega)] at hK
      exact hK
def c_szTermS : Ctr Try.prog := ⟨48, ent Try.func48 rfl rfl, [], sp_szTermS, good_szTermS, []⟩
@[go_sem] theorem c_szTermS_f : c_szTermS.f = 48 := rfl
@[go_sem] theorem c_szTermS_ms : c_szTermS.ms = [] := rfl
@[go_sem] theorem c_szTermS_sp : c_szTermS.spec = sp_szTermS := rfl
@[go_sem] theorem c_szTermS_fz : c_szTermS.fz = [] := rfl
attribute [go_sem] sp_szTermS
def sp_szSum : List Cv → List Obj' → Tree
  | [.agg [.v (.int .i64 p), .ro (.pr (.sl 2 (.int .i64)) (.int .i64)) ts], .one (.v (.int .i64 n))], [] => .need (0 ≤ n) (.ret (vi (if n < ts.length + szT ts then -1 else n - ts.length - szT ts)) [])
  | _, _ => .fail
set_option maxHeartbeats 4000000 in
set_option maxRecDepth 100000 in
theorem good_szSum : Good Try.prog 13 sp_szSum := by
  refine good_ofF Try.func13 rfl _ rfl _ rfl (tab [c_szTermS]) (fun X cs os0 K hok hos hK => ?_)
  clear hos; unfold sp_szSum at hK
  split at hK
  case h_2 => exact hK.elim
  rename_i p ts n
  refine ⟨by simp, by simp, ?_⟩
  simp only [go_sem] at hK hok
  simp (maxSteps := 4000000) only [go_sem, Try.f13, ↓brB_t, ↓brB_f, Nat.reduceAdd, Int.reduceLE, Int.reduceLT, Int.reduceNeg, decide_true, decide_false, Bool.and_self, Nat.succ_eq_add_one, Int.toNat_natCast, Nat.beq_refl, Bool.and_true, Bool.true_and, Bool.false_or, Bool.or_true, List.all_cons, List.all_nil, Nat.reduceMul, Nat.add_zero, Nat.zero_add, List.length_nil, List.length_cons, dite_true, List.nil_append, Nat.reduceBEq, reduceDIte, reduceIte, reduceCtorEq, Bool.or_false, Bool.true_or, Bool.and_false, Bool.false_and, Bool.not_true, Bool.not_false, Option.isSome_some, Option.isSome_none, Option.getD_some, List.getElem?_cons_zero, List.getElem?_cons_succ, eq_self, and_self, List.take_succ_cons, List.take_zero, List.drop_succ_cons, List.drop_zero]
  obtain ⟨hn, hK⟩ := hK
  clear hok
  refine ⟨hn, brB_intro (fun h => ret0 ?_) (fun h => ret0 ?_)⟩
  · have h := of_decide_eq_true h
    have e : n < ts.length + szT ts := by split at h <;> omega
    rw [if_pos e] at hK; exact hK
  · exact hK
def c_szSum : Ctr Try.prog := ⟨13, ent Try.func13 rfl rfl, [], sp_szSum, good_szSum, []⟩
@[go_sem] theorem c_szSum_f : c_szSum.f = 13 := rfl
@[go_sem] theorem c_szSum_ms : c_szSum.ms = [] := rfl
@[go_sem] theorem c_szSum_sp : c_szSum.spec = sp_szSum := rfl
@[go_sem] theorem c_szSum_fz : c_szSum.fz = [] := rfl
attribute [go_sem] sp_szSum
end Go.Proofs.Ytokakggilajjlaa.V
