/- Contracts: rows of rows are compared, marked, held. Conditions: told by each spec. -/
import Derived.Test.YtokakggilajjlaaVW2
set_option linter.unusedVariables false
set_option linter.unusedSimpArgs false
namespace Go.Proofs.Ytokakggilajjlaa.V
open Go
abbrev kR : Kn := .sl 2 (.int .i64)
abbrev RowL := List (List Int)
def sp_eqSS : List Cv → List Obj' → Tree
  | [.one (.ro (.sl 2 (.int .i64)) ts), .one (.ro (.sl 2 (.int .i64)) us)], [] => .ret (vb (decide ((ts : RowL) = us))) []
  | _, _ => .fail
theorem takeR_s {l m : RowL} {i : Nat} (h : i < l.length) (hm : i < m.length) (e : l.take i = m.take i) (e1 : l.getD i [] = m.getD i []) : l.take (i + 1) = m.take (i + 1) := by
  rw [List.take_succ_eq_append_getElem h, List.take_succ_eq_append_getElem hm, e]
  rw [List.getD_eq_getElem?_getD, List.getD_eq_getElem?_getD, List.getElem?_eq_getElem h, List.getElem?_eq_getElem hm] at e1
  congr 2
set_option maxHeartbeats 4000000 in
set_option maxRecDepth 100000 in
theorem good_eqSS : Good Try.prog 43 sp_eqSS := by
  refine good_ofF Try.func43 rfl _ rfl _ rfl (tab [c_eqS]) (fun X cs os0 K hok hos hK => ?_)
  clear hos; unfold sp_eqSS at hK
  split at hK
  case h_2 => exact hK.elim
  rename_i ts us
  refine ⟨by simp, by simp, ?_⟩
  simp only [go_sem] at hK hok
  simp (maxSteps := 4000000) only [go_sem, Try.f43, ↓brB_t, ↓brB_f, Nat.reduceAdd, Int.reduceLE, Int.reduceLT, Int.reduceNeg, decide_true, decide_false, Bool.and_self, Nat.succ_eq_add_one, Int.toNat_natCast, Nat.beq_refl, Bool.and_true, Bool.true_and, Bool.false_or, Bool.or_true, List.all_cons, List.all_nil, Nat.reduceMul, Nat.add_zero, Nat.zero_add, List.length_nil, List.length_cons, dite_true, List.nil_append, Nat.reduceBEq, reduceDIte, reduceIte, reduceCtorEq, Bool.or_false, Bool.true_or, Bool.and_false, Bool.false_and, Bool.not_true, Bool.not_false, Option.isSome_some, Option.isSome_none, Option.getD_some, List.getElem?_cons_zero, List.getElem?_cons_succ, eq_self, and_self, List.take_succ_cons, List.take_zero, List.drop_succ_cons, List.drop_zero]
  have hl1 := len_i hok.1.1
  clear hok
  refine brB_intro (fun h => ret0 ?_) (fun h => ?_)
  · have e : ¬ ts = us := fun e => by rw [e] at h; simp at h
    rw [decide_eq_false e] at hK; exact hK
  · have hl : ts.length = us.length := by have := of_decide_eq_true (nb' h); omega
    refine loop_okF (T := tab [c_eqS]) [0, 1, 5] [] (fun i : Nat => ⟨27, [(0, .val (.one (.ro kR ts))), (1, .val (.one (.ro kR us))), (5, vi i)], []⟩)
      (fun i => i ≤ ts.length ∧ ts.take i = us.take i) (fun i => ts.length - i) 0 rfl rfl ⟨Nat.zero_le _, rfl⟩ (fun i hi => ?_)
    obtain ⟨hi, he⟩ := hi
    simp only [go_sem, ↓brB_t, ↓brB_f, Nat.reduceAdd, Int.reduceLE, Int.reduceLT, Int.reduceNeg, decide_true, decide_false, Bool.and_self, Nat.succ_eq_add_one, Int.toNat_natCast, Nat.beq_refl, Bool.and_true, Bool.true_and, Bool.false_or, Bool.or_true, List.all_cons, List.all_nil, Nat.reduceMul, Nat.add_zero, Nat.zero_add, List.length_nil, List.length_cons, dite_true, List.nil_append, Nat.reduceBEq, reduceDIte, reduceIte, reduceCtorEq, Bool.or_false, Bool.true_or, Bool.and_false, Bool.false_and, Bool.not_true, Bool.not_false, Option.isSome_some, Option.isSome_none, Option.getD_some, List.getElem?_cons_zero, List.getElem?_cons_succ, eq_self, and_self, List.take_succ_cons, List.take_zero, List.drop_succ_cons, List.drop_zero]
    refine brB_intro (fun h1 => ?_) (fun h1 => ret0 ?_)
    · have h1 := of_decide_eq_true h1
      have hs : w64 ((i : Int) + 1) = ((i + 1 : Nat) : Int) := w64_s (n := ts.length) (by omega) hl1
      refine ⟨⟨by omega, by omega⟩, ⟨by omega, by omega⟩, by kernel_rfl, brB_intro (fun h2 => ret0 ?_) (fun h2 => ⟨i + 1, [], ⟨by omega, takeR_s (by omega) (by omega) he ?_⟩, by omega, rfl, by rw [hs]; rfl⟩)⟩
      · have e : ¬ ts = us := fun e => by
          have h2 := nb h2
          rw [e] at h2
          simp at h2
        rw [decide_eq_false e] at hK; exact hK
      · exact of_decide_eq_true (nb' h2)
    · have h1 := of_decide_eq_false h1
      have e : i = ts.length := by omega
      rw [e, List.take_length, hl, List.take_length] at he
      rw [decide_eq_true he] at hK; exact hK
def c_eqSS : Ctr Try.prog := ⟨43, ent Try.func43 rfl rfl, [], sp_eqSS, good_eqSS, []⟩
@[go_sem] theorem c_eqSS_f : c_eqSS.f = 43 := rfl
@[go_sem] theorem c_eqSS_ms : c_eqSS.ms = [] := rfl
@[go_sem] theorem c_eqSS_sp : c_eqSS.spec = sp_eqSS := rfl
@[go_sem] theorem c_eqSS_fz : c_eqSS.fz = [] := rfl
attribute [go_sem] sp_eqSS
def szR (ts : RowL) : Nat := (ts.map fun x => x.length).sum
theorem szR_s {ts : RowL} {i : Nat} (h : i < ts.length) : szR (ts.take (i + 1)) = szR (ts.take i) + (ts.getD i []).length := by
  rw [szR, szR, List.take_succ_eq_append_getElem h, List.map_append, List.sum_append, List.getD_eq_getElem?_getD, List.getElem?_eq_getElem h]
  simp
theorem szR_le (ts : RowL) (i : Nat) : szR (ts.take i) ≤ szR ts := by
  unfold szR
  conv => rhs; rw [← List.take_append_drop i ts]
  rw [List.map_append, List.sum_append]
  omega
def markR (k : Int) : RowL → RowL
  | [] => []
  | x :: r => marks k x.length :: markR (k + x.length) r
theorem markR_length : ∀ (ts : RowL) (k : Int), (markR k ts).length = ts.length
  | [], k => rfl
  | x :: r, k => by rw [markR, List.length_cons, List.length_cons, markR_length r]
theorem markR_snoc (x : List Int) : ∀ (ts : RowL) (k : Int), markR k (ts ++ [x]) = markR k ts ++ [marks (k + szR ts) x.length]
  | [], k => by simp [markR, szR]
  | y :: r, k => by
    have e : k + y.length + szR r = k + szR (y :: r) := by
      have : szR (y :: r) = y.length + szR r := by simp [szR]
      rw [this]; omega
    rw [List.cons_append, markR, markR_snoc x r, e, markR, List.cons_append]
def curR (k : Int) (ts : RowL) (i : Nat) : RowL := markR k (ts.take i) ++ ts.drop i
theorem curR_length (k : Int) (ts : RowL) (i : Nat) : (curR k ts i).length = ts.length := by
  rw [curR, List.length_append, markR_length, List.length_take, List.length_drop]; omega
theorem curR_get {k : Int} {ts : RowL} {i : Nat} (h : i < ts.length) : (curR k ts i).getD i [] = ts.getD i [] := by
  rw [curR, List.getD_eq_getElem?_getD, List.getD_eq_getElem?_getD, List.getElem?_append_right (by rw [markR_length, List.length_take]; omega), markR_length, List.length_take, List.getElem?_drop]
  rw [show i + (i - min i ts.length) = i by omega]
theorem curR_s {k : Int} {ts : RowL} {i : Nat} (h : i < ts.length) : (curR k ts i).set i (marks (k + szR (ts.take i)) (ts.getD i []).length) = curR k ts (i + 1) := by
  have e : ts.getD i [] = ts[i] := by rw [List.getD_eq_getElem?_getD, List.getElem?_eq_getElem h]; rfl
  have hl : (markR k (ts.take i)).length = i := by rw [markR_length, List.length_take]; omega
  rw [curR, curR, List.take_succ_eq_append_getElem h, markR_snoc, List.drop_eq_getElem_cons h, List.set_append_right _ _ (by omega), hl, Nat.sub_self, List.set_cons_zero, e, List.append_assoc]
  rfl
def sp_markSS : List Cv → List Obj' → Tree
  | [.one (.own 0), .one (.v (.int .i64 k))], [.drow t (.sl 2 (.int .i64)) ts] => .need (0 ≤ k ∧ k + szR ts ≤ 1099511627776) (.ret (vi (k + szR ts)) [.drow t kR (markR k ts)])
  | _, _ => .fail
set_option maxHeartbeats 4000000 in
set_option maxRecDepth 100000 in
theorem good_markSS : Good Try.prog 44 sp_markSS := by
  refine good_ofF Try.func44 rfl _ rfl _ rfl (tab [c_mark]) (fun X cs os0 K hok hos hK => ?_)
  unfold sp_markSS at hK
  split at hK
  case h_2 => exact hK.elim
  rename_i k t ts
  refine ⟨by simp, by simp, ?_⟩
  simp only [go_sem] at hK hok hos
  simp (maxSteps := 4000000) only [go_sem, Try.f44, ↓brB_t, ↓brB_f, Nat.reduceAdd, Int.reduceLE, Int.reduceLT, Int.reduceNeg, decide_true, decide_false, Bool.and_self, Nat.succ_eq_add_one, Int.toNat_natCast, Nat.beq_refl, Bool.and_true, Bool.true_and, Bool.false_or, Bool.or_true, List.all_cons, List.all_nil, Nat.reduceMul, Nat.add_zero, Nat.zero_add, List.length_nil, List.length_cons, dite_true, List.nil_append, Nat.reduceBEq, reduceDIte, reduceIte, reduceCtorEq, Bool.or_false, Bool.true_or, Bool.and_false, Bool.false_and, Bool.not_true, Bool.not_false, Option.isSome_some, Option.isSome_none, Option.getD_some, List.getElem?_cons_zero, List.getElem?_cons_succ, eq_self, and_self, List.take_succ_cons, List.take_zero, List.drop_succ_cons, List.drop_zero]
  obtain ⟨⟨hk0, hk1⟩, hK⟩ := hK
  have hl1 : (ts.length : Int) ≤ 9223372036854775807 := len_i hos.1.1
  clear hok hos
  refine loop_okF (T := tab [c_mark]) [0, 1, 5] [(0, 0)] (fun i : Nat => ⟨19, [(0, ow 0), (1, vi (k + szR (ts.take i))), (5, vi i)], [(0, .drow t kR (curR k ts i))]⟩)
    (fun i => i ≤ ts.length) (fun i => ts.length - i) 0 rfl (by rw [show k + (szR (ts.take 0) : Int) = k by simp [szR]]; rfl) (Nat.zero_le _) (fun i hi => ?_)
  simp only [go_sem, ↓brB_t, ↓brB_f, Nat.reduceAdd, Int.reduceLE, Int.reduceLT, Int.reduceNeg, decide_true, decide_false, Bool.and_self, Nat.succ_eq_add_one, Int.toNat_natCast, Nat.beq_refl, Bool.and_true, Bool.true_and, Bool.false_or, Bool.or_true, List.all_cons, List.all_nil, Nat.reduceMul, Nat.add_zero, Nat.zero_add, List.length_nil, List.length_cons, dite_true, List.nil_append, Nat.reduceBEq, reduceDIte, reduceIte, reduceCtorEq, Bool.or_false, Bool.true_or, Bool.and_false, Bool.false_and, Bool.not_true, Bool.not_false, Option.isSome_some, Option.isSome_none, Option.getD_some, List.getElem?_cons_zero, List.getElem?_cons_succ, eq_self, and_self, List.take_succ_cons, List.take_zero, List.drop_succ_cons, List.drop_zero]
  rw [curR_length]
  refine brB_intro (fun h1 => ?_) (fun h1 => retN [0] rfl ?_)
  · have h1 := of_decide_eq_true h1
    have h1' : i < ts.length := by omega
    have hs := szR_s (ts := ts) (i := i) h1'
    have hle := szR_le ts (i + 1)
    have hw : w64 ((i : Int) + 1) = ((i + 1 : Nat) : Int) := w64_s h1' (by omega)
    rw [curR_get h1', hw]
    refine ⟨⟨by omega, by omega⟩, ⟨by omega, by omega, by omega⟩, ?_⟩
    refine ⟨i + 1, [(0, 0)], by omega, by omega, rfl, ?_⟩
    rw [← curR_s h1', hs, show k + ((szR (ts.take i) + (ts.getD i []).length : Nat) : Int) = k + (szR (ts.take i) : Int) + ((ts.getD i []).length : Int) by omega]
    rfl
  · have h1 := of_decide_eq_false h1
    have e : i = ts.length := by omega
    subst e
    rw [curR, List.take_length, List.drop_length, List.append_nil]; exact hK
def c_markSS : Ctr Try.prog := ⟨44, ent Try.func44 rfl rfl, [true], sp_markSS, good_markSS, []⟩
@[go_sem] theorem c_markSS_f : c_markSS.f = 44 := rfl
@[go_sem] theorem c_markSS_ms : c_markSS.ms = [true] := rfl
@[go_sem] theorem c_markSS_sp : c_markSS.spec = sp_markSS := rfl
@[go_sem] theorem c_markSS_fz : c_markSS.fz = [] := rfl
attribute [go_sem] sp_markSS
def sp_heldSS : List Cv → List Obj' → Tree
  | [.one (.ro (.sl 2 (.int .i64)) ts), .one (.v (.int .i64 k))], [] => .need (0 ≤ k ∧ k + szR ts ≤ 1099511627776) (.ret (vi (if (ts : RowL) = markR k ts then k + szR ts else -1)) [])
  | _, _ => .fail
theorem markR_s {ts : RowL} {k : Int} {i : Nat} (h : i < ts.length) : (ts.drop i = markR k (ts.drop i) ↔ ts.getD i [] = marks k (ts.getD i []).length ∧ ts.drop (i + 1) = markR (k + (ts.getD i []).length) (ts.drop (i + 1))) := by
  have e : ts.getD i [] = ts[i] := by rw [List.getD_eq_getElem?_getD, List.getElem?_eq_getElem h]; rfl
  rw [List.drop_eq_getElem_cons h, markR, List.cons.injEq, e]
set_option maxHeartbeats 4000000 in
set_option maxRecDepth 100000 in
theorem good_heldSS : Good Try.prog 45 sp_heldSS := by
  refine good_ofF Try.func45 rfl _ rfl _ rfl (tab [c_held]) (fun X cs os0 K hok hos hK => ?_)
  clear hos; unfold sp_heldSS at hK
  split at hK
  case h_2 => exact hK.elim
  rename_i ts k
  refine ⟨by simp, by simp, ?_⟩
  simp only [go_sem] at hK hok
  simp (maxSteps := 4000000) only [go_sem, Try.f45, ↓brB_t, ↓brB_f, Nat.reduceAdd, Int.reduceLE, Int.reduceLT, Int.reduceNeg, decide_true, decide_false, Bool.and_self, Nat.succ_eq_add_one, Int.toNat_natCast, Nat.beq_refl, Bool.and_true, Bool.true_and, Bool.false_or, Bool.or_true, List.all_cons, List.all_nil, Nat.reduceMul, Nat.add_zero, Nat.zero_add, List.length_nil, List.length_cons, dite_true, List.nil_append, Nat.reduceBEq, reduceDIte, reduceIte, reduceCtorEq, Bool.or_false, Bool.true_or, Bool.and_false, Bool.false_and, Bool.not_true, Bool.not_false, Option.isSome_some, Option.isSome_none, Option.getD_some, List.getElem?_cons_zero, List.getElem?_cons_succ, eq_self, and_self, List.take_succ_cons, List.take_zero, List.drop_succ_cons, List.drop_zero]
  obtain ⟨⟨hk0, hk1⟩, hK⟩ := hK
  have hl1 := len_i hok.1.1
  clear hok
  refine loop_okF (T := tab [c_held]) [0, 1, 5] [] (fun i : Nat => ⟨21, [(0, .val (.one (.ro kR ts))), (1, vi (k + szR (ts.take i))), (5, vi i)], []⟩)
    (fun i => i ≤ ts.length ∧ (ts = markR k ts ↔ ts.drop i = markR (k + szR (ts.take i)) (ts.drop i))) (fun i => ts.length - i) 0 rfl (by rw [show k + (szR (ts.take 0) : Int) = k by simp [szR]]; rfl) ⟨Nat.zero_le _, by simp [szR]⟩ (fun i hi => ?_)
  obtain ⟨hi, hm⟩ := hi
  simp only [go_sem, ↓brB_t, ↓brB_f, Nat.reduceAdd, Int.reduceLE, Int.reduceLT, Int.reduceNeg, decide_true, decide_false, Bool.and_self, Nat.succ_eq_add_one, Int.toNat_natCast, Nat.beq_refl, Bool.and_true, Bool.true_and, Bool.false_or, Bool.or_true, List.all_cons, List.all_nil, Nat.reduceMul, Nat.add_zero, Nat.zero_add, List.length_nil, List.length_cons, dite_true, List.nil_append, Nat.reduceBEq, reduceDIte, reduceIte, reduceCtorEq, Bool.or_false, Bool.true_or, Bool.and_false, Bool.false_and, Bool.not_true, Bool.not_false, Option.isSome_some, Option.isSome_none, Option.getD_some, List.getElem?_cons_zero, List.getElem?_cons_succ, eq_self, and_self, List.take_succ_cons, List.take_zero, List.drop_succ_cons, List.drop_zero]
  refine brB_intro (fun h1 => ?_) (fun h1 => ret0 ?_)
  · have h1 := of_decide_eq_true h1
    have h1' : i < ts.length := by omega
    have hs := szR_s (ts := ts) (i := i) h1'
    have hle := szR_le ts (i + 1)
    have hw : w64 ((i : Int) + 1) = ((i + 1 : Nat) : Int) := w64_s h1' hl1
    have hm2 := hm.trans (markR_s (k := k + szR (ts.take i)) h1')
    have ek : k + (szR (ts.take (i + 1)) : Int) = k + szR (ts.take i) + (ts.getD i []).length := by rw [hs]; omega
    refine ⟨⟨by omega, by omega⟩, ⟨by omega, by omega, by omega⟩, ?_⟩
    by_cases c1 : ts.getD i [] = marks (k + szR (ts.take i)) (ts.getD i []).length
    · rw [if_pos c1]
      refine brB_intro (fun h2 => by have := of_decide_eq_true h2; omega) (fun _ => ?_)
      refine ⟨i + 1, [], ⟨by omega, ?_⟩, by omega, rfl, ?_⟩
      · rw [ek]
        exact hm2.trans ⟨fun h => h.2, fun h => ⟨c1, h⟩⟩
      · rw [hw, ek]; rfl
    · rw [if_neg c1]
      refine brB_intro (fun _ => ret0 ?_) (fun h2 => by have := of_decide_eq_false h2; omega)
      rw [if_neg (fun e => c1 (hm2.1 e).1)] at hK; exact hK
  · have h1 := of_decide_eq_false h1
    have e : i = ts.length := by omega
    rw [e, List.drop_length] at hm
    rw [if_pos (hm.2 rfl)] at hK
    rw [e, List.take_length]; exact hK
def c_heldSS : Ctr Try.prog := ⟨45, ent Try.func45 rfl rfl, [], sp_heldSS, good_heldSS, []⟩
@[go_sem] theorem c_heldSS_f : c_heldSS.f = 45 := rfl
@[go_sem] theorem c_heldSS_ms : c_heldSS.ms = [] := rfl
@[go_sem] theorem c_heldSS_sp : c_heldSS.spec = sp_heldSS := rfl
@[go_sem] theorem c_heldSS_fz : c_heldSS.fz = [] := rfl
attribute [go_sem] sp_heldSS
end Go.Proofs.Ytokakggilajjlaa.V
