/- Contracts: sums are marked. Conditions: told by each spec. -/
import Derived.Test.YtokakggilajjlaaVS2
set_option linter.unusedVariables false
set_option linter.unusedSimpArgs false
namespace Go.Proofs.Ytokakggilajjlaa.V
open Go
def sp_markTermS : List Cv → List Obj' → Tree
  | [.one (.own 0), .one (.v (.int .i64 k))], [.drow t (.pr (.sl 2 (.int .i64)) (.int .i64)) ts] => .need (0 ≤ k ∧ k + ts.length + szT ts ≤ 1099511627776) (.ret (vi (k + ts.length + szT ts)) [.drow t kTerm (markT k ts)])
  | _, _ => .fail
theorem markT_length : ∀ (ts : TermL) (k : Int), (markT k ts).length = ts.length
  | [], k => rfl
  | x :: r, k => by rw [markT, List.length_cons, List.length_cons, markT_length r]
theorem markT_snoc (x : List Int × Int) : ∀ (ts : TermL) (k : Int), markT k (ts ++ [x]) = markT k ts ++ [(marks (k + ts.length + szT ts) x.1.length, k + ts.length + szT ts + x.1.length)]
  | [], k => by simp [markT, szT]
  | y :: r, k => by
    have e : k + y.1.length + 1 + r.length + szT r = k + (y :: r).length + szT (y :: r) := by
      have : szT (y :: r) = y.1.length + szT r := by simp [szT]
      rw [this, List.length_cons]; omega
    rw [List.cons_append, markT, markT_snoc x r, e, markT, List.cons_append]
def curT (k : Int) (ts : TermL) (i : Nat) : TermL := markT k (ts.take i) ++ ts.drop i
theorem curT_length (k : Int) (ts : TermL) (i : Nat) : (curT k ts i).length = ts.length := by
  rw [curT, List.length_append, markT_length, List.length_take, List.length_drop]; omega
theorem curT_get {k : Int} {ts : TermL} {i : Nat} (h : i < ts.length) : (curT k ts i).getD i ([], 0) = ts.getD i ([], 0) := by
  rw [curT, List.getD_eq_getElem?_getD, List.getD_eq_getElem?_getD, List.getElem?_append_right (by rw [markT_length, List.length_take]; omega), markT_length, List.length_take, List.getElem?_drop]
  rw [show i + (i - min i ts.length) = i by omega]
theorem curT_s {k : Int} {ts : TermL} {i : Nat} (h : i < ts.length) : (curT k ts i).set i (marks (k + i + szT (ts.take i)) (ts.getD i ([], 0)).1.length, k + i + szT (ts.take i) + (ts.getD i ([], 0)).1.length) = curT k ts (i + 1) := by
  have e : ts.getD i ([], 0) = ts[i] := by rw [List.getD_eq_getElem?_getD, List.getElem?_eq_getElem h]; rfl
  have hl : (markT k (ts.take i)).length = i := by rw [markT_length, List.length_take]; omega
  rw [curT, curT, List.take_succ_eq_append_getElem h, markT_snoc, List.drop_eq_getElem_cons h, List.set_append_right _ _ (by omega), hl, Nat.sub_self, List.set_cons_zero, e, List.length_take, Nat.min_eq_left (by omega), List.append_assoc]
  rfl
set_option maxHeartbeats 4000000 in
set_option maxRecDepth 100000 in
theorem good_markTermS : Good Try.prog 59 sp_markTermS := by
  refine good_ofF Try.func59 rfl _ rfl _ rfl (tab [c_mark]) (fun X cs os0 K hok hos hK => ?_)
  unfold sp_markTermS at hK
  split at hK
  case h_2 => exact hK.elim
  rename_i k t ts
  refine ⟨by simp, by simp, ?_⟩
  simp only [go_sem] at hK hok hos
  simp (maxSteps := 4000000) only [go_sem, Try.f59, ↓brB_t, ↓brB_f, Nat.reduceAdd, Int.reduceLE, Int.reduceLT, Int.reduceNeg, decide_true, decide_false, Bool.and_self, Nat.succ_eq_add_one, Int.toNat_natCast, Nat.beq_refl, Bool.and_true, Bool.true_and, Bool.false_or, Bool.or_true, List.all_cons, List.all_nil, Nat.reduceMul, Nat.add_zero, Nat.zero_add, List.length_nil, List.length_cons, dite_true, List.nil_append, Nat.reduceBEq, reduceDIte, reduceIte, reduceCtorEq, Bool.or_false, Bool.true_or, Bool.and_false, Bool.false_and, Bool.not_true, Bool.not_false, Option.isSome_some, Option.isSome_none, Option.getD_some, List.getElem?_cons_zero, List.getElem?_cons_succ, eq_self, and_self, List.take_succ_cons, List.take_zero, List.drop_succ_cons, List.drop_zero]
  obtain ⟨⟨hk0, hk1⟩, hK⟩ := hK
  clear hok
  refine loop_okF (T := tab [c_mark]) [0, 1, 5] [(0, 0)] (fun i : Nat => ⟨27, [(0, ow 0), (1, vi (k + i + szT (ts.take i))), (5, vi i)], [(0, .drow t kTerm (curT k ts i))]⟩)
    (fun i => i ≤ ts.length) (fun i => ts.length - i) 0 rfl (by rw [show k + ((0 : Nat) : Int) + (szT (ts.take 0) : Int) = k by simp [szT]]; rfl) (Nat.zero_le _) (fun i hi => ?_)
  simp only [go_sem, ↓brB_t, ↓brB_f, Nat.reduceAdd, Int.reduceLE, Int.reduceLT, Int.reduceNeg, decide_true, decide_false, Bool.and_self, Nat.succ_eq_add_one, Int.toNat_natCast, Nat.beq_refl, Bool.and_true, Bool.true_and, Bool.false_or, Bool.or_true, List.all_cons, List.all_nil, Nat.reduceMul, Nat.add_zero, Nat.zero_add, List.length_nil, List.length_cons, dite_true, List.nil_append, Nat.reduceBEq, reduceDIte, reduceIte, reduceCtorEq, Bool.or_false, Bool.true_or, Bool.and_false, Bool.false_and, Bool.not_true, Bool.not_false, Option.isSome_some, Option.isSome_none, Option.getD_some, List.getElem?_cons_zero, List.getElem?_cons_succ, eq_self, and_self, List.take_succ_cons, List.take_zero, List.drop_succ_cons, List.drop_zero]
  rw [curT_length]
  refine brB_intro (fun h1 => ?_) (fun h1 => retN [0] rfl ?_)
  · have h1 := of_decide_eq_true h1
    have h1' : i < ts.length := by omega
    rw [List.length_set, curT_length, curT_get h1', List.set_set, show (List.getD (List.set (curT k ts i) i (marks (k + (i : Int) + (szT (ts.take i) : Int)) (ts.getD i ([], 0)).1.length, (ts.getD i ([], 0)).2)) i ([], 0)).fst = marks (k + (i : Int) + (szT (ts.take i) : Int)) (ts.getD i ([], 0)).1.length by rw [List.getD_eq_getElem?_getD, List.getElem?_set_self (by rw [curT_length]; exact h1')]; rfl, curT_s h1']
    have hs := szT_s (ts := ts) (i := i) (by omega)
    have hle := szT_le ts (i + 1)
    have hw : w64 ((i : Int) + 1) = ((i + 1 : Nat) : Int) := w64_s (n := ts.length) (by omega) (by omega)
    have a1 : 0 ≤ k + i + szT (ts.take i) := by omega
    have a2 : k + i + szT (ts.take i) + (ts.getD i ([], 0)).1.length + 1 ≤ 1099511627776 := by omega
    have ek : k + ((i + 1 : Nat) : Int) + (szT (ts.take (i + 1)) : Int) = k + i + szT (ts.take i) + (ts.getD i ([], 0)).1.length + 1 := by rw [hs]; omega
    refine ⟨⟨by omega, by omega⟩, ⟨a1, by omega, by omega⟩, ⟨by omega, by omega⟩, ?_⟩
    refine ⟨i + 1, [(0, 0)], by omega, by omega, rfl, ?_⟩
    rw [hw, w64_id (by omega) (by omega), ek]; rfl
  · have h1 := of_decide_eq_false h1
    have e : i = ts.length := by omega
    subst e
    rw [curT, List.take_length, List.drop_length, List.append_nil]; exact hK
def c_markTermS : Ctr Try.prog := ⟨59, ent Try.func59 rfl rfl, [true], sp_markTermS, good_markTermS, []⟩
@[go_sem] theorem c_markTermS_f : c_markTermS.f = 59 := rfl
@[go_sem] theorem c_markTermS_ms : c_markTermS.ms = [true] := rfl
@[go_sem] theorem c_markTermS_sp : c_markTermS.spec = sp_markTermS := rfl
@[go_sem] theorem c_markTermS_fz : c_markTermS.fz = [] := rfl
attribute [go_sem] sp_markTermS
def sp_markSum : List Cv → List Obj' → Tree
  | [.agg [.v (.int .i64 p), .own 0], .one (.v (.int .i64 k))], [.drow t (.pr (.sl 2 (.int .i64)) (.int .i64)) ts] => .need (0 ≤ k ∧ k + ts.length + szT ts ≤ 1099511627776) (.ret (vi (k + ts.length + szT ts)) [.drow t kTerm (markT k ts)])
  | _, _ => .fail
set_option maxHeartbeats 4000000 in
set_option maxRecDepth 100000 in
theorem good_markSum : Good Try.prog 18 sp_markSum := by
  refine good_ofF Try.func18 rfl _ rfl _ rfl (tab [c_markTermS]) (fun X cs os0 K hok hos hK => ?_)
  unfold sp_markSum at hK
  split at hK
  case h_2 => exact hK.elim
  rename_i p k t ts
  refine ⟨by simp, by simp, ?_⟩
  simp only [go_sem] at hK hok hos
  simp (maxSteps := 4000000) only [go_sem, Try.f18, ↓brB_t, ↓brB_f, Nat.reduceAdd, Int.reduceLE, Int.reduceLT, Int.reduceNeg, decide_true, decide_false, Bool.and_self, Nat.succ_eq_add_one, Int.toNat_natCast, Nat.beq_refl, Bool.and_true, Bool.true_and, Bool.false_or, Bool.or_true, List.all_cons, List.all_nil, Nat.reduceMul, Nat.add_zero, Nat.zero_add, List.length_nil, List.length_cons, dite_true, List.nil_append, Nat.reduceBEq, reduceDIte, reduceIte, reduceCtorEq, Bool.or_false, Bool.true_or, Bool.and_false, Bool.false_and, Bool.not_true, Bool.not_false, Option.isSome_some, Option.isSome_none, Option.getD_some, List.getElem?_cons_zero, List.getElem?_cons_succ, eq_self, and_self, List.take_succ_cons, List.take_zero, List.drop_succ_cons, List.drop_zero]
  obtain ⟨hk, hK⟩ := hK
  exact ⟨hk, retN [0] rfl hK⟩
def c_markSum : Ctr Try.prog := ⟨18, ent Try.func18 rfl rfl, [true], sp_markSum, good_markSum, []⟩
@[go_sem] theorem c_markSum_f : c_markSum.f = 18 := rfl
@[go_sem] theorem c_markSum_ms : c_markSum.ms = [true] := rfl
@[go_sem] theorem c_markSum_sp : c_markSum.spec = sp_markSum := rfl
@[go_sem] theorem c_markSum_fz : c_markSum.fz = [] := rfl
attribute [go_sem] sp_markSum
end Go.Proofs.Ytokakggilajjlaa.V
