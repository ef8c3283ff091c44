/- Contracts: sums told with a limit. Conditions: told by each spec. -/
import Derived.Test.YtokakggilajjlaaVJ0
import Derived.Test.YtokakggilajjlaaVP2
set_option linter.unusedVariables false
set_option linter.unusedSimpArgs false
namespace Go.Proofs.Ytokakggilajjlaa.V
open Go
def sp_told : List Cv → List Obj' → Tree
  | [.agg [.v (.int .i64 p), .own 0]], [.drow t (.pr (.sl 2 (.int .i64)) (.int .i64)) ts] => .br (decide (200 < ((ts.length : Nat) : Int))) (.ret (.tup [.agg [.v (.int .i64 0), .own 1], .one (.v (.int .i64 3))]) [.drow t (.pr (.sl 2 (.int .i64)) (.int .i64)) ts, .drow 68 (.pr (.sl 2 (.int .i64)) (.int .i64)) []])
      (.ret (.tup [.agg [.v (.int .i64 p), .own 0], .one (.v (.int .i64 0))]) [.drow t (.pr (.sl 2 (.int .i64)) (.int .i64)) ts])
  | _, _ => .fail
set_option maxHeartbeats 4000000 in
set_option maxRecDepth 100000 in
theorem good_told : Good Try.prog 63 sp_told := by
  refine good_ofF Try.func63 rfl _ rfl _ rfl (tab []) (fun X cs os0 K hok hos hK => ?_)
  unfold sp_told at hK
  split at hK
  case h_2 => exact hK.elim
  rename_i p t ts
  refine ⟨by simp, by simp, ?_⟩
  simp only [go_sem] at hK hok hos
  simp (maxSteps := 4000000) only [go_sem, Try.f63, ↓brB_t, ↓brB_f, Nat.reduceAdd, Int.reduceLE, Int.reduceLT, Int.reduceNeg, decide_true, decide_false, Bool.and_self, Nat.succ_eq_add_one, Int.toNat_natCast, Nat.beq_refl, Bool.and_true, Bool.true_and, Bool.false_or, Bool.or_true, List.all_cons, List.all_nil, Nat.reduceMul, Nat.add_zero, Nat.zero_add, List.length_nil, List.length_cons, dite_true, List.nil_append, Nat.reduceBEq, reduceDIte, reduceIte, reduceCtorEq, Bool.or_false, Bool.true_or, Bool.and_false, Bool.false_and, Bool.not_true, Bool.not_false, Option.isSome_some, Option.isSome_none, Option.getD_some, List.getElem?_cons_zero, List.getElem?_cons_succ, eq_self, and_self, List.take_succ_cons, List.take_zero, List.drop_succ_cons, List.drop_zero]
  clear hok hos
  refine brB_intro (fun h => ?_) (fun h => ?_)
  · rw [h] at hK
    exact retM [⟨.cell 48 1, 16, tI, kTerm⟩] rfl (retN [0, 16] rfl hK)
  · rw [h] at hK
    exact retN [0] rfl hK
def c_told : Ctr Try.prog := ⟨63, ent Try.func63 rfl rfl, [true], sp_told, good_told, []⟩
@[go_sem] theorem c_told_f : c_told.f = 63 := rfl
@[go_sem] theorem c_told_ms : c_told.ms = [true] := rfl
@[go_sem] theorem c_told_sp : c_told.spec = sp_told := rfl
@[go_sem] theorem c_told_fz : c_told.fz = [] := rfl
attribute [go_sem] sp_told
set_option maxHeartbeats 4000000 in
set_option maxRecDepth 100000 in
theorem good_lim : Good Try.prog 66 sp_told := by
  refine good_ofF Try.func66 rfl _ rfl _ rfl (tab []) (fun X cs os0 K hok hos hK => ?_)
  unfold sp_told at hK
  split at hK
  case h_2 => exact hK.elim
  rename_i p t ts
  refine ⟨by simp, by simp, ?_⟩
  simp only [go_sem] at hK hok hos
  simp (maxSteps := 4000000) only [go_sem, Try.f66, ↓brB_t, ↓brB_f, Nat.reduceAdd, Int.reduceLE, Int.reduceLT, Int.reduceNeg, decide_true, decide_false, Bool.and_self, Nat.succ_eq_add_one, Int.toNat_natCast, Nat.beq_refl, Bool.and_true, Bool.true_and, Bool.false_or, Bool.or_true, List.all_cons, List.all_nil, Nat.reduceMul, Nat.add_zero, Nat.zero_add, List.length_nil, List.length_cons, dite_true, List.nil_append, Nat.reduceBEq, reduceDIte, reduceIte, reduceCtorEq, Bool.or_false, Bool.true_or, Bool.and_false, Bool.false_and, Bool.not_true, Bool.not_false, Option.isSome_some, Option.isSome_none, Option.getD_some, List.getElem?_cons_zero, List.getElem?_cons_succ, eq_self, and_self, List.take_succ_cons, List.take_zero, List.drop_succ_cons, List.drop_zero]
  clear hok hos
  refine brB_intro (fun h => ?_) (fun h => ?_)
  · rw [h] at hK
    exact retM [⟨.cell 48 1, 16, tI, kTerm⟩] rfl (retN [0, 16] rfl hK)
  · rw [h] at hK
    exact retN [0] rfl hK
def c_lim : Ctr Try.prog := ⟨66, ent Try.func66 rfl rfl, [true], sp_told, good_lim, []⟩
@[go_sem] theorem c_lim_f : c_lim.f = 66 := rfl
@[go_sem] theorem c_lim_ms : c_lim.ms = [true] := rfl
@[go_sem] theorem c_lim_sp : c_lim.spec = sp_told := rfl
@[go_sem] theorem c_lim_fz : c_lim.fz = [] := rfl
attribute [go_sem] sp_told
theorem isS_p {p : Int} {ts : TermL} (h : isS p ts = true) : 0 < p ∧ p ≤ 13 := by
  unfold isS at h
  simp only [Bool.and_eq_true] at h
  have h1 := h.1
  simp only [primeB, Bool.or_eq_true, decide_eq_true_eq] at h1
  omega
theorem isS_vals {p : Int} {ts : TermL} (h : isS p ts = true) : ∀ x ∈ ts, 0 ≤ x.2 ∧ x.2 ≤ 13 := by
  have hp := isS_p h
  unfold isS at h
  simp only [Bool.and_eq_true, decide_eq_true_eq] at h
  obtain ⟨h1, h2, h3⟩ := h
  intro x hx
  obtain ⟨i, hi, rfl⟩ := List.getElem_of_mem hx
  have := List.all_eq_true.1 h3 i (List.mem_range.2 hi)
  unfold termB at this
  simp only [Bool.and_eq_true] at this
  have e : ts.getD i ([], 0) = ts[i] := by rw [List.getD_eq_getElem?_getD, List.getElem?_eq_getElem hi]; rfl
  rw [e] at this
  have h4 := this.2.1
  rw [w64_id (by omega) (by omega)] at h4
  simp only [inB, Bool.and_eq_true, decide_eq_true_eq] at h4
  omega
end Go.Proofs.Ytokakggilajjlaa.V
