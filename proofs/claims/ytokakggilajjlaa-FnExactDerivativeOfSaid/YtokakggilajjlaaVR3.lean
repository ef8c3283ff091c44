/- Contracts: derivatives of sums, their law. Conditions: told by each spec. -/
import Derived.Test.YtokakggilajjlaaVR2
import Derived.Test.YtokakggilajjlaaVP2
set_option linter.unusedVariables false
set_option linter.unusedSimpArgs false
namespace Go.Proofs.Ytokakggilajjlaa.V
open Go
def sp_told : List Cv → List Obj' → Tree
  | [.agg [.v (.int .i64 p), .own 0]], [.drow t (.pr (.sl 2 (.int .i64)) (.int .i64)) ts] => .br (decide (200 < ((ts.length : Nat) : Int))) (.ret (.tup [.agg [.v (.int .i64 0), .own 1], .one (.v (.int .i64 3))]) [.drow t (.pr (.sl 2 (.int .i64)) (.int .i64)) ts, .drow 68 (.pr (.sl 2 (.int .i64)) (.int .i64)) []])
      (.ret (.tup [.agg [.v (.int .i64 p), .own 0], .one (.v (.int .i64 0))]) [.drow t (.pr (.sl 2 (.int .i64)) (.int .i64)) ts])
  | _, _ => .fail
set_option maxHeartbeats 4000000 in
set_option maxRecDepth 100000 in
theorem good_told : Good Try.prog 63 sp_told := by
  refine good_ofF Try.func63 rfl _ rfl _ rfl (tab []) (fun X cs os0 K hok hos hK => ?_)
  unfold sp_told at hK
  split at hK
  case h_2 => exact hK.elim
  rename_i p t ts
  refine ⟨by simp, by simp, ?_⟩
  simp only [go_sem] at hK hok hos
  simp (maxSteps := 4000000) only [go_sem, Try.f63, ↓brB_t, ↓brB_f, Nat.reduceAdd, Int.reduceLE, Int.reduceLT, Int.reduceNeg, decide_true, decide_false, Bool.and_self, Nat.succ_eq_add_one, Int.toNat_natCast, Nat.beq_refl, Bool.and_true, Bool.true_and, Bool.false_or, Bool.or_true, List.all_cons, List.all_nil, Nat.reduceMul, Nat.add_zero, Nat.zero_add, List.length_nil, List.length_cons, dite_true, List.nil_append, Nat.reduceBEq, reduceDIte, reduceIte, reduceCtorEq, Bool.or_false, Bool.true_or, Bool.and_false, Bool.false_and, Bool.not_true, Bool.not_false, Option.isSome_some, Option.isSome_none, Option.getD_some, List.getElem?_cons_zero, List.getElem?_cons_succ, eq_self, and_self, List.take_succ_cons, List.take_zero, List.drop_succ_cons, List.drop_zero]
  clear hok hos
  refine brB_intro (fun h => ?_) (fun h => ?_)
  · rw [h] at hK
    exact retM [⟨.cell 48 1, 16, tI, kTerm⟩] rfl (retN [0, 16] rfl hK)
  · rw [h] at hK
    exact retN [0] rfl hK
def c_told : Ctr Try.prog := ⟨63, ent Try.func63 rfl rfl, [true], sp_told, good_told, []⟩
@[go_sem] theorem c_told_f : c_told.f = 63 := rfl
@[go_sem] theorem c_told_ms : c_told.ms = [true] := rfl
@[go_sem] theorem c_told_sp : c_told.spec = sp_told := rfl
@[go_sem] theorem c_told_fz : c_told.fz = [] := rfl
attribute [go_sem] sp_told
set_option maxHeartbeats 4000000 in
set_option maxRecDepth 100000 in
theorem good_lim : Good Try.prog 66 sp_told := by
  refine good_ofF Try.func66 rfl _ rfl _ rfl (tab []) (fun X cs os0 K hok hos hK => ?_)
  unfold sp_told at hK
  split at hK
  case h_2 => exact hK.elim
  rename_i p t ts
  refine ⟨by simp, by simp, ?_⟩
  simp only [go_sem] at hK hok hos
  simp (maxSteps := 4000000) only [go_sem, Try.f66, ↓brB_t, ↓brB_f, Nat.reduceAdd, Int.reduceLE, Int.reduceLT, Int.reduceNeg, decide_true, decide_false, Bool.and_self, Nat.succ_eq_add_one, Int.toNat_natCast, Nat.beq_refl, Bool.and_true, Bool.true_and, Bool.false_or, Bool.or_true, List.all_cons, List.all_nil, Nat.reduceMul, Nat.add_zero, Nat.zero_add, List.length_nil, List.length_cons, dite_true, List.nil_append, Nat.reduceBEq, reduceDIte, reduceIte, reduceCtorEq, Bool.or_false, Bool.true_or, Bool.and_false, Bool.false_and, Bool.not_true, Bool.not_false, Option.isSome_some, Option.isSome_none, Option.getD_some, List.getElem?_cons_zero, List.getElem?_cons_succ, eq_self, and_self, List.take_succ_cons, List.take_zero, List.drop_succ_cons, List.drop_zero]
  clear hok hos
  refine brB_intro (fun h => ?_) (fun h => ?_)
  · rw [h] at hK
    exact retM [⟨.cell 48 1, 16, tI, kTerm⟩] rfl (retN [0, 16] rfl hK)
  · rw [h] at hK
    exact retN [0] rfl hK
def c_lim : Ctr Try.prog := ⟨66, ent Try.func66 rfl rfl, [true], sp_told, good_lim, []⟩
@[go_sem] theorem c_lim_f : c_lim.f = 66 := rfl
@[go_sem] theorem c_lim_ms : c_lim.ms = [true] := rfl
@[go_sem] theorem c_lim_sp : c_lim.spec = sp_told := rfl
@[go_sem] theorem c_lim_fz : c_lim.fz = [] := rfl
attribute [go_sem] sp_told
theorem isS_p {p : Int} {ts : TermL} (h : isS p ts = true) : 0 < p ∧ p ≤ 13 := by
  unfold isS at h
  simp only [Bool.and_eq_true] at h
  have h1 := h.1
  simp only [primeB, Bool.or_eq_true, decide_eq_true_eq] at h1
  omega
theorem isS_vals {p : Int} {ts : TermL} (h : isS p ts = true) : ∀ x ∈ ts, 0 ≤ x.2 ∧ x.2 ≤ 13 := by
  have hp := isS_p h
  unfold isS at h
  simp only [Bool.and_eq_true, decide_eq_true_eq] at h
  obtain ⟨h1, h2, h3⟩ := h
  intro x hx
  obtain ⟨i, hi, rfl⟩ := List.getElem_of_mem hx
  have := List.all_eq_true.1 h3 i (List.mem_range.2 hi)
  unfold termB at this
  simp only [Bool.and_eq_true] at this
  have e : ts.getD i ([], 0) = ts[i] := by rw [List.getD_eq_getElem?_getD, List.getElem?_eq_getElem hi]; rfl
  rw [e] at this
  have h4 := this.2.1
  rw [w64_id (by omega) (by omega)] at h4
  simp only [inB, Bool.and_eq_true, decide_eq_true_eq] at h4
  omega
def sp_der0 : List Cv → List Obj' → Tree
  | [.agg [.v (.int .i64 p), .ro (.pr (.sl 2 (.int .i64)) (.int .i64)) ts]], [] => .need (isS p ts = true) (.ret (.val (.agg [.v (.int .i64 p), .own 0])) [.drow 68 (.pr (.sl 2 (.int .i64)) (.int .i64)) (derR p ts)])
  | _, _ => .fail
set_option maxHeartbeats 4000000 in
set_option maxRecDepth 100000 in
theorem good_der0 : Good Try.prog 70 sp_der0 := by
  refine good_ofF Try.func70 rfl _ rfl _ rfl (tab [c_changed] [] [p_der]) (fun X cs os0 K hok hos hK => ?_)
  clear hos; unfold sp_der0 at hK
  split at hK
  case h_2 => exact hK.elim
  rename_i p ts
  refine ⟨by simp, by simp, ?_⟩
  simp only [go_sem] at hK hok
  simp (maxSteps := 4000000) only [go_sem, Try.f70, ↓brB_t, ↓brB_f, Nat.reduceAdd, Int.reduceLE, Int.reduceLT, Int.reduceNeg, decide_true, decide_false, Bool.and_self, Nat.succ_eq_add_one, Int.toNat_natCast, Nat.beq_refl, Bool.and_true, Bool.true_and, Bool.false_or, Bool.or_true, List.all_cons, List.all_nil, Nat.reduceMul, Nat.add_zero, Nat.zero_add, List.length_nil, List.length_cons, dite_true, List.nil_append, Nat.reduceBEq, reduceDIte, reduceIte, reduceCtorEq, Bool.or_false, Bool.true_or, Bool.and_false, Bool.false_and, Bool.not_true, Bool.not_false, Option.isSome_some, Option.isSome_none, Option.getD_some, List.getElem?_cons_zero, List.getElem?_cons_succ, eq_self, and_self, List.take_succ_cons, List.take_zero, List.drop_succ_cons, List.drop_zero]
  obtain ⟨hs, hK⟩ := hK
  clear hok
  have hw := isS_words hs
  have hp := isS_p hs
  refine ⟨⟨by omega, (isS_parts hs).2.1, fun x hx => ?_, _, der_rep hp.1 hp.2 hw (isS_vals hs)⟩, retN [96] rfl hK⟩
  obtain ⟨h1, h2⟩ := derP_chS (p := p) (ts := ts) (by omega) (hw x hx)
  refine ⟨h1, ?_, fun y hy => ?_⟩
  · rw [h2]
    have := derT_len (p := p) (hw x hx)
    omega
  · rw [h2] at hy
    have := ((derT_in (hw x hx)).1 hy).1.1
    omega
def c_der0 : Ctr Try.prog := ⟨70, ent Try.func70 rfl rfl, [], sp_der0, good_der0, []⟩
@[go_sem] theorem c_der0_f : c_der0.f = 70 := rfl
@[go_sem] theorem c_der0_ms : c_der0.ms = [] := rfl
@[go_sem] theorem c_der0_sp : c_der0.spec = sp_der0 := rfl
@[go_sem] theorem c_der0_fz : c_der0.fz = [] := rfl
attribute [go_sem] sp_der0
/-- What DerivativeOf gives. -/
def dR (p : Int) (ts : TermL) : (Int × TermL) × Int :=
  if isS p ts then (if 200 < (derR p ts).length then ((0, []), 3) else ((p, derR p ts), 0)) else ((0, []), 1)
def sp_chg : List Cv → List Obj' → Tree
  | [.agg [.v (.int .i64 p), .ro (.pr (.sl 2 (.int .i64)) (.int .i64)) ts], .one (.v u)], [] => .need (u = .func (.func 70) #[] #[]) (resS (dR p ts))
  | _, _ => .fail
set_option maxHeartbeats 4000000 in
set_option maxRecDepth 100000 in
theorem good_chg : Good Try.prog 69 sp_chg := by
  refine good_ofF Try.func69 rfl _ rfl _ rfl (tab [c_IsSum, c_der0, c_lim]) (fun X cs os0 K hok hos hK => ?_)
  clear hos; unfold sp_chg at hK
  split at hK
  case h_2 => exact hK.elim
  rename_i p ts u
  obtain ⟨rfl, hK⟩ := hK
  refine ⟨by simp, by simp, ?_⟩
  simp only [go_sem] at hK hok
  simp (maxSteps := 4000000) only [go_sem, Try.f69, ↓brB_t, ↓brB_f, Nat.reduceAdd, Int.reduceLE, Int.reduceLT, Int.reduceNeg, decide_true, decide_false, Bool.and_self, Nat.succ_eq_add_one, Int.toNat_natCast, Nat.beq_refl, Bool.and_true, Bool.true_and, Bool.false_or, Bool.or_true, List.all_cons, List.all_nil, Nat.reduceMul, Nat.add_zero, Nat.zero_add, List.length_nil, List.length_cons, dite_true, List.nil_append, Nat.reduceBEq, reduceDIte, reduceIte, reduceCtorEq, Bool.or_false, Bool.true_or, Bool.and_false, Bool.false_and, Bool.not_true, Bool.not_false, Option.isSome_some, Option.isSome_none, Option.getD_some, List.getElem?_cons_zero, List.getElem?_cons_succ, eq_self, and_self, List.take_succ_cons, List.take_zero, List.drop_succ_cons, List.drop_zero]
  clear hok
  have err : ∀ {c : Int}, dR p ts = ((0, []), c) → K (.tup [.agg [.v (.int .i64 0), .own 0], .one (.v (.int .i64 c))]) [.drow tI kTerm []] := fun e => by rw [e] at hK; exact hK
  refine brB_intro (fun h1 => retM [⟨.cell 80 1, 16, tI, kTerm⟩] rfl (retN [16] rfl (err (by rw [dR, if_neg (by rw [snb h1]; decide)])))) (fun h1 => ?_)
  have h1 := snb' h1
  refine ⟨h1, brB_intro (fun h2 => ?_) (fun h2 => ?_)⟩
  · have h2 := of_decide_eq_true h2
    exact retN [224] rfl (err (by rw [dR, if_pos h1, if_pos (by omega)]))
  · have h2 := of_decide_eq_false h2
    have er : dR p ts = ((p, derR p ts), 0) := by rw [dR, if_pos h1, if_neg (by omega)]
    rw [er] at hK
    exact retN [208] rfl hK
def c_chg : Ctr Try.prog := ⟨69, ent Try.func69 rfl rfl, [], sp_chg, good_chg, []⟩
@[go_sem] theorem c_chg_f : c_chg.f = 69 := rfl
@[go_sem] theorem c_chg_ms : c_chg.ms = [] := rfl
@[go_sem] theorem c_chg_sp : c_chg.spec = sp_chg := rfl
@[go_sem] theorem c_chg_fz : c_chg.fz = [] := rfl
attribute [go_sem] sp_chg
set_option maxHeartbeats 4000000 in
set_option maxRecDepth 100000 in
theorem good_del : Good Try.prog 68 sp_wt := by
  refine good_ofF Try.func68 rfl _ rfl _ rfl (tab [c_l01Normal]) (fun X cs os0 K hok hos hK => ?_)
  clear hos; unfold sp_wt at hK
  split at hK
  case h_2 => exact hK.elim
  rename_i w n
  refine ⟨by simp, by simp, ?_⟩
  simp only [go_sem] at hK hok
  simp (maxSteps := 4000000) only [go_sem, Try.f68, ↓brB_t, ↓brB_f, Nat.reduceAdd, Int.reduceLE, Int.reduceLT, Int.reduceNeg, decide_true, decide_false, Bool.and_self, Nat.succ_eq_add_one, Int.toNat_natCast, Nat.beq_refl, Bool.and_true, Bool.true_and, Bool.false_or, Bool.or_true, List.all_cons, List.all_nil, Nat.reduceMul, Nat.add_zero, Nat.zero_add, List.length_nil, List.length_cons, dite_true, List.nil_append, Nat.reduceBEq, reduceDIte, reduceIte, reduceCtorEq, Bool.or_false, Bool.true_or, Bool.and_false, Bool.false_and, Bool.not_true, Bool.not_false, Option.isSome_some, Option.isSome_none, Option.getD_some, List.getElem?_cons_zero, List.getElem?_cons_succ, eq_self, and_self, List.take_succ_cons, List.take_zero, List.drop_succ_cons, List.drop_zero]
  obtain ⟨hl, hK⟩ := hK
  clear hok
  refine loop_okF (T := tab [c_l01Normal]) [0, 1, 5, 6] [(16, 128)] (fun i : Nat => ⟨29, [(0, ri w), (1, vi n), (5, ow 16), (6, vi i)], [(16, rwi ((w.take i).filter fun x => !decide (x = n)))]⟩)
    (fun i => i ≤ w.length) (fun i => w.length - i) 0 rfl rfl (Nat.zero_le _) (fun i hi => ?_)
  have hfl := List.length_filter_le (fun x : Int => !decide (x = n)) (w.take i)
  have htl : (w.take i).length = i := by rw [List.length_take]; omega
  simp only [go_sem, ↓brB_t, ↓brB_f, Nat.reduceAdd, Int.reduceLE, Int.reduceLT, Int.reduceNeg, decide_true, decide_false, Bool.and_self, Nat.succ_eq_add_one, Int.toNat_natCast, Nat.beq_refl, Bool.and_true, Bool.true_and, Bool.false_or, Bool.or_true, List.all_cons, List.all_nil, Nat.reduceMul, Nat.add_zero, Nat.zero_add, List.length_nil, List.length_cons, dite_true, List.nil_append, Nat.reduceBEq, reduceDIte, reduceIte, reduceCtorEq, Bool.or_false, Bool.true_or, Bool.and_false, Bool.false_and, Bool.not_true, Bool.not_false, Option.isSome_some, Option.isSome_none, Option.getD_some, List.getElem?_cons_zero, List.getElem?_cons_succ, eq_self, and_self, List.take_succ_cons, List.take_zero, List.drop_succ_cons, List.drop_zero]
  refine brB_intro (fun h1 => ?_) (fun h1 => ?_)
  · have h1 := of_decide_eq_true h1
    have hw1 : w64 ((i : Int) + 1) = ((i + 1 : Nat) : Int) := w64_s (n := w.length) (by omega) (by omega)
    have e : (w.take (i + 1)).filter (fun x => !decide (x = n)) = (w.take i).filter (fun x => !decide (x = n)) ++ (if w.getD i 0 = n then [] else [w.getD i 0]) := by
      rw [List.take_succ_eq_append_getElem (by omega), List.filter_append, getD_eq (by omega)]
      simp only [List.filter_cons, List.filter_nil]
      split <;> split <;> simp_all
    refine ⟨⟨by omega, by omega⟩, brB_intro (fun h2 => ?_) (fun h2 => ?_)⟩
    · have h2 := of_decide_eq_false (snb h2)
      rw [if_neg h2] at e
      refine ⟨⟨by omega, by omega⟩, by omega, i + 1, [(16, 432)], by omega, by omega, rfl, ?_⟩
      rw [hw1, e]; rfl
    · have h2 := of_decide_eq_true (snb' h2)
      rw [if_pos h2, List.append_nil] at e
      refine ⟨i + 1, [(16, 16)], by omega, by omega, rfl, ?_⟩
      rw [hw1, e]; rfl
  · have h1 := of_decide_eq_false h1
    have e : i = w.length := by omega
    subst e
    rw [List.take_length] at hfl ⊢
    exact ⟨by omega, retN [464] rfl hK⟩
def c_del : Ctr Try.prog := ⟨68, ent Try.func68 rfl rfl, [], sp_wt, good_del, []⟩
@[go_sem] theorem c_del_f : c_del.f = 68 := rfl
@[go_sem] theorem c_del_ms : c_del.ms = [] := rfl
@[go_sem] theorem c_del_sp : c_del.spec = sp_wt := rfl
@[go_sem] theorem c_del_fz : c_del.fz = [] := rfl
attribute [go_sem] sp_wt
end Go.Proofs.Ytokakggilajjlaa.V
