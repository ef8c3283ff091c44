/- Contracts: sums by the reference: a word put in. Conditions: told by each spec. -/
import Derived.Test.YtokakggilajjlaaVS2
set_option linter.unusedVariables false
set_option linter.unusedSimpArgs false
namespace Go.Proofs.Ytokakggilajjlaa.V
open Go
def jA (w : List Int) (v : Int) (s : TermL × Bool) (x : List Int × Int) : TermL × Bool := if !s.2 && beforeB w x.1 then (s.1 ++ [(w, v)], true) else s
def jB (w : List Int) (s : TermL × Bool) (x : List Int × Int) : TermL × Bool := if x.1 = w then s else (s.1 ++ [x], s.2)
def jF (w : List Int) (v : Int) (l : TermL) : TermL × Bool := l.foldl (fun s x => jB w (jA w v s x) x) ([], decide (v = 0))
def jE (w : List Int) (v : Int) (s : TermL × Bool) : TermL := if s.2 then s.1 else s.1 ++ [(w, v)]
/-- A value put in at a word. -/
def jT (p : Int) (ts : TermL) (w : List Int) (v : Int) : TermL := jE w (modI p (w64 (v + atT ts w))) (jF w (modI p (w64 (v + atT ts w))) ts)
theorem jF_s {w : List Int} {v : Int} {ts : TermL} {i : Nat} (h : i < ts.length) : jF w v (ts.take (i + 1)) = jB w (jA w v (jF w v (ts.take i)) (ts.getD i ([], 0))) (ts.getD i ([], 0)) := by
  have e : ts.getD i ([], 0) = ts[i] := by rw [List.getD_eq_getElem?_getD, List.getElem?_eq_getElem h]; rfl
  rw [jF, List.take_succ_eq_append_getElem h, List.foldl_append, e]; rfl
theorem jF_len {w : List Int} {v : Int} (ts : TermL) (i : Nat) : (jF w v (ts.take i)).1.length ≤ 2 * i := by
  induction i with
  | zero => simp [jF]
  | succ i ih =>
    by_cases h : i < ts.length
    · rw [jF_s h]
      generalize jF w v (ts.take i) = s at *
      unfold jB jA
      split <;> split <;> first | omega | (simp only [List.length_append, List.length_singleton]; omega)
    · rw [List.take_of_length_le (by omega)] at ih ⊢
      omega
def sp_put : List Cv → List Obj' → Tree
  | [.agg [.v (.int .i64 p), .ro (.pr (.sl 2 (.int .i64)) (.int .i64)) ts], .one (.ro (.int .i64) w), .one (.v (.int .i64 v))], [] => .need (p ≠ 0 ∧ ts.length ≤ 1000000 ∧ w.length < 1099511627776 ∧ ∀ x ∈ (ts : TermL), x.1.length < 1099511627776) (.ret (.val (.agg [.v (.int .i64 p), .own 0])) [.drow 68 (.pr (.sl 2 (.int .i64)) (.int .i64)) (jT p ts w v)])
  | _, _ => .fail
set_option maxHeartbeats 4000000 in
set_option maxRecDepth 100000 in
theorem good_l03Put : Good Try.prog 52 sp_put := by
  refine good_ofF Try.func52 rfl _ rfl _ rfl (tab [c_l03Empty, c_l03At, c_l03Mod, c_l01Before, c_l01Same, c_own]) (fun X cs os0 K hok hos hK => ?_)
  clear hos; unfold sp_put at hK
  split at hK
  case h_2 => exact hK.elim
  rename_i p ts w v
  refine ⟨by simp, by simp, ?_⟩
  simp only [go_sem] at hK hok
  simp (maxSteps := 4000000) only [go_sem, Try.f52, ↓brB_t, ↓brB_f, Nat.reduceAdd, Int.reduceLE, Int.reduceLT, Int.reduceNeg, decide_true, decide_false, Bool.and_self, Nat.succ_eq_add_one, Int.toNat_natCast, Nat.beq_refl, Bool.and_true, Bool.true_and, Bool.false_or, Bool.or_true, List.all_cons, List.all_nil, Nat.reduceMul, Nat.add_zero, Nat.zero_add, List.length_nil, List.length_cons, dite_true, List.nil_append, Nat.reduceBEq, reduceDIte, reduceIte, reduceCtorEq, Bool.or_false, Bool.true_or, Bool.and_false, Bool.false_and, Bool.not_true, Bool.not_false, Option.isSome_some, Option.isSome_none, Option.getD_some, List.getElem?_cons_zero, List.getElem?_cons_succ, eq_self, and_self, List.take_succ_cons, List.take_zero, List.drop_succ_cons, List.drop_zero]
  obtain ⟨⟨hp, hl, hw, hx⟩, hK⟩ := hK
  clear hok
  unfold jT at hK
  generalize hv : modI p (w64 (v + atT ts w)) = v' at *
  refine ⟨hp, by kernel_rfl, ?_⟩
  refine loop_okF (T := tab [c_l03Empty, c_l03At, c_l03Mod, c_l01Before, c_l01Same, c_own]) [1, 2, 3, 6, 7, 8, 9] [(16, 64), (17, 112), (18, 128), (19, 224)] (fun i : Nat => ⟨81, [(1, ri w), (2, vi v'), (3, .val (.one (.ptr 16 0))), (6, .val (.one (.ptr 17 0))), (7, .val (.one (.ptr 18 0))), (8, vb (jF w v' (ts.take i)).2), (9, vi i)],
      [(16, .box 28 [.v (.int .i64 p), .ro kTerm ts]), (17, .box 28 [.v (.int .i64 0), .v (.slice none 0 0)]), (18, .box 28 [.v (.int .i64 p), .own 19]), (19, .drow tI kTerm (jF w v' (ts.take i)).1)]⟩)
    (fun i => i ≤ ts.length) (fun i => ts.length - i) 0 rfl rfl (Nat.zero_le _) (fun i hi => ?_)
  have hjl := jF_len (w := w) (v := v') ts i
  have hjs : i < ts.length → jF w v' (ts.take (i + 1)) = _ := fun h => jF_s h
  generalize hgs : jF w v' (ts.take i) = s at *
  simp only [go_sem, ↓brB_t, ↓brB_f, Nat.reduceAdd, Int.reduceLE, Int.reduceLT, Int.reduceNeg, decide_true, decide_false, Bool.and_self, Nat.succ_eq_add_one, Int.toNat_natCast, Nat.beq_refl, Bool.and_true, Bool.true_and, Bool.false_or, Bool.or_true, List.all_cons, List.all_nil, Nat.reduceMul, Nat.add_zero, Nat.zero_add, List.length_nil, List.length_cons, dite_true, List.nil_append, Nat.reduceBEq, reduceDIte, reduceIte, reduceCtorEq, Bool.or_false, Bool.true_or, Bool.and_false, Bool.false_and, Bool.not_true, Bool.not_false, Option.isSome_some, Option.isSome_none, Option.getD_some, List.getElem?_cons_zero, List.getElem?_cons_succ, eq_self, and_self, List.take_succ_cons, List.take_zero, List.drop_succ_cons, List.drop_zero]
  refine brB_intro (fun h1 => ?_) (fun h1 => ?_)
  · have h1 := of_decide_eq_true h1
    have hs := hjs (by omega)
    have hw1 : w64 ((i : Int) + 1) = ((i + 1 : Nat) : Int) := w64_s (n := ts.length) (by omega) (by omega)
    have hxl := hx _ (getD_memT (show i < ts.length by omega))
    have hl2 : (s.1 ++ [(w, v')]).length = s.1.length + 1 := by rw [List.length_append]; rfl
    clear hjs hgs hv
    refine ⟨⟨by omega, by omega⟩, brB_intro (fun h2 => brB_intro (fun h3 => ⟨hw, by omega, by kernel_rfl, brB_intro (fun h4 => ⟨hxl, by rw [hl2]; omega, by kernel_rfl, i + 1, [(16, 16), (17, 17), (18, 18), (19, 1088)], by omega, by omega, rfl, ?_⟩) (fun h4 => ⟨i + 1, [(16, 16), (17, 17), (18, 18), (19, 832)], by omega, by omega, rfl, ?_⟩)⟩)
      (fun h3 => brB_intro (fun h4 => ⟨hxl, by omega, by kernel_rfl, i + 1, [(16, 16), (17, 17), (18, 18), (19, 1088)], by omega, by omega, rfl, ?_⟩) (fun h4 => ⟨i + 1, [(16, 16), (17, 17), (18, 18), (19, 19)], by omega, by omega, rfl, ?_⟩)))
      (fun h2 => brB_intro (fun h4 => ⟨hxl, by omega, by kernel_rfl, i + 1, [(16, 16), (17, 17), (18, 18), (19, 1088)], by omega, by omega, rfl, ?_⟩) (fun h4 => ⟨i + 1, [(16, 16), (17, 17), (18, 18), (19, 19)], by omega, by omega, rfl, ?_⟩))⟩
    · rw [jA, h2, Bool.true_and, if_pos h3, jB, if_neg (of_decide_eq_false (snb h4))] at hs
      rw [hw1, hs]; rfl
    · rw [jA, h2, Bool.true_and, if_pos h3, jB, if_pos (of_decide_eq_true (snb' h4))] at hs
      rw [hw1, hs]; rfl
    · rw [jA, h2, Bool.true_and, if_neg (by rw [h3]; decide), jB, if_neg (of_decide_eq_false (snb h4))] at hs
      rw [hw1, hs]; rfl
    · rw [jA, h2, Bool.true_and, if_neg (by rw [h3]; decide), jB, if_pos (of_decide_eq_true (snb' h4))] at hs
      rw [hw1, hs]; rfl
    · rw [jA, h2, Bool.false_and, if_neg (by decide), jB, if_neg (of_decide_eq_false (snb h4))] at hs
      rw [hw1, hs]; rfl
    · rw [jA, h2, Bool.false_and, if_neg (by decide), jB, if_pos (of_decide_eq_true (snb' h4))] at hs
      rw [hw1, hs]; rfl
  · have h1 := of_decide_eq_false h1
    have e : i = ts.length := by omega
    rw [e, List.take_length] at hgs
    rw [hgs] at hK
    refine brB_intro (fun h2 => ⟨hw, by omega, by kernel_rfl, retN [1264] rfl ?_⟩) (fun h2 => retN [19] rfl ?_)
    · rw [jE, if_neg (by rw [snb h2]; decide)] at hK; exact hK
    · rw [jE, if_pos (snb' h2)] at hK; exact hK
def c_l03Put : Ctr Try.prog := ⟨52, ent Try.func52 rfl rfl, [], sp_put, good_l03Put, []⟩
@[go_sem] theorem c_l03Put_f : c_l03Put.f = 52 := rfl
@[go_sem] theorem c_l03Put_ms : c_l03Put.ms = [] := rfl
@[go_sem] theorem c_l03Put_sp : c_l03Put.spec = sp_put := rfl
@[go_sem] theorem c_l03Put_fz : c_l03Put.fz = [] := rfl
attribute [go_sem] sp_put
end Go.Proofs.Ytokakggilajjlaa.V
