/- Contract: the text of a word. Conditions: told by its spec. -/
import Derived.Test.YtokakggilajjlaaVW1
set_option linter.unusedVariables false
set_option linter.unusedSimpArgs false
namespace Go.Proofs.Ytokakggilajjlaa.V
open Go
def letter (x : Int) : Int := (97 + x % 256) % 256
def textB (w : List Int) : ByteArray := bytesS (w.map letter)
def sp_wordText : List Cv → List Obj' → Tree
  | [.one (.ro (.int .i64) w)], [] => .need (w.length < 1099511627776) (.ret (.val (.one (.v (.string (textB w))))) [])
  | _, _ => .fail
set_option maxHeartbeats 4000000 in
set_option maxRecDepth 100000 in
theorem good_wordText : Good Try.prog 91 sp_wordText := by
  refine good_ofF Try.func91 rfl _ rfl _ rfl (tab []) (fun X cs os0 K hok hos hK => ?_)
  clear hos; unfold sp_wordText at hK
  split at hK
  case h_2 => exact hK.elim
  rename_i w
  refine ⟨by simp, by simp, ?_⟩
  simp only [go_sem] at hK hok
  simp (maxSteps := 4000000) only [go_sem, Try.f91, ↓brB_t, ↓brB_f, Nat.reduceAdd, Int.reduceLE, Int.reduceLT, Int.reduceNeg, decide_true, decide_false, Bool.and_self, Nat.succ_eq_add_one, Int.toNat_natCast, Nat.beq_refl, Bool.and_true, Bool.true_and, Bool.false_or, Bool.or_true, List.all_cons, List.all_nil, Nat.reduceMul, Nat.add_zero, Nat.zero_add, List.length_nil, List.length_cons, dite_true, List.nil_append, Nat.reduceBEq, reduceDIte, reduceIte, reduceCtorEq, Bool.or_false, Bool.true_or, Bool.and_false, Bool.false_and, Bool.not_true, Bool.not_false, Option.isSome_some, Option.isSome_none, Option.getD_some, List.getElem?_cons_zero, List.getElem?_cons_succ, eq_self, and_self, List.take_succ_cons, List.take_zero, List.drop_succ_cons, List.drop_zero]
  obtain ⟨hl, hK⟩ := hK
  clear hok
  refine loop_okF (T := tab []) [3, 7, 8, 9] [(16, 112)] (fun i : Nat => ⟨22, [(3, ow 16), (7, ri w), (8, vi (w.length : Nat)), (9, vi i)], [(16, .row 5 (.int .u8) ((w.take i).map letter))]⟩)
    (fun i => i ≤ w.length) (fun i => w.length - i) 0 rfl rfl (Nat.zero_le _) (fun i hi => ?_)
  have hml : ((w.take i).map letter).length = i := by rw [List.length_map, List.length_take]; omega
  simp only [go_sem, ↓brB_t, ↓brB_f, Nat.reduceAdd, Int.reduceLE, Int.reduceLT, Int.reduceNeg, decide_true, decide_false, Bool.and_self, Nat.succ_eq_add_one, Int.toNat_natCast, Nat.beq_refl, Bool.and_true, Bool.true_and, Bool.false_or, Bool.or_true, List.all_cons, List.all_nil, Nat.reduceMul, Nat.add_zero, Nat.zero_add, List.length_nil, List.length_cons, dite_true, List.nil_append, Nat.reduceBEq, reduceDIte, reduceIte, reduceCtorEq, Bool.or_false, Bool.true_or, Bool.and_false, Bool.false_and, Bool.not_true, Bool.not_false, Option.isSome_some, Option.isSome_none, Option.getD_some, List.getElem?_cons_zero, List.getElem?_cons_succ, eq_self, and_self, List.take_succ_cons, List.take_zero, List.drop_succ_cons, List.drop_zero]
  refine brB_intro (fun h1 => ?_) (fun h1 => ret0 ?_)
  · have h1 := of_decide_eq_true h1
    have hw : w64 ((i : Int) + 1) = ((i + 1 : Nat) : Int) := w64_s (n := w.length) (by omega) (by omega)
    have e : (w.take (i + 1)).map letter = (w.take i).map letter ++ [(97 + w.getD i 0 % 256) % 256] := by
      rw [List.take_succ_eq_append_getElem (by omega), List.map_append, List.getD_eq_getElem?_getD, List.getElem?_eq_getElem (by omega)]; rfl
    refine ⟨⟨by omega, by omega⟩, by omega, i + 1, [(16, 304)], by omega, by omega, rfl, ?_⟩
    rw [hw, e]; rfl
  · have h1 := of_decide_eq_false h1
    rw [List.take_of_length_le (by omega)]; exact hK
def c_wordText : Ctr Try.prog := ⟨91, ent Try.func91 rfl rfl, [], sp_wordText, good_wordText, []⟩
@[go_sem] theorem c_wordText_f : c_wordText.f = 91 := rfl
@[go_sem] theorem c_wordText_ms : c_wordText.ms = [] := rfl
@[go_sem] theorem c_wordText_sp : c_wordText.spec = sp_wordText := rfl
@[go_sem] theorem c_wordText_fz : c_wordText.fz = [] := rfl
attribute [go_sem] sp_wordText
end Go.Proofs.Ytokakggilajjlaa.V
