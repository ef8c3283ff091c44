/- Contracts: rows joined, turned heads, RotateGauss. Conditions: told by each spec. -/
import Derived.Test.YtihfncjpfgdhoaaVW12
import Derived.Test.YtihfncjpfgdhoaaVW9
import Derived.Test.YtihfncjpfgdhoaaVG
set_option linter.unusedVariables false
set_option linter.unusedSimpArgs false
namespace Go.Proofs.Ytihfncjpfgdhoaa.V
open Go
/-! ### rows joined -/
abbrev kRow : Kn := .sl 2 (.int .i64)
def sumLen (ls : List (List Int)) : Nat := (ls.map List.length).sum
def sp_concat : List Cv → List Obj' → Tree
  | [.one (.ro (.sl 2 (.int .i64)) ls)], [] => .need (sumLen ls < 1099511627776) (.ret (ow 0) [rwi (List.flatten (ls : List (List Int)))])
  | _, _ => .fail
theorem sumLen_s {ls : List (List Int)} {i : Nat} (h : i < ls.length) : sumLen (ls.take (i + 1)) = sumLen (ls.take i) + (ls.getD i []).length := by
  rw [sumLen, sumLen, List.take_succ_eq_append_getElem h, List.map_append, List.sum_append, List.getD_eq_getElem?_getD, List.getElem?_eq_getElem h]
  simp
theorem sumLen_le (ls : List (List Int)) (i : Nat) : sumLen (ls.take i) ≤ sumLen ls := by
  have e : sumLen ls = sumLen (ls.take i) + sumLen (ls.drop i) := by
    rw [sumLen, sumLen, sumLen, ← List.sum_append, ← List.map_append, List.take_append_drop]
  omega
theorem flat_s {ls : List (List Int)} {i : Nat} (h : i < ls.length) : (ls.take (i + 1)).flatten = (ls.take i).flatten ++ ls.getD i [] := by
  rw [List.take_succ_eq_append_getElem h, List.flatten_append, List.getD_eq_getElem?_getD, List.getElem?_eq_getElem h]
  simp
theorem flat_len (ls : List (List Int)) : ls.flatten.length = sumLen ls := by rw [List.length_flatten]; rfl
theorem w64_add {m n : Nat} (h : m + n < 1099511627776) : w64 ((m : Int) + n) = ((m + n : Nat) : Int) := by rw [w64_id (by omega) (by omega)]; omega
set_option maxHeartbeats 4000000 in
set_option maxRecDepth 100000 in
theorem good_concat : Good Try.prog 72 sp_concat := by
  refine good_ofF Try.func72 rfl _ rfl _ rfl (tab [c_grow]) (fun X cs os0 K hok hos hK => ?_)
  clear hos; unfold sp_concat at hK
  split at hK
  case h_2 => exact hK.elim
  rename_i ls
  refine ⟨by simp, by simp, ?_⟩
  simp only [go_sem] at hK hok
  simp (maxSteps := 4000000) only [go_sem, Try.f72, ↓brB_t, ↓brB_f, Nat.reduceAdd, Int.reduceLE, Int.reduceLT, Int.reduceNeg, decide_true, decide_false, Bool.and_self, Nat.succ_eq_add_one, Int.toNat_natCast, Nat.beq_refl, Bool.and_true, Bool.true_and, Bool.false_or, Bool.or_true, List.all_cons, List.all_nil, Nat.reduceMul, Nat.add_zero, Nat.zero_add, List.length_nil, List.length_cons, dite_true, List.nil_append, Nat.reduceBEq, reduceDIte, reduceIte, reduceCtorEq, Bool.or_false, Bool.true_or, Bool.and_false, Bool.false_and, Bool.not_true, Bool.not_false, Option.isSome_some, Option.isSome_none, Option.getD_some, List.getElem?_cons_zero, List.getElem?_cons_succ, eq_self, and_self, List.take_succ_cons, List.take_zero, List.drop_succ_cons, List.drop_zero]
  obtain ⟨ht, hK⟩ := hK
  have hl := len_i hok.1.1
  clear hok
  refine loop_okF (T := tab [c_grow]) [0, 3, 9, 10, 11] [] (fun i : Nat => ⟨36, [(0, .val (.one (.ro kRow ls))), (3, vi (sumLen (ls.take i) : Nat)), (9, .val (.one (.ro kRow ls))), (10, vi (ls.length : Nat)), (11, vi i)], []⟩)
    (fun i => i ≤ ls.length) (fun i => ls.length - i) 0 rfl rfl (Nat.zero_le _) (fun i hi => ?_)
  simp only [go_sem, ↓brB_t, ↓brB_f, Nat.reduceAdd, Int.reduceLE, Int.reduceLT, Int.reduceNeg, decide_true, decide_false, Bool.and_self, Nat.succ_eq_add_one, Int.toNat_natCast, Nat.beq_refl, Bool.and_true, Bool.true_and, Bool.false_or, Bool.or_true, List.all_cons, List.all_nil, Nat.reduceMul, Nat.add_zero, Nat.zero_add, List.length_nil, List.length_cons, dite_true, List.nil_append, Nat.reduceBEq, reduceDIte, reduceIte, reduceCtorEq, Bool.or_false, Bool.true_or, Bool.and_false, Bool.false_and, Bool.not_true, Bool.not_false, Option.isSome_some, Option.isSome_none, Option.getD_some, List.getElem?_cons_zero, List.getElem?_cons_succ, eq_self, and_self, List.take_succ_cons, List.take_zero, List.drop_succ_cons, List.drop_zero]
  have hti := sumLen_le ls i
  refine brB_intro (fun h1 => ?_) (fun h1 => ⟨⟨by omega, by omega⟩, ?_⟩)
  · have h1 := of_decide_eq_true h1
    have hs := sumLen_s (ls := ls) (i := i) (by omega)
    have hle := sumLen_le ls (i + 1)
    have hw : w64 ((sumLen (ls.take i) : Int) + (ls.getD i []).length) = ((sumLen (ls.take (i + 1)) : Nat) : Int) := by rw [w64_add (by omega), hs]
    simp only [hw]
    refine ⟨⟨by omega, by omega⟩, brB_intro (fun h2 => by have := of_decide_eq_true h2; omega) (fun _ => ⟨i + 1, [], by omega, by omega, rfl, ?_⟩)⟩
    rw [w64_s (n := ls.length) (by omega) hl]; rfl
  · refine loop_okF (T := tab [c_grow]) [6, 25, 26, 27] [(16, 400)] (fun i : Nat => ⟨36, [(6, ow 16), (25, .val (.one (.ro kRow ls))), (26, vi (ls.length : Nat)), (27, vi i)], [(16, rwi (ls.take i).flatten)]⟩)
      (fun i => i ≤ ls.length) (fun i => ls.length - i) 0 rfl rfl (Nat.zero_le _) (fun i hi => ?_)
    have hfl : (ls.take i).flatten.length = sumLen (ls.take i) := flat_len _
    simp only [go_sem, ↓brB_t, ↓brB_f, Nat.reduceAdd, Int.reduceLE, Int.reduceLT, Int.reduceNeg, decide_true, decide_false, Bool.and_self, Nat.succ_eq_add_one, Int.toNat_natCast, Nat.beq_refl, Bool.and_true, Bool.true_and, Bool.false_or, Bool.or_true, List.all_cons, List.all_nil, Nat.reduceMul, Nat.add_zero, Nat.zero_add, List.length_nil, List.length_cons, dite_true, List.nil_append, Nat.reduceBEq, reduceDIte, reduceIte, reduceCtorEq, Bool.or_false, Bool.true_or, Bool.and_false, Bool.false_and, Bool.not_true, Bool.not_false, Option.isSome_some, Option.isSome_none, Option.getD_some, List.getElem?_cons_zero, List.getElem?_cons_succ, eq_self, and_self, List.take_succ_cons, List.take_zero, List.drop_succ_cons, List.drop_zero]
    refine brB_intro (fun h1 => ?_) (fun h1 => retN [16] rfl ?_)
    · have h1 := of_decide_eq_true h1
      have hs := sumLen_s (ls := ls) (i := i) (by omega)
      have hle := sumLen_le ls (i + 1)
      refine ⟨⟨by omega, by omega⟩, by rw [hfl]; omega, i + 1, [(16, 544)], by omega, by omega, rfl, ?_⟩
      rw [w64_s (n := ls.length) (by omega) hl, flat_s (by omega)]; rfl
    · have h1 := of_decide_eq_false h1
      have e : i = ls.length := by omega
      rw [e, List.take_length]; exact hK
def c_concat : Ctr Try.prog := ⟨72, ent Try.func72 rfl rfl, [], sp_concat, good_concat⟩
@[go_sem] theorem c_concat_f : c_concat.f = 72 := rfl
@[go_sem] theorem c_concat_ms : c_concat.ms = [] := rfl
@[go_sem] theorem c_concat_sp : c_concat.spec = sp_concat := rfl
attribute [go_sem] sp_concat
end Go.Proofs.Ytihfncjpfgdhoaa.V
