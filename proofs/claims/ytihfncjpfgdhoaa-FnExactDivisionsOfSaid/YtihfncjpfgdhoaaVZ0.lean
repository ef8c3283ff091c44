/- Contracts: words joined with nothing. Plain law: how many divisions there are. Conditions: told by each spec. -/
import Derived.Test.YtihfncjpfgdhoaaVD3
import Derived.Test.YtihfncjpfgdhoaaVJW
set_option linter.unusedVariables false
set_option linter.unusedSimpArgs false
namespace Go.Proofs.Ytihfncjpfgdhoaa.V
open Go
def sp_joinN : List Cv → List Obj' → Tree
  | [.one (.ro (.int .i64) a), .one (.v (.slice none 0 0))], [] => .need (a.length < 1000000) (.ret (ow 0) [rwi a])
  | _, _ => .fail
set_option maxHeartbeats 4000000 in
set_option maxRecDepth 100000 in
theorem good_joinN : Good Try.prog 109 sp_joinN := by
  refine good_ofF Try.func109 rfl _ rfl _ rfl (tab [c_clone, c_chords]) (fun X cs os0 K hok hos hK => ?_)
  clear hos; unfold sp_joinN at hK
  split at hK
  case h_2 => exact hK.elim
  rename_i a
  refine ⟨by simp, by simp, ?_⟩
  simp only [go_sem] at hK hok
  simp (maxSteps := 4000000) only [go_sem, Try.f109, ↓brB_t, ↓brB_f, Nat.reduceAdd, Int.reduceLE, Int.reduceLT, Int.reduceNeg, decide_true, decide_false, Bool.and_self, Nat.succ_eq_add_one, Int.toNat_natCast, Nat.beq_refl, Bool.and_true, Bool.true_and, Bool.false_or, Bool.or_true, List.all_cons, List.all_nil, Nat.reduceMul, Nat.add_zero, Nat.zero_add, List.length_nil, List.length_cons, dite_true, List.nil_append, Nat.reduceBEq, reduceDIte, reduceIte, reduceCtorEq, Bool.or_false, Bool.true_or, Bool.and_false, Bool.false_and, Bool.not_true, Bool.not_false, Option.isSome_some, Option.isSome_none, Option.getD_some, List.getElem?_cons_zero, List.getElem?_cons_succ, eq_self, and_self, List.take_succ_cons, List.take_zero, List.drop_succ_cons, List.drop_zero]
  obtain ⟨h1, hK⟩ := hK
  clear hok
  refine ⟨by omega, ?_⟩
  refine loop_okF (T := tab [c_clone, c_chords]) [0, 5, 11, 12] [(16, 160)] (fun _ : Unit => ⟨25, [(0, ri a), (5, ow 16), (11, vi 0), (12, vi 0)], [(16, rwi a)]⟩)
    (fun _ => True) (fun _ => 0) () rfl rfl trivial (fun _ _ => ?_)
  simp only [go_sem, ↓brB_t, ↓brB_f, Nat.reduceAdd, Int.reduceLE, Int.reduceLT, Int.reduceNeg, decide_true, decide_false, Bool.and_self, Nat.succ_eq_add_one, Int.toNat_natCast, Nat.beq_refl, Bool.and_true, Bool.true_and, Bool.false_or, Bool.or_true, List.all_cons, List.all_nil, Nat.reduceMul, Nat.add_zero, Nat.zero_add, List.length_nil, List.length_cons, dite_true, List.nil_append, Nat.reduceBEq, reduceDIte, reduceIte, reduceCtorEq, Bool.or_false, Bool.true_or, Bool.and_false, Bool.false_and, Bool.not_true, Bool.not_false, Option.isSome_some, Option.isSome_none, Option.getD_some, List.getElem?_cons_zero, List.getElem?_cons_succ, eq_self, and_self, List.take_succ_cons, List.take_zero, List.drop_succ_cons, List.drop_zero]
  exact retN [16] rfl hK
def c_joinN : Ctr Try.prog := ⟨109, ent Try.func109 rfl rfl, [], sp_joinN, good_joinN, []⟩
@[go_sem] theorem c_joinN_f : c_joinN.f = 109 := rfl
@[go_sem] theorem c_joinN_ms : c_joinN.ms = [] := rfl
@[go_sem] theorem c_joinN_sp : c_joinN.spec = sp_joinN := rfl
@[go_sem] theorem c_joinN_fz : c_joinN.fz = [] := rfl
attribute [go_sem] sp_joinN
/-- How many divisions a word of n chords has. -/
def cntD (n : Nat) : Int := ([1, 1, 3, 13, 75] : List Int).getD n 0
/-- What one choice of chords adds. -/
def stepD (n c : Nat) : Int := if popTo n c = 0 then 0 else cntD (n - popTo n c)
def sumD (n : Nat) : Nat → Int
  | 0 => 0
  | c + 1 => sumD n c + stepD n c
theorem sumD_s (n c : Nat) : sumD n (c + 1) = sumD n c + stepD n c := rfl
theorem sumD_end (n : Nat) (h1 : 1 ≤ n) (h4 : n ≤ 4) : sumD n (2 ^ n) = cntD n := by
  match n, h1, h4 with
  | 1, _, _ => decide +kernel
  | 2, _, _ => decide +kernel
  | 3, _, _ => decide +kernel
  | 4, _, _ => decide +kernel
theorem sumD_all : ∀ n, n < 5 → ∀ c, c < 17 → c ≤ 2 ^ n → 0 ≤ sumD n c ∧ sumD n c ≤ 75 := by decide +kernel
theorem sumD_le (n : Nat) (h : n ≤ 4) (c : Nat) (hc : c ≤ 2 ^ n) : 0 ≤ sumD n c ∧ sumD n c ≤ 75 := by
  have h16 : 2 ^ n ≤ 2 ^ 4 := Nat.pow_le_pow_right (by omega) h
  exact sumD_all n (by omega) c (by omega) hc
end Go.Proofs.Ytihfncjpfgdhoaa.V
