/- Contracts: words without chords, with some chords, codes. Conditions: told by each spec. A copy for seats without sums. -/
import Derived.Test.YtbnmjhcokdhjmaaVD1
import Derived.Test.YtbnmjhcokdhjmaaVD0
import Derived.Test.YtbnmjhcokdhjmaaVW12
set_option linter.unusedVariables false
set_option linter.unusedSimpArgs false
namespace Go.Proofs.Ytbnmjhcokdhjmaa.V
open Go
theorem snb {b : Bool} (h : (!b) = true) : b = false := by simpa using h
theorem snb' {b : Bool} (h : (!b) = false) : b = true := by simpa using h
theorem wU {x : Int} {n : Nat} (h : x = n) (hn : n ≤ 1099511627776) : w64 x = n := by rw [h, w64_id (by omega) (by omega)]
theorem take_u1 {f : List Int} {n : Nat} (h : n < f.length) : f.take (n + 1) = f.take n ++ [f.getD n 0] := by
  rw [List.take_succ_eq_append_getElem h, List.getD_eq_getElem?_getD, List.getElem?_eq_getElem h]; rfl
def sp_wt1 : List Cv → List Obj' → Tree
  | [.one (.v (.int .i64 k)), .one (.elr (.int .i64) [n] 0 0)], [] => .ret (vb (!decide (k = n))) []
  | _, _ => .fail
set_option maxHeartbeats 4000000 in
set_option maxRecDepth 100000 in
theorem good_wt1 : Good Try.prog 112 sp_wt1 := by
  refine good_ofF Try.func112 rfl _ rfl _ rfl (tab []) (fun X cs os0 K hok hos hK => ?_)
  clear hos; unfold sp_wt1 at hK
  split at hK
  case h_2 => exact hK.elim
  rename_i k n
  refine ⟨by simp, by simp, ?_⟩
  simp only [go_sem] at hK hok
  simp (maxSteps := 4000000) only [go_sem, Try.f112, ↓brB_t, ↓brB_f, Nat.reduceAdd, Int.reduceLE, Int.reduceLT, Int.reduceNeg, decide_true, decide_false, Bool.and_self, Nat.succ_eq_add_one, Int.toNat_natCast, Nat.beq_refl, Bool.and_true, Bool.true_and, Bool.false_or, Bool.or_true, List.all_cons, List.all_nil, Nat.reduceMul, Nat.add_zero, Nat.zero_add, List.length_nil, List.length_cons, dite_true, List.nil_append, Nat.reduceBEq, reduceDIte, reduceIte, reduceCtorEq, Bool.or_false, Bool.true_or, Bool.and_false, Bool.false_and, Bool.not_true, Bool.not_false, Option.isSome_some, Option.isSome_none, Option.getD_some, List.getElem?_cons_zero, List.getElem?_cons_succ, eq_self, and_self, List.take_succ_cons, List.take_zero, List.drop_succ_cons, List.drop_zero]
  exact ret0 hK
def wtP (ys : HC [.d (.int .i64)]) (xs : HT [Kn.int .i64]) : Option Bool := some (!decide ((xs.1 : Int) = ys.1))
def p_wt : PFn Try.prog := ⟨112, entB Try.func112 rfl rfl, [.d (.int .i64)], [.int .i64], .bool, wtP, sp_wt1, good_wt1, fun ys xs y h K hK => by
  unfold wtP at h
  injection h with h; subst h
  exact hK⟩
@[go_sem] theorem p_wt_f : p_wt.f = 112 := rfl
@[go_sem] theorem p_wt_caps (args : List Rv) : (capsM p_wt.cks args fun ys => .ret (.val (.one (.pf p_wt.ks p_wt.r (p_wt.g ys))))) = capsM [.d (.int .i64)] args fun ys => .ret (.val (.one (.pf [.int .i64] .bool (wtP ys)))) := rfl
/-- A word without a chord. -/
def wtL (w : List Int) (i : Int) : List Int := Go.Proofs.Ytbnmjhcokdhjmaa.K.normalL (w.filter fun x => !decide (x = i))
def sp_wt : List Cv → List Obj' → Tree
  | [.one (.ro (.int .i64) w), .one (.v (.int .i64 i))], [] => .need (w.length < 1099511627776) (.ret (ow 0) [rwi (wtL w i)])
  | _, _ => .fail
set_option maxHeartbeats 4000000 in
set_option maxRecDepth 100000 in
theorem good_wt : Good Try.prog 63 sp_wt := by
  refine good_ofF Try.func63 rfl _ rfl _ rfl (tab [c_wordOf] [] [p_wt]) (fun X cs os0 K hok hos hK => ?_)
  clear hos; unfold sp_wt at hK
  split at hK
  case h_2 => exact hK.elim
  rename_i w i
  refine ⟨by simp, by simp, ?_⟩
  simp only [go_sem] at hK hok
  simp (maxSteps := 4000000) only [go_sem, Try.f63, ↓brB_t, ↓brB_f, Nat.reduceAdd, Int.reduceLE, Int.reduceLT, Int.reduceNeg, decide_true, decide_false, Bool.and_self, Nat.succ_eq_add_one, Int.toNat_natCast, Nat.beq_refl, Bool.and_true, Bool.true_and, Bool.false_or, Bool.or_true, List.all_cons, List.all_nil, Nat.reduceMul, Nat.add_zero, Nat.zero_add, List.length_nil, List.length_cons, dite_true, List.nil_append, Nat.reduceBEq, reduceDIte, reduceIte, reduceCtorEq, Bool.or_false, Bool.true_or, Bool.and_false, Bool.false_and, Bool.not_true, Bool.not_false, Option.isSome_some, Option.isSome_none, Option.getD_some, List.getElem?_cons_zero, List.getElem?_cons_succ, eq_self, and_self, List.take_succ_cons, List.take_zero, List.drop_succ_cons, List.drop_zero]
  obtain ⟨h1, hK⟩ := hK
  clear hok
  exact ⟨⟨h1, fun x hx => rfl⟩, retN [128] rfl hK⟩
def c_wt : Ctr Try.prog := ⟨63, ent Try.func63 rfl rfl, [], sp_wt, good_wt, []⟩
@[go_sem] theorem c_wt_f : c_wt.f = 63 := rfl
@[go_sem] theorem c_wt_ms : c_wt.ms = [] := rfl
@[go_sem] theorem c_wt_sp : c_wt.spec = sp_wt := rfl
@[go_sem] theorem c_wt_fz : c_wt.fz = [] := rfl
attribute [go_sem] sp_wt
theorem wtL_isW {w : List Int} (h : isW w = true) (i : Int) : isW (wtL w i) = true := filter_isW _ h
set_option maxHeartbeats 4000000 in
set_option maxRecDepth 100000 in
theorem good_del : Good Try.prog 82 sp_wt := by
  refine good_ofF Try.func82 rfl _ rfl _ rfl (tab [c_l01Normal]) (fun X cs os0 K hok hos hK => ?_)
  clear hos; unfold sp_wt at hK
  split at hK
  case h_2 => exact hK.elim
  rename_i w n
  refine ⟨by simp, by simp, ?_⟩
  simp only [go_sem] at hK hok
  simp (maxSteps := 4000000) only [go_sem, Try.f82, ↓brB_t, ↓brB_f, Nat.reduceAdd, Int.reduceLE, Int.reduceLT, Int.reduceNeg, decide_true, decide_false, Bool.and_self, Nat.succ_eq_add_one, Int.toNat_natCast, Nat.beq_refl, Bool.and_true, Bool.true_and, Bool.false_or, Bool.or_true, List.all_cons, List.all_nil, Nat.reduceMul, Nat.add_zero, Nat.zero_add, List.length_nil, List.length_cons, dite_true, List.nil_append, Nat.reduceBEq, reduceDIte, reduceIte, reduceCtorEq, Bool.or_false, Bool.true_or, Bool.and_false, Bool.false_and, Bool.not_true, Bool.not_false, Option.isSome_some, Option.isSome_none, Option.getD_some, List.getElem?_cons_zero, List.getElem?_cons_succ, eq_self, and_self, List.take_succ_cons, List.take_zero, List.drop_succ_cons, List.drop_zero]
  obtain ⟨hl, hK⟩ := hK
  clear hok
  refine loop_okF (T := tab [c_l01Normal]) [0, 1, 5, 6] [(16, 128)] (fun i : Nat => ⟨29, [(0, ri w), (1, vi n), (5, ow 16), (6, vi i)], [(16, rwi ((w.take i).filter fun x => !decide (x = n)))]⟩)
    (fun i => i ≤ w.length) (fun i => w.length - i) 0 rfl rfl (Nat.zero_le _) (fun i hi => ?_)
  have hfl := List.length_filter_le (fun x : Int => !decide (x = n)) (w.take i)
  have htl : (w.take i).length = i := by rw [List.length_take]; omega
  simp only [go_sem, ↓brB_t, ↓brB_f, Nat.reduceAdd, Int.reduceLE, Int.reduceLT, Int.reduceNeg, decide_true, decide_false, Bool.and_self, Nat.succ_eq_add_one, Int.toNat_natCast, Nat.beq_refl, Bool.and_true, Bool.true_and, Bool.false_or, Bool.or_true, List.all_cons, List.all_nil, Nat.reduceMul, Nat.add_zero, Nat.zero_add, List.length_nil, List.length_cons, dite_true, List.nil_append, Nat.reduceBEq, reduceDIte, reduceIte, reduceCtorEq, Bool.or_false, Bool.true_or, Bool.and_false, Bool.false_and, Bool.not_true, Bool.not_false, Option.isSome_some, Option.isSome_none, Option.getD_some, List.getElem?_cons_zero, List.getElem?_cons_succ, eq_self, and_self, List.take_succ_cons, List.take_zero, List.drop_succ_cons, List.drop_zero]
  refine brB_intro (fun h1 => ?_) (fun h1 => ?_)
  · have h1 := of_decide_eq_true h1
    have hw1 : w64 ((i : Int) + 1) = ((i + 1 : Nat) : Int) := w64_s (n := w.length) (by omega) (by omega)
    have e : (w.take (i + 1)).filter (fun x => !decide (x = n)) = (w.take i).filter (fun x => !decide (x = n)) ++ (if w.getD i 0 = n then [] else [w.getD i 0]) := by
      rw [List.take_succ_eq_append_getElem (by omega), List.filter_append, getD_eq (by omega)]
      simp only [List.filter_cons, List.filter_nil]
      split <;> split <;> simp_all
    refine ⟨⟨by omega, by omega⟩, brB_intro (fun h2 => ?_) (fun h2 => ?_)⟩
    · have h2 := of_decide_eq_false (snb h2)
      rw [if_neg h2] at e
      refine ⟨⟨by omega, by omega⟩, by omega, i + 1, [(16, 432)], by omega, by omega, rfl, ?_⟩
      rw [hw1, e]; rfl
    · have h2 := of_decide_eq_true (snb' h2)
      rw [if_pos h2, List.append_nil] at e
      refine ⟨i + 1, [(16, 16)], by omega, by omega, rfl, ?_⟩
      rw [hw1, e]; rfl
  · have h1 := of_decide_eq_false h1
    have e : i = w.length := by omega
    subst e
    rw [List.take_length] at hfl ⊢
    exact ⟨by omega, retN [464] rfl hK⟩
def c_del : Ctr Try.prog := ⟨82, ent Try.func82 rfl rfl, [], sp_wt, good_del, []⟩
@[go_sem] theorem c_del_f : c_del.f = 82 := rfl
@[go_sem] theorem c_del_ms : c_del.ms = [] := rfl
@[go_sem] theorem c_del_sp : c_del.spec = sp_wt := rfl
@[go_sem] theorem c_del_fz : c_del.fz = [] := rfl
attribute [go_sem] sp_wt
def codeR (w : List Int) (k most : Int) : Int := if isW w then (if inB k 0 most then 0 else 2) else 1
def sp_code : List Cv → List Obj' → Tree
  | [.one (.ro (.int .i64) w), .one (.v (.int .i64 k)), .one (.v (.int .i64 m))], [] => .ret (vi (codeR w k m)) []
  | _, _ => .fail
set_option maxHeartbeats 4000000 in
set_option maxRecDepth 100000 in
theorem good_l01Code : Good Try.prog 60 sp_code := by
  refine good_ofF Try.func60 rfl _ rfl _ rfl (tab [c_l01Is, c_l01In]) (fun X cs os0 K hok hos hK => ?_)
  clear hos; unfold sp_code at hK
  split at hK
  case h_2 => exact hK.elim
  rename_i w k m
  refine ⟨by simp, by simp, ?_⟩
  simp only [go_sem] at hK hok
  simp (maxSteps := 4000000) only [go_sem, Try.f60, ↓brB_t, ↓brB_f, Nat.reduceAdd, Int.reduceLE, Int.reduceLT, Int.reduceNeg, decide_true, decide_false, Bool.and_self, Nat.succ_eq_add_one, Int.toNat_natCast, Nat.beq_refl, Bool.and_true, Bool.true_and, Bool.false_or, Bool.or_true, List.all_cons, List.all_nil, Nat.reduceMul, Nat.add_zero, Nat.zero_add, List.length_nil, List.length_cons, dite_true, List.nil_append, Nat.reduceBEq, reduceDIte, reduceIte, reduceCtorEq, Bool.or_false, Bool.true_or, Bool.and_false, Bool.false_and, Bool.not_true, Bool.not_false, Option.isSome_some, Option.isSome_none, Option.getD_some, List.getElem?_cons_zero, List.getElem?_cons_succ, eq_self, and_self, List.take_succ_cons, List.take_zero, List.drop_succ_cons, List.drop_zero]
  clear hok
  unfold codeR at hK
  refine brB_intro (fun h1 => ret0 (by rw [nb h1] at hK; exact hK)) (fun h1 => ?_)
  rw [nb' h1] at hK
  exact brB_intro (fun h2 => ret0 (by rw [nb h2] at hK; exact hK)) (fun h2 => ret0 (by rw [nb' h2] at hK; exact hK))
def c_l01Code : Ctr Try.prog := ⟨60, ent Try.func60 rfl rfl, [], sp_code, good_l01Code, []⟩
@[go_sem] theorem c_l01Code_f : c_l01Code.f = 60 := rfl
@[go_sem] theorem c_l01Code_ms : c_l01Code.ms = [] := rfl
@[go_sem] theorem c_l01Code_sp : c_l01Code.spec = sp_code := rfl
@[go_sem] theorem c_l01Code_fz : c_l01Code.fz = [] := rfl
attribute [go_sem] sp_code
def sp_has : List Cv → List Obj' → Tree
  | [.one (.ro (.int .i64) l), .one (.v (.int .i64 x))], [] => .ret (vb (decide ((x : Int) ∈ (l : List Int)))) []
  | _, _ => .fail
theorem idxI_mem (l : List Int) (x : Int) : decide (0 ≤ idxI l x) = decide (x ∈ l) := by
  by_cases h : x ∈ l
  · rw [decide_eq_true h]
    unfold idxI
    cases e : l.idxOf? x with
    | some j => simp
    | none => exact absurd h (by simpa [List.idxOf?_eq_none_iff] using e)
  · rw [decide_eq_false h, idxI_none h]; rfl
set_option maxHeartbeats 4000000 in
set_option maxRecDepth 100000 in
theorem good_has : Good Try.prog 78 sp_has := by
  refine good_ofF Try.func78 rfl _ rfl _ rfl (tab [c_index]) (fun X cs os0 K hok hos hK => ?_)
  clear hos; unfold sp_has at hK
  split at hK
  case h_2 => exact hK.elim
  rename_i l x
  refine ⟨by simp, by simp, ?_⟩
  simp only [go_sem] at hK hok
  simp (maxSteps := 4000000) only [go_sem, Try.f78, ↓brB_t, ↓brB_f, Nat.reduceAdd, Int.reduceLE, Int.reduceLT, Int.reduceNeg, decide_true, decide_false, Bool.and_self, Nat.succ_eq_add_one, Int.toNat_natCast, Nat.beq_refl, Bool.and_true, Bool.true_and, Bool.false_or, Bool.or_true, List.all_cons, List.all_nil, Nat.reduceMul, Nat.add_zero, Nat.zero_add, List.length_nil, List.length_cons, dite_true, List.nil_append, Nat.reduceBEq, reduceDIte, reduceIte, reduceCtorEq, Bool.or_false, Bool.true_or, Bool.and_false, Bool.false_and, Bool.not_true, Bool.not_false, Option.isSome_some, Option.isSome_none, Option.getD_some, List.getElem?_cons_zero, List.getElem?_cons_succ, eq_self, and_self, List.take_succ_cons, List.take_zero, List.drop_succ_cons, List.drop_zero]
  clear hok
  rw [← idxI_mem] at hK
  exact ret0 hK
def c_has : Ctr Try.prog := ⟨78, ent Try.func78 rfl rfl, [], sp_has, good_has, []⟩
@[go_sem] theorem c_has_f : c_has.f = 78 := rfl
@[go_sem] theorem c_has_ms : c_has.ms = [] := rfl
@[go_sem] theorem c_has_sp : c_has.spec = sp_has := rfl
@[go_sem] theorem c_has_fz : c_has.fz = [] := rfl
attribute [go_sem] sp_has
def keptL (w : List Int) (kp : List Bool) : List Int := w.filter fun x => kp.getD x.toNat false
def sp_l01Some : List Cv → List Obj' → Tree
  | [.one (.ro (.int .i64) w), .one (.ro .bool kp)], [] => .need (w.length < 1099511627776 ∧ ∀ x ∈ (w : List Int), 0 ≤ x ∧ x < (kp : List Bool).length) (.ret (ow 0) [rwi (Go.Proofs.Ytbnmjhcokdhjmaa.K.normalL (keptL w kp))])
  | _, _ => .fail
set_option maxHeartbeats 4000000 in
set_option maxRecDepth 100000 in
theorem good_l01Some : Good Try.prog 79 sp_l01Some := by
  refine good_ofF Try.func79 rfl _ rfl _ rfl (tab [c_l01Normal]) (fun X cs os0 K hok hos hK => ?_)
  clear hos; unfold sp_l01Some at hK
  split at hK
  case h_2 => exact hK.elim
  rename_i w kp
  refine ⟨by simp, by simp, ?_⟩
  simp only [go_sem] at hK hok
  simp (maxSteps := 4000000) only [go_sem, Try.f79, ↓brB_t, ↓brB_f, Nat.reduceAdd, Int.reduceLE, Int.reduceLT, Int.reduceNeg, decide_true, decide_false, Bool.and_self, Nat.succ_eq_add_one, Int.toNat_natCast, Nat.beq_refl, Bool.and_true, Bool.true_and, Bool.false_or, Bool.or_true, List.all_cons, List.all_nil, Nat.reduceMul, Nat.add_zero, Nat.zero_add, List.length_nil, List.length_cons, dite_true, List.nil_append, Nat.reduceBEq, reduceDIte, reduceIte, reduceCtorEq, Bool.or_false, Bool.true_or, Bool.and_false, Bool.false_and, Bool.not_true, Bool.not_false, Option.isSome_some, Option.isSome_none, Option.getD_some, List.getElem?_cons_zero, List.getElem?_cons_succ, eq_self, and_self, List.take_succ_cons, List.take_zero, List.drop_succ_cons, List.drop_zero]
  obtain ⟨⟨hl, hr⟩, hK⟩ := hK
  clear hok
  refine loop_okF (T := tab [c_l01Normal]) [0, 1, 5, 6] [(16, 128)] (fun i : Nat => ⟨30, [(0, ri w), (1, .val (.one (.ro .bool kp))), (5, ow 16), (6, vi i)], [(16, rwi (keptL ((w : List Int).take i) kp))]⟩)
    (fun i => i ≤ w.length) (fun i => w.length - i) 0 rfl rfl (Nat.zero_le _) (fun i hi => ?_)
  have hkl : (keptL ((w : List Int).take i) kp).length ≤ w.length := Nat.le_trans (List.length_filter_le _ _) (by rw [List.length_take]; omega)
  simp only [go_sem, ↓brB_t, ↓brB_f, Nat.reduceAdd, Int.reduceLE, Int.reduceLT, Int.reduceNeg, decide_true, decide_false, Bool.and_self, Nat.succ_eq_add_one, Int.toNat_natCast, Nat.beq_refl, Bool.and_true, Bool.true_and, Bool.false_or, Bool.or_true, List.all_cons, List.all_nil, Nat.reduceMul, Nat.add_zero, Nat.zero_add, List.length_nil, List.length_cons, dite_true, List.nil_append, Nat.reduceBEq, reduceDIte, reduceIte, reduceCtorEq, Bool.or_false, Bool.true_or, Bool.and_false, Bool.false_and, Bool.not_true, Bool.not_false, Option.isSome_some, Option.isSome_none, Option.getD_some, List.getElem?_cons_zero, List.getElem?_cons_succ, eq_self, and_self, List.take_succ_cons, List.take_zero, List.drop_succ_cons, List.drop_zero]
  refine brB_intro (fun h1 => ?_) (fun h1 => ?_)
  · have h1 := of_decide_eq_true h1
    have hx := hr _ (getD_mem (l := (w : List Int)) (i := i) (by omega))
    have hs := take_u1 (f := (w : List Int)) (n := i) (by omega)
    have hst : keptL ((w : List Int).take (i + 1)) kp = keptL ((w : List Int).take i) kp ++ (if (kp : List Bool).getD ((w : List Int).getD i 0).toNat false = true then [(w : List Int).getD i 0] else []) := by
      rw [hs]
      unfold keptL
      rw [List.filter_append, List.filter_cons]; rfl
    rw [show w64 ((i : Int) + 1) = ((i + 1 : Nat) : Int) from wU (by omega) (by omega)]
    refine ⟨⟨by omega, by omega⟩, hx, brB_intro (fun h2 => ?_) (fun h2 => ?_)⟩
    · rw [if_pos (show (kp : List Bool).getD ((w : List Int).getD i 0).toNat false = true from h2)] at hst
      rw [← hst]
      exact ⟨⟨by omega, by omega⟩, by omega, i + 1, [(16, 448)], by omega, by omega, rfl, rfl⟩
    · have h2 : (kp : List Bool).getD ((w : List Int).getD i 0).toNat false = false := h2
      rw [if_neg (by rw [h2]; decide), List.append_nil] at hst
      refine ⟨i + 1, [(16, 16)], by omega, by omega, rfl, ?_⟩
      rw [hst]; rfl
  · have h1 := of_decide_eq_false h1
    rw [List.take_of_length_le (by omega)] at *
    exact ⟨by omega, retN [480] rfl hK⟩
def c_l01Some : Ctr Try.prog := ⟨79, ent Try.func79 rfl rfl, [], sp_l01Some, good_l01Some, []⟩
@[go_sem] theorem c_l01Some_f : c_l01Some.f = 79 := rfl
@[go_sem] theorem c_l01Some_ms : c_l01Some.ms = [] := rfl
@[go_sem] theorem c_l01Some_sp : c_l01Some.spec = sp_l01Some := rfl
@[go_sem] theorem c_l01Some_fz : c_l01Some.fz = [] := rfl
attribute [go_sem] sp_l01Some
end Go.Proofs.Ytbnmjhcokdhjmaa.V
