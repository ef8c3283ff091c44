/- Contracts: joined words, crossings, words of some chords, by both sides. Conditions: told by each spec. -/
import Derived.Test.YtbnmjhcokdhjmaaVU2
import Derived.Test.YtbnmjhcokdhjmaaVUR
import Derived.Test.YtbnmjhcokdhjmaaVY3
set_option linter.unusedVariables false
set_option linter.unusedSimpArgs false
namespace Go.Proofs.Ytbnmjhcokdhjmaa.V
open Go
/-! ### JoinWords -/
abbrev TstR := HT [kR] → Option Kn.bool.T
def tstR (f : TstR) (x : List Int) : Bool := (f (x, ())).getD false
def idxR (p : List Int → Bool) (l : RowL) : Int := match l.findIdx? p with | some j => (j : Int) | none => -1
def sp_indexR : List Cv → List Obj' → Tree
  | [.one (.ro (.sl 2 (.int .i64)) l), .one (.pf [.sl 2 (.int .i64)] .bool f)], [] => .need (l.length ≤ 1000 ∧ ∀ x ∈ (l : RowL), (f (x, ())).isSome = true) (.ret (vi (idxR (tstR f) l)) [])
  | _, _ => .fail
def sp_containsR : List Cv → List Obj' → Tree
  | [.one (.ro (.sl 2 (.int .i64)) l), .one (.pf [.sl 2 (.int .i64)] .bool f)], [] => .need (l.length ≤ 1000 ∧ ∀ x ∈ (l : RowL), (f (x, ())).isSome = true) (.ret (vb ((l : RowL).any (tstR f))) [])
  | _, _ => .fail
theorem getD_memR {l : RowL} {i : Nat} (h : i < l.length) : l.getD i [] ∈ l := by rw [List.getD_eq_getElem?_getD, List.getElem?_eq_getElem h]; exact List.getElem_mem _
theorem getD_eqR {l : RowL} {i : Nat} (h : i < l.length) : l.getD i [] = l[i] := by rw [List.getD_eq_getElem?_getD, List.getElem?_eq_getElem h]; rfl
set_option maxHeartbeats 4000000 in
set_option maxRecDepth 100000 in
theorem good_indexR : Good Try.prog 125 sp_indexR := by
  refine good_ofF Try.func125 rfl _ rfl _ rfl (tab []) (fun X cs os0 K hok hos hK => ?_)
  clear hos; unfold sp_indexR at hK
  split at hK
  case h_2 => exact hK.elim
  rename_i l f
  refine ⟨by simp, by simp, ?_⟩
  simp only [go_sem] at hK hok
  simp (maxSteps := 4000000) only [go_sem, Try.f125, ↓brB_t, ↓brB_f, Nat.reduceAdd, Int.reduceLE, Int.reduceLT, Int.reduceNeg, decide_true, decide_false, Bool.and_self, Nat.succ_eq_add_one, Int.toNat_natCast, Nat.beq_refl, Bool.and_true, Bool.true_and, Bool.false_or, Bool.or_true, List.all_cons, List.all_nil, Nat.reduceMul, Nat.add_zero, Nat.zero_add, List.length_nil, List.length_cons, dite_true, List.nil_append, Nat.reduceBEq, reduceDIte, reduceIte, reduceCtorEq, Bool.or_false, Bool.true_or, Bool.and_false, Bool.false_and, Bool.not_true, Bool.not_false, Option.isSome_some, Option.isSome_none, Option.getD_some, List.getElem?_cons_zero, List.getElem?_cons_succ, eq_self, and_self, List.take_succ_cons, List.take_zero, List.drop_succ_cons, List.drop_zero]
  obtain ⟨⟨hl, hf⟩, hK⟩ := hK
  clear hok
  refine loop_okF (T := tab []) [0, 1, 7, 8] [] (fun i : Nat => ⟨19, [(0, .val (.one (.ro kR l))), (1, .val (.one (.pf [kR] .bool f))), (7, vi (l.length : Nat)), (8, vi i)], []⟩)
    (fun i => i ≤ l.length ∧ ((l : RowL).take i).all (fun x => !tstR f x) = true) (fun i => l.length - i) 0 rfl rfl ⟨Nat.zero_le _, rfl⟩ (fun i hi => ?_)
  obtain ⟨hi, ht⟩ := hi
  simp only [go_sem, ↓brB_t, ↓brB_f, Nat.reduceAdd, Int.reduceLE, Int.reduceLT, Int.reduceNeg, decide_true, decide_false, Bool.and_self, Nat.succ_eq_add_one, Int.toNat_natCast, Nat.beq_refl, Bool.and_true, Bool.true_and, Bool.false_or, Bool.or_true, List.all_cons, List.all_nil, Nat.reduceMul, Nat.add_zero, Nat.zero_add, List.length_nil, List.length_cons, dite_true, List.nil_append, Nat.reduceBEq, reduceDIte, reduceIte, reduceCtorEq, Bool.or_false, Bool.true_or, Bool.and_false, Bool.false_and, Bool.not_true, Bool.not_false, Option.isSome_some, Option.isSome_none, Option.getD_some, List.getElem?_cons_zero, List.getElem?_cons_succ, eq_self, and_self, List.take_succ_cons, List.take_zero, List.drop_succ_cons, List.drop_zero]
  refine brB_intro (fun h1 => ?_) (fun h1 => ret0 ?_)
  · have h1 := of_decide_eq_true h1
    have h1 : i < l.length := by omega
    refine ⟨⟨by omega, by omega⟩, hf _ (getD_memR h1), brB_intro (fun h2 => ret0 ?_) (fun h2 => ⟨i + 1, [], ⟨by omega, ?_⟩, by omega, rfl, ?_⟩)⟩
    · have e : idxR (tstR f) l = i := by
        have : List.findIdx? (tstR f) l = some i := by
          rw [List.findIdx?_eq_some_iff_getElem]
          refine ⟨h1, by rw [← getD_eqR h1]; exact h2, fun j hj => ?_⟩
          have := List.all_eq_true.1 ht l[j] (by rw [List.mem_take_iff_getElem]; exact ⟨j, by omega, rfl⟩)
          simpa using this
        rw [idxR, this]
      rw [e] at hK; exact hK
    · rw [List.take_succ_eq_append_getElem h1, List.all_append, ht, ← getD_eqR h1]
      simp only [List.all_cons, List.all_nil, Bool.and_true, Bool.true_and, Bool.not_eq_true']
      exact h2
    · rw [w64_s (n := l.length) h1 (by omega)]; rfl
  · have h1 := of_decide_eq_false h1
    have e : idxR (tstR f) l = -1 := by
      have : List.findIdx? (tstR f) l = none := by
        rw [List.findIdx?_eq_none_iff]
        intro x hx
        rw [List.take_of_length_le (by omega)] at ht
        simpa using List.all_eq_true.1 ht x hx
      rw [idxR, this]
    rw [e] at hK; exact hK
def c_indexR : Ctr Try.prog := ⟨125, ent Try.func125 rfl rfl, [], sp_indexR, good_indexR, []⟩
@[go_sem] theorem c_indexR_f : c_indexR.f = 125 := rfl
@[go_sem] theorem c_indexR_ms : c_indexR.ms = [] := rfl
@[go_sem] theorem c_indexR_sp : c_indexR.spec = sp_indexR := rfl
@[go_sem] theorem c_indexR_fz : c_indexR.fz = [] := rfl
attribute [go_sem] sp_indexR
set_option maxHeartbeats 4000000 in
set_option maxRecDepth 100000 in
theorem good_containsR : Good Try.prog 113 sp_containsR := by
  refine good_ofF Try.func113 rfl _ rfl _ rfl (tab [c_indexR]) (fun X cs os0 K hok hos hK => ?_)
  clear hos; unfold sp_containsR at hK
  split at hK
  case h_2 => exact hK.elim
  rename_i l f
  refine ⟨by simp, by simp, ?_⟩
  simp only [go_sem] at hK hok
  simp (maxSteps := 4000000) only [go_sem, Try.f113, ↓brB_t, ↓brB_f, Nat.reduceAdd, Int.reduceLE, Int.reduceLT, Int.reduceNeg, decide_true, decide_false, Bool.and_self, Nat.succ_eq_add_one, Int.toNat_natCast, Nat.beq_refl, Bool.and_true, Bool.true_and, Bool.false_or, Bool.or_true, List.all_cons, List.all_nil, Nat.reduceMul, Nat.add_zero, Nat.zero_add, List.length_nil, List.length_cons, dite_true, List.nil_append, Nat.reduceBEq, reduceDIte, reduceIte, reduceCtorEq, Bool.or_false, Bool.true_or, Bool.and_false, Bool.false_and, Bool.not_true, Bool.not_false, Option.isSome_some, Option.isSome_none, Option.getD_some, List.getElem?_cons_zero, List.getElem?_cons_succ, eq_self, and_self, List.take_succ_cons, List.take_zero, List.drop_succ_cons, List.drop_zero]
  obtain ⟨hf, hK⟩ := hK
  clear hok
  refine ⟨hf, ret0 ?_⟩
  have e : decide (0 ≤ idxR (tstR f) l) = (l : RowL).any (tstR f) := by
    unfold idxR
    cases h : List.findIdx? (tstR f) l with
    | none =>
      rw [List.findIdx?_eq_none_iff] at h
      symm
      simpa using h
    | some j =>
      rw [List.findIdx?_eq_some_iff_getElem] at h
      obtain ⟨h1, h2, _⟩ := h
      have : (l : RowL).any (tstR f) = true := List.any_eq_true.2 ⟨_, List.getElem_mem h1, h2⟩
      rw [this]; simp
  rw [← e] at hK; exact hK
def c_containsR : Ctr Try.prog := ⟨113, ent Try.func113 rfl rfl, [], sp_containsR, good_containsR, []⟩
@[go_sem] theorem c_containsR_f : c_containsR.f = 113 := rfl
@[go_sem] theorem c_containsR_ms : c_containsR.ms = [] := rfl
@[go_sem] theorem c_containsR_sp : c_containsR.spec = sp_containsR := rfl
@[go_sem] theorem c_containsR_fz : c_containsR.fz = [] := rfl
attribute [go_sem] sp_containsR
def sp_inv1 : List Cv → List Obj' → Tree
  | [.one (.ro (.int .i64) w)], [] => .ret (vb (!isW w)) []
  | _, _ => .fail
set_option maxHeartbeats 4000000 in
set_option maxRecDepth 100000 in
theorem good_inv1 : Good Try.prog 114 sp_inv1 := by
  refine good_ofF Try.func114 rfl _ rfl _ rfl (tab [c_IsWord]) (fun X cs os0 K hok hos hK => ?_)
  clear hos; unfold sp_inv1 at hK
  split at hK
  case h_2 => exact hK.elim
  rename_i w
  refine ⟨by simp, by simp, ?_⟩
  simp only [go_sem] at hK hok
  simp (maxSteps := 4000000) only [go_sem, Try.f114, ↓brB_t, ↓brB_f, Nat.reduceAdd, Int.reduceLE, Int.reduceLT, Int.reduceNeg, decide_true, decide_false, Bool.and_self, Nat.succ_eq_add_one, Int.toNat_natCast, Nat.beq_refl, Bool.and_true, Bool.true_and, Bool.false_or, Bool.or_true, List.all_cons, List.all_nil, Nat.reduceMul, Nat.add_zero, Nat.zero_add, List.length_nil, List.length_cons, dite_true, List.nil_append, Nat.reduceBEq, reduceDIte, reduceIte, reduceCtorEq, Bool.or_false, Bool.true_or, Bool.and_false, Bool.false_and, Bool.not_true, Bool.not_false, Option.isSome_some, Option.isSome_none, Option.getD_some, List.getElem?_cons_zero, List.getElem?_cons_succ, eq_self, and_self, List.take_succ_cons, List.take_zero, List.drop_succ_cons, List.drop_zero]
  exact ret0 hK
def p_inv1 : PF0 Try.prog := ⟨114, entB Try.func114 rfl rfl, [kR], .bool, fun x => some !(isW x.1), sp_inv1, good_inv1, fun xs y h K hK => by injection h with h; subst h; exact hK⟩
@[go_sem] theorem p_inv1_f : p_inv1.f = 114 := rfl
@[go_sem] theorem p_inv1_v : Rv.val (.one (.pf p_inv1.ks p_inv1.r p_inv1.g)) = Rv.val (.one (.pf [kR] .bool fun x => some !(isW x.1))) := rfl
def sp_invalid : List Cv → List Obj' → Tree
  | [.one (.ro (.sl 2 (.int .i64)) l)], [] => .need (l.length ≤ 1000) (.ret (vi (if (l : RowL).any (fun x => !isW x) then 1 else 0)) [])
  | _, _ => .fail
set_option maxHeartbeats 4000000 in
set_option maxRecDepth 100000 in
theorem good_invalid : Good Try.prog 67 sp_invalid := by
  refine good_ofF Try.func67 rfl _ rfl _ rfl (tab [c_containsR] [p_inv1]) (fun X cs os0 K hok hos hK => ?_)
  clear hos; unfold sp_invalid at hK
  split at hK
  case h_2 => exact hK.elim
  rename_i l
  refine ⟨by simp, by simp, ?_⟩
  simp only [go_sem] at hK hok
  simp (maxSteps := 4000000) only [go_sem, Try.f67, ↓brB_t, ↓brB_f, Nat.reduceAdd, Int.reduceLE, Int.reduceLT, Int.reduceNeg, decide_true, decide_false, Bool.and_self, Nat.succ_eq_add_one, Int.toNat_natCast, Nat.beq_refl, Bool.and_true, Bool.true_and, Bool.false_or, Bool.or_true, List.all_cons, List.all_nil, Nat.reduceMul, Nat.add_zero, Nat.zero_add, List.length_nil, List.length_cons, dite_true, List.nil_append, Nat.reduceBEq, reduceDIte, reduceIte, reduceCtorEq, Bool.or_false, Bool.true_or, Bool.and_false, Bool.false_and, Bool.not_true, Bool.not_false, Option.isSome_some, Option.isSome_none, Option.getD_some, List.getElem?_cons_zero, List.getElem?_cons_succ, eq_self, and_self, List.take_succ_cons, List.take_zero, List.drop_succ_cons, List.drop_zero]
  obtain ⟨h1, hK⟩ := hK
  clear hok
  refine ⟨⟨h1, fun _ _ => trivial⟩, brB_intro (fun h2 => ret0 ?_) (fun h2 => ret0 ?_)⟩
  · have h2 : (l : RowL).any (fun x => !isW x) = true := h2
    rw [if_pos h2] at hK; exact hK
  · have h2 : (l : RowL).any (fun x => !isW x) = false := h2
    rw [if_neg (by rw [h2]; decide)] at hK; exact hK
def c_invalid : Ctr Try.prog := ⟨67, ent Try.func67 rfl rfl, [], sp_invalid, good_invalid, []⟩
@[go_sem] theorem c_invalid_f : c_invalid.f = 67 := rfl
@[go_sem] theorem c_invalid_ms : c_invalid.ms = [] := rfl
@[go_sem] theorem c_invalid_sp : c_invalid.spec = sp_invalid := rfl
@[go_sem] theorem c_invalid_fz : c_invalid.fz = [] := rfl
attribute [go_sem] sp_invalid
def jwR (a b : List Int) : List Int × Int := if isW a && isW b then (if 12 < a.length + b.length then ([], 3) else (joL a b, 0)) else ([], 1)
def sp_jw : List Cv → List Obj' → Tree
  | [.one (.ro (.int .i64) a), .one (.ro (.int .i64) b)], [] => .need (a.length ≤ 1000 ∧ b.length ≤ 1000) (resU (jwR a b))
  | _, _ => .fail
set_option maxHeartbeats 4000000 in
set_option maxRecDepth 100000 in
theorem good_jwI : Good Try.prog 15 sp_jw := by
  refine good_ofF Try.func15 rfl _ rfl _ rfl (tab [c_invalid, c_joinI]) (fun X cs os0 K hok hos hK => ?_)
  clear hos; unfold sp_jw at hK
  split at hK
  case h_2 => exact hK.elim
  rename_i a b
  refine ⟨by simp, by simp, ?_⟩
  simp only [go_sem] at hK hok
  simp (maxSteps := 4000000) only [go_sem, Try.f15, ↓brB_t, ↓brB_f, Nat.reduceAdd, Int.reduceLE, Int.reduceLT, Int.reduceNeg, decide_true, decide_false, Bool.and_self, Nat.succ_eq_add_one, Int.toNat_natCast, Nat.beq_refl, Bool.and_true, Bool.true_and, Bool.false_or, Bool.or_true, List.all_cons, List.all_nil, Nat.reduceMul, Nat.add_zero, Nat.zero_add, List.length_nil, List.length_cons, dite_true, List.nil_append, Nat.reduceBEq, reduceDIte, reduceIte, reduceCtorEq, Bool.or_false, Bool.true_or, Bool.and_false, Bool.false_and, Bool.not_true, Bool.not_false, Option.isSome_some, Option.isSome_none, Option.getD_some, List.getElem?_cons_zero, List.getElem?_cons_succ, eq_self, and_self, List.take_succ_cons, List.take_zero, List.drop_succ_cons, List.drop_zero]
  obtain ⟨⟨h1, h2⟩, hK⟩ := hK
  clear hok
  have err : ∀ {c : Int}, jwR a b = ([], c) → K (.tup [.one (.own 0), .one (.v (.int .i64 c))]) [rwi []] := fun e => by rw [e] at hK; exact hK
  refine ⟨by decide, ?_⟩
  cases ha : isW a <;> cases hb : isW b
  · exact brB_intro (fun _ => retM [⟨.reg 4 0, 16, t64, .int .i64⟩] rfl (retN [16] rfl (err (by rw [jwR, ha, hb]; rfl)))) (fun h => absurd h (by simp [ha, hb]))
  · exact brB_intro (fun _ => retM [⟨.reg 4 0, 16, t64, .int .i64⟩] rfl (retN [16] rfl (err (by rw [jwR, ha, hb]; rfl)))) (fun h => absurd h (by simp [ha, hb]))
  · exact brB_intro (fun _ => retM [⟨.reg 4 0, 16, t64, .int .i64⟩] rfl (retN [16] rfl (err (by rw [jwR, ha, hb]; rfl)))) (fun h => absurd h (by simp [ha, hb]))
  · have la := y_len ha
    have lb := y_len hb
    refine brB_intro (fun h => absurd h (by simp [ha, hb])) (fun _ => ?_)
    rw [show w64 ((a.length : Int) + (b.length : Int)) = ((a.length + b.length : Nat) : Int) by rw [w64_id (by omega) (by omega)]; omega]
    refine brB_intro (fun h3 => retM [⟨.reg 4 0, 16, t64, .int .i64⟩] rfl (retN [16] rfl (err (by rw [jwR, ha, hb, if_pos (by rfl), if_pos (by have := of_decide_eq_true h3; omega)])))) (fun h3 => ?_)
    have h3 := of_decide_eq_false h3
    have er : jwR a b = (joL a b, 0) := by rw [jwR, ha, hb, if_pos (by rfl), if_neg (by omega)]
    rw [er] at hK
    exact ⟨⟨by omega, by omega⟩, retN [352] rfl hK⟩
def c_jwI : Ctr Try.prog := ⟨15, ent Try.func15 rfl rfl, [], sp_jw, good_jwI, []⟩
@[go_sem] theorem c_jwI_f : c_jwI.f = 15 := rfl
@[go_sem] theorem c_jwI_ms : c_jwI.ms = [] := rfl
@[go_sem] theorem c_jwI_sp : c_jwI.spec = sp_jw := rfl
@[go_sem] theorem c_jwI_fz : c_jwI.fz = [] := rfl
attribute [go_sem] sp_jw
set_option maxHeartbeats 4000000 in
set_option maxRecDepth 100000 in
theorem good_jwS : Good Try.prog 16 sp_jw := by
  refine good_ofF Try.func16 rfl _ rfl _ rfl (tab [c_l01Is, c_joinS]) (fun X cs os0 K hok hos hK => ?_)
  clear hos; unfold sp_jw at hK
  split at hK
  case h_2 => exact hK.elim
  rename_i a b
  refine ⟨by simp, by simp, ?_⟩
  simp only [go_sem] at hK hok
  simp (maxSteps := 4000000) only [go_sem, Try.f16, ↓brB_t, ↓brB_f, Nat.reduceAdd, Int.reduceLE, Int.reduceLT, Int.reduceNeg, decide_true, decide_false, Bool.and_self, Nat.succ_eq_add_one, Int.toNat_natCast, Nat.beq_refl, Bool.and_true, Bool.true_and, Bool.false_or, Bool.or_true, List.all_cons, List.all_nil, Nat.reduceMul, Nat.add_zero, Nat.zero_add, List.length_nil, List.length_cons, dite_true, List.nil_append, Nat.reduceBEq, reduceDIte, reduceIte, reduceCtorEq, Bool.or_false, Bool.true_or, Bool.and_false, Bool.false_and, Bool.not_true, Bool.not_false, Option.isSome_some, Option.isSome_none, Option.getD_some, List.getElem?_cons_zero, List.getElem?_cons_succ, eq_self, and_self, List.take_succ_cons, List.take_zero, List.drop_succ_cons, List.drop_zero]
  obtain ⟨⟨h1, h2⟩, hK⟩ := hK
  clear hok
  have err : ∀ {c : Int}, jwR a b = ([], c) → K (.tup [.one (.own 0), .one (.v (.int .i64 c))]) [rwi []] := fun e => by rw [e] at hK; exact hK
  refine brB_intro (fun h => retM [⟨.reg 4 0, 16, t64, .int .i64⟩] rfl (retN [16] rfl (err (by rw [jwR, nb h]; rfl)))) (fun ha => ?_)
  have ha := nb' ha
  refine brB_intro (fun h => retM [⟨.reg 4 0, 16, t64, .int .i64⟩] rfl (retN [16] rfl (err (by rw [jwR, ha, nb h]; rfl)))) (fun hb => ?_)
  have hb := nb' hb
  have la := y_len ha
  have lb := y_len hb
  rw [show w64 ((a.length : Int) + (b.length : Int)) = ((a.length + b.length : Nat) : Int) by rw [w64_id (by omega) (by omega)]; omega]
  refine brB_intro (fun h3 => retM [⟨.reg 4 0, 16, t64, .int .i64⟩] rfl (retN [16] rfl (err (by rw [jwR, ha, hb, if_pos (by rfl), if_pos (by have := of_decide_eq_true h3; omega)])))) (fun h3 => ?_)
  have h3 := of_decide_eq_false h3
  have er : jwR a b = (joL a b, 0) := by rw [jwR, ha, hb, if_pos (by rfl), if_neg (by omega)]
  rw [er] at hK
  exact ⟨⟨by omega, by omega⟩, retN [400] rfl hK⟩
def c_jwS : Ctr Try.prog := ⟨16, ent Try.func16 rfl rfl, [], sp_jw, good_jwS, []⟩
@[go_sem] theorem c_jwS_f : c_jwS.f = 16 := rfl
@[go_sem] theorem c_jwS_ms : c_jwS.ms = [] := rfl
@[go_sem] theorem c_jwS_sp : c_jwS.spec = sp_jw := rfl
@[go_sem] theorem c_jwS_fz : c_jwS.fz = [] := rfl
attribute [go_sem] sp_jw
/-! ### crossings -/
abbrev Tst2 := HT [.int .i64, .int .i64] → Option Kn.bool.T
def tst2 (f : Tst2) (i k : Int) : Bool := (f (i, k, ())).getD false
def prK (f : Tst2) (k : Nat) (m : Nat) : Int := ((List.range m).map fun i : Nat => if tst2 f i k then (1 : Int) else 0).sum
def prN (f : Tst2) (n : Nat) : Int := ((List.range n).map fun k => prK f k k).sum
theorem prK_le (f : Tst2) (k : Nat) : ∀ m, 0 ≤ prK f k m ∧ prK f k m ≤ m
  | 0 => by simp [prK]
  | m + 1 => by
    have := prK_le f k m
    unfold prK at *
    rw [rsum_s]
    split <;> omega
theorem prN_le (f : Tst2) : ∀ n, 0 ≤ prN f n ∧ prN f n ≤ n * n
  | 0 => by simp [prN]
  | n + 1 => by
    have h1 := prN_le f n
    have h2 := prK_le f n n
    have e : prN f (n + 1) = prN f n + prK f n n := rsum_s _ n
    rw [e]
    have : ((n + 1 : Nat) : Int) * ((n + 1 : Nat) : Int) = n * n + 2 * n + 1 := by
      rw [Int.natCast_add, Int.add_mul, Int.mul_add]
      simp; omega
    omega
def sp_pairs : List Cv → List Obj' → Tree
  | [.one (.ro (.int .i64) w), .one (.pf [.int .i64, .int .i64] .bool f)], [] => .need (w.length ≤ 1000 ∧ ∀ i k : Nat, i < w.length / 2 → k < w.length / 2 → (f ((i : Int), (k : Int), ())).isSome = true) (.ret (vi (prN f (w.length / 2))) [])
  | _, _ => .fail
set_option maxHeartbeats 4000000 in
set_option maxRecDepth 100000 in
theorem good_pairs : Good Try.prog 71 sp_pairs := by
  refine good_ofF Try.func71 rfl _ rfl _ rfl (tab [c_chords]) (fun X cs os0 K hok hos hK => ?_)
  clear hos; unfold sp_pairs at hK
  split at hK
  case h_2 => exact hK.elim
  rename_i w f
  refine ⟨by simp, by simp, ?_⟩
  simp only [go_sem] at hK hok
  simp (maxSteps := 4000000) only [go_sem, Try.f71, ↓brB_t, ↓brB_f, Nat.reduceAdd, Int.reduceLE, Int.reduceLT, Int.reduceNeg, decide_true, decide_false, Bool.and_self, Nat.succ_eq_add_one, Int.toNat_natCast, Nat.beq_refl, Bool.and_true, Bool.true_and, Bool.false_or, Bool.or_true, List.all_cons, List.all_nil, Nat.reduceMul, Nat.add_zero, Nat.zero_add, List.length_nil, List.length_cons, dite_true, List.nil_append, Nat.reduceBEq, reduceDIte, reduceIte, reduceCtorEq, Bool.or_false, Bool.true_or, Bool.and_false, Bool.false_and, Bool.not_true, Bool.not_false, Option.isSome_some, Option.isSome_none, Option.getD_some, List.getElem?_cons_zero, List.getElem?_cons_succ, eq_self, and_self, List.take_succ_cons, List.take_zero, List.drop_succ_cons, List.drop_zero]
  obtain ⟨⟨h1, h2⟩, hK⟩ := hK
  clear hok
  generalize hn : w.length / 2 = n at *
  have hn5 : n ≤ 500 := by omega
  have hps := fun k => (show prN f (k + 1) = prN f k + prK f k k from rsum_s _ k)
  refine loop_okF (T := tab [c_chords]) [0, 1, 5, 9, 10] [] (fun k : Nat => ⟨26, [(0, ri w), (1, .val (.one (.pf [.int .i64, .int .i64] .bool f))), (5, vi (prN f k)), (9, vi n), (10, vi k)], []⟩)
    (fun k => k ≤ n) (fun k => n - k) 0 rfl rfl (Nat.zero_le _) (fun k hk => ?_)
  simp only [go_sem, ↓brB_t, ↓brB_f, Nat.reduceAdd, Int.reduceLE, Int.reduceLT, Int.reduceNeg, decide_true, decide_false, Bool.and_self, Nat.succ_eq_add_one, Int.toNat_natCast, Nat.beq_refl, Bool.and_true, Bool.true_and, Bool.false_or, Bool.or_true, List.all_cons, List.all_nil, Nat.reduceMul, Nat.add_zero, Nat.zero_add, List.length_nil, List.length_cons, dite_true, List.nil_append, Nat.reduceBEq, reduceDIte, reduceIte, reduceCtorEq, Bool.or_false, Bool.true_or, Bool.and_false, Bool.false_and, Bool.not_true, Bool.not_false, Option.isSome_some, Option.isSome_none, Option.getD_some, List.getElem?_cons_zero, List.getElem?_cons_succ, eq_self, and_self, List.take_succ_cons, List.take_zero, List.drop_succ_cons, List.drop_zero]
  refine brB_intro (fun h3 => ?_) (fun h3 => ret0 ?_)
  · have h3 := of_decide_eq_true h3
    have hk1 : w64 ((k : Int) + 1) = ((k + 1 : Nat) : Int) := w64_s (n := n) (by omega) (by omega)
    have hb := prN_le f k
    have hb2 : ((k : Nat) : Int) * k ≤ 500 * 500 := by
      have : k * k ≤ 500 * 500 := Nat.mul_le_mul (by omega) (by omega)
      exact_mod_cast this
    refine loop_okF (T := tab [c_chords]) [0, 1, 5, 6, 9, 10, 13, 14] [] (fun i : Nat => ⟨26, [(0, ri w), (1, .val (.one (.pf [.int .i64, .int .i64] .bool f))), (5, vi (prN f k + prK f k i)), (6, vi k), (9, vi n), (10, vi k), (13, vi k), (14, vi i)], []⟩)
      (fun i => i ≤ k) (fun i => k - i) 0 rfl (by rw [show prN f k + prK f k 0 = prN f k from Int.add_zero _]; rfl) (Nat.zero_le _) (fun i hi => ?_)
    have hpk := prK_le f k i
    have hs : prK f k (i + 1) = prK f k i + (if tst2 f i k then 1 else 0) := rsum_s _ i
    simp only [go_sem, ↓brB_t, ↓brB_f, Nat.reduceAdd, Int.reduceLE, Int.reduceLT, Int.reduceNeg, decide_true, decide_false, Bool.and_self, Nat.succ_eq_add_one, Int.toNat_natCast, Nat.beq_refl, Bool.and_true, Bool.true_and, Bool.false_or, Bool.or_true, List.all_cons, List.all_nil, Nat.reduceMul, Nat.add_zero, Nat.zero_add, List.length_nil, List.length_cons, dite_true, List.nil_append, Nat.reduceBEq, reduceDIte, reduceIte, reduceCtorEq, Bool.or_false, Bool.true_or, Bool.and_false, Bool.false_and, Bool.not_true, Bool.not_false, Option.isSome_some, Option.isSome_none, Option.getD_some, List.getElem?_cons_zero, List.getElem?_cons_succ, eq_self, and_self, List.take_succ_cons, List.take_zero, List.drop_succ_cons, List.drop_zero]
    refine brB_intro (fun h4 => ?_) (fun h4 => ?_)
    · have h4 := of_decide_eq_true h4
      rw [show w64 ((i : Int) + 1) = ((i + 1 : Nat) : Int) from w64_s (n := k) (by omega) (by omega)]
      refine ⟨h2 i k (by omega) (by omega), brB_intro (fun h5 => ?_) (fun h5 => ?_)⟩
      · rw [if_pos (show tst2 f i k = true from h5)] at hs
        rw [w64_id (by omega) (by omega), show prN f k + prK f k i + 1 = prN f k + prK f k (i + 1) by rw [hs]; omega]
        exact ⟨i + 1, [], by omega, by omega, rfl, rfl⟩
      · rw [if_neg (by rw [show tst2 f i k = false from h5]; decide), Int.add_zero] at hs
        rw [← hs]
        exact ⟨i + 1, [], by omega, by omega, rfl, rfl⟩
    · have h4 := of_decide_eq_false h4
      have e : i = k := by omega
      rw [e, ← hps, hk1]
      exact ⟨k + 1, [], by omega, by omega, rfl, rfl⟩
  · have h3 := of_decide_eq_false h3
    have e : k = n := by omega
    rw [e]; exact hK
def c_pairs : Ctr Try.prog := ⟨71, ent Try.func71 rfl rfl, [], sp_pairs, good_pairs, []⟩
@[go_sem] theorem c_pairs_f : c_pairs.f = 71 := rfl
@[go_sem] theorem c_pairs_ms : c_pairs.ms = [] := rfl
@[go_sem] theorem c_pairs_sp : c_pairs.spec = sp_pairs := rfl
@[go_sem] theorem c_pairs_fz : c_pairs.fz = [] := rfl
attribute [go_sem] sp_pairs
def ccP (ys : HC [.d kR]) (xs : HT [Kn.int .i64, Kn.int .i64]) : Option Bool := if (ys.1 : List Int).length < 1099511627776 ∧ (ys.1 : List Int).count xs.1 = 2 ∧ (ys.1 : List Int).count xs.2.1 = 2 then some (crB ys.1 xs.1 xs.2.1) else none
def sp_cc1 : List Cv → List Obj' → Tree
  | [.one (.v (.int .i64 i)), .one (.v (.int .i64 k)), .one (.elr (.sl 2 (.int .i64)) [w] 0 0)], [] => .need ((w : List Int).length < 1099511627776 ∧ (w : List Int).count i = 2 ∧ (w : List Int).count k = 2) (.ret (vb (crB w i k)) [])
  | _, _ => .fail
set_option maxHeartbeats 4000000 in
set_option maxRecDepth 100000 in
theorem good_cc1 : Good Try.prog 72 sp_cc1 := by
  refine good_ofF Try.func72 rfl _ rfl _ rfl (tab [c_cross]) (fun X cs os0 K hok hos hK => ?_)
  clear hos; unfold sp_cc1 at hK
  split at hK
  case h_2 => exact hK.elim
  rename_i i k w
  refine ⟨by simp, by simp, ?_⟩
  simp only [go_sem] at hK hok
  simp (maxSteps := 4000000) only [go_sem, Try.f72, ↓brB_t, ↓brB_f, Nat.reduceAdd, Int.reduceLE, Int.reduceLT, Int.reduceNeg, decide_true, decide_false, Bool.and_self, Nat.succ_eq_add_one, Int.toNat_natCast, Nat.beq_refl, Bool.and_true, Bool.true_and, Bool.false_or, Bool.or_true, List.all_cons, List.all_nil, Nat.reduceMul, Nat.add_zero, Nat.zero_add, List.length_nil, List.length_cons, dite_true, List.nil_append, Nat.reduceBEq, reduceDIte, reduceIte, reduceCtorEq, Bool.or_false, Bool.true_or, Bool.and_false, Bool.false_and, Bool.not_true, Bool.not_false, Option.isSome_some, Option.isSome_none, Option.getD_some, List.getElem?_cons_zero, List.getElem?_cons_succ, eq_self, and_self, List.take_succ_cons, List.take_zero, List.drop_succ_cons, List.drop_zero]
  exact ⟨hK.1, ret0 hK.2⟩
def p_cc1 : PFn Try.prog := ⟨72, entB Try.func72 rfl rfl, [.d kR], [.int .i64, .int .i64], .bool, ccP, sp_cc1, good_cc1, fun ys xs y h K hK => by
  unfold ccP at h
  split at h
  · rename_i hc
    injection h with h; subst h
    exact ⟨hc, hK⟩
  · cases h⟩
@[go_sem] theorem p_cc1_f : p_cc1.f = 72 := rfl
@[go_sem] theorem p_cc1_caps (args : List Rv) : (capsM p_cc1.cks args fun ys => .ret (.val (.one (.pf p_cc1.ks p_cc1.r (p_cc1.g ys))))) = capsM [.d kR] args fun ys => .ret (.val (.one (.pf [.int .i64, .int .i64] .bool (ccP ys)))) := rfl
def ccR (w : List Int) : Int × Int := if isW w then (cN w (w.length / 2), 0) else (0, 1)
def sp_cc : List Cv → List Obj' → Tree
  | [.one (.ro (.int .i64) w)], [] => .ret (.tup [.one (.v (.int .i64 (ccR w).1)), .one (.v (.int .i64 (ccR w).2))]) []
  | _, _ => .fail
theorem pr_cN {w : List Int} (hw : isW w = true) : prN (ccP (w, ())) (w.length / 2) = cN w (w.length / 2) := by
  have hl := y_len hw
  have h : ∀ n, n ≤ w.length / 2 → prN (ccP (w, ())) n = cN w n := fun n => by
    induction n with
    | zero => intro _; rfl
    | succ n ih =>
      intro hn
      have e : prN (ccP (w, ())) (n + 1) = prN (ccP (w, ())) n + prK (ccP (w, ())) n n := rsum_s _ n
      rw [e, cN_s, ih (by omega)]
      congr 1
      refine rsum_eq fun i hi => ?_
      have e : tst2 (ccP (w, ())) (i : Int) (n : Int) = crB w i n := by
        unfold tst2 ccP
        rw [if_pos ⟨by show w.length < _; omega, y_two hw (i := (i : Int)) (by omega) (by omega), y_two hw (i := (n : Int)) (by omega) (by omega)⟩]
        rfl
      show (if tst2 (ccP (w, ())) (i : Int) (n : Int) then (1 : Int) else 0) = crI w i n
      rw [e]; rfl
  exact h _ (Nat.le_refl _)
set_option maxHeartbeats 4000000 in
set_option maxRecDepth 100000 in
theorem good_ccI : Good Try.prog 17 sp_cc := by
  refine good_ofF Try.func17 rfl _ rfl _ rfl (tab [c_IsWord, c_pairs] [] [p_cc1]) (fun X cs os0 K hok hos hK => ?_)
  clear hos; unfold sp_cc at hK
  split at hK
  case h_2 => exact hK.elim
  rename_i w
  refine ⟨by simp, by simp, ?_⟩
  simp only [go_sem] at hK hok
  simp (maxSteps := 4000000) only [go_sem, Try.f17, ↓brB_t, ↓brB_f, Nat.reduceAdd, Int.reduceLE, Int.reduceLT, Int.reduceNeg, decide_true, decide_false, Bool.and_self, Nat.succ_eq_add_one, Int.toNat_natCast, Nat.beq_refl, Bool.and_true, Bool.true_and, Bool.false_or, Bool.or_true, List.all_cons, List.all_nil, Nat.reduceMul, Nat.add_zero, Nat.zero_add, List.length_nil, List.length_cons, dite_true, List.nil_append, Nat.reduceBEq, reduceDIte, reduceIte, reduceCtorEq, Bool.or_false, Bool.true_or, Bool.and_false, Bool.false_and, Bool.not_true, Bool.not_false, Option.isSome_some, Option.isSome_none, Option.getD_some, List.getElem?_cons_zero, List.getElem?_cons_succ, eq_self, and_self, List.take_succ_cons, List.take_zero, List.drop_succ_cons, List.drop_zero]
  clear hok
  refine brB_intro (fun h1 => ret0 ?_) (fun h1 => ?_)
  · have e : ccR w = (0, 1) := by rw [ccR, if_neg (by rw [nb h1]; decide)]
    rw [e] at hK; exact hK
  · have h1 := nb' h1
    have hl := y_len h1
    have e : ccR w = (cN w (w.length / 2), 0) := by rw [ccR, if_pos h1]
    rw [e, ← pr_cN h1] at hK
    refine ⟨⟨by omega, fun i k hi hk => ?_⟩, ret0 hK⟩
    unfold ccP
    rw [if_pos ⟨by show w.length < _; omega, y_two h1 (i := (i : Int)) (by omega) (by omega), y_two h1 (i := (k : Int)) (by omega) (by omega)⟩]
    rfl
def c_ccI : Ctr Try.prog := ⟨17, ent Try.func17 rfl rfl, [], sp_cc, good_ccI, []⟩
@[go_sem] theorem c_ccI_f : c_ccI.f = 17 := rfl
@[go_sem] theorem c_ccI_ms : c_ccI.ms = [] := rfl
@[go_sem] theorem c_ccI_sp : c_ccI.spec = sp_cc := rfl
@[go_sem] theorem c_ccI_fz : c_ccI.fz = [] := rfl
attribute [go_sem] sp_cc
/-! ### CrossingRows -/
def crR (w : List Int) : RowL × Int := if isW w then (crRows w (w.length / 2) (w.length / 2), 0) else ([], 1)
def sp_cr : List Cv → List Obj' → Tree
  | [.one (.ro (.int .i64) w)], [] => .ret (.tup [.one (.own 0), .one (.v (.int .i64 (crR w).2))]) [.drow 27 (.sl 2 (.int .i64)) (crR w).1]
  | _, _ => .fail
set_option maxHeartbeats 4000000 in
set_option maxRecDepth 100000 in
theorem good_crS : Good Try.prog 23 sp_cr := by
  refine good_ofF Try.func23 rfl _ rfl _ rfl (tab [c_l01Is, c_l01Cross]) (fun X cs os0 K hok hos hK => ?_)
  clear hos; unfold sp_cr at hK
  split at hK
  case h_2 => exact hK.elim
  rename_i w
  refine ⟨by simp, by simp, ?_⟩
  simp only [go_sem] at hK hok
  simp (maxSteps := 4000000) only [go_sem, Try.f23, ↓brB_t, ↓brB_f, Nat.reduceAdd, Int.reduceLE, Int.reduceLT, Int.reduceNeg, decide_true, decide_false, Bool.and_self, Nat.succ_eq_add_one, Int.toNat_natCast, Nat.beq_refl, Bool.and_true, Bool.true_and, Bool.false_or, Bool.or_true, List.all_cons, List.all_nil, Nat.reduceMul, Nat.add_zero, Nat.zero_add, List.length_nil, List.length_cons, dite_true, List.nil_append, Nat.reduceBEq, reduceDIte, reduceIte, reduceCtorEq, Bool.or_false, Bool.true_or, Bool.and_false, Bool.false_and, Bool.not_true, Bool.not_false, Option.isSome_some, Option.isSome_none, Option.getD_some, List.getElem?_cons_zero, List.getElem?_cons_succ, eq_self, and_self, List.take_succ_cons, List.take_zero, List.drop_succ_cons, List.drop_zero]
  clear hok
  refine brB_intro (fun h1 => ?_) (fun h1 => ?_)
  · have e : crR w = ([], 1) := by rw [crR, if_neg (by rw [nb h1]; decide)]
    rw [e] at hK
    exact retM [⟨.reg 2 0, 16, 27, kR⟩] rfl (retN [16] rfl hK)
  · have e : crR w = (crRows w (w.length / 2) (w.length / 2), 0) := by rw [crR, if_pos (nb' h1)]
    rw [e] at hK
    exact ⟨nb' h1, retN [144] rfl hK⟩
def c_crS : Ctr Try.prog := ⟨23, ent Try.func23 rfl rfl, [], sp_cr, good_crS, []⟩
@[go_sem] theorem c_crS_f : c_crS.f = 23 := rfl
@[go_sem] theorem c_crS_ms : c_crS.ms = [] := rfl
@[go_sem] theorem c_crS_sp : c_crS.spec = sp_cr := rfl
@[go_sem] theorem c_crS_fz : c_crS.fz = [] := rfl
attribute [go_sem] sp_cr
def sp_rows : List Cv → List Obj' → Tree
  | [.one (.ro (.int .i64) w)], [] => .need (isW w = true) (.ret (.val (.one (.own 0))) [.drow 27 (.sl 2 (.int .i64)) (crRows w (w.length / 2) (w.length / 2))])
  | _, _ => .fail
set_option maxHeartbeats 4000000 in
set_option maxRecDepth 100000 in
theorem good_rows : Good Try.prog 80 sp_rows := by
  refine good_ofF Try.func80 rfl _ rfl _ rfl (tab [c_chords, c_cross]) (fun X cs os0 K hok hos hK => ?_)
  clear hos; unfold sp_rows at hK
  split at hK
  case h_2 => exact hK.elim
  rename_i w
  refine ⟨by simp, by simp, ?_⟩
  simp only [go_sem] at hK hok
  simp (maxSteps := 4000000) only [go_sem, Try.f80, ↓brB_t, ↓brB_f, Nat.reduceAdd, Int.reduceLE, Int.reduceLT, Int.reduceNeg, decide_true, decide_false, Bool.and_self, Nat.succ_eq_add_one, Int.toNat_natCast, Nat.beq_refl, Bool.and_true, Bool.true_and, Bool.false_or, Bool.or_true, List.all_cons, List.all_nil, Nat.reduceMul, Nat.add_zero, Nat.zero_add, List.length_nil, List.length_cons, dite_true, List.nil_append, Nat.reduceBEq, reduceDIte, reduceIte, reduceCtorEq, Bool.or_false, Bool.true_or, Bool.and_false, Bool.false_and, Bool.not_true, Bool.not_false, Option.isSome_some, Option.isSome_none, Option.getD_some, List.getElem?_cons_zero, List.getElem?_cons_succ, eq_self, and_self, List.take_succ_cons, List.take_zero, List.drop_succ_cons, List.drop_zero]
  obtain ⟨h1, hK⟩ := hK
  clear hok
  have hl := y_len h1
  have two := fun (j : Nat) (hj : j < w.length / 2) => y_two h1 (i := (j : Int)) (by omega) (by omega)
  generalize hn : w.length / 2 = n at *
  refine loop_okF (T := tab [c_chords, c_cross]) [0, 3, 4, 11, 12] [(16, 176)] (fun i : Nat => ⟨35, [(0, ri w), (3, vi n), (4, ow 16), (11, vi n), (12, vi i)], [(16, .drow 27 (.sl 2 (.int .i64)) (crRows w n i))]⟩)
    (fun i => i ≤ n) (fun i => n - i) 0 rfl rfl (Nat.zero_le _) (fun i hi => ?_)
  simp only [go_sem, ↓brB_t, ↓brB_f, Nat.reduceAdd, Int.reduceLE, Int.reduceLT, Int.reduceNeg, decide_true, decide_false, Bool.and_self, Nat.succ_eq_add_one, Int.toNat_natCast, Nat.beq_refl, Bool.and_true, Bool.true_and, Bool.false_or, Bool.or_true, List.all_cons, List.all_nil, Nat.reduceMul, Nat.add_zero, Nat.zero_add, List.length_nil, List.length_cons, dite_true, List.nil_append, Nat.reduceBEq, reduceDIte, reduceIte, reduceCtorEq, Bool.or_false, Bool.true_or, Bool.and_false, Bool.false_and, Bool.not_true, Bool.not_false, Option.isSome_some, Option.isSome_none, Option.getD_some, List.getElem?_cons_zero, List.getElem?_cons_succ, eq_self, and_self, List.take_succ_cons, List.take_zero, List.drop_succ_cons, List.drop_zero]
  refine brB_intro (fun h2 => ?_) (fun h2 => retN [16] rfl ?_)
  · have h2 := of_decide_eq_true h2
    have hw1 : w64 ((i : Int) + 1) = ((i + 1 : Nat) : Int) := w64_s (n := n) (by omega) (by omega)
    refine ⟨⟨by omega, by omega, trivial⟩, ?_⟩
    refine loop_okF (T := tab [c_chords, c_cross]) [0, 3, 4, 5, 6, 11, 12, 17, 18] [(16, 16), (17, 272)] (fun k : Nat => ⟨35, [(0, ri w), (3, vi n), (4, ow 16), (5, vi i), (6, ow 17), (11, vi n), (12, vi i), (17, vi n), (18, vi k)], [(16, .drow 27 (.sl 2 (.int .i64)) (crRows w n i)), (17, rwi ((List.range n).map (midY (crI w i) k)))]⟩)
      (fun k => k ≤ n) (fun k => n - k) 0 rfl (by rw [← midY_0]; rfl) (Nat.zero_le _) (fun k hk => ?_)
    simp only [go_sem, ↓brB_t, ↓brB_f, Nat.reduceAdd, Int.reduceLE, Int.reduceLT, Int.reduceNeg, decide_true, decide_false, Bool.and_self, Nat.succ_eq_add_one, Int.toNat_natCast, Nat.beq_refl, Bool.and_true, Bool.true_and, Bool.false_or, Bool.or_true, List.all_cons, List.all_nil, Nat.reduceMul, Nat.add_zero, Nat.zero_add, List.length_nil, List.length_cons, dite_true, List.nil_append, Nat.reduceBEq, reduceDIte, reduceIte, reduceCtorEq, Bool.or_false, Bool.true_or, Bool.and_false, Bool.false_and, Bool.not_true, Bool.not_false, Option.isSome_some, Option.isSome_none, Option.getD_some, List.getElem?_cons_zero, List.getElem?_cons_succ, eq_self, and_self, List.take_succ_cons, List.take_zero, List.drop_succ_cons, List.drop_zero]
    rw [List.length_map, List.length_range]
    refine brB_intro (fun h3 => ?_) (fun h3 => ?_)
    · have h3 := of_decide_eq_true h3
      have hk1 : w64 ((k : Int) + 1) = ((k + 1 : Nat) : Int) := w64_s (n := n) (by omega) (by omega)
      rw [hk1]
      refine ⟨⟨by omega, two i (by omega), two k (by omega)⟩, brB_intro (fun h5 => ?_) (fun h5 => ?_)⟩
      · have e : crI w i k = 1 := by rw [crI, h5]; rfl
        rw [midY_1 e]
        exact ⟨⟨by omega, by omega⟩, k + 1, [(16, 16), (17, 17)], by omega, by omega, rfl, rfl⟩
      · have e : crI w i k = 0 := by rw [crI, h5]; rfl
        rw [midY_2 e]
        exact ⟨k + 1, [(16, 16), (17, 17)], by omega, by omega, rfl, rfl⟩
    · have h3 := of_decide_eq_false h3
      have e : k = n := by omega
      subst e
      rw [midY_end, hw1, show crRows w k i ++ [List.map (crI w i) (List.range k)] = crRows w k (i + 1) by rw [crRows, crRows, List.range_succ, List.map_append]; rfl]
      exact ⟨by rw [crRows, List.length_map, List.length_range]; omega, i + 1, [(16, 528)], by omega, by omega, rfl, rfl⟩
  · have h2 := of_decide_eq_false h2
    have e : i = n := by omega
    rw [e]; exact hK
def c_rows : Ctr Try.prog := ⟨80, ent Try.func80 rfl rfl, [], sp_rows, good_rows, []⟩
@[go_sem] theorem c_rows_f : c_rows.f = 80 := rfl
@[go_sem] theorem c_rows_ms : c_rows.ms = [] := rfl
@[go_sem] theorem c_rows_sp : c_rows.spec = sp_rows := rfl
@[go_sem] theorem c_rows_fz : c_rows.fz = [] := rfl
attribute [go_sem] sp_rows
set_option maxHeartbeats 4000000 in
set_option maxRecDepth 100000 in
theorem good_crI : Good Try.prog 22 sp_cr := by
  refine good_ofF Try.func22 rfl _ rfl _ rfl (tab [c_IsWord, c_rows]) (fun X cs os0 K hok hos hK => ?_)
  clear hos; unfold sp_cr at hK
  split at hK
  case h_2 => exact hK.elim
  rename_i w
  refine ⟨by simp, by simp, ?_⟩
  simp only [go_sem] at hK hok
  simp (maxSteps := 4000000) only [go_sem, Try.f22, ↓brB_t, ↓brB_f, Nat.reduceAdd, Int.reduceLE, Int.reduceLT, Int.reduceNeg, decide_true, decide_false, Bool.and_self, Nat.succ_eq_add_one, Int.toNat_natCast, Nat.beq_refl, Bool.and_true, Bool.true_and, Bool.false_or, Bool.or_true, List.all_cons, List.all_nil, Nat.reduceMul, Nat.add_zero, Nat.zero_add, List.length_nil, List.length_cons, dite_true, List.nil_append, Nat.reduceBEq, reduceDIte, reduceIte, reduceCtorEq, Bool.or_false, Bool.true_or, Bool.and_false, Bool.false_and, Bool.not_true, Bool.not_false, Option.isSome_some, Option.isSome_none, Option.getD_some, List.getElem?_cons_zero, List.getElem?_cons_succ, eq_self, and_self, List.take_succ_cons, List.take_zero, List.drop_succ_cons, List.drop_zero]
  clear hok
  refine brB_intro (fun h1 => ?_) (fun h1 => ?_)
  · have e : crR w = ([], 1) := by rw [crR, if_neg (by rw [nb h1]; decide)]
    rw [e] at hK
    exact retM [⟨.reg 2 0, 16, 27, kR⟩] rfl (retN [16] rfl hK)
  · have e : crR w = (crRows w (w.length / 2) (w.length / 2), 0) := by rw [crR, if_pos (nb' h1)]
    rw [e] at hK
    exact ⟨nb' h1, retN [144] rfl hK⟩
def c_crI : Ctr Try.prog := ⟨22, ent Try.func22 rfl rfl, [], sp_cr, good_crI, []⟩
@[go_sem] theorem c_crI_f : c_crI.f = 22 := rfl
@[go_sem] theorem c_crI_ms : c_crI.ms = [] := rfl
@[go_sem] theorem c_crI_sp : c_crI.spec = sp_cr := rfl
@[go_sem] theorem c_crI_fz : c_crI.fz = [] := rfl
attribute [go_sem] sp_cr
end Go.Proofs.Ytbnmjhcokdhjmaa.V
