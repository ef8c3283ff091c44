/- Packed texts of this session's: VI2, VIW, VDP, WRepsOne, KDelR, VDR, VI4, VS1, VS2, VS3, VS6, VW12, VS4, VS5, VWr, VI5, VI6, VS7, PO, VQ. Conditions: in each. -/
import Derived.Test.YthfmlelodmcgkaaGreatProg
import Derived.Test.YthfmlelodmcgkaaGreatZvw0
set_option linter.unusedVariables false
set_option linter.unusedSimpArgs false
set_option linter.unusedSectionVars false
section
namespace Go.Proofs.YthfmlelodmcgkaaGreat.V
open Go
def rotL (w : List Int) (k : Nat) : List Int := Go.Proofs.YthfmlelodmcgkaaGreat.K.normalL (w.drop k ++ w.take k)
theorem rotL_len (w : List Int) (k : Nat) : (rotL w k).length = w.length := by
  rw [rotL, Go.Proofs.YthfmlelodmcgkaaGreat.K.normalL_length, List.length_append, List.length_drop, List.length_take]; omega
def leastF (w : List Int) (n : Nat) : List Int := (List.range n).foldl (fun o k => if lexLt (rotL w k) o then rotL w k else o) w
theorem leastF_s (w : List Int) (n : Nat) : leastF w (n + 1) = if lexLt (rotL w n) (leastF w n) then rotL w n else leastF w n := by
  rw [leastF, List.range_succ, List.foldl_append]; rfl
theorem leastF_len (w : List Int) : ∀ n, (leastF w n).length = w.length
  | 0 => rfl
  | n + 1 => by
    rw [leastF_s]
    split
    · exact rotL_len w n
    · exact leastF_len w n
def leastL (w : List Int) : List Int := leastF w w.length
theorem leastL_len (w : List Int) : (leastL w).length = w.length := leastF_len w _
theorem isW_normal {w : List Int} (h : isW w = true) : Go.Proofs.YthfmlelodmcgkaaGreat.K.normalL w = w := by
  unfold isW at h
  rw [Bool.and_eq_true, Bool.and_eq_true] at h
  exact of_decide_eq_true h.2.2
theorem isW_twice {w : List Int} (h : isW w = true) : Go.Proofs.YthfmlelodmcgkaaGreat.K.twiceL w = true := by
  unfold isW at h
  rw [Bool.and_eq_true, Bool.and_eq_true] at h
  exact h.2.1
theorem isW_l12 {w : List Int} (h : isW w = true) : w.length ≤ 12 := by
  unfold isW at h
  rw [Bool.and_eq_true] at h
  exact of_decide_eq_true h.1
theorem leastF_1 {w : List Int} (h : Go.Proofs.YthfmlelodmcgkaaGreat.K.normalL w = w) : leastF w 1 = w := by
  have e : rotL w 0 = w := by rw [rotL, List.drop_zero, List.take_zero, List.append_nil, h]
  show (if lexLt (rotL w 0) w then rotL w 0 else w) = w
  rw [e]; split <;> rfl
theorem rotL_isW {w : List Int} (h : isW w = true) (k : Nat) : isW (rotL w k) = true := by
  refine normal_isW (by have := isW_l12 h; rw [List.length_append, List.length_drop, List.length_take]; omega) ?_
  have ht := isW_twice h
  unfold Go.Proofs.YthfmlelodmcgkaaGreat.K.twiceL at ht ⊢
  rw [List.all_eq_true] at ht ⊢
  have hp : (w.drop k ++ w.take k).Perm w := (List.perm_append_comm).trans (by rw [List.take_append_drop])
  intro x hx
  rw [hp.count_eq]
  exact ht x (hp.mem_iff.1 hx)
theorem leastF_isW {w : List Int} (h : isW w = true) : ∀ n, isW (leastF w n) = true
  | 0 => h
  | n + 1 => by
    rw [leastF_s]
    split
    · exact rotL_isW h n
    · exact leastF_isW h n
theorem leastL_isW {w : List Int} (h : isW w = true) : isW (leastL w) = true := leastF_isW h _
theorem before_lex {a b : List Int} (h : a.length = b.length) : beforeB a b = lexLt a b := by rw [beforeB, if_pos h]
theorem cmpL_lt {a b : List Int} (h : a.length = b.length) : decide (cmpL a b < 0) = lexLt a b := by
  have := cmpL_lex h
  by_cases e : cmpL a b < 0
  · rw [decide_eq_false (by omega)] at this
    rw [decide_eq_true e]; cases hl : lexLt a b
    · rw [hl] at this; cases this
    · rfl
  · rw [decide_eq_true (by omega)] at this
    rw [decide_eq_false e]; cases hl : lexLt a b
    · rfl
    · rw [hl] at this; cases this
theorem flat2' (a b : List Int) : [a, b].flatten = a ++ b := by simp
theorem sum2' (a b : List Int) : sumLen [a, b] = a.length + b.length := by simp [sumLen]
def sp_rotated : List Cv → List Obj' → Tree
  | [.one (.ro (.int .i64) w), .one (.v (.int .i64 k))], [] => .need (w.length < 1099511627776 ∧ 0 ≤ k ∧ k ≤ (w.length : Int)) (.ret (ri (rotL w k.toNat)) [])
  | _, _ => .fail
set_option maxHeartbeats 4000000 in
set_option maxRecDepth 100000 in
theorem good_rotated : Good Tryz.prog 140 sp_rotated := by
  refine good_ofF Tryz.func140 rfl _ rfl _ rfl (tab [c_concat, c_normal]) (fun X cs os0 K hok hos hK => ?_)
  clear hos; unfold sp_rotated at hK
  split at hK
  case h_2 => exact hK.elim
  rename_i w k
  refine ⟨by simp, by simp, ?_⟩
  simp only [go_sem] at hK hok
  simp (maxSteps := 4000000) only [go_sem, Tryz.f140, ↓brB_t, ↓brB_f, Nat.reduceAdd, Int.reduceLE, Int.reduceLT, Int.reduceNeg, decide_true, decide_false, Bool.and_self, Nat.succ_eq_add_one, Int.toNat_natCast, Nat.beq_refl, Bool.and_true, Bool.true_and, Bool.false_or, Bool.or_true, List.all_cons, List.all_nil, Nat.reduceMul, Nat.add_zero, Nat.zero_add, List.length_nil, List.length_cons, dite_true, List.nil_append, Nat.reduceBEq, reduceDIte, reduceIte, reduceCtorEq, Bool.or_false, Bool.true_or, Bool.and_false, Bool.false_and, Bool.not_true, Bool.not_false, Option.isSome_some, Option.isSome_none, Option.getD_some, List.getElem?_cons_zero, List.getElem?_cons_succ, eq_self, and_self, List.take_succ_cons, List.take_zero, List.drop_succ_cons, List.drop_zero]
  obtain ⟨⟨hl, h0, h1⟩, hK⟩ := hK
  clear hok
  rw [flat2', sum2']
  have l1 : (w.drop k.toNat).length + (w.take k.toNat).length = w.length := by rw [List.length_drop, List.length_take]; omega
  have l2 : (w.drop k.toNat ++ w.take k.toNat).length = w.length := by rw [List.length_append]; exact l1
  exact ⟨⟨h0, h1⟩, ⟨h0, h1⟩, by omega, by omega, by kernel_rfl, retN [] rfl hK⟩
def c_rotated : Ctr Tryz.prog := ⟨140, ent Tryz.func140 rfl rfl, [], sp_rotated, good_rotated, []⟩
@[go_sem] theorem c_rotated_f : c_rotated.f = 140 := rfl
@[go_sem] theorem c_rotated_ms : c_rotated.ms = [] := rfl
@[go_sem] theorem c_rotated_sp : c_rotated.spec = sp_rotated := rfl
@[go_sem] theorem c_rotated_fz : c_rotated.fz = [] := rfl
attribute [go_sem] sp_rotated
def sp_l01Rotate : List Cv → List Obj' → Tree
  | [.one (.ro (.int .i64) w), .one (.v (.int .i64 k))], [] => .need (w.length < 1099511627776 ∧ 0 ≤ k ∧ k ≤ (w.length : Int)) (.ret (ri (rotL w k.toNat)) [])
  | _, _ => .fail
set_option maxHeartbeats 4000000 in
set_option maxRecDepth 100000 in
theorem good_l01Rotate : Good Tryz.prog 129 sp_l01Rotate := by
  refine good_ofF Tryz.func129 rfl _ rfl _ rfl (tab [c_own, c_l01Normal]) (fun X cs os0 K hok hos hK => ?_)
  clear hos; unfold sp_l01Rotate at hK
  split at hK
  case h_2 => exact hK.elim
  rename_i w k
  refine ⟨by simp, by simp, ?_⟩
  simp only [go_sem] at hK hok
  simp (maxSteps := 4000000) only [go_sem, Tryz.f129, ↓brB_t, ↓brB_f, Nat.reduceAdd, Int.reduceLE, Int.reduceLT, Int.reduceNeg, decide_true, decide_false, Bool.and_self, Nat.succ_eq_add_one, Int.toNat_natCast, Nat.beq_refl, Bool.and_true, Bool.true_and, Bool.false_or, Bool.or_true, List.all_cons, List.all_nil, Nat.reduceMul, Nat.add_zero, Nat.zero_add, List.length_nil, List.length_cons, dite_true, List.nil_append, Nat.reduceBEq, reduceDIte, reduceIte, reduceCtorEq, Bool.or_false, Bool.true_or, Bool.and_false, Bool.false_and, Bool.not_true, Bool.not_false, Option.isSome_some, Option.isSome_none, Option.getD_some, List.getElem?_cons_zero, List.getElem?_cons_succ, eq_self, and_self, List.take_succ_cons, List.take_zero, List.drop_succ_cons, List.drop_zero]
  obtain ⟨⟨hl, h0, h1⟩, hK⟩ := hK
  clear hok
  have l1 : (w.drop k.toNat).length + (w.take k.toNat).length = w.length := by rw [List.length_drop, List.length_take]; omega
  have l2 : (w.drop k.toNat ++ w.take k.toNat).length = w.length := by rw [List.length_append]; exact l1
  exact ⟨⟨h0, h1⟩, by omega, ⟨h0, h1⟩, by omega, by omega, by kernel_rfl, retN [] rfl hK⟩
def c_l01Rotate : Ctr Tryz.prog := ⟨129, ent Tryz.func129 rfl rfl, [], sp_l01Rotate, good_l01Rotate, []⟩
@[go_sem] theorem c_l01Rotate_f : c_l01Rotate.f = 129 := rfl
@[go_sem] theorem c_l01Rotate_ms : c_l01Rotate.ms = [] := rfl
@[go_sem] theorem c_l01Rotate_sp : c_l01Rotate.spec = sp_l01Rotate := rfl
@[go_sem] theorem c_l01Rotate_fz : c_l01Rotate.fz = [] := rfl
attribute [go_sem] sp_l01Rotate
def sp_least : List Cv → List Obj' → Tree
  | [.one (.ro (.int .i64) w)], [] => .need (w.length < 1099511627776 ∧ Go.Proofs.YthfmlelodmcgkaaGreat.K.normalL w = w) (.ret (ri (leastL w)) [])
  | _, _ => .fail
set_option maxHeartbeats 4000000 in
set_option maxRecDepth 100000 in
theorem good_leastI : Good Tryz.prog 96 sp_least := by
  refine good_ofF Tryz.func96 rfl _ rfl _ rfl (tab [c_rotated, c_cmpS, c_clone]) (fun X cs os0 K hok hos hK => ?_)
  clear hos; unfold sp_least at hK
  split at hK
  case h_2 => exact hK.elim
  rename_i w
  refine ⟨by simp, by simp, ?_⟩
  simp only [go_sem] at hK hok
  simp (maxSteps := 4000000) only [go_sem, Tryz.f96, ↓brB_t, ↓brB_f, Nat.reduceAdd, Int.reduceLE, Int.reduceLT, Int.reduceNeg, decide_true, decide_false, Bool.and_self, Nat.succ_eq_add_one, Int.toNat_natCast, Nat.beq_refl, Bool.and_true, Bool.true_and, Bool.false_or, Bool.or_true, List.all_cons, List.all_nil, Nat.reduceMul, Nat.add_zero, Nat.zero_add, List.length_nil, List.length_cons, dite_true, List.nil_append, Nat.reduceBEq, reduceDIte, reduceIte, reduceCtorEq, Bool.or_false, Bool.true_or, Bool.and_false, Bool.false_and, Bool.not_true, Bool.not_false, Option.isSome_some, Option.isSome_none, Option.getD_some, List.getElem?_cons_zero, List.getElem?_cons_succ, eq_self, and_self, List.take_succ_cons, List.take_zero, List.drop_succ_cons, List.drop_zero]
  obtain ⟨⟨hl, hn⟩, hK⟩ := hK
  clear hok
  refine loop_okF (T := tab [c_rotated, c_cmpS, c_clone]) [0, 3, 8, 9] [] (fun k : Nat => ⟨23, [(0, ri w), (3, ri (leastF w k)), (8, vi w.length), (9, vi k)], []⟩)
    (fun k => k ≤ w.length) (fun k => w.length - k) 0 rfl rfl (Nat.zero_le _) (fun k hk => ?_)
  have hf := leastF_len w k
  simp only [go_sem, ↓brB_t, ↓brB_f, Nat.reduceAdd, Int.reduceLE, Int.reduceLT, Int.reduceNeg, decide_true, decide_false, Bool.and_self, Nat.succ_eq_add_one, Int.toNat_natCast, Nat.beq_refl, Bool.and_true, Bool.true_and, Bool.false_or, Bool.or_true, List.all_cons, List.all_nil, Nat.reduceMul, Nat.add_zero, Nat.zero_add, List.length_nil, List.length_cons, dite_true, List.nil_append, Nat.reduceBEq, reduceDIte, reduceIte, reduceCtorEq, Bool.or_false, Bool.true_or, Bool.and_false, Bool.false_and, Bool.not_true, Bool.not_false, Option.isSome_some, Option.isSome_none, Option.getD_some, List.getElem?_cons_zero, List.getElem?_cons_succ, eq_self, and_self, List.take_succ_cons, List.take_zero, List.drop_succ_cons, List.drop_zero]
  refine brB_intro (fun h1 => ?_) (fun h1 => ?_)
  · have h1 := of_decide_eq_true h1
    have hs := leastF_s w k
    have hw1 : w64 ((k : Int) + 1) = ((k + 1 : Nat) : Int) := w64_s (n := w.length) (by omega) (by omega)
    have hc := cmpL_lt (a := rotL w k) (b := leastF w k) (by rw [rotL_len, hf])
    refine ⟨⟨by omega, by omega, by omega⟩, brB_intro (fun h2 => ?_) (fun h2 => ?_)⟩
    · rw [hc] at h2
      rw [if_pos h2] at hs
      refine ⟨k + 1, [], by omega, by omega, rfl, ?_⟩
      rw [hw1, hs]; rfl
    · rw [hc] at h2
      rw [if_neg (by rw [h2]; decide)] at hs
      refine ⟨k + 1, [], by omega, by omega, rfl, ?_⟩
      rw [hw1, hs]; rfl
  · have h1 := of_decide_eq_false h1
    have e : k = w.length := by omega
    subst e
    exact ⟨by omega, retN [] rfl hK⟩
def c_leastI : Ctr Tryz.prog := ⟨96, ent Tryz.func96 rfl rfl, [], sp_least, good_leastI, []⟩
@[go_sem] theorem c_leastI_f : c_leastI.f = 96 := rfl
@[go_sem] theorem c_leastI_ms : c_leastI.ms = [] := rfl
@[go_sem] theorem c_leastI_sp : c_leastI.spec = sp_least := rfl
@[go_sem] theorem c_leastI_fz : c_leastI.fz = [] := rfl
attribute [go_sem] sp_least
set_option maxHeartbeats 4000000 in
set_option maxRecDepth 100000 in
theorem good_leastS : Good Tryz.prog 86 sp_least := by
  refine good_ofF Tryz.func86 rfl _ rfl _ rfl (tab [c_own, c_l01Rotate, c_l01Before]) (fun X cs os0 K hok hos hK => ?_)
  clear hos; unfold sp_least at hK
  split at hK
  case h_2 => exact hK.elim
  rename_i w
  refine ⟨by simp, by simp, ?_⟩
  simp only [go_sem] at hK hok
  simp (maxSteps := 4000000) only [go_sem, Tryz.f86, ↓brB_t, ↓brB_f, Nat.reduceAdd, Int.reduceLE, Int.reduceLT, Int.reduceNeg, decide_true, decide_false, Bool.and_self, Nat.succ_eq_add_one, Int.toNat_natCast, Nat.beq_refl, Bool.and_true, Bool.true_and, Bool.false_or, Bool.or_true, List.all_cons, List.all_nil, Nat.reduceMul, Nat.add_zero, Nat.zero_add, List.length_nil, List.length_cons, dite_true, List.nil_append, Nat.reduceBEq, reduceDIte, reduceIte, reduceCtorEq, Bool.or_false, Bool.true_or, Bool.and_false, Bool.false_and, Bool.not_true, Bool.not_false, Option.isSome_some, Option.isSome_none, Option.getD_some, List.getElem?_cons_zero, List.getElem?_cons_succ, eq_self, and_self, List.take_succ_cons, List.take_zero, List.drop_succ_cons, List.drop_zero]
  obtain ⟨⟨hl, hn⟩, hK⟩ := hK
  clear hok
  refine ⟨hl, ?_⟩
  refine loop_okF (T := tab [c_own, c_l01Rotate, c_l01Before]) [0, 3, 4] [] (fun k : Nat => ⟨22, [(0, ri w), (3, ri (leastF w k)), (4, vi k)], []⟩)
    (fun k => 1 ≤ k ∧ (k ≤ w.length ∨ k = 1)) (fun k => w.length - k) 1 rfl (by rw [leastF_1 hn]; rfl) ⟨Nat.le_refl _, .inr rfl⟩ (fun k hk => ?_)
  obtain ⟨hk1, hk⟩ := hk
  have hf := leastF_len w k
  simp only [go_sem, ↓brB_t, ↓brB_f, Nat.reduceAdd, Int.reduceLE, Int.reduceLT, Int.reduceNeg, decide_true, decide_false, Bool.and_self, Nat.succ_eq_add_one, Int.toNat_natCast, Nat.beq_refl, Bool.and_true, Bool.true_and, Bool.false_or, Bool.or_true, List.all_cons, List.all_nil, Nat.reduceMul, Nat.add_zero, Nat.zero_add, List.length_nil, List.length_cons, dite_true, List.nil_append, Nat.reduceBEq, reduceDIte, reduceIte, reduceCtorEq, Bool.or_false, Bool.true_or, Bool.and_false, Bool.false_and, Bool.not_true, Bool.not_false, Option.isSome_some, Option.isSome_none, Option.getD_some, List.getElem?_cons_zero, List.getElem?_cons_succ, eq_self, and_self, List.take_succ_cons, List.take_zero, List.drop_succ_cons, List.drop_zero]
  refine brB_intro (fun h1 => ?_) (fun h1 => ?_)
  · have h1 := of_decide_eq_true h1
    have hs := leastF_s w k
    have hw1 : w64 ((k : Int) + 1) = ((k + 1 : Nat) : Int) := w64_s (n := w.length) (by omega) (by omega)
    have hc := before_lex (a := rotL w k) (b := leastF w k) (by rw [rotL_len, hf])
    refine ⟨⟨by omega, by omega, by omega⟩, brB_intro (fun h2 => ?_) (fun h2 => ?_)⟩
    · have h2 : beforeB (rotL w k) (leastF w k) = true := h2
      rw [hc] at h2
      rw [if_pos h2] at hs
      refine ⟨k + 1, [], ⟨by omega, by omega⟩, by omega, rfl, ?_⟩
      rw [hw1, hs]; rfl
    · have h2 : beforeB (rotL w k) (leastF w k) = false := h2
      rw [hc] at h2
      rw [if_neg (by rw [h2]; decide)] at hs
      refine ⟨k + 1, [], ⟨by omega, by omega⟩, by omega, rfl, ?_⟩
      rw [hw1, hs]; rfl
  · have h1 := of_decide_eq_false h1
    have e : leastF w k = leastL w := by
      unfold leastL
      rcases Nat.lt_or_ge w.length k with h | h
      · have e1 : k = 1 := by omega
        have e0 : w.length = 0 := by omega
        rw [e1, e0, leastF_1 hn]; rfl
      · have : k = w.length := by omega
        rw [this]
    rw [e]
    exact retN [] rfl hK
def c_leastS : Ctr Tryz.prog := ⟨86, ent Tryz.func86 rfl rfl, [], sp_least, good_leastS, []⟩
@[go_sem] theorem c_leastS_f : c_leastS.f = 86 := rfl
@[go_sem] theorem c_leastS_ms : c_leastS.ms = [] := rfl
@[go_sem] theorem c_leastS_sp : c_leastS.spec = sp_least := rfl
@[go_sem] theorem c_leastS_fz : c_leastS.fz = [] := rfl
attribute [go_sem] sp_least
def sp_isDia : List Cv → List Obj' → Tree
  | [.one (.ro (.int .i64) w)], [] => .need (w.length < 1099511627776 ∧ Go.Proofs.YthfmlelodmcgkaaGreat.K.normalL w = w) (.ret (vb (decide (leastL w = w))) [])
  | _, _ => .fail
set_option maxHeartbeats 4000000 in
set_option maxRecDepth 100000 in
theorem good_isDia : Good Tryz.prog 114 sp_isDia := by
  refine good_ofF Tryz.func114 rfl _ rfl _ rfl (tab [c_leastI, c_equal]) (fun X cs os0 K hok hos hK => ?_)
  clear hos; unfold sp_isDia at hK
  split at hK
  case h_2 => exact hK.elim
  rename_i w
  refine ⟨by simp, by simp, ?_⟩
  simp only [go_sem] at hK hok
  simp (maxSteps := 4000000) only [go_sem, Tryz.f114, ↓brB_t, ↓brB_f, Nat.reduceAdd, Int.reduceLE, Int.reduceLT, Int.reduceNeg, decide_true, decide_false, Bool.and_self, Nat.succ_eq_add_one, Int.toNat_natCast, Nat.beq_refl, Bool.and_true, Bool.true_and, Bool.false_or, Bool.or_true, List.all_cons, List.all_nil, Nat.reduceMul, Nat.add_zero, Nat.zero_add, List.length_nil, List.length_cons, dite_true, List.nil_append, Nat.reduceBEq, reduceDIte, reduceIte, reduceCtorEq, Bool.or_false, Bool.true_or, Bool.and_false, Bool.false_and, Bool.not_true, Bool.not_false, Option.isSome_some, Option.isSome_none, Option.getD_some, List.getElem?_cons_zero, List.getElem?_cons_succ, eq_self, and_self, List.take_succ_cons, List.take_zero, List.drop_succ_cons, List.drop_zero]
  obtain ⟨⟨hl, hn⟩, hK⟩ := hK
  clear hok
  exact ⟨⟨hl, hn⟩, retN [] rfl hK⟩
def c_isDia : Ctr Tryz.prog := ⟨114, ent Tryz.func114 rfl rfl, [], sp_isDia, good_isDia, []⟩
@[go_sem] theorem c_isDia_f : c_isDia.f = 114 := rfl
@[go_sem] theorem c_isDia_ms : c_isDia.ms = [] := rfl
@[go_sem] theorem c_isDia_sp : c_isDia.spec = sp_isDia := rfl
@[go_sem] theorem c_isDia_fz : c_isDia.fz = [] := rfl
attribute [go_sem] sp_isDia
end Go.Proofs.YthfmlelodmcgkaaGreat.V
end
section
namespace Go.Proofs.YthfmlelodmcgkaaGreat.V
open Go
open Go.Proofs.YthfmlelodmcgkaaGreat.K (normFrom normalL metBy twiceL)
def ltrs (m : Nat) : List Int := (List.range m).map fun i : Nat => (i : Int)
theorem ltrs_len (m : Nat) : (ltrs m).length = m := by rw [ltrs, List.length_map, List.length_range]
theorem ltrs_idx {m i : Nat} (h : i < m) : (ltrs m).idxOf? (i : Int) = some i := by
  rw [List.idxOf?, List.findIdx?_eq_some_iff_getElem]
  refine ⟨by rw [ltrs_len]; exact h, by simp [ltrs], fun j hj => ?_⟩
  simp only [ltrs, List.getElem_map, List.getElem_range, beq_iff_eq, Bool.not_eq_true, beq_eq_false_iff_ne, ne_eq]
  omega
theorem ltrs_new (m : Nat) : (ltrs m).idxOf? (m : Int) = none := by
  rw [List.idxOf?_eq_none_iff]
  intro h
  obtain ⟨i, hi, e⟩ := List.mem_map.1 h
  have := List.mem_range.1 hi
  omega
theorem ltrs_s (m : Nat) : ltrs (m + 1) = ltrs m ++ [(m : Int)] := by rw [ltrs, List.range_succ, List.map_append]; rfl
theorem nF_app (a : List Int) : ∀ (met b : List Int), normFrom met (a ++ b) = normFrom met a ++ normFrom (metBy met a) b := by
  induction a with
  | nil => intro met b; rfl
  | cons x a ih =>
    intro met b
    rw [List.cons_append, normFrom, normFrom, metBy]
    cases h : met.idxOf? x with
    | some j => simp only []; rw [ih]; rfl
    | none => simp only []; rw [ih]; rfl
theorem mB_app (a : List Int) : ∀ (met b : List Int), metBy met (a ++ b) = metBy (metBy met a) b := by
  induction a with
  | nil => intro met b; rfl
  | cons x a ih =>
    intro met b
    rw [List.cons_append, metBy, metBy]
    cases h : met.idxOf? x with
    | some j => exact ih _ _
    | none => exact ih _ _
structure BegN (w : List Int) (m : Nat) : Prop where
  beg : begB w m
  nrm : normFrom [] w = w
  met : metBy [] w = ltrs m
theorem BegN.nil : BegN [] 0 := ⟨begB_nil, rfl, rfl⟩
theorem BegN.old {w : List Int} {m x : Nat} (h : BegN w m) (hx : x < m) (h1 : w.count (x : Int) = 1) : BegN (w ++ [(x : Int)]) m := by
  refine ⟨begB_old h.beg hx h1, ?_, ?_⟩
  · rw [nF_app, h.nrm, h.met, normFrom, ltrs_idx hx]; rfl
  · rw [mB_app, h.met, metBy, ltrs_idx hx]; rfl
theorem BegN.new {w : List Int} {m : Nat} (h : BegN w m) : BegN (w ++ [(m : Int)]) (m + 1) := by
  refine ⟨begB_new h.beg, ?_, ?_⟩
  · rw [nF_app, h.nrm, h.met, normFrom, ltrs_new]
    show w ++ [((ltrs m).length : Int)] = _
    rw [ltrs_len]
  · rw [mB_app, h.met, metBy, ltrs_new]
    show ltrs m ++ [(m : Int)] = _
    rw [ltrs_s]
theorem pre_mem {g : Nat → LL} {u : List Int} : ∀ {n : Nat}, u ∈ preF g n → ∃ x, x < n ∧ u ∈ g x
  | 0, h => by cases h
  | n + 1, h => by
    rcases List.mem_append.1 h with h | h
    · obtain ⟨x, h1, h2⟩ := pre_mem h; exact ⟨x, by omega, h2⟩
    · exact ⟨n, by omega, h⟩
theorem fill_beg {n : Nat} : ∀ {d : Nat} {w : List Int} {m : Nat} {u : List Int}, BegN w m → m ≤ n → u ∈ fillL n d w m → ∃ k, k ≤ n ∧ BegN u k ∧ u.length = w.length + d
  | 0, w, m, u, h, hm, hu => by
    have : u = w := by simpa [fillL] using hu
    subst this
    exact ⟨m, hm, h, rfl⟩
  | d + 1, w, m, u, h, hm, hu => by
    rw [fillL_s] at hu
    obtain ⟨x, hx, hu⟩ := pre_mem hu
    unfold stepL at hu
    split at hu
    · rename_i hc
      have hla : (w ++ [(x : Int)]).length = w.length + 1 := by rw [List.length_append]; rfl
      by_cases hxm : x < m
      · have h1 : w.count (x : Int) = 1 := by have := h.beg.2 x hxm; omega
        rw [Nat.max_eq_left (by omega)] at hu
        obtain ⟨k, k1, k2, k3⟩ := fill_beg (h.old hxm h1) hm hu
        exact ⟨k, k1, k2, by omega⟩
      · have e : x = m := by omega
        subst e
        rw [Nat.max_eq_right (by omega)] at hu
        obtain ⟨k, k1, k2, k3⟩ := fill_beg h.new (by omega) hu
        exact ⟨k, k1, k2, by omega⟩
    · cases hu
theorem count_sum : ∀ {w : List Int} {m : Nat}, (∀ x ∈ w, 0 ≤ x ∧ x < (m : Int)) → ((List.range m).map fun i : Nat => w.count (i : Int)).sum = w.length
  | [], m, _ => by
    have e : ((List.range m).map fun i : Nat => ([] : List Int).count (i : Int)) = (List.range m).map fun _ => 0 := List.map_congr_left fun _ _ => by simp
    rw [e]
    generalize List.range m = l
    induction l with
    | nil => rfl
    | cons x l ih => simpa using ih
  | x :: w, m, h => by
    have ih := count_sum (w := w) (m := m) fun y hy => h y (List.mem_cons_of_mem _ hy)
    have hx := h x List.mem_cons_self
    rw [List.length_cons, ← ih]
    obtain ⟨k, rfl⟩ : ∃ k : Nat, x = k := ⟨x.toNat, by omega⟩
    have hk : k < m := by omega
    clear ih h hx
    induction m with
    | zero => omega
    | succ m ihm =>
      rw [List.range_succ, List.map_append, List.map_append, List.sum_append, List.sum_append]
      by_cases e : k = m
      · subst e
        have e2 : ((List.range k).map fun i : Nat => ((k : Int) :: w).count (i : Int)) = (List.range k).map fun i : Nat => w.count (i : Int) := List.map_congr_left fun i hi => by
          have := List.mem_range.1 hi
          rw [List.count_cons_of_ne (by omega)]
        rw [e2]; simp; omega
      · have := ihm (by omega)
        have e3 : ((k : Int) :: w).count (m : Int) = w.count (m : Int) := List.count_cons_of_ne (by omega)
        rw [this]; simp only [List.map_cons, List.map_nil, List.sum_cons, List.sum_nil, e3]; omega
theorem sum_le2 : ∀ {m : Nat} {f : Nat → Nat}, (∀ i, i < m → f i ≤ 2) → ((List.range m).map f).sum ≤ 2 * m
  | 0, f, _ => by simp
  | m + 1, f, h => by
    have h1 := sum_le2 (m := m) (f := f) fun i hi => h i (by omega)
    have h2 := h m (by omega)
    rw [List.range_succ, List.map_append, List.sum_append]
    simp only [List.map_cons, List.map_nil, List.sum_cons, List.sum_nil]; omega
theorem sum_full : ∀ {m : Nat} {f : Nat → Nat}, (∀ i, i < m → f i ≤ 2) → ((List.range m).map f).sum = 2 * m → ∀ i, i < m → f i = 2
  | 0, f, _, _, i, hi => by omega
  | m + 1, f, h, hs, i, hi => by
    have h1 := sum_le2 (m := m) (f := f) fun i hi => h i (by omega)
    have h2 := h m (by omega)
    rw [List.range_succ, List.map_append, List.sum_append] at hs
    simp only [List.map_cons, List.map_nil, List.sum_cons, List.sum_nil] at hs
    by_cases e : i = m
    · subst e; omega
    · exact sum_full (m := m) (fun j hj => h j (by omega)) (by omega) i (by omega)
theorem all_isW {n : Nat} (hn : n ≤ 6) {u : List Int} (hu : u ∈ allL n) : isW u = true ∧ u.length = 2 * n := by
  obtain ⟨k, hk, hb, hl⟩ := fill_beg BegN.nil (Nat.zero_le n) hu
  have hl : u.length = 2 * n := by simpa using hl
  have hs := count_sum hb.beg.1
  have hle : ∀ i, i < k → u.count (i : Int) ≤ 2 := fun i hi => (hb.beg.2 i hi).2
  have hkn : 2 * n ≤ 2 * k := by
    rw [← hl, ← hs]; exact sum_le2 hle
  have e : k = n := by omega
  subst e
  have h2 := sum_full hle (by rw [hs, hl])
  refine ⟨?_, hl⟩
  unfold isW
  have ht : twiceL u = true := by
    unfold twiceL
    rw [List.all_eq_true]
    intro x hx
    obtain ⟨h0, h1⟩ := hb.beg.1 x hx
    have := h2 x.toNat (by omega)
    rw [Int.toNat_of_nonneg h0] at this
    simpa using this
  rw [ht, decide_eq_true (show u.length ≤ 12 by omega), decide_eq_true (show normalL u = u from hb.nrm)]; rfl
def diaL (n : Nat) : LL := (allL n).filter fun w => decide (leastL w = w)
end Go.Proofs.YthfmlelodmcgkaaGreat.V
end
section
namespace Go.Proofs.YthfmlelodmcgkaaGreat.V
open Go
section
variable {α : Type}
def DRp (R : (Nat → Prop) → α → List Value → Prop) : (Nat → Prop) → List (α × List Value) → Prop
  | φ, [] => ∀ b, ¬ φ b
  | φ, p :: r => ∃ φ1 φ2, R φ1 p.1 p.2 ∧ DRp R φ2 r ∧ (∀ b, φ b ↔ φ1 b ∨ φ2 b) ∧ ∀ b, φ1 b → ¬ φ2 b
theorem DR.pairs {R : (Nat → Prop) → α → List Value → Prop} : ∀ {φ : Nat → Prop} {l : List α} {cs : List Value}, DR R φ l cs → ∃ ps : List (α × List Value), l = ps.map (·.1) ∧ cs = ps.flatMap (·.2) ∧ DRp R φ ps
  | φ, [], cs, h => ⟨[], rfl, h.1, h.2⟩
  | φ, x :: l, cs, ⟨c1, c2, φ1, φ2, h1, h2, h3, h4, h5⟩ => by
    obtain ⟨ps, e1, e2, e3⟩ := DR.pairs h3
    exact ⟨(x, c1) :: ps, by rw [e1]; rfl, by rw [h1, e2]; rfl, φ1, φ2, h2, e3, h4, h5⟩
theorem DRp.dr {R : (Nat → Prop) → α → List Value → Prop} : ∀ {φ : Nat → Prop} {ps : List (α × List Value)}, DRp R φ ps → DR R φ (ps.map (·.1)) (ps.flatMap (·.2))
  | φ, [], h => ⟨rfl, h⟩
  | φ, p :: r, ⟨φ1, φ2, h2, h3, h4, h5⟩ => ⟨p.2, _, φ1, φ2, by rw [List.flatMap_cons], h2, DRp.dr h3, h4, h5⟩
theorem DRp.perm {R : (Nat → Prop) → α → List Value → Prop} {ps qs : List (α × List Value)} (h : ps.Perm qs) : ∀ {φ : Nat → Prop}, DRp R φ ps → DRp R φ qs := by
  induction h with
  | nil => exact fun h => h
  | cons x _ ih => exact fun ⟨φ1, φ2, h2, h3, h4, h5⟩ => ⟨φ1, φ2, h2, ih h3, h4, h5⟩
  | swap x y l =>
    rintro φ ⟨φ1, φ2, h2, ⟨φ3, φ4, k2, k3, k4, k5⟩, h4, h5⟩
    refine ⟨φ3, fun b => φ1 b ∨ φ4 b, k2, ⟨φ1, φ4, h2, k3, fun _ => Iff.rfl, fun b hb h => h5 b hb ((k4 b).2 (.inr h))⟩, fun b => ?_, fun b hb h => h.elim (fun h => h5 b h ((k4 b).2 (.inl hb))) (k5 b hb)⟩
    rw [h4 b, k4 b]
    exact ⟨fun h => h.elim (fun h => .inr (.inl h)) (fun h => h.elim .inl (fun h => .inr (.inr h))), fun h => h.elim (fun h => .inr (.inl h)) (fun h => h.elim .inl (fun h => .inr (.inr h)))⟩
  | trans _ _ ih1 ih2 => exact fun h => ih2 (ih1 h)
theorem DRp.mem {R : (Nat → Prop) → α → List Value → Prop} {p : α × List Value} : ∀ {φ : Nat → Prop} {ps : List (α × List Value)}, DRp R φ ps → p ∈ ps → ∃ ψ : Nat → Prop, R ψ p.1 p.2 ∧ ∀ b, ψ b → φ b
  | φ, q :: r, ⟨φ1, φ2, h2, h3, h4, h5⟩, hp => by
    rcases List.mem_cons.1 hp with rfl | hp
    · exact ⟨φ1, h2, fun b hb => (h4 b).2 (.inl hb)⟩
    · obtain ⟨ψ, k1, k2⟩ := DRp.mem h3 hp
      exact ⟨ψ, k1, fun b hb => (h4 b).2 (.inr (k2 b hb))⟩
theorem DRp.filter {R : (Nat → Prop) → α → List Value → Prop} (q : α × List Value → Bool) : ∀ {φ : Nat → Prop} {ps : List (α × List Value)}, DRp R φ ps → ∃ ψ : Nat → Prop, DRp R ψ (ps.filter q) ∧ ∀ b, ψ b → φ b
  | φ, [], h => ⟨φ, h, fun _ h => h⟩
  | φ, p :: r, ⟨φ1, φ2, h2, h3, h4, h5⟩ => by
    obtain ⟨ψ, k1, k2⟩ := DRp.filter q h3
    rw [List.filter_cons]
    split
    · exact ⟨fun b => φ1 b ∨ ψ b, ⟨φ1, ψ, h2, k1, fun _ => Iff.rfl, fun b hb h => h5 b hb (k2 b h)⟩, fun b hb => (h4 b).2 (hb.imp id (k2 b))⟩
    · exact ⟨ψ, k1, fun b hb => (h4 b).2 (.inr (k2 b hb))⟩
end
end Go.Proofs.YthfmlelodmcgkaaGreat.V
end
section
namespace Go.Proofs.YthfmlelodmcgkaaGreatW.PrintWords
theorem Reps.one {α : Type} {R : α → List Value → Prop} {ps : List α} {cs : List Value} {p : α} {v : Value} (hp : R p [v]) (h : Reps R 1 ps cs) : Reps R 1 (p :: ps) (v :: cs) := by
  refine ⟨by simp [h.1], fun j q hq => ?_⟩
  cases j with
  | zero =>
    simp only [List.getElem?_cons_zero, Option.some.injEq] at hq
    subst hq
    simpa using hp
  | succ j =>
    simp only [List.getElem?_cons_succ] at hq
    have h1 := h.2 j q hq
    simpa [Nat.mul_one] using h1
theorem Reps.front {α : Type} {R : α → List Value → Prop} {size : Nat} {ps : List α} {cs c all : List Value} {p : α} (hp : R p c) (hc : c.length = size) (h : Reps R size ps cs) (ha : c ++ cs = all) : Reps R size (p :: ps) all := by
  subst ha
  refine ⟨by rw [List.length_append, hc, h.1, List.length_cons, Nat.succ_mul, Nat.add_comm], fun j q hq => ?_⟩
  cases j with
  | zero =>
    simp only [List.getElem?_cons_zero, Option.some.injEq] at hq
    subst hq
    rw [Nat.zero_mul, List.drop_zero, List.take_append_of_le_length (by omega), List.take_of_length_le (by omega)]
    exact hp
  | succ j =>
    simp only [List.getElem?_cons_succ] at hq
    have h1 := h.2 j q hq
    rw [Nat.succ_mul, List.drop_append, List.drop_of_length_le (by rw [hc]; exact Nat.le_add_left _ _), List.nil_append, hc, Nat.add_sub_cancel]
    exact h1
theorem Reps.c2 {α : Type} {R : α → List Value → Prop} {ps : List α} {cs : List Value} {p : α} {va vb : Value} (hp : R p [va, vb]) (h : Reps R 2 ps cs) : Reps R 2 (p :: ps) (va :: vb :: cs) := Reps.front hp rfl h rfl
theorem Reps.c3 {α : Type} {R : α → List Value → Prop} {ps : List α} {cs : List Value} {p : α} {va vb vc : Value} (hp : R p [va, vb, vc]) (h : Reps R 3 ps cs) : Reps R 3 (p :: ps) (va :: vb :: vc :: cs) := Reps.front hp rfl h rfl
theorem Reps.c4 {α : Type} {R : α → List Value → Prop} {ps : List α} {cs : List Value} {p : α} {va vb vc vd : Value} (hp : R p [va, vb, vc, vd]) (h : Reps R 4 ps cs) : Reps R 4 (p :: ps) (va :: vb :: vc :: vd :: cs) := Reps.front hp rfl h rfl
theorem Reps.c5 {α : Type} {R : α → List Value → Prop} {ps : List α} {cs : List Value} {p : α} {va vb vc vd ve : Value} (hp : R p [va, vb, vc, vd, ve]) (h : Reps R 5 ps cs) : Reps R 5 (p :: ps) (va :: vb :: vc :: vd :: ve :: cs) := Reps.front hp rfl h rfl
theorem Reps.c6 {α : Type} {R : α → List Value → Prop} {ps : List α} {cs : List Value} {p : α} {va vb vc vd ve vf : Value} (hp : R p [va, vb, vc, vd, ve, vf]) (h : Reps R 6 ps cs) : Reps R 6 (p :: ps) (va :: vb :: vc :: vd :: ve :: vf :: cs) := Reps.front hp rfl h rfl
theorem Reps.c7 {α : Type} {R : α → List Value → Prop} {ps : List α} {cs : List Value} {p : α} {va vb vc vd ve vf vg : Value} (hp : R p [va, vb, vc, vd, ve, vf, vg]) (h : Reps R 7 ps cs) : Reps R 7 (p :: ps) (va :: vb :: vc :: vd :: ve :: vf :: vg :: cs) := Reps.front hp rfl h rfl
theorem Reps.c8 {α : Type} {R : α → List Value → Prop} {ps : List α} {cs : List Value} {p : α} {va vb vc vd ve vf vg vh : Value} (hp : R p [va, vb, vc, vd, ve, vf, vg, vh]) (h : Reps R 8 ps cs) : Reps R 8 (p :: ps) (va :: vb :: vc :: vd :: ve :: vf :: vg :: vh :: cs) := Reps.front hp rfl h rfl
theorem Reps.c9 {α : Type} {R : α → List Value → Prop} {ps : List α} {cs : List Value} {p : α} {va vb vc vd ve vf vg vh vi : Value} (hp : R p [va, vb, vc, vd, ve, vf, vg, vh, vi]) (h : Reps R 9 ps cs) : Reps R 9 (p :: ps) (va :: vb :: vc :: vd :: ve :: vf :: vg :: vh :: vi :: cs) := Reps.front hp rfl h rfl
theorem Reps.c10 {α : Type} {R : α → List Value → Prop} {ps : List α} {cs : List Value} {p : α} {va vb vc vd ve vf vg vh vi vj : Value} (hp : R p [va, vb, vc, vd, ve, vf, vg, vh, vi, vj]) (h : Reps R 10 ps cs) : Reps R 10 (p :: ps) (va :: vb :: vc :: vd :: ve :: vf :: vg :: vh :: vi :: vj :: cs) := Reps.front hp rfl h rfl
end Go.Proofs.YthfmlelodmcgkaaGreatW.PrintWords
end
section
namespace Go.Proofs.YthfmlelodmcgkaaGreat.K
open Go.RowKit Go.Proofs.YthfmlelodmcgkaaGreatW.PrintWords Go.Proofs.YthfmlelodmcgkaaGreatW.PrintLast Go.Proofs.YthfmlelodmcgkaaGreatW.PrintMore
structure SV where
  v : Value
  d : List Int
  one : v.oneCell' = true
def sv0 : SV := ⟨.slice none 0 0, [], rfl⟩
theorem sv_one (x : SV) : x.v.oneCell' = true := x.one
abbrev kSV : Kd SV := Kd.scalar (fun x : SV => x.v) sv_one
abbrev RS (w : World) (base : Nat) (ok : Nat → Prop) (v : Value) (xs : List SV) : Prop := Kd.R kSV 26 w base ok v xs
abbrev rs (l : List SV) (i : Int) : SV := rdOf sv0 l i
theorem sv_cells (x : SV) : x.v.cells = #[x.v] := by
  have := x.one
  generalize x.v = v at this ⊢
  cases v <;> simp_all [Value.oneCell', Value.cells]
theorem at_sv {w : World} {A : Option Addr} {n : Nat} {xs : List SV} (h : Kd.C kSV w A n xs) (i : Int) (h0 : 0 ≤ i) (h1 : i < n) : ∃ ad, A = some ad ∧ w.cell? (ad.add i.toNat) = some (rs xs i).v :=
  ReadsOf.at_ (Kd.reads_of_C (enc := fun x : SV => x.v) (d := sv0) (h1 := sv_one) h) i h0 h1
theorem rs_mem (l : List SV) (j : Nat) (h : j < l.length) : rs l j ∈ l := by
  unfold rs rdOf
  rw [Int.toNat_natCast, List.getD_eq_getElem?_getD, List.getElem?_eq_getElem h]; exact List.getElem_mem _
theorem rs_eq (l : List SV) (j : Nat) (h : j < l.length) : rs l j = l[j] := by
  unfold rs rdOf
  rw [Int.toNat_natCast, List.getD_eq_getElem?_getD, List.getElem?_eq_getElem h]; rfl
def idxFromS (p : SV → Bool) (l : List SV) (i : Nat) : Int := match l.findIdx? p with | some j => (i + j : Nat) | none => -1
theorem idxS_hit (p : SV → Bool) (l : List SV) (k : Nat) (h : k < l.length) (hp : p (rs l k) = true) : idxFromS p (l.drop k) k = k := by
  rw [List.drop_eq_getElem_cons h, ← rs_eq l k h]
  simp [idxFromS, List.findIdx?_cons, hp]
theorem idxS_miss (p : SV → Bool) (l : List SV) (k : Nat) (h : k < l.length) (hp : p (rs l k) = false) : idxFromS p (l.drop k) k = idxFromS p (l.drop (k + 1)) (k + 1) := by
  rw [List.drop_eq_getElem_cons h, ← rs_eq l k h]
  simp only [idxFromS, List.findIdx?_cons, hp]
  cases h : (l.drop (k + 1)).findIdx? p with
  | none => simp [h]
  | some j => simp [h]; omega
set_option maxHeartbeats 1000000 in
set_option maxRecDepth 100000 in
theorem indexFuncS {R : World → World → Prop} (hR : Step R) (A0 : Option Addr) (c0 : Nat) (l : List SV) (fv : Value) (p : SV → Bool) (w : World)
    (hr : Kd.C kSV w A0 l.length l) (hp : ∀ x ∈ l, ∀ w1, R w w1 → Runs Tryz.prog fv #[x.v] w1 fun e w2 => e = .returned (.bool (p x)) ∧ R w1 w2) :
    Calls Tryz.prog 108 #[.slice A0 l.length c0, fv] w fun e w' => e = .returned (.int .i64 (idxFromS p l 0)) ∧ R w w' := by
  have HR := Aside0.mk hr
  have HP := Aside0.mk hp
  have hm : l.length ≤ 9223372036854775807 := hr.2.1
  clear hr hp
  go_enter Tryz.func108, Tryz.ntmps108
  go_wp2
  go_loopw [8] (fun i wr => ∃ k : Nat, k ≤ l.length ∧ i = .int .i64 k ∧ Aside0 (idxFromS p l 0 = idxFromS p (l.drop k) k) ∧ Aside0 (R w wr)) (fun i _ => l.length - (intOf i).toNat)
  case atStart => exact ⟨0, Nat.zero_le _, rfl, ⟨rfl⟩, ⟨hR.refl _⟩⟩
  case round =>
    obtain ⟨k, hk, rfl, HI, HW⟩ := hrel
    by_cases hlt : k < l.length
    · obtain ⟨ad, hA, hc⟩ := at_sv (Kd.C_below HR.out (hR.below HW.out)) k (by omega) (by omega)
      subst hA
      have hrun := Aside0.mk (HP.out (rs l k) (rs_mem l k hlt) wr HW.out)
      have HI2 := Aside0.mk (And.intro (idxS_hit p l k hlt) (idxS_miss p l k hlt))
      generalize rs l k = x at *
      simp only [Int.toNat_natCast] at hc
      go_wp2_with ((with_reducible refine gate_dst (N := 16) rfl ?_); refine goesV (some 16) rfl rfl rfl (fv := fv) rfl #[x.v] (by (try simp only [List.map_toArray, List.map_cons, List.map_nil]); rfl) ?_; refine hrun.out.mono ?_; rintro e w2 ⟨rfl, h2⟩; have H2 := Aside0.mk h2; clear h2; refine ⟨_, rfl, ?_⟩)
      · have hpt : p x = true := by assumption
        go_ret
        exact ⟨by rw [HI.out, HI2.out.1 hpt]; rfl, hR.trans HW.out H2.out⟩
      · have hpf : p x = false := by assumption
        go_roundw
        case rel => exact ⟨k + 1, hlt, by go_num, ⟨by rw [HI.out, HI2.out.2 hpf]⟩, ⟨hR.trans HW.out H2.out⟩⟩
        case measure => simp [intOf]; omega
    · have hke : k = l.length := by omega
      go_wp2
      go_ret
      exact ⟨by rw [HI.out, hke, List.drop_length]; rfl, HW.out⟩
theorem zero_sl' (w : World) : (zeroValue 26).run Tryz.prog w = .ok (.slice none 0 0) w := by kernel_rfl
theorem clearedS {base g cap n : Nat} {ok : Nat → Prop} (m : Nat) : ∀ (i : Nat) (W : World) (cur : List SV), RS W base ok (.slice (some ⟨g, 0, none⟩) n cap) cur → cur.length = n → i + m = n →
    ∃ cur', RS (W.setCells g i (List.replicate m (.slice none 0 0))) base ok (.slice (some ⟨g, 0, none⟩) n cap) cur' ∧ cur'.length = n ∧ cur'.take i = cur.take i ∧ W.grownBy (W.setCells g i (List.replicate m (.slice none 0 0))) (some g) := by
  induction m with
  | zero => intro i W cur h hl _; exact ⟨cur, h, hl, rfl, World.grownBy.refl _ _⟩
  | succ m ih =>
    intro i W cur h hl him
    obtain ⟨h2, hg⟩ := Kd.R_putg h (i : Int) sv0
    rw [Int.toNat_natCast] at h2 hg
    obtain ⟨cur', h3, h4, h5, h6⟩ := ih (i + 1) _ _ h2 (by simpa using hl) (by omega)
    refine ⟨cur', h3, h4, ?_, hg.trans h6⟩
    have := congrArg (List.take i) h5
    rw [List.take_take, List.take_take, Nat.min_eq_left (Nat.le_succ i), List.take_set_of_le (Nat.le_refl _)] at this
    exact this
theorem filterS_snoc (p : SV → Bool) (l : List SV) (j : Nat) (h : j < l.length) : (l.take (j + 1)).filter p = (l.take j).filter p ++ (if p (rs l j) then [rs l j] else []) := by
  rw [List.take_succ_eq_append_getElem h, List.filter_append, rs_eq l j h]
  congr 1
  cases hp : p l[j] <;> simp [hp]
theorem rs_set_ne (l : List SV) (i j : Nat) (v : SV) (h : i ≠ j) : rs (l.set i v) j = rs l j := by
  unfold rs rdOf
  rw [Int.toNat_natCast, List.getD_eq_getElem?_getD, List.getElem?_set, if_neg h, List.getD_eq_getElem?_getD]
structure DelS (W0 W : World) (base g cap n : Nat) (ok : Nat → Prop) (p : SV → Bool) (l cur : List SV) (i j : Nat) : Prop where
  row : RS W base ok (.slice (some ⟨g, 0, none⟩) n cap) cur
  len : cur.length = n
  ij : i < j
  jn : j ≤ n
  kept : cur.take i = (l.take j).filter fun x => !p x
  rest : ∀ t, j ≤ t → t < n → rs cur t = rs l t
  grown : W0.grownBy W (some g)
  cnt : i = ((l.take j).filter fun x => !p x).length
theorem DelS.miss {W0 W W2 : World} {base g cap n : Nat} {ok : Nat → Prop} {p : SV → Bool} {l cur : List SV} {i j : Nat} (h : DelS W0 W base g cap n ok p l cur i j) (hj : j < n) (hn : l.length = n) (hp : p (rs l j) = true) (hb : Below W.heap.size W W2) : DelS W0 W2 base g cap n ok p l cur i (j + 1) := by
  have e := filterS_snoc (fun x => !p x) l j (by omega)
  rw [hp] at e
  simp only [Bool.not_true, Bool.false_eq_true, if_false, List.append_nil] at e
  exact ⟨Kd.R_below h.row hb, h.len, by have := h.ij; omega, by omega, by rw [e]; exact h.kept, fun t h1 h2 => h.rest t (by omega) h2, h.grown.trans (grown_of_below hb _), by rw [e]; exact h.cnt⟩
theorem DelS.hit {W0 W W2 W3 : World} {base g cap n : Nat} {ok : Nat → Prop} {p : SV → Bool} {l cur : List SV} {i j : Nat} (h : DelS W0 W base g cap n ok p l cur i j) (hj : j < n) (hn : l.length = n) (hp : p (rs l j) = false) (hb : Below W.heap.size W W2)
    (hr : RS W3 base ok (.slice (some ⟨g, 0, none⟩) n cap) (cur.set i (rs l j))) (hg : W2.grownBy W3 (some g)) : DelS W0 W3 base g cap n ok p l (cur.set i (rs l j)) (i + 1) (j + 1) := by
  have e := filterS_snoc (fun x => !p x) l j (by omega)
  rw [hp] at e
  simp only [Bool.not_false, if_true] at e
  have hij := h.ij
  refine ⟨hr, by simpa using h.len, by omega, by omega, ?_, fun t h1 h2 => ?_, (h.grown.trans (grown_of_below hb _)).trans hg, by rw [e, List.length_append, ← h.cnt]; rfl⟩
  · rw [e, ← h.kept, List.take_succ_eq_append_getElem (by simp [h.len]; omega), List.take_set_of_le (Nat.le_refl _)]
    simp
  · rw [rs_set_ne _ _ _ _ (by omega)]
    exact h.rest t (by omega) h2
section
variable {ops : Array Oper} {rest : List Oper} {o : Oper} {a : Act} {Q : Exit → Act → World → Prop}
theorem putS' {w0 W : World} {base : Nat} {ok : Nat → Prop} (hN : o.dst = none) (hgd : o.guard = none) {p x : Operand} (ho : o.op = .store 26 p x) {g n cap o' : Nat} (i : Int) (xs : List SV) (y : SV)
    (haddr : a.eval p = .pointer (some ⟨g, o', none⟩)) (hoff : o' = i.toNat) (hx : a.eval x = y.v) (HO : RS W base ok (.slice (some ⟨g, 0, none⟩) n cap) xs) (h0 : 0 ≤ i) (hi : i < n) (HB : Below base w0 W)
    (h : ∀ w1, RS w1 base ok (.slice (some ⟨g, 0, none⟩) n cap) (xs.set i.toNat y) → Below base w0 w1 → W.grownBy w1 (some g) → wpList Tryz.prog ops Q rest a w1) : wpList Tryz.prog ops Q (o :: rest) a W := by
  obtain ⟨ad, hA, hc⟩ := at_sv (Kd.R_reads' HO).2.2 i h0 (by have := (Kd.R_reads' HO).1; omega)
  obtain rfl := Option.some.inj hA
  rw [add_plain] at hc
  refine Kd.R_store kSV base hN hgd 26 p x ho 26 i 0 xs y y.v [y.v] [(rs xs i).v] ok (fun _ => False) haddr (by rw [hoff]; show i.toNat = i.toNat * 1 + 0; omega) hx (by rw [sv_cells]) (by kernel_rfl) (by intro q hq; rw [List.mem_singleton.1 hq]; exact y.one) HO h0 hi rfl ?_ (Nat.le_refl 1) rfl (fun _ h => h.elim) HB h
  intro j u hj
  match j, hj with
  | 0, hj =>
    simp only [List.getElem?_cons_zero, Option.some.injEq] at hj
    subst hj
    show W.cell? ⟨g, i.toNat * 1 + 0, none⟩ = _
    rw [Nat.mul_one, Nat.add_zero]
    exact hc
end
set_option maxHeartbeats 2000000 in
set_option maxRecDepth 100000 in
theorem c_deleteFuncS (w : World) (base g cap : Nat) (ok : Nat → Prop) (l : List SV) (fv : Value) (p : SV → Bool) (hO : RS w base ok (.slice (some ⟨g, 0, none⟩) l.length cap) l) (hl : l.length < 1099511627776) (hcap : l.length ≤ cap)
    (hp : ∀ x ∈ l, ∀ w1, w.grownBy w1 (some g) → Runs Tryz.prog fv #[x.v] w1 fun e w2 => e = .returned (.bool (p x)) ∧ Below w1.heap.size w1 w2) :
    Calls Tryz.prog 112 #[.slice (some ⟨g, 0, none⟩) l.length cap, fv] w fun e w' => ∃ n, e = .returned (.slice (some ⟨g, 0, none⟩) n cap) ∧ RS w' base ok (.slice (some ⟨g, 0, none⟩) n cap) (l.filter fun x => !p x) ∧ w.grownBy w' (some g) := by
  have HO := Aside0.mk hO
  have HP := Aside0.mk hp
  have HX := Aside0.mk (indexFuncS step_bel (some ⟨g, 0, none⟩) cap l fv p w (Kd.R_reads' hO).2.2 (fun x hx w1 hw1 => (hp x hx w1 (grown_of_below hw1.out _)).mono fun e w2 hh => ⟨hh.1, ⟨hh.2⟩⟩))
  clear hO hp
  cases hk : l.findIdx? p with
  | none =>
    have hi : idxFromS p l 0 = -1 := by unfold idxFromS; rw [hk]
    have HF : Aside0 (l.filter (fun x => !p x) = l) := ⟨by
      rw [List.findIdx?_eq_none_iff] at hk
      rw [List.filter_eq_self]
      intro x hx
      simp [hk x hx]⟩
    rw [hi] at HX
    clear hi hk
    go_enter Tryz.func112, Tryz.ntmps112
    go_wp2_with (first | (go_at_call 108; refine HX.out.mono ?_; rintro e w1 ⟨rfl, hb1⟩; have HB := Aside0.mk hb1; clear hb1))
    go_ret
    exact ⟨_, rfl, by rw [HF.out]; exact Kd.R_below HO.out HB.out.out, grown_of_below HB.out.out _⟩
  | some k0 =>
    have hi : idxFromS p l 0 = (k0 : Int) := by unfold idxFromS; rw [hk]; simp
    rw [List.findIdx?_eq_some_iff_getElem] at hk
    obtain ⟨hk1, hk2, hk3⟩ := hk
    have HD0 : Aside0 (∀ W, Below w.heap.size w W → DelS w W base g cap l.length ok p l l k0 (k0 + 1)) := ⟨fun W hb => by
      have hf : (l.take k0).filter (fun x => !p x) = l.take k0 := by
        rw [List.filter_eq_self]
        intro x hx
        obtain ⟨t, ht, rfl⟩ := List.getElem_of_mem hx
        have ht2 : t < k0 := by rw [List.length_take] at ht; omega
        rw [List.getElem_take]
        have := hk3 t ht2
        simpa using this
      have e2 := filterS_snoc (fun x => !p x) l k0 hk1
      rw [rs_eq l k0 hk1, hk2, hf] at e2
      simp only [Bool.not_true, Bool.false_eq_true, if_false, List.append_nil] at e2
      exact ⟨Kd.R_below HO.out hb, rfl, by omega, by omega, by rw [e2], fun _ _ _ => rfl, grown_of_below hb _, by rw [e2, List.length_take]; omega⟩⟩
    rw [hi] at HX
    clear hi hk2 hk3
    go_enter Tryz.func112, Tryz.ntmps112
    go_wp2_with (first | (go_at_call 108; refine HX.out.mono ?_; rintro e w1 ⟨rfl, hb1⟩; have HB := Aside0.mk hb1; clear hb1))
    go_loopw [5, 6] (fun i j wr => ∃ (iN jN : Nat), iN < jN ∧ jN ≤ l.length ∧ i = .int .i64 (iN : Int) ∧ j = .int .i64 (jN : Int) ∧ Aside0 (∃ cur, DelS w wr base g cap l.length ok p l cur iN jN)) (fun _ j _ => l.length - (intOf j).toNat)
    case atStart => exact ⟨k0, k0 + 1, by omega, by omega, rfl, by go_num, ⟨l, HD0.out _ HB.out.out⟩⟩
    case round =>
      clear HB HD0 HX HO hk1
      obtain ⟨i, j, hij, hjn, rfl, rfl, ⟨cur, hd⟩⟩ := hrel
      have HD := Aside0.mk hd
      clear hd
      by_cases hlt : j < l.length
      · have hlen := HD.out.len
        obtain ⟨ad, hA, hc⟩ := at_sv (Kd.R_reads' HD.out.row).2.2 j (by omega) (by omega)
        obtain rfl := Option.some.inj hA
        rw [add_plain, HD.out.rest j (Nat.le_refl _) hlt, Int.toNat_natCast] at hc
        have hrun0 := HP.out (rs l j) (rs_mem l j hlt) wr HD.out.grown
        obtain ⟨x, hx⟩ : ∃ x, x = rs l j := ⟨_, rfl⟩
        rw [← hx] at hrun0 hc
        have hrun := Aside0.mk hrun0
        clear hrun0
        have HXX := Aside0.mk hx
        clear hx
        cases hpx : p x with
        | true =>
          rw [hpx] at hrun
          have HPX := Aside0.mk hpx
          clear hpx
          go_wp2_with (first
            | ((with_reducible refine gate_dst (N := 28) rfl ?_); refine goesV (some 28) rfl rfl rfl (fv := fv) rfl #[x.v] (by (try simp only [List.map_toArray, List.map_cons, List.map_nil]); rfl) ?_; refine hrun.out.mono ?_; rintro e w2 ⟨rfl, h2⟩; refine ⟨_, rfl, ?_⟩; have HD2 := Aside0.mk (HD.out.miss hlt rfl (by rw [← HXX.out]; exact HPX.out) h2); clear h2))
          go_roundw
          case rel => exact ⟨i, j + 1, by omega, by omega, rfl, by go_num, ⟨_, HD2.out⟩⟩
          case measure => simp [intOf]; omega
        | false =>
          rw [hpx] at hrun
          have HPX := Aside0.mk hpx
          clear hpx
          go_wp2_with (first
            | ((with_reducible refine gate_dst (N := 28) rfl ?_); refine goesV (some 28) rfl rfl rfl (fv := fv) rfl #[x.v] (by (try simp only [List.map_toArray, List.map_cons, List.map_nil]); rfl) ?_; refine hrun.out.mono ?_; rintro e w2 ⟨rfl, h2⟩; refine ⟨_, rfl, ?_⟩; have HB2 := Aside0.mk h2; clear h2)
            | ((with_reducible refine gate_store (t := 26) (p := 33) rfl ?_); refine putS' (w0 := _) (base := base) rfl rfl rfl (i : Int) cur x rfl (by rw [Int.toNat_natCast]) rfl (Kd.R_below HD.out.row HB2.out) (by omega) (by omega) (Below.refl _ _) ?_; intro w3 ho3 hb3 hg3; rw [Int.toNat_natCast, HXX.out] at ho3; have HD3 := Aside0.mk (HD.out.hit hlt rfl (by rw [← HXX.out]; exact HPX.out) HB2.out ho3 hg3); clear ho3 hb3 hg3))
          go_roundw
          case rel => exact ⟨i + 1, j + 1, by omega, by omega, by go_num, by go_num, ⟨_, HD3.out⟩⟩
          case measure => simp [intOf]; omega
      · obtain rfl : j = l.length := by omega
        have HCL : Aside0 (∀ ty, (Builtin.clear_ #[44] ty #[.slice (some ⟨g, i, none⟩) (l.length - i) (cap - i)]).run Tryz.prog wr = .ok (.tuple #[]) (wr.setCells g i (List.replicate (l.length - i) (.slice none 0 0)))) := ⟨fun ty => by
          have hcells : ∀ t, t < l.length - i → wr.cell? ⟨g, i + t, none⟩ = some (rs cur ((i + t : Nat) : Int)).v := fun t ht => by
            have hlen := HD.out.len
            obtain ⟨ad, hA, hc⟩ := at_sv (Kd.R_reads' HD.out.row).2.2 ((i + t : Nat) : Int) (by omega) (by omega)
            obtain rfl := Option.some.inj hA
            rw [add_plain, Int.toNat_natCast] at hc
            exact hc
          obtain ⟨cells, hblk⟩ := Kd.R_typed HD.out.row g (by simp [Value.ownBlock])
          exact Go.Lib.run_clear_slice wr _ _ ty _ Tryz.underlying44 (fun w => zero_sl' w) rfl rfl g i _ _ (by omega) (fun t ht => by rw [hcells t ht]; rfl) (fun t ht => by simp [World.frozen?, hblk])⟩
        obtain ⟨cur', hc1, hc2, hc3, hc4⟩ := clearedS (l.length - i) i wr cur HD.out.row HD.out.len (by omega)
        have HQ := Aside0.mk (And.intro hc1 (And.intro hc2 (And.intro hc3 hc4)))
        clear hc1 hc2 hc3 hc4
        have hcl := HCL.out
        have b1 : (i : Int) ≤ (l.length : Int) := by omega
        have b2 : (0 : Int) ≤ (i : Int) := by omega
        go_wp2
        go_ret
        obtain ⟨hc1, hc2, hc3, hc4⟩ := HQ.out
        refine ⟨i, rfl, ?_, HD.out.grown.trans hc4⟩
        have hk := HD.out.kept
        rw [List.take_length] at hk
        rw [← hk, ← hc3]
        exact Kd.R_take hc1 (by omega)
set_option maxRecDepth 100000 in
theorem c_deleteEmptyS (w : World) (A : Option Addr) (cap : Nat) (fv : Value) :
    Calls Tryz.prog 112 #[.slice A 0 cap, fv] w fun e w' => e = .returned (.slice A 0 cap) ∧ Below w.heap.size w w' := by
  have HX := Aside0.mk (indexFuncS step_bel A cap [] fv (fun _ => false) w ⟨rfl, by simp, fun h => absurd h (by simp)⟩ (fun x hx => by simp at hx))
  go_enter Tryz.func112, Tryz.ntmps112
  go_wp2_with (first | (go_at_call 108; refine HX.out.mono ?_; rintro e w1 ⟨rfl, hb1⟩; have HB := Aside0.mk hb1; clear hb1))
  go_ret
  exact ⟨rfl, HB.out.out⟩
theorem c_deleteAnyS (w : World) (base : Nat) (ok : Nat → Prop) (A : Option Addr) (cap : Nat) (l : List SV) (fv : Value) (p : SV → Bool) (hO : RS w base ok (.slice A l.length cap) l) (hl : l.length < 1099511627776)
    (hp : ∀ x ∈ l, ∀ w1, w.grownBy w1 (Value.slice A l.length cap).ownBlock → Runs Tryz.prog fv #[x.v] w1 fun e w2 => e = .returned (.bool (p x)) ∧ Below w1.heap.size w1 w2) :
    Calls Tryz.prog 112 #[.slice A l.length cap, fv] w fun e w' => ∃ n, e = .returned (.slice A n cap) ∧ RS w' base ok (.slice A n cap) (l.filter fun x => !p x) ∧ w.grownBy w' (Value.slice A l.length cap).ownBlock := by
  rcases Nat.eq_zero_or_pos l.length with h0 | h0
  · obtain rfl := List.eq_nil_of_length_eq_zero h0
    refine (c_deleteEmptyS w A cap fv).mono ?_
    rintro e w' ⟨rfl, hb⟩
    exact ⟨0, rfl, Kd.R_below hO hb, grown_of_below hb _⟩
  · obtain ⟨g, cap', e, _, _, _⟩ := Kd.R_form hO h0
    injection e with ea _ ec
    subst ea ec
    have hob : (Value.slice (some ⟨g, 0, none⟩) l.length cap).ownBlock = some g := by simp [Value.ownBlock]
    rw [hob] at hp ⊢
    have hcap := (Kd.R_reads' hO).2.1
    exact c_deleteFuncS w base g cap ok l fv p hO hl hcap hp
end Go.Proofs.YthfmlelodmcgkaaGreat.K
end
section
namespace Go.Proofs.YthfmlelodmcgkaaGreat.V
open Go Go.RowKit Go.Proofs.YthfmlelodmcgkaaGreatW.PrintWords Go.Proofs.YthfmlelodmcgkaaGreatW.PrintLast Go.Proofs.YthfmlelodmcgkaaGreatW.PrintMore
abbrev TstD := HT [Kn.sl 2 (.int .i64)] → Option Kn.bool.T
def tstD (f : TstD) (x : List Int) : Bool := (f (x, ())).getD false
def sp_deleteR : List Cv → List Obj' → Tree
  | [.one (.own 0), .one (.pf [.sl 2 (.int .i64)] .bool f)], [.drow 26 (.sl 2 (.int .i64)) l] => .need (l.length < 1099511627776 ∧ ∀ x ∈ (l : RowL), (f (x, ())).isSome = true) (.ret (ow 1) [.dead, .drow 26 (.sl 2 (.int .i64)) ((l : RowL).filter fun x => !tstD f x)])
  | _, _ => .fail
theorem sv_of {w : World} : ∀ {φ : Nat → Prop} {ps : List (List Int × List Value)}, DRp (DRep w kR) φ ps → ∃ svs : List K.SV, ps = svs.map fun s => (s.d, [s.v])
  | φ, [], _ => ⟨[], rfl⟩
  | φ, p :: r, ⟨φ1, φ2, h2, h3, h4, h5⟩ => by
    obtain ⟨svs, e⟩ := sv_of h3
    obtain ⟨u, xs, φ', hu, ho, _⟩ := h2
    obtain ⟨ad, c, e2, _⟩ := own_cells ho
    exact ⟨⟨u, p.1, by rw [e2]; rfl⟩ :: svs, by
      rw [List.map_cons, ← e]
      congr 1
      exact Prod.ext rfl hu⟩
theorem sv_flat (svs : List K.SV) : (svs.map fun s => (s.d, [s.v])).flatMap (·.2) = encs (fun s : K.SV => s.v) svs := by
  induction svs with
  | nil => rfl
  | cons s r ih => rw [List.map_cons, List.flatMap_cons, ih]; rfl
theorem pf_runsR {F : Nat → Prop} {w w1 : World} {f : TstD} {u : Value} {row : Option Nat} {ψ : Nat → Prop} {s : K.SV} (h : PFun Tryz.prog F w [kR] .bool f u) (hF : ∀ b, F b → b < w.heap.size) (hg : w.grownBy w1 row) (hr : ∀ b, row = some b → ¬ F b) (hd : DRep w kR ψ s.d [s.v]) (hr2 : ∀ b, row = some b → ¬ ψ b) (hs : (f (s.d, ())).isSome = true) :
    K.Runs Tryz.prog u #[s.v] w1 fun e w2 => e = .returned (.bool (tstD f s.d)) ∧ Below w1.heap.size w1 w2 := by
  obtain ⟨y, hy⟩ := Option.isSome_iff_exists.1 hs
  have ht : tstD f s.d = y := by unfold tstD; rw [hy]; rfl
  have hlt := hd.lt
  have hd1 : DRep w1 kR ψ s.d [s.v] := hd.move fun b hb => hg.block b (hlt b hb) (fun e => hr2 b e.symm hb)
  have hrep : Rep (fun b => F b ∨ ψ b) w1 kR s.d [s.v] := hd1.rep fun b hb => .inr hb
  obtain ⟨g, first, cap, e1, ⟨fn, f1, f2, f3⟩, e3⟩ := h w1 (fun b => F b ∨ ψ b) (fun b hb => hg.block b (hF b hb) (fun e => hr b e.symm hb)) (fun _ h => .inl h) (fun b hb => hb.elim (fun hb => Nat.lt_of_lt_of_le (hF b hb) hg.size) (fun hb => Nat.lt_of_lt_of_le (hlt b hb) hg.size)) (s.d, ()) y [s.v] ⟨_, _, rfl, ⟨by rw [K.sv_cells]; exact hrep, s.one⟩, rfl⟩ hy
  refine ⟨g, fn, first, cap, e1, f1, f2, f3, e3.mono ?_⟩
  rintro e w2 ⟨v, F'', rfl, ⟨k1, k2⟩, k3, _, _⟩
  have hv : v = .bool y := by
    have k1 : v.cells.toList = [.bool y] := k1
    have k2 : v.oneCell' = true := k2
    cases v <;> simp [Value.cells, Value.oneCell'] at k1 k2 ⊢ <;> exact k1
  rw [hv, ht]
  exact ⟨rfl, k3.os, k3.tape, k3.output, k3.size, fun k hk => k3.block k hk (fun h => by cases h)⟩
theorem good_deleteR : Good Tryz.prog 112 sp_deleteR := by
  intro E0 cs os0 vs Kc hF hD h16 hO hdis hnof ha hK
  have hI := Inv.enter hF hD h16 hO hdis hnof
  unfold sp_deleteR at hK
  split at hK
  case h_2 => exact hK.elim
  rename_i f l
  obtain ⟨u1, u2, rfl, hu1, hu2⟩ := two_args ha
  obtain ⟨⟨hD0, rfl⟩, hone⟩ := hu1
  obtain ⟨⟨h1, h2⟩, hK⟩ := hK
  obtain ⟨⟨xs, φ', k1, k2, k3, k4, k5⟩, _⟩ := hO 0 (by simp)
  obtain ⟨ps, e1, e2, hps⟩ := k2.pairs
  obtain ⟨svs, rfl⟩ := sv_of hps
  have el : l = svs.map (·.d) := by rw [e1, List.map_map]; rfl
  rw [sv_flat] at e2
  subst e2
  have hll : l.length = svs.length := by rw [el, List.length_map]
  rw [hll] at k1
  obtain ⟨A, c, e⟩ : ∃ A c, E0.σ 0 = .slice A svs.length c := by
    obtain ⟨ad, c, e, _⟩ := own_cells k1
    exact ⟨ad, c, e⟩
  have hRS : K.RS E0.w 0 (fun _ => True) (.slice A svs.length c) svs := by
    rw [← e]
    exact Kd.R_of_own (h1 := K.sv_one) k1 (fun _ _ => trivial)
  have hPF : PFun Tryz.prog E0.F E0.w [kR] .bool f u2 := hu2.1
  have hob : ∀ b, (Value.slice A svs.length c).ownBlock = some b → blkOf (E0.σ 0) = some b := fun b hb => by
    rw [e]
    cases A with
    | none => simp [Value.ownBlock] at hb
    | some a => simpa [Value.ownBlock, blkOf] using hb
  have hcall := K.c_deleteAnyS E0.w 0 (fun _ => True) A c svs u2 (fun s => tstD f s.d) hRS (by omega) (fun s hs w1 hg => by
    obtain ⟨ψ, q1, q2⟩ := hps.mem (List.mem_map.2 ⟨s, hs, rfl⟩)
    exact pf_runsR hPF hF hg (fun b hb => hnof 0 (by simp) b ((k4 b).2 (.inl (hob b hb)))) q1 (fun b hb hq => k5 b (hob b hb) (q2 b hq)) (h2 s.d (by rw [el]; exact List.mem_map.2 ⟨s, hs, rfl⟩)))
  rw [← e] at hcall
  refine hcall.mono ?_
  rintro e' w' ⟨n, rfl, hR, hg⟩
  have hbl : blkOf (.slice A n c) = blkOf (.slice A svs.length c) := by cases A <;> rfl
  have hflt : l.filter (fun x => !tstD f x) = (svs.filter fun s => !tstD f s.d).map (·.d) := by
    rw [el, List.filter_map]; rfl
  have hown := Kd.own_of_R (h1 := K.sv_one) hR
  obtain ⟨ψ, hψ, hsub⟩ := hps.filter (fun p => !tstD f p.1)
  have hpf : (svs.map fun s => (s.d, [s.v])).filter (fun p => !tstD f p.1) = (svs.filter fun s => !tstD f s.d).map fun s => (s.d, [s.v]) := by
    rw [List.filter_map]; rfl
  rw [hpf] at hψ
  have hdr := hψ.dr
  rw [sv_flat, List.map_map] at hdr
  have hdr : DR (DRep E0.w kR) ψ ((svs.filter fun s => !tstD f s.d).map (·.d)) (encs (fun s : K.SV => s.v) (svs.filter fun s => !tstD f s.d)) := hdr
  generalize (svs.filter fun s => !tstD f s.d) = fs at *
  have hlt : ∀ b, φ' b → b < E0.w.heap.size := DR.all (p := fun b => b < E0.w.heap.size) (fun ψ x c h => h.lt) k2
  have hdr1 : DR (DRep w' kR) ψ (fs.map (·.d)) (encs (fun s : K.SV => s.v) fs) := hdr.imp fun χ x c hχ h => h.move fun b hb => by
    refine hg.block b (hlt b (hsub b (hχ b hb))) (fun e0 => ?_)
    rw [e] at e0
    exact k5 b (hob b e0.symm) (hsub b (hχ b hb))
  have hlf : (fs.map (·.d)).length ≤ maxLen := by
    have : (l.filter fun x => !tstD f x).length ≤ l.length := List.length_filter_le _ _
    rw [hflt] at this
    omega
  obtain ⟨E', m1, m2, m3, m4, m5⟩ := hI.move (i := 0) (d := 1) (w' := w') (o := .drow 26 kR l) rfl rfl rfl (fun h => by have := (hD 1).1 h; simp at this) (by rw [e] at hg; exact hg) (fun b hb => (k4 b).2 (.inl (hob b hb))) (.slice A n c) (fun b => blkOf (.slice A n c) = some b ∨ ψ b) (fun _ => undef) (.drow 26 kR (fs.map (·.d))) (fun b hb => .inl (by
      rw [k4, e, ← hbl]
      exact hb.imp id (hsub b))) (fun E' hle hw' => ⟨_, ψ, by rw [hw', List.length_map]; exact hown, by rw [hw']; exact hdr1, hlf, fun _ => Iff.rfl, fun b hb h => k5 b (by rw [e, ← hbl]; exact hb) (hsub b h)⟩)
  rw [hflt] at hK
  exact ⟨_, _, _, E', rfl, hK, by simp, m1, m3.congr (fun j => by
    simp only [numb]
    by_cases e0 : 0 = j
    · subst e0; rfl
    · by_cases e1 : 1 = j
      · subst e1; rfl
      · simp only [lk_ne _ _ e0, lk_ne _ _ e1]), ⟨⟨m4, m5.symm⟩, rfl⟩⟩
def c_deleteR : Ctr Tryz.prog := ⟨112, ent Tryz.func112 rfl rfl, [true], sp_deleteR, good_deleteR, []⟩
@[go_sem] theorem c_deleteR_f : c_deleteR.f = 112 := rfl
@[go_sem] theorem c_deleteR_ms : c_deleteR.ms = [true] := rfl
@[go_sem] theorem c_deleteR_sp : c_deleteR.spec = sp_deleteR := rfl
@[go_sem] theorem c_deleteR_fz : c_deleteR.fz = [] := rfl
attribute [go_sem] sp_deleteR
end Go.Proofs.YthfmlelodmcgkaaGreat.V
end
section
namespace Go.Proofs.YthfmlelodmcgkaaGreat.V
open Go
def sp_dia1 : List Cv → List Obj' → Tree
  | [.one (.ro (.int .i64) w)], [] => .need (w.length < 1099511627776 ∧ Go.Proofs.YthfmlelodmcgkaaGreat.K.normalL w = w) (.ret (vb (!decide (leastL w = w))) [])
  | _, _ => .fail
set_option maxHeartbeats 4000000 in
set_option maxRecDepth 100000 in
theorem good_dia1 : Good Tryz.prog 113 sp_dia1 := by
  refine good_ofF Tryz.func113 rfl _ rfl _ rfl (tab [c_isDia]) (fun X cs os0 K hok hos hK => ?_)
  clear hos; unfold sp_dia1 at hK
  split at hK
  case h_2 => exact hK.elim
  rename_i w
  refine ⟨by simp, by simp, ?_⟩
  simp only [go_sem] at hK hok
  simp (maxSteps := 4000000) only [go_sem, Tryz.f113, ↓brB_t, ↓brB_f, Nat.reduceAdd, Int.reduceLE, Int.reduceLT, Int.reduceNeg, decide_true, decide_false, Bool.and_self, Nat.succ_eq_add_one, Int.toNat_natCast, Nat.beq_refl, Bool.and_true, Bool.true_and, Bool.false_or, Bool.or_true, List.all_cons, List.all_nil, Nat.reduceMul, Nat.add_zero, Nat.zero_add, List.length_nil, List.length_cons, dite_true, List.nil_append, Nat.reduceBEq, reduceDIte, reduceIte, reduceCtorEq, Bool.or_false, Bool.true_or, Bool.and_false, Bool.false_and, Bool.not_true, Bool.not_false, Option.isSome_some, Option.isSome_none, Option.getD_some, List.getElem?_cons_zero, List.getElem?_cons_succ, eq_self, and_self, List.take_succ_cons, List.take_zero, List.drop_succ_cons, List.drop_zero]
  exact ⟨hK.1, ret0 hK.2⟩
def diaP (x : HT [Kn.sl 2 (.int .i64)]) : Option Bool := if (x.1 : List Int).length < 1099511627776 ∧ Go.Proofs.YthfmlelodmcgkaaGreat.K.normalL x.1 = x.1 then some (!decide (leastL x.1 = x.1)) else none
def p_dia1 : PF0 Tryz.prog := ⟨113, entB Tryz.func113 rfl rfl, [.sl 2 (.int .i64)], .bool, diaP, sp_dia1, good_dia1, fun xs y h K hK => by
  unfold diaP at h
  split at h
  · rename_i hc
    injection h with h; subst h
    exact ⟨hc, hK⟩
  · cases h⟩
@[go_sem] theorem p_dia1_f : p_dia1.f = 113 := rfl
@[go_sem] theorem p_dia1_v : Rv.val (.one (.pf p_dia1.ks p_dia1.r p_dia1.g)) = Rv.val (.one (.pf [.sl 2 (.int .i64)] .bool diaP)) := rfl
theorem dia_flt {n : Nat} (hn : n ≤ 6) : (∀ x ∈ allL n, (diaP (x, ())).isSome = true) ∧ ((allL n).filter fun x => !tstD diaP x) = diaL n := by
  have key : ∀ x ∈ allL n, diaP (x, ()) = some (!decide (leastL x = x)) := fun x hx => by
    obtain ⟨h1, h2⟩ := all_isW hn hx
    exact if_pos ⟨by show x.length < _; omega, isW_normal h1⟩
  refine ⟨fun x hx => by rw [key x hx]; rfl, List.filter_congr fun x hx => ?_⟩
  unfold tstD
  rw [key x hx]
  show (!!decide (leastL x = x)) = _
  rw [Bool.not_not]
def sp_dias : List Cv → List Obj' → Tree
  | [.one (.v (.int .i64 n))], [] => .need (0 ≤ n ∧ n ≤ 5) (.ret (ow 0) [.drow 26 (.sl 2 (.int .i64)) (diaL n.toNat)])
  | _, _ => .fail
set_option maxHeartbeats 4000000 in
set_option maxRecDepth 100000 in
theorem good_dias : Good Tryz.prog 73 sp_dias := by
  refine good_ofF Tryz.func73 rfl _ rfl _ rfl (tab [c_words, c_deleteR] [p_dia1]) (fun X cs os0 K hok hos hK => ?_)
  clear hos; unfold sp_dias at hK
  split at hK
  case h_2 => exact hK.elim
  rename_i n
  refine ⟨by simp, by simp, ?_⟩
  simp only [go_sem] at hK hok
  simp (maxSteps := 4000000) only [go_sem, Tryz.f73, ↓brB_t, ↓brB_f, Nat.reduceAdd, Int.reduceLE, Int.reduceLT, Int.reduceNeg, decide_true, decide_false, Bool.and_self, Nat.succ_eq_add_one, Int.toNat_natCast, Nat.beq_refl, Bool.and_true, Bool.true_and, Bool.false_or, Bool.or_true, List.all_cons, List.all_nil, Nat.reduceMul, Nat.add_zero, Nat.zero_add, List.length_nil, List.length_cons, dite_true, List.nil_append, Nat.reduceBEq, reduceDIte, reduceIte, reduceCtorEq, Bool.or_false, Bool.true_or, Bool.and_false, Bool.false_and, Bool.not_true, Bool.not_false, Option.isSome_some, Option.isSome_none, Option.getD_some, List.getElem?_cons_zero, List.getElem?_cons_succ, eq_self, and_self, List.take_succ_cons, List.take_zero, List.drop_succ_cons, List.drop_zero]
  obtain ⟨⟨h0, h5⟩, hK⟩ := hK
  clear hok
  obtain ⟨N, rfl⟩ : ∃ N : Nat, n = N := ⟨n.toNat, by omega⟩
  rw [Int.toNat_natCast] at hK ⊢
  have hl := allL_len (N := N) (by omega)
  have hf := dia_flt (n := N) (by omega)
  rw [hf.2]
  exact ⟨⟨h0, h5⟩, ⟨by omega, hf.1⟩, retN [96] rfl hK⟩
def c_dias : Ctr Tryz.prog := ⟨73, ent Tryz.func73 rfl rfl, [], sp_dias, good_dias, []⟩
@[go_sem] theorem c_dias_f : c_dias.f = 73 := rfl
@[go_sem] theorem c_dias_ms : c_dias.ms = [] := rfl
@[go_sem] theorem c_dias_sp : c_dias.spec = sp_dias := rfl
@[go_sem] theorem c_dias_fz : c_dias.fz = [] := rfl
attribute [go_sem] sp_dias
def sp_diasS : List Cv → List Obj' → Tree
  | [.one (.v (.int .i64 n))], [] => .need (0 ≤ n ∧ n ≤ 5) (.ret (.val (.one (.ro (.sl 2 (.int .i64)) (diaL n.toNat)))) [])
  | _, _ => .fail
set_option maxHeartbeats 4000000 in
set_option maxRecDepth 100000 in
theorem good_diasS : Good Tryz.prog 50 sp_diasS := by
  refine good_ofF Tryz.func50 rfl _ rfl _ rfl (tab [c_all, c_leastS, c_l01Same]) (fun X cs os0 K hok hos hK => ?_)
  clear hos; unfold sp_diasS at hK
  split at hK
  case h_2 => exact hK.elim
  rename_i n
  refine ⟨by simp, by simp, ?_⟩
  simp only [go_sem] at hK hok
  simp (maxSteps := 4000000) only [go_sem, Tryz.f50, ↓brB_t, ↓brB_f, Nat.reduceAdd, Int.reduceLE, Int.reduceLT, Int.reduceNeg, decide_true, decide_false, Bool.and_self, Nat.succ_eq_add_one, Int.toNat_natCast, Nat.beq_refl, Bool.and_true, Bool.true_and, Bool.false_or, Bool.or_true, List.all_cons, List.all_nil, Nat.reduceMul, Nat.add_zero, Nat.zero_add, List.length_nil, List.length_cons, dite_true, List.nil_append, Nat.reduceBEq, reduceDIte, reduceIte, reduceCtorEq, Bool.or_false, Bool.true_or, Bool.and_false, Bool.false_and, Bool.not_true, Bool.not_false, Option.isSome_some, Option.isSome_none, Option.getD_some, List.getElem?_cons_zero, List.getElem?_cons_succ, eq_self, and_self, List.take_succ_cons, List.take_zero, List.drop_succ_cons, List.drop_zero]
  obtain ⟨⟨h0, h5⟩, hK⟩ := hK
  clear hok
  obtain ⟨N, rfl⟩ : ∃ N : Nat, n = N := ⟨n.toNat, by omega⟩
  rw [Int.toNat_natCast] at hK ⊢
  have hl := allL_len (N := N) (by omega)
  refine ⟨⟨h0, h5⟩, ?_⟩
  refine holds_sub (sub_flat (i := 144) (t := tRR) (k := kR) rfl) ?_
  refine loop_okF (T := tab [c_all, c_leastS, c_l01Same]) [0, 3, 4, 5] [(16, 144)] (fun i : Nat => ⟨33, [(0, vi N), (3, .val (.one (.ro kR (allL N)))), (4, ow 16), (5, vi i)], [(16, .row tRR kR (((allL N).take i).filter fun w => decide (leastL w = w)))]⟩)
    (fun i => i ≤ (allL N).length) (fun i => (allL N).length - i) 0 rfl rfl (Nat.zero_le _) (fun i hi => ?_)
  simp only [go_sem, ↓brB_t, ↓brB_f, Nat.reduceAdd, Int.reduceLE, Int.reduceLT, Int.reduceNeg, decide_true, decide_false, Bool.and_self, Nat.succ_eq_add_one, Int.toNat_natCast, Nat.beq_refl, Bool.and_true, Bool.true_and, Bool.false_or, Bool.or_true, List.all_cons, List.all_nil, Nat.reduceMul, Nat.add_zero, Nat.zero_add, List.length_nil, List.length_cons, dite_true, List.nil_append, Nat.reduceBEq, reduceDIte, reduceIte, reduceCtorEq, Bool.or_false, Bool.true_or, Bool.and_false, Bool.false_and, Bool.not_true, Bool.not_false, Option.isSome_some, Option.isSome_none, Option.getD_some, List.getElem?_cons_zero, List.getElem?_cons_succ, eq_self, and_self, List.take_succ_cons, List.take_zero, List.drop_succ_cons, List.drop_zero]
  have hfl := List.length_filter_le (fun w => decide (leastL w = w)) ((allL N).take i)
  rw [List.length_take] at hfl
  have hfb : (((allL N).take i).filter fun w => decide (leastL w = w)).length + 1 ≤ 1099511627776 := by omega
  refine brB_intro (fun h1 => ?_) (fun h1 => ?_)
  · have h1 := of_decide_eq_true h1
    have hi1 : i < (allL N).length := by omega
    have hw1 : w64 ((i : Int) + 1) = ((i + 1 : Nat) : Int) := w64_id (by omega) (by omega)
    have hg : (allL N).getD i [] = (allL N)[i] := by rw [List.getD_eq_getElem?_getD, List.getElem?_eq_getElem hi1]; rfl
    obtain ⟨k1, k2⟩ := all_isW (n := N) (by omega) (List.getElem_mem hi1)
    have hfs : ((allL N).take (i + 1)).filter (fun w => decide (leastL w = w)) = ((allL N).take i).filter (fun w => decide (leastL w = w)) ++ if decide (leastL (allL N)[i] = (allL N)[i]) then [(allL N)[i]] else [] := by
      rw [List.take_succ_eq_append_getElem hi1, List.filter_append, List.filter_cons]
      split <;> rfl
    rw [hg, hw1]
    have hn := isW_normal k1
    have hw12 := isW_l12 k1
    generalize (allL N)[i] = w at *
    refine ⟨⟨by omega, by omega⟩, ⟨Nat.lt_of_le_of_lt hw12 (by decide), hn⟩, ⟨by omega, by omega⟩, by kernel_rfl, brB_intro (fun h2 => ?_) (fun h2 => ?_)⟩
    · rw [if_pos h2] at hfs
      refine ⟨⟨by omega, by omega⟩, hfb, i + 1, [(16, 512)], by omega, by omega, rfl, ?_⟩
      rw [hfs]; rfl
    · rw [if_neg (by rw [h2]; decide), List.append_nil] at hfs
      refine ⟨i + 1, [(16, 16)], by omega, by omega, rfl, ?_⟩
      rw [hfs]; rfl
  · have h1 := of_decide_eq_false h1
    have e : i = (allL N).length := by omega
    rw [e, List.take_length]
    exact retN [] rfl hK
def c_diasS : Ctr Tryz.prog := ⟨50, ent Tryz.func50 rfl rfl, [], sp_diasS, good_diasS, []⟩
@[go_sem] theorem c_diasS_f : c_diasS.f = 50 := rfl
@[go_sem] theorem c_diasS_ms : c_diasS.ms = [] := rfl
@[go_sem] theorem c_diasS_sp : c_diasS.spec = sp_diasS := rfl
@[go_sem] theorem c_diasS_fz : c_diasS.fz = [] := rfl
attribute [go_sem] sp_diasS
end Go.Proofs.YthfmlelodmcgkaaGreat.V
end
section
namespace Go.Proofs.YthfmlelodmcgkaaGreat.V
open Go
abbrev kTerm : Kn := .pr (.sl 2 (.int .i64)) (.int .i64)
abbrev TermL := List (List Int × Int)
abbrev tI : Nat := 87
theorem snb {b : Bool} (h : (!b) = true) : b = false := by simpa using h
theorem snb' {b : Bool} (h : (!b) = false) : b = true := by simpa using h
def sp_toTerm : List Cv → List Obj' → Tree
  | [.agg [.ro (.int .i64) w, .v (.int .i64 v)]], [] => .need (w.length ≤ 1099511627776) (.ret (.val (.agg [.own 0, .v (.int .i64 v)])) [rwi w])
  | _, _ => .fail
set_option maxHeartbeats 4000000 in
set_option maxRecDepth 100000 in
theorem good_toTerm : Good Tryz.prog 89 sp_toTerm := by
  refine good_ofF Tryz.func89 rfl _ rfl _ rfl (tab [c_to]) (fun X cs os0 K hok hos hK => ?_)
  clear hos; unfold sp_toTerm at hK
  split at hK
  case h_2 => exact hK.elim
  rename_i w v
  refine ⟨by simp, by simp, ?_⟩
  simp only [go_sem] at hK hok
  simp (maxSteps := 4000000) only [go_sem, Tryz.f89, ↓brB_t, ↓brB_f, Nat.reduceAdd, Int.reduceLE, Int.reduceLT, Int.reduceNeg, decide_true, decide_false, Bool.and_self, Nat.succ_eq_add_one, Int.toNat_natCast, Nat.beq_refl, Bool.and_true, Bool.true_and, Bool.false_or, Bool.or_true, List.all_cons, List.all_nil, Nat.reduceMul, Nat.add_zero, Nat.zero_add, List.length_nil, List.length_cons, dite_true, List.nil_append, Nat.reduceBEq, reduceDIte, reduceIte, reduceCtorEq, Bool.or_false, Bool.true_or, Bool.and_false, Bool.false_and, Bool.not_true, Bool.not_false, Option.isSome_some, Option.isSome_none, Option.getD_some, List.getElem?_cons_zero, List.getElem?_cons_succ, eq_self, and_self, List.take_succ_cons, List.take_zero, List.drop_succ_cons, List.drop_zero]
  exact ⟨hK.1, retN [112] rfl hK.2⟩
def c_toTerm : Ctr Tryz.prog := ⟨89, ent Tryz.func89 rfl rfl, [], sp_toTerm, good_toTerm, []⟩
@[go_sem] theorem c_toTerm_f : c_toTerm.f = 89 := rfl
@[go_sem] theorem c_toTerm_ms : c_toTerm.ms = [] := rfl
@[go_sem] theorem c_toTerm_sp : c_toTerm.spec = sp_toTerm := rfl
@[go_sem] theorem c_toTerm_fz : c_toTerm.fz = [] := rfl
attribute [go_sem] sp_toTerm
def cpT (l : TermL) (i : Nat) : TermL := l.take i ++ List.replicate (l.length - i) ([], 0)
theorem cpT_len {l : TermL} {i : Nat} (h : i ≤ l.length) : (cpT l i).length = l.length := by
  rw [cpT, List.length_append, List.length_take, List.length_replicate]; omega
theorem cpT_s {l : TermL} {i : Nat} (h : i < l.length) : (cpT l i).set i (l.getD i ([], 0)) = cpT l (i + 1) := by
  unfold cpT
  have e : l.length - i = (l.length - (i + 1)) + 1 := by omega
  rw [e, List.replicate_succ, List.set_append_right _ _ (by simp; omega)]
  simp only [List.length_take, Nat.min_eq_left (Nat.le_of_lt h), Nat.sub_self, List.set_cons_zero]
  rw [List.take_succ_eq_append_getElem h, List.append_assoc]
  simp [List.getD_eq_getElem?_getD, h]
theorem cpT_all (l : TermL) : cpT l l.length = l := by rw [cpT, Nat.sub_self, List.take_length, List.replicate_zero, List.append_nil]
theorem getD_memT {l : TermL} {i : Nat} (h : i < l.length) : l.getD i ([], 0) ∈ l := by rw [List.getD_eq_getElem?_getD, List.getElem?_eq_getElem h]; exact List.getElem_mem _
def sp_toTermS : List Cv → List Obj' → Tree
  | [.one (.ro (.pr (.sl 2 (.int .i64)) (.int .i64)) ts)], [] => .need (ts.length ≤ 1099511627776 ∧ ∀ x ∈ (ts : TermL), x.1.length ≤ 1099511627776) (.ret (ow 0) [.drow 87 (.pr (.sl 2 (.int .i64)) (.int .i64)) ts])
  | _, _ => .fail
set_option maxHeartbeats 4000000 in
set_option maxRecDepth 100000 in
theorem good_toTermS : Good Tryz.prog 51 sp_toTermS := by
  refine good_ofF Tryz.func51 rfl _ rfl _ rfl (tab [c_toTerm]) (fun X cs os0 K hok hos hK => ?_)
  clear hos; unfold sp_toTermS at hK
  split at hK
  case h_2 => exact hK.elim
  rename_i ts
  refine ⟨by simp, by simp, ?_⟩
  simp only [go_sem] at hK hok
  simp (maxSteps := 4000000) only [go_sem, Tryz.f51, ↓brB_t, ↓brB_f, Nat.reduceAdd, Int.reduceLE, Int.reduceLT, Int.reduceNeg, decide_true, decide_false, Bool.and_self, Nat.succ_eq_add_one, Int.toNat_natCast, Nat.beq_refl, Bool.and_true, Bool.true_and, Bool.false_or, Bool.or_true, List.all_cons, List.all_nil, Nat.reduceMul, Nat.add_zero, Nat.zero_add, List.length_nil, List.length_cons, dite_true, List.nil_append, Nat.reduceBEq, reduceDIte, reduceIte, reduceCtorEq, Bool.or_false, Bool.true_or, Bool.and_false, Bool.false_and, Bool.not_true, Bool.not_false, Option.isSome_some, Option.isSome_none, Option.getD_some, List.getElem?_cons_zero, List.getElem?_cons_succ, eq_self, and_self, List.take_succ_cons, List.take_zero, List.drop_succ_cons, List.drop_zero]
  obtain ⟨⟨hl, hw⟩, hK⟩ := hK
  clear hok
  refine ⟨⟨by omega, by omega, trivial⟩, ?_⟩
  refine loop_okF (T := tab [c_toTerm]) [0, 3, 4] [(16, 128)] (fun i : Nat => ⟨23, [(0, .val (.one (.ro kTerm ts))), (3, ow 16), (4, vi i)], [(16, .drow tI kTerm (cpT ts i))]⟩)
    (fun i => i ≤ ts.length) (fun i => ts.length - i) 0 rfl rfl (Nat.zero_le _) (fun i hi => ?_)
  have hcl := cpT_len hi
  simp only [go_sem, ↓brB_t, ↓brB_f, Nat.reduceAdd, Int.reduceLE, Int.reduceLT, Int.reduceNeg, decide_true, decide_false, Bool.and_self, Nat.succ_eq_add_one, Int.toNat_natCast, Nat.beq_refl, Bool.and_true, Bool.true_and, Bool.false_or, Bool.or_true, List.all_cons, List.all_nil, Nat.reduceMul, Nat.add_zero, Nat.zero_add, List.length_nil, List.length_cons, dite_true, List.nil_append, Nat.reduceBEq, reduceDIte, reduceIte, reduceCtorEq, Bool.or_false, Bool.true_or, Bool.and_false, Bool.false_and, Bool.not_true, Bool.not_false, Option.isSome_some, Option.isSome_none, Option.getD_some, List.getElem?_cons_zero, List.getElem?_cons_succ, eq_self, and_self, List.take_succ_cons, List.take_zero, List.drop_succ_cons, List.drop_zero]
  refine brB_intro (fun h1 => ?_) (fun h1 => retN [16] rfl ?_)
  · have h1 := of_decide_eq_true h1
    refine ⟨⟨by omega, by omega⟩, hw _ (getD_memT (by omega)), ⟨by omega, by omega⟩, i + 1, [(16, 16)], by omega, by omega, rfl, ?_⟩
    have e := cpT_s (l := ts) (i := i) (by omega)
    have hs : w64 ((i : Int) + 1) = ((i + 1 : Nat) : Int) := w64_s (n := ts.length) (by omega) (by omega)
    rw [hs, ← e]; rfl
  · have h1 := of_decide_eq_false h1
    have e : i = ts.length := by omega
    rw [e, cpT_all]; exact hK
def c_toTermS : Ctr Tryz.prog := ⟨51, ent Tryz.func51 rfl rfl, [], sp_toTermS, good_toTermS, []⟩
@[go_sem] theorem c_toTermS_f : c_toTermS.f = 51 := rfl
@[go_sem] theorem c_toTermS_ms : c_toTermS.ms = [] := rfl
@[go_sem] theorem c_toTermS_sp : c_toTermS.spec = sp_toTermS := rfl
@[go_sem] theorem c_toTermS_fz : c_toTermS.fz = [] := rfl
attribute [go_sem] sp_toTermS
def sp_toSum : List Cv → List Obj' → Tree
  | [.agg [.v (.int .i64 p), .ro (.pr (.sl 2 (.int .i64)) (.int .i64)) ts]], [] => .need (ts.length ≤ 1099511627776 ∧ ∀ x ∈ (ts : TermL), x.1.length ≤ 1099511627776) (.ret (.val (.agg [.v (.int .i64 p), .own 0])) [.drow 87 (.pr (.sl 2 (.int .i64)) (.int .i64)) ts])
  | _, _ => .fail
set_option maxHeartbeats 4000000 in
set_option maxRecDepth 100000 in
theorem good_toSum : Good Tryz.prog 15 sp_toSum := by
  refine good_ofF Tryz.func15 rfl _ rfl _ rfl (tab [c_toTermS]) (fun X cs os0 K hok hos hK => ?_)
  clear hos; unfold sp_toSum at hK
  split at hK
  case h_2 => exact hK.elim
  rename_i p ts
  refine ⟨by simp, by simp, ?_⟩
  simp only [go_sem] at hK hok
  simp (maxSteps := 4000000) only [go_sem, Tryz.f15, ↓brB_t, ↓brB_f, Nat.reduceAdd, Int.reduceLE, Int.reduceLT, Int.reduceNeg, decide_true, decide_false, Bool.and_self, Nat.succ_eq_add_one, Int.toNat_natCast, Nat.beq_refl, Bool.and_true, Bool.true_and, Bool.false_or, Bool.or_true, List.all_cons, List.all_nil, Nat.reduceMul, Nat.add_zero, Nat.zero_add, List.length_nil, List.length_cons, dite_true, List.nil_append, Nat.reduceBEq, reduceDIte, reduceIte, reduceCtorEq, Bool.or_false, Bool.true_or, Bool.and_false, Bool.false_and, Bool.not_true, Bool.not_false, Option.isSome_some, Option.isSome_none, Option.getD_some, List.getElem?_cons_zero, List.getElem?_cons_succ, eq_self, and_self, List.take_succ_cons, List.take_zero, List.drop_succ_cons, List.drop_zero]
  exact ⟨hK.1, retN [160] rfl hK.2⟩
def c_toSum : Ctr Tryz.prog := ⟨15, ent Tryz.func15 rfl rfl, [], sp_toSum, good_toSum, []⟩
@[go_sem] theorem c_toSum_f : c_toSum.f = 15 := rfl
@[go_sem] theorem c_toSum_ms : c_toSum.ms = [] := rfl
@[go_sem] theorem c_toSum_sp : c_toSum.spec = sp_toSum := rfl
@[go_sem] theorem c_toSum_fz : c_toSum.fz = [] := rfl
attribute [go_sem] sp_toSum
def sp_eqTerm : List Cv → List Obj' → Tree
  | [.agg [.ro (.int .i64) w, .v (.int .i64 v)], .agg [.ro (.int .i64) w', .v (.int .i64 v')]], [] => .ret (vb (decide ((w : List Int) = w') && decide (v = v'))) []
  | _, _ => .fail
set_option maxHeartbeats 4000000 in
set_option maxRecDepth 100000 in
theorem good_eqTerm : Good Tryz.prog 97 sp_eqTerm := by
  refine good_ofF Tryz.func97 rfl _ rfl _ rfl (tab [c_eqS]) (fun X cs os0 K hok hos hK => ?_)
  clear hos; unfold sp_eqTerm at hK
  split at hK
  case h_2 => exact hK.elim
  rename_i w v w' v'
  refine ⟨by simp, by simp, ?_⟩
  simp only [go_sem] at hK hok
  simp (maxSteps := 4000000) only [go_sem, Tryz.f97, ↓brB_t, ↓brB_f, Nat.reduceAdd, Int.reduceLE, Int.reduceLT, Int.reduceNeg, decide_true, decide_false, Bool.and_self, Nat.succ_eq_add_one, Int.toNat_natCast, Nat.beq_refl, Bool.and_true, Bool.true_and, Bool.false_or, Bool.or_true, List.all_cons, List.all_nil, Nat.reduceMul, Nat.add_zero, Nat.zero_add, List.length_nil, List.length_cons, dite_true, List.nil_append, Nat.reduceBEq, reduceDIte, reduceIte, reduceCtorEq, Bool.or_false, Bool.true_or, Bool.and_false, Bool.false_and, Bool.not_true, Bool.not_false, Option.isSome_some, Option.isSome_none, Option.getD_some, List.getElem?_cons_zero, List.getElem?_cons_succ, eq_self, and_self, List.take_succ_cons, List.take_zero, List.drop_succ_cons, List.drop_zero]
  refine brB_intro (fun h => ret0 (by rw [snb h] at hK; exact hK)) (fun h => brB_intro (fun h2 => ret0 (by rw [snb' h, snb h2] at hK; exact hK)) (fun h2 => ret0 (by rw [snb' h, snb' h2] at hK; exact hK)))
def c_eqTerm : Ctr Tryz.prog := ⟨97, ent Tryz.func97 rfl rfl, [], sp_eqTerm, good_eqTerm, []⟩
@[go_sem] theorem c_eqTerm_f : c_eqTerm.f = 97 := rfl
@[go_sem] theorem c_eqTerm_ms : c_eqTerm.ms = [] := rfl
@[go_sem] theorem c_eqTerm_sp : c_eqTerm.spec = sp_eqTerm := rfl
@[go_sem] theorem c_eqTerm_fz : c_eqTerm.fz = [] := rfl
attribute [go_sem] sp_eqTerm
def sp_eqTermS : List Cv → List Obj' → Tree
  | [.one (.ro (.pr (.sl 2 (.int .i64)) (.int .i64)) ts), .one (.ro (.pr (.sl 2 (.int .i64)) (.int .i64)) us)], [] => .ret (vb (decide ((ts : TermL) = us))) []
  | _, _ => .fail
theorem takeT_s {l m : TermL} {i : Nat} (h : i < l.length) (hm : i < m.length) (e : l.take i = m.take i) (e1 : l.getD i ([], 0) = m.getD i ([], 0)) : l.take (i + 1) = m.take (i + 1) := by
  rw [List.take_succ_eq_append_getElem h, List.take_succ_eq_append_getElem hm, e]
  rw [List.getD_eq_getElem?_getD, List.getD_eq_getElem?_getD, List.getElem?_eq_getElem h, List.getElem?_eq_getElem hm] at e1
  congr 2
set_option maxHeartbeats 4000000 in
set_option maxRecDepth 100000 in
theorem good_eqTermS : Good Tryz.prog 56 sp_eqTermS := by
  refine good_ofF Tryz.func56 rfl _ rfl _ rfl (tab [c_eqTerm]) (fun X cs os0 K hok hos hK => ?_)
  clear hos; unfold sp_eqTermS at hK
  split at hK
  case h_2 => exact hK.elim
  rename_i ts us
  refine ⟨by simp, by simp, ?_⟩
  simp only [go_sem] at hK hok
  simp (maxSteps := 4000000) only [go_sem, Tryz.f56, ↓brB_t, ↓brB_f, Nat.reduceAdd, Int.reduceLE, Int.reduceLT, Int.reduceNeg, decide_true, decide_false, Bool.and_self, Nat.succ_eq_add_one, Int.toNat_natCast, Nat.beq_refl, Bool.and_true, Bool.true_and, Bool.false_or, Bool.or_true, List.all_cons, List.all_nil, Nat.reduceMul, Nat.add_zero, Nat.zero_add, List.length_nil, List.length_cons, dite_true, List.nil_append, Nat.reduceBEq, reduceDIte, reduceIte, reduceCtorEq, Bool.or_false, Bool.true_or, Bool.and_false, Bool.false_and, Bool.not_true, Bool.not_false, Option.isSome_some, Option.isSome_none, Option.getD_some, List.getElem?_cons_zero, List.getElem?_cons_succ, eq_self, and_self, List.take_succ_cons, List.take_zero, List.drop_succ_cons, List.drop_zero]
  have hl1 := len_i hok.1.1
  clear hok
  refine brB_intro (fun h => ret0 ?_) (fun h => ?_)
  · have e : ¬ ts = us := fun e => by rw [e] at h; simp at h
    rw [decide_eq_false e] at hK; exact hK
  · have hl : ts.length = us.length := by have := of_decide_eq_true (snb' h); omega
    refine loop_okF (T := tab [c_eqTerm]) [0, 1, 5] [] (fun i : Nat => ⟨27, [(0, .val (.one (.ro kTerm ts))), (1, .val (.one (.ro kTerm us))), (5, vi i)], []⟩)
      (fun i => i ≤ ts.length ∧ ts.take i = us.take i) (fun i => ts.length - i) 0 rfl rfl ⟨Nat.zero_le _, rfl⟩ (fun i hi => ?_)
    obtain ⟨hi, he⟩ := hi
    simp only [go_sem, ↓brB_t, ↓brB_f, Nat.reduceAdd, Int.reduceLE, Int.reduceLT, Int.reduceNeg, decide_true, decide_false, Bool.and_self, Nat.succ_eq_add_one, Int.toNat_natCast, Nat.beq_refl, Bool.and_true, Bool.true_and, Bool.false_or, Bool.or_true, List.all_cons, List.all_nil, Nat.reduceMul, Nat.add_zero, Nat.zero_add, List.length_nil, List.length_cons, dite_true, List.nil_append, Nat.reduceBEq, reduceDIte, reduceIte, reduceCtorEq, Bool.or_false, Bool.true_or, Bool.and_false, Bool.false_and, Bool.not_true, Bool.not_false, Option.isSome_some, Option.isSome_none, Option.getD_some, List.getElem?_cons_zero, List.getElem?_cons_succ, eq_self, and_self, List.take_succ_cons, List.take_zero, List.drop_succ_cons, List.drop_zero]
    refine brB_intro (fun h1 => ?_) (fun h1 => ret0 ?_)
    · have h1 := of_decide_eq_true h1
      have hs : w64 ((i : Int) + 1) = ((i + 1 : Nat) : Int) := w64_s (n := ts.length) (by omega) hl1
      refine ⟨⟨by omega, by omega⟩, ⟨by omega, by omega⟩, by kernel_rfl, brB_intro (fun h2 => ret0 ?_) (fun h2 => ⟨i + 1, [], ⟨by omega, takeT_s (by omega) (by omega) he ?_⟩, by omega, rfl, by rw [hs]; rfl⟩)⟩
      · have e : ¬ ts = us := fun e => by
          have h2 := snb h2
          rw [e] at h2
          simp at h2
        rw [decide_eq_false e] at hK; exact hK
      · have h2 := Bool.and_eq_true_iff.1 (snb' h2)
        exact Prod.ext (of_decide_eq_true h2.1) (of_decide_eq_true h2.2)
    · have h1 := of_decide_eq_false h1
      have e : i = ts.length := by omega
      rw [e, List.take_length, hl, List.take_length] at he
      rw [decide_eq_true he] at hK; exact hK
def c_eqTermS : Ctr Tryz.prog := ⟨56, ent Tryz.func56 rfl rfl, [], sp_eqTermS, good_eqTermS, []⟩
@[go_sem] theorem c_eqTermS_f : c_eqTermS.f = 56 := rfl
@[go_sem] theorem c_eqTermS_ms : c_eqTermS.ms = [] := rfl
@[go_sem] theorem c_eqTermS_sp : c_eqTermS.spec = sp_eqTermS := rfl
@[go_sem] theorem c_eqTermS_fz : c_eqTermS.fz = [] := rfl
attribute [go_sem] sp_eqTermS
def sp_eqSum : List Cv → List Obj' → Tree
  | [.agg [.v (.int .i64 p), .ro (.pr (.sl 2 (.int .i64)) (.int .i64)) ts], .agg [.v (.int .i64 q), .ro (.pr (.sl 2 (.int .i64)) (.int .i64)) us]], [] => .ret (vb (decide (p = q) && decide ((ts : TermL) = us))) []
  | _, _ => .fail
set_option maxHeartbeats 4000000 in
set_option maxRecDepth 100000 in
theorem good_eqSum : Good Tryz.prog 18 sp_eqSum := by
  refine good_ofF Tryz.func18 rfl _ rfl _ rfl (tab [c_eqTermS]) (fun X cs os0 K hok hos hK => ?_)
  clear hos; unfold sp_eqSum at hK
  split at hK
  case h_2 => exact hK.elim
  rename_i p ts q us
  refine ⟨by simp, by simp, ?_⟩
  simp only [go_sem] at hK hok
  simp (maxSteps := 4000000) only [go_sem, Tryz.f18, ↓brB_t, ↓brB_f, Nat.reduceAdd, Int.reduceLE, Int.reduceLT, Int.reduceNeg, decide_true, decide_false, Bool.and_self, Nat.succ_eq_add_one, Int.toNat_natCast, Nat.beq_refl, Bool.and_true, Bool.true_and, Bool.false_or, Bool.or_true, List.all_cons, List.all_nil, Nat.reduceMul, Nat.add_zero, Nat.zero_add, List.length_nil, List.length_cons, dite_true, List.nil_append, Nat.reduceBEq, reduceDIte, reduceIte, reduceCtorEq, Bool.or_false, Bool.true_or, Bool.and_false, Bool.false_and, Bool.not_true, Bool.not_false, Option.isSome_some, Option.isSome_none, Option.getD_some, List.getElem?_cons_zero, List.getElem?_cons_succ, eq_self, and_self, List.take_succ_cons, List.take_zero, List.drop_succ_cons, List.drop_zero]
  refine brB_intro (fun h => ret0 (by rw [snb h] at hK; exact hK)) (fun h => brB_intro (fun h2 => ret0 (by rw [snb' h, snb h2] at hK; exact hK)) (fun h2 => ret0 (by rw [snb' h, snb' h2] at hK; exact hK)))
def c_eqSum : Ctr Tryz.prog := ⟨18, ent Tryz.func18 rfl rfl, [], sp_eqSum, good_eqSum, []⟩
@[go_sem] theorem c_eqSum_f : c_eqSum.f = 18 := rfl
@[go_sem] theorem c_eqSum_ms : c_eqSum.ms = [] := rfl
@[go_sem] theorem c_eqSum_sp : c_eqSum.spec = sp_eqSum := rfl
@[go_sem] theorem c_eqSum_fz : c_eqSum.fz = [] := rfl
attribute [go_sem] sp_eqSum
def szT (ts : TermL) : Nat := (ts.map fun x => x.1.length).sum
theorem szT_s {ts : TermL} {i : Nat} (h : i < ts.length) : szT (ts.take (i + 1)) = szT (ts.take i) + (ts.getD i ([], 0)).1.length := by
  rw [szT, szT, List.take_succ_eq_append_getElem h, List.map_append, List.sum_append, List.getD_eq_getElem?_getD, List.getElem?_eq_getElem h]
  simp
theorem szT_le (ts : TermL) (i : Nat) : szT (ts.take i) ≤ szT ts := by
  have e : szT ts = szT (ts.take i) + szT (ts.drop i) := by
    rw [szT, szT, szT, ← List.sum_append, ← List.map_append, List.take_append_drop]
  omega
theorem szT_mem {ts : TermL} {x : List Int × Int} (h : x ∈ ts) : x.1.length ≤ szT ts := by
  induction ts with
  | nil => cases h
  | cons y r ih =>
    have e : szT (y :: r) = y.1.length + szT r := by simp [szT]
    rcases List.mem_cons.1 h with rfl | h
    · omega
    · have := ih h; omega
def sp_szTerm : List Cv → List Obj' → Tree
  | [.agg [.ro (.int .i64) w, .v (.int .i64 v)], .one (.v (.int .i64 n))], [] => .need (0 ≤ n) (.ret (vi (if n < w.length then -1 else n - w.length)) [])
  | _, _ => .fail
set_option maxHeartbeats 4000000 in
set_option maxRecDepth 100000 in
theorem good_szTerm : Good Tryz.prog 81 sp_szTerm := by
  refine good_ofF Tryz.func81 rfl _ rfl _ rfl (tab [c_sz]) (fun X cs os0 K hok hos hK => ?_)
  clear hos; unfold sp_szTerm at hK
  split at hK
  case h_2 => exact hK.elim
  rename_i w v n
  refine ⟨by simp, by simp, ?_⟩
  simp only [go_sem] at hK hok
  simp (maxSteps := 4000000) only [go_sem, Tryz.f81, ↓brB_t, ↓brB_f, Nat.reduceAdd, Int.reduceLE, Int.reduceLT, Int.reduceNeg, decide_true, decide_false, Bool.and_self, Nat.succ_eq_add_one, Int.toNat_natCast, Nat.beq_refl, Bool.and_true, Bool.true_and, Bool.false_or, Bool.or_true, List.all_cons, List.all_nil, Nat.reduceMul, Nat.add_zero, Nat.zero_add, List.length_nil, List.length_cons, dite_true, List.nil_append, Nat.reduceBEq, reduceDIte, reduceIte, reduceCtorEq, Bool.or_false, Bool.true_or, Bool.and_false, Bool.false_and, Bool.not_true, Bool.not_false, Option.isSome_some, Option.isSome_none, Option.getD_some, List.getElem?_cons_zero, List.getElem?_cons_succ, eq_self, and_self, List.take_succ_cons, List.take_zero, List.drop_succ_cons, List.drop_zero]
  obtain ⟨hn, hK⟩ := hK
  clear hok
  refine ⟨hn, brB_intro (fun h => ret0 ?_) (fun h => ret0 ?_)⟩
  · have h := of_decide_eq_true h
    have e : n < w.length := by split at h <;> omega
    rw [if_pos e] at hK; exact hK
  · exact hK
def c_szTerm : Ctr Tryz.prog := ⟨81, ent Tryz.func81 rfl rfl, [], sp_szTerm, good_szTerm, []⟩
@[go_sem] theorem c_szTerm_f : c_szTerm.f = 81 := rfl
@[go_sem] theorem c_szTerm_ms : c_szTerm.ms = [] := rfl
@[go_sem] theorem c_szTerm_sp : c_szTerm.spec = sp_szTerm := rfl
@[go_sem] theorem c_szTerm_fz : c_szTerm.fz = [] := rfl
attribute [go_sem] sp_szTerm
def sp_szTermS : List Cv → List Obj' → Tree
  | [.one (.ro (.pr (.sl 2 (.int .i64)) (.int .i64)) ts), .one (.v (.int .i64 n))], [] => .need (0 ≤ n) (.ret (vi (if n < ts.length + szT ts then -1 else n - ts.length - szT ts)) [])
  | _, _ => .fail
set_option maxHeartbeats 4000000 in
set_option maxRecDepth 100000 in
theorem good_szTermS : Good Tryz.prog 45 sp_szTermS := by
  refine good_ofF Tryz.func45 rfl _ rfl _ rfl (tab [c_szTerm]) (fun X cs os0 K hok hos hK => ?_)
  clear hos; unfold sp_szTermS at hK
  split at hK
  case h_2 => exact hK.elim
  rename_i ts n
  refine ⟨by simp, by simp, ?_⟩
  simp only [go_sem] at hK hok
  simp (maxSteps := 4000000) only [go_sem, Tryz.f45, ↓brB_t, ↓brB_f, Nat.reduceAdd, Int.reduceLE, Int.reduceLT, Int.reduceNeg, decide_true, decide_false, Bool.and_self, Nat.succ_eq_add_one, Int.toNat_natCast, Nat.beq_refl, Bool.and_true, Bool.true_and, Bool.false_or, Bool.or_true, List.all_cons, List.all_nil, Nat.reduceMul, Nat.add_zero, Nat.zero_add, List.length_nil, List.length_cons, dite_true, List.nil_append, Nat.reduceBEq, reduceDIte, reduceIte, reduceCtorEq, Bool.or_false, Bool.true_or, Bool.and_false, Bool.false_and, Bool.not_true, Bool.not_false, Option.isSome_some, Option.isSome_none, Option.getD_some, List.getElem?_cons_zero, List.getElem?_cons_succ, eq_self, and_self, List.take_succ_cons, List.take_zero, List.drop_succ_cons, List.drop_zero]
  obtain ⟨hn, hK⟩ := hK
  have hl1 := len_i hok.1.1
  have hn2 := hok.2.1.2
  clear hok
  have ew : w64 (n - ts.length) = n - ts.length := w64_id (by omega) (by omega)
  simp only [ew]
  refine brB_intro (fun h => ret0 ?_) (fun h => ?_)
  · have h := of_decide_eq_true h
    rw [if_pos (by omega)] at hK; exact hK
  · have h := of_decide_eq_false h
    refine loop_okF (T := tab [c_szTerm]) [0, 1, 5] [] (fun i : Nat => ⟨27, [(0, .val (.one (.ro kTerm ts))), (1, vi (n - ts.length - szT (ts.take i))), (5, vi i)], []⟩)
      (fun i => i ≤ ts.length ∧ 0 ≤ n - ts.length - szT (ts.take i)) (fun i => ts.length - i) 0 rfl (by rw [show n - (ts.length : Int) - (szT (ts.take 0) : Nat) = n - ts.length by simp [szT]]; rfl) ⟨Nat.zero_le _, by simp [szT]; omega⟩ (fun i hi => ?_)
    obtain ⟨hi, h0⟩ := hi
    simp only [go_sem, ↓brB_t, ↓brB_f, Nat.reduceAdd, Int.reduceLE, Int.reduceLT, Int.reduceNeg, decide_true, decide_false, Bool.and_self, Nat.succ_eq_add_one, Int.toNat_natCast, Nat.beq_refl, Bool.and_true, Bool.true_and, Bool.false_or, Bool.or_true, List.all_cons, List.all_nil, Nat.reduceMul, Nat.add_zero, Nat.zero_add, List.length_nil, List.length_cons, dite_true, List.nil_append, Nat.reduceBEq, reduceDIte, reduceIte, reduceCtorEq, Bool.or_false, Bool.true_or, Bool.and_false, Bool.false_and, Bool.not_true, Bool.not_false, Option.isSome_some, Option.isSome_none, Option.getD_some, List.getElem?_cons_zero, List.getElem?_cons_succ, eq_self, and_self, List.take_succ_cons, List.take_zero, List.drop_succ_cons, List.drop_zero]
    refine brB_intro (fun h1 => ?_) (fun h1 => ret0 ?_)
    · have h1 := of_decide_eq_true h1
      have hs := szT_s (ts := ts) (i := i) (by omega)
      have hle := szT_le ts (i + 1)
      have hw : w64 ((i : Int) + 1) = ((i + 1 : Nat) : Int) := w64_s (n := ts.length) (by omega) hl1
      refine ⟨⟨by omega, by omega⟩, h0, brB_intro (fun h2 => ret0 ?_) (fun h2 => ?_)⟩
      · have h2 := of_decide_eq_true h2
        have e : n < ts.length + szT ts := by split at h2 <;> omega
        rw [if_pos e] at hK; exact hK
      · have h2 := of_decide_eq_false h2
        by_cases e : n - ts.length - szT (ts.take i) < ((ts.getD i ([], 0)).1.length : Int)
        · rw [if_pos e] at h2; omega
        · refine ⟨i + 1, [], ⟨by omega, by rw [hs]; omega⟩, by omega, rfl, ?_⟩
          rw [if_neg e, hw, hs]
          have e2 : n - (ts.length : Int) - (szT (ts.take i) : Int) - ((ts.getD i ([], 0)).1.length : Int) = n - ts.length - ((szT (ts.take i) + (ts.getD i ([], 0)).1.length : Nat) : Int) := by omega
          rw [e2]; rfl
    · have h1 := of_decide_eq_false h1
      have e : i = ts.length := by omega
      rw [e, List.take_length] at h0 ⊢
      rw [if_neg (by omega)] at hK
      exact hK
def c_szTermS : Ctr Tryz.prog := ⟨45, ent Tryz.func45 rfl rfl, [], sp_szTermS, good_szTermS, []⟩
@[go_sem] theorem c_szTermS_f : c_szTermS.f = 45 := rfl
@[go_sem] theorem c_szTermS_ms : c_szTermS.ms = [] := rfl
@[go_sem] theorem c_szTermS_sp : c_szTermS.spec = sp_szTermS := rfl
@[go_sem] theorem c_szTermS_fz : c_szTermS.fz = [] := rfl
attribute [go_sem] sp_szTermS
def sp_szSum : List Cv → List Obj' → Tree
  | [.agg [.v (.int .i64 p), .ro (.pr (.sl 2 (.int .i64)) (.int .i64)) ts], .one (.v (.int .i64 n))], [] => .need (0 ≤ n) (.ret (vi (if n < ts.length + szT ts then -1 else n - ts.length - szT ts)) [])
  | _, _ => .fail
set_option maxHeartbeats 4000000 in
set_option maxRecDepth 100000 in
theorem good_szSum : Good Tryz.prog 13 sp_szSum := by
  refine good_ofF Tryz.func13 rfl _ rfl _ rfl (tab [c_szTermS]) (fun X cs os0 K hok hos hK => ?_)
  clear hos; unfold sp_szSum at hK
  split at hK
  case h_2 => exact hK.elim
  rename_i p ts n
  refine ⟨by simp, by simp, ?_⟩
  simp only [go_sem] at hK hok
  simp (maxSteps := 4000000) only [go_sem, Tryz.f13, ↓brB_t, ↓brB_f, Nat.reduceAdd, Int.reduceLE, Int.reduceLT, Int.reduceNeg, decide_true, decide_false, Bool.and_self, Nat.succ_eq_add_one, Int.toNat_natCast, Nat.beq_refl, Bool.and_true, Bool.true_and, Bool.false_or, Bool.or_true, List.all_cons, List.all_nil, Nat.reduceMul, Nat.add_zero, Nat.zero_add, List.length_nil, List.length_cons, dite_true, List.nil_append, Nat.reduceBEq, reduceDIte, reduceIte, reduceCtorEq, Bool.or_false, Bool.true_or, Bool.and_false, Bool.false_and, Bool.not_true, Bool.not_false, Option.isSome_some, Option.isSome_none, Option.getD_some, List.getElem?_cons_zero, List.getElem?_cons_succ, eq_self, and_self, List.take_succ_cons, List.take_zero, List.drop_succ_cons, List.drop_zero]
  obtain ⟨hn, hK⟩ := hK
  clear hok
  refine ⟨hn, brB_intro (fun h => ret0 ?_) (fun h => ret0 ?_)⟩
  · have h := of_decide_eq_true h
    have e : n < ts.length + szT ts := by split at h <;> omega
    rw [if_pos e] at hK; exact hK
  · exact hK
def c_szSum : Ctr Tryz.prog := ⟨13, ent Tryz.func13 rfl rfl, [], sp_szSum, good_szSum, []⟩
@[go_sem] theorem c_szSum_f : c_szSum.f = 13 := rfl
@[go_sem] theorem c_szSum_ms : c_szSum.ms = [] := rfl
@[go_sem] theorem c_szSum_sp : c_szSum.spec = sp_szSum := rfl
@[go_sem] theorem c_szSum_fz : c_szSum.fz = [] := rfl
attribute [go_sem] sp_szSum
end Go.Proofs.YthfmlelodmcgkaaGreat.V
end
section
namespace Go.Proofs.YthfmlelodmcgkaaGreat.V
open Go
def primeB (p : Int) : Bool := decide (p = 2) || (decide (p = 3) || (decide (p = 5) || (decide (p = 7) || (decide (p = 11) || decide (p = 13)))))
def sp_prime : List Cv → List Obj' → Tree
  | [.one (.v (.int .i64 p))], [] => .ret (vb (primeB p)) []
  | _, _ => .fail
set_option maxHeartbeats 4000000 in
set_option maxRecDepth 100000 in
theorem good_l03Prime : Good Tryz.prog 100 sp_prime := by
  refine good_ofF Tryz.func100 rfl _ rfl _ rfl (tab []) (fun X cs os0 K hok hos hK => ?_)
  clear hos; unfold sp_prime at hK
  split at hK
  case h_2 => exact hK.elim
  rename_i p
  refine ⟨by simp, by simp, ?_⟩
  simp only [go_sem] at hK hok
  simp (maxSteps := 4000000) only [go_sem, Tryz.f100, ↓brB_t, ↓brB_f, Nat.reduceAdd, Int.reduceLE, Int.reduceLT, Int.reduceNeg, decide_true, decide_false, Bool.and_self, Nat.succ_eq_add_one, Int.toNat_natCast, Nat.beq_refl, Bool.and_true, Bool.true_and, Bool.false_or, Bool.or_true, List.all_cons, List.all_nil, Nat.reduceMul, Nat.add_zero, Nat.zero_add, List.length_nil, List.length_cons, dite_true, List.nil_append, Nat.reduceBEq, reduceDIte, reduceIte, reduceCtorEq, Bool.or_false, Bool.true_or, Bool.and_false, Bool.false_and, Bool.not_true, Bool.not_false, Option.isSome_some, Option.isSome_none, Option.getD_some, List.getElem?_cons_zero, List.getElem?_cons_succ, eq_self, and_self, List.take_succ_cons, List.take_zero, List.drop_succ_cons, List.drop_zero]
  clear hok
  unfold primeB at hK
  refine brB_intro (fun h => ret0 (by rw [h] at hK; exact hK)) (fun h => ?_)
  rw [h, Bool.false_or] at hK
  refine brB_intro (fun h => ret0 (by rw [h] at hK; exact hK)) (fun h => ?_)
  rw [h, Bool.false_or] at hK
  refine brB_intro (fun h => ret0 (by rw [h] at hK; exact hK)) (fun h => ?_)
  rw [h, Bool.false_or] at hK
  refine brB_intro (fun h => ret0 (by rw [h] at hK; exact hK)) (fun h => ?_)
  rw [h, Bool.false_or] at hK
  refine brB_intro (fun h => ret0 (by rw [h] at hK; exact hK)) (fun h => ?_)
  rw [h, Bool.false_or] at hK
  exact ret0 hK
def c_l03Prime : Ctr Tryz.prog := ⟨100, ent Tryz.func100 rfl rfl, [], sp_prime, good_l03Prime, []⟩
@[go_sem] theorem c_l03Prime_f : c_l03Prime.f = 100 := rfl
@[go_sem] theorem c_l03Prime_ms : c_l03Prime.ms = [] := rfl
@[go_sem] theorem c_l03Prime_sp : c_l03Prime.spec = sp_prime := rfl
@[go_sem] theorem c_l03Prime_fz : c_l03Prime.fz = [] := rfl
attribute [go_sem] sp_prime
def modI (p x : Int) : Int := (w64 (x.tmod p + p)).tmod p
def sp_mod : List Cv → List Obj' → Tree
  | [.one (.v (.int .i64 p)), .one (.v (.int .i64 x))], [] => .need (p ≠ 0) (.ret (vi (modI p x)) [])
  | _, _ => .fail
set_option maxHeartbeats 4000000 in
set_option maxRecDepth 100000 in
theorem good_l03Mod : Good Tryz.prog 71 sp_mod := by
  refine good_ofF Tryz.func71 rfl _ rfl _ rfl (tab []) (fun X cs os0 K hok hos hK => ?_)
  clear hos; unfold sp_mod at hK
  split at hK
  case h_2 => exact hK.elim
  rename_i p x
  refine ⟨by simp, by simp, ?_⟩
  simp only [go_sem] at hK hok
  simp (maxSteps := 4000000) only [go_sem, Tryz.f71, ↓brB_t, ↓brB_f, Nat.reduceAdd, Int.reduceLE, Int.reduceLT, Int.reduceNeg, decide_true, decide_false, Bool.and_self, Nat.succ_eq_add_one, Int.toNat_natCast, Nat.beq_refl, Bool.and_true, Bool.true_and, Bool.false_or, Bool.or_true, List.all_cons, List.all_nil, Nat.reduceMul, Nat.add_zero, Nat.zero_add, List.length_nil, List.length_cons, dite_true, List.nil_append, Nat.reduceBEq, reduceDIte, reduceIte, reduceCtorEq, Bool.or_false, Bool.true_or, Bool.and_false, Bool.false_and, Bool.not_true, Bool.not_false, Option.isSome_some, Option.isSome_none, Option.getD_some, List.getElem?_cons_zero, List.getElem?_cons_succ, eq_self, and_self, List.take_succ_cons, List.take_zero, List.drop_succ_cons, List.drop_zero]
  obtain ⟨hp, hK⟩ := hK
  clear hok
  exact ⟨hp, hp, ret0 hK⟩
def c_l03Mod : Ctr Tryz.prog := ⟨71, ent Tryz.func71 rfl rfl, [], sp_mod, good_l03Mod, []⟩
@[go_sem] theorem c_l03Mod_f : c_l03Mod.f = 71 := rfl
@[go_sem] theorem c_l03Mod_ms : c_l03Mod.ms = [] := rfl
@[go_sem] theorem c_l03Mod_sp : c_l03Mod.spec = sp_mod := rfl
@[go_sem] theorem c_l03Mod_fz : c_l03Mod.fz = [] := rfl
attribute [go_sem] sp_mod
def termB (p : Int) (ts : TermL) (i : Nat) : Bool := isW (ts.getD i ([], 0)).1 && (inB (ts.getD i ([], 0)).2 1 (w64 (p - 1)) && (decide (i = 0) || beforeB (ts.getD (i - 1) ([], 0)).1 (ts.getD i ([], 0)).1))
def isS (p : Int) (ts : TermL) : Bool := primeB p && (decide (ts.length ≤ 200) && (List.range ts.length).all (termB p ts))
def sp_isS : List Cv → List Obj' → Tree
  | [.agg [.v (.int .i64 p), .ro (.pr (.sl 2 (.int .i64)) (.int .i64)) ts]], [] => .ret (vb (isS p ts)) []
  | _, _ => .fail
theorem all_rs {p : Nat → Bool} {i : Nat} (h : (List.range i).all p = true) (hp : p i = true) : (List.range (i + 1)).all p = true := by
  rw [List.range_succ, List.all_append, h]; simp [hp]
theorem all_rn {p : Nat → Bool} {i n : Nat} (hi : i < n) (hp : p i = false) : (List.range n).all p = false := by
  rw [← Bool.not_eq_true, List.all_eq_true]
  intro h
  rw [h i (List.mem_range.2 hi)] at hp
  cases hp
set_option maxHeartbeats 4000000 in
set_option maxRecDepth 100000 in
theorem good_l03Is : Good Tryz.prog 82 sp_isS := by
  refine good_ofF Tryz.func82 rfl _ rfl _ rfl (tab [c_l03Prime, c_l01Is, c_l01In, c_l01Before]) (fun X cs os0 K hok hos hK => ?_)
  clear hos; unfold sp_isS at hK
  split at hK
  case h_2 => exact hK.elim
  rename_i p ts
  refine ⟨by simp, by simp, ?_⟩
  simp only [go_sem] at hK hok
  simp (maxSteps := 4000000) only [go_sem, Tryz.f82, ↓brB_t, ↓brB_f, Nat.reduceAdd, Int.reduceLE, Int.reduceLT, Int.reduceNeg, decide_true, decide_false, Bool.and_self, Nat.succ_eq_add_one, Int.toNat_natCast, Nat.beq_refl, Bool.and_true, Bool.true_and, Bool.false_or, Bool.or_true, List.all_cons, List.all_nil, Nat.reduceMul, Nat.add_zero, Nat.zero_add, List.length_nil, List.length_cons, dite_true, List.nil_append, Nat.reduceBEq, reduceDIte, reduceIte, reduceCtorEq, Bool.or_false, Bool.true_or, Bool.and_false, Bool.false_and, Bool.not_true, Bool.not_false, Option.isSome_some, Option.isSome_none, Option.getD_some, List.getElem?_cons_zero, List.getElem?_cons_succ, eq_self, and_self, List.take_succ_cons, List.take_zero, List.drop_succ_cons, List.drop_zero]
  clear hok
  unfold isS at hK
  refine brB_intro (fun h => ret0 (by rw [snb h] at hK; exact hK)) (fun h => ?_)
  rw [snb' h, Bool.true_and] at hK
  refine brB_intro (fun h2 => ret0 ?_) (fun h2 => ?_)
  · have h2 := of_decide_eq_true h2
    rw [decide_eq_false (by omega)] at hK; exact hK
  have h2 := of_decide_eq_false h2
  rw [decide_eq_true (by omega), Bool.true_and] at hK
  refine loop_okF (T := tab [c_l03Prime, c_l01Is, c_l01In, c_l01Before]) [1, 3] [(16, 32)] (fun i : Nat => ⟨57, [(1, .val (.one (.ptr 16 0))), (3, vi i)], [(16, .box 31 [.v (.int .i64 p), .ro kTerm ts])]⟩)
    (fun i => i ≤ ts.length ∧ (List.range i).all (termB p ts) = true) (fun i => ts.length - i) 0 rfl rfl ⟨Nat.zero_le _, rfl⟩ (fun i hi => ?_)
  obtain ⟨hi, hm⟩ := hi
  simp only [go_sem, ↓brB_t, ↓brB_f, Nat.reduceAdd, Int.reduceLE, Int.reduceLT, Int.reduceNeg, decide_true, decide_false, Bool.and_self, Nat.succ_eq_add_one, Int.toNat_natCast, Nat.beq_refl, Bool.and_true, Bool.true_and, Bool.false_or, Bool.or_true, List.all_cons, List.all_nil, Nat.reduceMul, Nat.add_zero, Nat.zero_add, List.length_nil, List.length_cons, dite_true, List.nil_append, Nat.reduceBEq, reduceDIte, reduceIte, reduceCtorEq, Bool.or_false, Bool.true_or, Bool.and_false, Bool.false_and, Bool.not_true, Bool.not_false, Option.isSome_some, Option.isSome_none, Option.getD_some, List.getElem?_cons_zero, List.getElem?_cons_succ, eq_self, and_self, List.take_succ_cons, List.take_zero, List.drop_succ_cons, List.drop_zero]
  refine brB_intro (fun h1 => ?_) (fun h1 => ret0 ?_)
  · have h1 := of_decide_eq_true h1
    have hw : w64 ((i : Int) + 1) = ((i + 1 : Nat) : Int) := w64_s (n := ts.length) (by omega) (by omega)
    have no : termB p ts i = false → K (vb false) [] := fun h => by rw [all_rn (i := i) (by omega) h] at hK; exact hK
    refine ⟨⟨by omega, by omega⟩, brB_intro (fun h3 => ⟨by kernel_rfl, ret0 (no ?_)⟩) (fun h3 => brB_intro (fun h4 => ⟨by kernel_rfl, ret0 (no ?_)⟩) (fun h4 => brB_intro (fun h5 => ?_) (fun h5 => ⟨by kernel_rfl, i + 1, [(16, 16)], ⟨by omega, all_rs hm ?_⟩, by omega, rfl, by rw [hw]; rfl⟩)))⟩
    · rw [termB, snb h3]; rfl
    · rw [termB, snb' h3, snb h4]; rfl
    · have h5 := of_decide_eq_true h5
      have e1 : w64 ((i : Int) - 1) = ((i - 1 : Nat) : Int) := by rw [w64_id (by omega) (by omega)]; omega
      simp only [e1, Int.toNat_natCast]
      refine ⟨⟨by omega, by omega⟩, by kernel_rfl, brB_intro (fun h6 => ret0 (no ?_)) (fun h6 => ⟨i + 1, [(16, 16)], ⟨by omega, all_rs hm ?_⟩, by omega, rfl, by rw [hw]; rfl⟩)⟩
      · rw [termB, snb' h3, snb' h4, decide_eq_false (by omega), snb h6]; rfl
      · rw [termB, snb' h3, snb' h4, snb' h6]; simp
    · have h5 := of_decide_eq_false h5
      rw [termB, snb' h3, snb' h4, decide_eq_true (by omega)]; rfl
  · have h1 := of_decide_eq_false h1
    have e : i = ts.length := by omega
    subst e
    rw [hm] at hK; exact hK
def c_l03Is : Ctr Tryz.prog := ⟨82, ent Tryz.func82 rfl rfl, [], sp_isS, good_l03Is, []⟩
@[go_sem] theorem c_l03Is_f : c_l03Is.f = 82 := rfl
@[go_sem] theorem c_l03Is_ms : c_l03Is.ms = [] := rfl
@[go_sem] theorem c_l03Is_sp : c_l03Is.spec = sp_isS := rfl
@[go_sem] theorem c_l03Is_fz : c_l03Is.fz = [] := rfl
attribute [go_sem] sp_isS
def sp_empty : List Cv → List Obj' → Tree
  | [.one (.v (.int .i64 p))], [] => .ret (.val (.agg [.v (.int .i64 p), .own 0])) [.drow 87 (.pr (.sl 2 (.int .i64)) (.int .i64)) []]
  | _, _ => .fail
set_option maxHeartbeats 4000000 in
set_option maxRecDepth 100000 in
theorem good_l03Empty : Good Tryz.prog 84 sp_empty := by
  refine good_ofF Tryz.func84 rfl _ rfl _ rfl (tab []) (fun X cs os0 K hok hos hK => ?_)
  clear hos; unfold sp_empty at hK
  split at hK
  case h_2 => exact hK.elim
  rename_i p
  refine ⟨by simp, by simp, ?_⟩
  simp only [go_sem] at hK hok
  simp (maxSteps := 4000000) only [go_sem, Tryz.f84, ↓brB_t, ↓brB_f, Nat.reduceAdd, Int.reduceLE, Int.reduceLT, Int.reduceNeg, decide_true, decide_false, Bool.and_self, Nat.succ_eq_add_one, Int.toNat_natCast, Nat.beq_refl, Bool.and_true, Bool.true_and, Bool.false_or, Bool.or_true, List.all_cons, List.all_nil, Nat.reduceMul, Nat.add_zero, Nat.zero_add, List.length_nil, List.length_cons, dite_true, List.nil_append, Nat.reduceBEq, reduceDIte, reduceIte, reduceCtorEq, Bool.or_false, Bool.true_or, Bool.and_false, Bool.false_and, Bool.not_true, Bool.not_false, Option.isSome_some, Option.isSome_none, Option.getD_some, List.getElem?_cons_zero, List.getElem?_cons_succ, eq_self, and_self, List.take_succ_cons, List.take_zero, List.drop_succ_cons, List.drop_zero]
  clear hok
  exact retN [80] rfl hK
def c_l03Empty : Ctr Tryz.prog := ⟨84, ent Tryz.func84 rfl rfl, [], sp_empty, good_l03Empty, []⟩
@[go_sem] theorem c_l03Empty_f : c_l03Empty.f = 84 := rfl
@[go_sem] theorem c_l03Empty_ms : c_l03Empty.ms = [] := rfl
@[go_sem] theorem c_l03Empty_sp : c_l03Empty.spec = sp_empty := rfl
@[go_sem] theorem c_l03Empty_fz : c_l03Empty.fz = [] := rfl
attribute [go_sem] sp_empty
def atT : TermL → List Int → Int
  | [], _ => 0
  | x :: r, w => if x.1 = w then x.2 else atT r w
def sp_at : List Cv → List Obj' → Tree
  | [.agg [.v (.int .i64 p), .ro (.pr (.sl 2 (.int .i64)) (.int .i64)) ts], .one (.ro (.int .i64) w)], [] => .ret (vi (atT ts w)) []
  | _, _ => .fail
theorem atT_s {ts : TermL} {w : List Int} {i : Nat} (h : i < ts.length) : atT (ts.drop i) w = if (ts.getD i ([], 0)).1 = w then (ts.getD i ([], 0)).2 else atT (ts.drop (i + 1)) w := by
  have e : ts.getD i ([], 0) = ts[i] := by rw [List.getD_eq_getElem?_getD, List.getElem?_eq_getElem h]; rfl
  rw [List.drop_eq_getElem_cons h, atT, e]
set_option maxHeartbeats 4000000 in
set_option maxRecDepth 100000 in
theorem good_l03At : Good Tryz.prog 83 sp_at := by
  refine good_ofF Tryz.func83 rfl _ rfl _ rfl (tab [c_l01Same]) (fun X cs os0 K hok hos hK => ?_)
  clear hos; unfold sp_at at hK
  split at hK
  case h_2 => exact hK.elim
  rename_i p ts w
  refine ⟨by simp, by simp, ?_⟩
  simp only [go_sem] at hK hok
  simp (maxSteps := 4000000) only [go_sem, Tryz.f83, ↓brB_t, ↓brB_f, Nat.reduceAdd, Int.reduceLE, Int.reduceLT, Int.reduceNeg, decide_true, decide_false, Bool.and_self, Nat.succ_eq_add_one, Int.toNat_natCast, Nat.beq_refl, Bool.and_true, Bool.true_and, Bool.false_or, Bool.or_true, List.all_cons, List.all_nil, Nat.reduceMul, Nat.add_zero, Nat.zero_add, List.length_nil, List.length_cons, dite_true, List.nil_append, Nat.reduceBEq, reduceDIte, reduceIte, reduceCtorEq, Bool.or_false, Bool.true_or, Bool.and_false, Bool.false_and, Bool.not_true, Bool.not_false, Option.isSome_some, Option.isSome_none, Option.getD_some, List.getElem?_cons_zero, List.getElem?_cons_succ, eq_self, and_self, List.take_succ_cons, List.take_zero, List.drop_succ_cons, List.drop_zero]
  have hl := len_i hok.1.2.1.1
  clear hok
  refine loop_okF (T := tab [c_l01Same]) [1, 2, 5] [(16, 48)] (fun i : Nat => ⟨27, [(1, ri w), (2, .val (.one (.ptr 16 0))), (5, vi i)], [(16, .box 31 [.v (.int .i64 p), .ro kTerm ts])]⟩)
    (fun i => i ≤ ts.length ∧ atT ts w = atT (ts.drop i) w) (fun i => ts.length - i) 0 rfl rfl ⟨Nat.zero_le _, rfl⟩ (fun i hi => ?_)
  obtain ⟨hi, hm⟩ := hi
  simp only [go_sem, ↓brB_t, ↓brB_f, Nat.reduceAdd, Int.reduceLE, Int.reduceLT, Int.reduceNeg, decide_true, decide_false, Bool.and_self, Nat.succ_eq_add_one, Int.toNat_natCast, Nat.beq_refl, Bool.and_true, Bool.true_and, Bool.false_or, Bool.or_true, List.all_cons, List.all_nil, Nat.reduceMul, Nat.add_zero, Nat.zero_add, List.length_nil, List.length_cons, dite_true, List.nil_append, Nat.reduceBEq, reduceDIte, reduceIte, reduceCtorEq, Bool.or_false, Bool.true_or, Bool.and_false, Bool.false_and, Bool.not_true, Bool.not_false, Option.isSome_some, Option.isSome_none, Option.getD_some, List.getElem?_cons_zero, List.getElem?_cons_succ, eq_self, and_self, List.take_succ_cons, List.take_zero, List.drop_succ_cons, List.drop_zero]
  refine brB_intro (fun h1 => ?_) (fun h1 => ret0 ?_)
  · have h1 := of_decide_eq_true h1
    have hw : w64 ((i : Int) + 1) = ((i + 1 : Nat) : Int) := w64_s (n := ts.length) (by omega) hl
    have hs := atT_s (ts := ts) (w := w) (i := i) (by omega)
    refine ⟨⟨by omega, by omega⟩, brB_intro (fun h2 => ⟨⟨by omega, by omega⟩, ret0 ?_⟩) (fun h2 => ⟨i + 1, [(16, 16)], ⟨by omega, ?_⟩, by omega, rfl, by rw [hw]; rfl⟩)⟩
    · rw [if_pos (of_decide_eq_true h2)] at hs
      rw [hm, hs] at hK; exact hK
    · rw [if_neg (of_decide_eq_false h2)] at hs
      rw [hm, hs]
  · have h1 := of_decide_eq_false h1
    have e : i = ts.length := by omega
    rw [e, List.drop_length] at hm
    rw [hm] at hK; exact hK
def c_l03At : Ctr Tryz.prog := ⟨83, ent Tryz.func83 rfl rfl, [], sp_at, good_l03At, []⟩
@[go_sem] theorem c_l03At_f : c_l03At.f = 83 := rfl
@[go_sem] theorem c_l03At_ms : c_l03At.ms = [] := rfl
@[go_sem] theorem c_l03At_sp : c_l03At.spec = sp_at := rfl
@[go_sem] theorem c_l03At_fz : c_l03At.fz = [] := rfl
attribute [go_sem] sp_at
end Go.Proofs.YthfmlelodmcgkaaGreat.V
end
section
namespace Go.Proofs.YthfmlelodmcgkaaGreat.V
open Go
def jA (w : List Int) (v : Int) (s : TermL × Bool) (x : List Int × Int) : TermL × Bool := if !s.2 && beforeB w x.1 then (s.1 ++ [(w, v)], true) else s
def jB (w : List Int) (s : TermL × Bool) (x : List Int × Int) : TermL × Bool := if x.1 = w then s else (s.1 ++ [x], s.2)
def jF (w : List Int) (v : Int) (l : TermL) : TermL × Bool := l.foldl (fun s x => jB w (jA w v s x) x) ([], decide (v = 0))
def jE (w : List Int) (v : Int) (s : TermL × Bool) : TermL := if s.2 then s.1 else s.1 ++ [(w, v)]
def jT (p : Int) (ts : TermL) (w : List Int) (v : Int) : TermL := jE w (modI p (w64 (v + atT ts w))) (jF w (modI p (w64 (v + atT ts w))) ts)
theorem jF_s {w : List Int} {v : Int} {ts : TermL} {i : Nat} (h : i < ts.length) : jF w v (ts.take (i + 1)) = jB w (jA w v (jF w v (ts.take i)) (ts.getD i ([], 0))) (ts.getD i ([], 0)) := by
  have e : ts.getD i ([], 0) = ts[i] := by rw [List.getD_eq_getElem?_getD, List.getElem?_eq_getElem h]; rfl
  rw [jF, List.take_succ_eq_append_getElem h, List.foldl_append, e]; rfl
theorem jF_len {w : List Int} {v : Int} (ts : TermL) (i : Nat) : (jF w v (ts.take i)).1.length ≤ 2 * i := by
  induction i with
  | zero => simp [jF]
  | succ i ih =>
    by_cases h : i < ts.length
    · rw [jF_s h]
      generalize jF w v (ts.take i) = s at *
      unfold jB jA
      split <;> split <;> first | omega | (simp only [List.length_append, List.length_singleton]; omega)
    · rw [List.take_of_length_le (by omega)] at ih ⊢
      omega
def sp_put : List Cv → List Obj' → Tree
  | [.agg [.v (.int .i64 p), .ro (.pr (.sl 2 (.int .i64)) (.int .i64)) ts], .one (.ro (.int .i64) w), .one (.v (.int .i64 v))], [] => .need (p ≠ 0 ∧ ts.length ≤ 1000000 ∧ w.length < 1099511627776 ∧ ∀ x ∈ (ts : TermL), x.1.length < 1099511627776) (.ret (.val (.agg [.v (.int .i64 p), .own 0])) [.drow 87 (.pr (.sl 2 (.int .i64)) (.int .i64)) (jT p ts w v)])
  | _, _ => .fail
set_option maxHeartbeats 4000000 in
set_option maxRecDepth 100000 in
theorem good_l03Put : Good Tryz.prog 85 sp_put := by
  refine good_ofF Tryz.func85 rfl _ rfl _ rfl (tab [c_l03Empty, c_l03At, c_l03Mod, c_l01Before, c_l01Same, c_own]) (fun X cs os0 K hok hos hK => ?_)
  clear hos; unfold sp_put at hK
  split at hK
  case h_2 => exact hK.elim
  rename_i p ts w v
  refine ⟨by simp, by simp, ?_⟩
  simp only [go_sem] at hK hok
  simp (maxSteps := 4000000) only [go_sem, Tryz.f85, ↓brB_t, ↓brB_f, Nat.reduceAdd, Int.reduceLE, Int.reduceLT, Int.reduceNeg, decide_true, decide_false, Bool.and_self, Nat.succ_eq_add_one, Int.toNat_natCast, Nat.beq_refl, Bool.and_true, Bool.true_and, Bool.false_or, Bool.or_true, List.all_cons, List.all_nil, Nat.reduceMul, Nat.add_zero, Nat.zero_add, List.length_nil, List.length_cons, dite_true, List.nil_append, Nat.reduceBEq, reduceDIte, reduceIte, reduceCtorEq, Bool.or_false, Bool.true_or, Bool.and_false, Bool.false_and, Bool.not_true, Bool.not_false, Option.isSome_some, Option.isSome_none, Option.getD_some, List.getElem?_cons_zero, List.getElem?_cons_succ, eq_self, and_self, List.take_succ_cons, List.take_zero, List.drop_succ_cons, List.drop_zero]
  obtain ⟨⟨hp, hl, hw, hx⟩, hK⟩ := hK
  clear hok
  unfold jT at hK
  generalize hv : modI p (w64 (v + atT ts w)) = v' at *
  refine ⟨hp, by kernel_rfl, ?_⟩
  refine loop_okF (T := tab [c_l03Empty, c_l03At, c_l03Mod, c_l01Before, c_l01Same, c_own]) [1, 2, 3, 6, 7, 8, 9] [(16, 64), (17, 112), (18, 128), (19, 224)] (fun i : Nat => ⟨81, [(1, ri w), (2, vi v'), (3, .val (.one (.ptr 16 0))), (6, .val (.one (.ptr 17 0))), (7, .val (.one (.ptr 18 0))), (8, vb (jF w v' (ts.take i)).2), (9, vi i)],
      [(16, .box 31 [.v (.int .i64 p), .ro kTerm ts]), (17, .box 31 [.v (.int .i64 0), .v (.slice none 0 0)]), (18, .box 31 [.v (.int .i64 p), .own 19]), (19, .drow tI kTerm (jF w v' (ts.take i)).1)]⟩)
    (fun i => i ≤ ts.length) (fun i => ts.length - i) 0 rfl rfl (Nat.zero_le _) (fun i hi => ?_)
  have hjl := jF_len (w := w) (v := v') ts i
  have hjs : i < ts.length → jF w v' (ts.take (i + 1)) = _ := fun h => jF_s h
  generalize hgs : jF w v' (ts.take i) = s at *
  simp only [go_sem, ↓brB_t, ↓brB_f, Nat.reduceAdd, Int.reduceLE, Int.reduceLT, Int.reduceNeg, decide_true, decide_false, Bool.and_self, Nat.succ_eq_add_one, Int.toNat_natCast, Nat.beq_refl, Bool.and_true, Bool.true_and, Bool.false_or, Bool.or_true, List.all_cons, List.all_nil, Nat.reduceMul, Nat.add_zero, Nat.zero_add, List.length_nil, List.length_cons, dite_true, List.nil_append, Nat.reduceBEq, reduceDIte, reduceIte, reduceCtorEq, Bool.or_false, Bool.true_or, Bool.and_false, Bool.false_and, Bool.not_true, Bool.not_false, Option.isSome_some, Option.isSome_none, Option.getD_some, List.getElem?_cons_zero, List.getElem?_cons_succ, eq_self, and_self, List.take_succ_cons, List.take_zero, List.drop_succ_cons, List.drop_zero]
  refine brB_intro (fun h1 => ?_) (fun h1 => ?_)
  · have h1 := of_decide_eq_true h1
    have hs := hjs (by omega)
    have hw1 : w64 ((i : Int) + 1) = ((i + 1 : Nat) : Int) := w64_s (n := ts.length) (by omega) (by omega)
    have hxl := hx _ (getD_memT (show i < ts.length by omega))
    have hl2 : (s.1 ++ [(w, v')]).length = s.1.length + 1 := by rw [List.length_append]; rfl
    clear hjs hgs hv
    refine ⟨⟨by omega, by omega⟩, brB_intro (fun h2 => brB_intro (fun h3 => ⟨hw, by omega, by kernel_rfl, brB_intro (fun h4 => ⟨hxl, by rw [hl2]; omega, by kernel_rfl, i + 1, [(16, 16), (17, 17), (18, 18), (19, 1088)], by omega, by omega, rfl, ?_⟩) (fun h4 => ⟨i + 1, [(16, 16), (17, 17), (18, 18), (19, 832)], by omega, by omega, rfl, ?_⟩)⟩)
      (fun h3 => brB_intro (fun h4 => ⟨hxl, by omega, by kernel_rfl, i + 1, [(16, 16), (17, 17), (18, 18), (19, 1088)], by omega, by omega, rfl, ?_⟩) (fun h4 => ⟨i + 1, [(16, 16), (17, 17), (18, 18), (19, 19)], by omega, by omega, rfl, ?_⟩)))
      (fun h2 => brB_intro (fun h4 => ⟨hxl, by omega, by kernel_rfl, i + 1, [(16, 16), (17, 17), (18, 18), (19, 1088)], by omega, by omega, rfl, ?_⟩) (fun h4 => ⟨i + 1, [(16, 16), (17, 17), (18, 18), (19, 19)], by omega, by omega, rfl, ?_⟩))⟩
    · rw [jA, h2, Bool.true_and, if_pos h3, jB, if_neg (of_decide_eq_false (snb h4))] at hs
      rw [hw1, hs]; rfl
    · rw [jA, h2, Bool.true_and, if_pos h3, jB, if_pos (of_decide_eq_true (snb' h4))] at hs
      rw [hw1, hs]; rfl
    · rw [jA, h2, Bool.true_and, if_neg (by rw [h3]; decide), jB, if_neg (of_decide_eq_false (snb h4))] at hs
      rw [hw1, hs]; rfl
    · rw [jA, h2, Bool.true_and, if_neg (by rw [h3]; decide), jB, if_pos (of_decide_eq_true (snb' h4))] at hs
      rw [hw1, hs]; rfl
    · rw [jA, h2, Bool.false_and, if_neg (by decide), jB, if_neg (of_decide_eq_false (snb h4))] at hs
      rw [hw1, hs]; rfl
    · rw [jA, h2, Bool.false_and, if_neg (by decide), jB, if_pos (of_decide_eq_true (snb' h4))] at hs
      rw [hw1, hs]; rfl
  · have h1 := of_decide_eq_false h1
    have e : i = ts.length := by omega
    rw [e, List.take_length] at hgs
    rw [hgs] at hK
    refine brB_intro (fun h2 => ⟨hw, by omega, by kernel_rfl, retN [1264] rfl ?_⟩) (fun h2 => retN [19] rfl ?_)
    · rw [jE, if_neg (by rw [snb h2]; decide)] at hK; exact hK
    · rw [jE, if_pos (snb' h2)] at hK; exact hK
def c_l03Put : Ctr Tryz.prog := ⟨85, ent Tryz.func85 rfl rfl, [], sp_put, good_l03Put, []⟩
@[go_sem] theorem c_l03Put_f : c_l03Put.f = 85 := rfl
@[go_sem] theorem c_l03Put_ms : c_l03Put.ms = [] := rfl
@[go_sem] theorem c_l03Put_sp : c_l03Put.spec = sp_put := rfl
@[go_sem] theorem c_l03Put_fz : c_l03Put.fz = [] := rfl
attribute [go_sem] sp_put
end Go.Proofs.YthfmlelodmcgkaaGreat.V
end
section
namespace Go.Proofs.YthfmlelodmcgkaaGreat.V
open Go
theorem jF_len1 {w : List Int} {v : Int} (ts : TermL) (i : Nat) : (jF w v (ts.take i)).1.length ≤ i + (if (jF w v (ts.take i)).2 then 1 else 0) := by
  induction i with
  | zero => simp [jF]
  | succ i ih =>
    by_cases h : i < ts.length
    · rw [jF_s h]
      generalize jF w v (ts.take i) = s at *
      obtain ⟨a, b⟩ := s
      unfold jB jA
      cases b <;> simp only [Bool.not_true, Bool.not_false, Bool.true_and, Bool.false_and] at * <;> split <;> split <;> simp_all <;> omega
    · rw [List.take_of_length_le (by omega)] at ih ⊢
      omega
theorem jT_len (p : Int) (ts : TermL) (w : List Int) (v : Int) : (jT p ts w v).length ≤ ts.length + 1 := by
  have h := jF_len1 (w := w) (v := modI p (w64 (v + atT ts w))) ts ts.length
  rw [List.take_length] at h
  unfold jT jE
  split
  · rename_i e; rw [if_pos e] at h; exact h
  · rename_i e; rw [if_neg e] at h; rw [List.length_append]; simp; omega
theorem jF_mem {w : List Int} {v : Int} (ts : TermL) (i : Nat) : ∀ x ∈ (jF w v (ts.take i)).1, x = (w, v) ∨ x ∈ ts := by
  induction i with
  | zero => simp [jF]
  | succ i ih =>
    by_cases h : i < ts.length
    · rw [jF_s h]
      have hx := getD_memT h
      generalize jF w v (ts.take i) = s at *
      generalize ts.getD i ([], 0) = y at *
      intro x hm
      have key : ∀ s' : TermL × Bool, (∀ x ∈ s'.1, x = (w, v) ∨ x ∈ ts) → ∀ x ∈ (jB w s' y).1, x = (w, v) ∨ x ∈ ts := fun s' h' x hm => by
        unfold jB at hm
        split at hm
        · exact h' x hm
        · rcases List.mem_append.1 hm with hm | hm
          · exact h' x hm
          · rw [List.mem_singleton] at hm; exact .inr (hm ▸ hx)
      refine key _ (fun x hm => ?_) x hm
      unfold jA at hm
      split at hm
      · rcases List.mem_append.1 hm with hm | hm
        · exact ih x hm
        · rw [List.mem_singleton] at hm; exact .inl hm
      · exact ih x hm
    · rw [List.take_of_length_le (by omega)] at ih ⊢
      exact ih
theorem jT_mem {p : Int} {ts : TermL} {w : List Int} {v : Int} {x : List Int × Int} (h : x ∈ jT p ts w v) : x.1 = w ∨ x ∈ ts := by
  have hm := jF_mem (w := w) (v := modI p (w64 (v + atT ts w))) ts ts.length
  rw [List.take_length] at hm
  unfold jT jE at h
  split at h
  · exact (hm x h).imp (fun e => by rw [e]) id
  · rcases List.mem_append.1 h with h | h
    · exact (hm x h).imp (fun e => by rw [e]) id
    · rw [List.mem_singleton] at h; exact .inl (by rw [h])
theorem isS_parts {p : Int} {ts : TermL} (h : isS p ts = true) : p ≠ 0 ∧ ts.length ≤ 200 ∧ ∀ x ∈ ts, x.1.length ≤ 12 := by
  unfold isS at h
  simp only [Bool.and_eq_true, decide_eq_true_eq] at h
  obtain ⟨h1, h2, h3⟩ := h
  refine ⟨fun e => by rw [e] at h1; exact absurd h1 (by decide), h2, fun x hx => ?_⟩
  obtain ⟨i, hi, rfl⟩ := List.getElem_of_mem hx
  have := List.all_eq_true.1 h3 i (List.mem_range.2 hi)
  unfold termB at this
  simp only [Bool.and_eq_true] at this
  have e : ts.getD i ([], 0) = ts[i] := by rw [List.getD_eq_getElem?_getD, List.getElem?_eq_getElem hi]; rfl
  rw [e] at this
  have h4 := this.1
  unfold isW at h4
  simp only [Bool.and_eq_true, decide_eq_true_eq] at h4
  exact h4.1
theorem isS_words {p : Int} {ts : TermL} (h : isS p ts = true) : ∀ x ∈ ts, isW x.1 = true := by
  unfold isS at h
  simp only [Bool.and_eq_true, decide_eq_true_eq] at h
  obtain ⟨h1, h2, h3⟩ := h
  intro x hx
  obtain ⟨i, hi, rfl⟩ := List.getElem_of_mem hx
  have := List.all_eq_true.1 h3 i (List.mem_range.2 hi)
  unfold termB at this
  simp only [Bool.and_eq_true] at this
  have e : ts.getD i ([], 0) = ts[i] := by rw [List.getD_eq_getElem?_getD, List.getElem?_eq_getElem hi]; rfl
  rw [e] at this
  exact this.1
theorem isS_p {p : Int} {ts : TermL} (h : isS p ts = true) : 0 < p ∧ p ≤ 13 := by
  unfold isS at h
  simp only [Bool.and_eq_true] at h
  have h1 := h.1
  simp only [primeB, Bool.or_eq_true, decide_eq_true_eq] at h1
  omega
theorem isS_vals {p : Int} {ts : TermL} (h : isS p ts = true) : ∀ x ∈ ts, 0 ≤ x.2 ∧ x.2 ≤ 13 := by
  have hp := isS_p h
  unfold isS at h
  simp only [Bool.and_eq_true, decide_eq_true_eq] at h
  obtain ⟨h1, h2, h3⟩ := h
  intro x hx
  obtain ⟨i, hi, rfl⟩ := List.getElem_of_mem hx
  have := List.all_eq_true.1 h3 i (List.mem_range.2 hi)
  unfold termB at this
  simp only [Bool.and_eq_true] at this
  have e : ts.getD i ([], 0) = ts[i] := by rw [List.getD_eq_getElem?_getD, List.getElem?_eq_getElem hi]; rfl
  rw [e] at this
  have h4 := this.2.1
  rw [w64_id (by omega) (by omega)] at h4
  simp only [inB, Bool.and_eq_true, decide_eq_true_eq] at h4
  omega
end Go.Proofs.YthfmlelodmcgkaaGreat.V
end
section
namespace Go.Proofs.YthfmlelodmcgkaaGreat.V
open Go
open Go.Proofs.YthfmlelodmcgkaaGreatW.PrintWords (rd)
def idxI (l : List Int) (x : Int) : Int := match l.idxOf? x with | some j => (j : Int) | none => -1
def sp_index : List Cv → List Obj' → Tree
  | [.one (.ro (.int .i64) l), .one (.v (.int .i64 x))], [] => .ret (vi (idxI l x)) []
  | _, _ => .fail
theorem notin_s {l : List Int} {i : Nat} {x : Int} (h : x ∉ l.take i) (hi : i < l.length) (hx : ¬ x = l.getD i 0) : x ∉ l.take (i + 1) := by
  rw [List.take_succ_eq_append_getElem hi, ← getD_eq hi]
  simp only [List.mem_append, List.mem_cons, List.not_mem_nil, or_false, not_or]
  exact ⟨h, hx⟩
theorem idxI_at {l : List Int} {i : Nat} {x : Int} (h : x ∉ l.take i) (hi : i < l.length) (hx : x = l.getD i 0) : idxI l x = i := by
  have e : l = l.take i ++ x :: l.drop (i + 1) := by
    rw [hx, getD_eq hi, ← List.drop_eq_getElem_cons hi, List.take_append_drop]
  have hl : (l.take i).length = i := by rw [List.length_take]; omega
  have e2 : l.idxOf? x = some i := by
    rw [e, List.idxOf?, List.findIdx?_append]
    have : (l.take i).findIdx? (· == x) = none := by
      rw [List.findIdx?_eq_none_iff]
      intro y hy
      simp only [beq_eq_false_iff_ne, ne_eq]
      exact fun e => h (e ▸ hy)
    rw [this, hl]
    simp [List.findIdx?_cons]
  rw [idxI, e2]
theorem idxI_none {l : List Int} {x : Int} (h : x ∉ l) : idxI l x = -1 := by
  have : l.idxOf? x = none := by simpa [List.idxOf?_eq_none_iff] using h
  rw [idxI, this]
set_option maxHeartbeats 4000000 in
set_option maxRecDepth 100000 in
theorem good_index : Good Tryz.prog 166 sp_index := by
  refine good_ofF Tryz.func166 rfl _ rfl _ rfl (tab []) (fun X cs os0 K hok hos hK => ?_)
  clear hos; unfold sp_index at hK
  split at hK
  case h_2 => exact hK.elim
  rename_i l x
  refine ⟨by simp, by simp, ?_⟩
  simp only [go_sem] at hK hok
  simp (maxSteps := 4000000) only [go_sem, Tryz.f166, ↓brB_t, ↓brB_f, Nat.reduceAdd, Int.reduceLE, Int.reduceLT, Int.reduceNeg, decide_true, decide_false, Bool.and_self, Nat.succ_eq_add_one, Int.toNat_natCast, Nat.beq_refl, Bool.and_true, Bool.true_and, Bool.false_or, Bool.or_true, List.all_cons, List.all_nil, Nat.reduceMul, Nat.add_zero, Nat.zero_add, List.length_nil, List.length_cons, dite_true, List.nil_append, Nat.reduceBEq, reduceDIte, reduceIte, reduceCtorEq, Bool.or_false, Bool.true_or, Bool.and_false, Bool.false_and, Bool.not_true, Bool.not_false, Option.isSome_some, Option.isSome_none, Option.getD_some, List.getElem?_cons_zero, List.getElem?_cons_succ, eq_self, and_self, List.take_succ_cons, List.take_zero, List.drop_succ_cons, List.drop_zero]
  have hl := len_i hok.1.1
  clear hok
  refine loop_okF (T := tab []) [0, 1, 7, 8] [] (fun i : Nat => ⟨19, [(0, ri l), (1, vi x), (7, vi (l.length : Nat)), (8, vi i)], []⟩)
    (fun i => i ≤ l.length ∧ x ∉ l.take i) (fun i => l.length - i) 0 rfl rfl ⟨Nat.zero_le _, by simp⟩ (fun i hi => ?_)
  obtain ⟨hi, ht⟩ := hi
  simp only [go_sem, ↓brB_t, ↓brB_f, Nat.reduceAdd, Int.reduceLE, Int.reduceLT, Int.reduceNeg, decide_true, decide_false, Bool.and_self, Nat.succ_eq_add_one, Int.toNat_natCast, Nat.beq_refl, Bool.and_true, Bool.true_and, Bool.false_or, Bool.or_true, List.all_cons, List.all_nil, Nat.reduceMul, Nat.add_zero, Nat.zero_add, List.length_nil, List.length_cons, dite_true, List.nil_append, Nat.reduceBEq, reduceDIte, reduceIte, reduceCtorEq, Bool.or_false, Bool.true_or, Bool.and_false, Bool.false_and, Bool.not_true, Bool.not_false, Option.isSome_some, Option.isSome_none, Option.getD_some, List.getElem?_cons_zero, List.getElem?_cons_succ, eq_self, and_self, List.take_succ_cons, List.take_zero, List.drop_succ_cons, List.drop_zero]
  refine brB_intro (fun h1 => ?_) (fun h1 => ret0 ?_)
  · have h1 := of_decide_eq_true h1
    refine ⟨⟨by omega, by omega⟩, brB_intro (fun h2 => ret0 ?_) (fun h2 => ⟨i + 1, [], ⟨by omega, notin_s ht (by omega) (of_decide_eq_false h2)⟩, by omega, rfl, ?_⟩)⟩
    · rw [idxI_at ht (by omega) (of_decide_eq_true h2)] at hK; exact hK
    · rw [w64_s (n := l.length) (by omega) hl]; rfl
  · have h1 := of_decide_eq_false h1
    rw [List.take_of_length_le (by omega)] at ht
    rw [idxI_none ht] at hK; exact hK
def c_index : Ctr Tryz.prog := ⟨166, ent Tryz.func166 rfl rfl, [], sp_index, good_index, []⟩
@[go_sem] theorem c_index_f : c_index.f = 166 := rfl
@[go_sem] theorem c_index_ms : c_index.ms = [] := rfl
@[go_sem] theorem c_index_sp : c_index.spec = sp_index := rfl
@[go_sem] theorem c_index_fz : c_index.fz = [] := rfl
attribute [go_sem] sp_index
end Go.Proofs.YthfmlelodmcgkaaGreat.V
end
section
namespace Go.Proofs.YthfmlelodmcgkaaGreat.V
open Go
set_option maxHeartbeats 4000000 in
set_option maxRecDepth 100000 in
theorem good_nan : Good Tryz.prog 200 sp_nan := by
  refine good_ofF Tryz.func200 rfl _ rfl _ rfl (tab []) (fun X cs os0 K hok hos hK => ?_)
  clear hos; unfold sp_nan at hK
  split at hK
  case h_2 => exact hK.elim
  rename_i x
  refine ⟨by simp, by simp, ?_⟩
  simp only [go_sem] at hK hok
  simp (maxSteps := 4000000) only [go_sem, Tryz.f200, ↓brB_t, ↓brB_f, Nat.reduceAdd, Int.reduceLE, Int.reduceLT, Int.reduceNeg, decide_true, decide_false, Bool.and_self, Nat.succ_eq_add_one, Int.toNat_natCast, Nat.beq_refl, Bool.and_true, Bool.true_and, Bool.false_or, Bool.or_true, List.all_cons, List.all_nil, Nat.reduceMul, Nat.add_zero, Nat.zero_add, List.length_nil, List.length_cons, dite_true, List.nil_append, Nat.reduceBEq, reduceDIte, reduceIte, reduceCtorEq, Bool.or_false, Bool.true_or, Bool.and_false, Bool.false_and, Bool.not_true, Bool.not_false, Option.isSome_some, Option.isSome_none, Option.getD_some, List.getElem?_cons_zero, List.getElem?_cons_succ, eq_self, and_self, List.take_succ_cons, List.take_zero, List.drop_succ_cons, List.drop_zero]
  exact ret0 hK
def c_nan : Ctr Tryz.prog := ⟨200, ent Tryz.func200 rfl rfl, [], sp_nan, good_nan, []⟩
@[go_sem] theorem c_nan_f : c_nan.f = 200 := rfl
@[go_sem] theorem c_nan_ms : c_nan.ms = [] := rfl
@[go_sem] theorem c_nan_sp : c_nan.spec = sp_nan := rfl
@[go_sem] theorem c_nan_fz : c_nan.fz = [] := rfl
attribute [go_sem] sp_nan
set_option maxHeartbeats 4000000 in
set_option maxRecDepth 100000 in
theorem good_cmp : Good Tryz.prog 181 sp_cmp := by
  refine good_ofF Tryz.func181 rfl _ rfl _ rfl (tab [c_nan]) (fun X cs os0 K hok hos hK => ?_)
  clear hos; unfold sp_cmp at hK
  split at hK
  case h_2 => exact hK.elim
  rename_i x y
  refine ⟨by simp, by simp, ?_⟩
  simp only [go_sem] at hK hok
  simp (maxSteps := 4000000) only [go_sem, Tryz.f181, ↓brB_t, ↓brB_f, Nat.reduceAdd, Int.reduceLE, Int.reduceLT, Int.reduceNeg, decide_true, decide_false, Bool.and_self, Nat.succ_eq_add_one, Int.toNat_natCast, Nat.beq_refl, Bool.and_true, Bool.true_and, Bool.false_or, Bool.or_true, List.all_cons, List.all_nil, Nat.reduceMul, Nat.add_zero, Nat.zero_add, List.length_nil, List.length_cons, dite_true, List.nil_append, Nat.reduceBEq, reduceDIte, reduceIte, reduceCtorEq, Bool.or_false, Bool.true_or, Bool.and_false, Bool.false_and, Bool.not_true, Bool.not_false, Option.isSome_some, Option.isSome_none, Option.getD_some, List.getElem?_cons_zero, List.getElem?_cons_succ, eq_self, and_self, List.take_succ_cons, List.take_zero, List.drop_succ_cons, List.drop_zero]
  clear hok
  refine brB_intro (fun h => ret0 ?_) (fun h => brB_intro (fun h2 => ret0 ?_) (fun h2 => ret0 ?_))
  · rw [cmpI, if_pos (of_decide_eq_true h)] at hK; exact hK
  · rw [cmpI, if_neg (of_decide_eq_false h), if_pos (of_decide_eq_true h2)] at hK; exact hK
  · rw [cmpI, if_neg (of_decide_eq_false h), if_neg (of_decide_eq_false h2)] at hK; exact hK
def c_cmp : Ctr Tryz.prog := ⟨181, ent Tryz.func181 rfl rfl, [], sp_cmp, good_cmp, []⟩
@[go_sem] theorem c_cmp_f : c_cmp.f = 181 := rfl
@[go_sem] theorem c_cmp_ms : c_cmp.ms = [] := rfl
@[go_sem] theorem c_cmp_sp : c_cmp.spec = sp_cmp := rfl
@[go_sem] theorem c_cmp_fz : c_cmp.fz = [] := rfl
attribute [go_sem] sp_cmp
def orL : List Int → Int
  | [] => 0
  | x :: r => if x = 0 then orL r else x
def sp_or : List Cv → List Obj' → Tree
  | [.one (.ro (.int .i64) l)], [] => .ret (vi (orL l)) []
  | _, _ => .fail
theorem orL_s {l : List Int} {i : Nat} (h : i < l.length) : orL (l.drop i) = if l.getD i 0 = 0 then orL (l.drop (i + 1)) else l.getD i 0 := by
  rw [List.drop_eq_getElem_cons h, orL, getD_eq h]
set_option maxHeartbeats 4000000 in
set_option maxRecDepth 100000 in
theorem good_or : Good Tryz.prog 180 sp_or := by
  refine good_ofF Tryz.func180 rfl _ rfl _ rfl (tab []) (fun X cs os0 K hok hos hK => ?_)
  clear hos; unfold sp_or at hK
  split at hK
  case h_2 => exact hK.elim
  rename_i l
  refine ⟨by simp, by simp, ?_⟩
  simp only [go_sem] at hK hok
  simp (maxSteps := 4000000) only [go_sem, Tryz.f180, ↓brB_t, ↓brB_f, Nat.reduceAdd, Int.reduceLE, Int.reduceLT, Int.reduceNeg, decide_true, decide_false, Bool.and_self, Nat.succ_eq_add_one, Int.toNat_natCast, Nat.beq_refl, Bool.and_true, Bool.true_and, Bool.false_or, Bool.or_true, List.all_cons, List.all_nil, Nat.reduceMul, Nat.add_zero, Nat.zero_add, List.length_nil, List.length_cons, dite_true, List.nil_append, Nat.reduceBEq, reduceDIte, reduceIte, reduceCtorEq, Bool.or_false, Bool.true_or, Bool.and_false, Bool.false_and, Bool.not_true, Bool.not_false, Option.isSome_some, Option.isSome_none, Option.getD_some, List.getElem?_cons_zero, List.getElem?_cons_succ, eq_self, and_self, List.take_succ_cons, List.take_zero, List.drop_succ_cons, List.drop_zero]
  have hl := len_i hok.1.1
  clear hok
  refine loop_okF (T := tab []) [3, 6, 7, 8] [] (fun i : Nat => ⟨18, [(3, vi 0), (6, ri l), (7, vi (l.length : Nat)), (8, vi i)], []⟩)
    (fun i => i ≤ l.length ∧ orL l = orL (l.drop i)) (fun i => l.length - i) 0 rfl rfl ⟨Nat.zero_le _, rfl⟩ (fun i hi => ?_)
  obtain ⟨hi, hm⟩ := hi
  simp only [go_sem, ↓brB_t, ↓brB_f, Nat.reduceAdd, Int.reduceLE, Int.reduceLT, Int.reduceNeg, decide_true, decide_false, Bool.and_self, Nat.succ_eq_add_one, Int.toNat_natCast, Nat.beq_refl, Bool.and_true, Bool.true_and, Bool.false_or, Bool.or_true, List.all_cons, List.all_nil, Nat.reduceMul, Nat.add_zero, Nat.zero_add, List.length_nil, List.length_cons, dite_true, List.nil_append, Nat.reduceBEq, reduceDIte, reduceIte, reduceCtorEq, Bool.or_false, Bool.true_or, Bool.and_false, Bool.false_and, Bool.not_true, Bool.not_false, Option.isSome_some, Option.isSome_none, Option.getD_some, List.getElem?_cons_zero, List.getElem?_cons_succ, eq_self, and_self, List.take_succ_cons, List.take_zero, List.drop_succ_cons, List.drop_zero]
  refine brB_intro (fun h1 => ?_) (fun h1 => ret0 ?_)
  · have h1 := of_decide_eq_true h1
    have hw : w64 ((i : Int) + 1) = ((i + 1 : Nat) : Int) := w64_s (n := l.length) (by omega) hl
    have hs := orL_s (l := l) (i := i) (by omega)
    refine ⟨⟨by omega, by omega⟩, brB_intro (fun h2 => ret0 ?_) (fun h2 => ⟨i + 1, [], ⟨by omega, ?_⟩, by omega, rfl, by rw [hw]; rfl⟩)⟩
    · rw [if_neg (of_decide_eq_false (snb h2))] at hs
      rw [hm, hs] at hK; exact hK
    · rw [if_pos (of_decide_eq_true (snb' h2))] at hs
      rw [hm, hs]
  · have h1 := of_decide_eq_false h1
    rw [hm, List.drop_eq_nil_of_le (by omega)] at hK; exact hK
def c_or : Ctr Tryz.prog := ⟨180, ent Tryz.func180 rfl rfl, [], sp_or, good_or, []⟩
@[go_sem] theorem c_or_f : c_or.f = 180 := rfl
@[go_sem] theorem c_or_ms : c_or.ms = [] := rfl
@[go_sem] theorem c_or_sp : c_or.spec = sp_or := rfl
@[go_sem] theorem c_or_fz : c_or.fz = [] := rfl
attribute [go_sem] sp_or
def sp_wordOrder : List Cv → List Obj' → Tree
  | [.one (.ro (.int .i64) a), .one (.ro (.int .i64) b)], [] => .ret (vi (orL [cmpI a.length b.length, cmpL a b])) []
  | _, _ => .fail
set_option maxHeartbeats 4000000 in
set_option maxRecDepth 100000 in
theorem good_wordOrder : Good Tryz.prog 158 sp_wordOrder := by
  refine good_ofF Tryz.func158 rfl _ rfl _ rfl (tab [c_cmp, c_cmpS, c_or]) (fun X cs os0 K hok hos hK => ?_)
  clear hos; unfold sp_wordOrder at hK
  split at hK
  case h_2 => exact hK.elim
  rename_i a b
  refine ⟨by simp, by simp, ?_⟩
  simp only [go_sem] at hK hok
  simp (maxSteps := 4000000) only [go_sem, Tryz.f158, ↓brB_t, ↓brB_f, Nat.reduceAdd, Int.reduceLE, Int.reduceLT, Int.reduceNeg, decide_true, decide_false, Bool.and_self, Nat.succ_eq_add_one, Int.toNat_natCast, Nat.beq_refl, Bool.and_true, Bool.true_and, Bool.false_or, Bool.or_true, List.all_cons, List.all_nil, Nat.reduceMul, Nat.add_zero, Nat.zero_add, List.length_nil, List.length_cons, dite_true, List.nil_append, Nat.reduceBEq, reduceDIte, reduceIte, reduceCtorEq, Bool.or_false, Bool.true_or, Bool.and_false, Bool.false_and, Bool.not_true, Bool.not_false, Option.isSome_some, Option.isSome_none, Option.getD_some, List.getElem?_cons_zero, List.getElem?_cons_succ, eq_self, and_self, List.take_succ_cons, List.take_zero, List.drop_succ_cons, List.drop_zero]
  exact ret0 hK
def c_wordOrder : Ctr Tryz.prog := ⟨158, ent Tryz.func158 rfl rfl, [], sp_wordOrder, good_wordOrder, []⟩
@[go_sem] theorem c_wordOrder_f : c_wordOrder.f = 158 := rfl
@[go_sem] theorem c_wordOrder_ms : c_wordOrder.ms = [] := rfl
@[go_sem] theorem c_wordOrder_sp : c_wordOrder.spec = sp_wordOrder := rfl
@[go_sem] theorem c_wordOrder_fz : c_wordOrder.fz = [] := rfl
attribute [go_sem] sp_wordOrder
theorem order_before (a b : List Int) : decide (0 ≤ orL [cmpI a.length b.length, cmpL a b]) = !beforeB a b := by
  rw [beforeB, orL]
  by_cases e : a.length = b.length
  · have e0 : cmpI (a.length : Int) b.length = 0 := by rw [cmpI, if_neg (by omega), if_neg (by omega)]
    rw [if_pos e0, if_pos e, ← cmpL_lex e, orL]
    split
    · rename_i h; rw [h]; rfl
    · rfl
  · rw [if_neg e]
    by_cases l : a.length < b.length
    · have e1 : cmpI (a.length : Int) b.length = -1 := by rw [cmpI, if_pos (by omega)]
      rw [e1, if_neg (by omega), decide_eq_true l]; rfl
    · have e1 : cmpI (a.length : Int) b.length = 1 := by rw [cmpI, if_neg (by omega), if_pos (by omega)]
      rw [e1, if_neg (by omega), decide_eq_false l]; rfl
def sp_has : List Cv → List Obj' → Tree
  | [.one (.ro (.int .i64) l), .one (.v (.int .i64 x))], [] => .ret (vb (decide ((x : Int) ∈ (l : List Int)))) []
  | _, _ => .fail
theorem idxI_mem (l : List Int) (x : Int) : decide (0 ≤ idxI l x) = decide (x ∈ l) := by
  by_cases h : x ∈ l
  · rw [decide_eq_true h]
    unfold idxI
    cases e : l.idxOf? x with
    | some j => simp
    | none => exact absurd h (by simpa [List.idxOf?_eq_none_iff] using e)
  · rw [decide_eq_false h, idxI_none h]; rfl
set_option maxHeartbeats 4000000 in
set_option maxRecDepth 100000 in
theorem good_has : Good Tryz.prog 145 sp_has := by
  refine good_ofF Tryz.func145 rfl _ rfl _ rfl (tab [c_index]) (fun X cs os0 K hok hos hK => ?_)
  clear hos; unfold sp_has at hK
  split at hK
  case h_2 => exact hK.elim
  rename_i l x
  refine ⟨by simp, by simp, ?_⟩
  simp only [go_sem] at hK hok
  simp (maxSteps := 4000000) only [go_sem, Tryz.f145, ↓brB_t, ↓brB_f, Nat.reduceAdd, Int.reduceLE, Int.reduceLT, Int.reduceNeg, decide_true, decide_false, Bool.and_self, Nat.succ_eq_add_one, Int.toNat_natCast, Nat.beq_refl, Bool.and_true, Bool.true_and, Bool.false_or, Bool.or_true, List.all_cons, List.all_nil, Nat.reduceMul, Nat.add_zero, Nat.zero_add, List.length_nil, List.length_cons, dite_true, List.nil_append, Nat.reduceBEq, reduceDIte, reduceIte, reduceCtorEq, Bool.or_false, Bool.true_or, Bool.and_false, Bool.false_and, Bool.not_true, Bool.not_false, Option.isSome_some, Option.isSome_none, Option.getD_some, List.getElem?_cons_zero, List.getElem?_cons_succ, eq_self, and_self, List.take_succ_cons, List.take_zero, List.drop_succ_cons, List.drop_zero]
  clear hok
  rw [← idxI_mem] at hK
  exact ret0 hK
def c_has : Ctr Tryz.prog := ⟨145, ent Tryz.func145 rfl rfl, [], sp_has, good_has, []⟩
@[go_sem] theorem c_has_f : c_has.f = 145 := rfl
@[go_sem] theorem c_has_ms : c_has.ms = [] := rfl
@[go_sem] theorem c_has_sp : c_has.spec = sp_has := rfl
@[go_sem] theorem c_has_fz : c_has.fz = [] := rfl
attribute [go_sem] sp_has
set_option maxHeartbeats 4000000 in
set_option maxRecDepth 100000 in
theorem good_isPrime : Good Tryz.prog 104 sp_prime := by
  refine good_ofF Tryz.func104 rfl _ rfl _ rfl (tab [c_has]) (fun X cs os0 K hok hos hK => ?_)
  clear hos; unfold sp_prime at hK
  split at hK
  case h_2 => exact hK.elim
  rename_i p
  refine ⟨by simp, by simp, ?_⟩
  simp only [go_sem] at hK hok
  simp (maxSteps := 4000000) only [go_sem, Tryz.f104, ↓brB_t, ↓brB_f, Nat.reduceAdd, Int.reduceLE, Int.reduceLT, Int.reduceNeg, decide_true, decide_false, Bool.and_self, Nat.succ_eq_add_one, Int.toNat_natCast, Nat.beq_refl, Bool.and_true, Bool.true_and, Bool.false_or, Bool.or_true, List.all_cons, List.all_nil, Nat.reduceMul, Nat.add_zero, Nat.zero_add, List.length_nil, List.length_cons, dite_true, List.nil_append, Nat.reduceBEq, reduceDIte, reduceIte, reduceCtorEq, Bool.or_false, Bool.true_or, Bool.and_false, Bool.false_and, Bool.not_true, Bool.not_false, Option.isSome_some, Option.isSome_none, Option.getD_some, List.getElem?_cons_zero, List.getElem?_cons_succ, eq_self, and_self, List.take_succ_cons, List.take_zero, List.drop_succ_cons, List.drop_zero]
  clear hok
  have e : decide (p ∈ ([2, 3, 5, 7, 11, 13] : List Int)) = primeB p := by
    rw [primeB, Bool.eq_iff_iff]
    simp only [decide_eq_true_eq, Bool.or_eq_true, List.mem_cons, List.not_mem_nil, or_false]
  rw [← e] at hK
  exact ret0 hK
def c_isPrime : Ctr Tryz.prog := ⟨104, ent Tryz.func104 rfl rfl, [], sp_prime, good_isPrime, []⟩
@[go_sem] theorem c_isPrime_f : c_isPrime.f = 104 := rfl
@[go_sem] theorem c_isPrime_ms : c_isPrime.ms = [] := rfl
@[go_sem] theorem c_isPrime_sp : c_isPrime.spec = sp_prime := rfl
@[go_sem] theorem c_isPrime_fz : c_isPrime.fz = [] := rfl
attribute [go_sem] sp_prime
def sp_rest : List Cv → List Obj' → Tree
  | [.one (.v (.int .i64 x)), .one (.v (.int .i64 p))], [] => .need (p ≠ 0) (.ret (vi (modI p x)) [])
  | _, _ => .fail
set_option maxHeartbeats 4000000 in
set_option maxRecDepth 100000 in
theorem good_rest : Good Tryz.prog 76 sp_rest := by
  refine good_ofF Tryz.func76 rfl _ rfl _ rfl (tab []) (fun X cs os0 K hok hos hK => ?_)
  clear hos; unfold sp_rest at hK
  split at hK
  case h_2 => exact hK.elim
  rename_i x p
  refine ⟨by simp, by simp, ?_⟩
  simp only [go_sem] at hK hok
  simp (maxSteps := 4000000) only [go_sem, Tryz.f76, ↓brB_t, ↓brB_f, Nat.reduceAdd, Int.reduceLE, Int.reduceLT, Int.reduceNeg, decide_true, decide_false, Bool.and_self, Nat.succ_eq_add_one, Int.toNat_natCast, Nat.beq_refl, Bool.and_true, Bool.true_and, Bool.false_or, Bool.or_true, List.all_cons, List.all_nil, Nat.reduceMul, Nat.add_zero, Nat.zero_add, List.length_nil, List.length_cons, dite_true, List.nil_append, Nat.reduceBEq, reduceDIte, reduceIte, reduceCtorEq, Bool.or_false, Bool.true_or, Bool.and_false, Bool.false_and, Bool.not_true, Bool.not_false, Option.isSome_some, Option.isSome_none, Option.getD_some, List.getElem?_cons_zero, List.getElem?_cons_succ, eq_self, and_self, List.take_succ_cons, List.take_zero, List.drop_succ_cons, List.drop_zero]
  clear hok
  exact ⟨hK.1, hK.1, ret0 hK.2⟩
def c_rest : Ctr Tryz.prog := ⟨76, ent Tryz.func76 rfl rfl, [], sp_rest, good_rest, []⟩
@[go_sem] theorem c_rest_f : c_rest.f = 76 := rfl
@[go_sem] theorem c_rest_ms : c_rest.ms = [] := rfl
@[go_sem] theorem c_rest_sp : c_rest.spec = sp_rest := rfl
@[go_sem] theorem c_rest_fz : c_rest.fz = [] := rfl
attribute [go_sem] sp_rest
end Go.Proofs.YthfmlelodmcgkaaGreat.V
end
section
namespace Go.Proofs.YthfmlelodmcgkaaGreat.V
open Go
set_option maxHeartbeats 4000000 in
set_option maxRecDepth 100000 in
theorem good_IsSum : Good Tryz.prog 132 sp_isS := by
  refine good_ofF Tryz.func132 rfl _ rfl _ rfl (tab [c_isPrime, c_IsWord, c_in, c_wordOrder]) (fun X cs os0 K hok hos hK => ?_)
  clear hos; unfold sp_isS at hK
  split at hK
  case h_2 => exact hK.elim
  rename_i p ts
  refine ⟨by simp, by simp, ?_⟩
  simp only [go_sem] at hK hok
  simp (maxSteps := 4000000) only [go_sem, Tryz.f132, ↓brB_t, ↓brB_f, Nat.reduceAdd, Int.reduceLE, Int.reduceLT, Int.reduceNeg, decide_true, decide_false, Bool.and_self, Nat.succ_eq_add_one, Int.toNat_natCast, Nat.beq_refl, Bool.and_true, Bool.true_and, Bool.false_or, Bool.or_true, List.all_cons, List.all_nil, Nat.reduceMul, Nat.add_zero, Nat.zero_add, List.length_nil, List.length_cons, dite_true, List.nil_append, Nat.reduceBEq, reduceDIte, reduceIte, reduceCtorEq, Bool.or_false, Bool.true_or, Bool.and_false, Bool.false_and, Bool.not_true, Bool.not_false, Option.isSome_some, Option.isSome_none, Option.getD_some, List.getElem?_cons_zero, List.getElem?_cons_succ, eq_self, and_self, List.take_succ_cons, List.take_zero, List.drop_succ_cons, List.drop_zero]
  clear hok
  unfold isS at hK
  refine brB_intro (fun h => ret0 (by rw [snb h] at hK; exact hK)) (fun h => ?_)
  rw [snb' h, Bool.true_and] at hK
  refine brB_intro (fun h2 => ret0 ?_) (fun h2 => ?_)
  · have h2 := of_decide_eq_true h2
    rw [decide_eq_false (by omega)] at hK; exact hK
  have h2 := of_decide_eq_false h2
  rw [decide_eq_true (by omega), Bool.true_and] at hK
  refine loop_okF (T := tab [c_isPrime, c_IsWord, c_in, c_wordOrder]) [1, 16, 17, 18] [(16, 32)] (fun i : Nat => ⟨54, [(1, .val (.one (.ptr 16 0))), (16, .val (.one (.ro kTerm ts))), (17, vi (ts.length : Nat)), (18, vi i)], [(16, .box 31 [.v (.int .i64 p), .ro kTerm ts])]⟩)
    (fun i => i ≤ ts.length ∧ (List.range i).all (termB p ts) = true) (fun i => ts.length - i) 0 rfl rfl ⟨Nat.zero_le _, rfl⟩ (fun i hi => ?_)
  obtain ⟨hi, hm⟩ := hi
  simp only [go_sem, ↓brB_t, ↓brB_f, Nat.reduceAdd, Int.reduceLE, Int.reduceLT, Int.reduceNeg, decide_true, decide_false, Bool.and_self, Nat.succ_eq_add_one, Int.toNat_natCast, Nat.beq_refl, Bool.and_true, Bool.true_and, Bool.false_or, Bool.or_true, List.all_cons, List.all_nil, Nat.reduceMul, Nat.add_zero, Nat.zero_add, List.length_nil, List.length_cons, dite_true, List.nil_append, Nat.reduceBEq, reduceDIte, reduceIte, reduceCtorEq, Bool.or_false, Bool.true_or, Bool.and_false, Bool.false_and, Bool.not_true, Bool.not_false, Option.isSome_some, Option.isSome_none, Option.getD_some, List.getElem?_cons_zero, List.getElem?_cons_succ, eq_self, and_self, List.take_succ_cons, List.take_zero, List.drop_succ_cons, List.drop_zero]
  refine brB_intro (fun h1 => ?_) (fun h1 => ret0 ?_)
  · have h1 := of_decide_eq_true h1
    have hw : w64 ((i : Int) + 1) = ((i + 1 : Nat) : Int) := w64_s (n := ts.length) (by omega) (by omega)
    have no : termB p ts i = false → K (vb false) [] := fun h => by rw [all_rn (i := i) (by omega) h] at hK; exact hK
    refine ⟨⟨by omega, by omega⟩, brB_intro (fun h3 => ⟨by kernel_rfl, ret0 (no ?_)⟩) (fun h3 => brB_intro (fun h4 => ⟨by kernel_rfl, ret0 (no ?_)⟩) (fun h4 => brB_intro (fun h5 => ?_) (fun h5 => ⟨by kernel_rfl, i + 1, [(16, 16)], ⟨by omega, all_rs hm ?_⟩, by omega, rfl, by rw [hw]; rfl⟩)))⟩
    · rw [termB, snb h3]; rfl
    · rw [termB, snb' h3, snb h4]; rfl
    · have h5 := of_decide_eq_true h5
      have e1 : w64 ((i : Int) - 1) = ((i - 1 : Nat) : Int) := by rw [w64_id (by omega) (by omega)]; omega
      simp only [e1, Int.toNat_natCast, order_before]
      refine ⟨⟨by omega, by omega⟩, by kernel_rfl, brB_intro (fun h6 => ret0 (no ?_)) (fun h6 => ⟨i + 1, [(16, 16)], ⟨by omega, all_rs hm ?_⟩, by omega, rfl, by rw [hw]; rfl⟩)⟩
      · rw [termB, snb' h3, snb' h4, decide_eq_false (by omega), snb h6]; rfl
      · rw [termB, snb' h3, snb' h4, snb' h6]; simp
    · have h5 := of_decide_eq_false h5
      rw [termB, snb' h3, snb' h4, decide_eq_true (by omega)]; rfl
  · have h1 := of_decide_eq_false h1
    have e : i = ts.length := by omega
    subst e
    rw [hm] at hK; exact hK
def c_IsSum : Ctr Tryz.prog := ⟨132, ent Tryz.func132 rfl rfl, [], sp_isS, good_IsSum, []⟩
@[go_sem] theorem c_IsSum_f : c_IsSum.f = 132 := rfl
@[go_sem] theorem c_IsSum_ms : c_IsSum.ms = [] := rfl
@[go_sem] theorem c_IsSum_sp : c_IsSum.spec = sp_isS := rfl
@[go_sem] theorem c_IsSum_fz : c_IsSum.fz = [] := rfl
attribute [go_sem] sp_isS
end Go.Proofs.YthfmlelodmcgkaaGreat.V
end
section
namespace Go.Proofs.YthfmlelodmcgkaaGreat.V
open Go
abbrev kSm : Kn := .pr (.int .i64) (.sl 87 kTerm)
abbrev SumT := Int × TermL
abbrev TstS := HT [kSm] → Option Kn.bool.T
def tstS (f : TstS) (x : SumT) : Bool := (f (x, ())).getD false
def idxS (p : SumT → Bool) (l : List SumT) : Int := match l.findIdx? p with | some j => (j : Int) | none => -1
def sp_indexS : List Cv → List Obj' → Tree
  | [.one (.ro (.pr (.int .i64) (.sl 87 (.pr (.sl 2 (.int .i64)) (.int .i64)))) l), .one (.pf [.pr (.int .i64) (.sl 87 (.pr (.sl 2 (.int .i64)) (.int .i64)))] .bool f)], [] => .need (l.length ≤ 1000 ∧ ∀ x ∈ (l : List SumT), (f (x, ())).isSome = true) (.ret (vi (idxS (tstS f) l)) [])
  | _, _ => .fail
def sp_containsS : List Cv → List Obj' → Tree
  | [.one (.ro (.pr (.int .i64) (.sl 87 (.pr (.sl 2 (.int .i64)) (.int .i64)))) l), .one (.pf [.pr (.int .i64) (.sl 87 (.pr (.sl 2 (.int .i64)) (.int .i64)))] .bool f)], [] => .need (l.length ≤ 1000 ∧ ∀ x ∈ (l : List SumT), (f (x, ())).isSome = true) (.ret (vb ((l : List SumT).any (tstS f))) [])
  | _, _ => .fail
theorem getD_memS {l : List SumT} {i : Nat} (h : i < l.length) : l.getD i (0, []) ∈ l := by rw [List.getD_eq_getElem?_getD, List.getElem?_eq_getElem h]; exact List.getElem_mem _
theorem getD_eqS {l : List SumT} {i : Nat} (h : i < l.length) : l.getD i (0, []) = l[i] := by rw [List.getD_eq_getElem?_getD, List.getElem?_eq_getElem h]; rfl
set_option maxHeartbeats 4000000 in
set_option maxRecDepth 100000 in
theorem good_indexS : Good Tryz.prog 134 sp_indexS := by
  refine good_ofF Tryz.func134 rfl _ rfl _ rfl (tab []) (fun X cs os0 K hok hos hK => ?_)
  clear hos; unfold sp_indexS at hK
  split at hK
  case h_2 => exact hK.elim
  rename_i l f
  refine ⟨by simp, by simp, ?_⟩
  simp only [go_sem] at hK hok
  simp (maxSteps := 4000000) only [go_sem, Tryz.f134, ↓brB_t, ↓brB_f, Nat.reduceAdd, Int.reduceLE, Int.reduceLT, Int.reduceNeg, decide_true, decide_false, Bool.and_self, Nat.succ_eq_add_one, Int.toNat_natCast, Nat.beq_refl, Bool.and_true, Bool.true_and, Bool.false_or, Bool.or_true, List.all_cons, List.all_nil, Nat.reduceMul, Nat.add_zero, Nat.zero_add, List.length_nil, List.length_cons, dite_true, List.nil_append, Nat.reduceBEq, reduceDIte, reduceIte, reduceCtorEq, Bool.or_false, Bool.true_or, Bool.and_false, Bool.false_and, Bool.not_true, Bool.not_false, Option.isSome_some, Option.isSome_none, Option.getD_some, List.getElem?_cons_zero, List.getElem?_cons_succ, eq_self, and_self, List.take_succ_cons, List.take_zero, List.drop_succ_cons, List.drop_zero]
  obtain ⟨⟨hl, hf⟩, hK⟩ := hK
  clear hok
  refine loop_okF (T := tab []) [0, 1, 7, 8] [] (fun i : Nat => ⟨19, [(0, .val (.one (.ro kSm l))), (1, .val (.one (.pf [kSm] .bool f))), (7, vi (l.length : Nat)), (8, vi i)], []⟩)
    (fun i => i ≤ l.length ∧ ((l : List SumT).take i).all (fun x => !tstS f x) = true) (fun i => l.length - i) 0 rfl rfl ⟨Nat.zero_le _, rfl⟩ (fun i hi => ?_)
  obtain ⟨hi, ht⟩ := hi
  simp only [go_sem, ↓brB_t, ↓brB_f, Nat.reduceAdd, Int.reduceLE, Int.reduceLT, Int.reduceNeg, decide_true, decide_false, Bool.and_self, Nat.succ_eq_add_one, Int.toNat_natCast, Nat.beq_refl, Bool.and_true, Bool.true_and, Bool.false_or, Bool.or_true, List.all_cons, List.all_nil, Nat.reduceMul, Nat.add_zero, Nat.zero_add, List.length_nil, List.length_cons, dite_true, List.nil_append, Nat.reduceBEq, reduceDIte, reduceIte, reduceCtorEq, Bool.or_false, Bool.true_or, Bool.and_false, Bool.false_and, Bool.not_true, Bool.not_false, Option.isSome_some, Option.isSome_none, Option.getD_some, List.getElem?_cons_zero, List.getElem?_cons_succ, eq_self, and_self, List.take_succ_cons, List.take_zero, List.drop_succ_cons, List.drop_zero]
  refine brB_intro (fun h1 => ?_) (fun h1 => ret0 ?_)
  · have h1 := of_decide_eq_true h1
    have h1 : i < l.length := by omega
    refine ⟨⟨by omega, by omega⟩, hf _ (getD_memS h1), brB_intro (fun h2 => ret0 ?_) (fun h2 => ⟨i + 1, [], ⟨by omega, ?_⟩, by omega, rfl, ?_⟩)⟩
    · have e : idxS (tstS f) l = i := by
        have : List.findIdx? (tstS f) l = some i := by
          rw [List.findIdx?_eq_some_iff_getElem]
          refine ⟨h1, by rw [← getD_eqS h1]; exact h2, fun j hj => ?_⟩
          have := List.all_eq_true.1 ht l[j] (by rw [List.mem_take_iff_getElem]; exact ⟨j, by omega, rfl⟩)
          simpa using this
        rw [idxS, this]
      rw [e] at hK; exact hK
    · rw [List.take_succ_eq_append_getElem h1, List.all_append, ht, ← getD_eqS h1]
      simp only [List.all_cons, List.all_nil, Bool.and_true, Bool.true_and, Bool.not_eq_true']
      exact h2
    · rw [w64_s (n := l.length) h1 (by omega)]; rfl
  · have h1 := of_decide_eq_false h1
    have e : idxS (tstS f) l = -1 := by
      have : List.findIdx? (tstS f) l = none := by
        rw [List.findIdx?_eq_none_iff]
        intro x hx
        rw [List.take_of_length_le (by omega)] at ht
        simpa using List.all_eq_true.1 ht x hx
      rw [idxS, this]
    rw [e] at hK; exact hK
def c_indexS : Ctr Tryz.prog := ⟨134, ent Tryz.func134 rfl rfl, [], sp_indexS, good_indexS, []⟩
@[go_sem] theorem c_indexS_f : c_indexS.f = 134 := rfl
@[go_sem] theorem c_indexS_ms : c_indexS.ms = [] := rfl
@[go_sem] theorem c_indexS_sp : c_indexS.spec = sp_indexS := rfl
@[go_sem] theorem c_indexS_fz : c_indexS.fz = [] := rfl
attribute [go_sem] sp_indexS
set_option maxHeartbeats 4000000 in
set_option maxRecDepth 100000 in
theorem good_containsS : Good Tryz.prog 91 sp_containsS := by
  refine good_ofF Tryz.func91 rfl _ rfl _ rfl (tab [c_indexS]) (fun X cs os0 K hok hos hK => ?_)
  clear hos; unfold sp_containsS at hK
  split at hK
  case h_2 => exact hK.elim
  rename_i l f
  refine ⟨by simp, by simp, ?_⟩
  simp only [go_sem] at hK hok
  simp (maxSteps := 4000000) only [go_sem, Tryz.f91, ↓brB_t, ↓brB_f, Nat.reduceAdd, Int.reduceLE, Int.reduceLT, Int.reduceNeg, decide_true, decide_false, Bool.and_self, Nat.succ_eq_add_one, Int.toNat_natCast, Nat.beq_refl, Bool.and_true, Bool.true_and, Bool.false_or, Bool.or_true, List.all_cons, List.all_nil, Nat.reduceMul, Nat.add_zero, Nat.zero_add, List.length_nil, List.length_cons, dite_true, List.nil_append, Nat.reduceBEq, reduceDIte, reduceIte, reduceCtorEq, Bool.or_false, Bool.true_or, Bool.and_false, Bool.false_and, Bool.not_true, Bool.not_false, Option.isSome_some, Option.isSome_none, Option.getD_some, List.getElem?_cons_zero, List.getElem?_cons_succ, eq_self, and_self, List.take_succ_cons, List.take_zero, List.drop_succ_cons, List.drop_zero]
  obtain ⟨hf, hK⟩ := hK
  clear hok
  refine ⟨hf, ret0 ?_⟩
  have e : decide (0 ≤ idxS (tstS f) l) = (l : List SumT).any (tstS f) := by
    unfold idxS
    cases h : List.findIdx? (tstS f) l with
    | none =>
      rw [List.findIdx?_eq_none_iff] at h
      symm
      simpa using h
    | some j =>
      rw [List.findIdx?_eq_some_iff_getElem] at h
      obtain ⟨h1, h2, _⟩ := h
      have : (l : List SumT).any (tstS f) = true := List.any_eq_true.2 ⟨_, List.getElem_mem h1, h2⟩
      rw [this]; simp
  rw [← e] at hK; exact hK
def c_containsS : Ctr Tryz.prog := ⟨91, ent Tryz.func91 rfl rfl, [], sp_containsS, good_containsS, []⟩
@[go_sem] theorem c_containsS_f : c_containsS.f = 91 := rfl
@[go_sem] theorem c_containsS_ms : c_containsS.ms = [] := rfl
@[go_sem] theorem c_containsS_sp : c_containsS.spec = sp_containsS := rfl
@[go_sem] theorem c_containsS_fz : c_containsS.fz = [] := rfl
attribute [go_sem] sp_containsS
def sp_wr1 : List Cv → List Obj' → Tree
  | [.agg [.v (.int .i64 p), .ro (.pr (.sl 2 (.int .i64)) (.int .i64)) ts]], [] => .ret (vb (!isS p ts)) []
  | _, _ => .fail
set_option maxHeartbeats 4000000 in
set_option maxRecDepth 100000 in
theorem good_wr1 : Good Tryz.prog 131 sp_wr1 := by
  refine good_ofF Tryz.func131 rfl _ rfl _ rfl (tab [c_IsSum]) (fun X cs os0 K hok hos hK => ?_)
  clear hos; unfold sp_wr1 at hK
  split at hK
  case h_2 => exact hK.elim
  rename_i p ts
  refine ⟨by simp, by simp, ?_⟩
  simp only [go_sem] at hK hok
  simp (maxSteps := 4000000) only [go_sem, Tryz.f131, ↓brB_t, ↓brB_f, Nat.reduceAdd, Int.reduceLE, Int.reduceLT, Int.reduceNeg, decide_true, decide_false, Bool.and_self, Nat.succ_eq_add_one, Int.toNat_natCast, Nat.beq_refl, Bool.and_true, Bool.true_and, Bool.false_or, Bool.or_true, List.all_cons, List.all_nil, Nat.reduceMul, Nat.add_zero, Nat.zero_add, List.length_nil, List.length_cons, dite_true, List.nil_append, Nat.reduceBEq, reduceDIte, reduceIte, reduceCtorEq, Bool.or_false, Bool.true_or, Bool.and_false, Bool.false_and, Bool.not_true, Bool.not_false, Option.isSome_some, Option.isSome_none, Option.getD_some, List.getElem?_cons_zero, List.getElem?_cons_succ, eq_self, and_self, List.take_succ_cons, List.take_zero, List.drop_succ_cons, List.drop_zero]
  exact ret0 hK
def p_wr1 : PF0 Tryz.prog := ⟨131, entB Tryz.func131 rfl rfl, [kSm], .bool, fun x => some !(isS x.1.1 x.1.2), sp_wr1, good_wr1, fun xs y h K hK => by injection h with h; subst h; exact hK⟩
@[go_sem] theorem p_wr1_f : p_wr1.f = 131 := rfl
@[go_sem] theorem p_wr1_v : Rv.val (.one (.pf p_wr1.ks p_wr1.r p_wr1.g)) = Rv.val (.one (.pf [kSm] .bool fun x => some !(isS x.1.1 x.1.2))) := rfl
def sp_wr2 : List Cv → List Obj' → Tree
  | [.agg [.v (.int .i64 p), .ro (.pr (.sl 2 (.int .i64)) (.int .i64)) ts], .one (.elr (.sl 31 (.pr (.int .i64) (.sl 87 (.pr (.sl 2 (.int .i64)) (.int .i64))))) [l] 0 0)], [] => .need (0 < l.length) (.ret (vb (!decide (p = ((l : List SumT).getD 0 (0, [])).1))) [])
  | _, _ => .fail
set_option maxHeartbeats 4000000 in
set_option maxRecDepth 100000 in
theorem good_wr2 : Good Tryz.prog 133 sp_wr2 := by
  refine good_ofF Tryz.func133 rfl _ rfl _ rfl (tab []) (fun X cs os0 K hok hos hK => ?_)
  clear hos; unfold sp_wr2 at hK
  split at hK
  case h_2 => exact hK.elim
  rename_i p ts l
  refine ⟨by simp, by simp, ?_⟩
  simp only [go_sem] at hK hok
  simp (maxSteps := 4000000) only [go_sem, Tryz.f133, ↓brB_t, ↓brB_f, Nat.reduceAdd, Int.reduceLE, Int.reduceLT, Int.reduceNeg, decide_true, decide_false, Bool.and_self, Nat.succ_eq_add_one, Int.toNat_natCast, Nat.beq_refl, Bool.and_true, Bool.true_and, Bool.false_or, Bool.or_true, List.all_cons, List.all_nil, Nat.reduceMul, Nat.add_zero, Nat.zero_add, List.length_nil, List.length_cons, dite_true, List.nil_append, Nat.reduceBEq, reduceDIte, reduceIte, reduceCtorEq, Bool.or_false, Bool.true_or, Bool.and_false, Bool.false_and, Bool.not_true, Bool.not_false, Option.isSome_some, Option.isSome_none, Option.getD_some, List.getElem?_cons_zero, List.getElem?_cons_succ, eq_self, and_self, List.take_succ_cons, List.take_zero, List.drop_succ_cons, List.drop_zero]
  obtain ⟨h, hK⟩ := hK
  exact ⟨⟨trivial, by simpa using h⟩, by kernel_rfl, ret0 hK⟩
abbrev kSs : Kn := .sl 31 kSm
def wr2P (ys : HC [.d kSs]) (xs : HT [kSm]) : Option Bool := if 0 < (ys.1 : List SumT).length then some (!decide ((xs.1 : SumT).1 = ((ys.1 : List SumT).getD 0 (0, [])).1)) else none
def p_wr2 : PFn Tryz.prog := ⟨133, entB Tryz.func133 rfl rfl, [.d kSs], [kSm], .bool, wr2P, sp_wr2, good_wr2, fun ys xs y h K hK => by
  unfold wr2P at h
  split at h
  · rename_i hc
    injection h with h; subst h
    exact ⟨hc, hK⟩
  · cases h⟩
@[go_sem] theorem p_wr2_f : p_wr2.f = 133 := rfl
@[go_sem] theorem p_wr2_caps (args : List Rv) : (capsM p_wr2.cks args fun ys => .ret (.val (.one (.pf p_wr2.ks p_wr2.r (p_wr2.g ys))))) = capsM [.d kSs] args fun ys => .ret (.val (.one (.pf [kSm] .bool (wr2P ys)))) := rfl
def wrongS (l : List SumT) : Int := if l.any (fun x => !isS x.1 x.2) then 1 else if l.any (fun x => !decide (x.1 = (l.getD 0 (0, [])).1)) then 2 else 0
def sp_wrong : List Cv → List Obj' → Tree
  | [.one (.ro (.pr (.int .i64) (.sl 87 (.pr (.sl 2 (.int .i64)) (.int .i64)))) l)], [] => .need (0 < l.length ∧ l.length ≤ 1000) (.ret (vi (wrongS l)) [])
  | _, _ => .fail
set_option maxHeartbeats 4000000 in
set_option maxRecDepth 100000 in
theorem good_wrong : Good Tryz.prog 90 sp_wrong := by
  refine good_ofF Tryz.func90 rfl _ rfl _ rfl (tab [c_containsS] [p_wr1] [p_wr2]) (fun X cs os0 K hok hos hK => ?_)
  clear hos; unfold sp_wrong at hK
  split at hK
  case h_2 => exact hK.elim
  rename_i l
  refine ⟨by simp, by simp, ?_⟩
  simp only [go_sem] at hK hok
  simp (maxSteps := 4000000) only [go_sem, Tryz.f90, ↓brB_t, ↓brB_f, Nat.reduceAdd, Int.reduceLE, Int.reduceLT, Int.reduceNeg, decide_true, decide_false, Bool.and_self, Nat.succ_eq_add_one, Int.toNat_natCast, Nat.beq_refl, Bool.and_true, Bool.true_and, Bool.false_or, Bool.or_true, List.all_cons, List.all_nil, Nat.reduceMul, Nat.add_zero, Nat.zero_add, List.length_nil, List.length_cons, dite_true, List.nil_append, Nat.reduceBEq, reduceDIte, reduceIte, reduceCtorEq, Bool.or_false, Bool.true_or, Bool.and_false, Bool.false_and, Bool.not_true, Bool.not_false, Option.isSome_some, Option.isSome_none, Option.getD_some, List.getElem?_cons_zero, List.getElem?_cons_succ, eq_self, and_self, List.take_succ_cons, List.take_zero, List.drop_succ_cons, List.drop_zero]
  obtain ⟨⟨h0, h1⟩, hK⟩ := hK
  clear hok
  have e2 : (l : List SumT).any (tstS (wr2P (l, ()))) = l.any (fun x => !decide (x.1 = (l.getD 0 (0, [])).1)) := by
    refine congrArg (List.any l) (funext fun x => ?_)
    unfold tstS wr2P
    rw [if_pos h0]; rfl
  refine ⟨⟨h1, fun _ _ => trivial⟩, brB_intro (fun h2 => ret0 ?_) (fun h2 => ⟨⟨h1, fun x _ => ?_⟩, brB_intro (fun h3 => ret0 ?_) (fun h3 => ret0 ?_)⟩)⟩
  · have h2 : l.any (fun x => !isS x.1 x.2) = true := h2
    rw [wrongS, if_pos h2] at hK
    exact hK
  · unfold wr2P
    rw [if_pos h0]; rfl
  · have h2 : l.any (fun x => !isS x.1 x.2) = false := h2
    rw [wrongS, if_neg (by rw [h2]; decide), if_pos (e2 ▸ h3)] at hK
    exact hK
  · have h2 : l.any (fun x => !isS x.1 x.2) = false := h2
    have h3 := e2 ▸ h3
    rw [wrongS, if_neg (by rw [h2]; decide), if_neg (by rw [h3]; decide)] at hK
    exact hK
def c_wrong : Ctr Tryz.prog := ⟨90, ent Tryz.func90 rfl rfl, [], sp_wrong, good_wrong, []⟩
@[go_sem] theorem c_wrong_f : c_wrong.f = 90 := rfl
@[go_sem] theorem c_wrong_ms : c_wrong.ms = [] := rfl
@[go_sem] theorem c_wrong_sp : c_wrong.spec = sp_wrong := rfl
@[go_sem] theorem c_wrong_fz : c_wrong.fz = [] := rfl
attribute [go_sem] sp_wrong
def mostS (ts : TermL) : Nat := (ts.getD (ts.length - 1) ([], 0)).1.length / 2
def sp_most : List Cv → List Obj' → Tree
  | [.one (.ptr 0 0)], [.box t [.v (.int .i64 p), .ro (.pr (.sl 2 (.int .i64)) (.int .i64)) ts]] => .need ((ts : TermL).length ≤ 1000 ∧ ∀ x ∈ (ts : TermL), x.1.length ≤ 1000) (.ret (vi (mostS ts : Nat)) [.box t [.v (.int .i64 p), .ro (.pr (.sl 2 (.int .i64)) (.int .i64)) ts]])
  | _, _ => .fail
set_option maxHeartbeats 4000000 in
set_option maxRecDepth 100000 in
theorem good_most : Good Tryz.prog 93 sp_most := by
  refine good_ofF Tryz.func93 rfl _ rfl _ rfl (tab [c_chords]) (fun X cs os0 K hok hos hK => ?_)
  clear hos; unfold sp_most at hK
  split at hK
  case h_2 => exact hK.elim
  rename_i t p ts
  refine ⟨by simp, by simp, ?_⟩
  simp only [go_sem] at hK hok
  simp (maxSteps := 4000000) only [go_sem, Tryz.f93, ↓brB_t, ↓brB_f, Nat.reduceAdd, Int.reduceLE, Int.reduceLT, Int.reduceNeg, decide_true, decide_false, Bool.and_self, Nat.succ_eq_add_one, Int.toNat_natCast, Nat.beq_refl, Bool.and_true, Bool.true_and, Bool.false_or, Bool.or_true, List.all_cons, List.all_nil, Nat.reduceMul, Nat.add_zero, Nat.zero_add, List.length_nil, List.length_cons, dite_true, List.nil_append, Nat.reduceBEq, reduceDIte, reduceIte, reduceCtorEq, Bool.or_false, Bool.true_or, Bool.and_false, Bool.false_and, Bool.not_true, Bool.not_false, Option.isSome_some, Option.isSome_none, Option.getD_some, List.getElem?_cons_zero, List.getElem?_cons_succ, eq_self, and_self, List.take_succ_cons, List.take_zero, List.drop_succ_cons, List.drop_zero]
  obtain ⟨⟨h1, h2⟩, hK⟩ := hK
  clear hok
  refine brB_intro (fun h3 => ?_) (fun h3 => ?_)
  · have h3 := of_decide_eq_true h3
    have e : mostS ts = 0 := by
      unfold mostS
      cases ts with
      | nil => rfl
      | cons x r => simp at h3; omega
    rw [e] at hK
    exact retN [0] rfl hK
  · have h3 := of_decide_eq_false h3
    have e : w64 ((ts.length : Nat) - 1 : Int) = ((ts.length - 1 : Nat) : Int) := by rw [w64_id (by omega) (by omega)]; omega
    rw [e]
    exact ⟨⟨by omega, by omega⟩, by kernel_rfl, retN [0] rfl hK⟩
def c_most : Ctr Tryz.prog := ⟨93, ent Tryz.func93 rfl rfl, [true], sp_most, good_most, []⟩
@[go_sem] theorem c_most_f : c_most.f = 93 := rfl
@[go_sem] theorem c_most_ms : c_most.ms = [true] := rfl
@[go_sem] theorem c_most_sp : c_most.spec = sp_most := rfl
@[go_sem] theorem c_most_fz : c_most.fz = [] := rfl
attribute [go_sem] sp_most
end Go.Proofs.YthfmlelodmcgkaaGreat.V
end
section
namespace Go.Proofs.YthfmlelodmcgkaaGreat.V
open Go
abbrev kTm : Kn := .pr (.sl 2 (.int .i64)) (.int .i64)
def sp_atI : List Cv → List Obj' → Tree
  | [.one (.ptr 0 0), .one (.ro (.int .i64) w)], [.box t [.v (.int .i64 p), .ro (.pr (.sl 2 (.int .i64)) (.int .i64)) ts]] => .need ((ts.length : Int) ≤ 9223372036854775807) (.ret (vi (atT ts w)) [.box t [.v (.int .i64 p), .ro (.pr (.sl 2 (.int .i64)) (.int .i64)) ts]])
  | _, _ => .fail
set_option maxHeartbeats 4000000 in
set_option maxRecDepth 100000 in
theorem good_atI : Good Tryz.prog 94 sp_atI := by
  refine good_ofF Tryz.func94 rfl _ rfl _ rfl (tab [c_equal]) (fun X cs os0 K hok hos hK => ?_)
  unfold sp_atI at hK
  split at hK
  case h_2 => exact hK.elim
  rename_i w t p ts
  refine ⟨by simp, by simp, ?_⟩
  simp only [go_sem] at hK hok hos
  simp (maxSteps := 4000000) only [go_sem, Tryz.f94, ↓brB_t, ↓brB_f, Nat.reduceAdd, Int.reduceLE, Int.reduceLT, Int.reduceNeg, decide_true, decide_false, Bool.and_self, Nat.succ_eq_add_one, Int.toNat_natCast, Nat.beq_refl, Bool.and_true, Bool.true_and, Bool.false_or, Bool.or_true, List.all_cons, List.all_nil, Nat.reduceMul, Nat.add_zero, Nat.zero_add, List.length_nil, List.length_cons, dite_true, List.nil_append, Nat.reduceBEq, reduceDIte, reduceIte, reduceCtorEq, Bool.or_false, Bool.true_or, Bool.and_false, Bool.false_and, Bool.not_true, Bool.not_false, Option.isSome_some, Option.isSome_none, Option.getD_some, List.getElem?_cons_zero, List.getElem?_cons_succ, eq_self, and_self, List.take_succ_cons, List.take_zero, List.drop_succ_cons, List.drop_zero]
  obtain ⟨hl, hK⟩ := hK
  clear hok hos
  refine loop_okF (T := tab [c_equal]) [0, 1, 10, 11, 12] [(0, 0)] (fun i : Nat => ⟨23, [(0, .val (.one (.ptr 0 0))), (1, ri w), (10, .val (.one (.ro kTm ts))), (11, vi ts.length), (12, vi i)], [(0, .box t [.v (.int .i64 p), .ro kTm ts])]⟩)
    (fun i => i ≤ ts.length ∧ atT ts w = atT (ts.drop i) w) (fun i => ts.length - i) 0 rfl rfl ⟨Nat.zero_le _, rfl⟩ (fun i hi => ?_)
  obtain ⟨hi, hm⟩ := hi
  simp only [go_sem, ↓brB_t, ↓brB_f, Nat.reduceAdd, Int.reduceLE, Int.reduceLT, Int.reduceNeg, decide_true, decide_false, Bool.and_self, Nat.succ_eq_add_one, Int.toNat_natCast, Nat.beq_refl, Bool.and_true, Bool.true_and, Bool.false_or, Bool.or_true, List.all_cons, List.all_nil, Nat.reduceMul, Nat.add_zero, Nat.zero_add, List.length_nil, List.length_cons, dite_true, List.nil_append, Nat.reduceBEq, reduceDIte, reduceIte, reduceCtorEq, Bool.or_false, Bool.true_or, Bool.and_false, Bool.false_and, Bool.not_true, Bool.not_false, Option.isSome_some, Option.isSome_none, Option.getD_some, List.getElem?_cons_zero, List.getElem?_cons_succ, eq_self, and_self, List.take_succ_cons, List.take_zero, List.drop_succ_cons, List.drop_zero]
  refine brB_intro (fun h1 => ?_) (fun h1 => ?_)
  · have h1 := of_decide_eq_true h1
    have hw1 : w64 ((i : Int) + 1) = ((i + 1 : Nat) : Int) := w64_s (n := ts.length) (by omega) hl
    have hs := atT_s (ts := ts) (w := w) (i := i) (by omega)
    refine ⟨⟨by omega, by omega⟩, brB_intro (fun h2 => ?_) (fun h2 => ?_)⟩
    · rw [if_pos (of_decide_eq_true h2)] at hs
      rw [hm, hs] at hK
      exact retN [0] rfl hK
    · rw [if_neg (of_decide_eq_false h2)] at hs
      refine ⟨i + 1, [(0, 0)], ⟨by omega, by rw [hm, hs]⟩, by omega, rfl, ?_⟩
      rw [hw1]; rfl
  · have h1 := of_decide_eq_false h1
    have e : atT ts w = 0 := by rw [hm, List.drop_eq_nil_of_le (by omega)]; rfl
    rw [e] at hK
    exact retN [0] rfl hK
def c_atI : Ctr Tryz.prog := ⟨94, ent Tryz.func94 rfl rfl, [true, false], sp_atI, good_atI, []⟩
@[go_sem] theorem c_atI_f : c_atI.f = 94 := rfl
@[go_sem] theorem c_atI_ms : c_atI.ms = [true, false] := rfl
@[go_sem] theorem c_atI_sp : c_atI.spec = sp_atI := rfl
@[go_sem] theorem c_atI_fz : c_atI.fz = [] := rfl
attribute [go_sem] sp_atI
def rowD (ts : TermL) (ds : LL) : List Int := ds.map (atT ts)
theorem rowD_len (ts : TermL) (ds : LL) : (rowD ts ds).length = ds.length := List.length_map ..
theorem rowD_s (ts : TermL) {ds : LL} {i : Nat} (h : i < ds.length) : rowD ts (ds.take (i + 1)) = rowD ts (ds.take i) ++ [atT ts (ds.getD i [])] := by
  have e : ds.getD i [] = ds[i] := by rw [List.getD_eq_getElem?_getD, List.getElem?_eq_getElem h]; rfl
  rw [rowD, List.take_succ_eq_append_getElem h, List.map_append, e]; rfl
theorem diaL_len {n : Nat} (h : n ≤ 5) : (diaL n).length ≤ 9765625 := Nat.le_trans (List.length_filter_le _ _) (allL_len h)
def sp_dRow : List Cv → List Obj' → Tree
  | [.agg [.v (.int .i64 p), .ro (.pr (.sl 2 (.int .i64)) (.int .i64)) ts], .one (.v (.int .i64 n))], [] => .need (0 ≤ n ∧ n ≤ 5) (.ret (ow 0) [rwi (rowD ts (diaL n.toNat))])
  | _, _ => .fail
set_option maxHeartbeats 4000000 in
set_option maxRecDepth 100000 in
theorem good_dRow : Good Tryz.prog 54 sp_dRow := by
  refine good_ofF Tryz.func54 rfl _ rfl _ rfl (tab [c_dias, c_atI]) (fun X cs os0 K hok hos hK => ?_)
  clear hos; unfold sp_dRow at hK
  split at hK
  case h_2 => exact hK.elim
  rename_i p ts n
  refine ⟨by simp, by simp, ?_⟩
  simp only [go_sem] at hK hok
  simp (maxSteps := 4000000) only [go_sem, Tryz.f54, ↓brB_t, ↓brB_f, Nat.reduceAdd, Int.reduceLE, Int.reduceLT, Int.reduceNeg, decide_true, decide_false, Bool.and_self, Nat.succ_eq_add_one, Int.toNat_natCast, Nat.beq_refl, Bool.and_true, Bool.true_and, Bool.false_or, Bool.or_true, List.all_cons, List.all_nil, Nat.reduceMul, Nat.add_zero, Nat.zero_add, List.length_nil, List.length_cons, dite_true, List.nil_append, Nat.reduceBEq, reduceDIte, reduceIte, reduceCtorEq, Bool.or_false, Bool.true_or, Bool.and_false, Bool.false_and, Bool.not_true, Bool.not_false, Option.isSome_some, Option.isSome_none, Option.getD_some, List.getElem?_cons_zero, List.getElem?_cons_succ, eq_self, and_self, List.take_succ_cons, List.take_zero, List.drop_succ_cons, List.drop_zero]
  obtain ⟨⟨h0, h5⟩, hK⟩ := hK
  have hl : (ts.length : Int) ≤ 9223372036854775807 := len_i hok.1.2.1.1
  clear hok
  obtain ⟨N, rfl⟩ : ∃ N : Nat, n = N := ⟨n.toNat, by omega⟩
  have hdl := diaL_len (n := N) (by omega)
  rw [Int.toNat_natCast] at hK ⊢
  refine ⟨⟨h0, h5⟩, ?_⟩
  refine loop_okF (T := tab [c_dias, c_atI]) [2, 5, 10, 11, 12] [(16, 48), (17, 144)] (fun i : Nat => ⟨23, [(2, .val (.one (.ptr 16 0))), (5, ow 17), (10, .val (.one (.ro kR (diaL N)))), (11, vi (diaL N).length), (12, vi i)], [(16, .box 31 [.v (.int .i64 p), .ro kTm ts]), (17, rwi (rowD ts ((diaL N).take i)))]⟩)
    (fun i => i ≤ (diaL N).length) (fun i => (diaL N).length - i) 0 rfl rfl (Nat.zero_le _) (fun i hi => ?_)
  simp only [go_sem, ↓brB_t, ↓brB_f, Nat.reduceAdd, Int.reduceLE, Int.reduceLT, Int.reduceNeg, decide_true, decide_false, Bool.and_self, Nat.succ_eq_add_one, Int.toNat_natCast, Nat.beq_refl, Bool.and_true, Bool.true_and, Bool.false_or, Bool.or_true, List.all_cons, List.all_nil, Nat.reduceMul, Nat.add_zero, Nat.zero_add, List.length_nil, List.length_cons, dite_true, List.nil_append, Nat.reduceBEq, reduceDIte, reduceIte, reduceCtorEq, Bool.or_false, Bool.true_or, Bool.and_false, Bool.false_and, Bool.not_true, Bool.not_false, Option.isSome_some, Option.isSome_none, Option.getD_some, List.getElem?_cons_zero, List.getElem?_cons_succ, eq_self, and_self, List.take_succ_cons, List.take_zero, List.drop_succ_cons, List.drop_zero]
  have hrl : (rowD ts ((diaL N).take i)).length + 1 ≤ 1099511627776 := by rw [rowD_len, List.length_take]; omega
  refine brB_intro (fun h1 => ?_) (fun h1 => ?_)
  · have h1 := of_decide_eq_true h1
    have hw1 : w64 ((i : Int) + 1) = ((i + 1 : Nat) : Int) := w64_id (by omega) (by omega)
    have hs := rowD_s ts (ds := diaL N) (i := i) (by omega)
    refine ⟨⟨by omega, by omega⟩, hl, hrl, i + 1, [(16, 16), (17, 336)], by omega, by omega, rfl, ?_⟩
    rw [hw1, hs]; rfl
  · have h1 := of_decide_eq_false h1
    have e : i = (diaL N).length := by omega
    rw [e, List.take_length]
    exact retN [17] rfl hK
def c_dRow : Ctr Tryz.prog := ⟨54, ent Tryz.func54 rfl rfl, [], sp_dRow, good_dRow, []⟩
@[go_sem] theorem c_dRow_f : c_dRow.f = 54 := rfl
@[go_sem] theorem c_dRow_ms : c_dRow.ms = [] := rfl
@[go_sem] theorem c_dRow_sp : c_dRow.spec = sp_dRow := rfl
@[go_sem] theorem c_dRow_fz : c_dRow.fz = [] := rfl
attribute [go_sem] sp_dRow
def sp_l04Row : List Cv → List Obj' → Tree
  | [.agg [.v (.int .i64 p), .ro (.pr (.sl 2 (.int .i64)) (.int .i64)) ts], .one (.ro (.sl 2 (.int .i64)) ds)], [] => .need ((ds : LL).length ≤ 10000000) (.ret (ow 0) [rwi (rowD ts ds)])
  | _, _ => .fail
set_option maxHeartbeats 4000000 in
set_option maxRecDepth 100000 in
theorem good_l04Row : Good Tryz.prog 48 sp_l04Row := by
  refine good_ofF Tryz.func48 rfl _ rfl _ rfl (tab [c_l03At]) (fun X cs os0 K hok hos hK => ?_)
  clear hos; unfold sp_l04Row at hK
  split at hK
  case h_2 => exact hK.elim
  rename_i p ts ds
  refine ⟨by simp, by simp, ?_⟩
  simp only [go_sem] at hK hok
  simp (maxSteps := 4000000) only [go_sem, Tryz.f48, ↓brB_t, ↓brB_f, Nat.reduceAdd, Int.reduceLE, Int.reduceLT, Int.reduceNeg, decide_true, decide_false, Bool.and_self, Nat.succ_eq_add_one, Int.toNat_natCast, Nat.beq_refl, Bool.and_true, Bool.true_and, Bool.false_or, Bool.or_true, List.all_cons, List.all_nil, Nat.reduceMul, Nat.add_zero, Nat.zero_add, List.length_nil, List.length_cons, dite_true, List.nil_append, Nat.reduceBEq, reduceDIte, reduceIte, reduceCtorEq, Bool.or_false, Bool.true_or, Bool.and_false, Bool.false_and, Bool.not_true, Bool.not_false, Option.isSome_some, Option.isSome_none, Option.getD_some, List.getElem?_cons_zero, List.getElem?_cons_succ, eq_self, and_self, List.take_succ_cons, List.take_zero, List.drop_succ_cons, List.drop_zero]
  obtain ⟨h5, hK⟩ := hK
  clear hok
  refine loop_okF (T := tab [c_l03At]) [1, 2, 5, 6] [(16, 48), (17, 128)] (fun i : Nat => ⟨24, [(1, .val (.one (.ro kR ds))), (2, .val (.one (.ptr 16 0))), (5, ow 17), (6, vi i)], [(16, .box 31 [.v (.int .i64 p), .ro kTm ts]), (17, rwi (rowD ts ((ds : LL).take i)))]⟩)
    (fun i => i ≤ ds.length) (fun i => ds.length - i) 0 rfl rfl (Nat.zero_le _) (fun i hi => ?_)
  simp only [go_sem, ↓brB_t, ↓brB_f, Nat.reduceAdd, Int.reduceLE, Int.reduceLT, Int.reduceNeg, decide_true, decide_false, Bool.and_self, Nat.succ_eq_add_one, Int.toNat_natCast, Nat.beq_refl, Bool.and_true, Bool.true_and, Bool.false_or, Bool.or_true, List.all_cons, List.all_nil, Nat.reduceMul, Nat.add_zero, Nat.zero_add, List.length_nil, List.length_cons, dite_true, List.nil_append, Nat.reduceBEq, reduceDIte, reduceIte, reduceCtorEq, Bool.or_false, Bool.true_or, Bool.and_false, Bool.false_and, Bool.not_true, Bool.not_false, Option.isSome_some, Option.isSome_none, Option.getD_some, List.getElem?_cons_zero, List.getElem?_cons_succ, eq_self, and_self, List.take_succ_cons, List.take_zero, List.drop_succ_cons, List.drop_zero]
  have hrl : (rowD ts ((ds : LL).take i)).length + 1 ≤ 1099511627776 := by rw [rowD_len, List.length_take]; omega
  refine brB_intro (fun h1 => ?_) (fun h1 => ?_)
  · have h1 := of_decide_eq_true h1
    have hw1 : w64 ((i : Int) + 1) = ((i + 1 : Nat) : Int) := w64_id (by omega) (by omega)
    have hs := rowD_s ts (ds := ds) (i := i) (by omega)
    refine ⟨⟨by omega, by omega⟩, hrl, by kernel_rfl, i + 1, [(16, 16), (17, 368)], by omega, by omega, rfl, ?_⟩
    rw [hw1, hs]; rfl
  · have h1 := of_decide_eq_false h1
    have e : i = ds.length := by omega
    rw [e, List.take_length]
    exact retN [17] rfl hK
def c_l04Row : Ctr Tryz.prog := ⟨48, ent Tryz.func48 rfl rfl, [], sp_l04Row, good_l04Row, []⟩
@[go_sem] theorem c_l04Row_f : c_l04Row.f = 48 := rfl
@[go_sem] theorem c_l04Row_ms : c_l04Row.ms = [] := rfl
@[go_sem] theorem c_l04Row_sp : c_l04Row.spec = sp_l04Row := rfl
@[go_sem] theorem c_l04Row_fz : c_l04Row.fz = [] := rfl
attribute [go_sem] sp_l04Row
end Go.Proofs.YthfmlelodmcgkaaGreat.V
end
section
namespace Go.Proofs.YthfmlelodmcgkaaGreat.V
open Go
def sp_sm1 : List Cv → List Obj' → Tree
  | [.agg [.v (.int .i64 p), .ro (.pr (.sl 2 (.int .i64)) (.int .i64)) ts]], [] => .need ((ts : TermL).length ≤ 1000 ∧ ∀ x ∈ (ts : TermL), x.1.length ≤ 1000) (.ret (vb (decide (4 < mostS ts))) [])
  | _, _ => .fail
set_option maxHeartbeats 4000000 in
set_option maxRecDepth 100000 in
theorem good_sm1 : Good Tryz.prog 92 sp_sm1 := by
  refine good_ofF Tryz.func92 rfl _ rfl _ rfl (tab [c_most]) (fun X cs os0 K hok hos hK => ?_)
  clear hos; unfold sp_sm1 at hK
  split at hK
  case h_2 => exact hK.elim
  rename_i p ts
  refine ⟨by simp, by simp, ?_⟩
  simp only [go_sem] at hK hok
  simp (maxSteps := 4000000) only [go_sem, Tryz.f92, ↓brB_t, ↓brB_f, Nat.reduceAdd, Int.reduceLE, Int.reduceLT, Int.reduceNeg, decide_true, decide_false, Bool.and_self, Nat.succ_eq_add_one, Int.toNat_natCast, Nat.beq_refl, Bool.and_true, Bool.true_and, Bool.false_or, Bool.or_true, List.all_cons, List.all_nil, Nat.reduceMul, Nat.add_zero, Nat.zero_add, List.length_nil, List.length_cons, dite_true, List.nil_append, Nat.reduceBEq, reduceDIte, reduceIte, reduceCtorEq, Bool.or_false, Bool.true_or, Bool.and_false, Bool.false_and, Bool.not_true, Bool.not_false, Option.isSome_some, Option.isSome_none, Option.getD_some, List.getElem?_cons_zero, List.getElem?_cons_succ, eq_self, and_self, List.take_succ_cons, List.take_zero, List.drop_succ_cons, List.drop_zero]
  obtain ⟨h1, hK⟩ := hK
  clear hok
  have e : decide (4 < mostS ts) = decide ((4 : Int) < ((mostS ts : Nat) : Int)) := decide_eq_decide.2 (by omega)
  rw [e] at hK
  exact ⟨h1, retN [] rfl hK⟩
def smP (x : HT [kSm]) : Option Bool := if isS x.1.1 x.1.2 = true then some (decide (4 < mostS x.1.2)) else none
def p_sm1 : PF0 Tryz.prog := ⟨92, entB Tryz.func92 rfl rfl, [kSm], .bool, smP, sp_sm1, good_sm1, fun xs y h K hK => by
  unfold smP at h
  split at h
  · rename_i hc
    injection h with h; subst h
    have := isS_parts hc
    exact ⟨⟨Nat.le_trans this.2.1 (by decide), fun x hx => Nat.le_trans (this.2.2 x hx) (by decide)⟩, hK⟩
  · cases h⟩
@[go_sem] theorem p_sm1_f : p_sm1.f = 92 := rfl
@[go_sem] theorem p_sm1_v : Rv.val (.one (.pf p_sm1.ks p_sm1.r p_sm1.g)) = Rv.val (.one (.pf [kSm] .bool smP)) := rfl
def smS (l : List SumT) : Int := if wrongS l ≠ 0 then wrongS l else if l.any (fun x => decide (4 < mostS x.2)) then 2 else 0
theorem wrongS_0 {l : List SumT} (h : wrongS l = 0) : l.any (fun x => !isS x.1 x.2) = false ∧ l.any (fun x => !decide (x.1 = (l.getD 0 (0, [])).1)) = false := by
  unfold wrongS at h
  split at h
  · cases h
  · rename_i h1
    split at h
    · cases h
    · rename_i h2
      exact ⟨by simpa using h1, by simpa using h2⟩
theorem wrongS_is {l : List SumT} (h : wrongS l = 0) : ∀ x ∈ l, isS x.1 x.2 = true := fun x hx => by
  have := (wrongS_0 h).1
  rw [List.any_eq_false] at this
  have := this x hx
  simpa using this
def sp_small : List Cv → List Obj' → Tree
  | [.one (.ro (.pr (.int .i64) (.sl 87 (.pr (.sl 2 (.int .i64)) (.int .i64)))) l)], [] => .need (0 < l.length ∧ l.length ≤ 1000) (.ret (vi (smS l)) [])
  | _, _ => .fail
theorem sm_any {l : List SumT} (h : wrongS l = 0) : (∀ x ∈ l, (smP (x, ())).isSome = true) ∧ l.any (tstS smP) = l.any (fun x => decide (4 < mostS x.2)) := by
  have key : ∀ x ∈ l, smP (x, ()) = some (decide (4 < mostS x.2)) := fun x hx => if_pos (wrongS_is h x hx)
  refine ⟨fun x hx => by rw [key x hx]; rfl, ?_⟩
  rw [Bool.eq_iff_iff, List.any_eq_true, List.any_eq_true]
  refine exists_congr fun x => and_congr_right fun hx => ?_
  unfold tstS
  rw [key x hx]; rfl
set_option maxHeartbeats 4000000 in
set_option maxRecDepth 100000 in
theorem good_small : Good Tryz.prog 52 sp_small := by
  refine good_ofF Tryz.func52 rfl _ rfl _ rfl (tab [c_wrong, c_containsS] [p_sm1]) (fun X cs os0 K hok hos hK => ?_)
  clear hos; unfold sp_small at hK
  split at hK
  case h_2 => exact hK.elim
  rename_i l
  refine ⟨by simp, by simp, ?_⟩
  simp only [go_sem] at hK hok
  simp (maxSteps := 4000000) only [go_sem, Tryz.f52, ↓brB_t, ↓brB_f, Nat.reduceAdd, Int.reduceLE, Int.reduceLT, Int.reduceNeg, decide_true, decide_false, Bool.and_self, Nat.succ_eq_add_one, Int.toNat_natCast, Nat.beq_refl, Bool.and_true, Bool.true_and, Bool.false_or, Bool.or_true, List.all_cons, List.all_nil, Nat.reduceMul, Nat.add_zero, Nat.zero_add, List.length_nil, List.length_cons, dite_true, List.nil_append, Nat.reduceBEq, reduceDIte, reduceIte, reduceCtorEq, Bool.or_false, Bool.true_or, Bool.and_false, Bool.false_and, Bool.not_true, Bool.not_false, Option.isSome_some, Option.isSome_none, Option.getD_some, List.getElem?_cons_zero, List.getElem?_cons_succ, eq_self, and_self, List.take_succ_cons, List.take_zero, List.drop_succ_cons, List.drop_zero]
  obtain ⟨⟨h0, h1⟩, hK⟩ := hK
  clear hok
  refine ⟨⟨h0, h1⟩, brB_intro (fun h2 => ret0 ?_) (fun h2 => ?_)⟩
  · have h2 := of_decide_eq_false (snb h2)
    rw [smS, if_pos h2] at hK; exact hK
  · have h2 := of_decide_eq_true (snb' h2)
    obtain ⟨s1, s2⟩ := sm_any h2
    rw [smS, if_neg (by rw [h2]; decide), ← s2] at hK
    refine ⟨⟨h1, s1⟩, brB_intro (fun h3 => ret0 ?_) (fun h3 => ret0 ?_)⟩
    · rw [if_pos h3] at hK; exact hK
    · rw [if_neg (by rw [h3]; decide)] at hK; exact hK
def c_small : Ctr Tryz.prog := ⟨52, ent Tryz.func52 rfl rfl, [], sp_small, good_small, []⟩
@[go_sem] theorem c_small_f : c_small.f = 52 := rfl
@[go_sem] theorem c_small_ms : c_small.ms = [] := rfl
@[go_sem] theorem c_small_sp : c_small.spec = sp_small := rfl
@[go_sem] theorem c_small_fz : c_small.fz = [] := rfl
attribute [go_sem] sp_small
theorem most_even {p : Int} {ts : TermL} (h : isS p ts = true) : decide (4 < mostS ts) = (decide (0 < ts.length) && decide (8 < (ts.getD (ts.length - 1) ([], 0)).1.length)) := by
  unfold mostS
  by_cases h0 : 0 < ts.length
  · have hm := getD_memT (show ts.length - 1 < ts.length by omega)
    have hw := isS_words h _ hm
    obtain ⟨n, hn⟩ := Go.Proofs.YthfmlelodmcgkaaGreat.L.word_of _ hw
    have := hn.len
    rw [decide_eq_true h0, Bool.true_and]
    congr 1
    refine propext ⟨fun h => by omega, fun h => by omega⟩
  · rw [decide_eq_false h0, Bool.false_and]
    have : ts = [] := List.eq_nil_of_length_eq_zero (by omega)
    subst this; rfl
set_option maxHeartbeats 4000000 in
set_option maxRecDepth 100000 in
theorem good_l04Sum : Good Tryz.prog 46 sp_small := by
  refine good_ofF Tryz.func46 rfl _ rfl _ rfl (tab [c_l03Is]) (fun X cs os0 K hok hos hK => ?_)
  clear hos; unfold sp_small at hK
  split at hK
  case h_2 => exact hK.elim
  rename_i l
  refine ⟨by simp, by simp, ?_⟩
  simp only [go_sem] at hK hok
  simp (maxSteps := 4000000) only [go_sem, Tryz.f46, ↓brB_t, ↓brB_f, Nat.reduceAdd, Int.reduceLE, Int.reduceLT, Int.reduceNeg, decide_true, decide_false, Bool.and_self, Nat.succ_eq_add_one, Int.toNat_natCast, Nat.beq_refl, Bool.and_true, Bool.true_and, Bool.false_or, Bool.or_true, List.all_cons, List.all_nil, Nat.reduceMul, Nat.add_zero, Nat.zero_add, List.length_nil, List.length_cons, dite_true, List.nil_append, Nat.reduceBEq, reduceDIte, reduceIte, reduceCtorEq, Bool.or_false, Bool.true_or, Bool.and_false, Bool.false_and, Bool.not_true, Bool.not_false, Option.isSome_some, Option.isSome_none, Option.getD_some, List.getElem?_cons_zero, List.getElem?_cons_succ, eq_self, and_self, List.take_succ_cons, List.take_zero, List.drop_succ_cons, List.drop_zero]
  obtain ⟨⟨h0, h1⟩, hK⟩ := hK
  clear hok
  refine loop_okF (T := tab [c_l03Is]) [0, 3] [] (fun i : Nat => ⟨55, [(0, .val (.one (.ro kSm l))), (3, vi i)], []⟩)
    (fun i => i ≤ l.length ∧ (l.take i).any (fun x => !isS x.1 x.2) = false) (fun i => l.length - i) 0 rfl rfl ⟨Nat.zero_le _, rfl⟩ (fun i hi => ?_)
  obtain ⟨hi, hm⟩ := hi
  simp only [go_sem, ↓brB_t, ↓brB_f, Nat.reduceAdd, Int.reduceLE, Int.reduceLT, Int.reduceNeg, decide_true, decide_false, Bool.and_self, Nat.succ_eq_add_one, Int.toNat_natCast, Nat.beq_refl, Bool.and_true, Bool.true_and, Bool.false_or, Bool.or_true, List.all_cons, List.all_nil, Nat.reduceMul, Nat.add_zero, Nat.zero_add, List.length_nil, List.length_cons, dite_true, List.nil_append, Nat.reduceBEq, reduceDIte, reduceIte, reduceCtorEq, Bool.or_false, Bool.true_or, Bool.and_false, Bool.false_and, Bool.not_true, Bool.not_false, Option.isSome_some, Option.isSome_none, Option.getD_some, List.getElem?_cons_zero, List.getElem?_cons_succ, eq_self, and_self, List.take_succ_cons, List.take_zero, List.drop_succ_cons, List.drop_zero]
  refine brB_intro (fun h2 => ?_) (fun h2 => ?_)
  · have h2 := of_decide_eq_true h2
    have hil : i < l.length := by omega
    have hw1 : w64 ((i : Int) + 1) = ((i + 1 : Nat) : Int) := w64_id (by omega) (by omega)
    have hms := getD_memS (l := l) hil
    refine ⟨⟨by omega, by omega⟩, brB_intro (fun h3 => ret0 ?_) (fun h3 => ?_)⟩
    · have h3 := snb h3
      have e : wrongS l = 1 := if_pos (List.any_eq_true.2 ⟨_, hms, by rw [h3]; rfl⟩)
      rw [smS, if_pos (by rw [e]; decide), e] at hK; exact hK
    · have h3 := snb' h3
      refine ⟨i + 1, [], ⟨by omega, ?_⟩, by omega, rfl, by rw [hw1]; rfl⟩
      rw [List.take_succ_eq_append_getElem hil, List.any_append, hm, ← getD_eqS hil]
      simp only [List.any_cons, List.any_nil, Bool.or_false, Bool.false_or]
      rw [h3]; rfl
  · have h2 := of_decide_eq_false h2
    rw [List.take_of_length_le (by omega)] at hm
    clear h2 hi
    have hall : ∀ x ∈ l, isS x.1 x.2 = true := fun x hx => by
      have := List.any_eq_false.1 hm x hx
      simpa using this
    have hsm : smS l = if l.any (fun x => !decide (x.1 = (l.getD 0 (0, [])).1) || decide (4 < mostS x.2)) then 2 else 0 := by
      have ew : wrongS l = if l.any (fun x => !decide (x.1 = (l.getD 0 (0, [])).1)) then 2 else 0 := if_neg (by rw [hm]; decide)
      by_cases e1 : l.any (fun x => !decide (x.1 = (l.getD 0 (0, [])).1)) = true
      · obtain ⟨x, hx, e⟩ := List.any_eq_true.1 e1
        rw [if_pos e1] at ew
        rw [smS, ew, if_pos (by decide), if_pos (List.any_eq_true.2 ⟨x, hx, by rw [e]; rfl⟩)]
      · rw [if_neg e1] at ew
        rw [smS, ew, if_neg (by decide)]
        have : l.any (fun x => !decide (x.1 = (l.getD 0 (0, [])).1) || decide (4 < mostS x.2)) = l.any (fun x => decide (4 < mostS x.2)) := by
          rw [Bool.eq_iff_iff, List.any_eq_true, List.any_eq_true]
          refine exists_congr fun x => and_congr_right fun hx => ?_
          have := List.any_eq_false.1 (Bool.eq_false_iff.2 e1) x hx
          rw [Bool.eq_false_iff.2 this, Bool.false_or]
        rw [this]
    rw [hsm] at hK
    refine loop_okF (T := tab [c_l03Is]) [0, 4] [] (fun i : Nat => ⟨55, [(0, .val (.one (.ro kSm l))), (4, vi i)], []⟩)
      (fun i => i ≤ l.length ∧ (l.take i).any (fun x => !decide (x.1 = (l.getD 0 (0, [])).1) || decide (4 < mostS x.2)) = false) (fun i => l.length - i) 0 rfl rfl ⟨Nat.zero_le _, rfl⟩ (fun i hi => ?_)
    obtain ⟨hi, hm2⟩ := hi
    simp only [go_sem, ↓brB_t, ↓brB_f, Nat.reduceAdd, Int.reduceLE, Int.reduceLT, Int.reduceNeg, decide_true, decide_false, Bool.and_self, Nat.succ_eq_add_one, Int.toNat_natCast, Nat.beq_refl, Bool.and_true, Bool.true_and, Bool.false_or, Bool.or_true, List.all_cons, List.all_nil, Nat.reduceMul, Nat.add_zero, Nat.zero_add, List.length_nil, List.length_cons, dite_true, List.nil_append, Nat.reduceBEq, reduceDIte, reduceIte, reduceCtorEq, Bool.or_false, Bool.true_or, Bool.and_false, Bool.false_and, Bool.not_true, Bool.not_false, Option.isSome_some, Option.isSome_none, Option.getD_some, List.getElem?_cons_zero, List.getElem?_cons_succ, eq_self, and_self, List.take_succ_cons, List.take_zero, List.drop_succ_cons, List.drop_zero]
    refine brB_intro (fun h2 => ?_) (fun h2 => ret0 ?_)
    · have h2 := of_decide_eq_true h2
      have hil : i < l.length := by omega
      have hw1 : w64 ((i : Int) + 1) = ((i + 1 : Nat) : Int) := w64_id (by omega) (by omega)
      have hms := getD_memS (l := l) hil
      have hte := getD_eqS (l := l) hil
      have hev := most_even (hall _ hms)
      have hln := (isS_parts (hall _ hms)).2.1
      rw [hw1, show Int.toNat 0 = 0 from rfl]
      have hgo : (!decide ((l.getD i (0, [])).1 = (l.getD 0 (0, [])).1) || decide (4 < mostS (l.getD i (0, [])).2)) = false → (l.take (i + 1)).any (fun x => !decide (x.1 = (l.getD 0 (0, [])).1) || decide (4 < mostS x.2)) = false := fun h => by
        rw [List.take_succ_eq_append_getElem hil, List.any_append, hm2, ← hte]
        simp only [List.any_cons, List.any_nil, Bool.or_false, Bool.false_or]
        exact h
      have hst : (!decide ((l.getD i (0, [])).1 = (l.getD 0 (0, [])).1) || decide (4 < mostS (l.getD i (0, [])).2)) = true → K (vi 2) [] := fun h => by
        rw [if_pos (List.any_eq_true.2 ⟨_, hms, h⟩)] at hK; exact hK
      rw [hev] at hgo hst
      generalize l.getD i (0, []) = x at *
      refine ⟨⟨by omega, by omega⟩, ⟨by omega, by omega⟩, ⟨trivial, by omega⟩, brB_intro (fun h3 => ⟨by kernel_rfl, ret0 (hst (by rw [h3]; rfl))⟩) (fun h3 => brB_intro (fun h4 => ?_) (fun h4 => ⟨by kernel_rfl, ?_⟩))⟩
      · have h4' := of_decide_eq_true h4
        have e1 : w64 (((x.2 : TermL).length : Int) - 1) = (((x.2 : TermL).length - 1 : Nat) : Int) := by rw [w64_id (by omega) (by omega)]; omega
        have e8 : ∀ n : Nat, decide ((8 : Int) < (n : Int)) = decide (8 < n) := fun n => decide_eq_decide.2 (by omega)
        have e0 : ∀ n : Nat, decide ((0 : Int) < (n : Int)) = decide (0 < n) := fun n => decide_eq_decide.2 (by omega)
        rw [e0] at h4
        rw [e1, Int.toNat_natCast, e8]
        rw [h3, h4, Bool.true_and, Bool.false_or] at hgo hst
        refine ⟨⟨by omega, by omega⟩, by kernel_rfl, brB_intro (fun h5 => ret0 (hst h5)) (fun h5 => ⟨i + 1, [], ⟨by omega, hgo h5⟩, by omega, rfl, rfl⟩)⟩
      · have e0 : ∀ n : Nat, decide ((0 : Int) < (n : Int)) = decide (0 < n) := fun n => decide_eq_decide.2 (by omega)
        rw [e0] at h4
        rw [h3, h4] at hgo
        exact ⟨i + 1, [], ⟨by omega, hgo rfl⟩, by omega, rfl, rfl⟩
    · have h2 := of_decide_eq_false h2
      rw [List.take_of_length_le (by omega)] at hm2
      rw [if_neg (by rw [hm2]; decide)] at hK
      exact hK
def c_l04Sum : Ctr Tryz.prog := ⟨46, ent Tryz.func46 rfl rfl, [], sp_small, good_l04Sum, []⟩
@[go_sem] theorem c_l04Sum_f : c_l04Sum.f = 46 := rfl
@[go_sem] theorem c_l04Sum_ms : c_l04Sum.ms = [] := rfl
@[go_sem] theorem c_l04Sum_sp : c_l04Sum.spec = sp_small := rfl
@[go_sem] theorem c_l04Sum_fz : c_l04Sum.fz = [] := rfl
attribute [go_sem] sp_small
end Go.Proofs.YthfmlelodmcgkaaGreat.V
end
section
namespace Go.Proofs.YthfmlelodmcgkaaGreat.V
open Go
def letter (x : Int) : Int := (97 + x % 256) % 256
def textB (w : List Int) : ByteArray := bytesS (w.map letter)
def sp_wordText : List Cv → List Obj' → Tree
  | [.one (.ro (.int .i64) w)], [] => .need (w.length < 1099511627776) (.ret (.val (.one (.v (.string (textB w))))) [])
  | _, _ => .fail
set_option maxHeartbeats 4000000 in
set_option maxRecDepth 100000 in
theorem good_wordText : Good Tryz.prog 155 sp_wordText := by
  refine good_ofF Tryz.func155 rfl _ rfl _ rfl (tab []) (fun X cs os0 K hok hos hK => ?_)
  clear hos; unfold sp_wordText at hK
  split at hK
  case h_2 => exact hK.elim
  rename_i w
  refine ⟨by simp, by simp, ?_⟩
  simp only [go_sem] at hK hok
  simp (maxSteps := 4000000) only [go_sem, Tryz.f155, ↓brB_t, ↓brB_f, Nat.reduceAdd, Int.reduceLE, Int.reduceLT, Int.reduceNeg, decide_true, decide_false, Bool.and_self, Nat.succ_eq_add_one, Int.toNat_natCast, Nat.beq_refl, Bool.and_true, Bool.true_and, Bool.false_or, Bool.or_true, List.all_cons, List.all_nil, Nat.reduceMul, Nat.add_zero, Nat.zero_add, List.length_nil, List.length_cons, dite_true, List.nil_append, Nat.reduceBEq, reduceDIte, reduceIte, reduceCtorEq, Bool.or_false, Bool.true_or, Bool.and_false, Bool.false_and, Bool.not_true, Bool.not_false, Option.isSome_some, Option.isSome_none, Option.getD_some, List.getElem?_cons_zero, List.getElem?_cons_succ, eq_self, and_self, List.take_succ_cons, List.take_zero, List.drop_succ_cons, List.drop_zero]
  obtain ⟨hl, hK⟩ := hK
  clear hok
  refine loop_okF (T := tab []) [3, 7, 8, 9] [(16, 112)] (fun i : Nat => ⟨22, [(3, ow 16), (7, ri w), (8, vi (w.length : Nat)), (9, vi i)], [(16, .row 5 (.int .u8) ((w.take i).map letter))]⟩)
    (fun i => i ≤ w.length) (fun i => w.length - i) 0 rfl rfl (Nat.zero_le _) (fun i hi => ?_)
  have hml : ((w.take i).map letter).length = i := by rw [List.length_map, List.length_take]; omega
  simp only [go_sem, ↓brB_t, ↓brB_f, Nat.reduceAdd, Int.reduceLE, Int.reduceLT, Int.reduceNeg, decide_true, decide_false, Bool.and_self, Nat.succ_eq_add_one, Int.toNat_natCast, Nat.beq_refl, Bool.and_true, Bool.true_and, Bool.false_or, Bool.or_true, List.all_cons, List.all_nil, Nat.reduceMul, Nat.add_zero, Nat.zero_add, List.length_nil, List.length_cons, dite_true, List.nil_append, Nat.reduceBEq, reduceDIte, reduceIte, reduceCtorEq, Bool.or_false, Bool.true_or, Bool.and_false, Bool.false_and, Bool.not_true, Bool.not_false, Option.isSome_some, Option.isSome_none, Option.getD_some, List.getElem?_cons_zero, List.getElem?_cons_succ, eq_self, and_self, List.take_succ_cons, List.take_zero, List.drop_succ_cons, List.drop_zero]
  refine brB_intro (fun h1 => ?_) (fun h1 => ret0 ?_)
  · have h1 := of_decide_eq_true h1
    have hw : w64 ((i : Int) + 1) = ((i + 1 : Nat) : Int) := w64_s (n := w.length) (by omega) (by omega)
    have e : (w.take (i + 1)).map letter = (w.take i).map letter ++ [(97 + w.getD i 0 % 256) % 256] := by
      rw [List.take_succ_eq_append_getElem (by omega), List.map_append, List.getD_eq_getElem?_getD, List.getElem?_eq_getElem (by omega)]; rfl
    refine ⟨⟨by omega, by omega⟩, by omega, i + 1, [(16, 304)], by omega, by omega, rfl, ?_⟩
    rw [hw, e]; rfl
  · have h1 := of_decide_eq_false h1
    rw [List.take_of_length_le (by omega)]; exact hK
def c_wordText : Ctr Tryz.prog := ⟨155, ent Tryz.func155 rfl rfl, [], sp_wordText, good_wordText, []⟩
@[go_sem] theorem c_wordText_f : c_wordText.f = 155 := rfl
@[go_sem] theorem c_wordText_ms : c_wordText.ms = [] := rfl
@[go_sem] theorem c_wordText_sp : c_wordText.spec = sp_wordText := rfl
@[go_sem] theorem c_wordText_fz : c_wordText.fz = [] := rfl
attribute [go_sem] sp_wordText
end Go.Proofs.YthfmlelodmcgkaaGreat.V
end
section
namespace Go.Proofs.YthfmlelodmcgkaaGreat.PO
open Go.RowKit Go.Proofs.YthfmlelodmcgkaaGreatW.PrintWords Go.Proofs.YthfmlelodmcgkaaGreatW.PrintLast Go.Proofs.YthfmlelodmcgkaaGreatW.PrintMore
end Go.Proofs.YthfmlelodmcgkaaGreat.PO
namespace Go.Proofs.YthfmlelodmcgkaaGreat.PO
open Go.RowKit Go.Proofs.YthfmlelodmcgkaaGreatW.PrintWords Go.Proofs.YthfmlelodmcgkaaGreatW.PrintLast Go.Proofs.YthfmlelodmcgkaaGreatW.PrintMore
def cmp_isNaN_int64.f (a0 : Int) : Option (Bool) := some (a0 != a0)
set_option maxHeartbeats 8000000 in
set_option maxRecDepth 100000 in
theorem cmp_isNaN_int64.calls (a0 : Int) (r : Bool) (w : World) (h : cmp_isNaN_int64.f a0 = some r) :
    Calls Tryz.prog 184 #[.int .i64 a0] w fun e w' => e = .returned (.bool r) ∧ Drawn0 w w' := by
  have H : (some (a0 != a0)) = some r := h
  clear h
  obtain rfl := Option.some.inj H
  go_enter Tryz.func184, Tryz.ntmps184
  go_wp2
  go_ret
  exact ⟨by first | rfl | (simp; done) | (simp [*]; done), by repeat (first | exact Drawn0.refl _ | apply Drawn0.step)⟩
def cmp_Compare_int64.f (a0 : Int) (a1 : Int) : Option (Int) := (cmp_isNaN_int64.f a0).bind fun t101 => ((cmp_isNaN_int64.f a1).bind fun t102 => (if t101 = true then (if t102 = true then (some 0) else (some (-1))) else (if t102 = true then (some 1) else (if a0 < a1 then (some (-1)) else (if a0 > a1 then (some 1) else (some 0))))))
set_option maxHeartbeats 8000000 in
set_option maxRecDepth 100000 in
theorem cmp_Compare_int64.calls (a0 : Int) (a1 : Int) (r : Int) (w : World) (h : cmp_Compare_int64.f a0 a1 = some r) :
    Calls Tryz.prog 165 #[.int .i64 a0, .int .i64 a1] w fun e w' => e = .returned (.int .i64 r) ∧ Drawn0 w w' := by
  have H : ((cmp_isNaN_int64.f a0).bind fun t101 => ((cmp_isNaN_int64.f a1).bind fun t102 => (if t101 = true then (if t102 = true then (some 0) else (some (-1))) else (if t102 = true then (some 1) else (if a0 < a1 then (some (-1)) else (if a0 > a1 then (some 1) else (some 0))))))) = some r := h
  clear h
  replace H := Option.bind_eq_some_iff.mp H
  obtain ⟨t101, A30, H⟩ := H
  replace H : ((cmp_isNaN_int64.f a1).bind fun t102 => (if t101 = true then (if t102 = true then (some 0) else (some (-1))) else (if t102 = true then (some 1) else (if a0 < a1 then (some (-1)) else (if a0 > a1 then (some 1) else (some 0)))))) = some r := H
  have A3 := Aside0.mk A30
  clear A30
  replace H := Option.bind_eq_some_iff.mp H
  obtain ⟨t102, A40, H⟩ := H
  replace H : (if t101 = true then (if t102 = true then (some 0) else (some (-1))) else (if t102 = true then (some 1) else (if a0 < a1 then (some (-1)) else (if a0 > a1 then (some 1) else (some 0))))) = some r := H
  have A4 := Aside0.mk A40
  clear A40
  by_cases c5 : t101 = true
  · subst c5
    have H1 : (if t102 = true then (some 0) else (some (-1))) = some r := by rw [if_pos rfl] at H; exact H
    clear H
    have H := H1
    clear H1
    by_cases c6 : t102 = true
    · subst c6
      have H1 : (some 0) = some r := by rw [if_pos rfl] at H; exact H
      clear H
      have H := H1
      clear H1
      obtain rfl := Option.some.inj H
      go_enter Tryz.func165, Tryz.ntmps165
      go_wp2_with (first | ((with_reducible refine gate_callee (f := 184) rfl ?_); refine goesL_ (some 8) rfl rfl Tryz.func184 (by kernel_rfl) rfl #[.int .i64 a0] rfl (by (try simp only [List.map_toArray, List.map_cons, List.map_nil]); first | done | rfl | (simp only [List.length_drop, List.length_take]; rfl)) ?_; (with_reducible refine (cmp_isNaN_int64.calls a0 true _ A3.out).mono ?_); rintro e w' ⟨rfl, ⟨nd, rfl⟩⟩; refine ⟨_, rfl, ?_⟩) | ((with_reducible refine gate_callee (f := 184) rfl ?_); refine goesL_ (some 10) rfl rfl Tryz.func184 (by kernel_rfl) rfl #[.int .i64 a1] rfl (by (try simp only [List.map_toArray, List.map_cons, List.map_nil]); first | done | rfl | (simp only [List.length_drop, List.length_take]; rfl)) ?_; (with_reducible refine (cmp_isNaN_int64.calls a1 true _ A4.out).mono ?_); rintro e w' ⟨rfl, ⟨nd, rfl⟩⟩; refine ⟨_, rfl, ?_⟩))
      go_ret
      exact ⟨by first | rfl | (simp; done) | (simp [*]; done), by repeat (first | exact Drawn0.refl _ | apply Drawn0.step)⟩
    · replace c6 := Bool.eq_false_iff.mpr c6
      subst c6
      have H1 : (some (-1)) = some r := by rw [if_neg (show ¬ (false = true) by decide)] at H; exact H
      clear H
      have H := H1
      clear H1
      obtain rfl := Option.some.inj H
      go_enter Tryz.func165, Tryz.ntmps165
      go_wp2_with (first | ((with_reducible refine gate_callee (f := 184) rfl ?_); refine goesL_ (some 8) rfl rfl Tryz.func184 (by kernel_rfl) rfl #[.int .i64 a0] rfl (by (try simp only [List.map_toArray, List.map_cons, List.map_nil]); first | done | rfl | (simp only [List.length_drop, List.length_take]; rfl)) ?_; (with_reducible refine (cmp_isNaN_int64.calls a0 true _ A3.out).mono ?_); rintro e w' ⟨rfl, ⟨nd, rfl⟩⟩; refine ⟨_, rfl, ?_⟩) | ((with_reducible refine gate_callee (f := 184) rfl ?_); refine goesL_ (some 10) rfl rfl Tryz.func184 (by kernel_rfl) rfl #[.int .i64 a1] rfl (by (try simp only [List.map_toArray, List.map_cons, List.map_nil]); first | done | rfl | (simp only [List.length_drop, List.length_take]; rfl)) ?_; (with_reducible refine (cmp_isNaN_int64.calls a1 false _ A4.out).mono ?_); rintro e w' ⟨rfl, ⟨nd, rfl⟩⟩; refine ⟨_, rfl, ?_⟩))
      go_ret
      exact ⟨by first | rfl | (simp; done) | (simp [*]; done), by repeat (first | exact Drawn0.refl _ | apply Drawn0.step)⟩
  · replace c5 := Bool.eq_false_iff.mpr c5
    subst c5
    have H1 : (if t102 = true then (some 1) else (if a0 < a1 then (some (-1)) else (if a0 > a1 then (some 1) else (some 0)))) = some r := by rw [if_neg (show ¬ (false = true) by decide)] at H; exact H
    clear H
    have H := H1
    clear H1
    by_cases c7 : t102 = true
    · subst c7
      have H1 : (some 1) = some r := by rw [if_pos rfl] at H; exact H
      clear H
      have H := H1
      clear H1
      obtain rfl := Option.some.inj H
      go_enter Tryz.func165, Tryz.ntmps165
      go_wp2_with (first | ((with_reducible refine gate_callee (f := 184) rfl ?_); refine goesL_ (some 8) rfl rfl Tryz.func184 (by kernel_rfl) rfl #[.int .i64 a0] rfl (by (try simp only [List.map_toArray, List.map_cons, List.map_nil]); first | done | rfl | (simp only [List.length_drop, List.length_take]; rfl)) ?_; (with_reducible refine (cmp_isNaN_int64.calls a0 false _ A3.out).mono ?_); rintro e w' ⟨rfl, ⟨nd, rfl⟩⟩; refine ⟨_, rfl, ?_⟩) | ((with_reducible refine gate_callee (f := 184) rfl ?_); refine goesL_ (some 10) rfl rfl Tryz.func184 (by kernel_rfl) rfl #[.int .i64 a1] rfl (by (try simp only [List.map_toArray, List.map_cons, List.map_nil]); first | done | rfl | (simp only [List.length_drop, List.length_take]; rfl)) ?_; (with_reducible refine (cmp_isNaN_int64.calls a1 true _ A4.out).mono ?_); rintro e w' ⟨rfl, ⟨nd, rfl⟩⟩; refine ⟨_, rfl, ?_⟩))
      go_ret
      exact ⟨by first | rfl | (simp; done) | (simp [*]; done), by repeat (first | exact Drawn0.refl _ | apply Drawn0.step)⟩
    · replace c7 := Bool.eq_false_iff.mpr c7
      subst c7
      have H1 : (if a0 < a1 then (some (-1)) else (if a0 > a1 then (some 1) else (some 0))) = some r := by rw [if_neg (show ¬ (false = true) by decide)] at H; exact H
      clear H
      have H := H1
      clear H1
      by_cases c8 : a0 < a1
      · rw [if_pos c8] at H
        have c8b0 : decide (a0 < a1) = true := decide_eq_true c8
        clear c8
        obtain rfl := Option.some.inj H
        go_enter Tryz.func165, Tryz.ntmps165
        go_wp2_with (first | ((with_reducible refine gate_callee (f := 184) rfl ?_); refine goesL_ (some 8) rfl rfl Tryz.func184 (by kernel_rfl) rfl #[.int .i64 a0] rfl (by (try simp only [List.map_toArray, List.map_cons, List.map_nil]); first | done | rfl | (simp only [List.length_drop, List.length_take]; rfl)) ?_; (with_reducible refine (cmp_isNaN_int64.calls a0 false _ A3.out).mono ?_); rintro e w' ⟨rfl, ⟨nd, rfl⟩⟩; refine ⟨_, rfl, ?_⟩) | ((with_reducible refine gate_callee (f := 184) rfl ?_); refine goesL_ (some 10) rfl rfl Tryz.func184 (by kernel_rfl) rfl #[.int .i64 a1] rfl (by (try simp only [List.map_toArray, List.map_cons, List.map_nil]); first | done | rfl | (simp only [List.length_drop, List.length_take]; rfl)) ?_; (with_reducible refine (cmp_isNaN_int64.calls a1 false _ A4.out).mono ?_); rintro e w' ⟨rfl, ⟨nd, rfl⟩⟩; refine ⟨_, rfl, ?_⟩))
        go_ret
        exact ⟨by first | rfl | (simp; done) | (simp [*]; done), by repeat (first | exact Drawn0.refl _ | apply Drawn0.step)⟩
      · rw [if_neg c8] at H
        have c8b0 : decide (a0 < a1) = false := decide_eq_false c8
        clear c8
        by_cases c9 : a0 > a1
        · rw [if_pos c9] at H
          have c9b0 : decide (a1 < a0) = true := decide_eq_true c9
          clear c9
          obtain rfl := Option.some.inj H
          go_enter Tryz.func165, Tryz.ntmps165
          go_wp2_with (first | ((with_reducible refine gate_callee (f := 184) rfl ?_); refine goesL_ (some 8) rfl rfl Tryz.func184 (by kernel_rfl) rfl #[.int .i64 a0] rfl (by (try simp only [List.map_toArray, List.map_cons, List.map_nil]); first | done | rfl | (simp only [List.length_drop, List.length_take]; rfl)) ?_; (with_reducible refine (cmp_isNaN_int64.calls a0 false _ A3.out).mono ?_); rintro e w' ⟨rfl, ⟨nd, rfl⟩⟩; refine ⟨_, rfl, ?_⟩) | ((with_reducible refine gate_callee (f := 184) rfl ?_); refine goesL_ (some 10) rfl rfl Tryz.func184 (by kernel_rfl) rfl #[.int .i64 a1] rfl (by (try simp only [List.map_toArray, List.map_cons, List.map_nil]); first | done | rfl | (simp only [List.length_drop, List.length_take]; rfl)) ?_; (with_reducible refine (cmp_isNaN_int64.calls a1 false _ A4.out).mono ?_); rintro e w' ⟨rfl, ⟨nd, rfl⟩⟩; refine ⟨_, rfl, ?_⟩))
          go_ret
          exact ⟨by first | rfl | (simp; done) | (simp [*]; done), by repeat (first | exact Drawn0.refl _ | apply Drawn0.step)⟩
        · rw [if_neg c9] at H
          have c9b0 : decide (a1 < a0) = false := decide_eq_false c9
          clear c9
          obtain rfl := Option.some.inj H
          go_enter Tryz.func165, Tryz.ntmps165
          go_wp2_with (first | ((with_reducible refine gate_callee (f := 184) rfl ?_); refine goesL_ (some 8) rfl rfl Tryz.func184 (by kernel_rfl) rfl #[.int .i64 a0] rfl (by (try simp only [List.map_toArray, List.map_cons, List.map_nil]); first | done | rfl | (simp only [List.length_drop, List.length_take]; rfl)) ?_; (with_reducible refine (cmp_isNaN_int64.calls a0 false _ A3.out).mono ?_); rintro e w' ⟨rfl, ⟨nd, rfl⟩⟩; refine ⟨_, rfl, ?_⟩) | ((with_reducible refine gate_callee (f := 184) rfl ?_); refine goesL_ (some 10) rfl rfl Tryz.func184 (by kernel_rfl) rfl #[.int .i64 a1] rfl (by (try simp only [List.map_toArray, List.map_cons, List.map_nil]); first | done | rfl | (simp only [List.length_drop, List.length_take]; rfl)) ?_; (with_reducible refine (cmp_isNaN_int64.calls a1 false _ A4.out).mono ?_); rintro e w' ⟨rfl, ⟨nd, rfl⟩⟩; refine ⟨_, rfl, ?_⟩))
          go_ret
          exact ⟨by first | rfl | (simp; done) | (simp [*]; done), by repeat (first | exact Drawn0.refl _ | apply Drawn0.step)⟩
def slices_Compare_int64_int64.l0 : Nat → List Int → List Int → List Int → Int → Int → Option (Int)
  | 0, _, _, _, _, _ => none
  | k + 1, x0, x1, x9, x10, x11 => if x11 < x10 then (if 0 ≤ x11 then (if x11 < (x9.length : Int) then (if x11 ≥ (x1.length : Int) then (some 1) else (if x11 < (x1.length : Int) then ((cmp_Compare_int64.f (rd x9 x11) (rd x1 x11)).bind fun t105 => (if t105 = 0 then (slices_Compare_int64_int64.l0 k x0 x1 x9 x10 (wrap64 (x11 + 1))) else (some t105))) else (none))) else (none)) else (none)) else (if (x0.length : Int) < (x1.length : Int) then (some (-1)) else (some 0))
def slices_Compare_int64_int64.f (k : Nat) (l0 : List Int) (l1 : List Int) : Option (Int) := slices_Compare_int64_int64.l0 k l0 l1 l0 (l0.length : Int) 0
theorem slices_Compare_int64_int64.mono_l : ∀ k, (∀ y0 y1 y2 y3 y4, LeO (slices_Compare_int64_int64.l0 k y0 y1 y2 y3 y4) (slices_Compare_int64_int64.l0 (k + 1) y0 y1 y2 y3 y4))
  | 0 => fun _ _ _ _ _ r h => by simp [slices_Compare_int64_int64.l0] at h
  | k + 1 => by
    have ih0 := slices_Compare_int64_int64.mono_l k
    · intro y0 y1 y2 y3 y4
      unfold slices_Compare_int64_int64.l0
      repeat' first
      | (with_reducible exact ih0 _ _ _ _ _)
      | (with_reducible exact LeO.refl _)
      | (with_reducible exact LeO.none _)
      | (with_reducible refine LeO.ite ?_ ?_)
      | (with_reducible refine LeO.bind ?_ (fun _ => ?_))
      | exact ih0 _ _ _ _ _
      | exact LeO.none _
      | refine LeO.ite ?_ ?_
      | refine LeO.bind ?_ (fun _ => ?_)
theorem slices_Compare_int64_int64.mono : ∀ a0 a1 k, LeO (slices_Compare_int64_int64.f k a0 a1) (slices_Compare_int64_int64.f (k + 1) a0 a1) := by
  intro a0 a1 k
  have ih0 := slices_Compare_int64_int64.mono_l k
  unfold slices_Compare_int64_int64.f
  repeat' first
      | (with_reducible exact ih0 _ _ _ _ _)
      | (with_reducible exact LeO.refl _)
      | (with_reducible exact LeO.none _)
      | (with_reducible refine LeO.ite ?_ ?_)
      | (with_reducible refine LeO.bind ?_ (fun _ => ?_))
      | exact ih0 _ _ _ _ _
      | exact LeO.none _
      | refine LeO.ite ?_ ?_
      | refine LeO.bind ?_ (fun _ => ?_)
set_option maxHeartbeats 8000000 in
set_option maxRecDepth 100000 in
theorem slices_Compare_int64_int64.calls (k : Nat) (A0 : Option Addr) (c0 : Nat) (l0 : List Int) (A1 : Option Addr) (c1 : Nat) (l1 : List Int) (r : Int) (w : World) (hr0 : Kd.C (Kd.int .i64) w A0 l0.length l0) (hc0 : l0.length ≤ c0) (hr1 : Kd.C (Kd.int .i64) w A1 l1.length l1) (hc1 : l1.length ≤ c1) (h : slices_Compare_int64_int64.f k l0 l1 = some r) :
    Calls Tryz.prog 141 #[.slice A0 l0.length c0, .slice A1 l1.length c1] w fun e w' => e = .returned (.int .i64 r) ∧ Drawn0 w w' := by
  have HR0 := Aside0.mk hr0
  have HC0 := Aside0.mk hc0
  clear hr0 hc0
  have HR1 := Aside0.mk hr1
  have HC1 := Aside0.mk hc1
  clear hr1 hc1
  have H : (slices_Compare_int64_int64.l0 k l0 l1 l0 (l0.length : Int) 0) = some r := h
  clear h
  have H' := Aside0.mk H
  clear H
  go_enter Tryz.func141, Tryz.ntmps141
  go_wp2
  go_loopg [11] k (fun kq v11 w' => ∃ (x11_1 : Int), v11 = .int .i64 x11_1 ∧ Aside0 (slices_Compare_int64_int64.l0 kq l0 l1 l0 (l0.length : Int) x11_1 = some r) ∧ Aside0 (kq ≤ k) ∧ Drawn0 w w')
  case atStart => exact ⟨(0), (by first | rfl | (simp; done) | (simp [*]; done)), H', ⟨Nat.le_refl _⟩, by repeat (first | exact Drawn0.refl _ | apply Drawn0.step)⟩
  case round =>
    clear H'
    try clear c1
    try clear p2
    obtain ⟨x11_1, rfl, HA, HK1, ⟨m1, rfl⟩⟩ := hrel
    cases gk with
    | zero => exact absurd HA.out (by simp [slices_Compare_int64_int64.l0])
    | succ k1 =>
      have H := HA.out
      clear HA
      simp only [slices_Compare_int64_int64.l0] at H
      by_cases c3 : x11_1 < (l0.length : Int)
      · rw [if_pos c3] at H
        have c3b0 : decide (x11_1 < (l0.length : Int)) = true := decide_eq_true c3
        clear c3
        by_cases c4 : 0 ≤ x11_1
        · rw [if_pos c4] at H
          have c4b0 : decide (0 ≤ x11_1) = true := decide_eq_true c4
          clear c4
          by_cases c5 : x11_1 < (l0.length : Int)
          · rw [if_pos c5] at H
            have c5b0 : decide (x11_1 < (l0.length : Int)) = true := decide_eq_true c5
            clear c5
            by_cases c6 : x11_1 ≥ (l1.length : Int)
            · rw [if_pos c6] at H
              have c6b0 : decide ((l1.length : Int) ≤ x11_1) = true := decide_eq_true c6
              clear c6
              obtain rfl := Option.some.inj H
              have p103 : 0 ≤ (x11_1 : Int) := of_decide_eq_true (by first | (with_reducible assumption) | assumption)
              have q103 : x11_1 < (l0.length : Int) := of_decide_eq_true (by first | (with_reducible assumption) | assumption)
              obtain ⟨ad103, e103, hx103_0⟩ := Kd.at_int HR0.out x11_1 p103 q103
              cases e103
              replace p103 := eq_true p103
              replace q103 := eq_true q103
              go_wp2
              go_ret
              exact ⟨by first | rfl | (simp; done) | (simp [*]; done), by repeat (first | exact Drawn0.refl _ | apply Drawn0.step)⟩
            · rw [if_neg c6] at H
              have c6b0 : decide ((l1.length : Int) ≤ x11_1) = false := decide_eq_false c6
              clear c6
              by_cases c7 : x11_1 < (l1.length : Int)
              · rw [if_pos c7] at H
                have c7b0 : decide (x11_1 < (l1.length : Int)) = true := decide_eq_true c7
                clear c7
                replace H := Option.bind_eq_some_iff.mp H
                obtain ⟨t105, A80, H⟩ := H
                replace H : (if t105 = 0 then (slices_Compare_int64_int64.l0 k1 l0 l1 l0 (l0.length : Int) (wrap64 (x11_1 + 1))) else (some t105)) = some r := H
                have A8 := Aside0.mk A80
                clear A80
                by_cases c9 : t105 = 0
                · rw [if_pos c9] at H
                  have c9b0 : (t105 == 0) = true := beq_iff_eq.mpr c9
                  have c9b1 : (t105 != 0) = false := bne_eq_false_iff_eq.mpr c9
                  clear c9
                  have H' := Aside0.mk H
                  clear H
                  have p103 : 0 ≤ (x11_1 : Int) := of_decide_eq_true (by first | (with_reducible assumption) | assumption)
                  have q103 : x11_1 < (l0.length : Int) := of_decide_eq_true (by first | (with_reducible assumption) | assumption)
                  obtain ⟨ad103, e103, hx103_0⟩ := Kd.at_int HR0.out x11_1 p103 q103
                  cases e103
                  replace p103 := eq_true p103
                  replace q103 := eq_true q103
                  have p104 : 0 ≤ (x11_1 : Int) := of_decide_eq_true (by first | (with_reducible assumption) | assumption)
                  have q104 : x11_1 < (l1.length : Int) := of_decide_eq_true (by first | (with_reducible assumption) | assumption)
                  obtain ⟨ad104, e104, hx104_0⟩ := Kd.at_int HR1.out x11_1 p104 q104
                  cases e104
                  replace p104 := eq_true p104
                  replace q104 := eq_true q104
                  go_wp2_with (first | ((with_reducible refine gate_callee (f := 165) rfl ?_); refine goesL_ (some 26) rfl rfl Tryz.func165 (by kernel_rfl) rfl #[.int .i64 (rd l0 x11_1), .int .i64 (rd l1 x11_1)] rfl (by (try simp only [List.map_toArray, List.map_cons, List.map_nil]); first | done | rfl | (simp only [List.length_drop, List.length_take]; rfl)) ?_; (with_reducible refine (cmp_Compare_int64.calls (rd l0 x11_1) (rd l1 x11_1) t105 _ A8.out).mono ?_); rintro e w' ⟨rfl, ⟨nd, rfl⟩⟩; refine ⟨_, rfl, ?_⟩))
                  go_roundg k1
                  case measure => have := HK1.out; omega
                  case rel => exact ⟨(wrap64 (x11_1 + 1)), (by first | rfl | (simp; done) | (simp [*]; done)), H', ⟨by have := HK1.out; omega⟩, by repeat (first | exact Drawn0.refl _ | apply Drawn0.step)⟩
                · rw [if_neg c9] at H
                  have c9b0 : (t105 == 0) = false := beq_eq_false_iff_ne.mpr c9
                  have c9b1 : (t105 != 0) = true := bne_iff_ne.mpr c9
                  obtain rfl := Option.some.inj H
                  have p103 : 0 ≤ (x11_1 : Int) := of_decide_eq_true (by first | (with_reducible assumption) | assumption)
                  have q103 : x11_1 < (l0.length : Int) := of_decide_eq_true (by first | (with_reducible assumption) | assumption)
                  obtain ⟨ad103, e103, hx103_0⟩ := Kd.at_int HR0.out x11_1 p103 q103
                  cases e103
                  replace p103 := eq_true p103
                  replace q103 := eq_true q103
                  have p104 : 0 ≤ (x11_1 : Int) := of_decide_eq_true (by first | (with_reducible assumption) | assumption)
                  have q104 : x11_1 < (l1.length : Int) := of_decide_eq_true (by first | (with_reducible assumption) | assumption)
                  obtain ⟨ad104, e104, hx104_0⟩ := Kd.at_int HR1.out x11_1 p104 q104
                  cases e104
                  replace p104 := eq_true p104
                  replace q104 := eq_true q104
                  go_wp2_with (first | ((with_reducible refine gate_callee (f := 165) rfl ?_); refine goesL_ (some 26) rfl rfl Tryz.func165 (by kernel_rfl) rfl #[.int .i64 (rd l0 x11_1), .int .i64 (rd l1 x11_1)] rfl (by (try simp only [List.map_toArray, List.map_cons, List.map_nil]); first | done | rfl | (simp only [List.length_drop, List.length_take]; rfl)) ?_; (with_reducible refine (cmp_Compare_int64.calls (rd l0 x11_1) (rd l1 x11_1) t105 _ A8.out).mono ?_); rintro e w' ⟨rfl, ⟨nd, rfl⟩⟩; refine ⟨_, rfl, ?_⟩))
                  go_ret
                  exact ⟨by first | rfl | (simp; done) | (simp [*]; done), by repeat (first | exact Drawn0.refl _ | apply Drawn0.step)⟩
              · rw [if_neg c7] at H
                exact absurd H (by simp)
          · rw [if_neg c5] at H
            exact absurd H (by simp)
        · rw [if_neg c4] at H
          exact absurd H (by simp)
      · rw [if_neg c3] at H
        have c3b0 : decide (x11_1 < (l0.length : Int)) = false := decide_eq_false c3
        clear c3
        by_cases c10 : (l0.length : Int) < (l1.length : Int)
        · rw [if_pos c10] at H
          have c10b0 : decide ((l0.length : Int) < (l1.length : Int)) = true := decide_eq_true c10
          have c10b1 : decide (l0.length < l1.length) = true := decide_eq_true (Int.ofNat_lt.mp c10)
          clear c10
          obtain rfl := Option.some.inj H
          go_wp2
          go_ret
          exact ⟨by first | rfl | (simp; done) | (simp [*]; done), by repeat (first | exact Drawn0.refl _ | apply Drawn0.step)⟩
        · rw [if_neg c10] at H
          have c10b0 : decide ((l0.length : Int) < (l1.length : Int)) = false := decide_eq_false c10
          have c10b1 : decide (l0.length < l1.length) = false := decide_eq_false (fun h => c10 (Int.ofNat_lt.mpr h))
          clear c10
          obtain rfl := Option.some.inj H
          go_wp2
          go_ret
          exact ⟨by first | rfl | (simp; done) | (simp [*]; done), by repeat (first | exact Drawn0.refl _ | apply Drawn0.step)⟩
def cmp_isNaN_int.f (a0 : Int) : Option (Bool) := some (a0 != a0)
set_option maxHeartbeats 8000000 in
set_option maxRecDepth 100000 in
theorem cmp_isNaN_int.calls (a0 : Int) (r : Bool) (w : World) (h : cmp_isNaN_int.f a0 = some r) :
    Calls Tryz.prog 200 #[.int .i64 a0] w fun e w' => e = .returned (.bool r) ∧ Drawn0 w w' := by
  have H : (some (a0 != a0)) = some r := h
  clear h
  obtain rfl := Option.some.inj H
  go_enter Tryz.func200, Tryz.ntmps200
  go_wp2
  go_ret
  exact ⟨by first | rfl | (simp; done) | (simp [*]; done), by repeat (first | exact Drawn0.refl _ | apply Drawn0.step)⟩
def cmp_Compare_int.f (a0 : Int) (a1 : Int) : Option (Int) := (cmp_isNaN_int.f a0).bind fun t106 => ((cmp_isNaN_int.f a1).bind fun t107 => (if t106 = true then (if t107 = true then (some 0) else (some (-1))) else (if t107 = true then (some 1) else (if a0 < a1 then (some (-1)) else (if a0 > a1 then (some 1) else (some 0))))))
set_option maxHeartbeats 8000000 in
set_option maxRecDepth 100000 in
theorem cmp_Compare_int.calls (a0 : Int) (a1 : Int) (r : Int) (w : World) (h : cmp_Compare_int.f a0 a1 = some r) :
    Calls Tryz.prog 181 #[.int .i64 a0, .int .i64 a1] w fun e w' => e = .returned (.int .i64 r) ∧ Drawn0 w w' := by
  have H : ((cmp_isNaN_int.f a0).bind fun t106 => ((cmp_isNaN_int.f a1).bind fun t107 => (if t106 = true then (if t107 = true then (some 0) else (some (-1))) else (if t107 = true then (some 1) else (if a0 < a1 then (some (-1)) else (if a0 > a1 then (some 1) else (some 0))))))) = some r := h
  clear h
  replace H := Option.bind_eq_some_iff.mp H
  obtain ⟨t106, A30, H⟩ := H
  replace H : ((cmp_isNaN_int.f a1).bind fun t107 => (if t106 = true then (if t107 = true then (some 0) else (some (-1))) else (if t107 = true then (some 1) else (if a0 < a1 then (some (-1)) else (if a0 > a1 then (some 1) else (some 0)))))) = some r := H
  have A3 := Aside0.mk A30
  clear A30
  replace H := Option.bind_eq_some_iff.mp H
  obtain ⟨t107, A40, H⟩ := H
  replace H : (if t106 = true then (if t107 = true then (some 0) else (some (-1))) else (if t107 = true then (some 1) else (if a0 < a1 then (some (-1)) else (if a0 > a1 then (some 1) else (some 0))))) = some r := H
  have A4 := Aside0.mk A40
  clear A40
  by_cases c5 : t106 = true
  · subst c5
    have H1 : (if t107 = true then (some 0) else (some (-1))) = some r := by rw [if_pos rfl] at H; exact H
    clear H
    have H := H1
    clear H1
    by_cases c6 : t107 = true
    · subst c6
      have H1 : (some 0) = some r := by rw [if_pos rfl] at H; exact H
      clear H
      have H := H1
      clear H1
      obtain rfl := Option.some.inj H
      go_enter Tryz.func181, Tryz.ntmps181
      go_wp2_with (first | ((with_reducible refine gate_callee (f := 200) rfl ?_); refine goesL_ (some 8) rfl rfl Tryz.func200 (by kernel_rfl) rfl #[.int .i64 a0] rfl (by (try simp only [List.map_toArray, List.map_cons, List.map_nil]); first | done | rfl | (simp only [List.length_drop, List.length_take]; rfl)) ?_; (with_reducible refine (cmp_isNaN_int.calls a0 true _ A3.out).mono ?_); rintro e w' ⟨rfl, ⟨nd, rfl⟩⟩; refine ⟨_, rfl, ?_⟩) | ((with_reducible refine gate_callee (f := 200) rfl ?_); refine goesL_ (some 10) rfl rfl Tryz.func200 (by kernel_rfl) rfl #[.int .i64 a1] rfl (by (try simp only [List.map_toArray, List.map_cons, List.map_nil]); first | done | rfl | (simp only [List.length_drop, List.length_take]; rfl)) ?_; (with_reducible refine (cmp_isNaN_int.calls a1 true _ A4.out).mono ?_); rintro e w' ⟨rfl, ⟨nd, rfl⟩⟩; refine ⟨_, rfl, ?_⟩))
      go_ret
      exact ⟨by first | rfl | (simp; done) | (simp [*]; done), by repeat (first | exact Drawn0.refl _ | apply Drawn0.step)⟩
    · replace c6 := Bool.eq_false_iff.mpr c6
      subst c6
      have H1 : (some (-1)) = some r := by rw [if_neg (show ¬ (false = true) by decide)] at H; exact H
      clear H
      have H := H1
      clear H1
      obtain rfl := Option.some.inj H
      go_enter Tryz.func181, Tryz.ntmps181
      go_wp2_with (first | ((with_reducible refine gate_callee (f := 200) rfl ?_); refine goesL_ (some 8) rfl rfl Tryz.func200 (by kernel_rfl) rfl #[.int .i64 a0] rfl (by (try simp only [List.map_toArray, List.map_cons, List.map_nil]); first | done | rfl | (simp only [List.length_drop, List.length_take]; rfl)) ?_; (with_reducible refine (cmp_isNaN_int.calls a0 true _ A3.out).mono ?_); rintro e w' ⟨rfl, ⟨nd, rfl⟩⟩; refine ⟨_, rfl, ?_⟩) | ((with_reducible refine gate_callee (f := 200) rfl ?_); refine goesL_ (some 10) rfl rfl Tryz.func200 (by kernel_rfl) rfl #[.int .i64 a1] rfl (by (try simp only [List.map_toArray, List.map_cons, List.map_nil]); first | done | rfl | (simp only [List.length_drop, List.length_take]; rfl)) ?_; (with_reducible refine (cmp_isNaN_int.calls a1 false _ A4.out).mono ?_); rintro e w' ⟨rfl, ⟨nd, rfl⟩⟩; refine ⟨_, rfl, ?_⟩))
      go_ret
      exact ⟨by first | rfl | (simp; done) | (simp [*]; done), by repeat (first | exact Drawn0.refl _ | apply Drawn0.step)⟩
  · replace c5 := Bool.eq_false_iff.mpr c5
    subst c5
    have H1 : (if t107 = true then (some 1) else (if a0 < a1 then (some (-1)) else (if a0 > a1 then (some 1) else (some 0)))) = some r := by rw [if_neg (show ¬ (false = true) by decide)] at H; exact H
    clear H
    have H := H1
    clear H1
    by_cases c7 : t107 = true
    · subst c7
      have H1 : (some 1) = some r := by rw [if_pos rfl] at H; exact H
      clear H
      have H := H1
      clear H1
      obtain rfl := Option.some.inj H
      go_enter Tryz.func181, Tryz.ntmps181
      go_wp2_with (first | ((with_reducible refine gate_callee (f := 200) rfl ?_); refine goesL_ (some 8) rfl rfl Tryz.func200 (by kernel_rfl) rfl #[.int .i64 a0] rfl (by (try simp only [List.map_toArray, List.map_cons, List.map_nil]); first | done | rfl | (simp only [List.length_drop, List.length_take]; rfl)) ?_; (with_reducible refine (cmp_isNaN_int.calls a0 false _ A3.out).mono ?_); rintro e w' ⟨rfl, ⟨nd, rfl⟩⟩; refine ⟨_, rfl, ?_⟩) | ((with_reducible refine gate_callee (f := 200) rfl ?_); refine goesL_ (some 10) rfl rfl Tryz.func200 (by kernel_rfl) rfl #[.int .i64 a1] rfl (by (try simp only [List.map_toArray, List.map_cons, List.map_nil]); first | done | rfl | (simp only [List.length_drop, List.length_take]; rfl)) ?_; (with_reducible refine (cmp_isNaN_int.calls a1 true _ A4.out).mono ?_); rintro e w' ⟨rfl, ⟨nd, rfl⟩⟩; refine ⟨_, rfl, ?_⟩))
      go_ret
      exact ⟨by first | rfl | (simp; done) | (simp [*]; done), by repeat (first | exact Drawn0.refl _ | apply Drawn0.step)⟩
    · replace c7 := Bool.eq_false_iff.mpr c7
      subst c7
      have H1 : (if a0 < a1 then (some (-1)) else (if a0 > a1 then (some 1) else (some 0))) = some r := by rw [if_neg (show ¬ (false = true) by decide)] at H; exact H
      clear H
      have H := H1
      clear H1
      by_cases c8 : a0 < a1
      · rw [if_pos c8] at H
        have c8b0 : decide (a0 < a1) = true := decide_eq_true c8
        clear c8
        obtain rfl := Option.some.inj H
        go_enter Tryz.func181, Tryz.ntmps181
        go_wp2_with (first | ((with_reducible refine gate_callee (f := 200) rfl ?_); refine goesL_ (some 8) rfl rfl Tryz.func200 (by kernel_rfl) rfl #[.int .i64 a0] rfl (by (try simp only [List.map_toArray, List.map_cons, List.map_nil]); first | done | rfl | (simp only [List.length_drop, List.length_take]; rfl)) ?_; (with_reducible refine (cmp_isNaN_int.calls a0 false _ A3.out).mono ?_); rintro e w' ⟨rfl, ⟨nd, rfl⟩⟩; refine ⟨_, rfl, ?_⟩) | ((with_reducible refine gate_callee (f := 200) rfl ?_); refine goesL_ (some 10) rfl rfl Tryz.func200 (by kernel_rfl) rfl #[.int .i64 a1] rfl (by (try simp only [List.map_toArray, List.map_cons, List.map_nil]); first | done | rfl | (simp only [List.length_drop, List.length_take]; rfl)) ?_; (with_reducible refine (cmp_isNaN_int.calls a1 false _ A4.out).mono ?_); rintro e w' ⟨rfl, ⟨nd, rfl⟩⟩; refine ⟨_, rfl, ?_⟩))
        go_ret
        exact ⟨by first | rfl | (simp; done) | (simp [*]; done), by repeat (first | exact Drawn0.refl _ | apply Drawn0.step)⟩
      · rw [if_neg c8] at H
        have c8b0 : decide (a0 < a1) = false := decide_eq_false c8
        clear c8
        by_cases c9 : a0 > a1
        · rw [if_pos c9] at H
          have c9b0 : decide (a1 < a0) = true := decide_eq_true c9
          clear c9
          obtain rfl := Option.some.inj H
          go_enter Tryz.func181, Tryz.ntmps181
          go_wp2_with (first | ((with_reducible refine gate_callee (f := 200) rfl ?_); refine goesL_ (some 8) rfl rfl Tryz.func200 (by kernel_rfl) rfl #[.int .i64 a0] rfl (by (try simp only [List.map_toArray, List.map_cons, List.map_nil]); first | done | rfl | (simp only [List.length_drop, List.length_take]; rfl)) ?_; (with_reducible refine (cmp_isNaN_int.calls a0 false _ A3.out).mono ?_); rintro e w' ⟨rfl, ⟨nd, rfl⟩⟩; refine ⟨_, rfl, ?_⟩) | ((with_reducible refine gate_callee (f := 200) rfl ?_); refine goesL_ (some 10) rfl rfl Tryz.func200 (by kernel_rfl) rfl #[.int .i64 a1] rfl (by (try simp only [List.map_toArray, List.map_cons, List.map_nil]); first | done | rfl | (simp only [List.length_drop, List.length_take]; rfl)) ?_; (with_reducible refine (cmp_isNaN_int.calls a1 false _ A4.out).mono ?_); rintro e w' ⟨rfl, ⟨nd, rfl⟩⟩; refine ⟨_, rfl, ?_⟩))
          go_ret
          exact ⟨by first | rfl | (simp; done) | (simp [*]; done), by repeat (first | exact Drawn0.refl _ | apply Drawn0.step)⟩
        · rw [if_neg c9] at H
          have c9b0 : decide (a1 < a0) = false := decide_eq_false c9
          clear c9
          obtain rfl := Option.some.inj H
          go_enter Tryz.func181, Tryz.ntmps181
          go_wp2_with (first | ((with_reducible refine gate_callee (f := 200) rfl ?_); refine goesL_ (some 8) rfl rfl Tryz.func200 (by kernel_rfl) rfl #[.int .i64 a0] rfl (by (try simp only [List.map_toArray, List.map_cons, List.map_nil]); first | done | rfl | (simp only [List.length_drop, List.length_take]; rfl)) ?_; (with_reducible refine (cmp_isNaN_int.calls a0 false _ A3.out).mono ?_); rintro e w' ⟨rfl, ⟨nd, rfl⟩⟩; refine ⟨_, rfl, ?_⟩) | ((with_reducible refine gate_callee (f := 200) rfl ?_); refine goesL_ (some 10) rfl rfl Tryz.func200 (by kernel_rfl) rfl #[.int .i64 a1] rfl (by (try simp only [List.map_toArray, List.map_cons, List.map_nil]); first | done | rfl | (simp only [List.length_drop, List.length_take]; rfl)) ?_; (with_reducible refine (cmp_isNaN_int.calls a1 false _ A4.out).mono ?_); rintro e w' ⟨rfl, ⟨nd, rfl⟩⟩; refine ⟨_, rfl, ?_⟩))
          go_ret
          exact ⟨by first | rfl | (simp; done) | (simp [*]; done), by repeat (first | exact Drawn0.refl _ | apply Drawn0.step)⟩
def cmp_Or_int.l0 : Nat → Int → List Int → Int → Int → Option (Int)
  | 0, _, _, _, _ => none
  | k + 1, x3, x6, x7, x8 => if x8 < x7 then (if 0 ≤ x8 then (if x8 < (x6.length : Int) then (if (rd x6 x8) = x3 then (cmp_Or_int.l0 k x3 x6 x7 (wrap64 (x8 + 1))) else (some (rd x6 x8))) else (none)) else (none)) else (some x3)
def cmp_Or_int.f (k : Nat) (l0 : List Int) : Option (Int) := cmp_Or_int.l0 k 0 l0 (l0.length : Int) 0
theorem cmp_Or_int.mono_l : ∀ k, (∀ y0 y1 y2 y3, LeO (cmp_Or_int.l0 k y0 y1 y2 y3) (cmp_Or_int.l0 (k + 1) y0 y1 y2 y3))
  | 0 => fun _ _ _ _ r h => by simp [cmp_Or_int.l0] at h
  | k + 1 => by
    have ih0 := cmp_Or_int.mono_l k
    · intro y0 y1 y2 y3
      unfold cmp_Or_int.l0
      repeat' first
      | (with_reducible exact ih0 _ _ _ _)
      | (with_reducible exact LeO.refl _)
      | (with_reducible exact LeO.none _)
      | (with_reducible refine LeO.ite ?_ ?_)
      | (with_reducible refine LeO.bind ?_ (fun _ => ?_))
      | exact ih0 _ _ _ _
      | exact LeO.none _
      | refine LeO.ite ?_ ?_
      | refine LeO.bind ?_ (fun _ => ?_)
theorem cmp_Or_int.mono : ∀ a0 k, LeO (cmp_Or_int.f k a0) (cmp_Or_int.f (k + 1) a0) := by
  intro a0 k
  have ih0 := cmp_Or_int.mono_l k
  unfold cmp_Or_int.f
  repeat' first
      | (with_reducible exact ih0 _ _ _ _)
      | (with_reducible exact LeO.refl _)
      | (with_reducible exact LeO.none _)
      | (with_reducible refine LeO.ite ?_ ?_)
      | (with_reducible refine LeO.bind ?_ (fun _ => ?_))
      | exact ih0 _ _ _ _
      | exact LeO.none _
      | refine LeO.ite ?_ ?_
      | refine LeO.bind ?_ (fun _ => ?_)
set_option maxHeartbeats 8000000 in
set_option maxRecDepth 100000 in
theorem cmp_Or_int.calls (k : Nat) (A0 : Option Addr) (c0 : Nat) (l0 : List Int) (r : Int) (w : World) (hr0 : Kd.C (Kd.int .i64) w A0 l0.length l0) (hc0 : l0.length ≤ c0) (h : cmp_Or_int.f k l0 = some r) :
    Calls Tryz.prog 180 #[.slice A0 l0.length c0] w fun e w' => e = .returned (.int .i64 r) ∧ Drawn0 w w' := by
  have HR0 := Aside0.mk hr0
  have HC0 := Aside0.mk hc0
  clear hr0 hc0
  have H : (cmp_Or_int.l0 k 0 l0 (l0.length : Int) 0) = some r := h
  clear h
  have H' := Aside0.mk H
  clear H
  go_enter Tryz.func180, Tryz.ntmps180
  go_wp2
  go_loopg [8] k (fun kq v8 w' => ∃ (x8_1 : Int), v8 = .int .i64 x8_1 ∧ Aside0 (cmp_Or_int.l0 kq 0 l0 (l0.length : Int) x8_1 = some r) ∧ Aside0 (kq ≤ k) ∧ Drawn0 w w')
  case atStart => exact ⟨(0), (by first | rfl | (simp; done) | (simp [*]; done)), H', ⟨Nat.le_refl _⟩, by repeat (first | exact Drawn0.refl _ | apply Drawn0.step)⟩
  case round =>
    clear H'
    try clear c1
    obtain ⟨x8_1, rfl, HA, HK1, ⟨m1, rfl⟩⟩ := hrel
    cases gk with
    | zero => exact absurd HA.out (by simp [cmp_Or_int.l0])
    | succ k1 =>
      have H := HA.out
      clear HA
      simp only [cmp_Or_int.l0] at H
      by_cases c2 : x8_1 < (l0.length : Int)
      · rw [if_pos c2] at H
        have c2b0 : decide (x8_1 < (l0.length : Int)) = true := decide_eq_true c2
        clear c2
        by_cases c3 : 0 ≤ x8_1
        · rw [if_pos c3] at H
          have c3b0 : decide (0 ≤ x8_1) = true := decide_eq_true c3
          clear c3
          by_cases c4 : x8_1 < (l0.length : Int)
          · rw [if_pos c4] at H
            have c4b0 : decide (x8_1 < (l0.length : Int)) = true := decide_eq_true c4
            clear c4
            by_cases c5 : (rd l0 x8_1) = 0
            · rw [if_pos c5] at H
              have c5b0 : ((rd l0 x8_1) == 0) = true := beq_iff_eq.mpr c5
              have c5b1 : ((rd l0 x8_1) != 0) = false := bne_eq_false_iff_eq.mpr c5
              clear c5
              have H' := Aside0.mk H
              clear H
              have p108 : 0 ≤ (x8_1 : Int) := of_decide_eq_true (by first | (with_reducible assumption) | assumption)
              have q108 : x8_1 < (l0.length : Int) := of_decide_eq_true (by first | (with_reducible assumption) | assumption)
              obtain ⟨ad108, e108, hx108_0⟩ := Kd.at_int HR0.out x8_1 p108 q108
              cases e108
              replace p108 := eq_true p108
              replace q108 := eq_true q108
              go_wp2
              go_roundg k1
              case measure => have := HK1.out; omega
              case rel => exact ⟨(wrap64 (x8_1 + 1)), (by first | rfl | (simp; done) | (simp [*]; done)), H', ⟨by have := HK1.out; omega⟩, by repeat (first | exact Drawn0.refl _ | apply Drawn0.step)⟩
            · rw [if_neg c5] at H
              have c5b0 : ((rd l0 x8_1) == 0) = false := beq_eq_false_iff_ne.mpr c5
              have c5b1 : ((rd l0 x8_1) != 0) = true := bne_iff_ne.mpr c5
              obtain rfl := Option.some.inj H
              have p108 : 0 ≤ (x8_1 : Int) := of_decide_eq_true (by first | (with_reducible assumption) | assumption)
              have q108 : x8_1 < (l0.length : Int) := of_decide_eq_true (by first | (with_reducible assumption) | assumption)
              obtain ⟨ad108, e108, hx108_0⟩ := Kd.at_int HR0.out x8_1 p108 q108
              cases e108
              replace p108 := eq_true p108
              replace q108 := eq_true q108
              go_wp2
              go_ret
              exact ⟨by first | rfl | (simp; done) | (simp [*]; done), by repeat (first | exact Drawn0.refl _ | apply Drawn0.step)⟩
          · rw [if_neg c4] at H
            exact absurd H (by simp)
        · rw [if_neg c3] at H
          exact absurd H (by simp)
      · rw [if_neg c2] at H
        have c2b0 : decide (x8_1 < (l0.length : Int)) = false := decide_eq_false c2
        clear c2
        obtain rfl := Option.some.inj H
        go_wp2
        go_ret
        exact ⟨by first | rfl | (simp; done) | (simp [*]; done), by repeat (first | exact Drawn0.refl _ | apply Drawn0.step)⟩
end Go.Proofs.YthfmlelodmcgkaaGreat.PO
end
section
namespace Go.Proofs.YthfmlelodmcgkaaGreat.V
open Go Go.Shelf Go.Proofs
def sortF_ren : Go.Shelf.Ren := ⟨fun | 6 => 156 | 15 => 154 | 14 => 179 | 28 => 177 | 29 => 178 | 20 => 192 | 21 => 193 | 22 => 194 | 23 => 195 | 24 => 196 | 25 => 197 | 26 => 198 | 27 => 199 | 46 => 204 | 47 => 188 | 48 => 189 | 49 => 205 | 50 => 206 | 57 => 208 | n => n, fun | 22 => 29 | 24 => 87 | 25 => 137 | 3 => 3 | 39 => 131 | 0 => 0 | 53 => 152 | 55 => 154 | 4 => 4 | 46 => 145 | 45 => 144 | 50 => 149 | 5 => 5 | 9 => 9 | 66 => 163 | 70 => 167 | 76 => 177 | 77 => 127 | n => n, fun | n => n⟩
theorem sortF : Go.Proofs.SlLaysF0.n6 Tryz.prog sortF_ren := {
  mixed := by kernel_rfl,
  f6 := ⟨Tryz.f156.name, by decide, Tryz.func156.trans (congrArg some (by kernel_rfl))⟩,
  f14 := ⟨Tryz.f179.name, by decide, Tryz.func179.trans (congrArg some (by kernel_rfl))⟩,
  f15 := Tryz.func154.trans (congrArg some (by kernel_rfl)),
  f20 := ⟨Tryz.f192.name, by decide, Tryz.func192.trans (congrArg some (by kernel_rfl))⟩,
  f21 := ⟨Tryz.f193.name, by decide, Tryz.func193.trans (congrArg some (by kernel_rfl))⟩,
  f22 := ⟨Tryz.f194.name, by decide, Tryz.func194.trans (congrArg some (by kernel_rfl))⟩,
  f23 := ⟨Tryz.f195.name, by decide, Tryz.func195.trans (congrArg some (by kernel_rfl))⟩,
  f24 := ⟨Tryz.f196.name, by decide, Tryz.func196.trans (congrArg some (by kernel_rfl))⟩,
  f25 := ⟨Tryz.f197.name, by decide, Tryz.func197.trans (congrArg some (by kernel_rfl))⟩,
  f26 := ⟨Tryz.f198.name, by decide, Tryz.func198.trans (congrArg some (by kernel_rfl))⟩,
  f27 := ⟨Tryz.f199.name, by decide, Tryz.func199.trans (congrArg some (by kernel_rfl))⟩,
  f28 := Tryz.func177.trans (congrArg some (by kernel_rfl)),
  f29 := Tryz.func178.trans (congrArg some (by kernel_rfl)),
  f46 := ⟨Tryz.f204.name, by decide, Tryz.func204.trans (congrArg some (by kernel_rfl))⟩,
  f47 := Tryz.func188.trans (congrArg some (by kernel_rfl)),
  f48 := Tryz.func189.trans (congrArg some (by kernel_rfl)),
  f49 := ⟨Tryz.f205.name, by decide, Tryz.func205.trans (congrArg some (by kernel_rfl))⟩,
  f50 := ⟨Tryz.f206.name, by decide, Tryz.func206.trans (congrArg some (by kernel_rfl))⟩,
  f57 := ⟨Tryz.f208.name, by decide, Tryz.func208.trans (congrArg some (by kernel_rfl))⟩,
  t0 := Tryz.underlying0,
  a0 := Tryz.isAgg0,
  z0 := Tryz.sizeOf0,
  v0 := Tryz.zeroValue0,
  t3 := Tryz.underlying3,
  a3 := Tryz.isAgg3,
  z3 := Tryz.sizeOf3,
  v3 := Tryz.zeroValue3,
  t4 := Tryz.underlying4,
  a4 := Tryz.isAgg4,
  z4 := Tryz.sizeOf4,
  v4 := Tryz.zeroValue4,
  t5 := Tryz.underlying5,
  a5 := Tryz.isAgg5,
  z5 := Tryz.sizeOf5,
  v5 := Tryz.zeroValue5,
  t9 := Tryz.underlying9,
  a9 := Tryz.isAgg9,
  z9 := Tryz.sizeOf9,
  v9 := Tryz.zeroValue9,
  t22 := Tryz.underlying29,
  a22 := Tryz.isAgg29,
  z22 := Tryz.sizeOf29,
  v22 := Tryz.zeroValue29,
  t25 := Tryz.underlying137,
  a25 := Tryz.isAgg137,
  z25 := Tryz.sizeOf137,
  v25 := Tryz.zeroValue137,
  t39 := Tryz.underlying131,
  a39 := Tryz.isAgg131,
  z39 := Tryz.sizeOf131,
  v39 := Tryz.zeroValue131,
  t45 := Tryz.underlying144,
  a45 := Tryz.isAgg144,
  z45 := Tryz.sizeOf144,
  v45 := Tryz.zeroValue144,
  t46 := Tryz.underlying145,
  a46 := Tryz.isAgg145,
  z46 := Tryz.sizeOf145,
  v46 := Tryz.zeroValue145,
  t50 := Tryz.underlying149,
  a50 := Tryz.isAgg149,
  z50 := Tryz.sizeOf149,
  v50 := Tryz.zeroValue149,
  t53 := Tryz.underlying152,
  a53 := Tryz.isAgg152,
  z53 := Tryz.sizeOf152,
  v53 := Tryz.zeroValue152,
  t55 := Tryz.underlying154,
  a55 := Tryz.isAgg154,
  z55 := Tryz.sizeOf154,
  v55 := Tryz.zeroValue154,
  t66 := Tryz.underlying163,
  a66 := Tryz.isAgg163,
  z66 := Tryz.sizeOf163,
  v66 := Tryz.zeroValue163,
  t70 := Tryz.underlying167,
  a70 := Tryz.isAgg167,
  z70 := Tryz.sizeOf167,
  v70 := Tryz.zeroValue167,
  t76 := Tryz.underlying177,
  a76 := Tryz.isAgg177,
  z76 := Tryz.sizeOf177,
  v76 := Tryz.zeroValue177,
  t77 := Tryz.underlying127,
  a77 := Tryz.isAgg127,
  z77 := Tryz.sizeOf127,
  v77 := Tryz.zeroValue127 }
end Go.Proofs.YthfmlelodmcgkaaGreat.V
namespace Go.Proofs.YthfmlelodmcgkaaGreat.V
open Go Go.RowKit Go.Proofs.YthfmlelodmcgkaaGreatW.PrintWords Go.Proofs.YthfmlelodmcgkaaGreatW.PrintLast Go.Proofs.YthfmlelodmcgkaaGreatW.PrintMore Go.Proofs.YthfmlelodmcgkaaGreat.PO
theorem cc64 (x y : Int) : cmp_Compare_int64.f x y = some (cmpI x y) := by
  simp only [cmp_Compare_int64.f, cmp_isNaN_int64.f, bne_self_eq_false, Option.bind_some, cmpI, Bool.false_eq_true, if_false]
  split
  · rfl
  · split <;> (first | rfl | (split <;> first | rfl | omega))
theorem cc (x y : Int) : cmp_Compare_int.f x y = some (cmpI x y) := by
  simp only [cmp_Compare_int.f, cmp_isNaN_int.f, bne_self_eq_false, Option.bind_some, cmpI, Bool.false_eq_true, if_false]
  split
  · rfl
  · split <;> (first | rfl | (split <;> first | rfl | omega))
theorem cS_l0 (a b : List Int) (ha : a.length ≤ 1099511627776) : ∀ (k i : Nat), i ≤ a.length → i ≤ b.length → a.length - i < k → slices_Compare_int64_int64.l0 k a b a (a.length : Int) (i : Int) = some (cmpL (a.drop i) (b.drop i))
  | 0, i, _, _, h => by omega
  | k + 1, i, hi, hb, h => by
    unfold slices_Compare_int64_int64.l0
    by_cases h1 : i < a.length
    · rw [if_pos (by omega), if_pos (by omega), if_pos (by omega)]
      by_cases h2 : i < b.length
      · rw [if_neg (by omega), if_pos (by omega), cc64, Option.bind_some, cmpL_s h1 h2]
        have e : wrap64 ((i : Int) + 1) = ((i + 1 : Nat) : Int) := by
          unfold wrap64; omega
        rw [e, cS_l0 a b ha k (i + 1) (by omega) (by omega) (by omega)]
        have e1 : rd a (i : Int) = a.getD i 0 := rfl
        have e2 : rd b (i : Int) = b.getD i 0 := rfl
        rw [e1, e2]
        split <;> rfl
      · rw [if_pos (by omega), cmpL_e h1 h2]
    · rw [if_neg (by omega), cmpL_0 h1]
      by_cases h2 : i < b.length
      · rw [if_pos (by omega), if_pos h2]
      · rw [if_neg (by omega), if_neg h2]
theorem cS (a b : List Int) (ha : a.length ≤ 1099511627776) : slices_Compare_int64_int64.f (a.length + 1) a b = some (cmpL a b) := by
  have := cS_l0 a b ha (a.length + 1) 0 (Nat.zero_le _) (Nat.zero_le _) (by omega)
  simpa [slices_Compare_int64_int64.f] using this
theorem cO (x y : Int) : cmp_Or_int.f 3 [x, y] = some (orL [x, y]) := by
  have e1 : wrap64 (0 + 1) = 1 := by unfold wrap64; omega
  have e2 : wrap64 (1 + 1) = 2 := by unfold wrap64; omega
  simp only [cmp_Or_int.f, cmp_Or_int.l0, rd, List.length_cons, List.length_nil, orL, e1, e2]
  simp
  split
  · split <;> rfl
  · rfl
def Grw (w w' : World) : Prop := ∃ q os, w' = Sort.grow (w.drewN q) os
theorem Grw.refl (w : World) : Grw w w := ⟨0, #[], by simp [Sort.grow, World.drewN]⟩
theorem Grw.alloc {w w' : World} (h : Grw w w') (o : Obj) : Grw w (w'.alloc o) := by
  obtain ⟨q, os, rfl⟩ := h
  exact ⟨q, os.push o, by simp [Sort.grow, World.alloc]⟩
theorem Grw.drewN {w w' : World} (h : Grw w w') (n : Nat) : Grw w (w'.drewN n) := by
  obtain ⟨q, os, rfl⟩ := h
  exact ⟨q + n, os, by simp [Sort.grow, World.drewN, Nat.add_assoc]⟩
theorem Grw.drew {w w' : World} (h : Grw w w') : Grw w w'.drew := h.drewN 1
theorem Grw.trans {a b c : World} (h : Grw a b) (k : Grw b c) : Grw a c := by
  obtain ⟨q, os, rfl⟩ := h
  obtain ⟨q', os', rfl⟩ := k
  exact ⟨q + q', os ++ os', by simp [Sort.grow, World.drewN, Nat.add_assoc, Array.append_assoc]⟩
theorem run_two (w : World) (p q : Int) : (Instr.buildSlice 75 2 #[(0, .int .i64 p), (1, .int .i64 q)]).run Tryz.prog w = .ok (.slice (some ⟨w.heap.size, 0, none⟩) 2 2) (w.alloc (.cells #[.int .i64 p, .int .i64 q] 3)) := by
  obtain ⟨i, h1, h2, h3, h4⟩ := y3_ok.info
  have h2 : i.size = 1 := h2
  refine run_buildSlice w 75 3 2 _ #[.int .i64 p, .int .i64 q] i (.int .i64 0) (slice_of y75_ok rfl) h1 h4 (by rw [h2]; decide) (by rw [h2]; decide) ?_
  rw [h2]
  simp [Instr.fill, Value.cells, Array.range_succ, Array.range_zero']
theorem two_C (W : World) (p q : Int) : Kd.C (Kd.int .i64) (W.alloc (.cells #[.int .i64 p, .int .i64 q] 3)) (some ⟨W.heap.size, 0, none⟩) 2 [p, q] := by
  refine ⟨rfl, by decide, fun _ => ⟨_, rfl, fun j x hj => ?_⟩⟩
  rcases j with _ | _ | j
  · simp at hj; subst hj
    refine ⟨[.int .i64 p], rfl, rfl, fun i u hu => ?_⟩
    rcases i with _ | i
    · simp at hu; subst hu
      show (W.alloc _).cell? ⟨W.heap.size, 0 + (0 * 1 + 0), none⟩ = _
      rw [World.cell?, heap_alloc_new]
      rfl
    · simp at hu
  · simp at hj; subst hj
    refine ⟨[.int .i64 q], rfl, rfl, fun i u hu => ?_⟩
    rcases i with _ | i
    · simp at hu; subst hu
      show (W.alloc _).cell? ⟨W.heap.size, 0 + (1 * 1 + 0), none⟩ = _
      rw [World.cell?, heap_alloc_new]
      rfl
    · simp at hu
  · simp at hj
theorem two_op {ops : Array Oper} {rest : List Oper} {o : Oper} {a : Act} {Q : Exit → Act → World → Prop} {W : World} (hgd : o.guard = none) {x y : Operand} (ho : o.op = .buildSlice 75 2 #[(0, x), (1, y)]) {p q : Int} (hx : a.eval x = .int .i64 p) (hy : a.eval y = .int .i64 q)
    (h : ∀ (ad : Option Addr) (W' : World), Kd.C (Kd.int .i64) W' ad 2 [p, q] → Grw W W' → wpList Tryz.prog ops Q rest (a.put o.dst (.slice ad 2 2)) W') : wpList Tryz.prog ops Q (o :: rest) a W := by
  refine Kd.event_run hgd ?_ (h _ _ (two_C W p q) ((Grw.refl W).alloc _))
  unfold execOp
  simp [ho, hx, hy, run_two, Result.andThen]
theorem wordOrder_grw (A0 : Option Addr) (c0 : Nat) (l0 : List Int) (A1 : Option Addr) (c1 : Nat) (l1 : List Int) (w : World) (h0 : l0.length ≤ 1099511627776) (hr0 : Kd.C (Kd.int .i64) w A0 l0.length l0) (hc0 : l0.length ≤ c0) (hr1 : Kd.C (Kd.int .i64) w A1 l1.length l1) (hc1 : l1.length ≤ c1) :
    Calls Tryz.prog 158 #[.slice A0 l0.length c0, .slice A1 l1.length c1] w fun e w' => e = .returned (.int .i64 (orL [cmpI l0.length l1.length, cmpL l0 l1])) ∧ Grw w w' := by
  have A3 := Aside0.mk (cc (l0.length : Int) (l1.length : Int))
  have A4 := Aside0.mk (cS l0 l1 h0)
  clear h0
  generalize cmpI (l0.length : Int) (l1.length : Int) = t109 at A3 ⊢
  generalize cmpL l0 l1 = t110 at A4 ⊢
  have A5 := Aside0.mk (cO t109 t110)
  generalize orL [t109, t110] = t114 at A5 ⊢
  generalize l0.length + 1 = kk at A4
  have HOr0 : ∀ (W : World) (A : Option Addr), Kd.C (Kd.int .i64) W A 2 [t109, t110] → Calls Tryz.prog 180 #[.slice A 2 2] W fun e w' => e = .returned (.int .i64 t114) ∧ Drawn0 W w' := fun W A h => cmp_Or_int.calls 3 A 2 [t109, t110] t114 W h (Nat.le_refl 2) A5.out
  have HOr := Aside0.mk HOr0
  clear HOr0
  have HR0 := Aside0.mk hr0
  have HC0 := Aside0.mk hc0
  clear hr0 hc0
  have HR1 := Aside0.mk hr1
  have HC1 := Aside0.mk hc1
  clear hr1 hc1
  go_enter Tryz.func158, Tryz.ntmps158
  go_wp2_with (first | ((with_reducible refine gate_callee (f := 181) rfl ?_); refine goesL_ (some 9) rfl rfl Tryz.func181 (by kernel_rfl) rfl #[.int .i64 (l0.length : Int), .int .i64 (l1.length : Int)] rfl (by (try simp only [List.map_toArray, List.map_cons, List.map_nil]); first | done | rfl) ?_; (with_reducible refine (cmp_Compare_int.calls (l0.length : Int) (l1.length : Int) t109 _ A3.out).mono ?_); rintro e w' ⟨rfl, ⟨nd, rfl⟩⟩; refine ⟨_, rfl, ?_⟩) | ((with_reducible refine gate_callee (f := 141) rfl ?_); refine goesL_ (some 12) rfl rfl Tryz.func141 (by kernel_rfl) rfl #[.slice A0 l0.length c0, .slice A1 l1.length c1] rfl (by (try simp only [List.map_toArray, List.map_cons, List.map_nil]); first | done | rfl) ?_; (with_reducible refine (slices_Compare_int64_int64.calls kk _ _ l0 _ _ l1 t110 _ ?side1 ?side2 ?side3 ?side4 A4.out).mono ?_); (case side1 => repeat (first | exact HR0.out | (with_reducible refine Kd.C_alloc ?_ _) | (with_reducible refine Kd.C_drewN ?_ _) | (with_reducible refine Kd.C_drew ?_))); (case side2 => exact HC0.out); (case side3 => repeat (first | exact HR1.out | (with_reducible refine Kd.C_alloc ?_ _) | (with_reducible refine Kd.C_drewN ?_ _) | (with_reducible refine Kd.C_drew ?_))); (case side4 => exact HC1.out); rintro e w' ⟨rfl, ⟨nd, rfl⟩⟩; refine ⟨_, rfl, ?_⟩) | ((with_reducible refine gate_dst (N := 13) rfl ?_); refine two_op rfl rfl (p := t109) (q := t110) ?hx ?hy ?_; (case hx => first | rfl | (go_simp; done)); (case hy => first | rfl | (go_simp; done)); intro ad6 w6 hC6 hG6; have HC6 := Aside0.mk hC6; have HG6 := Aside0.mk hG6; clear hC6 hG6) | ((with_reducible refine gate_callee (f := 180) rfl ?_); refine goesL_ (some 14) rfl rfl Tryz.func180 (by kernel_rfl) rfl #[.slice ad6 2 2] rfl (by (try simp only [List.map_toArray, List.map_cons, List.map_nil]); first | done | rfl) ?_; (with_reducible refine (HOr.out _ _ HC6.out).mono ?_); rintro e w' ⟨rfl, ⟨nd, rfl⟩⟩; refine ⟨_, rfl, ?_⟩))
  go_ret
  exact ⟨rfl, (Grw.trans (by repeat (first | exact Grw.refl _ | apply Grw.alloc | apply Grw.drewN | apply Grw.drew)) HG6.out).drewN _⟩
theorem sumCmp_grw (A0 : Option Addr) (c0 : Nat) (l0 : List Int) (v0 : Value) (A1 : Option Addr) (c1 : Nat) (l1 : List Int) (v1 : Value) (w : World) (h0 : l0.length ≤ 1099511627776) (hr0 : Kd.C (Kd.int .i64) w A0 l0.length l0) (hc0 : l0.length ≤ c0) (hr1 : Kd.C (Kd.int .i64) w A1 l1.length l1) (hc1 : l1.length ≤ c1) :
    Calls Tryz.prog 157 #[.agg #[.slice A0 l0.length c0, v0], .agg #[.slice A1 l1.length c1, v1]] w fun e w' => e = .returned (.int .i64 (orL [cmpI l0.length l1.length, cmpL l0 l1])) ∧ Grw w w' := by
  have HR0 := Aside0.mk hr0
  have HR1 := Aside0.mk hr1
  clear hr0 hr1
  have hcon := fun W H0 H1 => wordOrder_grw A0 c0 l0 A1 c1 l1 W h0 H0 hc0 H1 hc1
  clear h0 hc0 hc1
  generalize orL [cmpI l0.length l1.length, cmpL l0 l1] = r at hcon ⊢
  have HH := Aside0.mk hcon
  clear hcon
  go_enter Tryz.func157, Tryz.ntmps157
  go_wp2_with (first | (go_at_call 158; refine (HH.out _ ?s1 ?s2).mono ?_; (case s1 => repeat (first | exact HR0.out | (with_reducible refine Kd.C_alloc ?_ _) | (with_reducible refine Kd.C_drewN ?_ _) | (with_reducible refine Kd.C_drew ?_))); (case s2 => repeat (first | exact HR1.out | (with_reducible refine Kd.C_alloc ?_ _) | (with_reducible refine Kd.C_drewN ?_ _) | (with_reducible refine Kd.C_drew ?_))); rintro e w' ⟨rfl, hG⟩; have HG := Aside0.mk hG; clear hG))
  go_ret
  exact ⟨rfl, Grw.trans (by repeat (first | exact Grw.refl _ | apply Grw.alloc | apply Grw.drewN | apply Grw.drew)) HG.out⟩
end Go.Proofs.YthfmlelodmcgkaaGreat.V
namespace Go.Proofs.YthfmlelodmcgkaaGreat.V
open Go
theorem lex_irrefl : ∀ (a : List Int), lexLt a a = false
  | [] => rfl
  | x :: a => by rw [lexLt, if_pos rfl]; exact lex_irrefl a
theorem lex_trans : ∀ {a b c : List Int}, lexLt a b = true → lexLt b c = true → lexLt a c = true
  | [], _, _, h, _ => by cases h
  | _ :: _, [], _, h, _ => by cases h
  | _ :: _, _ :: _, [], _, h => by cases h
  | x :: a, y :: b, z :: c, h, k => by
    rw [lexLt] at h k ⊢
    by_cases e1 : x = y
    · subst e1
      rw [if_pos rfl] at h
      by_cases e2 : x = z
      · subst e2
        rw [if_pos rfl] at k
        rw [if_pos rfl]
        exact lex_trans h k
      · rw [if_neg e2] at k ⊢; exact k
    · rw [if_neg e1] at h
      have h := of_decide_eq_true h
      by_cases e2 : y = z
      · subst e2
        rw [if_neg e1]; exact decide_eq_true h
      · rw [if_neg e2] at k
        have k := of_decide_eq_true k
        rw [if_neg (by omega)]
        exact decide_eq_true (by omega)
theorem lex_total : ∀ {a b : List Int}, a.length = b.length → lexLt a b = false → lexLt b a = false → a = b
  | [], [], _, _, _ => rfl
  | [], _ :: _, h, _, _ => by simp at h
  | _ :: _, [], h, _, _ => by simp at h
  | x :: a, y :: b, h, h1, h2 => by
    rw [lexLt] at h1 h2
    by_cases e : x = y
    · subst e
      rw [if_pos rfl] at h1 h2
      rw [lex_total (by simpa using h) h1 h2]
    · rw [if_neg e] at h1
      rw [if_neg (Ne.symm e)] at h2
      have h1 := of_decide_eq_false h1
      have h2 := of_decide_eq_false h2
      omega
theorem before_irrefl (a : List Int) : beforeB a a = false := by rw [beforeB, if_pos rfl]; exact lex_irrefl a
theorem before_trans {a b c : List Int} (h : beforeB a b = true) (k : beforeB b c = true) : beforeB a c = true := by
  unfold beforeB at *
  by_cases e1 : a.length = b.length
  · rw [if_pos e1] at h
    by_cases e2 : b.length = c.length
    · rw [if_pos e2] at k
      rw [if_pos (e1.trans e2)]
      exact lex_trans h k
    · rw [if_neg e2] at k
      have k := of_decide_eq_true k
      rw [if_neg (by omega)]
      exact decide_eq_true (by omega)
  · rw [if_neg e1] at h
    have h := of_decide_eq_true h
    by_cases e2 : b.length = c.length
    · rw [if_neg (by omega)]
      exact decide_eq_true (by omega)
    · rw [if_neg e2] at k
      have k := of_decide_eq_true k
      rw [if_neg (by omega)]
      exact decide_eq_true (by omega)
theorem before_total {a b : List Int} (h : beforeB a b = false) (k : beforeB b a = false) : a = b := by
  unfold beforeB at *
  by_cases e : a.length = b.length
  · rw [if_pos e] at h
    rw [if_pos e.symm] at k
    exact lex_total e h k
  · rw [if_neg e] at h
    rw [if_neg (Ne.symm e)] at k
    have h := of_decide_eq_false h
    have k := of_decide_eq_false k
    omega
theorem before_asymm {a b : List Int} (h : beforeB a b = true) : beforeB b a = false := by
  rw [← Bool.not_eq_true]
  intro k
  have := before_trans h k
  rw [before_irrefl] at this
  cases this
theorem before_ntrans {a b c : List Int} (h : beforeB a b = false) (k : beforeB b c = false) : beforeB a c = false := by
  rw [← Bool.not_eq_true]
  intro q
  by_cases e : beforeB b a = true
  · have := before_trans e q
    rw [k] at this; cases this
  · have e : beforeB b a = false := by simpa using e
    rw [before_total h e] at q
    rw [q] at k; cases k
theorem before_of {a b : List Int} (h : beforeB b a = false) (hne : a ≠ b) : beforeB a b = true := by
  rw [← Bool.not_eq_false]
  exact fun k => hne (before_total k h)
def SortedT (l : TermL) : Prop := l.Pairwise fun x y => beforeB x.1 y.1 = true
theorem sorted_unique : ∀ {l m : TermL}, SortedT l → SortedT m → (∀ x, x ∈ l ↔ x ∈ m) → l = m
  | [], [], _, _, _ => rfl
  | [], y :: m, _, _, h => absurd ((h y).2 List.mem_cons_self) (by simp)
  | x :: l, [], _, _, h => absurd ((h x).1 List.mem_cons_self) (by simp)
  | x :: l, y :: m, hl, hm, h => by
    obtain ⟨l1, l2⟩ := List.pairwise_cons.1 hl
    obtain ⟨m1, m2⟩ := List.pairwise_cons.1 hm
    have e : x = y := by
      rcases List.mem_cons.1 ((h x).1 List.mem_cons_self) with e | hx
      · exact e
      · rcases List.mem_cons.1 ((h y).2 List.mem_cons_self) with e | hy
        · exact e.symm
        · have := before_trans (l1 y hy) (m1 x hx)
          rw [before_irrefl] at this; cases this
    subst e
    have nx : ∀ z ∈ l, z ≠ x := fun z hz e => by
      have := l1 z hz
      rw [e, before_irrefl] at this; cases this
    have ny : ∀ z ∈ m, z ≠ x := fun z hz e => by
      have := m1 z hz
      rw [e, before_irrefl] at this; cases this
    rw [sorted_unique l2 m2 fun z => ⟨fun hz => ((List.mem_cons.1 ((h z).1 (List.mem_cons_of_mem _ hz))).resolve_left (nx z hz)), fun hz => ((List.mem_cons.1 ((h z).2 (List.mem_cons_of_mem _ hz))).resolve_left (ny z hz))⟩]
def sortT (l : TermL) : TermL := l.mergeSort fun x y => !beforeB y.1 x.1
theorem sortT_perm (l : TermL) : (sortT l).Perm l := List.mergeSort_perm ..
theorem sortT_mem {l : TermL} {x : List Int × Int} : x ∈ sortT l ↔ x ∈ l := (sortT_perm l).mem_iff
theorem sortT_length (l : TermL) : (sortT l).length = l.length := (sortT_perm l).length_eq
theorem strict_of {l : TermL} (h : l.Pairwise fun x y => beforeB y.1 x.1 = false) (hn : (l.map (·.1)).Nodup) : SortedT l := by
  induction l with
  | nil => exact List.Pairwise.nil
  | cons x l ih =>
    obtain ⟨h1, h2⟩ := List.pairwise_cons.1 h
    simp only [List.map_cons, List.nodup_cons] at hn
    exact List.pairwise_cons.2 ⟨fun y hy => before_of (h1 y hy) (fun e => hn.1 (e ▸ List.mem_map.2 ⟨y, hy, rfl⟩)), ih h2 hn.2⟩
theorem sortT_sorted {l : TermL} (hn : (l.map (·.1)).Nodup) : SortedT (sortT l) := by
  refine strict_of ?_ (((sortT_perm l).map _).nodup_iff.2 hn)
  have := List.pairwise_mergeSort (le := fun x y : List Int × Int => !beforeB y.1 x.1) (fun a b c h k => by
    simp only [Bool.not_eq_true'] at h k ⊢
    exact before_ntrans k h) (fun a b => by
    cases h : beforeB b.1 a.1 with
    | false => rfl
    | true => rw [before_asymm h]; rfl) l
  exact this.imp (fun h => by simpa using h)
theorem sortT_eq {l m : TermL} (hm : SortedT m) (hn : (l.map (·.1)).Nodup) (h : ∀ x, x ∈ l ↔ x ∈ m) : sortT l = m :=
  sorted_unique (sortT_sorted hn) hm fun x => sortT_mem.trans (h x)
end Go.Proofs.YthfmlelodmcgkaaGreat.V
namespace Go.Proofs.YthfmlelodmcgkaaGreat.V
open Go Go.RowKit Go.Proofs.YthfmlelodmcgkaaGreatW.PrintWords Go.Proofs.YthfmlelodmcgkaaGreatW.PrintLast Go.Proofs.YthfmlelodmcgkaaGreatW.PrintMore
def sp_sortT : List Cv → List Obj' → Tree
  | [.one (.own 0), .one (.v u)], [.drow t (.pr (.sl 2 (.int .i64)) (.int .i64)) ts] => .need (u = .func (.func 157) #[] #[] ∧ ts.length ≤ 1000000 ∧ (∀ x ∈ (ts : TermL), x.1.length ≤ 1099511627776) ∧ ((ts : TermL).map (·.1)).Nodup) (.ret (.tup []) [.drow t (.pr (.sl 2 (.int .i64)) (.int .i64)) (sortT ts)])
  | _, _ => .fail
section
variable {α : Type}
theorem flat_get {β : Type} (enc : α → List β) (k : Nat) (k0 : 0 < k) (hk : ∀ x, (enc x).length = k) : ∀ (l : List α) (t : Nat), (l.flatMap enc)[t]? = (l[t / k]?).bind fun x => (enc x)[t % k]?
  | [], t => by simp
  | x :: l, t => by
    rw [List.flatMap_cons]
    by_cases h : t < k
    · rw [List.getElem?_append_left (by rw [hk]; exact h), Nat.div_eq_of_lt h, Nat.mod_eq_of_lt h]
      rfl
    · rw [List.getElem?_append_right (by rw [hk]; omega), hk, flat_get enc k k0 hk l (t - k)]
      have e1 : t / k = (t - k) / k + 1 := by
        rw [← Nat.add_div_right _ k0]; congr 1; omega
      have e2 : t % k = (t - k) % k := by
        rw [← Nat.add_mod_right (t - k) k]; congr 1; omega
      rw [e1, e2, List.getElem?_cons_succ]
theorem flatK_list [Inhabited α] (enc : α → List Value) (k : Nat) (k0 : 0 < k) (hk : ∀ x, (enc x).length = k) (d : Array α) : (Go.Sort.flatK enc k d).toList = d.toList.flatMap enc := by
  apply List.ext_getElem?
  intro t
  rw [flat_get enc k k0 hk]
  by_cases h : t < d.size * k
  · have hd : t / k < d.size := (Nat.div_lt_iff_lt_mul k0).2 h
    have hm : t % k < (enc d[t / k]!).length := by rw [hk]; exact Nat.mod_lt _ k0
    have e := Go.Sort.get_flatK enc k d t h
    have hs : t < (Go.Sort.flatK enc k d).size := by simpa using h
    rw [getElem!_pos _ t hs] at e
    rw [Array.getElem?_toList, Array.getElem?_eq_getElem hs, e, Array.getElem?_toList, Array.getElem?_eq_getElem hd, Option.bind_some]
    rw [getElem!_pos d _ hd] at hm ⊢
    rw [getElem!_pos (enc d[t / k]) (t % k) hm, List.getElem?_eq_getElem hm]
  · have hd : ¬ t / k < d.size := fun h' => h ((Nat.div_lt_iff_lt_mul k0).1 h')
    rw [Array.getElem?_toList, Array.getElem?_eq_none (by simpa using h), Array.getElem?_toList, Array.getElem?_eq_none (by omega)]
    rfl
end
theorem putCells_take (F c : Array Value) (h : F.size ≤ c.size) : (Go.Sort.putCells id 0 F c).toList.take F.size = F.toList := by
  apply List.ext_getElem?
  intro t
  rw [List.getElem?_take]
  by_cases ht : t < F.size
  · rw [if_pos ht]
    have hc : t < c.size := by omega
    simp [Go.Sort.putCells, ht, hc]
  · rw [if_neg ht]
    simp [ht]
section
variable {α : Type} [Inhabited α] {enc : α → List Value} {k g m : Nat} {w : World} {d : Array α} {os : Array Obj}
theorem sw_at {cur : Array Value} {t : TypeId} {fr : Nat × Nat} (h : w.heap[g]? = some (.cells cur t fr)) : (Go.Proofs.sortWorldK enc k w g 0 m d os).heap[g]? = some (.cells (Go.Sort.putCells id 0 (Go.Sort.flatK enc k d) cur) t fr) := by
  have hg : g < w.heap.size := (Array.getElem?_eq_some_iff.1 h).1
  show ((w.heap.modify g (Go.Sort.onCells _)) ++ os)[g]? = _
  rw [Array.getElem?_append_left (by simpa using hg), Array.getElem?_modify, if_pos rfl, h]
  rfl
theorem sw_other {b : Nat} (hb : b < w.heap.size) (hne : b ≠ g) : (Go.Proofs.sortWorldK enc k w g 0 m d os).heap[b]? = w.heap[b]? := by
  show ((w.heap.modify g (Go.Sort.onCells _)) ++ os)[b]? = _
  rw [Array.getElem?_append_left (by simpa using hb), Array.getElem?_modify, if_neg (Ne.symm hne)]
theorem sw_grown : w.grownBy (Go.Proofs.sortWorldK enc k w g 0 m d os) (some g) :=
  ⟨rfl, rfl, rfl, by show w.heap.size ≤ ((w.heap.modify g (Go.Sort.onCells _)) ++ os).size; simp, fun b hb hne => sw_other hb (fun e => hne (by rw [e]))⟩
end
def SrtQ (w : World) (g : Nat) (p : (List Int × Int) × List Value) : Prop :=
  p.2.length = 2 ∧ (∀ v ∈ p.2, v.oneCell' = true) ∧ ∃ A c v, p.2 = [.slice A p.1.1.length c, v] ∧ p.1.1.length ≤ c ∧ p.1.1.length ≤ 1099511627776 ∧ ∀ W : World, (∀ b, b < w.heap.size → b ≠ g → W.heap[b]? = w.heap[b]?) → Kd.C (Kd.int .i64) W A p.1.1.length p.1.1
theorem srtQ_of {w : World} {g : Nat} {ψ : Nat → Prop} {x : List Int × Int} {c : List Value} (h : DRep w kTerm ψ x c) (hg : ¬ ψ g) (hl : x.1.length ≤ 1099511627776) : SrtQ w g (x, c) := by
  obtain ⟨c1, c2, φ1, φ2, rfl, ⟨u, xs, φ', rfl, h1, h2, h3, h4, h5⟩, ⟨rfl, k1, k2⟩, h6, h7⟩ := h
  obtain ⟨ad, c, rfl, h8, h9⟩ := own_cells h1
  have hr : xs = (x.1 : List Int).map (Value.int .i64) := Reps.ints (h2.reps (F := fun _ => True) (w := w) fun ψ y c _ h => ⟨h.1, h.2.1⟩)
  refine ⟨rfl, fun v hv => ?_, ad, c, .int .i64 x.2, rfl, h8, hl, fun W hW => ⟨rfl, ?_, fun hn => ?_⟩⟩
  · simp at hv
    rcases hv with rfl | rfl <;> rfl
  · show x.1.length ≤ _
    omega
  · have hx : xs ≠ [] := fun e => by
      rw [hr] at e
      have := congrArg List.length e
      simp at this
      have hn : 0 < x.1.length := hn
      rw [this] at hn
      simp at hn
    obtain ⟨b, rfl, hb, hc⟩ := h9 hx
    have hψ : ψ b := (h6 b).2 (.inl ((h4 b).2 (.inl hb)))
    refine ⟨⟨b, 0, none⟩, rfl, fun j y hj => ⟨[.int .i64 y], rfl, rfl, fun i v hv => ?_⟩⟩
    rcases i with _ | i
    · simp at hv
      subst hv
      have hjl : j < xs.length := by
        rw [hr, List.length_map]
        exact (List.getElem?_eq_some_iff.1 hj).1
      have e := hc j hjl
      have hblt := World.block_lt_of_cell? w _ e
      have e2 : xs[j] = .int .i64 y := by
        have : xs[j]? = some (.int .i64 y) := by rw [hr, List.getElem?_map, hj]; rfl
        rw [List.getElem?_eq_getElem hjl] at this
        injection this
      rw [e2] at e
      rw [show (Kd.int .i64).sz = 1 from rfl, Addr.add_lit, Nat.zero_add, Nat.mul_one, Nat.add_zero]
      exact (World.cell?_of_block (hW b hblt (fun e => hg (e ▸ hψ)))).trans e
    · simp at hv
def srtC (x y : List Int × Int) : Int := orL [cmpI x.1.length y.1.length, cmpL x.1 y.1]
theorem srtC_lt (x y : List Int × Int) : Go.Proofs.ltOf srtC x y = beforeB x.1 y.1 := by
  have h := order_before x.1 y.1
  unfold Go.Proofs.ltOf srtC
  cases hb : beforeB x.1 y.1 with
  | true =>
    rw [hb] at h
    have h := of_decide_eq_false h
    exact decide_eq_true (by omega)
  | false =>
    rw [hb] at h
    have h := of_decide_eq_true h
    exact decide_eq_false (by omega)
end Go.Proofs.YthfmlelodmcgkaaGreat.V
namespace Go.Proofs.YthfmlelodmcgkaaGreat.V
open Go Go.RowKit Go.Proofs.YthfmlelodmcgkaaGreatW.PrintWords Go.Proofs.YthfmlelodmcgkaaGreatW.PrintLast Go.Proofs.YthfmlelodmcgkaaGreatW.PrintMore
theorem sort_run {w : World} {g cap : Nat} {t : TypeId} {cur : Array Value} {ps : List ((List Int × Int) × List Value)} (hg : w.heap[g]? = some (.cells cur t (0, 0))) (hne : ps ≠ []) (hQ : ∀ p ∈ ps, SrtQ w g p) (hlen : ps.length ≤ 1000000) (hcur : ps.length * 2 ≤ cur.size) (htake : cur.toList.take (ps.length * 2) = ps.flatMap (·.2)) :
    Calls Tryz.prog 156 #[.slice (some ⟨g, 0, none⟩) ps.length cap, .func (.func 157) #[] #[]] w fun e w' => e = .returned (.tuple #[]) ∧
      ∃ (qs : List ((List Int × Int) × List Value)) (cur' : Array Value), qs.Perm ps ∧ (qs.map (·.1)).Pairwise (fun x y => beforeB y.1 x.1 = false) ∧ w.grownBy w' (some g) ∧ w'.heap[g]? = some (.cells cur' t (0, 0)) ∧ cur'.size = cur.size ∧ cur'.toList.take (ps.length * 2) = qs.flatMap (·.2) := by
  obtain ⟨p0, hp0⟩ := List.exists_mem_of_ne_nil ps hne
  let α := {p // SrtQ w g p}
  haveI : Inhabited α := ⟨⟨p0, hQ p0 hp0⟩⟩
  let enc : α → List Value := fun x => x.1.2
  let d : Array α := (ps.attachWith _ hQ).toArray
  let cf : α → α → Int := fun x y => srtC x.1.1 y.1.1
  have hv : (ps.attachWith _ hQ).map Subtype.val = ps := List.attachWith_map_subtype_val ..
  have hd : d.size = ps.length := by
    show (ps.attachWith _ hQ).length = _
    rw [← congrArg List.length hv, List.length_map]
  have hk : ∀ x, (enc x).length = 2 := fun x => x.2.1
  have hlt : ∀ x y, Go.Proofs.ltOf cf x y = beforeB x.1.1.1 y.1.1.1 := fun x y => srtC_lt x.1.1 y.1.1
  have hO : Go.Sort.SWO (Go.Proofs.ltOf cf) := ⟨fun x => by rw [hlt]; exact before_irrefl _, fun x y z h k => by rw [hlt] at *; exact before_trans h k, fun x y z h k => by rw [hlt] at *; exact before_ntrans h k⟩
  have hcmp : Go.Proofs.CmpLays Tryz.prog 157 #[] enc 2 cf g 0 d.size w := fun m os dk hs x y => by
    obtain ⟨_, _, A, c, v, ex, hc, hl, hC⟩ := x.2
    obtain ⟨_, _, A', c', v', ey, hc', hl', hC'⟩ := y.2
    have := sumCmp_grw A c x.1.1.1 v A' c' y.1.1.1 v' (Go.Proofs.sortWorldK enc 2 w g 0 m dk os) hl (hC _ (fun b hb hne => sw_other hb hne)) hc (hC' _ (fun b hb hne => sw_other hb hne)) hc'
    have ex' : enc x = [.slice A x.1.1.1.length c, v] := ex
    have ey' : enc y = [.slice A' y.1.1.1.length c', v'] := ey
    rw [ex', ey', Array.append_empty]
    exact this
  have hfl : (Go.Sort.flatK enc 2 d).toList = ps.flatMap (·.2) := by
    rw [flatK_list enc 2 (by decide) hk]
    show ((ps.attachWith _ hQ).toArray.toList).flatMap enc = _
    have e : ps.flatMap (·.2) = ((ps.attachWith _ hQ).map Subtype.val).flatMap (·.2) := by rw [hv]
    rw [e, List.flatMap_map]
  have hfs : (Go.Sort.flatK enc 2 d).size = ps.length * 2 := by rw [Go.Sort.size_flatK, hd]
  have hH : Go.Sort.HoldsK enc 2 w g 0 d := fun j hj => by
    rw [hfs] at hj
    have e1 : cur[j]? = some ((Go.Sort.flatK enc 2 d)[j]!) := by
      have : (cur.toList.take (ps.length * 2))[j]? = some ((Go.Sort.flatK enc 2 d)[j]!) := by
        rw [htake, ← hfl, Array.getElem?_toList, getElem!_pos _ j (by rw [hfs]; exact hj), Array.getElem?_eq_getElem (by rw [hfs]; exact hj)]
      rw [List.getElem?_take, if_pos hj] at this
      simpa using this
    constructor
    · rw [World.cell?, hg, Nat.zero_add]
      simpa using e1
    · rw [World.frozen?, hg]
      simp
  have hcon := Go.Proofs.AnyQ.slices_SortFunc sortF 2 (fun w => y87_ok.isAgg w) (fun w => y87_ok.sizeOf w) enc hk (fun x => x.2.2.1) cf hO 157 #[] g 0 cap d w (ent Tryz.func157 rfl rfl) hcmp hH (Array.getElem?_eq_some_iff.1 hg).1 (by rw [hd]; omega)
  change Calls Tryz.prog 156 _ _ _ at hcon
  rw [hd] at hcon
  refine hcon.mono ?_
  rintro e w' ⟨rfl, d', n, os, ⟨hp1, _, hp3⟩, hsort, rfl⟩
  have hd' : d'.size = ps.length := hp1.trans hd
  have hperm : d'.toList.Perm d.toList := by
    have e1 : d'.extract 0 ps.length = d' := by rw [← hd']; simp
    have e2 : d.extract 0 ps.length = d := by rw [← hd]; simp
    rw [e1, e2] at hp3
    exact hp3
  have hfl' : (Go.Sort.flatK enc 2 d').toList = (d'.toList.map (·.1)).flatMap (·.2) := by
    rw [flatK_list enc 2 (by decide) hk, List.flatMap_map]
  have hfs' : (Go.Sort.flatK enc 2 d').size = ps.length * 2 := by rw [Go.Sort.size_flatK, hd']
  refine ⟨rfl, d'.toList.map (·.1), _, ?_, ?_, sw_grown, sw_at hg, by simp [Go.Sort.putCells], ?_⟩
  · have := hperm.map (fun x : α => x.1)
    rw [show d.toList.map (fun x : α => x.1) = ps from hv] at this
    exact this
  · rw [List.map_map, List.pairwise_map, List.pairwise_iff_getElem]
    intro i j hi hj hij
    have hj' : j < d'.size := by simpa using hj
    have hi' : i < d'.size := by omega
    have := hsort i j (Nat.zero_le _) hij (by omega)
    rw [hlt, getElem!_pos d' j hj', getElem!_pos d' i hi'] at this
    simpa using this
  · have := putCells_take (Go.Sort.flatK enc 2 d') cur (by rw [hfs']; exact hcur)
    rw [hfs', hfl'] at this
    exact this
theorem good_sortT : Good Tryz.prog 156 sp_sortT := by
  intro E0 cs os0 vs Kc hF hD h16 hO hdis hnof ha hK
  have hI := Inv.enter hF hD h16 hO hdis hnof
  unfold sp_sortT at hK
  split at hK
  case h_2 => exact hK.elim
  rename_i u t ts
  obtain ⟨u1, u2, rfl, hu1, hu2⟩ := two_args ha
  obtain ⟨⟨hD0, rfl⟩, hone⟩ := hu1
  obtain ⟨⟨rfl, _⟩, _⟩ := hu2
  obtain ⟨⟨rfl, hlen, hwl, hnd⟩, hK⟩ := hK
  obtain ⟨⟨xs, φ', k1, k2, k3, k4, k5⟩, _⟩ := hO 0 (by simp)
  by_cases h0 : ts = []
  · subst h0
    obtain ⟨ad, c, e, _⟩ := own_cells k1
    have hc := Go.Proofs.AnyF.slices_SortFunc_none sortF ad c (.func (.func 157) #[] #[]) E0.w
    change Calls Tryz.prog 156 _ _ _ at hc
    have e' : E0.σ 0 = .slice ad 0 c := e
    rw [e']
    refine hc.mono ?_
    rintro e w' ⟨rfl, rfl⟩
    exact ⟨.tup [], .tuple #[], _, E0, rfl, hK, by simp, rfl, by
      have : sortT [] = [] := by simp [sortT]
      rw [this]
      exact hI, ⟨[], rfl, trivial⟩⟩
  · obtain ⟨hl, h2⟩ := id k1
    rcases h2 with ⟨e, n0⟩ | ⟨g, cap, cur, e, _, hg, hcap, hcm, hcs, htake⟩
    · exact absurd (List.eq_nil_of_length_eq_zero n0) h0
    · obtain ⟨ps, e1, e2, hps⟩ := DR.pairs k2
      have hpl : ts.length = ps.length := by rw [e1, List.length_map]
      have hbg : blkOf (E0.σ 0) = some g := by rw [e]; rfl
      have hQ : ∀ p ∈ ps, SrtQ E0.w g p := fun p hp => by
        obtain ⟨ψ, q1, q2⟩ := hps.mem hp
        exact srtQ_of q1 (fun h => k5 g hbg (q2 g h)) (hwl p.1 (by rw [e1]; exact List.mem_map.2 ⟨p, hp, rfl⟩))
      have hne : ps ≠ [] := fun h => h0 (by rw [e1, h]; rfl)
      have hrun := sort_run (cap := cap) hg hne hQ (by rw [← hpl]; exact hlen) (by rw [hcs, ← hpl]; exact Nat.mul_le_mul_right 2 hcap) (by rw [← hpl, ← e2]; exact htake)
      rw [e, hpl]
      refine hrun.mono ?_
      rintro e' w' ⟨rfl, qs, cur', hp1, hp2, hp3, hp4, hp5, hp6⟩
      have hqs : qs.map (·.1) = sortT ts := by
        have hperm : (qs.map (·.1)).Perm ts := by rw [e1]; exact hp1.map _
        exact (sortT_eq (l := ts) (strict_of hp2 ((hperm.map _).nodup_iff.2 hnd)) hnd (fun x => hperm.symm.mem_iff)).symm
      have hql : qs.length = ts.length := by rw [hp1.length_eq, hpl]
      obtain ⟨E', m1, m2, m3⟩ := hI.upd (i := 0) (b := g) (o := .drow t kTerm ts) rfl rfl ((k4 g).2 (.inl hbg)) hp3 (.drow t kTerm (sortT ts)) (fun E' hle hw => by
        refine ⟨qs.flatMap (·.2), φ', ?_, ?_, by rw [sortT_length]; exact k3, k4, k5⟩
        · rw [sortT_length, e, hw]
          refine ⟨?_, .inr ⟨g, cap, cur', rfl, Nat.zero_le _, hp4, hcap, hcm, by rw [hp5]; exact hcs, by rw [hpl]; exact hp6⟩⟩
          have hm : ts.length * 2 ≤ cap * 2 := Nat.mul_le_mul_right 2 hcap
          have hc2 : cur.size = cap * 2 := hcs
          have e4 : cur'.toList.length = cur'.size := rfl
          show (qs.flatMap (·.2)).length = ts.length * 2
          rw [← hp6, List.length_take, e4]
          omega
        · rw [← hqs]
          refine (DRp.dr (DRp.perm hp1.symm hps)).imp (fun ψ x c hψ h => DRep.move (fun b hb => ?_) h)
          rw [hw]
          exact hp3.block b (DRep.lt h b hb) (fun h => by
            injection h with h
            exact k5 g hbg (h ▸ hψ b hb)))
      exact ⟨.tup [], .tuple #[], [.drow t kTerm (sortT ts)], E', rfl, hK, by simp, m1, m3.congr (fun j => by
        simp only [numb]
        by_cases e0 : 0 = j
        · subst e0; rfl
        · simp only [lk_ne _ _ e0]), ⟨[], rfl, trivial⟩⟩
def c_sortT : Ctr Tryz.prog := ⟨156, ent Tryz.func156 rfl rfl, [true], sp_sortT, good_sortT, []⟩
@[go_sem] theorem c_sortT_f : c_sortT.f = 156 := rfl
@[go_sem] theorem c_sortT_ms : c_sortT.ms = [true] := rfl
@[go_sem] theorem c_sortT_sp : c_sortT.spec = sp_sortT := rfl
@[go_sem] theorem c_sortT_fz : c_sortT.fz = [] := rfl
attribute [go_sem] sp_sortT
end Go.Proofs.YthfmlelodmcgkaaGreat.V
end
