/- Contracts: the law of chords. Conditions: told by each spec. -/
import Derived.Test.YtbnmjhcokdhjmaaVU5
import Derived.Test.YtbnmjhcokdhjmaaVU1
set_option linter.unusedVariables false
set_option linter.unusedSimpArgs false
namespace Go.Proofs.Ytbnmjhcokdhjmaa.V
open Go
set_option maxHeartbeats 4000000 in
set_option maxRecDepth 100000 in
theorem good_likeI : Good Try.prog 12 sp_eq := by
  refine good_ofF Try.func12 rfl _ rfl _ rfl (tab []) (fun X cs os0 K hok hos hK => ?_)
  clear hos; unfold sp_eq at hK
  split at hK
  case h_2 => exact hK.elim
  rename_i l m
  refine ⟨by simp, by simp, ?_⟩
  simp only [go_sem] at hK hok
  simp (maxSteps := 4000000) only [go_sem, Try.f12, ↓brB_t, ↓brB_f, Nat.reduceAdd, Int.reduceLE, Int.reduceLT, Int.reduceNeg, decide_true, decide_false, Bool.and_self, Nat.succ_eq_add_one, Int.toNat_natCast, Nat.beq_refl, Bool.and_true, Bool.true_and, Bool.false_or, Bool.or_true, List.all_cons, List.all_nil, Nat.reduceMul, Nat.add_zero, Nat.zero_add, List.length_nil, List.length_cons, dite_true, List.nil_append, Nat.reduceBEq, reduceDIte, reduceIte, reduceCtorEq, Bool.or_false, Bool.true_or, Bool.and_false, Bool.false_and, Bool.not_true, Bool.not_false, Option.isSome_some, Option.isSome_none, Option.getD_some, List.getElem?_cons_zero, List.getElem?_cons_succ, eq_self, and_self, List.take_succ_cons, List.take_zero, List.drop_succ_cons, List.drop_zero]
  have hl := len_i hok.1.1
  refine brB_intro (fun h => ret0 (by rw [eq_len h] at hK; exact hK)) (fun h => ?_)
  simp at h
  refine loop_okF (T := tab []) [0, 1, 5] [] (fun i : Nat => ⟨26, [(0, ri l), (1, ri m), (5, vi i)], []⟩)
    (fun i => i ≤ l.length ∧ l.take i = m.take i) (fun i => l.length - i) 0 rfl rfl ⟨Nat.zero_le _, rfl⟩ (fun i hi => ?_)
  obtain ⟨hi, ht⟩ := hi
  simp only [go_sem, ↓brB_t, ↓brB_f, Nat.reduceAdd, Int.reduceLE, Int.reduceLT, Int.reduceNeg, decide_true, decide_false, Bool.and_self, Nat.succ_eq_add_one, Int.toNat_natCast, Nat.beq_refl, Bool.and_true, Bool.true_and, Bool.false_or, Bool.or_true, List.all_cons, List.all_nil, Nat.reduceMul, Nat.add_zero, Nat.zero_add, List.length_nil, List.length_cons, dite_true, List.nil_append, Nat.reduceBEq, reduceDIte, reduceIte, reduceCtorEq, Bool.or_false, Bool.true_or, Bool.and_false, Bool.false_and, Bool.not_true, Bool.not_false, Option.isSome_some, Option.isSome_none, Option.getD_some, List.getElem?_cons_zero, List.getElem?_cons_succ, eq_self, and_self, List.take_succ_cons, List.take_zero, List.drop_succ_cons, List.drop_zero]
  refine brB_intro (fun h1 => ⟨by simp at h1; omega, by simp at h1; omega, by kernel_rfl, brB_intro (fun h2 => ret0 (by rw [eq_get h2] at hK; exact hK)) (fun h2 => ?_)⟩) (fun h1 => ret0 (by rw [eq_all h1 ht h] at hK; exact hK))
  simp at h1 h2
  refine ⟨i + 1, [], ⟨by omega, take_s ht (by omega) (by omega) (by simpa using h2)⟩, by omega, rfl, ?_⟩
  rw [w64_s h1 hl]; rfl
def c_likeI : Ctr Try.prog := ⟨12, ent Try.func12 rfl rfl, [], sp_eq, good_likeI, []⟩
@[go_sem] theorem c_likeI_f : c_likeI.f = 12 := rfl
@[go_sem] theorem c_likeI_ms : c_likeI.ms = [] := rfl
@[go_sem] theorem c_likeI_sp : c_likeI.spec = sp_eq := rfl
@[go_sem] theorem c_likeI_fz : c_likeI.fz = [] := rfl
attribute [go_sem] sp_eq
def sp_rows5 : List Cv → List Obj' → Tree
  | [.one (.ro (.sl 2 (.int .i64)) ts), .one (.ro (.sl 2 (.int .i64)) us)], [] => .ret (vb (decide ((ts : RowL) = us))) []
  | _, _ => .fail
theorem takeR5 {l m : RowL} {i : Nat} (h : i < l.length) (hm : i < m.length) (e : l.take i = m.take i) (e1 : l.getD i [] = m.getD i []) : l.take (i + 1) = m.take (i + 1) := by
  rw [List.take_succ_eq_append_getElem h, List.take_succ_eq_append_getElem hm, e]
  rw [List.getD_eq_getElem?_getD, List.getD_eq_getElem?_getD, List.getElem?_eq_getElem h, List.getElem?_eq_getElem hm] at e1
  congr 2
set_option maxHeartbeats 4000000 in
set_option maxRecDepth 100000 in
theorem good_rows5 : Good Try.prog 24 sp_rows5 := by
  refine good_ofF Try.func24 rfl _ rfl _ rfl (tab [c_likeI]) (fun X cs os0 K hok hos hK => ?_)
  clear hos; unfold sp_rows5 at hK
  split at hK
  case h_2 => exact hK.elim
  rename_i ts us
  refine ⟨by simp, by simp, ?_⟩
  simp only [go_sem] at hK hok
  simp (maxSteps := 4000000) only [go_sem, Try.f24, ↓brB_t, ↓brB_f, Nat.reduceAdd, Int.reduceLE, Int.reduceLT, Int.reduceNeg, decide_true, decide_false, Bool.and_self, Nat.succ_eq_add_one, Int.toNat_natCast, Nat.beq_refl, Bool.and_true, Bool.true_and, Bool.false_or, Bool.or_true, List.all_cons, List.all_nil, Nat.reduceMul, Nat.add_zero, Nat.zero_add, List.length_nil, List.length_cons, dite_true, List.nil_append, Nat.reduceBEq, reduceDIte, reduceIte, reduceCtorEq, Bool.or_false, Bool.true_or, Bool.and_false, Bool.false_and, Bool.not_true, Bool.not_false, Option.isSome_some, Option.isSome_none, Option.getD_some, List.getElem?_cons_zero, List.getElem?_cons_succ, eq_self, and_self, List.take_succ_cons, List.take_zero, List.drop_succ_cons, List.drop_zero]
  have hl1 := len_i hok.1.1
  clear hok
  refine brB_intro (fun h => ret0 ?_) (fun h => ?_)
  · have e : ¬ ts = us := fun e => by rw [e] at h; simp at h
    rw [decide_eq_false e] at hK; exact hK
  · have hl : ts.length = us.length := by have := of_decide_eq_true (nb' h); omega
    refine loop_okF (T := tab [c_likeI]) [0, 1, 5] [] (fun i : Nat => ⟨27, [(0, .val (.one (.ro kR ts))), (1, .val (.one (.ro kR us))), (5, vi i)], []⟩)
      (fun i => i ≤ ts.length ∧ ts.take i = us.take i) (fun i => ts.length - i) 0 rfl rfl ⟨Nat.zero_le _, rfl⟩ (fun i hi => ?_)
    obtain ⟨hi, he⟩ := hi
    simp only [go_sem, ↓brB_t, ↓brB_f, Nat.reduceAdd, Int.reduceLE, Int.reduceLT, Int.reduceNeg, decide_true, decide_false, Bool.and_self, Nat.succ_eq_add_one, Int.toNat_natCast, Nat.beq_refl, Bool.and_true, Bool.true_and, Bool.false_or, Bool.or_true, List.all_cons, List.all_nil, Nat.reduceMul, Nat.add_zero, Nat.zero_add, List.length_nil, List.length_cons, dite_true, List.nil_append, Nat.reduceBEq, reduceDIte, reduceIte, reduceCtorEq, Bool.or_false, Bool.true_or, Bool.and_false, Bool.false_and, Bool.not_true, Bool.not_false, Option.isSome_some, Option.isSome_none, Option.getD_some, List.getElem?_cons_zero, List.getElem?_cons_succ, eq_self, and_self, List.take_succ_cons, List.take_zero, List.drop_succ_cons, List.drop_zero]
    refine brB_intro (fun h1 => ?_) (fun h1 => ret0 ?_)
    · have h1 := of_decide_eq_true h1
      have hs : w64 ((i : Int) + 1) = ((i + 1 : Nat) : Int) := w64_s (n := ts.length) (by omega) hl1
      refine ⟨⟨by omega, by omega⟩, ⟨by omega, by omega⟩, by kernel_rfl, brB_intro (fun h2 => ret0 ?_) (fun h2 => ⟨i + 1, [], ⟨by omega, takeR5 (by omega) (by omega) he ?_⟩, by omega, rfl, by rw [hs]; rfl⟩)⟩
      · have e : ¬ ts = us := fun e => by
          have h2 := nb h2
          rw [e] at h2
          simp at h2
        rw [decide_eq_false e] at hK; exact hK
      · exact of_decide_eq_true (nb' h2)
    · have h1 := of_decide_eq_false h1
      have e : i = ts.length := by omega
      rw [e, List.take_length, hl, List.take_length] at he
      rw [decide_eq_true he] at hK; exact hK
def c_rows5 : Ctr Try.prog := ⟨24, ent Try.func24 rfl rfl, [], sp_rows5, good_rows5, []⟩
@[go_sem] theorem c_rows5_f : c_rows5.f = 24 := rfl
@[go_sem] theorem c_rows5_ms : c_rows5.ms = [] := rfl
@[go_sem] theorem c_rows5_sp : c_rows5.spec = sp_rows5 := rfl
@[go_sem] theorem c_rows5_fz : c_rows5.fz = [] := rfl
attribute [go_sem] sp_rows5
def sp_sum : List Cv → List Obj' → Tree
  | [.one (.ro (.int .i64) l)], [] => .need ((l : List Int).length ≤ 1000 ∧ ∀ x ∈ (l : List Int), 0 ≤ x ∧ x ≤ 1) (.ret (vi (l : List Int).sum) [])
  | _, _ => .fail
theorem sum_le : ∀ l : List Int, (∀ x ∈ l, 0 ≤ x ∧ x ≤ 1) → 0 ≤ l.sum ∧ l.sum ≤ l.length
  | [], _ => by simp
  | x :: l, h => by
    have h1 := sum_le l fun y hy => h y (List.mem_cons_of_mem _ hy)
    have h2 := h x List.mem_cons_self
    rw [List.sum_cons, List.length_cons]
    omega
theorem w64_01 {a b : Int} (h0 : 0 ≤ a) (h1 : a ≤ 1000) (h2 : 0 ≤ b) (h3 : b ≤ 1) : w64 (a + b) = a + b := w64_id (by omega) (by omega)
set_option maxHeartbeats 4000000 in
set_option maxRecDepth 100000 in
theorem good_sum : Good Try.prog 25 sp_sum := by
  refine good_ofF Try.func25 rfl _ rfl _ rfl (tab []) (fun X cs os0 K hok hos hK => ?_)
  clear hos; unfold sp_sum at hK
  split at hK
  case h_2 => exact hK.elim
  rename_i l
  refine ⟨by simp, by simp, ?_⟩
  simp only [go_sem] at hK hok
  simp (maxSteps := 4000000) only [go_sem, Try.f25, ↓brB_t, ↓brB_f, Nat.reduceAdd, Int.reduceLE, Int.reduceLT, Int.reduceNeg, decide_true, decide_false, Bool.and_self, Nat.succ_eq_add_one, Int.toNat_natCast, Nat.beq_refl, Bool.and_true, Bool.true_and, Bool.false_or, Bool.or_true, List.all_cons, List.all_nil, Nat.reduceMul, Nat.add_zero, Nat.zero_add, List.length_nil, List.length_cons, dite_true, List.nil_append, Nat.reduceBEq, reduceDIte, reduceIte, reduceCtorEq, Bool.or_false, Bool.true_or, Bool.and_false, Bool.false_and, Bool.not_true, Bool.not_false, Option.isSome_some, Option.isSome_none, Option.getD_some, List.getElem?_cons_zero, List.getElem?_cons_succ, eq_self, and_self, List.take_succ_cons, List.take_zero, List.drop_succ_cons, List.drop_zero]
  obtain ⟨⟨hl, h⟩, hK⟩ := hK
  clear hok
  refine loop_okF (T := tab []) [0, 3, 4] [] (fun i : Nat => ⟨18, [(0, ri l), (3, vi ((l : List Int).take i).sum), (4, vi i)], []⟩)
    (fun i => i ≤ l.length) (fun i => l.length - i) 0 rfl rfl (Nat.zero_le _) (fun i hi => ?_)
  simp only [go_sem, ↓brB_t, ↓brB_f, Nat.reduceAdd, Int.reduceLE, Int.reduceLT, Int.reduceNeg, decide_true, decide_false, Bool.and_self, Nat.succ_eq_add_one, Int.toNat_natCast, Nat.beq_refl, Bool.and_true, Bool.true_and, Bool.false_or, Bool.or_true, List.all_cons, List.all_nil, Nat.reduceMul, Nat.add_zero, Nat.zero_add, List.length_nil, List.length_cons, dite_true, List.nil_append, Nat.reduceBEq, reduceDIte, reduceIte, reduceCtorEq, Bool.or_false, Bool.true_or, Bool.and_false, Bool.false_and, Bool.not_true, Bool.not_false, Option.isSome_some, Option.isSome_none, Option.getD_some, List.getElem?_cons_zero, List.getElem?_cons_succ, eq_self, and_self, List.take_succ_cons, List.take_zero, List.drop_succ_cons, List.drop_zero]
  refine brB_intro (fun h1 => ?_) (fun h1 => ret0 ?_)
  · have h1 := of_decide_eq_true h1
    have h1' : i < l.length := by omega
    have hts := take_u1 (f := (l : List Int)) h1'
    have hb := sum_le ((l : List Int).take i) fun x hx => h x (List.mem_of_mem_take hx)
    have hx := h _ (getD_mem (l := (l : List Int)) h1')
    have hlt : ((l : List Int).take i).length ≤ 1000 := by rw [List.length_take]; omega
    have e : w64 (((l : List Int).take i).sum + (l : List Int).getD i 0) = ((l : List Int).take (i + 1)).sum := by
      rw [hts, sum_snoc]
      exact w64_01 hb.1 (Int.le_trans hb.2 (by omega)) hx.1 hx.2
    rw [e, show w64 ((i : Int) + 1) = ((i + 1 : Nat) : Int) from w64_s (n := l.length) (by omega) (by omega)]
    exact ⟨⟨by omega, by omega⟩, i + 1, [], by omega, by omega, rfl, rfl⟩
  · have h1 := of_decide_eq_false h1
    have e : i = l.length := by omega
    rw [e, List.take_length]; exact hK
def c_sum : Ctr Try.prog := ⟨25, ent Try.func25 rfl rfl, [], sp_sum, good_sum, []⟩
@[go_sem] theorem c_sum_f : c_sum.f = 25 := rfl
@[go_sem] theorem c_sum_ms : c_sum.ms = [] := rfl
@[go_sem] theorem c_sum_sp : c_sum.spec = sp_sum := rfl
@[go_sem] theorem c_sum_fz : c_sum.fz = [] := rfl
attribute [go_sem] sp_sum
def sp_big : List Cv → List Obj' → Tree
  | [.one (.ro (.int .u8) code)], [] => .ret (vb (decide (4096 < ((code : List Int).length : Int)))) []
  | _, _ => .fail
set_option maxHeartbeats 4000000 in
set_option maxRecDepth 100000 in
theorem good_big : Good Try.prog 8 sp_big := by
  refine good_ofF Try.func8 rfl _ rfl _ rfl (tab []) (fun X cs os0 K hok hos hK => ?_)
  clear hos; unfold sp_big at hK
  split at hK
  case h_2 => exact hK.elim
  rename_i code
  refine ⟨by simp, by simp, ?_⟩
  simp only [go_sem] at hK hok
  simp (maxSteps := 4000000) only [go_sem, Try.f8, ↓brB_t, ↓brB_f, Nat.reduceAdd, Int.reduceLE, Int.reduceLT, Int.reduceNeg, decide_true, decide_false, Bool.and_self, Nat.succ_eq_add_one, Int.toNat_natCast, Nat.beq_refl, Bool.and_true, Bool.true_and, Bool.false_or, Bool.or_true, List.all_cons, List.all_nil, Nat.reduceMul, Nat.add_zero, Nat.zero_add, List.length_nil, List.length_cons, dite_true, List.nil_append, Nat.reduceBEq, reduceDIte, reduceIte, reduceCtorEq, Bool.or_false, Bool.true_or, Bool.and_false, Bool.false_and, Bool.not_true, Bool.not_false, Option.isSome_some, Option.isSome_none, Option.getD_some, List.getElem?_cons_zero, List.getElem?_cons_succ, eq_self, and_self, List.take_succ_cons, List.take_zero, List.drop_succ_cons, List.drop_zero]
  exact ret0 hK
def c_big : Ctr Try.prog := ⟨8, ent Try.func8 rfl rfl, [], sp_big, good_big, []⟩
@[go_sem] theorem c_big_f : c_big.f = 8 := rfl
@[go_sem] theorem c_big_ms : c_big.ms = [] := rfl
@[go_sem] theorem c_big_sp : c_big.spec = sp_big := rfl
@[go_sem] theorem c_big_fz : c_big.fz = [] := rfl
attribute [go_sem] sp_big
/-! ### what the law asks -/
theorem stage1 {w : List Int} {p q : Int} (h : (acR w p q).2 = 0) : dcR (acR w p q).1 ((acR w p q).1.getD p.toNat 0) = (w, 0) ∧ 0 ≤ p ∧ p < ((acR w p q).1.length : Int) := by
  by_cases h1 : isW w = true
  · by_cases h2 : (inB q 0 w.length && inB p 0 q) = true
    · by_cases h3 : w.length = 12
      · rw [acR, if_pos h1, if_pos h2, if_pos h3] at h; simp at h
      · have e : acR w p q = (addL w p.toNat q.toNat, 0) := by rw [acR, if_pos h1, if_pos h2, if_neg h3]
        rw [e]
        rw [Bool.and_eq_true] at h2
        have a1 := inU h2.1
        have a2 := inU h2.2
        have hev := even_len h1
        have hl := y_len h1
        have hW := addL_isW h1 (p := p.toNat) (q := q.toNat) (by omega) (by omega) (by omega)
        have hL := addL_len (w := w) (p := p.toNat) (q := q.toNat) (by omega) (by omega)
        have hd := del_add h1 (p := p.toNat) (q := q.toNat) (by omega) (by omega)
        have hm := y_range hW _ (getD_mem (l := addL w p.toNat q.toNat) (i := p.toNat) (by omega))
        refine ⟨?_, a2.1, by show p < ((addL w p.toNat q.toNat).length : Int); omega⟩
        show dcR (addL w p.toNat q.toNat) ((addL w p.toNat q.toNat).getD p.toNat 0) = (w, 0)
        rw [dcR, if_pos hW, if_pos (by simp only [inB, Bool.and_eq_true, decide_eq_true_eq]; omega), hd]
    · rw [acR, if_pos h1, if_neg h2] at h; simp at h
  · rw [acR, if_neg h1] at h; simp at h
theorem stage2 {a b : List Int} (h : (jwR a b).2 = 0) : (ccR a).2 = 0 ∧ (ccR b).2 = 0 ∧ (ccR (jwR a b).1).2 = 0 ∧ w64 ((ccR a).1 + (ccR b).1) = (ccR (jwR a b).1).1 := by
  by_cases h1 : (isW a && isW b) = true
  · by_cases h3 : 12 < a.length + b.length
    · rw [jwR, if_pos h1, if_pos h3] at h; simp at h
    · have e : jwR a b = (joL a b, 0) := by rw [jwR, if_pos h1, if_neg h3]
      rw [Bool.and_eq_true] at h1
      have hj := joL_isW h1.1 h1.2 (by omega)
      have ea : ccR a = (cN a (a.length / 2), 0) := by rw [ccR, if_pos h1.1]
      have eb : ccR b = (cN b (b.length / 2), 0) := by rw [ccR, if_pos h1.2]
      have ej : ccR (joL a b) = (cN (joL a b) ((joL a b).length / 2), 0) := by rw [ccR, if_pos hj]
      rw [e, ea, eb]
      show _ ∧ _ ∧ (ccR (joL a b)).2 = 0 ∧ w64 _ = (ccR (joL a b)).1
      rw [ej]
      refine ⟨rfl, rfl, rfl, ?_⟩
      show w64 (cN a (a.length / 2) + cN b (b.length / 2)) = cN (joL a b) ((joL a b).length / 2)
      rw [cN_join h1.1 h1.2 (by omega)]
      have l1 := y_len h1.1
      have l2 := y_len h1.2
      have c1 := cN_le a (a.length / 2)
      have c2 := cN_le b (b.length / 2)
      have s1 : ((a.length / 2 : Nat) : Int) * ((a.length / 2 : Nat) : Int) ≤ 36 := by
        have : a.length / 2 * (a.length / 2) ≤ 6 * 6 := Nat.mul_le_mul (by omega) (by omega)
        exact_mod_cast this
      have s2 : ((b.length / 2 : Nat) : Int) * ((b.length / 2 : Nat) : Int) ≤ 36 := by
        have : b.length / 2 * (b.length / 2) ≤ 6 * 6 := Nat.mul_le_mul (by omega) (by omega)
        exact_mod_cast this
      exact w64_id (by omega) (by omega)
  · rw [jwR, if_neg h1] at h; simp at h
theorem some_up {n : Nat} {l : List Int} (h : someB n l = true) : (∀ i, i < l.length → 0 ≤ l.getD i 0 ∧ l.getD i 0 < (n : Int)) ∧ ∀ i j, i < j → j < l.length → l.getD i 0 < l.getD j 0 := by
  unfold someB at h
  rw [List.all_eq_true] at h
  have h1 : ∀ i, i < l.length → ascB n l i = true := fun i hi => h i (List.mem_range.2 hi)
  refine ⟨fun i hi => ?_, fun i j hij => ?_⟩
  · have := h1 i hi
    unfold ascB at this
    rw [Bool.and_eq_true] at this
    have := inU this.1
    omega
  · induction j with
    | zero => omega
    | succ j ih =>
      intro hj
      have := h1 (j + 1) hj
      unfold ascB at this
      simp only [Bool.and_eq_true, Bool.or_eq_true, decide_eq_true_eq, Nat.add_sub_cancel] at this
      have h2 := this.2.resolve_left (by omega)
      by_cases e : i = j
      · rw [e]; exact h2
      · have := ih (by omega) (by omega)
        omega
theorem stage3 {w l : List Int} (hl : l.length ≤ 1000) (h : (wcR w l).2 = 0) : (((wcR w l).1.length : Nat) : Int) = w64 (2 * (l.length : Int)) := by
  by_cases h1 : isW w = true
  · by_cases h2 : someB (w.length / 2) l = true
    · have e : wcR w l = (Go.Proofs.Ytbnmjhcokdhjmaa.K.normalL (w.filter fun x => decide (x ∈ l)), 0) := by rw [wcR, if_pos h1, if_pos h2]
      obtain ⟨u1, u2⟩ := some_up h2
      have gd : ∀ i (hi : i < l.length), l.getD i 0 = l[i] := fun i hi => by rw [List.getD_eq_getElem?_getD, List.getElem?_eq_getElem hi]; rfl
      have hnd : l.Nodup := by
        rw [List.Nodup, List.pairwise_iff_getElem]
        intro i j hi hj hij
        have := u2 i j hij hj
        rw [gd i hi, gd j hj] at this
        omega
      rw [e]
      show ((Go.Proofs.Ytbnmjhcokdhjmaa.K.normalL (w.filter fun x => decide (x ∈ l))).length : Int) = _
      rw [Go.Proofs.Ytbnmjhcokdhjmaa.K.normalL_length, filter_in_len w l hnd]
      have hc : ∀ y ∈ l, w.count y = 2 := fun y hy => by
        obtain ⟨i, hi, rfl⟩ := List.getElem_of_mem hy
        have := u1 i hi
        rw [gd i hi] at this
        exact y_two h1 this.1 this.2
      have hs : ∀ s : List Int, (∀ y ∈ s, w.count y = 2) → (s.map fun y => w.count y).sum = 2 * s.length := fun s => by
        induction s with
        | nil => intro _; rfl
        | cons y s ih =>
          intro hh
          rw [List.map_cons, List.sum_cons, ih fun z hz => hh z (List.mem_cons_of_mem _ hz), hh y List.mem_cons_self, List.length_cons]
          omega
      rw [hs l hc, w64_id (by omega) (by omega)]
      omega
    · rw [wcR, if_pos h1, if_neg h2] at h; simp at h
  · rw [wcR, if_neg h1] at h; simp at h
def upN (n : Nat) : List Int := (List.range n).map fun j : Nat => (j : Int)
theorem upN_s (n : Nat) : upN (n + 1) = upN n ++ [(n : Int)] := by rw [upN, List.range_succ, List.map_append]; rfl
theorem upN_len (n : Nat) : (upN n).length = n := by rw [upN, List.length_map, List.length_range]
theorem upN_get {n i : Nat} (h : i < n) : (upN n).getD i 0 = (i : Int) := by
  rw [upN, List.getD_eq_getElem?_getD, List.getElem?_map, List.getElem?_range h]; rfl
theorem stage4 {d : List Int} (h : (crR d).2 = 0) : isW d = true ∧ (crR d).1 = crRows d (d.length / 2) (d.length / 2) := by
  by_cases h1 : isW d = true
  · exact ⟨h1, by rw [crR, if_pos h1]⟩
  · rw [crR, if_neg h1] at h; simp at h
theorem row_at {d : List Int} {n i : Nat} (h : i < n) : (crRows d n n).getD i [] = crRow d n i := by
  rw [crRows, List.getD_eq_getElem?_getD, List.getElem?_map, List.getElem?_range h]; rfl
theorem stage5 {d : List Int} (h : isW d = true) : (ccR d).2 = 0 ∧ wcR d (upN (d.length / 2)) = (d, 0) ∧ rN (crI d) (d.length / 2) (d.length / 2) = w64 (2 * (ccR d).1) := by
  have hl := y_len h
  have e : ccR d = (cN d (d.length / 2), 0) := by rw [ccR, if_pos h]
  have c1 := cN_le d (d.length / 2)
  have s1 : ((d.length / 2 : Nat) : Int) * ((d.length / 2 : Nat) : Int) ≤ 36 := by
    have : d.length / 2 * (d.length / 2) ≤ 6 * 6 := Nat.mul_le_mul (by omega) (by omega)
    exact_mod_cast this
  refine ⟨by rw [e], ?_, ?_⟩
  · have hs : someB (d.length / 2) (upN (d.length / 2)) = true := by
      unfold someB
      rw [List.all_eq_true, upN_len]
      intro i hi
      have hi := List.mem_range.1 hi
      unfold ascB
      rw [upN_get hi]
      by_cases e0 : i = 0
      · subst e0; simp [inB]; omega
      · rw [upN_get (by omega)]
        simp only [inB, Bool.and_eq_true, Bool.or_eq_true, decide_eq_true_eq]
        omega
    have hf : d.filter (fun x => decide (x ∈ upN (d.length / 2))) = d := List.filter_eq_self.2 fun x hx => by
      have := y_range h x hx
      refine decide_eq_true ?_
      rw [upN, List.mem_map]
      exact ⟨x.toNat, List.mem_range.2 (by omega), by omega⟩
    rw [wcR, if_pos h, if_pos hs, hf, isW_normal h]
  · rw [e, rows_two h _ (Nat.le_refl _)]
    show _ = w64 (2 * cN d (d.length / 2))
    rw [w64_id (by omega) (by omega)]
end Go.Proofs.Ytbnmjhcokdhjmaa.V
