/- Contracts: parts of words, the law. Conditions: told by each spec. -/
import Derived.Test.YtokakggilajjlaaVY5
set_option linter.unusedVariables false
set_option linter.unusedSimpArgs false
namespace Go.Proofs.Ytokakggilajjlaa.V
open Go
noncomputable section
def sp_l02Code : List Cv → List Obj' → Tree
  | [.one (.ro (.int .i64) w)], [] => .ret (vi (if isW w then 0 else 1)) []
  | _, _ => .fail
set_option maxHeartbeats 4000000 in
set_option maxRecDepth 100000 in
theorem good_l02Code : Good Try.prog 101 sp_l02Code := by
  refine good_ofF Try.func101 rfl _ rfl _ rfl (tab [c_l01Is]) (fun X cs os0 K hok hos hK => ?_)
  clear hos; unfold sp_l02Code at hK
  split at hK
  case h_2 => exact hK.elim
  rename_i w
  refine ⟨by simp, by simp, ?_⟩
  simp only [go_sem] at hK hok
  simp (maxSteps := 4000000) only [go_sem, Try.f101, ↓brB_t, ↓brB_f, Nat.reduceAdd, Int.reduceLE, Int.reduceLT, Int.reduceNeg, decide_true, decide_false, Bool.and_self, Nat.succ_eq_add_one, Int.toNat_natCast, Nat.beq_refl, Bool.and_true, Bool.true_and, Bool.false_or, Bool.or_true, List.all_cons, List.all_nil, Nat.reduceMul, Nat.add_zero, Nat.zero_add, List.length_nil, List.length_cons, dite_true, List.nil_append, Nat.reduceBEq, reduceDIte, reduceIte, reduceCtorEq, Bool.or_false, Bool.true_or, Bool.and_false, Bool.false_and, Bool.not_true, Bool.not_false, Option.isSome_some, Option.isSome_none, Option.getD_some, List.getElem?_cons_zero, List.getElem?_cons_succ, eq_self, and_self, List.take_succ_cons, List.take_zero, List.drop_succ_cons, List.drop_zero]
  clear hok
  refine brB_intro (fun h => ret0 ?_) (fun h => ret0 ?_)
  · rw [if_neg (by rw [nb h]; decide)] at hK; exact hK
  · rw [if_pos (nb' h)] at hK; exact hK
def c_l02Code : Ctr Try.prog := ⟨101, ent Try.func101 rfl rfl, [], sp_l02Code, good_l02Code, []⟩
@[go_sem] theorem c_l02Code_f : c_l02Code.f = 101 := rfl
@[go_sem] theorem c_l02Code_ms : c_l02Code.ms = [] := rfl
@[go_sem] theorem c_l02Code_sp : c_l02Code.spec = sp_l02Code := rfl
@[go_sem] theorem c_l02Code_fz : c_l02Code.fz = [] := rfl
attribute [go_sem] sp_l02Code
section
variable {r r' : Nat → Nat → Bool} {n : Nat}
theorem rch_sub (h : ∀ a b, a < n → b < n → r a b = true → r' a b = true) {i k : Nat} (hi : i < n) (hk : Rch r n i k) : Rch r' n i k := by
  induction hk with
  | base => exact .base
  | step h1 hb hr ih => exact ih.step hb (h _ _ (h1.lt hi) hb hr)
theorem rch_eq (h : ∀ a b, a < n → b < n → r a b = r' a b) {i : Nat} (hi : i < n) (k : Nat) : Rch r n i k ↔ Rch r' n i k :=
  ⟨rch_sub (fun a b ha hb hr => by rw [← h a b ha hb]; exact hr) hi, rch_sub (fun a b ha hb hr => by rw [h a b ha hb]; exact hr) hi⟩
theorem parts_eq (h : ∀ a b, a < n → b < n → r a b = r' a b) : ∀ m, m ≤ n → partsL r n m = partsL r' n m
  | 0, _ => rfl
  | m + 1, hm => by
    have ih := parts_eq h m (by omega)
    have hs : seenP r n m m ↔ seenP r' n m m := ⟨fun ⟨j, hj, hr⟩ => ⟨j, hj, (rch_eq h (by omega) m).1 hr⟩, fun ⟨j, hj, hr⟩ => ⟨j, hj, (rch_eq h (by omega) m).2 hr⟩⟩
    have hc : compL r n m = compL r' n m := by
      unfold compL
      congr 1
      refine List.filter_congr fun k _ => ?_
      rw [decide_eq_decide]
      exact rch_eq h (by omega) k
    by_cases hsm : seenP r n m m
    · rw [partsL_k hsm, partsL_k (hs.1 hsm), ih]
    · rw [partsL_s hsm, partsL_s (fun h => hsm (hs.2 h)), ih, hc]
theorem compL_len (r : Nat → Nat → Bool) (n i : Nat) : (compL r n i).length ≤ n := compTo_len r n i n
theorem parts_row (r : Nat → Nat → Bool) (n : Nat) : ∀ m, ∀ x ∈ partsL r n m, x.length ≤ n
  | 0, x, h => by cases h
  | m + 1, x, h => by
    by_cases hsm : seenP r n m m
    · rw [partsL_k hsm] at h; exact parts_row r n m x h
    · rw [partsL_s hsm] at h
      rcases List.mem_append.1 h with h | h
      · exact parts_row r n m x h
      · rw [List.mem_singleton.1 h]; exact compL_len r n m
end
theorem crRows_ok (w : List Int) {n : Nat} (h : n ≤ 1000) : okRw (crRows w n n) ∧ (crRows w n n).length = n ∧ ∀ a b, a < n → b < n → rB (crRows w n n) a b = crB w a b := by
  have e : ∀ a, a < n → (crRows w n n).getD a [] = crRow w n a := fun a ha => by
    rw [crRows, List.getD_eq_getElem?_getD, List.getElem?_map, List.getElem?_range ha]; rfl
  have hl : (crRows w n n).length = n := by rw [crRows, List.length_map, List.length_range]
  refine ⟨⟨by omega, fun i hi => ?_⟩, hl, fun a b ha hb => ?_⟩
  · rw [hl] at hi
    rw [e i hi, hl, crRow, List.length_map, List.length_range]
  · rw [rB, e a ha, crRow, List.getD_eq_getElem?_getD, List.getElem?_map, List.getElem?_range hb]
    show decide (crI w a b = 1) = _
    unfold crI
    cases crB w (a : Int) (b : Int) <;> rfl
set_option maxHeartbeats 4000000 in
set_option maxRecDepth 100000 in
theorem good_partsS : Good Try.prog 41 sp_parts := by
  refine good_ofF Try.func41 rfl _ rfl _ rfl (tab [c_l02Code, c_l01Cross, c_l02Parts]) (fun X cs os0 K hok hos hK => ?_)
  clear hos; unfold sp_parts at hK
  split at hK
  case h_2 => exact hK.elim
  rename_i w
  refine ⟨by simp, by simp, ?_⟩
  simp only [go_sem] at hK hok
  simp (maxSteps := 4000000) only [go_sem, Try.f41, ↓brB_t, ↓brB_f, Nat.reduceAdd, Int.reduceLE, Int.reduceLT, Int.reduceNeg, decide_true, decide_false, Bool.and_self, Nat.succ_eq_add_one, Int.toNat_natCast, Nat.beq_refl, Bool.and_true, Bool.true_and, Bool.false_or, Bool.or_true, List.all_cons, List.all_nil, Nat.reduceMul, Nat.add_zero, Nat.zero_add, List.length_nil, List.length_cons, dite_true, List.nil_append, Nat.reduceBEq, reduceDIte, reduceIte, reduceCtorEq, Bool.or_false, Bool.true_or, Bool.and_false, Bool.false_and, Bool.not_true, Bool.not_false, Option.isSome_some, Option.isSome_none, Option.getD_some, List.getElem?_cons_zero, List.getElem?_cons_succ, eq_self, and_self, List.take_succ_cons, List.take_zero, List.drop_succ_cons, List.drop_zero]
  clear hok
  refine brB_intro (fun h => ?_) (fun h => ?_)
  · have h := of_decide_eq_false (nb h)
    have hw : ¬ isW w = true := fun e => h (if_pos e)
    have e : partsR w = ([], 1) := by rw [partsR, if_neg hw]
    rw [e] at hK
    rw [if_neg hw]
    exact retM [⟨.reg 2 0, 16, tSS, kR⟩] rfl (retN [16] rfl hK)
  · have h := of_decide_eq_true (nb' h)
    have hw : isW w = true := by
      cases e : isW w with
      | true => rfl
      | false => rw [e] at h; simp at h
    have hl := y_len hw
    obtain ⟨r1, r2, r3⟩ := crRows_ok w (n := w.length / 2) (by omega)
    have er : partsR w = (partsL (fun a b => crB w a b) (w.length / 2) (w.length / 2), 0) := by rw [partsR, if_pos hw]
    rw [er, ← parts_eq (r := rB (crRows w (w.length / 2) (w.length / 2))) r3 _ (Nat.le_refl _)] at hK
    rw [r2]
    exact ⟨hw, r1, retN [208] rfl hK⟩
def c_partsS : Ctr Try.prog := ⟨41, ent Try.func41 rfl rfl, [], sp_parts, good_partsS, []⟩
@[go_sem] theorem c_partsS_f : c_partsS.f = 41 := rfl
@[go_sem] theorem c_partsS_ms : c_partsS.ms = [] := rfl
@[go_sem] theorem c_partsS_sp : c_partsS.spec = sp_parts := rfl
@[go_sem] theorem c_partsS_fz : c_partsS.fz = [] := rfl
attribute [go_sem] sp_parts
theorem szR_small : ∀ {ts : RowL} {m : Nat}, (∀ x ∈ ts, x.length ≤ m) → szR ts ≤ m * ts.length
  | [], _, _ => by simp [szR]
  | x :: r, m, h => by
    have h1 := h x List.mem_cons_self
    have h2 := szR_small (ts := r) fun y hy => h y (List.mem_cons_of_mem _ hy)
    have : szR (x :: r) = x.length + szR r := by simp [szR]
    rw [this, List.length_cons, Nat.mul_succ]
    omega
theorem partsR_len (w : List Int) : szR (partsR w).1 ≤ 1000 := by
  unfold partsR
  split
  · rename_i h
    have hl := y_len h
    have h1 := partsL_len (fun a b => crB w a b) (w.length / 2) (w.length / 2)
    have h2 := szR_small (ts := partsL (fun a b => crB w a b) (w.length / 2) (w.length / 2)) (m := 6) (fun x hx => by have := parts_row _ _ _ x hx; omega)
    show szR (partsL _ _ _) ≤ 1000
    omega
  · exact Nat.zero_le _
theorem szR_mark : ∀ (ts : RowL) (k : Int), szR (markR k ts) = szR ts
  | [], k => rfl
  | x :: r, k => by
    have h := szR_mark r (k + x.length)
    rw [markR]
    show (marks k x.length).length + szR (markR (k + x.length) r) = x.length + szR r
    rw [marks_length, h]
theorem mark_mark : ∀ (ts : RowL) (k : Int), markR k (markR k ts) = markR k ts
  | [], k => rfl
  | x :: r, k => by
    have h := mark_mark r (k + x.length)
    rw [markR, markR, marks_length, h]
def sp_lawW1 : List Cv → List Obj' → Tree
  | [.one (.ro (.int .i64) w)], [] => .ret (vb true) []
  | _, _ => .fail
set_option maxHeartbeats 4000000 in
set_option maxRecDepth 100000 in
theorem good_lawPartsOf : Good Try.prog 11 sp_lawW1 := by
  refine good_ofF Try.func11 rfl _ rfl _ rfl (tab [c_to, c_partsS, c_partsI, c_eqSS, c_eqS, c_mark, c_markSS, c_heldSS]) (fun X cs os0 K hok hos hK => ?_)
  clear hos; unfold sp_lawW1 at hK
  split at hK
  case h_2 => exact hK.elim
  rename_i w
  refine ⟨by simp, by simp, ?_⟩
  simp only [go_sem] at hK hok
  simp (maxSteps := 4000000) only [go_sem, Try.f11, ↓brB_t, ↓brB_f, Nat.reduceAdd, Int.reduceLE, Int.reduceLT, Int.reduceNeg, decide_true, decide_false, Bool.and_self, Nat.succ_eq_add_one, Int.toNat_natCast, Nat.beq_refl, Bool.and_true, Bool.true_and, Bool.false_or, Bool.or_true, List.all_cons, List.all_nil, Nat.reduceMul, Nat.add_zero, Nat.zero_add, List.length_nil, List.length_cons, dite_true, List.nil_append, Nat.reduceBEq, reduceDIte, reduceIte, reduceCtorEq, Bool.or_false, Bool.true_or, Bool.and_false, Bool.false_and, Bool.not_true, Bool.not_false, Option.isSome_some, Option.isSome_none, Option.getD_some, List.getElem?_cons_zero, List.getElem?_cons_succ, eq_self, and_self, List.take_succ_cons, List.take_zero, List.drop_succ_cons, List.drop_zero]
  have hr := partsR_len w
  generalize partsR w = r at *
  clear hok
  have e1 := szR_mark r.1 1
  have e2 := mark_mark r.1 1
  rw [e2, e1, if_pos rfl]
  refine brB_intro (fun _ => ret0 hK) (fun h1 => ?_)
  have h1 := of_decide_eq_false h1
  clear e1 e2
  generalize szR r.1 = z at *
  exact ⟨by omega, by omega, by omega, ⟨trivial, trivial, by omega⟩, brB_intro (fun h2 => by have := of_decide_eq_true h2; omega) (fun _ => ⟨⟨trivial, by omega⟩, ⟨trivial, by omega⟩, brB_intro (fun h2 => by have := of_decide_eq_true h2; omega) (fun _ => brB_intro (fun h3 => absurd (of_decide_eq_false (nb h3)) (fun h => h rfl)) (fun _ => ⟨by omega, ⟨trivial, by omega⟩, brB_intro (fun h2 => by have := of_decide_eq_true h2; omega) (fun _ => brB_intro (fun h3 => absurd (of_decide_eq_false (nb h3)) (fun h => h rfl)) (fun _ => ret0 hK))⟩))⟩)⟩
end
end Go.Proofs.Ytokakggilajjlaa.V
