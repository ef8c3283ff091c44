/- Contracts: words with a chord added, by both sides. Conditions: told by each spec. -/
import Derived.Test.YtbnmjhcokdhjmaaVBI
import Derived.Test.YtbnmjhcokdhjmaaVY2
import Derived.Test.YtbnmjhcokdhjmaaVD0
set_option linter.unusedVariables false
set_option linter.unusedSimpArgs false
namespace Go.Proofs.Ytbnmjhcokdhjmaa.V
open Go
/-- A word with a chord added. -/
def addL (w : List Int) (p q : Nat) : List Int := Go.Proofs.Ytbnmjhcokdhjmaa.K.normalL (w.take p ++ [99] ++ (w.take q).drop p ++ [99] ++ w.drop q)
theorem cut_mem {w : List Int} {p q : Nat} (hpq : p ≤ q) {x : Int} (h : x ∉ w) : x ∉ w.take p ++ (w.take q).drop p ++ w.drop q := by
  intro hx
  rcases List.mem_append.1 hx with hx | hx
  · rcases List.mem_append.1 hx with hx | hx
    · exact h (List.mem_of_mem_take hx)
    · exact h (List.mem_of_mem_take (List.mem_of_mem_drop hx))
  · exact h (List.mem_of_mem_drop hx)
theorem add_ins {w : List Int} {p q : Nat} {m : Int} (hpq : p ≤ q) (hq : q ≤ w.length) (hm : m ∉ w) (h9 : (99 : Int) ∉ w) : Go.Proofs.Ytbnmjhcokdhjmaa.K.normalL (Go.Proofs.Ytbnmjhcokdhjmaa.K.insL (Go.Proofs.Ytbnmjhcokdhjmaa.K.insL w [m] q) [m] p) = addL w p q := by
  rw [Go.Proofs.Ytbnmjhcokdhjmaa.L.ins_twice w m p q hpq hq, addL]
  exact Go.Proofs.Ytbnmjhcokdhjmaa.L.normal_new _ _ _ m 99 (cut_mem hpq hm) (cut_mem hpq h9)
theorem w_notin {w : List Int} (hw : isW w = true) {m : Int} (h : ((w.length / 2 : Nat) : Int) ≤ m) : m ∉ w := fun hx => by
  obtain ⟨h1, h2⟩ := Go.Proofs.Ytbnmjhcokdhjmaa.L.word_range (by rw [← Go.Proofs.Ytbnmjhcokdhjmaa.L.isW_eq]; exact hw)
  have := h2 m hx
  omega
def sp_wc : List Cv → List Obj' → Tree
  | [.one (.ro (.int .i64) w), .one (.v (.int .i64 p)), .one (.v (.int .i64 q))], [] => .need (isW w = true ∧ 0 ≤ p ∧ p ≤ q ∧ q ≤ w.length) (.ret (ow 0) [rwi (addL w p.toNat q.toNat)])
  | _, _ => .fail
set_option maxHeartbeats 4000000 in
set_option maxRecDepth 100000 in
theorem good_wc : Good Try.prog 59 sp_wc := by
  refine good_ofF Try.func59 rfl _ rfl _ rfl (tab [c_chords, c_inserted, c_normal]) (fun X cs os0 K hok hos hK => ?_)
  clear hos; unfold sp_wc at hK
  split at hK
  case h_2 => exact hK.elim
  rename_i w p q
  refine ⟨by simp, by simp, ?_⟩
  simp only [go_sem] at hK hok
  simp (maxSteps := 4000000) only [go_sem, Try.f59, ↓brB_t, ↓brB_f, Nat.reduceAdd, Int.reduceLE, Int.reduceLT, Int.reduceNeg, decide_true, decide_false, Bool.and_self, Nat.succ_eq_add_one, Int.toNat_natCast, Nat.beq_refl, Bool.and_true, Bool.true_and, Bool.false_or, Bool.or_true, List.all_cons, List.all_nil, Nat.reduceMul, Nat.add_zero, Nat.zero_add, List.length_nil, List.length_cons, dite_true, List.nil_append, Nat.reduceBEq, reduceDIte, reduceIte, reduceCtorEq, Bool.or_false, Bool.true_or, Bool.and_false, Bool.false_and, Bool.not_true, Bool.not_false, Option.isSome_some, Option.isSome_none, Option.getD_some, List.getElem?_cons_zero, List.getElem?_cons_succ, eq_self, and_self, List.take_succ_cons, List.take_zero, List.drop_succ_cons, List.drop_zero]
  obtain ⟨⟨h1, h2, h3, h4⟩, hK⟩ := hK
  clear hok
  have hl := y_len h1
  have l1 := insL_len (w := w) (m := [((w.length / 2 : Nat) : Int)]) (i := q.toNat) (by omega)
  have l2 := insL_len (w := Go.Proofs.Ytbnmjhcokdhjmaa.K.insL w [((w.length / 2 : Nat) : Int)] q.toNat) (m := [((w.length / 2 : Nat) : Int)]) (i := p.toNat) (by omega)
  rw [← add_ins (m := ((w.length / 2 : Nat) : Int)) (by omega) (by omega) (w_notin h1 (Int.le_refl _)) (w_notin h1 (by omega))] at hK
  simp only [List.length_singleton] at l1 l2
  exact ⟨⟨by omega, by omega, by omega, by omega⟩, ⟨by omega, by omega, by omega, by omega⟩, by omega, retN [320] rfl hK⟩
def c_wc : Ctr Try.prog := ⟨59, ent Try.func59 rfl rfl, [], sp_wc, good_wc, []⟩
@[go_sem] theorem c_wc_f : c_wc.f = 59 := rfl
@[go_sem] theorem c_wc_ms : c_wc.ms = [] := rfl
@[go_sem] theorem c_wc_sp : c_wc.spec = sp_wc := rfl
@[go_sem] theorem c_wc_fz : c_wc.fz = [] := rfl
attribute [go_sem] sp_wc
set_option maxHeartbeats 4000000 in
set_option maxRecDepth 100000 in
theorem good_addS : Good Try.prog 61 sp_wc := by
  refine good_ofF Try.func61 rfl _ rfl _ rfl (tab [c_own, c_l01Normal]) (fun X cs os0 K hok hos hK => ?_)
  clear hos; unfold sp_wc at hK
  split at hK
  case h_2 => exact hK.elim
  rename_i w p q
  refine ⟨by simp, by simp, ?_⟩
  simp only [go_sem] at hK hok
  simp (maxSteps := 4000000) only [go_sem, Try.f61, ↓brB_t, ↓brB_f, Nat.reduceAdd, Int.reduceLE, Int.reduceLT, Int.reduceNeg, decide_true, decide_false, Bool.and_self, Nat.succ_eq_add_one, Int.toNat_natCast, Nat.beq_refl, Bool.and_true, Bool.true_and, Bool.false_or, Bool.or_true, List.all_cons, List.all_nil, Nat.reduceMul, Nat.add_zero, Nat.zero_add, List.length_nil, List.length_cons, dite_true, List.nil_append, Nat.reduceBEq, reduceDIte, reduceIte, reduceCtorEq, Bool.or_false, Bool.true_or, Bool.and_false, Bool.false_and, Bool.not_true, Bool.not_false, Option.isSome_some, Option.isSome_none, Option.getD_some, List.getElem?_cons_zero, List.getElem?_cons_succ, eq_self, and_self, List.take_succ_cons, List.take_zero, List.drop_succ_cons, List.drop_zero]
  obtain ⟨⟨h1, h2, h3, h4⟩, hK⟩ := hK
  clear hok
  have hl := y_len h1
  have e : (List.drop p.toNat (List.take q.toNat w)).length ≤ 12 := by rw [List.length_drop, List.length_take]; omega
  have e1 : (List.take p.toNat w).length ≤ 12 := by rw [List.length_take]; omega
  have e2 : (List.drop q.toNat w).length ≤ 12 := by rw [List.length_drop]; omega
  rw [addL] at hK
  generalize List.drop p.toNat (List.take q.toNat w) = b at *
  simp only [List.length_append, List.length_singleton]
  exact ⟨by omega, by omega, by omega, by omega, by omega, by omega, by omega, by omega, by omega, retN [464] rfl hK⟩
def c_addS : Ctr Try.prog := ⟨61, ent Try.func61 rfl rfl, [], sp_wc, good_addS, []⟩
@[go_sem] theorem c_addS_f : c_addS.f = 61 := rfl
@[go_sem] theorem c_addS_ms : c_addS.ms = [] := rfl
@[go_sem] theorem c_addS_sp : c_addS.spec = sp_wc := rfl
@[go_sem] theorem c_addS_fz : c_addS.fz = [] := rfl
attribute [go_sem] sp_wc
theorem twice_add {a b c : List Int} {m : Int} (h : Go.Proofs.Ytbnmjhcokdhjmaa.K.twiceL (a ++ b ++ c) = true) (hm : m ∉ a ++ b ++ c) : Go.Proofs.Ytbnmjhcokdhjmaa.K.twiceL (a ++ [m] ++ b ++ [m] ++ c) = true := by
  unfold Go.Proofs.Ytbnmjhcokdhjmaa.K.twiceL at h ⊢
  rw [List.all_eq_true] at h ⊢
  intro x hx
  have h0 : (a ++ b ++ c).count m = 0 := List.count_eq_zero.2 hm
  have hc : ∀ x, (a ++ [m] ++ b ++ [m] ++ c).count x = (a ++ b ++ c).count x + (if x = m then 2 else 0) := fun x => by
    simp only [List.count_append, List.count_cons, List.count_nil, beq_iff_eq]
    by_cases e : x = m
    · subst e; simp; omega
    · have e' : ¬ m = x := fun h => e h.symm
      simp [e, e']
  rw [hc]
  by_cases e : x = m
  · subst e; rw [h0, if_pos rfl]; rfl
  · rw [if_neg e, Nat.add_zero]
    refine h x ?_
    simp only [List.mem_append, List.mem_singleton, e, or_false] at hx ⊢
    exact hx
theorem take_pq {w : List Int} {p q : Nat} (hpq : p ≤ q) : w.take p ++ (w.take q).drop p ++ w.drop q = w := by
  have : w.take p = (w.take q).take p := by rw [List.take_take, Nat.min_eq_left hpq]
  rw [this, List.take_append_drop, List.take_append_drop]
theorem addL_isW {w : List Int} (hw : isW w = true) {p q : Nat} (hpq : p ≤ q) (hq : q ≤ w.length) (hl : w.length ≤ 10) : isW (addL w p q) = true := by
  have h9 : (99 : Int) ∉ w := w_notin hw (by have := y_len hw; omega)
  have ht : Go.Proofs.Ytbnmjhcokdhjmaa.K.twiceL w = true := by
    unfold isW at hw
    rw [Bool.and_eq_true, Bool.and_eq_true] at hw
    exact hw.2.1
  refine normal_isW ?_ (twice_add (by rw [take_pq hpq]; exact ht) (by rw [take_pq hpq]; exact h9))
  simp only [List.length_append, List.length_singleton, List.length_take, List.length_drop]
  omega
theorem addL_len {w : List Int} {p q : Nat} (hpq : p ≤ q) (hq : q ≤ w.length) : (addL w p q).length = w.length + 2 := by
  rw [addL, Go.Proofs.Ytbnmjhcokdhjmaa.K.normalL_length]
  simp only [List.length_append, List.length_singleton, List.length_take, List.length_drop]
  omega
end Go.Proofs.Ytbnmjhcokdhjmaa.V
