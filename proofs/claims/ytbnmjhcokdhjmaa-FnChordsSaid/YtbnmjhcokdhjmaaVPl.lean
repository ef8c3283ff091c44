/- Contracts: places. Conditions: told by each spec. -/
import Derived.Test.YtbnmjhcokdhjmaaVL
set_option linter.unusedVariables false
set_option linter.unusedSimpArgs false
namespace Go.Proofs.Ytbnmjhcokdhjmaa.V
open Go
def placeB (n : Int) (l : List Int) (i : Nat) : Bool := inB (l.getD i 0) 0 n && (decide (i = 0) || decide (l.getD (i - 1) 0 ≤ l.getD i 0))
def placesB (n : Int) (l : List Int) : Bool := (List.range l.length).all (placeB n l)
def sp_placesOk : List Cv → List Obj' → Tree
  | [.one (.ro (.int .i64) w), .one (.ro (.int .i64) l)], [] => .ret (vb (placesB w.length l)) []
  | _, _ => .fail
theorem range_s {p : Nat → Bool} {i : Nat} (h : (List.range i).all p = true) (hp : p i = true) : (List.range (i + 1)).all p = true := by
  rw [List.range_succ, List.all_append, h]; simp [hp]
theorem range_n {p : Nat → Bool} {i n : Nat} (hi : i < n) (hp : p i = false) : (List.range n).all p = false := by
  rw [← Bool.not_eq_true, List.all_eq_true]
  intro h
  rw [h i (List.mem_range.2 hi)] at hp
  cases hp
set_option maxHeartbeats 4000000 in
set_option maxRecDepth 100000 in
theorem good_placesOk : Good Try.prog 57 sp_placesOk := by
  refine good_ofF Try.func57 rfl _ rfl _ rfl (tab [c_in]) (fun X cs os0 K hok hos hK => ?_)
  clear hos; unfold sp_placesOk at hK
  split at hK
  case h_2 => exact hK.elim
  rename_i w l
  refine ⟨by simp, by simp, ?_⟩
  simp only [go_sem] at hK hok
  simp (maxSteps := 4000000) only [go_sem, Try.f57, ↓brB_t, ↓brB_f, Nat.reduceAdd, Int.reduceLE, Int.reduceLT, Int.reduceNeg, decide_true, decide_false, Bool.and_self, Nat.succ_eq_add_one, Int.toNat_natCast, Nat.beq_refl, Bool.and_true, Bool.true_and, Bool.false_or, Bool.or_true, List.all_cons, List.all_nil, Nat.reduceMul, Nat.add_zero, Nat.zero_add, List.length_nil, List.length_cons, dite_true, List.nil_append, Nat.reduceBEq, reduceDIte, reduceIte, reduceCtorEq, Bool.or_false, Bool.true_or, Bool.and_false, Bool.false_and, Bool.not_true, Bool.not_false, Option.isSome_some, Option.isSome_none, Option.getD_some, List.getElem?_cons_zero, List.getElem?_cons_succ, eq_self, and_self, List.take_succ_cons, List.take_zero, List.drop_succ_cons, List.drop_zero]
  have hl := len_i hok.2.1.1
  refine loop_okF (T := tab [c_in]) [0, 1, 7, 8, 9] [] (fun i : Nat => ⟨33, [(0, ri w), (1, ri l), (7, ri l), (8, vi (l.length : Nat)), (9, vi i)], []⟩)
    (fun i => i ≤ l.length ∧ (List.range i).all (placeB w.length l) = true) (fun i => l.length - i) 0 rfl rfl ⟨Nat.zero_le _, rfl⟩ (fun i hi => ?_)
  obtain ⟨hi, ht⟩ := hi
  simp only [go_sem, ↓brB_t, ↓brB_f, Nat.reduceAdd, Int.reduceLE, Int.reduceLT, Int.reduceNeg, decide_true, decide_false, Bool.and_self, Nat.succ_eq_add_one, Int.toNat_natCast, Nat.beq_refl, Bool.and_true, Bool.true_and, Bool.false_or, Bool.or_true, List.all_cons, List.all_nil, Nat.reduceMul, Nat.add_zero, Nat.zero_add, List.length_nil, List.length_cons, dite_true, List.nil_append, Nat.reduceBEq, reduceDIte, reduceIte, reduceCtorEq, Bool.or_false, Bool.true_or, Bool.and_false, Bool.false_and, Bool.not_true, Bool.not_false, Option.isSome_some, Option.isSome_none, Option.getD_some, List.getElem?_cons_zero, List.getElem?_cons_succ, eq_self, and_self, List.take_succ_cons, List.take_zero, List.drop_succ_cons, List.drop_zero]
  refine brB_intro (fun h1 => ?_) (fun h1 => ret0 ?_)
  · have h1 := of_decide_eq_true h1
    have e1 : i = 0 ∨ w64 ((i : Int) - 1) = ((i - 1 : Nat) : Int) := by
      rcases Nat.eq_zero_or_pos i with h | h
      · exact .inl h
      · refine .inr ?_
        rw [w64_id (by omega) (by omega)]; omega
    refine ⟨⟨by omega, by omega⟩, brB_intro (fun h2 => ret0 ?_) (fun h2 => brB_intro (fun h3 => ?_) (fun h3 => ?_))⟩
    · rw [placesB, range_n (i := i) (by omega) (by rw [placeB, nb h2]; rfl)] at hK; exact hK
    · have h3 := of_decide_eq_true h3
      rw [e1.resolve_left (by omega), Int.toNat_natCast]
      refine ⟨⟨by omega, by omega⟩, brB_intro (fun h4 => ret0 ?_) (fun h4 => ⟨i + 1, [], ⟨by omega, range_s ht ?_⟩, by omega, rfl, ?_⟩)⟩
      · have h4 : (l : List Int).getD i 0 < (l : List Int).getD (i - 1) 0 := of_decide_eq_true h4
        rw [placesB, range_n (i := i) (by omega) (by rw [placeB, decide_eq_false (by omega : ¬ i = 0), decide_eq_false (Int.not_le.2 h4)]; simp)] at hK; exact hK
      · have h4 : ¬ (l : List Int).getD i 0 < (l : List Int).getD (i - 1) 0 := of_decide_eq_false h4
        rw [placeB, nb' h2, decide_eq_true (Int.not_lt.1 h4)]; simp
      · rw [w64_s (n := l.length) (by omega) hl]; rfl
    · have h3 := of_decide_eq_false h3
      refine ⟨i + 1, [], ⟨by omega, range_s ht ?_⟩, by omega, rfl, ?_⟩
      · rw [placeB, nb' h2, decide_eq_true (by omega : i = 0)]; simp
      · rw [w64_s (n := l.length) (by omega) hl]; rfl
  · have h1 := of_decide_eq_false h1
    have e : i = l.length := by omega
    subst e
    rw [placesB, ht] at hK; exact hK
def c_placesOk : Ctr Try.prog := ⟨57, ent Try.func57 rfl rfl, [], sp_placesOk, good_placesOk, []⟩
@[go_sem] theorem c_placesOk_f : c_placesOk.f = 57 := rfl
@[go_sem] theorem c_placesOk_ms : c_placesOk.ms = [] := rfl
@[go_sem] theorem c_placesOk_sp : c_placesOk.spec = sp_placesOk := rfl
@[go_sem] theorem c_placesOk_fz : c_placesOk.fz = [] := rfl
attribute [go_sem] sp_placesOk
end Go.Proofs.Ytbnmjhcokdhjmaa.V
