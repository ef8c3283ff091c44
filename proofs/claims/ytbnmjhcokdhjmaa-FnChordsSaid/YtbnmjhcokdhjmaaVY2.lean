/- Contracts: crossing rows. Conditions: told by each spec. -/
import Derived.Test.YtbnmjhcokdhjmaaVY0
import Derived.Test.YtbnmjhcokdhjmaaVW2
set_option linter.unusedVariables false
set_option linter.unusedSimpArgs false
namespace Go.Proofs.Ytbnmjhcokdhjmaa.V
open Go
def inS (a b c : Int) : Bool := decide (a < c) && decide (c < b)
/-- Two chords cross. -/
def crB (w : List Int) (i k : Int) : Bool := decide (i ≠ k) && (inS (pl1 w i) (pl2 w i) (pl1 w k) != inS (pl1 w i) (pl2 w i) (pl2 w k))
def sp_cross : List Cv → List Obj' → Tree
  | [.one (.ro (.int .i64) w), .one (.v (.int .i64 i)), .one (.v (.int .i64 k))], [] => .need (w.length < 1099511627776 ∧ (w : List Int).count i = 2 ∧ (w : List Int).count k = 2) (.ret (vb (crB w i k)) [])
  | _, _ => .fail
set_option maxHeartbeats 4000000 in
set_option maxRecDepth 100000 in
theorem good_cross : Good Try.prog 73 sp_cross := by
  refine good_ofF Try.func73 rfl _ rfl _ rfl (tab [c_places]) (fun X cs os0 K hok hos hK => ?_)
  clear hos; unfold sp_cross at hK
  split at hK
  case h_2 => exact hK.elim
  rename_i w i k
  refine ⟨by simp, by simp, ?_⟩
  simp only [go_sem] at hK hok
  simp (maxSteps := 4000000) only [go_sem, Try.f73, ↓brB_t, ↓brB_f, Nat.reduceAdd, Int.reduceLE, Int.reduceLT, Int.reduceNeg, decide_true, decide_false, Bool.and_self, Nat.succ_eq_add_one, Int.toNat_natCast, Nat.beq_refl, Bool.and_true, Bool.true_and, Bool.false_or, Bool.or_true, List.all_cons, List.all_nil, Nat.reduceMul, Nat.add_zero, Nat.zero_add, List.length_nil, List.length_cons, dite_true, List.nil_append, Nat.reduceBEq, reduceDIte, reduceIte, reduceCtorEq, Bool.or_false, Bool.true_or, Bool.and_false, Bool.false_and, Bool.not_true, Bool.not_false, Option.isSome_some, Option.isSome_none, Option.getD_some, List.getElem?_cons_zero, List.getElem?_cons_succ, eq_self, and_self, List.take_succ_cons, List.take_zero, List.drop_succ_cons, List.drop_zero]
  obtain ⟨⟨h1, h2, h3⟩, hK⟩ := hK
  clear hok
  refine ⟨⟨h1, h2⟩, ⟨h1, h3⟩, brB_intro (fun a => brB_intro (fun b => brB_intro (fun c => ret0 ?_) (fun c => ret0 ?_)) (fun b => brB_intro (fun c => ret0 ?_) (fun c => ret0 ?_))) (fun a => ret0 ?_)⟩
  · have e : crB w i k = !decide (decide (pl1 w k < pl2 w i) = decide (pl2 w k < pl2 w i)) := by
      rw [crB, inS, inS, b, c, decide_eq_true (by simpa using a)]
      cases decide (pl1 w k < pl2 w i) <;> cases decide (pl2 w k < pl2 w i) <;> rfl
    rw [e] at hK; exact hK
  · have e : crB w i k = !decide (decide (pl1 w k < pl2 w i) = false) := by
      rw [crB, inS, inS, b, c, decide_eq_true (by simpa using a)]
      cases decide (pl1 w k < pl2 w i) <;> rfl
    rw [e] at hK; exact hK
  · have e : crB w i k = !decide (false = decide (pl2 w k < pl2 w i)) := by
      rw [crB, inS, inS, b, c, decide_eq_true (by simpa using a)]
      cases decide (pl2 w k < pl2 w i) <;> rfl
    rw [e] at hK; exact hK
  · have e : crB w i k = false := by
      rw [crB, inS, inS, b, c]; simp
    rw [e] at hK; exact hK
  · have e : crB w i k = false := by
      rw [crB, decide_eq_false (by simpa using a)]; rfl
    rw [e] at hK; exact hK
def c_cross : Ctr Try.prog := ⟨73, ent Try.func73 rfl rfl, [], sp_cross, good_cross, []⟩
@[go_sem] theorem c_cross_f : c_cross.f = 73 := rfl
@[go_sem] theorem c_cross_ms : c_cross.ms = [] := rfl
@[go_sem] theorem c_cross_sp : c_cross.spec = sp_cross := rfl
@[go_sem] theorem c_cross_fz : c_cross.fz = [] := rfl
attribute [go_sem] sp_cross
theorem y_len {w : List Int} (h : isW w = true) : w.length ≤ 12 := (Go.Proofs.Ytbnmjhcokdhjmaa.L.word_range (by rw [← Go.Proofs.Ytbnmjhcokdhjmaa.L.isW_eq]; exact h)).1
theorem y_two {w : List Int} (hw : isW w = true) {i : Int} (h0 : 0 ≤ i) (h1 : i < ((w.length / 2 : Nat) : Int)) : w.count i = 2 := by
  obtain ⟨m, hm⟩ := Go.Proofs.Ytbnmjhcokdhjmaa.L.word_of w (by rw [← Go.Proofs.Ytbnmjhcokdhjmaa.L.isW_eq]; exact hw)
  have hl := hm.len
  have := hm.two i.toNat (by omega)
  rwa [Int.toNat_of_nonneg h0] at this
theorem y_half {n : Nat} (h : n ≤ 12) : w64 (((n : Nat) : Int).tdiv 2) = ((n / 2 : Nat) : Int) := by
  rw [show ((n : Nat) : Int).tdiv 2 = ((n / 2 : Nat) : Int) from rfl]
  exact w64_id (by omega) (by omega)
/-- Places of two chords. -/
theorem pl_apart {w : List Int} {i k : Int} (hi : w.count i = 2) (hk : w.count k = 2) (h : i ≠ k) : pl1 w i < pl2 w i ∧ pl1 w k < pl2 w k ∧ pl1 w i ≠ pl1 w k ∧ pl1 w i ≠ pl2 w k ∧ pl2 w i ≠ pl1 w k ∧ pl2 w i ≠ pl2 w k := by
  obtain ⟨a, b, ab, bl, p1, p2, _, _, g1, g2, _⟩ := pl_two hi
  obtain ⟨c, d, cd, dl, q1, q2, _, _, k1, k2, _⟩ := pl_two hk
  rw [p1, p2, q1, q2]
  have ne : ∀ {x y : Nat}, w.getD x 0 = i → w.getD y 0 = k → (x : Int) ≠ y := fun {x y} hx hy e => by
    have e : x = y := by omega
    subst e
    exact h (hx.symm.trans hy)
  exact ⟨by omega, by omega, ne g1 k1, ne g1 k2, ne g2 k1, ne g2 k2⟩
theorem cr_in {w : List Int} {i k : Int} (hi : w.count i = 2) (hk : w.count k = 2) (h : k ≠ i) : crB w i k = !decide (inB (pl1 w k) (pl1 w i) (pl2 w i) = inB (pl2 w k) (pl1 w i) (pl2 w i)) := by
  obtain ⟨h1, h2, h3, h4, h5, h6⟩ := pl_apart hi hk (Ne.symm h)
  rw [crB, decide_eq_true (Ne.symm h), Bool.true_and]
  unfold inS inB
  generalize pl1 w i = a at *
  generalize pl2 w i = b at *
  generalize pl1 w k = c at *
  generalize pl2 w k = d at *
  rw [show decide (a < c) = decide (a ≤ c) from decide_eq_decide.2 (by omega), show decide (c < b) = decide (c ≤ b) from decide_eq_decide.2 (by omega), show decide (a < d) = decide (a ≤ d) from decide_eq_decide.2 (by omega), show decide (d < b) = decide (d ≤ b) from decide_eq_decide.2 (by omega)]
  cases (decide (a ≤ c) && decide (c ≤ b)) <;> cases (decide (a ≤ d) && decide (d ≤ b)) <;> rfl
theorem cr_symm {w : List Int} {i k : Int} (hi : w.count i = 2) (hk : w.count k = 2) : crB w i k = crB w k i := by
  by_cases h : i = k
  · rw [h]
  · obtain ⟨h1, h2, h3, h4, h5, h6⟩ := pl_apart hi hk h
    rw [crB, crB, decide_eq_true h, decide_eq_true (Ne.symm h)]
    unfold inS
    generalize pl1 w i = a at *
    generalize pl2 w i = b at *
    generalize pl1 w k = c at *
    generalize pl2 w k = d at *
    rw [Bool.true_and, Bool.true_and, show decide (c < a) = !decide (a < c) by rw [← decide_not]; exact decide_eq_decide.2 (by omega), show decide (b < d) = !decide (d < b) by rw [← decide_not]; exact decide_eq_decide.2 (by omega)]
    cases hA : decide (a < c) <;> cases hB : decide (c < b) <;> cases hC : decide (a < d) <;> cases hD : decide (d < b) <;> first | rfl | (simp only [decide_eq_true_eq, decide_eq_false_iff_not] at hA hB hC hD; omega)
/-- A row of given length, and the same row, changed at one place. -/
theorem y_set {M i : Nat} {p q : Nat → Int} (h : ∀ j, j < M → j ≠ i → p j = q j) : ((List.range M).map p).set i (q i) = (List.range M).map q := by
  refine List.ext_getElem (by rw [List.length_set, List.length_map, List.length_map]) (fun j h1 h2 => ?_)
  rw [List.length_map, List.length_range] at h2
  rw [List.getElem_set]
  simp only [List.getElem_map, List.getElem_range]
  split
  · rename_i e; rw [e]
  · rename_i e; exact h j h2 (fun k => e k.symm)
def midY (f : Nat → Int) (k j : Nat) : Int := if j < k then f j else 0
theorem midY_0 (M : Nat) (f : Nat → Int) : List.replicate M 0 = (List.range M).map (midY f 0) := by
  refine List.ext_getElem (by simp) (fun j h1 h2 => ?_)
  simp [midY]
theorem midY_1 {M k : Nat} {f : Nat → Int} {x : Int} (h : f k = x) : ((List.range M).map (midY f k)).set k x = (List.range M).map (midY f (k + 1)) := by
  have := y_set (M := M) (i := k) (p := midY f k) (q := midY f (k + 1)) (fun j _ hj => by
    unfold midY
    by_cases h : j < k
    · rw [if_pos h, if_pos (by omega)]
    · rw [if_neg h, if_neg (by omega)])
  rw [show midY f (k + 1) k = x by unfold midY; rw [if_pos (by omega), h]] at this
  exact this
theorem midY_2 {M k : Nat} {f : Nat → Int} (h : f k = 0) : (List.range M).map (midY f k) = (List.range M).map (midY f (k + 1)) := by
  refine List.map_congr_left fun j _ => ?_
  unfold midY
  by_cases h1 : j < k
  · rw [if_pos h1, if_pos (by omega)]
  · rw [if_neg h1]
    split
    · rw [show j = k by omega, h]
    · rfl
theorem midY_end {M : Nat} {f : Nat → Int} : (List.range M).map (midY f M) = (List.range M).map f := List.map_congr_left fun j hj => by unfold midY; rw [if_pos (List.mem_range.1 hj)]
/-- The crossing rows. -/
def crI (w : List Int) (i k : Nat) : Int := if crB w i k then 1 else 0
def crRow (w : List Int) (n i : Nat) : List Int := (List.range n).map (crI w i)
def crRows (w : List Int) (n m : Nat) : List (List Int) := (List.range m).map (crRow w n)
def sp_l01Cross : List Cv → List Obj' → Tree
  | [.one (.ro (.int .i64) w)], [] => .need (isW w = true) (.ret (.val (.one (.own 0))) [.drow 27 (.sl 2 (.int .i64)) (crRows w (w.length / 2) (w.length / 2))])
  | _, _ => .fail
set_option maxHeartbeats 4000000 in
set_option maxRecDepth 100000 in
theorem good_l01Cross : Good Try.prog 81 sp_l01Cross := by
  refine good_ofF Try.func81 rfl _ rfl _ rfl (tab [c_l01Places, c_l01In]) (fun X cs os0 K hok hos hK => ?_)
  clear hos; unfold sp_l01Cross at hK
  split at hK
  case h_2 => exact hK.elim
  rename_i w
  refine ⟨by simp, by simp, ?_⟩
  simp only [go_sem] at hK hok
  simp (maxSteps := 4000000) only [go_sem, Try.f81, ↓brB_t, ↓brB_f, Nat.reduceAdd, Int.reduceLE, Int.reduceLT, Int.reduceNeg, decide_true, decide_false, Bool.and_self, Nat.succ_eq_add_one, Int.toNat_natCast, Nat.beq_refl, Bool.and_true, Bool.true_and, Bool.false_or, Bool.or_true, List.all_cons, List.all_nil, Nat.reduceMul, Nat.add_zero, Nat.zero_add, List.length_nil, List.length_cons, dite_true, List.nil_append, Nat.reduceBEq, reduceDIte, reduceIte, reduceCtorEq, Bool.or_false, Bool.true_or, Bool.and_false, Bool.false_and, Bool.not_true, Bool.not_false, Option.isSome_some, Option.isSome_none, Option.getD_some, List.getElem?_cons_zero, List.getElem?_cons_succ, eq_self, and_self, List.take_succ_cons, List.take_zero, List.drop_succ_cons, List.drop_zero]
  obtain ⟨h1, hK⟩ := hK
  clear hok
  have hl := y_len h1
  have two := fun (j : Nat) (hj : j < w.length / 2) => y_two h1 (i := (j : Int)) (by omega) (by omega)
  rw [y_half hl]
  generalize hn : w.length / 2 = n at *
  refine ⟨by decide, ?_⟩
  refine loop_okF (T := tab [c_l01Places, c_l01In]) [0, 3, 4, 5] [(16, 208)] (fun i : Nat => ⟨62, [(0, ri w), (3, ow 16), (4, vi n), (5, vi i)], [(16, .drow 27 (.sl 2 (.int .i64)) (crRows w n i))]⟩)
    (fun i => i ≤ n) (fun i => n - i) 0 rfl rfl (Nat.zero_le _) (fun i hi => ?_)
  simp only [go_sem, ↓brB_t, ↓brB_f, Nat.reduceAdd, Int.reduceLE, Int.reduceLT, Int.reduceNeg, decide_true, decide_false, Bool.and_self, Nat.succ_eq_add_one, Int.toNat_natCast, Nat.beq_refl, Bool.and_true, Bool.true_and, Bool.false_or, Bool.or_true, List.all_cons, List.all_nil, Nat.reduceMul, Nat.add_zero, Nat.zero_add, List.length_nil, List.length_cons, dite_true, List.nil_append, Nat.reduceBEq, reduceDIte, reduceIte, reduceCtorEq, Bool.or_false, Bool.true_or, Bool.and_false, Bool.false_and, Bool.not_true, Bool.not_false, Option.isSome_some, Option.isSome_none, Option.getD_some, List.getElem?_cons_zero, List.getElem?_cons_succ, eq_self, and_self, List.take_succ_cons, List.take_zero, List.drop_succ_cons, List.drop_zero]
  refine brB_intro (fun h2 => ?_) (fun h2 => retN [16] rfl ?_)
  · have h2 := of_decide_eq_true h2
    have hw1 : w64 ((i : Int) + 1) = ((i + 1 : Nat) : Int) := w64_s (n := n) (by omega) (by omega)
    refine ⟨⟨by omega, by omega, trivial⟩, ⟨by omega, two i (by omega)⟩, ?_⟩
    refine loop_okF (T := tab [c_l01Places, c_l01In]) [0, 3, 4, 5, 6, 7, 8, 9] [(16, 16), (17, 368)] (fun k : Nat => ⟨62, [(0, ri w), (3, ow 16), (4, vi n), (5, vi i), (6, ow 17), (7, vi (pl1 w i)), (8, vi (pl2 w i)), (9, vi k)], [(16, .drow 27 (.sl 2 (.int .i64)) (crRows w n i)), (17, rwi ((List.range n).map (midY (crI w i) k)))]⟩)
      (fun k => k ≤ n) (fun k => n - k) 0 rfl (by rw [← midY_0]; rfl) (Nat.zero_le _) (fun k hk => ?_)
    simp only [go_sem, ↓brB_t, ↓brB_f, Nat.reduceAdd, Int.reduceLE, Int.reduceLT, Int.reduceNeg, decide_true, decide_false, Bool.and_self, Nat.succ_eq_add_one, Int.toNat_natCast, Nat.beq_refl, Bool.and_true, Bool.true_and, Bool.false_or, Bool.or_true, List.all_cons, List.all_nil, Nat.reduceMul, Nat.add_zero, Nat.zero_add, List.length_nil, List.length_cons, dite_true, List.nil_append, Nat.reduceBEq, reduceDIte, reduceIte, reduceCtorEq, Bool.or_false, Bool.true_or, Bool.and_false, Bool.false_and, Bool.not_true, Bool.not_false, Option.isSome_some, Option.isSome_none, Option.getD_some, List.getElem?_cons_zero, List.getElem?_cons_succ, eq_self, and_self, List.take_succ_cons, List.take_zero, List.drop_succ_cons, List.drop_zero]
    rw [List.length_map, List.length_range]
    refine brB_intro (fun h3 => ?_) (fun h3 => ?_)
    · have h3 := of_decide_eq_true h3
      have hk1 : w64 ((k : Int) + 1) = ((k + 1 : Nat) : Int) := w64_s (n := n) (by omega) (by omega)
      rw [hk1]
      refine ⟨⟨by omega, two k (by omega)⟩, brB_intro (fun h4 => brB_intro (fun h5 => ?_) (fun h5 => ?_)) (fun h4 => ?_)⟩
      · have e : crI w i k = 1 := by rw [crI, cr_in (two i (by omega)) (two k (by omega)) (by simpa using h4), h5]; rfl
        rw [midY_1 e]
        exact ⟨⟨by omega, by omega⟩, k + 1, [(16, 16), (17, 17)], by omega, by omega, rfl, rfl⟩
      · have e : crI w i k = 0 := by rw [crI, cr_in (two i (by omega)) (two k (by omega)) (by simpa using h4), h5]; rfl
        rw [midY_2 e]
        exact ⟨k + 1, [(16, 16), (17, 17)], by omega, by omega, rfl, rfl⟩
      · have h4 : (k : Int) = i := by simpa using h4
        have e : crI w i k = 0 := by rw [crI, crB, decide_eq_false (by rw [h4]; simp)]; rfl
        rw [midY_2 e]
        exact ⟨k + 1, [(16, 16), (17, 17)], by omega, by omega, rfl, rfl⟩
    · have h3 := of_decide_eq_false h3
      have e : k = n := by omega
      subst e
      rw [midY_end, hw1, show crRows w k i ++ [List.map (crI w i) (List.range k)] = crRows w k (i + 1) by rw [crRows, crRows, List.range_succ, List.map_append]; rfl]
      exact ⟨by rw [crRows, List.length_map, List.length_range]; omega, i + 1, [(16, 976)], by omega, by omega, rfl, rfl⟩
  · have h2 := of_decide_eq_false h2
    have e : i = n := by omega
    rw [e]; exact hK
def c_l01Cross : Ctr Try.prog := ⟨81, ent Try.func81 rfl rfl, [], sp_l01Cross, good_l01Cross, []⟩
@[go_sem] theorem c_l01Cross_f : c_l01Cross.f = 81 := rfl
@[go_sem] theorem c_l01Cross_ms : c_l01Cross.ms = [] := rfl
@[go_sem] theorem c_l01Cross_sp : c_l01Cross.spec = sp_l01Cross := rfl
@[go_sem] theorem c_l01Cross_fz : c_l01Cross.fz = [] := rfl
attribute [go_sem] sp_l01Cross
end Go.Proofs.Ytbnmjhcokdhjmaa.V
