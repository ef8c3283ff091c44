/- Contracts: places of chords, rows joined, turned heads, RotateGauss. Conditions: told by each spec. -/
import Derived.Test.YtbnmjhcokdhjmaaVW2
import Derived.Test.YtbnmjhcokdhjmaaVL
set_option linter.unusedVariables false
set_option linter.unusedSimpArgs false
namespace Go.Proofs.Ytbnmjhcokdhjmaa.V
open Go
open Go.Proofs.YtbnmjhcokdhjmaaW.PrintWords (rd)
/-! ### places -/
def idxI (l : List Int) (x : Int) : Int := match l.idxOf? x with | some j => (j : Int) | none => -1
def sp_index : List Cv → List Obj' → Tree
  | [.one (.ro (.int .i64) l), .one (.v (.int .i64 x))], [] => .ret (vi (idxI l x)) []
  | _, _ => .fail
theorem notin_s {l : List Int} {i : Nat} {x : Int} (h : x ∉ l.take i) (hi : i < l.length) (hx : ¬ x = l.getD i 0) : x ∉ l.take (i + 1) := by
  rw [List.take_succ_eq_append_getElem hi, ← getD_eq hi]
  simp only [List.mem_append, List.mem_cons, List.not_mem_nil, or_false, not_or]
  exact ⟨h, hx⟩
theorem idxI_at {l : List Int} {i : Nat} {x : Int} (h : x ∉ l.take i) (hi : i < l.length) (hx : x = l.getD i 0) : idxI l x = i := by
  have e : l = l.take i ++ x :: l.drop (i + 1) := by
    rw [hx, getD_eq hi, ← List.drop_eq_getElem_cons hi, List.take_append_drop]
  have hl : (l.take i).length = i := by rw [List.length_take]; omega
  have e2 : l.idxOf? x = some i := by
    rw [e, List.idxOf?, List.findIdx?_append]
    have : (l.take i).findIdx? (· == x) = none := by
      rw [List.findIdx?_eq_none_iff]
      intro y hy
      simp only [beq_eq_false_iff_ne, ne_eq]
      exact fun e => h (e ▸ hy)
    rw [this, hl]
    simp [List.findIdx?_cons]
  rw [idxI, e2]
theorem idxI_none {l : List Int} {x : Int} (h : x ∉ l) : idxI l x = -1 := by
  have : l.idxOf? x = none := by simpa [List.idxOf?_eq_none_iff] using h
  rw [idxI, this]
set_option maxHeartbeats 4000000 in
set_option maxRecDepth 100000 in
theorem good_index : Good Try.prog 119 sp_index := by
  refine good_ofF Try.func119 rfl _ rfl _ rfl (tab []) (fun X cs os0 K hok hos hK => ?_)
  clear hos; unfold sp_index at hK
  split at hK
  case h_2 => exact hK.elim
  rename_i l x
  refine ⟨by simp, by simp, ?_⟩
  simp only [go_sem] at hK hok
  simp (maxSteps := 4000000) only [go_sem, Try.f119, ↓brB_t, ↓brB_f, Nat.reduceAdd, Int.reduceLE, Int.reduceLT, Int.reduceNeg, decide_true, decide_false, Bool.and_self, Nat.succ_eq_add_one, Int.toNat_natCast, Nat.beq_refl, Bool.and_true, Bool.true_and, Bool.false_or, Bool.or_true, List.all_cons, List.all_nil, Nat.reduceMul, Nat.add_zero, Nat.zero_add, List.length_nil, List.length_cons, dite_true, List.nil_append, Nat.reduceBEq, reduceDIte, reduceIte, reduceCtorEq, Bool.or_false, Bool.true_or, Bool.and_false, Bool.false_and, Bool.not_true, Bool.not_false, Option.isSome_some, Option.isSome_none, Option.getD_some, List.getElem?_cons_zero, List.getElem?_cons_succ, eq_self, and_self, List.take_succ_cons, List.take_zero, List.drop_succ_cons, List.drop_zero]
  have hl := len_i hok.1.1
  clear hok
  refine loop_okF (T := tab []) [0, 1, 7, 8] [] (fun i : Nat => ⟨19, [(0, ri l), (1, vi x), (7, vi (l.length : Nat)), (8, vi i)], []⟩)
    (fun i => i ≤ l.length ∧ x ∉ l.take i) (fun i => l.length - i) 0 rfl rfl ⟨Nat.zero_le _, by simp⟩ (fun i hi => ?_)
  obtain ⟨hi, ht⟩ := hi
  simp only [go_sem, ↓brB_t, ↓brB_f, Nat.reduceAdd, Int.reduceLE, Int.reduceLT, Int.reduceNeg, decide_true, decide_false, Bool.and_self, Nat.succ_eq_add_one, Int.toNat_natCast, Nat.beq_refl, Bool.and_true, Bool.true_and, Bool.false_or, Bool.or_true, List.all_cons, List.all_nil, Nat.reduceMul, Nat.add_zero, Nat.zero_add, List.length_nil, List.length_cons, dite_true, List.nil_append, Nat.reduceBEq, reduceDIte, reduceIte, reduceCtorEq, Bool.or_false, Bool.true_or, Bool.and_false, Bool.false_and, Bool.not_true, Bool.not_false, Option.isSome_some, Option.isSome_none, Option.getD_some, List.getElem?_cons_zero, List.getElem?_cons_succ, eq_self, and_self, List.take_succ_cons, List.take_zero, List.drop_succ_cons, List.drop_zero]
  refine brB_intro (fun h1 => ?_) (fun h1 => ret0 ?_)
  · have h1 := of_decide_eq_true h1
    refine ⟨⟨by omega, by omega⟩, brB_intro (fun h2 => ret0 ?_) (fun h2 => ⟨i + 1, [], ⟨by omega, notin_s ht (by omega) (of_decide_eq_false h2)⟩, by omega, rfl, ?_⟩)⟩
    · rw [idxI_at ht (by omega) (of_decide_eq_true h2)] at hK; exact hK
    · rw [w64_s (n := l.length) (by omega) hl]; rfl
  · have h1 := of_decide_eq_false h1
    rw [List.take_of_length_le (by omega)] at ht
    rw [idxI_none ht] at hK; exact hK
def c_index : Ctr Try.prog := ⟨119, ent Try.func119 rfl rfl, [], sp_index, good_index, []⟩
@[go_sem] theorem c_index_f : c_index.f = 119 := rfl
@[go_sem] theorem c_index_ms : c_index.ms = [] := rfl
@[go_sem] theorem c_index_sp : c_index.spec = sp_index := rfl
@[go_sem] theorem c_index_fz : c_index.fz = [] := rfl
attribute [go_sem] sp_index
def pl1 (w : List Int) (x : Int) : Int := idxI w x
def pl2 (w : List Int) (x : Int) : Int := idxI w x + 1 + idxI (w.drop (idxI w x + 1).toNat) x
theorem pl_two {w : List Int} {x : Int} (h : w.count x = 2) : ∃ a b : Nat, a < b ∧ b < w.length ∧ pl1 w x = a ∧ pl2 w x = b ∧ idxI w x = a ∧ idxI (w.drop (a + 1)) x = (b : Int) - a - 1 ∧ w.getD a 0 = x ∧ w.getD b 0 = x ∧ ∀ j, j < w.length → w.getD j 0 = x → j = a ∨ j = b := by
  obtain ⟨a, b, ht⟩ := Go.Proofs.Ytbnmjhcokdhjmaa.L.two_of_count w x h
  have gr : ∀ j : Nat, w.getD j 0 = rd w j := fun j => by show _ = w.getD ((j : Int)).toNat 0; rw [Int.toNat_natCast]
  have ab := ht.ab
  have bl := ht.bl
  have e1 : idxI w x = a := by
    refine idxI_at (fun hm => ?_) (by omega) (by rw [gr, ht.ra])
    obtain ⟨j, hj, e⟩ := List.getElem_of_mem hm
    rw [List.length_take] at hj
    rw [List.getElem_take] at e
    rcases ht.only j (by omega) (by rw [← gr, getD_eq (by omega)]; exact e) with h | h <;> omega
  have e2 : idxI (w.drop (a + 1)) x = ((b - a - 1 : Nat) : Int) := by
    have hl : (w.drop (a + 1)).length = w.length - (a + 1) := List.length_drop ..
    have e4 : (w.drop (a + 1)).getD (b - a - 1) 0 = w.getD b 0 := by
      rw [List.getD_eq_getElem?_getD, List.getElem?_drop, show a + 1 + (b - a - 1) = b by omega, List.getD_eq_getElem?_getD]
    refine idxI_at (fun hm => ?_) (by omega) (by rw [e4, gr, ht.rb])
    obtain ⟨j, hj, e⟩ := List.getElem_of_mem hm
    rw [List.length_take] at hj
    rw [List.getElem_take, List.getElem_drop] at e
    rcases ht.only (a + 1 + j) (by omega) (by rw [← gr, getD_eq (by omega)]; exact e) with h | h <;> omega
  have e3 : ((a : Int) + 1).toNat = a + 1 := by omega
  refine ⟨a, b, ab, bl, e1, ?_, e1, by rw [e2]; omega, by rw [gr, ht.ra], by rw [gr, ht.rb], fun j hj e => ht.only j hj (by rw [← gr]; exact e)⟩
  rw [pl2, e1, e3, e2]
  omega
def sp_places : List Cv → List Obj' → Tree
  | [.one (.ro (.int .i64) w), .one (.v (.int .i64 x))], [] => .need (w.length < 1099511627776 ∧ (w : List Int).count x = 2) (.ret (.tup [.one (.v (.int .i64 (pl1 w x))), .one (.v (.int .i64 (pl2 w x)))]) [])
  | _, _ => .fail
theorem w64_places {a b n : Nat} (h : a < b) (hb : b < n) (hn : n < 1099511627776) : w64 ((a : Int) + 1) = ((a + 1 : Nat) : Int) ∧ w64 (((a + 1 : Nat) : Int) + ((b : Int) - a - 1)) = b := by
  refine ⟨by rw [w64_id (by omega) (by omega)]; omega, by rw [w64_id (by omega) (by omega)]; omega⟩
set_option maxHeartbeats 4000000 in
set_option maxRecDepth 100000 in
theorem good_places : Good Try.prog 83 sp_places := by
  refine good_ofF Try.func83 rfl _ rfl _ rfl (tab [c_index]) (fun X cs os0 K hok hos hK => ?_)
  clear hos; unfold sp_places at hK
  split at hK
  case h_2 => exact hK.elim
  rename_i w x
  refine ⟨by simp, by simp, ?_⟩
  simp only [go_sem] at hK hok
  simp (maxSteps := 4000000) only [go_sem, Try.f83, ↓brB_t, ↓brB_f, Nat.reduceAdd, Int.reduceLE, Int.reduceLT, Int.reduceNeg, decide_true, decide_false, Bool.and_self, Nat.succ_eq_add_one, Int.toNat_natCast, Nat.beq_refl, Bool.and_true, Bool.true_and, Bool.false_or, Bool.or_true, List.all_cons, List.all_nil, Nat.reduceMul, Nat.add_zero, Nat.zero_add, List.length_nil, List.length_cons, dite_true, List.nil_append, Nat.reduceBEq, reduceDIte, reduceIte, reduceCtorEq, Bool.or_false, Bool.true_or, Bool.and_false, Bool.false_and, Bool.not_true, Bool.not_false, Option.isSome_some, Option.isSome_none, Option.getD_some, List.getElem?_cons_zero, List.getElem?_cons_succ, eq_self, and_self, List.take_succ_cons, List.take_zero, List.drop_succ_cons, List.drop_zero]
  obtain ⟨⟨hl, hc⟩, hK⟩ := hK
  obtain ⟨a, b, ab, bl, p1, p2, e1, e2, _⟩ := pl_two hc
  have hw := w64_places ab bl hl
  rw [p1, p2] at hK
  clear hok
  simp only [e1, hw.1, Int.toNat_natCast, e2, hw.2]
  exact ⟨⟨by omega, by omega⟩, ret0 hK⟩
def c_places : Ctr Try.prog := ⟨83, ent Try.func83 rfl rfl, [], sp_places, good_places, []⟩
@[go_sem] theorem c_places_f : c_places.f = 83 := rfl
@[go_sem] theorem c_places_ms : c_places.ms = [] := rfl
@[go_sem] theorem c_places_sp : c_places.spec = sp_places := rfl
@[go_sem] theorem c_places_fz : c_places.fz = [] := rfl
attribute [go_sem] sp_places
def upTo (i a : Nat) : Int := if i ≤ a then -1 else a
def lastI (i a b : Nat) : Int := if i ≤ a then -1 else if i ≤ b then a else b
theorem upTo_k {i a : Nat} (h : i ≠ a) : upTo (i + 1) a = upTo i a := by unfold upTo; split <;> split <;> omega
theorem lastI_k {i a b : Nat} (h : i ≠ a) (h2 : i ≠ b) (ab : a < b) : lastI (i + 1) a b = lastI i a b := by unfold lastI; split <;> split <;> (try split) <;> (try split) <;> omega
theorem upTo_s {a : Nat} : upTo (a + 1) a = a := by unfold upTo; rw [if_neg (by omega)]
theorem lastI_a {a b : Nat} (ab : a < b) : lastI (a + 1) a b = a := by unfold lastI; rw [if_neg (by omega), if_pos (by omega)]
theorem lastI_b {a b : Nat} (ab : a < b) : lastI (b + 1) a b = b := by unfold lastI; rw [if_neg (by omega), if_neg (by omega)]
set_option maxHeartbeats 4000000 in
set_option maxRecDepth 100000 in
theorem good_l01Places : Good Try.prog 84 sp_places := by
  refine good_ofF Try.func84 rfl _ rfl _ rfl (tab []) (fun X cs os0 K hok hos hK => ?_)
  clear hos; unfold sp_places at hK
  split at hK
  case h_2 => exact hK.elim
  rename_i w x
  refine ⟨by simp, by simp, ?_⟩
  simp only [go_sem] at hK hok
  simp (maxSteps := 4000000) only [go_sem, Try.f84, ↓brB_t, ↓brB_f, Nat.reduceAdd, Int.reduceLE, Int.reduceLT, Int.reduceNeg, decide_true, decide_false, Bool.and_self, Nat.succ_eq_add_one, Int.toNat_natCast, Nat.beq_refl, Bool.and_true, Bool.true_and, Bool.false_or, Bool.or_true, List.all_cons, List.all_nil, Nat.reduceMul, Nat.add_zero, Nat.zero_add, List.length_nil, List.length_cons, dite_true, List.nil_append, Nat.reduceBEq, reduceDIte, reduceIte, reduceCtorEq, Bool.or_false, Bool.true_or, Bool.and_false, Bool.false_and, Bool.not_true, Bool.not_false, Option.isSome_some, Option.isSome_none, Option.getD_some, List.getElem?_cons_zero, List.getElem?_cons_succ, eq_self, and_self, List.take_succ_cons, List.take_zero, List.drop_succ_cons, List.drop_zero]
  obtain ⟨⟨hl, hc⟩, hK⟩ := hK
  obtain ⟨a, b, ab, bl, p1, p2, e1, e2, g1, g2, only⟩ := pl_two hc
  rw [p1, p2] at hK
  clear hok e1 e2
  refine loop_okF (T := tab []) [0, 1, 6, 7, 8] [] (fun i : Nat => ⟨27, [(0, ri w), (1, vi x), (6, vi (upTo i a)), (7, vi (lastI i a b)), (8, vi i)], []⟩)
    (fun i => i ≤ w.length) (fun i => w.length - i) 0 rfl rfl (Nat.zero_le _) (fun i hi => ?_)
  simp only [go_sem, ↓brB_t, ↓brB_f, Nat.reduceAdd, Int.reduceLE, Int.reduceLT, Int.reduceNeg, decide_true, decide_false, Bool.and_self, Nat.succ_eq_add_one, Int.toNat_natCast, Nat.beq_refl, Bool.and_true, Bool.true_and, Bool.false_or, Bool.or_true, List.all_cons, List.all_nil, Nat.reduceMul, Nat.add_zero, Nat.zero_add, List.length_nil, List.length_cons, dite_true, List.nil_append, Nat.reduceBEq, reduceDIte, reduceIte, reduceCtorEq, Bool.or_false, Bool.true_or, Bool.and_false, Bool.false_and, Bool.not_true, Bool.not_false, Option.isSome_some, Option.isSome_none, Option.getD_some, List.getElem?_cons_zero, List.getElem?_cons_succ, eq_self, and_self, List.take_succ_cons, List.take_zero, List.drop_succ_cons, List.drop_zero]
  refine brB_intro (fun h1 => ?_) (fun h1 => ret0 ?_)
  · have h1 := of_decide_eq_true h1
    have hs : w64 ((i : Int) + 1) = ((i + 1 : Nat) : Int) := w64_s (n := w.length) (by omega) (by omega)
    refine ⟨⟨by omega, by omega⟩, brB_intro (fun h2 => ?_) (fun h2 => brB_intro (fun h3 => ?_) (fun h3 => ?_))⟩
    · have h2 := of_decide_eq_false (nb h2)
      refine ⟨i + 1, [], by omega, by omega, rfl, ?_⟩
      rw [hs, upTo_k (fun e => h2 (by rw [e]; exact g1)), lastI_k (fun e => h2 (by rw [e]; exact g1)) (fun e => h2 (by rw [e]; exact g2)) ab]; rfl
    · have h2 := of_decide_eq_true (nb' h2)
      have h3 := of_decide_eq_true h3
      have e : i = a := by
        rcases only i (by omega) h2 with h | h
        · exact h
        · subst h; unfold upTo at h3; rw [if_neg (by omega)] at h3; omega
      refine ⟨i + 1, [], by omega, by omega, rfl, ?_⟩
      rw [hs, e, upTo_s, lastI_a ab]; rfl
    · have h2 := of_decide_eq_true (nb' h2)
      have h3 := of_decide_eq_false h3
      have e : i = b := by
        rcases only i (by omega) h2 with h | h
        · subst h; unfold upTo at h3; rw [if_pos (Nat.le_refl _)] at h3; omega
        · exact h
      refine ⟨i + 1, [], by omega, by omega, rfl, ?_⟩
      rw [hs, e, upTo_k (by omega), lastI_b ab]; rfl
  · have h1 := of_decide_eq_false h1
    have e : i = w.length := by omega
    have ea : upTo i a = a := by unfold upTo; rw [if_neg (by omega)]
    have eb : lastI i a b = b := by unfold lastI; rw [if_neg (by omega), if_neg (by omega)]
    rw [ea, eb]; exact hK
def c_l01Places : Ctr Try.prog := ⟨84, ent Try.func84 rfl rfl, [], sp_places, good_l01Places, []⟩
@[go_sem] theorem c_l01Places_f : c_l01Places.f = 84 := rfl
@[go_sem] theorem c_l01Places_ms : c_l01Places.ms = [] := rfl
@[go_sem] theorem c_l01Places_sp : c_l01Places.spec = sp_places := rfl
@[go_sem] theorem c_l01Places_fz : c_l01Places.fz = [] := rfl
attribute [go_sem] sp_places
end Go.Proofs.Ytbnmjhcokdhjmaa.V
