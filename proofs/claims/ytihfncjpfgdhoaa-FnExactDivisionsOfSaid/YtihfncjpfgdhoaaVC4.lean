/- Contracts: lists of coefficients, bits of a code. Conditions: told by each spec. -/
import Derived.Test.YtihfncjpfgdhoaaVC3
set_option linter.unusedVariables false
set_option linter.unusedSimpArgs false
namespace Go.Proofs.Ytihfncjpfgdhoaa.V
open Go
/-! ### lists without zeros at their end -/
def trimL (f : List Int) : List Int := (f.reverse.dropWhile (· == 0)).reverse
theorem trim_nil : trimL [] = [] := rfl
theorem trim_zero (f : List Int) : trimL (f ++ [0]) = trimL f := by simp [trimL]
theorem trim_stop (f : List Int) {x : Int} (h : x ≠ 0) : trimL (f ++ [x]) = f ++ [x] := by simp [trimL, h]
theorem trim_len (f : List Int) : (trimL f).length ≤ f.length := by
  unfold trimL
  rw [List.length_reverse]
  have := (List.dropWhile_sublist (l := f.reverse) (· == 0)).length_le
  simpa using this
theorem snoc_ind {p : List Int → Prop} (h0 : p []) (h1 : ∀ f x, p f → p (f ++ [x])) : ∀ f, p f := by
  intro f
  have : ∀ g : List Int, p g.reverse := by
    intro g
    induction g with
    | nil => exact h0
    | cons x g ih => rw [List.reverse_cons]; exact h1 _ _ ih
  rw [← List.reverse_reverse f]; exact this _
theorem gD_snoc (f : List Int) (x : Int) (i : Nat) : (f ++ [x]).getD i 0 = if i = f.length then x else f.getD i 0 := by
  simp only [List.getD_eq_getElem?_getD, List.getElem?_append]
  split
  · rw [if_neg (by omega)]
  · split
    · rename_i e; rw [e]; simp
    · rw [List.getElem?_eq_none (by simp; omega), List.getElem?_eq_none (by omega)]
theorem gD_out {f : List Int} {i : Nat} (h : f.length ≤ i) : f.getD i 0 = 0 := by
  rw [List.getD_eq_getElem?_getD, List.getElem?_eq_none h]; rfl
theorem trim_get : ∀ (f : List Int) (i : Nat), (trimL f).getD i 0 = f.getD i 0 := by
  refine snoc_ind (fun i => rfl) (fun f x ih i => ?_)
  by_cases h : x = 0
  · rw [h, trim_zero, ih, gD_snoc]
    split
    · rename_i e; rw [e, gD_out (Nat.le_refl _)]
    · rfl
  · rw [trim_stop _ h]
theorem trim_last : ∀ (f : List Int), trimL f = [] ∨ (trimL f).getD ((trimL f).length - 1) 0 ≠ 0 := by
  refine snoc_ind (.inl rfl) (fun f x ih => ?_)
  by_cases h : x = 0
  · rw [h, trim_zero]; exact ih
  · right
    rw [trim_stop _ h, gD_snoc, if_pos (by simp)]; exact h
theorem trim_eq {f g : List Int} (h : ∀ i, f.getD i 0 = g.getD i 0) : trimL f = trimL g := by
  have h' : ∀ i, (trimL f).getD i 0 = (trimL g).getD i 0 := fun i => by rw [trim_get, trim_get, h]
  have key : ∀ {a b : List Int}, (b = [] ∨ b.getD (b.length - 1) 0 ≠ 0) → (∀ i, a.getD i 0 = b.getD i 0) → b.length ≤ a.length := by
    intro a b hb hab
    rcases hb with e | e
    · rw [e]; exact Nat.zero_le _
    · refine Nat.le_of_not_lt fun hlt => e ?_
      rw [← hab, gD_out (by omega)]
  have l1 := key (trim_last g) h'
  have l2 := key (trim_last f) (fun i => (h' i).symm)
  refine List.ext_getElem (by omega) (fun i h1 h2 => ?_)
  have := h' i
  rwa [getD_eq h1, getD_eq h2] at this
theorem take_s1 {f : List Int} {n : Nat} (h : n < f.length) : f.take (n + 1) = f.take n ++ [f.getD n 0] := by
  rw [List.take_succ_eq_append_getElem h, getD_eq h]
theorem trim_s {f : List Int} {n : Nat} (h : n < f.length) (h0 : f.getD n 0 = 0) : trimL (f.take (n + 1)) = trimL (f.take n) := by
  rw [take_s1 h, h0, trim_zero]
theorem trim_t {f : List Int} {n : Nat} (h : n < f.length) (h0 : f.getD n 0 ≠ 0) : trimL (f.take (n + 1)) = f.take (n + 1) := by
  rw [take_s1 h, trim_stop _ h0]
/-! ### trimmed -/
def sp_trimmed : List Cv → List Obj' → Tree
  | [.one (.own 0)], [.row t (.int .i64) l] => .br (decide (trimL l = l)) (.ret (ow 0) [.row t (.int .i64) l]) (.ret (ow 1) [.dead, .row t (.int .i64) (trimL l)])
  | _, _ => .fail
theorem trim_short {l : List Int} {n : Nat} (h : n < l.length) (ht : trimL (l.take n) = trimL l) : ¬ trimL l = l := fun e => by
  have := trim_len (l.take n)
  rw [ht, e, List.length_take] at this
  omega
set_option maxHeartbeats 4000000 in
set_option maxRecDepth 100000 in
theorem good_trimmed : Good Try.prog 117 sp_trimmed := by
  refine good_ofF Try.func117 rfl _ rfl _ rfl (tab []) (fun X cs os0 K hok hos hK => ?_)
  unfold sp_trimmed at hK
  split at hK
  case h_2 => exact hK.elim
  rename_i t l
  refine ⟨by simp, by simp, ?_⟩
  simp only [go_sem] at hK hok hos
  simp (maxSteps := 4000000) only [go_sem, Try.f117, ↓brB_t, ↓brB_f, Nat.reduceAdd, Int.reduceLE, Int.reduceLT, Int.reduceNeg, decide_true, decide_false, Bool.and_self, Nat.succ_eq_add_one, Int.toNat_natCast, Nat.beq_refl, Bool.and_true, Bool.true_and, Bool.false_or, Bool.or_true, List.all_cons, List.all_nil, Nat.reduceMul, Nat.add_zero, Nat.zero_add, List.length_nil, List.length_cons, dite_true, List.nil_append, Nat.reduceBEq, reduceDIte, reduceIte, reduceCtorEq, Bool.or_false, Bool.true_or, Bool.and_false, Bool.false_and, Bool.not_true, Bool.not_false, Option.isSome_some, Option.isSome_none, Option.getD_some, List.getElem?_cons_zero, List.getElem?_cons_succ, eq_self, and_self, List.take_succ_cons, List.take_zero, List.drop_succ_cons, List.drop_zero]
  have hl := len_i hos.1.1
  clear hok hos
  refine loop_okF (T := tab []) [0] [(0, 0)] (fun x : Option Nat => match x with
      | none => ⟨21, [(0, ow 0)], [(0, .row t (.int .i64) l)]⟩
      | some n => ⟨21, [(0, ow 16)], [(0, .dead), (16, .row t (.int .i64) ((l : List Int).take n))]⟩)
    (fun x => match x with
      | none => True
      | some n => n < l.length ∧ trimL ((l : List Int).take n) = trimL l) (fun x => match x with
      | none => l.length
      | some n => n) none rfl rfl trivial (fun x hx => ?_)
  cases x with
  | none =>
    simp only [go_sem, ↓brB_t, ↓brB_f, Nat.reduceAdd, Int.reduceLE, Int.reduceLT, Int.reduceNeg, decide_true, decide_false, Bool.and_self, Nat.succ_eq_add_one, Int.toNat_natCast, Nat.beq_refl, Bool.and_true, Bool.true_and, Bool.false_or, Bool.or_true, List.all_cons, List.all_nil, Nat.reduceMul, Nat.add_zero, Nat.zero_add, List.length_nil, List.length_cons, dite_true, List.nil_append, Nat.reduceBEq, reduceDIte, reduceIte, reduceCtorEq, Bool.or_false, Bool.true_or, Bool.and_false, Bool.false_and, Bool.not_true, Bool.not_false, Option.isSome_some, Option.isSome_none, Option.getD_some, List.getElem?_cons_zero, List.getElem?_cons_succ, eq_self, and_self, List.take_succ_cons, List.take_zero, List.drop_succ_cons, List.drop_zero]
    refine brB_intro (fun h1 => ?_) (fun h1 => ?_)
    · have h1 := of_decide_eq_true h1
      obtain ⟨m, hm⟩ : ∃ m, l.length = m + 1 := ⟨l.length - 1, by omega⟩
      rw [hm, show w64 (((m + 1 : Nat) : Int) - 1) = (m : Int) by rw [w64_id (by omega) (by omega)]; omega]
      rw [Int.toNat_natCast]
      have ht : trimL ((l : List Int).take (m + 1)) = trimL l := by rw [← hm, List.take_length]
      refine ⟨⟨by omega, by omega⟩, brB_intro (fun h2 => ?_) (fun h2 => ?_)⟩
      · have h2 := of_decide_eq_true h2
        rw [trim_s (by omega) h2] at ht
        exact ⟨⟨by omega, by omega⟩, some m, [(0, 0), (16, 320)], ⟨by omega, ht⟩, by show m < m + 1; omega, rfl, rfl⟩
      · have h2 := of_decide_eq_false h2
        rw [trim_t (by omega) h2, ← hm, List.take_length] at ht
        rw [decide_eq_true ht.symm] at hK
        exact retN [0] rfl hK
    · have h1 := of_decide_eq_false h1
      have e : (l : List Int) = [] := List.eq_nil_of_length_eq_zero (by omega)
      rw [decide_eq_true (by rw [e]; rfl : trimL (l : List Int) = l)] at hK
      exact retN [0] rfl hK
  | some n =>
    obtain ⟨hn, ht⟩ := hx
    have hll : ((l : List Int).take n).length = n := by rw [List.length_take]; omega
    have hf : decide (trimL (l : List Int) = l) = false := decide_eq_false (trim_short hn ht)
    rw [hf] at hK
    simp only [go_sem, ↓brB_t, ↓brB_f, Nat.reduceAdd, Int.reduceLE, Int.reduceLT, Int.reduceNeg, decide_true, decide_false, Bool.and_self, Nat.succ_eq_add_one, Int.toNat_natCast, Nat.beq_refl, Bool.and_true, Bool.true_and, Bool.false_or, Bool.or_true, List.all_cons, List.all_nil, Nat.reduceMul, Nat.add_zero, Nat.zero_add, List.length_nil, List.length_cons, dite_true, List.nil_append, Nat.reduceBEq, reduceDIte, reduceIte, reduceCtorEq, Bool.or_false, Bool.true_or, Bool.and_false, Bool.false_and, Bool.not_true, Bool.not_false, Option.isSome_some, Option.isSome_none, Option.getD_some, List.getElem?_cons_zero, List.getElem?_cons_succ, eq_self, and_self, List.take_succ_cons, List.take_zero, List.drop_succ_cons, List.drop_zero]
    simp only [hll]
    refine brB_intro (fun h1 => ?_) (fun h1 => ?_)
    · have h1 := of_decide_eq_true h1
      obtain ⟨m, rfl⟩ : ∃ m, n = m + 1 := ⟨n - 1, by omega⟩
      rw [show w64 (((m + 1 : Nat) : Int) - 1) = (m : Int) by rw [w64_id (by omega) (by omega)]; omega]
      have hg : ((l : List Int).take (m + 1)).getD m 0 = (l : List Int).getD m 0 := by
        rw [List.getD_eq_getElem?_getD, List.getElem?_take, if_pos (by omega), List.getD_eq_getElem?_getD]
      rw [Int.toNat_natCast, hg, List.take_take, Nat.min_eq_left (by omega : m ≤ m + 1)]
      refine ⟨⟨by omega, by omega⟩, brB_intro (fun h2 => ?_) (fun h2 => ?_)⟩
      · have h2 := of_decide_eq_true h2
        rw [trim_s (by omega) h2] at ht
        exact ⟨⟨by omega, by omega⟩, some m, [(0, 0), (16, 320)], ⟨by omega, ht⟩, by show m < m + 1; omega, rfl, rfl⟩
      · have h2 := of_decide_eq_false h2
        rw [trim_t (by omega) h2] at ht
        rw [← ht] at hK
        exact retN [0, 16] rfl hK
    · have h1 := of_decide_eq_false h1
      have e : n = 0 := by omega
      subst e
      rw [← ht] at hK
      exact retN [0, 16] rfl hK
def c_trimmed : Ctr Try.prog := ⟨117, ent Try.func117 rfl rfl, [true], sp_trimmed, good_trimmed, []⟩
@[go_sem] theorem c_trimmed_f : c_trimmed.f = 117 := rfl
@[go_sem] theorem c_trimmed_ms : c_trimmed.ms = [true] := rfl
@[go_sem] theorem c_trimmed_sp : c_trimmed.spec = sp_trimmed := rfl
@[go_sem] theorem c_trimmed_fz : c_trimmed.fz = [] := rfl
attribute [go_sem] sp_trimmed
def sp_l05Trim : List Cv → List Obj' → Tree
  | [.one (.ro (.int .i64) l)], [] => .need (l.length ≤ 1048576) (.ret (ow 0) [rwi (trimL l)])
  | _, _ => .fail
set_option maxHeartbeats 4000000 in
set_option maxRecDepth 100000 in
theorem good_l05Trim : Good Try.prog 128 sp_l05Trim := by
  refine good_ofF Try.func128 rfl _ rfl _ rfl (tab [c_own]) (fun X cs os0 K hok hos hK => ?_)
  clear hos; unfold sp_l05Trim at hK
  split at hK
  case h_2 => exact hK.elim
  rename_i l
  refine ⟨by simp, by simp, ?_⟩
  simp only [go_sem] at hK hok
  simp (maxSteps := 4000000) only [go_sem, Try.f128, ↓brB_t, ↓brB_f, Nat.reduceAdd, Int.reduceLE, Int.reduceLT, Int.reduceNeg, decide_true, decide_false, Bool.and_self, Nat.succ_eq_add_one, Int.toNat_natCast, Nat.beq_refl, Bool.and_true, Bool.true_and, Bool.false_or, Bool.or_true, List.all_cons, List.all_nil, Nat.reduceMul, Nat.add_zero, Nat.zero_add, List.length_nil, List.length_cons, dite_true, List.nil_append, Nat.reduceBEq, reduceDIte, reduceIte, reduceCtorEq, Bool.or_false, Bool.true_or, Bool.and_false, Bool.false_and, Bool.not_true, Bool.not_false, Option.isSome_some, Option.isSome_none, Option.getD_some, List.getElem?_cons_zero, List.getElem?_cons_succ, eq_self, and_self, List.take_succ_cons, List.take_zero, List.drop_succ_cons, List.drop_zero]
  obtain ⟨hl, hK⟩ := hK
  clear hok
  refine loop_okF (T := tab [c_own]) [0, 3] [] (fun n : Nat => ⟨22, [(0, ri l), (3, vi n)], []⟩)
    (fun n => n ≤ l.length ∧ trimL ((l : List Int).take n) = trimL l) (fun n => n) l.length rfl rfl ⟨Nat.le_refl _, by rw [List.take_length]⟩ (fun n hn => ?_)
  obtain ⟨hn, ht⟩ := hn
  simp only [go_sem, ↓brB_t, ↓brB_f, Nat.reduceAdd, Int.reduceLE, Int.reduceLT, Int.reduceNeg, decide_true, decide_false, Bool.and_self, Nat.succ_eq_add_one, Int.toNat_natCast, Nat.beq_refl, Bool.and_true, Bool.true_and, Bool.false_or, Bool.or_true, List.all_cons, List.all_nil, Nat.reduceMul, Nat.add_zero, Nat.zero_add, List.length_nil, List.length_cons, dite_true, List.nil_append, Nat.reduceBEq, reduceDIte, reduceIte, reduceCtorEq, Bool.or_false, Bool.true_or, Bool.and_false, Bool.false_and, Bool.not_true, Bool.not_false, Option.isSome_some, Option.isSome_none, Option.getD_some, List.getElem?_cons_zero, List.getElem?_cons_succ, eq_self, and_self, List.take_succ_cons, List.take_zero, List.drop_succ_cons, List.drop_zero]
  refine brB_intro (fun h1 => ?_) (fun h1 => ?_)
  · have h1 := of_decide_eq_true h1
    obtain ⟨m, rfl⟩ : ∃ m, n = m + 1 := ⟨n - 1, by omega⟩
    rw [show w64 (((m + 1 : Nat) : Int) - 1) = (m : Int) by rw [w64_id (by omega) (by omega)]; omega]
    rw [Int.toNat_natCast]
    refine ⟨⟨by omega, by omega⟩, brB_intro (fun h2 => ?_) (fun h2 => ?_)⟩
    · have h2 := of_decide_eq_true h2
      rw [trim_s (by omega) h2] at ht
      exact ⟨m, [], ⟨by omega, ht⟩, by omega, rfl, rfl⟩
    · have h2 := of_decide_eq_false h2
      rw [trim_t (by omega) h2] at ht
      rw [← ht] at hK
      exact ⟨⟨by omega, by omega⟩, by rw [List.length_take]; omega, retN [352] rfl hK⟩
  · have h1 := of_decide_eq_false h1
    have e : n = 0 := by omega
    subst e
    rw [← ht] at hK
    exact ⟨⟨by omega, by omega⟩, by rw [List.length_take]; omega, retN [352] rfl hK⟩
def c_l05Trim : Ctr Try.prog := ⟨128, ent Try.func128 rfl rfl, [], sp_l05Trim, good_l05Trim, []⟩
@[go_sem] theorem c_l05Trim_f : c_l05Trim.f = 128 := rfl
@[go_sem] theorem c_l05Trim_ms : c_l05Trim.ms = [] := rfl
@[go_sem] theorem c_l05Trim_sp : c_l05Trim.spec = sp_l05Trim := rfl
@[go_sem] theorem c_l05Trim_fz : c_l05Trim.fz = [] := rfl
attribute [go_sem] sp_l05Trim
theorem w64_add1 {a b : Int} (h1 : -1048576 ≤ a ∧ a ≤ 1048576) (h2 : -1048576 ≤ b ∧ b ≤ 1048576) : w64 (a + b) = a + b := w64_id (by omega) (by omega)
def sp_weights : List Cv → List Obj' → Tree
  | [.one (.own 0), .one (.v (.int .i64 p)), .one (.v (.int .i64 x))], [.row t (.int .i64) l] => .need ((0 ≤ p ∧ p < l.length) ∧ (-1048576 ≤ (l : List Int).getD p.toNat 0 ∧ (l : List Int).getD p.toNat 0 ≤ 1048576) ∧ -1048576 ≤ x ∧ x ≤ 1048576) (.ret (.tup []) [.row t (.int .i64) ((l : List Int).set p.toNat ((l : List Int).getD p.toNat 0 + x))])
  | _, _ => .fail
set_option maxHeartbeats 4000000 in
set_option maxRecDepth 100000 in
theorem good_weights : Good Try.prog 131 sp_weights := by
  refine good_ofF Try.func131 rfl _ rfl _ rfl (tab []) (fun X cs os0 K hok hos hK => ?_)
  unfold sp_weights at hK
  split at hK
  case h_2 => exact hK.elim
  rename_i p x t l
  refine ⟨by simp, by simp, ?_⟩
  simp only [go_sem] at hK hok hos
  simp (maxSteps := 4000000) only [go_sem, Try.f131, ↓brB_t, ↓brB_f, Nat.reduceAdd, Int.reduceLE, Int.reduceLT, Int.reduceNeg, decide_true, decide_false, Bool.and_self, Nat.succ_eq_add_one, Int.toNat_natCast, Nat.beq_refl, Bool.and_true, Bool.true_and, Bool.false_or, Bool.or_true, List.all_cons, List.all_nil, Nat.reduceMul, Nat.add_zero, Nat.zero_add, List.length_nil, List.length_cons, dite_true, List.nil_append, Nat.reduceBEq, reduceDIte, reduceIte, reduceCtorEq, Bool.or_false, Bool.true_or, Bool.and_false, Bool.false_and, Bool.not_true, Bool.not_false, Option.isSome_some, Option.isSome_none, Option.getD_some, List.getElem?_cons_zero, List.getElem?_cons_succ, eq_self, and_self, List.take_succ_cons, List.take_zero, List.drop_succ_cons, List.drop_zero]
  obtain ⟨⟨h1, h2, h3⟩, hK⟩ := hK
  rw [w64_add1 h2 h3]
  exact ⟨h1, h1, retN [0] rfl hK⟩
def c_weights : Ctr Try.prog := ⟨131, ent Try.func131 rfl rfl, [true, false, false], sp_weights, good_weights, []⟩
@[go_sem] theorem c_weights_f : c_weights.f = 131 := rfl
@[go_sem] theorem c_weights_ms : c_weights.ms = [true, false, false] := rfl
@[go_sem] theorem c_weights_sp : c_weights.spec = sp_weights := rfl
@[go_sem] theorem c_weights_fz : c_weights.fz = [] := rfl
attribute [go_sem] sp_weights
def sp_tw1 : List Cv → List Obj' → Tree
  | [.one (.v (.int .i64 i)), .one (.elr (.int .i64) [c] 0 0)], [] => .need (0 ≤ i) (.ret (vb (decide (andK .i64 (shrI .i64 c i) 1 = 1))) [])
  | _, _ => .fail
set_option maxHeartbeats 4000000 in
set_option maxRecDepth 100000 in
theorem good_tw1 : Good Try.prog 133 sp_tw1 := by
  refine good_ofF Try.func133 rfl _ rfl _ rfl (tab []) (fun X cs os0 K hok hos hK => ?_)
  clear hos; unfold sp_tw1 at hK
  split at hK
  case h_2 => exact hK.elim
  rename_i i c
  refine ⟨by simp, by simp, ?_⟩
  simp only [go_sem] at hK hok
  simp (maxSteps := 4000000) only [go_sem, Try.f133, ↓brB_t, ↓brB_f, Nat.reduceAdd, Int.reduceLE, Int.reduceLT, Int.reduceNeg, decide_true, decide_false, Bool.and_self, Nat.succ_eq_add_one, Int.toNat_natCast, Nat.beq_refl, Bool.and_true, Bool.true_and, Bool.false_or, Bool.or_true, List.all_cons, List.all_nil, Nat.reduceMul, Nat.add_zero, Nat.zero_add, List.length_nil, List.length_cons, dite_true, List.nil_append, Nat.reduceBEq, reduceDIte, reduceIte, reduceCtorEq, Bool.or_false, Bool.true_or, Bool.and_false, Bool.false_and, Bool.not_true, Bool.not_false, Option.isSome_some, Option.isSome_none, Option.getD_some, List.getElem?_cons_zero, List.getElem?_cons_succ, eq_self, and_self, List.take_succ_cons, List.take_zero, List.drop_succ_cons, List.drop_zero]
  exact ⟨hK.1, ret0 hK.2⟩
def sp_we1 : List Cv → List Obj' → Tree
  | [.one (.v (.int .i64 m))], [] => .need (0 ≤ m ∧ m ≤ 1048576) (.ret (vi (1 - 2 * (m % 2))) [])
  | _, _ => .fail
set_option maxHeartbeats 4000000 in
set_option maxRecDepth 100000 in
theorem good_we1 : Good Try.prog 119 sp_we1 := by
  refine good_ofF Try.func119 rfl _ rfl _ rfl (tab []) (fun X cs os0 K hok hos hK => ?_)
  clear hos; unfold sp_we1 at hK
  split at hK
  case h_2 => exact hK.elim
  rename_i m
  refine ⟨by simp, by simp, ?_⟩
  simp only [go_sem] at hK hok
  simp (maxSteps := 4000000) only [go_sem, Try.f119, ↓brB_t, ↓brB_f, Nat.reduceAdd, Int.reduceLE, Int.reduceLT, Int.reduceNeg, decide_true, decide_false, Bool.and_self, Nat.succ_eq_add_one, Int.toNat_natCast, Nat.beq_refl, Bool.and_true, Bool.true_and, Bool.false_or, Bool.or_true, List.all_cons, List.all_nil, Nat.reduceMul, Nat.add_zero, Nat.zero_add, List.length_nil, List.length_cons, dite_true, List.nil_append, Nat.reduceBEq, reduceDIte, reduceIte, reduceCtorEq, Bool.or_false, Bool.true_or, Bool.and_false, Bool.false_and, Bool.not_true, Bool.not_false, Option.isSome_some, Option.isSome_none, Option.getD_some, List.getElem?_cons_zero, List.getElem?_cons_succ, eq_self, and_self, List.take_succ_cons, List.take_zero, List.drop_succ_cons, List.drop_zero]
  obtain ⟨h1, hK⟩ := hK
  refine ⟨by decide, ret0 ?_⟩
  rw [Int.tmod_eq_emod_of_nonneg h1.1, w64_id (x := 2 * (m % 2)) (by omega) (by omega), w64_id (by omega) (by omega)]
  exact hK
/-! ### powers, sums -/
def powL (n : Nat) : List Int := List.replicate n 0 ++ [1]
theorem powL_trim (n : Nat) : trimL (powL n) = powL n := trim_stop _ (by decide)
theorem powL_get (n i : Nat) : (powL n).getD i 0 = if i = n then 1 else 0 := by
  rw [powL, gD_snoc, List.length_replicate, gD_rep]
theorem powL_set (n : Nat) : (List.replicate (n + 1) (0 : Int)).set n 1 = powL n := by
  rw [powL, List.replicate_succ', List.set_append_right _ _ (by simp), List.length_replicate, Nat.sub_self]; rfl
def sp_l05Power : List Cv → List Obj' → Tree
  | [.one (.v (.int .i64 n)), .one (.v (.int .i64 k))], [] => .need ((0 ≤ n ∧ n ≤ 1048000) ∧ k = 1) (.ret (ow 0) [rwi (powL n.toNat)])
  | _, _ => .fail
set_option maxHeartbeats 4000000 in
set_option maxRecDepth 100000 in
theorem good_l05Power : Good Try.prog 111 sp_l05Power := by
  refine good_ofF Try.func111 rfl _ rfl _ rfl (tab [c_l05Trim]) (fun X cs os0 K hok hos hK => ?_)
  clear hos; unfold sp_l05Power at hK
  split at hK
  case h_2 => exact hK.elim
  rename_i n k
  refine ⟨by simp, by simp, ?_⟩
  simp only [go_sem] at hK hok
  simp (maxSteps := 4000000) only [go_sem, Try.f111, ↓brB_t, ↓brB_f, Nat.reduceAdd, Int.reduceLE, Int.reduceLT, Int.reduceNeg, decide_true, decide_false, Bool.and_self, Nat.succ_eq_add_one, Int.toNat_natCast, Nat.beq_refl, Bool.and_true, Bool.true_and, Bool.false_or, Bool.or_true, List.all_cons, List.all_nil, Nat.reduceMul, Nat.add_zero, Nat.zero_add, List.length_nil, List.length_cons, dite_true, List.nil_append, Nat.reduceBEq, reduceDIte, reduceIte, reduceCtorEq, Bool.or_false, Bool.true_or, Bool.and_false, Bool.false_and, Bool.not_true, Bool.not_false, Option.isSome_some, Option.isSome_none, Option.getD_some, List.getElem?_cons_zero, List.getElem?_cons_succ, eq_self, and_self, List.take_succ_cons, List.take_zero, List.drop_succ_cons, List.drop_zero]
  obtain ⟨⟨⟨h0, h1⟩, rfl⟩, hK⟩ := hK
  clear hok
  rw [w64_id (by omega) (by omega)]
  have e : (n + 1).toNat = n.toNat + 1 := by omega
  rw [e, powL_set, powL_trim, List.length_replicate]
  refine ⟨⟨by omega, by omega, trivial⟩, ⟨by omega, by omega⟩, by rw [powL]; simp; omega, retN [240] rfl hK⟩
def c_l05Power : Ctr Try.prog := ⟨111, ent Try.func111 rfl rfl, [], sp_l05Power, good_l05Power, []⟩
@[go_sem] theorem c_l05Power_f : c_l05Power.f = 111 := rfl
@[go_sem] theorem c_l05Power_ms : c_l05Power.ms = [] := rfl
@[go_sem] theorem c_l05Power_sp : c_l05Power.spec = sp_l05Power := rfl
@[go_sem] theorem c_l05Power_fz : c_l05Power.fz = [] := rfl
attribute [go_sem] sp_l05Power
def plusL (f g : List Int) (k : Int) : List Int := (List.range (max f.length g.length)).map fun i => f.getD i 0 + k * g.getD i 0
theorem plusL_get (f g : List Int) (k : Int) (i : Nat) : (plusL f g k).getD i 0 = f.getD i 0 + k * g.getD i 0 := by
  by_cases h : i < max f.length g.length
  · rw [getD_eq (by rw [plusL]; simp; omega)]
    simp [plusL]
  · rw [gD_out (by rw [plusL]; simp; omega), gD_out (by omega), gD_out (by omega)]; simp
/-- A row of given length. -/
def mr (M : Nat) (p : Nat → Int) : List Int := (List.range M).map p
theorem mr_len (M : Nat) (p : Nat → Int) : (mr M p).length = M := by simp [mr]
theorem mr_eq {M : Nat} {p q : Nat → Int} (h : ∀ j, j < M → p j = q j) : mr M p = mr M q := List.map_congr_left fun j hj => h j (List.mem_range.1 hj)
theorem mr_get {M i : Nat} {p : Nat → Int} (h : i < M) : (mr M p).getD i 0 = p i := by
  rw [getD_eq (by rw [mr_len]; exact h)]; simp [mr]
theorem mr_zero {M : Nat} {p : Nat → Int} (h : ∀ j, j < M → p j = 0) : mr M p = List.replicate M 0 := by
  refine List.ext_getElem (by rw [mr_len, List.length_replicate]) (fun j h1 h2 => ?_)
  rw [mr_len] at h1
  rw [List.getElem_replicate]
  simp only [mr, List.getElem_map, List.getElem_range]; exact h j h1
theorem mr_set {M i : Nat} {p q : Nat → Int} (h : ∀ j, j < M → j ≠ i → p j = q j) : (mr M p).set i (q i) = mr M q := by
  refine List.ext_getElem (by rw [List.length_set, mr_len, mr_len]) (fun j h1 h2 => ?_)
  rw [mr_len] at h2
  rw [List.getElem_set]
  simp only [mr, List.getElem_map, List.getElem_range]
  split
  · rename_i e; rw [e]
  · rename_i e; exact h j h2 (fun k => e k.symm)
def sp_l05Plus : List Cv → List Obj' → Tree
  | [.one (.ro (.int .i64) f), .one (.ro (.int .i64) g), .one (.v (.int .i64 k))], [] => .need ((f.length ≤ 1048576 ∧ g.length ≤ 1048576) ∧ (∀ i, -1048576 ≤ (f : List Int).getD i 0 ∧ (f : List Int).getD i 0 ≤ 1048576) ∧ (∀ i, -1048576 ≤ k * (g : List Int).getD i 0 ∧ k * (g : List Int).getD i 0 ≤ 1048576)) (.ret (ow 0) [rwi (trimL (plusL f g k))])
  | _, _ => .fail
set_option maxHeartbeats 4000000 in
set_option maxRecDepth 100000 in
theorem good_l05Plus : Good Try.prog 114 sp_l05Plus := by
  refine good_ofF Try.func114 rfl _ rfl _ rfl (tab [c_l05Trim]) (fun X cs os0 K hok hos hK => ?_)
  clear hos; unfold sp_l05Plus at hK
  split at hK
  case h_2 => exact hK.elim
  rename_i f g k
  refine ⟨by simp, by simp, ?_⟩
  simp only [go_sem] at hK hok
  simp (maxSteps := 4000000) only [go_sem, Try.f114, ↓brB_t, ↓brB_f, Nat.reduceAdd, Int.reduceLE, Int.reduceLT, Int.reduceNeg, decide_true, decide_false, Bool.and_self, Nat.succ_eq_add_one, Int.toNat_natCast, Nat.beq_refl, Bool.and_true, Bool.true_and, Bool.false_or, Bool.or_true, List.all_cons, List.all_nil, Nat.reduceMul, Nat.add_zero, Nat.zero_add, List.length_nil, List.length_cons, dite_true, List.nil_append, Nat.reduceBEq, reduceDIte, reduceIte, reduceCtorEq, Bool.or_false, Bool.true_or, Bool.and_false, Bool.false_and, Bool.not_true, Bool.not_false, Option.isSome_some, Option.isSome_none, Option.getD_some, List.getElem?_cons_zero, List.getElem?_cons_succ, eq_self, and_self, List.take_succ_cons, List.take_zero, List.drop_succ_cons, List.drop_zero]
  obtain ⟨⟨⟨h0, h1⟩, h2, h3⟩, hK⟩ := hK
  clear hok
  have em : mx (f.length : Int) (g.length : Int) = ((max f.length g.length : Nat) : Int) := by unfold mx; split <;> omega
  rw [em]
  refine ⟨⟨by omega, by omega, trivial⟩, ?_⟩
  rw [Int.toNat_natCast]
  refine loop_okF (T := tab [c_l05Trim]) [0, 1, 2, 7, 8] [(16, 256)] (fun i : Nat => ⟨51, [(0, ri f), (1, ri g), (2, vi k), (7, ow 16), (8, vi i)], [(16, rwi (mr (max f.length g.length) (fun j => if j < i then (f : List Int).getD j 0 else 0)))]⟩)
    (fun i => i ≤ f.length) (fun i => f.length - i) 0 rfl (by rw [mr_zero (fun j _ => by rw [if_neg (Nat.not_lt_zero j)])]; rfl) (Nat.zero_le _) (fun i hi => ?_)
  simp only [go_sem, ↓brB_t, ↓brB_f, Nat.reduceAdd, Int.reduceLE, Int.reduceLT, Int.reduceNeg, decide_true, decide_false, Bool.and_self, Nat.succ_eq_add_one, Int.toNat_natCast, Nat.beq_refl, Bool.and_true, Bool.true_and, Bool.false_or, Bool.or_true, List.all_cons, List.all_nil, Nat.reduceMul, Nat.add_zero, Nat.zero_add, List.length_nil, List.length_cons, dite_true, List.nil_append, Nat.reduceBEq, reduceDIte, reduceIte, reduceCtorEq, Bool.or_false, Bool.true_or, Bool.and_false, Bool.false_and, Bool.not_true, Bool.not_false, Option.isSome_some, Option.isSome_none, Option.getD_some, List.getElem?_cons_zero, List.getElem?_cons_succ, eq_self, and_self, List.take_succ_cons, List.take_zero, List.drop_succ_cons, List.drop_zero]
  rw [mr_len]
  refine brB_intro (fun h4 => ?_) (fun h4 => ?_)
  · have h4 := of_decide_eq_true h4
    rw [show w64 ((i : Int) + 1) = ((i + 1 : Nat) : Int) from wN (by omega) (by omega)]
    refine ⟨⟨by omega, by omega⟩, ⟨by omega, by omega⟩, i + 1, [(16, 16)], by omega, by omega, rfl, ?_⟩
    have e := mr_set (M := max f.length g.length) (i := i) (p := fun j => if j < i then (f : List Int).getD j 0 else 0) (q := fun j => if j < i + 1 then (f : List Int).getD j 0 else 0) (fun j _ hj => by
      show (if j < i then _ else _) = (if j < i + 1 then _ else _)
      by_cases h : j < i
      · rw [if_pos h, if_pos (by omega)]
      · rw [if_neg h, if_neg (by omega)])
    rw [if_pos (Nat.lt_succ_self i)] at e
    rw [e]; rfl
  · have h4 := of_decide_eq_false h4
    have e1 : mr (max f.length g.length) (fun j => if j < i then (f : List Int).getD j 0 else 0) = mr (max f.length g.length) (fun j => (f : List Int).getD j 0 + if j < 0 then k * (g : List Int).getD j 0 else 0) := mr_eq (fun j _ => by
      rw [if_neg (Nat.not_lt_zero j), Int.add_zero]
      by_cases h : j < i
      · rw [if_pos h]
      · rw [if_neg h, gD_out (by omega)])
    rw [e1]
    refine loop_okF (T := tab [c_l05Trim]) [1, 2, 7, 9] [(16, 16)] (fun i : Nat => ⟨51, [(1, ri g), (2, vi k), (7, ow 16), (9, vi i)], [(16, rwi (mr (max f.length g.length) (fun j => (f : List Int).getD j 0 + if j < i then k * (g : List Int).getD j 0 else 0)))]⟩)
      (fun i => i ≤ g.length) (fun i => g.length - i) 0 rfl rfl (Nat.zero_le _) (fun i hi => ?_)
    simp only [go_sem, ↓brB_t, ↓brB_f, Nat.reduceAdd, Int.reduceLE, Int.reduceLT, Int.reduceNeg, decide_true, decide_false, Bool.and_self, Nat.succ_eq_add_one, Int.toNat_natCast, Nat.beq_refl, Bool.and_true, Bool.true_and, Bool.false_or, Bool.or_true, List.all_cons, List.all_nil, Nat.reduceMul, Nat.add_zero, Nat.zero_add, List.length_nil, List.length_cons, dite_true, List.nil_append, Nat.reduceBEq, reduceDIte, reduceIte, reduceCtorEq, Bool.or_false, Bool.true_or, Bool.and_false, Bool.false_and, Bool.not_true, Bool.not_false, Option.isSome_some, Option.isSome_none, Option.getD_some, List.getElem?_cons_zero, List.getElem?_cons_succ, eq_self, and_self, List.take_succ_cons, List.take_zero, List.drop_succ_cons, List.drop_zero]
    rw [mr_len]
    refine brB_intro (fun h5 => ?_) (fun h5 => ?_)
    · have h5 := of_decide_eq_true h5
      rw [show w64 ((i : Int) + 1) = ((i + 1 : Nat) : Int) from wN (by omega) (by omega), mr_get (by omega), if_neg (Nat.lt_irrefl i), Int.add_zero]
      rw [show w64 (k * (g : List Int).getD i 0) = k * (g : List Int).getD i 0 from w64_id (by have := (h3 i).1; omega) (by have := (h3 i).2; omega), w64_add1 (h2 i) (h3 i)]
      refine ⟨⟨by omega, by omega⟩, ⟨by omega, by omega⟩, ⟨by omega, by omega⟩, by kernel_rfl, i + 1, [(16, 16)], by omega, by omega, rfl, ?_⟩
      have e := mr_set (M := max f.length g.length) (i := i) (p := fun j => (f : List Int).getD j 0 + if j < i then k * (g : List Int).getD j 0 else 0) (q := fun j => (f : List Int).getD j 0 + if j < i + 1 then k * (g : List Int).getD j 0 else 0) (fun j _ hj => by
        show _ + (if j < i then _ else _) = _ + (if j < i + 1 then _ else _)
        by_cases h : j < i
        · rw [if_pos h, if_pos (by omega)]
        · rw [if_neg h, if_neg (by omega)])
      rw [if_pos (Nat.lt_succ_self i)] at e
      rw [e]; rfl
    · have h5 := of_decide_eq_false h5
      have e2 : mr (max f.length g.length) (fun j => (f : List Int).getD j 0 + if j < i then k * (g : List Int).getD j 0 else 0) = plusL f g k := mr_eq (fun j _ => by
        by_cases h : j < i
        · rw [if_pos h]
        · rw [if_neg h, gD_out (f := g) (by omega), Int.mul_zero])
      rw [e2]
      exact ⟨by omega, retN [816] rfl hK⟩
def c_l05Plus : Ctr Try.prog := ⟨114, ent Try.func114 rfl rfl, [], sp_l05Plus, good_l05Plus, []⟩
@[go_sem] theorem c_l05Plus_f : c_l05Plus.f = 114 := rfl
@[go_sem] theorem c_l05Plus_ms : c_l05Plus.ms = [] := rfl
@[go_sem] theorem c_l05Plus_sp : c_l05Plus.spec = sp_l05Plus := rfl
@[go_sem] theorem c_l05Plus_fz : c_l05Plus.fz = [] := rfl
attribute [go_sem] sp_l05Plus
end Go.Proofs.Ytihfncjpfgdhoaa.V
