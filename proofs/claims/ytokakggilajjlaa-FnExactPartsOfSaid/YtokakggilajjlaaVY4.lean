/- Contracts: parts of words, by the program. Conditions: told by each spec. -/
import Derived.Test.YtokakggilajjlaaVY1
import Derived.Test.YtokakggilajjlaaVY2
import Derived.Test.YtokakggilajjlaaVY3
set_option linter.unusedVariables false
set_option linter.unusedSimpArgs false
namespace Go.Proofs.Ytokakggilajjlaa.V
open Go
noncomputable section
abbrev rwY (l : List Bool) : Obj' := .row 4 .bool l
abbrev tSS : Nat := 39
abbrev ptI (pt : List Nat) : List Int := pt.map fun k : Nat => (k : Int)
theorem ptI_get {pt : List Nat} {k : Nat} (h : k < pt.length) : (ptI pt).getD k 0 = ((pt.getD k 0 : Nat) : Int) := by
  rw [List.getD_eq_getElem?_getD, List.getElem?_map, List.getD_eq_getElem?_getD, List.getElem?_eq_getElem h]; rfl
theorem get_app {pt : List Nat} {b j : Nat} (h : j < pt.length) : (pt ++ [b]).getD j 0 = pt.getD j 0 := by
  rw [List.getD_eq_getElem?_getD, List.getD_eq_getElem?_getD, List.getElem?_append_left h]
theorem get_mem {pt : List Nat} {j : Nat} (h : j < pt.length) : pt.getD j 0 ∈ pt := by
  rw [List.getD_eq_getElem?_getD, List.getElem?_eq_getElem h]; exact List.getElem_mem h
/-- All that cross one of the first ones are found. -/
def Clo (r : Nat → Nat → Bool) (n : Nat) (pt : List Nat) (t : Nat) : Prop := ∀ j, j < t → ∀ b, b < n → r (pt.getD j 0) b = true → b ∈ pt
theorem Clo.add {r : Nat → Nat → Bool} {n : Nat} {pt : List Nat} {t b : Nat} (h : Clo r n pt t) (ht : t ≤ pt.length) : Clo r n (pt ++ [b]) t := fun j hj c hc hr => by
  rw [get_app (by omega)] at hr
  exact List.mem_append_left _ (h j hj c hc hr)
theorem Clo.all {r : Nat → Nat → Bool} {n : Nat} {pt : List Nat} (h : Clo r n pt pt.length) : ∀ a ∈ pt, ∀ b, b < n → r a b = true → b ∈ pt := fun a ha b hb hr => by
  obtain ⟨j, hj, rfl⟩ := List.getElem_of_mem ha
  refine h j hj b hb ?_
  rwa [List.getD_eq_getElem?_getD, List.getElem?_eq_getElem hj]
/-- What PartsOf gives. -/
def partsR (w : List Int) : RowL × Int := if isW w then (partsL (fun a b => crB w a b) (w.length / 2) (w.length / 2), 0) else ([], 1)
def sp_parts : List Cv → List Obj' → Tree
  | [.one (.ro (.int .i64) w)], [] => .ret (.tup [.one (.own 0), .one (.v (.int .i64 (partsR w).2))]) [.drow 39 (.sl 2 (.int .i64)) (partsR w).1]
  | _, _ => .fail
theorem partsL_s {r : Nat → Nat → Bool} {n m : Nat} (h : ¬ seenP r n m m) : partsL r n (m + 1) = partsL r n m ++ [compL r n m] := if_neg h
theorem partsL_k {r : Nat → Nat → Bool} {n m : Nat} (h : seenP r n m m) : partsL r n (m + 1) = partsL r n m := if_pos h
theorem partsL_len (r : Nat → Nat → Bool) (n : Nat) : ∀ m, (partsL r n m).length ≤ m
  | 0 => Nat.le_refl _
  | m + 1 => by
    have := partsL_len r n m
    by_cases h : seenP r n m m
    · rw [partsL_k h]; omega
    · rw [partsL_s h, List.length_append, List.length_singleton]; omega
set_option maxHeartbeats 4000000 in
set_option maxRecDepth 100000 in
theorem good_partsI : Good Try.prog 42 sp_parts := by
  refine good_ofF Try.func42 rfl _ rfl _ rfl (tab [c_IsWord, c_chords, c_cross, c_sort]) (fun X cs os0 K hok hos hK => ?_)
  clear hos; unfold sp_parts at hK
  split at hK
  case h_2 => exact hK.elim
  rename_i w
  refine ⟨by simp, by simp, ?_⟩
  simp only [go_sem] at hK hok
  simp (maxSteps := 4000000) only [go_sem, Try.f42, ↓brB_t, ↓brB_f, Nat.reduceAdd, Int.reduceLE, Int.reduceLT, Int.reduceNeg, decide_true, decide_false, Bool.and_self, Nat.succ_eq_add_one, Int.toNat_natCast, Nat.beq_refl, Bool.and_true, Bool.true_and, Bool.false_or, Bool.or_true, List.all_cons, List.all_nil, Nat.reduceMul, Nat.add_zero, Nat.zero_add, List.length_nil, List.length_cons, dite_true, List.nil_append, Nat.reduceBEq, reduceDIte, reduceIte, reduceCtorEq, Bool.or_false, Bool.true_or, Bool.and_false, Bool.false_and, Bool.not_true, Bool.not_false, Option.isSome_some, Option.isSome_none, Option.getD_some, List.getElem?_cons_zero, List.getElem?_cons_succ, eq_self, and_self, List.take_succ_cons, List.take_zero, List.drop_succ_cons, List.drop_zero]
  clear hok
  refine brB_intro (fun h1 => ?_) (fun h1 => ?_)
  · have e : partsR w = ([], 1) := by rw [partsR, if_neg (by rw [nb h1]; decide)]
    rw [e] at hK
    exact retM [⟨.reg 2 0, 16, tSS, kR⟩] rfl (retN [16] rfl hK)
  have h1 := nb' h1
  have er : partsR w = (partsL (fun a b => crB w a b) (w.length / 2) (w.length / 2), 0) := by rw [partsR, if_pos h1]
  rw [er] at hK
  have hl := y_len h1
  have two := fun (j : Nat) (hj : j < w.length / 2) => y_two h1 (i := (j : Int)) (by omega) (by omega)
  have hs : ∀ a b, a < w.length / 2 → b < w.length / 2 → (fun a b : Nat => crB w a b) a b = (fun a b : Nat => crB w a b) b a := fun a b ha hb => cr_symm (two a ha) (two b hb)
  generalize hr : (fun a b : Nat => crB w a b) = r at *
  have hrv : ∀ a b : Nat, crB w a b = r a b := fun a b => by rw [← hr]
  generalize hn : w.length / 2 = n at *
  refine ⟨⟨by omega, by omega, trivial⟩, ?_⟩
  refine loop_okF (T := tab [c_IsWord, c_chords, c_cross, c_sort]) [0, 4, 5, 6, 19, 20] [(16, 288), (17, 304)] (fun i : Nat => ⟨72, [(0, ri w), (4, vi n), (5, ow 16), (6, ow 17), (19, vi n), (20, vi i)], [(16, rwY (boolL n (seenP r n i))), (17, .drow tSS kR (partsL r n i))]⟩)
    (fun i => i ≤ n) (fun i => n - i) 0 rfl (by rw [show boolL n (seenP r n 0) = List.replicate n false by rw [boolL_none]; exact boolL_eq fun k _ => ⟨fun ⟨j, hj, _⟩ => absurd hj (Nat.not_lt_zero j), False.elim⟩]; rfl) (Nat.zero_le _) (fun i hi => ?_)
  simp only [go_sem, ↓brB_t, ↓brB_f, Nat.reduceAdd, Int.reduceLE, Int.reduceLT, Int.reduceNeg, decide_true, decide_false, Bool.and_self, Nat.succ_eq_add_one, Int.toNat_natCast, Nat.beq_refl, Bool.and_true, Bool.true_and, Bool.false_or, Bool.or_true, List.all_cons, List.all_nil, Nat.reduceMul, Nat.add_zero, Nat.zero_add, List.length_nil, List.length_cons, dite_true, List.nil_append, Nat.reduceBEq, reduceDIte, reduceIte, reduceCtorEq, Bool.or_false, Bool.true_or, Bool.and_false, Bool.false_and, Bool.not_true, Bool.not_false, Option.isSome_some, Option.isSome_none, Option.getD_some, List.getElem?_cons_zero, List.getElem?_cons_succ, eq_self, and_self, List.take_succ_cons, List.take_zero, List.drop_succ_cons, List.drop_zero]
  rw [boolL_len]
  refine brB_intro (fun h2 => ?_) (fun h2 => retN [17] rfl ?_)
  · have h2 := of_decide_eq_true h2
    have hin : i < n := by omega
    have hw1 : w64 ((i : Int) + 1) = ((i + 1 : Nat) : Int) := w64_s hin (by omega)
    refine ⟨⟨by omega, by omega⟩, brB_intro (fun h3 => ?_) (fun h3 => ?_)⟩
    · have h3 := (boolL_at hin).1 h3
      refine ⟨i + 1, [(16, 16), (17, 17)], by omega, by omega, rfl, ?_⟩
      rw [hw1, partsL_k h3, boolL_eq fun k _ => seen_skip h3]
      rfl
    · have h3 := (boolL_no hin).1 h3
      rw [boolL_set hin, show boolL n (fun j => seenP r n i j ∨ j = i) = boolL n (fun j => seenP r n i j ∨ j ∈ [i]) from boolL_eq fun k _ => by rw [List.mem_singleton]]
      refine ⟨⟨by omega, by omega⟩, ?_⟩
      refine loop_okF (T := tab [c_IsWord, c_chords, c_cross, c_sort]) [0, 4, 5, 6, 7, 8, 9, 19, 20] [(16, 16), (17, 17), (18, 512)] (fun x : List Nat × Nat => ⟨72, [(0, ri w), (4, vi n), (5, ow 16), (6, ow 17), (7, vi i), (8, ow 18), (9, vi x.2), (19, vi n), (20, vi i)], [(16, rwY (boolL n fun j => seenP r n i j ∨ j ∈ x.1)), (17, .drow tSS kR (partsL r n i)), (18, rwi (ptI x.1))]⟩)
        (fun x => Fnd r n i x.1 ∧ x.2 ≤ x.1.length ∧ Clo r n x.1 x.2) (fun x => n - x.2) ([i], 0) rfl rfl ⟨Fnd.one i, by simp, fun j hj => absurd hj (Nat.not_lt_zero j)⟩ (fun x hx => ?_)
      obtain ⟨pt, t⟩ := x
      obtain ⟨hf, ht, hc⟩ := hx
      have hf : Fnd r n i pt := hf
      have ht : t ≤ pt.length := ht
      have hc : Clo r n pt t := hc
      have hpl := hf.len hin
      simp only [go_sem, ↓brB_t, ↓brB_f, Nat.reduceAdd, Int.reduceLE, Int.reduceLT, Int.reduceNeg, decide_true, decide_false, Bool.and_self, Nat.succ_eq_add_one, Int.toNat_natCast, Nat.beq_refl, Bool.and_true, Bool.true_and, Bool.false_or, Bool.or_true, List.all_cons, List.all_nil, Nat.reduceMul, Nat.add_zero, Nat.zero_add, List.length_nil, List.length_cons, dite_true, List.nil_append, Nat.reduceBEq, reduceDIte, reduceIte, reduceCtorEq, Bool.or_false, Bool.true_or, Bool.and_false, Bool.false_and, Bool.not_true, Bool.not_false, Option.isSome_some, Option.isSome_none, Option.getD_some, List.getElem?_cons_zero, List.getElem?_cons_succ, eq_self, and_self, List.take_succ_cons, List.take_zero, List.drop_succ_cons, List.drop_zero]
      rw [List.length_map]
      refine brB_intro (fun h4 => ?_) (fun h4 => ?_)
      · have h4 := of_decide_eq_true h4
        refine loop_okF (T := tab [c_IsWord, c_chords, c_cross, c_sort]) [0, 4, 5, 6, 7, 8, 9, 19, 20, 38, 39] [(16, 16), (17, 17), (18, 18)] (fun x : List Nat × Nat => ⟨72, [(0, ri w), (4, vi n), (5, ow 16), (6, ow 17), (7, vi i), (8, ow 18), (9, vi t), (19, vi n), (20, vi i), (38, vi n), (39, vi x.2)], [(16, rwY (boolL n fun j => seenP r n i j ∨ j ∈ x.1)), (17, .drow tSS kR (partsL r n i)), (18, rwi (ptI x.1))]⟩)
          (fun x => Fnd r n i x.1 ∧ t < x.1.length ∧ Clo r n x.1 t ∧ x.2 ≤ n ∧ ∀ b, b < x.2 → r (x.1.getD t 0) b = true → b ∈ x.1) (fun x => n - x.2) (pt, 0) rfl rfl ⟨hf, by show t < pt.length; omega, hc, Nat.zero_le _, fun b hb => absurd hb (Nat.not_lt_zero b)⟩ (fun x hx => ?_)
        clear hf ht hc hpl h4
        obtain ⟨pt, k⟩ := x
        obtain ⟨hf, ht, hc, hk, hd⟩ := hx
        have hf : Fnd r n i pt := hf
        have ht : t < pt.length := ht
        have hc : Clo r n pt t := hc
        have hk : k ≤ n := hk
        have hd : ∀ b, b < k → r (pt.getD t 0) b = true → b ∈ pt := hd
        have hpl := hf.len hin
        have hmt := get_mem ht
        have hlt := hf.lt hin _ hmt
        simp only [go_sem, ↓brB_t, ↓brB_f, Nat.reduceAdd, Int.reduceLE, Int.reduceLT, Int.reduceNeg, decide_true, decide_false, Bool.and_self, Nat.succ_eq_add_one, Int.toNat_natCast, Nat.beq_refl, Bool.and_true, Bool.true_and, Bool.false_or, Bool.or_true, List.all_cons, List.all_nil, Nat.reduceMul, Nat.add_zero, Nat.zero_add, List.length_nil, List.length_cons, dite_true, List.nil_append, Nat.reduceBEq, reduceDIte, reduceIte, reduceCtorEq, Bool.or_false, Bool.true_or, Bool.and_false, Bool.false_and, Bool.not_true, Bool.not_false, Option.isSome_some, Option.isSome_none, Option.getD_some, List.getElem?_cons_zero, List.getElem?_cons_succ, eq_self, and_self, List.take_succ_cons, List.take_zero, List.drop_succ_cons, List.drop_zero]
        rw [boolL_len, List.length_map, ptI_get ht]
        refine brB_intro (fun h5 => ?_) (fun h5 => ?_)
        · have h5 := of_decide_eq_true h5
          have hkn : k < n := by omega
          have hk1 : w64 ((k : Int) + 1) = ((k + 1 : Nat) : Int) := w64_s hkn (by omega)
          rw [hk1]
          refine ⟨⟨by omega, by omega⟩, brB_intro (fun h6 => ⟨⟨by omega, by omega⟩, ⟨by omega, two _ hlt, two k hkn⟩, brB_intro (fun h7 => ?_) (fun h7 => ?_)⟩) (fun h6 => ?_)⟩
          · have h6 := (boolL_no hkn).1 (nb h6)
            have hn1 : k ∉ pt := fun h => h6 (.inr h)
            rw [hrv] at h7
            rw [boolL_set hkn, show boolL n (fun j => (seenP r n i j ∨ j ∈ pt) ∨ j = k) = boolL n (fun j => seenP r n i j ∨ j ∈ pt ++ [k]) from boolL_eq fun j _ => by rw [List.mem_append, List.mem_singleton, or_assoc]]
            refine ⟨⟨by omega, by omega⟩, by omega, (pt ++ [k], k + 1), [(16, 16), (17, 17), (18, 1008)], ⟨hf.add hmt hkn h7 hn1, by show t < (pt ++ [k]).length; rw [List.length_append]; omega, hc.add (by omega), by show k + 1 ≤ n; omega, fun b hb hr' => ?_⟩, by show n - (k + 1) < n - k; omega, rfl, ?_⟩
            · have hb : b < k + 1 := hb
              have hr' : r ((pt ++ [k]).getD t 0) b = true := hr'
              rw [get_app ht] at hr'
              show b ∈ pt ++ [k]
              by_cases e : b = k
              · rw [e]; simp
              · exact List.mem_append_left _ (hd b (by omega) hr')
            · rw [show ptI (pt ++ [k]) = ptI pt ++ [(k : Int)] from List.map_append]
              rfl
          · rw [hrv] at h7
            refine ⟨(pt, k + 1), [(16, 16), (17, 17), (18, 18)], ⟨hf, ht, hc, by show k + 1 ≤ n; omega, fun b hb hr' => ?_⟩, by show n - (k + 1) < n - k; omega, rfl, rfl⟩
            have hb : b < k + 1 := hb
            by_cases e : b = k
            · subst e
              have hr' : r (pt.getD t 0) b = true := hr'
              rw [h7] at hr'; cases hr'
            · exact hd b (by omega) hr'
          · have h6 := (boolL_at hkn).1 (nb' h6)
            refine ⟨(pt, k + 1), [(16, 16), (17, 17), (18, 18)], ⟨hf, ht, hc, by show k + 1 ≤ n; omega, fun b hb hr' => ?_⟩, by show n - (k + 1) < n - k; omega, rfl, rfl⟩
            have hb : b < k + 1 := hb
            by_cases e : b = k
            · subst e
              exact h6.resolve_left (seen_apart hs hin h3 ((hf.all _ hmt).step hkn hr'))
            · exact hd b (by omega) hr'
        · have h5 := of_decide_eq_false h5
          have ek : k = n := by omega
          subst ek
          rw [show w64 ((t : Int) + 1) = ((t + 1 : Nat) : Int) from w64_s (n := pt.length) ht (by omega)]
          refine ⟨(pt, t + 1), [(16, 16), (17, 17), (18, 18)], ⟨hf, ht, fun j hj b hb hr' => ?_⟩, by show k - (t + 1) < k - t; omega, rfl, rfl⟩
          have hj : j < t + 1 := hj
          by_cases e : j = t
          · subst e; exact hd b hb hr'
          · exact hc j (by omega) b hb hr'
      · have h4 := of_decide_eq_false h4
        have e : t = pt.length := by omega
        subst e
        have hdn : ∀ k, k ∈ pt ↔ Rch r n i k := hf.done hc.all
        have hpl2 := partsL_len r n i
        rw [comp_sort hin hf.nodup hdn, ← partsL_s h3, hw1, show boolL n (fun j => seenP r n i j ∨ j ∈ pt) = boolL n (seenP r n (i + 1)) from boolL_eq fun k _ => by rw [seen_s, hdn k]]
        exact ⟨by omega, by omega, i + 1, [(16, 16), (17, 1120)], by omega, by omega, rfl, rfl⟩
  · have h2 := of_decide_eq_false h2
    have e : i = n := by omega
    rw [e]; exact hK
def c_partsI : Ctr Try.prog := ⟨42, ent Try.func42 rfl rfl, [], sp_parts, good_partsI, []⟩
@[go_sem] theorem c_partsI_f : c_partsI.f = 42 := rfl
@[go_sem] theorem c_partsI_ms : c_partsI.ms = [] := rfl
@[go_sem] theorem c_partsI_sp : c_partsI.spec = sp_parts := rfl
@[go_sem] theorem c_partsI_fz : c_partsI.fz = [] := rfl
attribute [go_sem] sp_parts
end
end Go.Proofs.Ytokakggilajjlaa.V
