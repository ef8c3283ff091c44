/- Contracts: parts of words, by the reference. Conditions: told by each spec. -/
import Derived.Test.YtokakggilajjlaaVY4
set_option linter.unusedVariables false
set_option linter.unusedSimpArgs false
namespace Go.Proofs.Ytokakggilajjlaa.V
open Go
noncomputable section
def rB (rows : RowL) (a b : Nat) : Bool := decide ((rows.getD a []).getD b 0 = 1)
def okRw (rows : RowL) : Prop := rows.length ≤ 1000 ∧ ∀ i, i < rows.length → (rows.getD i []).length = rows.length
open Classical in
def compTo (r : Nat → Nat → Bool) (n i a : Nat) : List Int := ((List.range a).filter fun k => decide (Rch r n i k)).map fun k : Nat => (k : Int)
theorem compTo_t {r : Nat → Nat → Bool} {n i a : Nat} (h : Rch r n i a) : compTo r n i (a + 1) = compTo r n i a ++ [(a : Int)] := by
  rw [compTo, List.range_succ, List.filter_append, List.map_append, List.filter_cons_of_pos (by simpa using h)]; rfl
theorem compTo_f {r : Nat → Nat → Bool} {n i a : Nat} (h : ¬ Rch r n i a) : compTo r n i (a + 1) = compTo r n i a := by
  rw [compTo, List.range_succ, List.filter_append, List.map_append, List.filter_cons_of_neg (by simpa using h), List.filter_nil, List.map_nil, List.append_nil]; rfl
theorem compTo_len (r : Nat → Nat → Bool) (n i a : Nat) : (compTo r n i a).length ≤ a := by
  rw [compTo, List.length_map]
  have := List.length_filter_le (fun k => @decide (Rch r n i k) (Classical.propDecidable _)) (List.range a)
  rwa [List.length_range] at this
def sp_l02Parts : List Cv → List Obj' → Tree
  | [.one (.ro (.sl 2 (.int .i64)) rows)], [] => .need (okRw rows) (.ret (.val (.one (.own 0))) [.drow 39 (.sl 2 (.int .i64)) (partsL (rB rows) (rows : RowL).length (rows : RowL).length)])
  | _, _ => .fail
set_option maxHeartbeats 4000000 in
set_option maxRecDepth 100000 in
theorem good_l02Parts : Good Try.prog 102 sp_l02Parts := by
  refine good_ofF Try.func102 rfl _ rfl _ rfl (tab []) (fun X cs os0 K hok hos hK => ?_)
  clear hos; unfold sp_l02Parts at hK
  split at hK
  case h_2 => exact hK.elim
  rename_i rows
  refine ⟨by simp, by simp, ?_⟩
  simp only [go_sem] at hK hok
  simp (maxSteps := 4000000) only [go_sem, Try.f102, ↓brB_t, ↓brB_f, Nat.reduceAdd, Int.reduceLE, Int.reduceLT, Int.reduceNeg, decide_true, decide_false, Bool.and_self, Nat.succ_eq_add_one, Int.toNat_natCast, Nat.beq_refl, Bool.and_true, Bool.true_and, Bool.false_or, Bool.or_true, List.all_cons, List.all_nil, Nat.reduceMul, Nat.add_zero, Nat.zero_add, List.length_nil, List.length_cons, dite_true, List.nil_append, Nat.reduceBEq, reduceDIte, reduceIte, reduceCtorEq, Bool.or_false, Bool.true_or, Bool.and_false, Bool.false_and, Bool.not_true, Bool.not_false, Option.isSome_some, Option.isSome_none, Option.getD_some, List.getElem?_cons_zero, List.getElem?_cons_succ, eq_self, and_self, List.take_succ_cons, List.take_zero, List.drop_succ_cons, List.drop_zero]
  obtain ⟨⟨hl, hw⟩, hK⟩ := hK
  clear hok
  generalize hr : rB rows = r at *
  have hrv : ∀ a b : Nat, decide ((rows.getD a []).getD b 0 = 1) = r a b := fun a b => by rw [← hr]; rfl
  generalize hn : (rows : RowL).length = n at *
  refine ⟨⟨by omega, by omega, trivial⟩, ?_⟩
  refine loop_okF (T := tab []) [0, 3, 4, 5] [(16, 240), (17, 256)] (fun i : Nat => ⟨92, [(0, .val (.one (.ro kR rows))), (3, ow 16), (4, ow 17), (5, vi i)], [(16, rwY (boolL n (seenP r n i))), (17, .drow tSS kR (partsL r n i))]⟩)
    (fun i => i ≤ n) (fun i => n - i) 0 rfl (by rw [show boolL n (seenP r n 0) = List.replicate n false by rw [boolL_none]; exact boolL_eq fun k _ => ⟨fun ⟨j, hj, _⟩ => absurd hj (Nat.not_lt_zero j), False.elim⟩]; rfl) (Nat.zero_le _) (fun i hi => ?_)
  simp only [go_sem, ↓brB_t, ↓brB_f, Nat.reduceAdd, Int.reduceLE, Int.reduceLT, Int.reduceNeg, decide_true, decide_false, Bool.and_self, Nat.succ_eq_add_one, Int.toNat_natCast, Nat.beq_refl, Bool.and_true, Bool.true_and, Bool.false_or, Bool.or_true, List.all_cons, List.all_nil, Nat.reduceMul, Nat.add_zero, Nat.zero_add, List.length_nil, List.length_cons, dite_true, List.nil_append, Nat.reduceBEq, reduceDIte, reduceIte, reduceCtorEq, Bool.or_false, Bool.true_or, Bool.and_false, Bool.false_and, Bool.not_true, Bool.not_false, Option.isSome_some, Option.isSome_none, Option.getD_some, List.getElem?_cons_zero, List.getElem?_cons_succ, eq_self, and_self, List.take_succ_cons, List.take_zero, List.drop_succ_cons, List.drop_zero]
  rw [boolL_len, hn]
  refine brB_intro (fun h2 => ?_) (fun h2 => retN [17] rfl ?_)
  · have h2 := of_decide_eq_true h2
    have hin : i < n := by omega
    have hw1 : w64 ((i : Int) + 1) = ((i + 1 : Nat) : Int) := w64_s hin (by omega)
    refine ⟨⟨by omega, by omega⟩, brB_intro (fun h3 => ?_) (fun h3 => ?_)⟩
    · have h3 := (boolL_at hin).1 h3
      refine ⟨i + 1, [(16, 16), (17, 17)], by omega, by omega, rfl, ?_⟩
      rw [hw1, partsL_k h3, boolL_eq fun k _ => seen_skip h3]
      rfl
    · have h3 := (boolL_no hin).1 h3
      rw [boolL_none, boolL_len, boolL_set hin, show boolL n (fun j => False ∨ j = i) = boolL n (· ∈ [i]) from boolL_eq fun k _ => by simp]
      refine ⟨⟨by omega, by omega, trivial⟩, ⟨by omega, by omega⟩, ?_⟩
      refine loop_okF (T := tab []) [0, 3, 4, 5, 6, 7] [(16, 16), (17, 17), (18, 464)] (fun x : List Nat × Bool => ⟨92, [(0, .val (.one (.ro kR rows))), (3, ow 16), (4, ow 17), (5, vi i), (6, ow 18), (7, vb x.2)], [(16, rwY (boolL n (seenP r n i))), (17, .drow tSS kR (partsL r n i)), (18, rwY (boolL n (· ∈ x.1)))]⟩)
        (fun x => Fnd r n i x.1 ∧ (x.2 = false → ∀ a ∈ x.1, ∀ b, b < n → r a b = true → b ∈ x.1)) (fun x => 2 * (n - x.1.length) + (if x.2 then 1 else 0)) ([i], true) rfl rfl ⟨Fnd.one i, fun h => by cases h⟩ (fun x hx => ?_)
      obtain ⟨pt, m⟩ := x
      obtain ⟨hf, hm⟩ := hx
      have hf : Fnd r n i pt := hf
      have hm : m = false → ∀ a ∈ pt, ∀ b, b < n → r a b = true → b ∈ pt := hm
      have hpl := hf.len hin
      simp only [go_sem, ↓brB_t, ↓brB_f, Nat.reduceAdd, Int.reduceLE, Int.reduceLT, Int.reduceNeg, decide_true, decide_false, Bool.and_self, Nat.succ_eq_add_one, Int.toNat_natCast, Nat.beq_refl, Bool.and_true, Bool.true_and, Bool.false_or, Bool.or_true, List.all_cons, List.all_nil, Nat.reduceMul, Nat.add_zero, Nat.zero_add, List.length_nil, List.length_cons, dite_true, List.nil_append, Nat.reduceBEq, reduceDIte, reduceIte, reduceCtorEq, Bool.or_false, Bool.true_or, Bool.and_false, Bool.false_and, Bool.not_true, Bool.not_false, Option.isSome_some, Option.isSome_none, Option.getD_some, List.getElem?_cons_zero, List.getElem?_cons_succ, eq_self, and_self, List.take_succ_cons, List.take_zero, List.drop_succ_cons, List.drop_zero]
      refine brB_intro (fun h4 => ?_) (fun h4 => ?_)
      · refine loop_okF (T := tab []) [0, 3, 4, 5, 6, 7, 8] [(16, 16), (17, 17), (18, 18)] (fun x : List Nat × Bool × Nat => ⟨92, [(0, .val (.one (.ro kR rows))), (3, ow 16), (4, ow 17), (5, vi i), (6, ow 18), (7, vb x.2.1), (8, vi x.2.2)], [(16, rwY (boolL n (seenP r n i))), (17, .drow tSS kR (partsL r n i)), (18, rwY (boolL n (· ∈ x.1)))]⟩)
          (fun x => Fnd r n i x.1 ∧ x.2.2 ≤ n ∧ (x.2.1 = true → pt.length < x.1.length) ∧ (x.2.1 = false → x.1 = pt ∧ ∀ a, a < x.2.2 → a ∈ pt → ∀ b, b < n → r a b = true → b ∈ pt)) (fun x => n - x.2.2) (pt, false, 0) rfl rfl ⟨hf, Nat.zero_le _, (fun h => by cases h), fun _ => ⟨rfl, fun a ha => absurd ha (Nat.not_lt_zero a)⟩⟩ (fun x hx => ?_)
        obtain ⟨qt, m', a⟩ := x
        obtain ⟨gf, ga, gt, gn⟩ := hx
        have gf : Fnd r n i qt := gf
        have ga : a ≤ n := ga
        have gt : m' = true → pt.length < qt.length := gt
        have gn : m' = false → qt = pt ∧ ∀ c, c < a → c ∈ pt → ∀ b, b < n → r c b = true → b ∈ pt := gn
        simp only [go_sem, ↓brB_t, ↓brB_f, Nat.reduceAdd, Int.reduceLE, Int.reduceLT, Int.reduceNeg, decide_true, decide_false, Bool.and_self, Nat.succ_eq_add_one, Int.toNat_natCast, Nat.beq_refl, Bool.and_true, Bool.true_and, Bool.false_or, Bool.or_true, List.all_cons, List.all_nil, Nat.reduceMul, Nat.add_zero, Nat.zero_add, List.length_nil, List.length_cons, dite_true, List.nil_append, Nat.reduceBEq, reduceDIte, reduceIte, reduceCtorEq, Bool.or_false, Bool.true_or, Bool.and_false, Bool.false_and, Bool.not_true, Bool.not_false, Option.isSome_some, Option.isSome_none, Option.getD_some, List.getElem?_cons_zero, List.getElem?_cons_succ, eq_self, and_self, List.take_succ_cons, List.take_zero, List.drop_succ_cons, List.drop_zero]
        rw [hn]
        refine brB_intro (fun h5 => ?_) (fun h5 => ?_)
        · have h5 := of_decide_eq_true h5
          have han : a < n := by omega
          have ha1 : w64 ((a : Int) + 1) = ((a + 1 : Nat) : Int) := w64_s han (by omega)
          refine loop_okF (T := tab []) [0, 3, 4, 5, 6, 7, 8, 9] [(16, 16), (17, 17), (18, 18)] (fun x : List Nat × Bool × Nat => ⟨92, [(0, .val (.one (.ro kR rows))), (3, ow 16), (4, ow 17), (5, vi i), (6, ow 18), (7, vb x.2.1), (8, vi a), (9, vi x.2.2)], [(16, rwY (boolL n (seenP r n i))), (17, .drow tSS kR (partsL r n i)), (18, rwY (boolL n (· ∈ x.1)))]⟩)
            (fun x => Fnd r n i x.1 ∧ x.2.2 ≤ n ∧ (x.2.1 = true → pt.length < x.1.length) ∧ (x.2.1 = false → x.1 = pt ∧ (∀ c, c < a → c ∈ pt → ∀ b, b < n → r c b = true → b ∈ pt) ∧ ∀ b, b < x.2.2 → a ∈ pt → r a b = true → b ∈ pt)) (fun x => n - x.2.2) (qt, m', 0) rfl rfl ⟨gf, Nat.zero_le _, gt, fun h => ⟨(gn h).1, (gn h).2, fun b hb => absurd hb (Nat.not_lt_zero b)⟩⟩ (fun x hx => ?_)
          clear gf ga gt gn
          obtain ⟨qt, m', b⟩ := x
          obtain ⟨gf, gb, gt, gn⟩ := hx
          have gf : Fnd r n i qt := gf
          have gb : b ≤ n := gb
          have gt : m' = true → pt.length < qt.length := gt
          have gn : m' = false → qt = pt ∧ (∀ c, c < a → c ∈ pt → ∀ b, b < n → r c b = true → b ∈ pt) ∧ ∀ b', b' < b → a ∈ pt → r a b' = true → b' ∈ pt := gn
          have hrow := hw a han
          simp only [go_sem, ↓brB_t, ↓brB_f, Nat.reduceAdd, Int.reduceLE, Int.reduceLT, Int.reduceNeg, decide_true, decide_false, Bool.and_self, Nat.succ_eq_add_one, Int.toNat_natCast, Nat.beq_refl, Bool.and_true, Bool.true_and, Bool.false_or, Bool.or_true, List.all_cons, List.all_nil, Nat.reduceMul, Nat.add_zero, Nat.zero_add, List.length_nil, List.length_cons, dite_true, List.nil_append, Nat.reduceBEq, reduceDIte, reduceIte, reduceCtorEq, Bool.or_false, Bool.true_or, Bool.and_false, Bool.false_and, Bool.not_true, Bool.not_false, Option.isSome_some, Option.isSome_none, Option.getD_some, List.getElem?_cons_zero, List.getElem?_cons_succ, eq_self, and_self, List.take_succ_cons, List.take_zero, List.drop_succ_cons, List.drop_zero]
          rw [hn, boolL_len, hrow]
          refine brB_intro (fun h6 => ?_) (fun h6 => ?_)
          · have h6 := of_decide_eq_true h6
            have hbn : b < n := by omega
            have hb1 : w64 ((b : Int) + 1) = ((b + 1 : Nat) : Int) := w64_s hbn (by omega)
            rw [hb1, hrv]
            refine ⟨⟨by omega, by omega⟩, brB_intro (fun h7 => ?_) (fun h7 => ?_)⟩
            · have h7 := (boolL_at han).1 h7
              have h7 : a ∈ qt := h7
              refine ⟨⟨by omega, by omega⟩, ⟨by omega, by omega⟩, brB_intro (fun h8 => ⟨⟨by omega, by omega⟩, brB_intro (fun h9 => ?_) (fun h9 => ?_)⟩) (fun h8 => ?_)⟩
              · have h9 := (boolL_no hbn).1 (nb h9)
                have h9 : b ∉ qt := h9
                rw [boolL_set hbn, show boolL n (fun j => j ∈ qt ∨ j = b) = boolL n (· ∈ qt ++ [b]) from boolL_eq fun j _ => by rw [List.mem_append, List.mem_singleton]]
                refine ⟨⟨by omega, by omega⟩, (qt ++ [b], true, b + 1), [(16, 16), (17, 17), (18, 18)], ⟨gf.add h7 hbn h8 h9, by show b + 1 ≤ n; omega, fun _ => ?_, fun h => by cases h⟩, by show n - (b + 1) < n - b; omega, rfl, rfl⟩
                show pt.length < (qt ++ [b]).length
                rw [List.length_append]
                cases hm' : m' with
                | true => have := gt hm'; omega
                | false => rw [(gn hm').1]; simp
              · have h9 := (boolL_at hbn).1 (nb' h9)
                have h9 : b ∈ qt := h9
                refine ⟨(qt, m', b + 1), [(16, 16), (17, 17), (18, 18)], ⟨gf, by show b + 1 ≤ n; omega, gt, fun h => ?_⟩, by show n - (b + 1) < n - b; omega, rfl, rfl⟩
                obtain ⟨e1, e2, e3⟩ := gn h
                refine ⟨e1, e2, fun b' hb' ha' hr' => ?_⟩
                have hb' : b' < b + 1 := hb'
                by_cases e : b' = b
                · rw [e, ← e1]; exact h9
                · exact e3 b' (by omega) ha' hr'
              · refine ⟨(qt, m', b + 1), [(16, 16), (17, 17), (18, 18)], ⟨gf, by show b + 1 ≤ n; omega, gt, fun h => ?_⟩, by show n - (b + 1) < n - b; omega, rfl, rfl⟩
                obtain ⟨e1, e2, e3⟩ := gn h
                refine ⟨e1, e2, fun b' hb' ha' hr' => ?_⟩
                have hb' : b' < b + 1 := hb'
                by_cases e : b' = b
                · subst e; rw [h8] at hr'; cases hr'
                · exact e3 b' (by omega) ha' hr'
            · have h7 := (boolL_no han).1 h7
              have h7 : a ∉ qt := h7
              rw [ha1]
              refine ⟨(qt, m', a + 1), [(16, 16), (17, 17), (18, 18)], ⟨gf, by show a + 1 ≤ n; omega, gt, fun h => ?_⟩, by show n - (a + 1) < n - a; omega, rfl, rfl⟩
              obtain ⟨e1, e2, e3⟩ := gn h
              refine ⟨e1, fun c hc hcp b' hb' hr' => ?_⟩
              have hc : c < a + 1 := hc
              by_cases e : c = a
              · exact absurd (by rw [e1, ← e]; exact hcp) h7
              · exact e2 c (by omega) hcp b' hb' hr'
          · have h6 := of_decide_eq_false h6
            have eb : b = n := by omega
            rw [ha1]
            refine ⟨(qt, m', a + 1), [(16, 16), (17, 17), (18, 18)], ⟨gf, by show a + 1 ≤ n; omega, gt, fun h => ?_⟩, by show n - (a + 1) < n - a; omega, rfl, rfl⟩
            obtain ⟨e1, e2, e3⟩ := gn h
            refine ⟨e1, fun c hc hcp b' hb' hr' => ?_⟩
            have hc : c < a + 1 := hc
            by_cases e : c = a
            · subst e; exact e3 b' (by omega) hcp hr'
            · exact e2 c (by omega) hcp b' hb' hr'
        · have h5 := of_decide_eq_false h5
          have e : a = n := by omega
          have hql := gf.len hin
          refine ⟨(qt, m'), [(16, 16), (17, 17), (18, 18)], ⟨gf, fun h => ?_⟩, ?_, rfl, rfl⟩
          · obtain ⟨e1, e2⟩ := gn h
            intro c hc b' hb' hr'
            have hc : c ∈ qt := hc
            rw [e1] at hc
            show b' ∈ qt
            rw [e1]
            have := (hf.lt hin) c hc
            exact e2 c (by omega) hc b' hb' hr'
          · show 2 * (n - qt.length) + (if m' = true then 1 else 0) < 2 * (n - pt.length) + (if m = true then 1 else 0)
            cases hm' : m' with
            | true =>
              have := gt hm'
              rw [h4]
              simp only [if_true]
              omega
            | false =>
              rw [(gn hm').1, h4]
              simp
      · have hdn := hf.done (hm h4)
        refine loop_okF (T := tab []) [0, 3, 4, 5, 6, 10, 11] [(16, 16), (17, 17), (18, 18), (19, 1120)] (fun a : Nat => ⟨92, [(0, .val (.one (.ro kR rows))), (3, ow 16), (4, ow 17), (5, vi i), (6, ow 18), (10, ow 19), (11, vi a)], [(16, rwY (boolL n fun k => seenP r n i k ∨ (k < a ∧ Rch r n i k))), (17, .drow tSS kR (partsL r n i)), (18, rwY (boolL n (· ∈ pt))), (19, rwi (compTo r n i a))]⟩)
          (fun a => a ≤ n) (fun a => n - a) 0 rfl (by rw [show boolL n (fun k => seenP r n i k ∨ (k < 0 ∧ Rch r n i k)) = boolL n (seenP r n i) from boolL_eq fun k _ => ⟨fun h => h.elim id fun h => absurd h.1 (Nat.not_lt_zero k), .inl⟩]; rfl) (Nat.zero_le _) (fun a ha => ?_)
        have hcl := compTo_len r n i a
        have hpl2 := partsL_len r n i
        simp only [go_sem, ↓brB_t, ↓brB_f, Nat.reduceAdd, Int.reduceLE, Int.reduceLT, Int.reduceNeg, decide_true, decide_false, Bool.and_self, Nat.succ_eq_add_one, Int.toNat_natCast, Nat.beq_refl, Bool.and_true, Bool.true_and, Bool.false_or, Bool.or_true, List.all_cons, List.all_nil, Nat.reduceMul, Nat.add_zero, Nat.zero_add, List.length_nil, List.length_cons, dite_true, List.nil_append, Nat.reduceBEq, reduceDIte, reduceIte, reduceCtorEq, Bool.or_false, Bool.true_or, Bool.and_false, Bool.false_and, Bool.not_true, Bool.not_false, Option.isSome_some, Option.isSome_none, Option.getD_some, List.getElem?_cons_zero, List.getElem?_cons_succ, eq_self, and_self, List.take_succ_cons, List.take_zero, List.drop_succ_cons, List.drop_zero]
        rw [hn, boolL_len, boolL_len]
        refine brB_intro (fun h5 => ?_) (fun h5 => ?_)
        · have h5 := of_decide_eq_true h5
          have han : a < n := by omega
          have ha1 : w64 ((a : Int) + 1) = ((a + 1 : Nat) : Int) := w64_s han (by omega)
          rw [ha1]
          refine ⟨⟨by omega, by omega⟩, brB_intro (fun h6 => ?_) (fun h6 => ?_)⟩
          · have h6 := (hdn a).1 ((boolL_at han).1 h6)
            rw [boolL_set han, ← compTo_t h6, show boolL n (fun j => (seenP r n i j ∨ (j < a ∧ Rch r n i j)) ∨ j = a) = boolL n (fun j => seenP r n i j ∨ (j < a + 1 ∧ Rch r n i j)) from boolL_eq fun j _ => by
              constructor
              · rintro ((h | h) | h)
                · exact .inl h
                · exact .inr ⟨by omega, h.2⟩
                · subst h; exact .inr ⟨by omega, h6⟩
              · rintro (h | h)
                · exact .inl (.inl h)
                · by_cases e : j = a
                  · exact .inr e
                  · exact .inl (.inr ⟨by omega, h.2⟩)]
            exact ⟨⟨by omega, by omega⟩, by omega, a + 1, [(16, 16), (17, 17), (18, 18), (19, 1392)], by omega, by omega, rfl, rfl⟩
          · have h6 : ¬ Rch r n i a := fun h => (boolL_no han).1 h6 ((hdn a).2 h)
            rw [← compTo_f h6, show boolL n (fun j => seenP r n i j ∨ (j < a ∧ Rch r n i j)) = boolL n (fun j => seenP r n i j ∨ (j < a + 1 ∧ Rch r n i j)) from boolL_eq fun j _ => by
              constructor
              · rintro (h | h)
                · exact .inl h
                · exact .inr ⟨by omega, h.2⟩
              · rintro (h | h)
                · exact .inl h
                · by_cases e : j = a
                  · subst e; exact absurd h.2 h6
                  · exact .inr ⟨by omega, h.2⟩]
            exact ⟨a + 1, [(16, 16), (17, 17), (18, 18), (19, 19)], by omega, by omega, rfl, rfl⟩
        · have h5 := of_decide_eq_false h5
          have e : a = n := by omega
          subst e
          rw [show compTo r a i a = compL r a i from rfl, ← partsL_s h3, hw1, show boolL a (fun k => seenP r a i k ∨ (k < a ∧ Rch r a i k)) = boolL a (seenP r a (i + 1)) from boolL_eq fun k hk => by rw [seen_s]; exact or_congr Iff.rfl ⟨fun h => h.2, fun h => ⟨hk, h⟩⟩]
          exact ⟨by omega, i + 1, [(16, 16), (17, 1456)], by omega, by omega, rfl, rfl⟩
  · have h2 := of_decide_eq_false h2
    have e : i = n := by omega
    rw [e]; exact hK
def c_l02Parts : Ctr Try.prog := ⟨102, ent Try.func102 rfl rfl, [], sp_l02Parts, good_l02Parts, []⟩
@[go_sem] theorem c_l02Parts_f : c_l02Parts.f = 102 := rfl
@[go_sem] theorem c_l02Parts_ms : c_l02Parts.ms = [] := rfl
@[go_sem] theorem c_l02Parts_sp : c_l02Parts.spec = sp_l02Parts := rfl
@[go_sem] theorem c_l02Parts_fz : c_l02Parts.fz = [] := rfl
attribute [go_sem] sp_l02Parts
end
end Go.Proofs.Ytokakggilajjlaa.V
