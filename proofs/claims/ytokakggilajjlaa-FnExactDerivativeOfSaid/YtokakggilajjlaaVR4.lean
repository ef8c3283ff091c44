/- Contracts: derivatives of sums, both sides. Conditions: told by each spec. -/
import Derived.Test.YtokakggilajjlaaVR3
set_option linter.unusedVariables false
set_option linter.unusedSimpArgs false
namespace Go.Proofs.Ytokakggilajjlaa.V
open Go
def sp_dOf : List Cv → List Obj' → Tree
  | [.agg [.v (.int .i64 p), .ro (.pr (.sl 2 (.int .i64)) (.int .i64)) ts]], [] => resS (dR p ts)
  | _, _ => .fail
set_option maxHeartbeats 4000000 in
set_option maxRecDepth 100000 in
theorem good_dOf : Good Try.prog 23 sp_dOf := by
  refine good_ofF Try.func23 rfl _ rfl _ rfl (tab [c_chg]) (fun X cs os0 K hok hos hK => ?_)
  clear hos; unfold sp_dOf at hK
  split at hK
  case h_2 => exact hK.elim
  rename_i p ts
  refine ⟨by simp, by simp, ?_⟩
  simp only [go_sem] at hK hok
  simp (maxSteps := 4000000) only [go_sem, Try.f23, ↓brB_t, ↓brB_f, Nat.reduceAdd, Int.reduceLE, Int.reduceLT, Int.reduceNeg, decide_true, decide_false, Bool.and_self, Nat.succ_eq_add_one, Int.toNat_natCast, Nat.beq_refl, Bool.and_true, Bool.true_and, Bool.false_or, Bool.or_true, List.all_cons, List.all_nil, Nat.reduceMul, Nat.add_zero, Nat.zero_add, List.length_nil, List.length_cons, dite_true, List.nil_append, Nat.reduceBEq, reduceDIte, reduceIte, reduceCtorEq, Bool.or_false, Bool.true_or, Bool.and_false, Bool.false_and, Bool.not_true, Bool.not_false, Option.isSome_some, Option.isSome_none, Option.getD_some, List.getElem?_cons_zero, List.getElem?_cons_succ, eq_self, and_self, List.take_succ_cons, List.take_zero, List.drop_succ_cons, List.drop_zero]
  clear hok
  exact ⟨trivial, retN [96] rfl hK⟩
def c_dOf : Ctr Try.prog := ⟨23, ent Try.func23 rfl rfl, [], sp_dOf, good_dOf, []⟩
@[go_sem] theorem c_dOf_f : c_dOf.f = 23 := rfl
@[go_sem] theorem c_dOf_ms : c_dOf.ms = [] := rfl
@[go_sem] theorem c_dOf_sp : c_dOf.spec = sp_dOf := rfl
@[go_sem] theorem c_dOf_fz : c_dOf.fz = [] := rfl
attribute [go_sem] sp_dOf
theorem jS_q {p : Int} {q : List Int → Prop} {ts : TermL} (h : ∀ x ∈ ts, q x.1) : ∀ x ∈ jS p ts, q x.1 := by
  induction ts using snoc_ind with
  | h0 => intro x hx; cases hx
  | h1 a y ih =>
    rw [jS_s]
    intro x hx
    have ih := ih (fun z hz => h z (List.mem_append_left _ hz))
    rcases jT_mem hx with e | hm
    · rw [e]; exact h y (List.mem_append_right _ (List.mem_singleton.2 rfl))
    · exact ih x hm
theorem derS_len (w : List Int) (v : Int) (n : Nat) : (derS w v n).length = n := by rw [derS, List.length_map, List.length_range]
theorem derSteps_s {ts : TermL} {i : Nat} (h : i < ts.length) : derSteps (ts.take (i + 1)) = derSteps (ts.take i) ++ derS (ts.getD i ([], 0)).1 (ts.getD i ([], 0)).2 ((ts.getD i ([], 0)).1.length / 2) := by
  have e : ts.getD i ([], 0) = ts[i] := by rw [List.getD_eq_getElem?_getD, List.getElem?_eq_getElem h]; rfl
  rw [derSteps, List.take_succ_eq_append_getElem h, List.flatMap_append, e]
  simp [derSteps]
theorem derSteps_len {ts : TermL} (hw : ∀ x ∈ ts, x.1.length ≤ 12) (i : Nat) : (derSteps (ts.take i)).length ≤ 6 * i := by
  induction i with
  | zero => simp [derSteps]
  | succ i ih =>
    by_cases h : i < ts.length
    · have := hw _ (getD_memT h)
      rw [derSteps_s h, List.length_append, derS_len]
      omega
    · rw [List.take_of_length_le (by omega)] at ih ⊢
      omega
theorem derSteps_w {ts : TermL} (hw : ∀ x ∈ ts, isW x.1 = true) : ∀ x ∈ derSteps ts, isW x.1 = true := fun x hx => by
  obtain ⟨t, ht, hx⟩ := List.mem_flatMap.1 hx
  obtain ⟨_, k, ek⟩ := derS_mem hx
  rw [ek]
  exact wtL_isW (hw t ht) _
theorem isW_len {w : List Int} (h : isW w = true) : w.length ≤ 12 := (Go.Proofs.Ytokakggilajjlaa.L.word_range (by rw [← Go.Proofs.Ytokakggilajjlaa.L.isW_eq]; exact h)).1
theorem half_i {n : Nat} (h : n ≤ 12) : w64 (((n : Nat) : Int).tdiv 2) = ((n / 2 : Nat) : Int) := by
  rw [show ((n : Nat) : Int).tdiv 2 = ((n / 2 : Nat) : Int) from rfl]
  exact w64_id (by omega) (by omega)
abbrev tS' : TypeId := 28
set_option maxHeartbeats 4000000 in
set_option maxRecDepth 100000 in
theorem good_dOfS : Good Try.prog 22 sp_dOf := by
  refine good_ofF Try.func22 rfl _ rfl _ rfl (tab [c_l03Is, c_l03Empty, c_l03Put, c_del, c_told]) (fun X cs os0 K hok hos hK => ?_)
  clear hos; unfold sp_dOf at hK
  split at hK
  case h_2 => exact hK.elim
  rename_i p ts
  refine ⟨by simp, by simp, ?_⟩
  simp only [go_sem] at hK hok
  simp (maxSteps := 4000000) only [go_sem, Try.f22, ↓brB_t, ↓brB_f, Nat.reduceAdd, Int.reduceLE, Int.reduceLT, Int.reduceNeg, decide_true, decide_false, Bool.and_self, Nat.succ_eq_add_one, Int.toNat_natCast, Nat.beq_refl, Bool.and_true, Bool.true_and, Bool.false_or, Bool.or_true, List.all_cons, List.all_nil, Nat.reduceMul, Nat.add_zero, Nat.zero_add, List.length_nil, List.length_cons, dite_true, List.nil_append, Nat.reduceBEq, reduceDIte, reduceIte, reduceCtorEq, Bool.or_false, Bool.true_or, Bool.and_false, Bool.false_and, Bool.not_true, Bool.not_false, Option.isSome_some, Option.isSome_none, Option.getD_some, List.getElem?_cons_zero, List.getElem?_cons_succ, eq_self, and_self, List.take_succ_cons, List.take_zero, List.drop_succ_cons, List.drop_zero]
  clear hok
  have err : ∀ {c : Int}, dR p ts = ((0, []), c) → K (.tup [.agg [.v (.int .i64 0), .own 0], .one (.v (.int .i64 c))]) [.drow tI kTerm []] := fun e => by rw [e] at hK; exact hK
  refine brB_intro (fun h1 => retM [⟨.cell 48 1, 16, tI, kTerm⟩] rfl (retN [16] rfl (err (by rw [dR, if_neg (by rw [snb h1]; decide)])))) (fun h1 => ?_)
  have h1 := snb' h1
  have hp := isS_p h1
  have hp1 := (isS_parts h1).2.1
  have hw := isS_words h1
  have hw12 : ∀ x ∈ ts, x.1.length ≤ 12 := fun x hx => isW_len (hw x hx)
  refine loop_okF (T := tab [c_l03Is, c_l03Empty, c_l03Put, c_del, c_told]) [1, 2, 4, 5] [(16, 32), (17, 48), (18, 80), (19, 272)] (fun i : Nat => ⟨55, [(1, .val (.one (.ptr 16 0))), (2, .val (.one (.ptr 17 0))), (4, .val (.one (.ptr 18 0))), (5, vi i)],
      [(16, .box tS' [.v (.int .i64 p), .ro kTerm ts]), (17, .box tS' [.v (.int .i64 0), .v (.slice none 0 0)]), (18, .box tS' [.v (.int .i64 p), .own 19]), (19, .drow tI kTerm (jS p (derSteps (ts.take i))))]⟩)
    (fun i => i ≤ ts.length) (fun i => ts.length - i) 0 rfl rfl (Nat.zero_le _) (fun i hi => ?_)
  simp only [go_sem, ↓brB_t, ↓brB_f, Nat.reduceAdd, Int.reduceLE, Int.reduceLT, Int.reduceNeg, decide_true, decide_false, Bool.and_self, Nat.succ_eq_add_one, Int.toNat_natCast, Nat.beq_refl, Bool.and_true, Bool.true_and, Bool.false_or, Bool.or_true, List.all_cons, List.all_nil, Nat.reduceMul, Nat.add_zero, Nat.zero_add, List.length_nil, List.length_cons, dite_true, List.nil_append, Nat.reduceBEq, reduceDIte, reduceIte, reduceCtorEq, Bool.or_false, Bool.true_or, Bool.and_false, Bool.false_and, Bool.not_true, Bool.not_false, Option.isSome_some, Option.isSome_none, Option.getD_some, List.getElem?_cons_zero, List.getElem?_cons_succ, eq_self, and_self, List.take_succ_cons, List.take_zero, List.drop_succ_cons, List.drop_zero]
  refine brB_intro (fun h3 => ?_) (fun h3 => ?_)
  · have h3 := of_decide_eq_true h3
    have hs := derSteps_s (ts := ts) (i := i) (by omega)
    have hw1 : w64 ((i : Int) + 1) = ((i + 1 : Nat) : Int) := w64_s (n := ts.length) (by omega) (by omega)
    have hx := hw _ (getD_memT (show i < ts.length by omega))
    have hxl := isW_len hx
    have hl0 := derSteps_len hw12 i
    have hl0 := derSteps_len hw12 i
    have hsw : ∀ x ∈ derSteps (ts.take i), isW x.1 = true := derSteps_w fun x hx => hw x (List.mem_of_mem_take hx)
    refine ⟨⟨by omega, by omega⟩, ?_⟩
    generalize (ts.getD i ([], 0)).1 = w at *
    refine loop_okF (T := tab [c_l03Is, c_l03Empty, c_l03Put, c_del, c_told]) [1, 2, 4, 5, 6, 7] [(16, 16), (17, 17), (18, 18), (19, 19)] (fun k : Nat => ⟨55, [(1, .val (.one (.ptr 16 0))), (2, .val (.one (.ptr 17 0))), (4, .val (.one (.ptr 18 0))), (5, vi i), (6, ri w), (7, vi k)],
      [(16, .box tS' [.v (.int .i64 p), .ro kTerm ts]), (17, .box tS' [.v (.int .i64 0), .v (.slice none 0 0)]), (18, .box tS' [.v (.int .i64 p), .own 19]), (19, .drow tI kTerm (jS p (derSteps (ts.take i) ++ derS w (ts.getD i ([], 0)).2 k)))]⟩)
      (fun k => k ≤ w.length / 2) (fun k => w.length / 2 - k) 0 rfl (by rw [show derS w (ts.getD i ([], 0)).2 0 = [] from rfl, List.append_nil]; rfl) (Nat.zero_le _) (fun k hk => ?_)
    simp only [go_sem, ↓brB_t, ↓brB_f, Nat.reduceAdd, Int.reduceLE, Int.reduceLT, Int.reduceNeg, decide_true, decide_false, Bool.and_self, Nat.succ_eq_add_one, Int.toNat_natCast, Nat.beq_refl, Bool.and_true, Bool.true_and, Bool.false_or, Bool.or_true, List.all_cons, List.all_nil, Nat.reduceMul, Nat.add_zero, Nat.zero_add, List.length_nil, List.length_cons, dite_true, List.nil_append, Nat.reduceBEq, reduceDIte, reduceIte, reduceCtorEq, Bool.or_false, Bool.true_or, Bool.and_false, Bool.false_and, Bool.not_true, Bool.not_false, Option.isSome_some, Option.isSome_none, Option.getD_some, List.getElem?_cons_zero, List.getElem?_cons_succ, eq_self, and_self, List.take_succ_cons, List.take_zero, List.drop_succ_cons, List.drop_zero]
    have hjl := jS_len p (derSteps (ts.take i) ++ derS w (ts.getD i ([], 0)).2 k)
    rw [List.length_append, derS_len] at hjl
    have hjw := jS_q (p := p) (q := fun u => isW u = true) (ts := derSteps (ts.take i) ++ derS w (ts.getD i ([], 0)).2 k) (fun x hx => by
      rcases List.mem_append.1 hx with hx | hx
      · exact hsw x hx
      · obtain ⟨_, j, ej⟩ := derS_mem hx
        rw [ej]
        exact wtL_isW ‹isW w = true› _)
    rw [half_i hxl]
    have hwk := isW_len (wtL_isW ‹isW w = true› (k : Int))
    refine ⟨by decide, brB_intro (fun h4 => ?_) (fun h4 => ?_)⟩
    · have h4 := of_decide_eq_true h4
      have hk1 : w64 ((k : Int) + 1) = ((k + 1 : Nat) : Int) := w64_s (n := w.length) (by omega) (by omega)
      refine ⟨by omega, ⟨by omega, by omega⟩, ⟨by omega, by omega, by omega, fun x hx => by have := isW_len (hjw x hx); omega⟩, by kernel_rfl, k + 1, [(16, 16), (17, 17), (18, 18), (19, 768)], by omega, by omega, rfl, ?_⟩
      rw [hk1, derS_s, ← List.append_assoc, jS_s]
      rfl
    · have h4 := of_decide_eq_false h4
      have ek : k = w.length / 2 := by omega
      subst ek
      rw [← hs, hw1]
      exact ⟨i + 1, [(16, 16), (17, 17), (18, 18), (19, 19)], by omega, by omega, rfl, rfl⟩
  · have h3 := of_decide_eq_false h3
    have e : i = ts.length := by omega
    rw [e, List.take_length, ← derR_eq hp.1 hp.2 hw (isS_vals h1)]
    refine brB_intro (fun h2 => ?_) (fun h2 => ?_)
    · have h2 := of_decide_eq_true h2
      exact retN [816] rfl (err (by rw [dR, if_pos h1, if_pos (by omega)]))
    · have h2 := of_decide_eq_false h2
      have er : dR p ts = ((p, derR p ts), 0) := by rw [dR, if_pos h1, if_neg (by omega)]
      rw [er] at hK
      exact retN [19] rfl hK
def c_dOfS : Ctr Try.prog := ⟨22, ent Try.func22 rfl rfl, [], sp_dOf, good_dOfS, []⟩
@[go_sem] theorem c_dOfS_f : c_dOfS.f = 22 := rfl
@[go_sem] theorem c_dOfS_ms : c_dOfS.ms = [] := rfl
@[go_sem] theorem c_dOfS_sp : c_dOfS.spec = sp_dOf := rfl
@[go_sem] theorem c_dOfS_fz : c_dOfS.fz = [] := rfl
attribute [go_sem] sp_dOf
theorem dR_len (p : Int) (ts : TermL) : (dR p ts).1.2.length ≤ 200 ∧ ∀ x ∈ (dR p ts).1.2, x.1.length ≤ 12 := by
  unfold dR
  split
  · rename_i h
    split
    · exact ⟨Nat.zero_le _, fun x hx => by cases hx⟩
    · rename_i h2
      refine ⟨Nat.le_of_not_lt h2, fun x hx => ?_⟩
      have hx : x ∈ derR p ts := hx
      rw [derR_eq (isS_p h).1 (isS_p h).2 (isS_words h) (isS_vals h)] at hx
      exact jS_q (q := fun u => u.length ≤ 12) (fun y hy => isW_len (derSteps_w (isS_words h) y hy)) x hx
  · exact ⟨Nat.zero_le _, fun x hx => by cases hx⟩
def sp_lawS1 : List Cv → List Obj' → Tree
  | [.agg [.v (.int .i64 p), .ro (.pr (.sl 2 (.int .i64)) (.int .i64)) ts]], [] => .ret (vb true) []
  | _, _ => .fail
set_option maxHeartbeats 4000000 in
set_option maxRecDepth 100000 in
theorem good_lawDerivativeOf : Good Try.prog 5 sp_lawS1 := by
  refine good_ofF Try.func5 rfl _ rfl _ rfl (tab [c_szSum, c_toSum, c_dOfS, c_dOf, c_eqSum, c_markSum, c_heldSum]) (fun X cs os0 K hok hos hK => ?_)
  clear hos; unfold sp_lawS1 at hK
  split at hK
  case h_2 => exact hK.elim
  rename_i p ts
  refine ⟨by simp, by simp, ?_⟩
  simp only [go_sem] at hK hok
  simp (maxSteps := 4000000) only [go_sem, Try.f5, ↓brB_t, ↓brB_f, Nat.reduceAdd, Int.reduceLE, Int.reduceLT, Int.reduceNeg, decide_true, decide_false, Bool.and_self, Nat.succ_eq_add_one, Int.toNat_natCast, Nat.beq_refl, Bool.and_true, Bool.true_and, Bool.false_or, Bool.or_true, List.all_cons, List.all_nil, Nat.reduceMul, Nat.add_zero, Nat.zero_add, List.length_nil, List.length_cons, dite_true, List.nil_append, Nat.reduceBEq, reduceDIte, reduceIte, reduceCtorEq, Bool.or_false, Bool.true_or, Bool.and_false, Bool.false_and, Bool.not_true, Bool.not_false, Option.isSome_some, Option.isSome_none, Option.getD_some, List.getElem?_cons_zero, List.getElem?_cons_succ, eq_self, and_self, List.take_succ_cons, List.take_zero, List.drop_succ_cons, List.drop_zero]
  have hr := dR_len p ts
  generalize dR p ts = r at *
  clear hok
  refine ⟨trivial, brB_intro (fun _ => ret0 hK) (fun h1 => ?_)⟩
  have hz : ts.length + szT ts ≤ 1048576 := by
    have h1 := of_decide_eq_false h1
    split at h1 <;> omega
  have a1 : ts.length ≤ 1099511627776 ∧ ∀ x ∈ (ts : TermL), x.1.length ≤ 1099511627776 := ⟨by omega, fun x hx => by have := szT_mem hx; omega⟩
  have hb := szT_le12 hr.2
  have hb2 := hr.1
  clear h1 hr
  generalize szT r.1.2 = z at *
  exact ⟨a1, a1, a1, by kernel_rfl, ⟨trivial, by omega⟩, brB_intro (fun h2 => by have := of_decide_eq_true h2; omega) (fun _ => ⟨⟨trivial, by omega⟩, ⟨trivial, by omega⟩, brB_intro (fun h2 => by have := of_decide_eq_true h2; omega) (fun _ => ⟨a1, ⟨trivial, by omega⟩, brB_intro (fun h2 => by have := of_decide_eq_true h2; omega) (fun _ => ret0 hK)⟩)⟩)⟩
end Go.Proofs.Ytokakggilajjlaa.V
