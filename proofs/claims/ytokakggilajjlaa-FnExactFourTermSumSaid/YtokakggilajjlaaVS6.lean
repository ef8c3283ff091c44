/- Contracts: parts of sums by the reference. Conditions: told by each spec. -/
import Derived.Test.YtokakggilajjlaaVS3
set_option linter.unusedVariables false
set_option linter.unusedSimpArgs false
namespace Go.Proofs.Ytokakggilajjlaa.V
open Go
theorem jF_len1 {w : List Int} {v : Int} (ts : TermL) (i : Nat) : (jF w v (ts.take i)).1.length ≤ i + (if (jF w v (ts.take i)).2 then 1 else 0) := by
  induction i with
  | zero => simp [jF]
  | succ i ih =>
    by_cases h : i < ts.length
    · rw [jF_s h]
      generalize jF w v (ts.take i) = s at *
      obtain ⟨a, b⟩ := s
      unfold jB jA
      cases b <;> simp only [Bool.not_true, Bool.not_false, Bool.true_and, Bool.false_and] at * <;> split <;> split <;> simp_all <;> omega
    · rw [List.take_of_length_le (by omega)] at ih ⊢
      omega
theorem jT_len (p : Int) (ts : TermL) (w : List Int) (v : Int) : (jT p ts w v).length ≤ ts.length + 1 := by
  have h := jF_len1 (w := w) (v := modI p (w64 (v + atT ts w))) ts ts.length
  rw [List.take_length] at h
  unfold jT jE
  split
  · rename_i e; rw [if_pos e] at h; exact h
  · rename_i e; rw [if_neg e] at h; rw [List.length_append]; simp; omega
theorem jF_mem {w : List Int} {v : Int} (ts : TermL) (i : Nat) : ∀ x ∈ (jF w v (ts.take i)).1, x = (w, v) ∨ x ∈ ts := by
  induction i with
  | zero => simp [jF]
  | succ i ih =>
    by_cases h : i < ts.length
    · rw [jF_s h]
      have hx := getD_memT h
      generalize jF w v (ts.take i) = s at *
      generalize ts.getD i ([], 0) = y at *
      intro x hm
      have key : ∀ s' : TermL × Bool, (∀ x ∈ s'.1, x = (w, v) ∨ x ∈ ts) → ∀ x ∈ (jB w s' y).1, x = (w, v) ∨ x ∈ ts := fun s' h' x hm => by
        unfold jB at hm
        split at hm
        · exact h' x hm
        · rcases List.mem_append.1 hm with hm | hm
          · exact h' x hm
          · rw [List.mem_singleton] at hm; exact .inr (hm ▸ hx)
      refine key _ (fun x hm => ?_) x hm
      unfold jA at hm
      split at hm
      · rcases List.mem_append.1 hm with hm | hm
        · exact ih x hm
        · rw [List.mem_singleton] at hm; exact .inl hm
      · exact ih x hm
    · rw [List.take_of_length_le (by omega)] at ih ⊢
      exact ih
theorem jT_mem {p : Int} {ts : TermL} {w : List Int} {v : Int} {x : List Int × Int} (h : x ∈ jT p ts w v) : x.1 = w ∨ x ∈ ts := by
  have hm := jF_mem (w := w) (v := modI p (w64 (v + atT ts w))) ts ts.length
  rw [List.take_length] at hm
  unfold jT jE at h
  split at h
  · exact (hm x h).imp (fun e => by rw [e]) id
  · rcases List.mem_append.1 h with h | h
    · exact (hm x h).imp (fun e => by rw [e]) id
    · rw [List.mem_singleton] at h; exact .inl (by rw [h])
/-- A part of a sum, gathered. -/
def partF (p n : Int) (l : TermL) : TermL := l.foldl (fun out x => if (x.1.length : Int) = w64 (2 * n) then jT p out x.1 x.2 else out) []
theorem partF_s {p n : Int} {ts : TermL} {i : Nat} (h : i < ts.length) : partF p n (ts.take (i + 1)) = if ((ts.getD i ([], 0)).1.length : Int) = w64 (2 * n) then jT p (partF p n (ts.take i)) (ts.getD i ([], 0)).1 (ts.getD i ([], 0)).2 else partF p n (ts.take i) := by
  have e : ts.getD i ([], 0) = ts[i] := by rw [List.getD_eq_getElem?_getD, List.getElem?_eq_getElem h]; rfl
  rw [partF, List.take_succ_eq_append_getElem h, List.foldl_append, e]; rfl
theorem partF_len {p n : Int} (ts : TermL) (i : Nat) : (partF p n (ts.take i)).length ≤ i := by
  induction i with
  | zero => simp [partF]
  | succ i ih =>
    by_cases h : i < ts.length
    · rw [partF_s h]
      split
      · exact Nat.le_trans (jT_len ..) (by omega)
      · omega
    · rw [List.take_of_length_le (by omega)] at ih ⊢
      omega
theorem partF_mem {p n : Int} {ts : TermL} {q : Nat → Prop} (hq : ∀ x ∈ ts, q x.1.length) (i : Nat) : ∀ x ∈ partF p n (ts.take i), q x.1.length := by
  induction i with
  | zero => simp [partF]
  | succ i ih =>
    by_cases h : i < ts.length
    · rw [partF_s h]
      split
      · intro x hm
        rcases jT_mem hm with e | hm
        · rw [e]; exact hq _ (getD_memT h)
        · exact ih x hm
      · exact ih
    · rw [List.take_of_length_le (by omega)] at ih ⊢
      exact ih
theorem isS_parts {p : Int} {ts : TermL} (h : isS p ts = true) : p ≠ 0 ∧ ts.length ≤ 200 ∧ ∀ x ∈ ts, x.1.length ≤ 12 := by
  unfold isS at h
  simp only [Bool.and_eq_true, decide_eq_true_eq] at h
  obtain ⟨h1, h2, h3⟩ := h
  refine ⟨fun e => by rw [e] at h1; exact absurd h1 (by decide), h2, fun x hx => ?_⟩
  obtain ⟨i, hi, rfl⟩ := List.getElem_of_mem hx
  have := List.all_eq_true.1 h3 i (List.mem_range.2 hi)
  unfold termB at this
  simp only [Bool.and_eq_true] at this
  have e : ts.getD i ([], 0) = ts[i] := by rw [List.getD_eq_getElem?_getD, List.getElem?_eq_getElem hi]; rfl
  rw [e] at this
  have h4 := this.1
  unfold isW at h4
  simp only [Bool.and_eq_true, decide_eq_true_eq] at h4
  exact h4.1
def resS (r : (Int × TermL) × Int) : Tree := .ret (.tup [.agg [.v (.int .i64 r.1.1), .own 0], .one (.v (.int .i64 r.2))]) [.drow 68 (.pr (.sl 2 (.int .i64)) (.int .i64)) r.1.2]
/-- What PartOfSum gives. -/
def partR (p : Int) (ts : TermL) (n : Int) : (Int × TermL) × Int :=
  if isS p ts then (if inB n 0 6 then ((p, partF p n ts), 0) else ((0, []), 2)) else ((0, []), 1)
def sp_partOf : List Cv → List Obj' → Tree
  | [.agg [.v (.int .i64 p), .ro (.pr (.sl 2 (.int .i64)) (.int .i64)) ts], .one (.v (.int .i64 n))], [] => resS (partR p ts n)
  | _, _ => .fail
set_option maxHeartbeats 4000000 in
set_option maxRecDepth 100000 in
theorem good_partOfS : Good Try.prog 14 sp_partOf := by
  refine good_ofF Try.func14 rfl _ rfl _ rfl (tab [c_l03Is, c_l01In, c_l03Empty, c_l03Put]) (fun X cs os0 K hok hos hK => ?_)
  clear hos; unfold sp_partOf at hK
  split at hK
  case h_2 => exact hK.elim
  rename_i p ts n
  refine ⟨by simp, by simp, ?_⟩
  simp only [go_sem] at hK hok
  simp (maxSteps := 4000000) only [go_sem, Try.f14, ↓brB_t, ↓brB_f, Nat.reduceAdd, Int.reduceLE, Int.reduceLT, Int.reduceNeg, decide_true, decide_false, Bool.and_self, Nat.succ_eq_add_one, Int.toNat_natCast, Nat.beq_refl, Bool.and_true, Bool.true_and, Bool.false_or, Bool.or_true, List.all_cons, List.all_nil, Nat.reduceMul, Nat.add_zero, Nat.zero_add, List.length_nil, List.length_cons, dite_true, List.nil_append, Nat.reduceBEq, reduceDIte, reduceIte, reduceCtorEq, Bool.or_false, Bool.true_or, Bool.and_false, Bool.false_and, Bool.not_true, Bool.not_false, Option.isSome_some, Option.isSome_none, Option.getD_some, List.getElem?_cons_zero, List.getElem?_cons_succ, eq_self, and_self, List.take_succ_cons, List.take_zero, List.drop_succ_cons, List.drop_zero]
  have err : ∀ {c : Int}, partR p ts n = ((0, []), c) → K (.tup [.agg [.v (.int .i64 0), .own 0], .one (.v (.int .i64 c))]) [.drow tI kTerm []] := fun e => by rw [e] at hK; exact hK
  clear hok
  refine brB_intro (fun h1 => retM [⟨.cell 80 1, 16, tI, kTerm⟩] rfl (retN [16] rfl (err (by rw [partR, snb h1]; rfl)))) (fun h1 => ?_)
  have h1 := snb' h1
  refine brB_intro (fun h2 => retM [⟨.cell 80 1, 16, tI, kTerm⟩] rfl (retN [16] rfl (err (by rw [partR, h1, snb h2]; rfl)))) (fun h2 => ?_)
  have h2 := snb' h2
  have er : partR p ts n = ((p, partF p n ts), 0) := by rw [partR, h1, h2]; rfl
  rw [er] at hK
  have hp0 := (isS_parts h1).1
  have hp1 := (isS_parts h1).2.1
  have hp2 := (isS_parts h1).2.2
  refine loop_okF (T := tab [c_l03Is, c_l01In, c_l03Empty, c_l03Put]) [1, 2, 4, 6, 7] [(16, 48), (17, 80), (18, 112), (19, 336)] (fun i : Nat => ⟨53, [(1, vi n), (2, .val (.one (.ptr 16 0))), (4, .val (.one (.ptr 17 0))), (6, .val (.one (.ptr 18 0))), (7, vi i)],
      [(16, .box 28 [.v (.int .i64 p), .ro kTerm ts]), (17, .box 28 [.v (.int .i64 0), .v (.slice none 0 0)]), (18, .box 28 [.v (.int .i64 p), .own 19]), (19, .drow tI kTerm (partF p n (ts.take i)))]⟩)
    (fun i => i ≤ ts.length) (fun i => ts.length - i) 0 rfl rfl (Nat.zero_le _) (fun i hi => ?_)
  have hpl := partF_len (p := p) (n := n) ts i
  have hpm := partF_mem (p := p) (n := n) (q := fun m => m ≤ 12) hp2 i
  simp only [go_sem, ↓brB_t, ↓brB_f, Nat.reduceAdd, Int.reduceLE, Int.reduceLT, Int.reduceNeg, decide_true, decide_false, Bool.and_self, Nat.succ_eq_add_one, Int.toNat_natCast, Nat.beq_refl, Bool.and_true, Bool.true_and, Bool.false_or, Bool.or_true, List.all_cons, List.all_nil, Nat.reduceMul, Nat.add_zero, Nat.zero_add, List.length_nil, List.length_cons, dite_true, List.nil_append, Nat.reduceBEq, reduceDIte, reduceIte, reduceCtorEq, Bool.or_false, Bool.true_or, Bool.and_false, Bool.false_and, Bool.not_true, Bool.not_false, Option.isSome_some, Option.isSome_none, Option.getD_some, List.getElem?_cons_zero, List.getElem?_cons_succ, eq_self, and_self, List.take_succ_cons, List.take_zero, List.drop_succ_cons, List.drop_zero]
  refine brB_intro (fun h3 => ?_) (fun h3 => retN [19] rfl ?_)
  · have h3 := of_decide_eq_true h3
    have hs := partF_s (p := p) (n := n) (ts := ts) (i := i) (by omega)
    have hw1 : w64 ((i : Int) + 1) = ((i + 1 : Nat) : Int) := w64_s (n := ts.length) (by omega) (by omega)
    have hxl := hp2 _ (getD_memT (show i < ts.length by omega))
    refine ⟨⟨by omega, by omega⟩, brB_intro (fun h4 => ?_) (fun h4 => ?_)⟩
    · rw [if_pos (of_decide_eq_true h4)] at hs
      refine ⟨⟨by omega, by omega⟩, ⟨by omega, by omega⟩, ⟨hp0, by omega, by omega, fun x hx => by have := hpm x hx; omega⟩, by kernel_rfl, i + 1, [(16, 16), (17, 17), (18, 18), (19, 832)], by omega, by omega, rfl, ?_⟩
      rw [hw1, hs]; rfl
    · rw [if_neg (of_decide_eq_false h4)] at hs
      refine ⟨i + 1, [(16, 16), (17, 17), (18, 18), (19, 19)], by omega, by omega, rfl, ?_⟩
      rw [hw1, hs]; rfl
  · have h3 := of_decide_eq_false h3
    have e : i = ts.length := by omega
    rw [e, List.take_length]; exact hK
def c_partOfS : Ctr Try.prog := ⟨14, ent Try.func14 rfl rfl, [], sp_partOf, good_partOfS, []⟩
@[go_sem] theorem c_partOfS_f : c_partOfS.f = 14 := rfl
@[go_sem] theorem c_partOfS_ms : c_partOfS.ms = [] := rfl
@[go_sem] theorem c_partOfS_sp : c_partOfS.spec = sp_partOf := rfl
@[go_sem] theorem c_partOfS_fz : c_partOfS.fz = [] := rfl
attribute [go_sem] sp_partOf
end Go.Proofs.Ytokakggilajjlaa.V
