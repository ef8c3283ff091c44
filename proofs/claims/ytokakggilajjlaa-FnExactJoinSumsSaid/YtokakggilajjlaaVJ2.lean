/- Contracts: sums joined, both sides. Conditions: told by each spec. -/
import Derived.Test.YtokakggilajjlaaVJ1
import Derived.Test.YtokakggilajjlaaVJT
set_option linter.unusedVariables false
set_option linter.unusedSimpArgs false
namespace Go.Proofs.Ytokakggilajjlaa.V
open Go
/-- The chords of the last word. -/
def mostS (ts : TermL) : Nat := (ts.getD (ts.length - 1) ([], 0)).1.length / 2
def sp_most : List Cv → List Obj' → Tree
  | [.one (.ptr 0 0)], [.box t [.v (.int .i64 p), .ro (.pr (.sl 2 (.int .i64)) (.int .i64)) ts]] => .need ((ts : TermL).length ≤ 1000 ∧ ∀ x ∈ (ts : TermL), x.1.length ≤ 1000) (.ret (vi (mostS ts : Nat)) [.box t [.v (.int .i64 p), .ro (.pr (.sl 2 (.int .i64)) (.int .i64)) ts]])
  | _, _ => .fail
set_option maxHeartbeats 4000000 in
set_option maxRecDepth 100000 in
theorem good_most : Good Try.prog 124 sp_most := by
  refine good_ofF Try.func124 rfl _ rfl _ rfl (tab [c_chords]) (fun X cs os0 K hok hos hK => ?_)
  clear hos; unfold sp_most at hK
  split at hK
  case h_2 => exact hK.elim
  rename_i t p ts
  refine ⟨by simp, by simp, ?_⟩
  simp only [go_sem] at hK hok
  simp (maxSteps := 4000000) only [go_sem, Try.f124, ↓brB_t, ↓brB_f, Nat.reduceAdd, Int.reduceLE, Int.reduceLT, Int.reduceNeg, decide_true, decide_false, Bool.and_self, Nat.succ_eq_add_one, Int.toNat_natCast, Nat.beq_refl, Bool.and_true, Bool.true_and, Bool.false_or, Bool.or_true, List.all_cons, List.all_nil, Nat.reduceMul, Nat.add_zero, Nat.zero_add, List.length_nil, List.length_cons, dite_true, List.nil_append, Nat.reduceBEq, reduceDIte, reduceIte, reduceCtorEq, Bool.or_false, Bool.true_or, Bool.and_false, Bool.false_and, Bool.not_true, Bool.not_false, Option.isSome_some, Option.isSome_none, Option.getD_some, List.getElem?_cons_zero, List.getElem?_cons_succ, eq_self, and_self, List.take_succ_cons, List.take_zero, List.drop_succ_cons, List.drop_zero]
  obtain ⟨⟨h1, h2⟩, hK⟩ := hK
  clear hok
  refine brB_intro (fun h3 => ?_) (fun h3 => ?_)
  · have h3 := of_decide_eq_true h3
    have e : mostS ts = 0 := by
      unfold mostS
      cases ts with
      | nil => rfl
      | cons x r => simp at h3; omega
    rw [e] at hK
    exact retN [0] rfl hK
  · have h3 := of_decide_eq_false h3
    have e : w64 ((ts.length : Nat) - 1 : Int) = ((ts.length - 1 : Nat) : Int) := by rw [w64_id (by omega) (by omega)]; omega
    rw [e]
    exact ⟨⟨by omega, by omega⟩, by kernel_rfl, retN [0] rfl hK⟩
def c_most : Ctr Try.prog := ⟨124, ent Try.func124 rfl rfl, [true], sp_most, good_most, []⟩
@[go_sem] theorem c_most_f : c_most.f = 124 := rfl
@[go_sem] theorem c_most_ms : c_most.ms = [true] := rfl
@[go_sem] theorem c_most_sp : c_most.spec = sp_most := rfl
@[go_sem] theorem c_most_fz : c_most.fz = [] := rfl
attribute [go_sem] sp_most
def limS (ts us : TermL) : Bool := decide (0 < ts.length) && (decide (0 < us.length) && decide (6 < mostS ts + mostS us))
def sp_jl : List Cv → List Obj' → Tree
  | [.agg [.v (.int .i64 p), .ro (.pr (.sl 2 (.int .i64)) (.int .i64)) ts], .agg [.v (.int .i64 q), .ro (.pr (.sl 2 (.int .i64)) (.int .i64)) us]], [] => .need ((ts : TermL).length ≤ 1000 ∧ (us : TermL).length ≤ 1000 ∧ (∀ x ∈ (ts : TermL), x.1.length ≤ 1000) ∧ (∀ x ∈ (us : TermL), x.1.length ≤ 1000)) (.ret (vb (limS ts us)) [])
  | _, _ => .fail
set_option maxHeartbeats 4000000 in
set_option maxRecDepth 100000 in
theorem good_jl : Good Try.prog 65 sp_jl := by
  refine good_ofF Try.func65 rfl _ rfl _ rfl (tab [c_most]) (fun X cs os0 K hok hos hK => ?_)
  clear hos; unfold sp_jl at hK
  split at hK
  case h_2 => exact hK.elim
  rename_i p ts q us
  refine ⟨by simp, by simp, ?_⟩
  simp only [go_sem] at hK hok
  simp (maxSteps := 4000000) only [go_sem, Try.f65, ↓brB_t, ↓brB_f, Nat.reduceAdd, Int.reduceLE, Int.reduceLT, Int.reduceNeg, decide_true, decide_false, Bool.and_self, Nat.succ_eq_add_one, Int.toNat_natCast, Nat.beq_refl, Bool.and_true, Bool.true_and, Bool.false_or, Bool.or_true, List.all_cons, List.all_nil, Nat.reduceMul, Nat.add_zero, Nat.zero_add, List.length_nil, List.length_cons, dite_true, List.nil_append, Nat.reduceBEq, reduceDIte, reduceIte, reduceCtorEq, Bool.or_false, Bool.true_or, Bool.and_false, Bool.false_and, Bool.not_true, Bool.not_false, Option.isSome_some, Option.isSome_none, Option.getD_some, List.getElem?_cons_zero, List.getElem?_cons_succ, eq_self, and_self, List.take_succ_cons, List.take_zero, List.drop_succ_cons, List.drop_zero]
  obtain ⟨⟨h1, h2, h3, h4⟩, hK⟩ := hK
  clear hok
  have hm1 : mostS ts ≤ 500 := by
    unfold mostS
    by_cases h : 0 < ts.length
    · have := h3 _ (getD_memT (show ts.length - 1 < ts.length by omega)); omega
    · rw [List.getD_eq_getElem?_getD, List.getElem?_eq_none (by omega)]; exact Nat.zero_le _
  have hm2 : mostS us ≤ 500 := by
    unfold mostS
    by_cases h : 0 < us.length
    · have := h4 _ (getD_memT (show us.length - 1 < us.length by omega)); omega
    · rw [List.getD_eq_getElem?_getD, List.getElem?_eq_none (by omega)]; exact Nat.zero_le _
  refine brB_intro (fun h5 => brB_intro (fun h6 => ⟨⟨h1, h3⟩, ⟨h2, h4⟩, ret0 ?_⟩) (fun h6 => ret0 ?_)) (fun h5 => ret0 ?_)
  · have h5 := of_decide_eq_true h5
    have h6 := of_decide_eq_true h6
    have e : limS ts us = decide (6 < w64 ((mostS ts : Int) + (mostS us : Int))) := by
      rw [limS, decide_eq_true (show 0 < ts.length by omega), decide_eq_true (show 0 < us.length by omega), w64_id (by omega) (by omega)]
      exact decide_eq_decide.2 (by omega)
    rw [e] at hK
    exact hK
  · have h6 := of_decide_eq_false h6
    have e : limS ts us = false := by rw [limS, decide_eq_false (show ¬ 0 < us.length by omega)]; simp
    rw [e] at hK
    exact hK
  · have h5 := of_decide_eq_false h5
    have e : limS ts us = false := by rw [limS, decide_eq_false (show ¬ 0 < ts.length by omega)]; simp
    rw [e] at hK
    exact hK
def c_jl : Ctr Try.prog := ⟨65, ent Try.func65 rfl rfl, [], sp_jl, good_jl, []⟩
@[go_sem] theorem c_jl_f : c_jl.f = 65 := rfl
@[go_sem] theorem c_jl_ms : c_jl.ms = [] := rfl
@[go_sem] theorem c_jl_sp : c_jl.spec = sp_jl := rfl
@[go_sem] theorem c_jl_fz : c_jl.fz = [] := rfl
attribute [go_sem] sp_jl
/-- Why two sums are not taken together. -/
def likeC (p : Int) (ts : TermL) (q : Int) (us : TermL) : Int := if isS p ts && isS q us then (if p = q then 0 else 2) else 1
def sp_like : List Cv → List Obj' → Tree
  | [.agg [.v (.int .i64 p), .ro (.pr (.sl 2 (.int .i64)) (.int .i64)) ts], .agg [.v (.int .i64 q), .ro (.pr (.sl 2 (.int .i64)) (.int .i64)) us]], [] => .ret (vi (likeC p ts q us)) []
  | _, _ => .fail
set_option maxHeartbeats 4000000 in
set_option maxRecDepth 100000 in
theorem good_like : Good Try.prog 61 sp_like := by
  refine good_ofF Try.func61 rfl _ rfl _ rfl (tab [c_l03Is]) (fun X cs os0 K hok hos hK => ?_)
  clear hos; unfold sp_like at hK
  split at hK
  case h_2 => exact hK.elim
  rename_i p ts q us
  refine ⟨by simp, by simp, ?_⟩
  simp only [go_sem] at hK hok
  simp (maxSteps := 4000000) only [go_sem, Try.f61, ↓brB_t, ↓brB_f, Nat.reduceAdd, Int.reduceLE, Int.reduceLT, Int.reduceNeg, decide_true, decide_false, Bool.and_self, Nat.succ_eq_add_one, Int.toNat_natCast, Nat.beq_refl, Bool.and_true, Bool.true_and, Bool.false_or, Bool.or_true, List.all_cons, List.all_nil, Nat.reduceMul, Nat.add_zero, Nat.zero_add, List.length_nil, List.length_cons, dite_true, List.nil_append, Nat.reduceBEq, reduceDIte, reduceIte, reduceCtorEq, Bool.or_false, Bool.true_or, Bool.and_false, Bool.false_and, Bool.not_true, Bool.not_false, Option.isSome_some, Option.isSome_none, Option.getD_some, List.getElem?_cons_zero, List.getElem?_cons_succ, eq_self, and_self, List.take_succ_cons, List.take_zero, List.drop_succ_cons, List.drop_zero]
  clear hok
  refine brB_intro (fun h1 => ret0 ?_) (fun h1 => brB_intro (fun h2 => ret0 ?_) (fun h2 => brB_intro (fun h3 => ret0 ?_) (fun h3 => ret0 ?_)))
  · rw [likeC, snb h1] at hK; exact hK
  · rw [likeC, snb' h1, snb h2] at hK; exact hK
  · rw [likeC, snb' h1, snb' h2, if_pos (by rfl), if_neg (of_decide_eq_false (snb h3))] at hK; exact hK
  · rw [likeC, snb' h1, snb' h2, if_pos (by rfl), if_pos (of_decide_eq_true (snb' h3))] at hK; exact hK
def c_like : Ctr Try.prog := ⟨61, ent Try.func61 rfl rfl, [], sp_like, good_like, []⟩
@[go_sem] theorem c_like_f : c_like.f = 61 := rfl
@[go_sem] theorem c_like_ms : c_like.ms = [] := rfl
@[go_sem] theorem c_like_sp : c_like.spec = sp_like := rfl
@[go_sem] theorem c_like_fz : c_like.fz = [] := rfl
attribute [go_sem] sp_like
theorem wrong_like (p : Int) (ts : TermL) (q : Int) (us : TermL) : wrongS [(p, ts), (q, us)] = likeC p ts q us := by
  unfold wrongS likeC
  have e : List.any [(p, ts), (q, us)] (fun x => !isS x.1 x.2) = (!isS p ts || !isS q us) := by simp
  have e2 : List.any [(p, ts), (q, us)] (fun x => !decide (x.1 = (List.getD [(p, ts), (q, us)] 0 (0, [])).1)) = !decide (q = p) := by
    simp only [List.any_cons, List.any_nil, List.getD_cons_zero, Bool.or_false, decide_true, Bool.not_true, Bool.false_or]
  rw [e, e2]
  cases h1 : isS p ts <;> cases h2 : isS q us <;> by_cases h3 : q = p <;> simp [h3, eq_comm] <;> (intro h; exact absurd h.symm h3)
/-! ### joined words of two sums -/
def joinS1 (a : List Int × Int) (us : TermL) : TermL := us.map fun b => (joL a.1 b.1, w64 (a.2 * b.2))
def joinS (ts us : TermL) : TermL := ts.flatMap fun a => joinS1 a us
theorem joinS1_s {a : List Int × Int} {us : TermL} {k : Nat} (h : k < us.length) : joinS1 a (us.take (k + 1)) = joinS1 a (us.take k) ++ [(joL a.1 (us.getD k ([], 0)).1, w64 (a.2 * (us.getD k ([], 0)).2))] := by
  have e : us.getD k ([], 0) = us[k] := by rw [List.getD_eq_getElem?_getD, List.getElem?_eq_getElem h]; rfl
  rw [joinS1, List.take_succ_eq_append_getElem h, List.map_append, e]; rfl
theorem joinS_s {ts us : TermL} {i : Nat} (h : i < ts.length) : joinS (ts.take (i + 1)) us = joinS (ts.take i) us ++ joinS1 (ts.getD i ([], 0)) us := by
  have e : ts.getD i ([], 0) = ts[i] := by rw [List.getD_eq_getElem?_getD, List.getElem?_eq_getElem h]; rfl
  rw [joinS, List.take_succ_eq_append_getElem h, List.flatMap_append, e]
  simp [joinS]
theorem joinS1_len (a : List Int × Int) (us : TermL) : (joinS1 a us).length = us.length := List.length_map ..
theorem joinS_len (us : TermL) : ∀ ts : TermL, (joinS ts us).length = ts.length * us.length
  | [] => by simp [joinS]
  | a :: ts => by
    have := joinS_len us ts
    have e : joinS (a :: ts) us = joinS1 a us ++ joinS ts us := rfl
    rw [e, List.length_append, joinS1_len, this, List.length_cons, Nat.succ_mul, Nat.add_comm]
theorem joinS_mem {ts us : TermL} {a b : List Int × Int} (ha : a ∈ ts) (hb : b ∈ us) : (joL a.1 b.1, w64 (a.2 * b.2)) ∈ joinS ts us :=
  List.mem_flatMap.2 ⟨a, ha, List.mem_map.2 ⟨b, hb, rfl⟩⟩
theorem mem_joinS {ts us : TermL} {x : List Int × Int} (h : x ∈ joinS ts us) : ∃ a ∈ ts, ∃ b ∈ us, x = (joL a.1 b.1, w64 (a.2 * b.2)) := by
  obtain ⟨a, ha, h⟩ := List.mem_flatMap.1 h
  obtain ⟨b, hb, rfl⟩ := List.mem_map.1 h
  exact ⟨a, ha, b, hb, rfl⟩
theorem joL_sm {a b : List Int} (ha : isW a = true) (hb : isW b = true) : smB (joL a b) := by
  have h1 := Go.Proofs.Ytokakggilajjlaa.L.word_range (by rw [← Go.Proofs.Ytokakggilajjlaa.L.isW_eq]; exact ha)
  have h2 := Go.Proofs.Ytokakggilajjlaa.L.word_range (by rw [← Go.Proofs.Ytokakggilajjlaa.L.isW_eq]; exact hb)
  refine ⟨by rw [joL_len]; omega, fun x hx => ?_⟩
  rcases List.mem_append.1 hx with hx | hx
  · have := h1.2 x hx; omega
  · obtain ⟨y, hy, rfl⟩ := List.mem_map.1 hx
    have := h2.2 y hy
    rw [w64_id (by omega) (by omega)]; omega
/-- Numbers gathered, one by one. -/
def gS (p : Int) (l : MapL) (ts : TermL) : MapL := ts.foldl (fun l x => gAdd p l x.1 x.2) l
theorem gS_app (p : Int) (l : MapL) (a b : TermL) : gS p l (a ++ b) = gS p (gS p l a) b := by rw [gS, List.foldl_append]; rfl
theorem gS_len (p : Int) : ∀ (ts : TermL) (l : MapL), (gS p l ts).length ≤ l.length + ts.length
  | [], l => Nat.le_refl _
  | x :: ts, l => by
    have h1 := gS_len p ts (gAdd p l x.1 x.2)
    have h2 := gAdd_len p l x.1 x.2
    have e : gS p l (x :: ts) = gS p (gAdd p l x.1 x.2) ts := rfl
    rw [e, List.length_cons]; omega
theorem gS_rep (p : Int) : ∀ (ts : TermL) (l : MapL) (c : List Int → Int), GRep l c → (∀ x ∈ ts, smB x.1) → GRep (gS p l ts) (cF p c ts)
  | [], l, c, h, _ => h
  | x :: ts, l, c, h, hw => gS_rep p ts _ _ (h.add p (hw x List.mem_cons_self) x.2) (fun y hy => hw y (List.mem_cons_of_mem _ hy))
def sp_prod : List Cv → List Obj' → Tree
  | [.agg [.v (.int .i64 p), .ro (.pr (.sl 2 (.int .i64)) (.int .i64)) ts], .agg [.v (.int .i64 q), .ro (.pr (.sl 2 (.int .i64)) (.int .i64)) us], .one (.v (.int .i64 m))], [] =>
    .need (p ≠ 0 ∧ m = 6 ∧ (ts : TermL).length ≤ 200 ∧ (us : TermL).length ≤ 200 ∧ (∀ x ∈ (ts : TermL), isW x.1 = true) ∧ (∀ x ∈ (us : TermL), isW x.1 = true) ∧ ∀ x ∈ joinS ts us, x.1.length ≤ 12)
      (.ret (.val (.agg [.v (.int .i64 p), .own 0])) [.drow 68 (.pr (.sl 2 (.int .i64)) (.int .i64)) (jS p (joinS ts us))])
  | _, _ => .fail
set_option maxHeartbeats 4000000 in
set_option maxRecDepth 100000 in
theorem good_prod : Good Try.prog 67 sp_prod := by
  refine good_ofF Try.func67 rfl _ rfl _ rfl (tab [c_newG, c_gAdd, c_gSum, c_chords, c_joinI]) (fun X cs os0 K hok hos hK => ?_)
  clear hos; unfold sp_prod at hK
  split at hK
  case h_2 => exact hK.elim
  rename_i p ts q us m
  refine ⟨by simp, by simp, ?_⟩
  simp only [go_sem] at hK hok
  simp (maxSteps := 4000000) only [go_sem, Try.f67, ↓brB_t, ↓brB_f, Nat.reduceAdd, Int.reduceLE, Int.reduceLT, Int.reduceNeg, decide_true, decide_false, Bool.and_self, Nat.succ_eq_add_one, Int.toNat_natCast, Nat.beq_refl, Bool.and_true, Bool.true_and, Bool.false_or, Bool.or_true, List.all_cons, List.all_nil, Nat.reduceMul, Nat.add_zero, Nat.zero_add, List.length_nil, List.length_cons, dite_true, List.nil_append, Nat.reduceBEq, reduceDIte, reduceIte, reduceCtorEq, Bool.or_false, Bool.true_or, Bool.and_false, Bool.false_and, Bool.not_true, Bool.not_false, Option.isSome_some, Option.isSome_none, Option.getD_some, List.getElem?_cons_zero, List.getElem?_cons_succ, eq_self, and_self, List.take_succ_cons, List.take_zero, List.drop_succ_cons, List.drop_zero]
  obtain ⟨⟨h1, h2, h3, h4, h5, h6, h7⟩, hK⟩ := hK
  clear hok
  subst h2
  have hsm : ∀ x ∈ joinS ts us, smB x.1 := fun x hx => by
    obtain ⟨a, ha, b, hb, rfl⟩ := mem_joinS hx
    exact joL_sm (h5 a ha) (h6 b hb)
  refine loop_okF (T := tab [c_newG, c_gAdd, c_gSum, c_chords, c_joinI]) [2, 4, 6, 7, 16, 17, 18] [(16, 80), (17, 112), (18, 240), (19, 241)] (fun i : Nat => ⟨54, [(2, vi 6), (4, .val (.one (.ptr 16 0))), (6, .val (.one (.ptr 17 0))), (7, .val (.one (.ptr 18 0))), (16, .val (.one (.ro kTerm ts))), (17, vi (ts.length : Nat)), (18, vi i)],
      [(16, .box tS' [.v (.int .i64 q), .ro kTerm us]), (17, .box tS' [.v (.int .i64 0), .v (.slice none 0 0)]), (18, oG p 19), (19, oM (gS p [] (joinS (ts.take i) us)))]⟩)
    (fun i => i ≤ ts.length) (fun i => ts.length - i) 0 rfl rfl (Nat.zero_le _) (fun i hi => ?_)
  simp only [go_sem, ↓brB_t, ↓brB_f, Nat.reduceAdd, Int.reduceLE, Int.reduceLT, Int.reduceNeg, decide_true, decide_false, Bool.and_self, Nat.succ_eq_add_one, Int.toNat_natCast, Nat.beq_refl, Bool.and_true, Bool.true_and, Bool.false_or, Bool.or_true, List.all_cons, List.all_nil, Nat.reduceMul, Nat.add_zero, Nat.zero_add, List.length_nil, List.length_cons, dite_true, List.nil_append, Nat.reduceBEq, reduceDIte, reduceIte, reduceCtorEq, Bool.or_false, Bool.true_or, Bool.and_false, Bool.false_and, Bool.not_true, Bool.not_false, Option.isSome_some, Option.isSome_none, Option.getD_some, List.getElem?_cons_zero, List.getElem?_cons_succ, eq_self, and_self, List.take_succ_cons, List.take_zero, List.drop_succ_cons, List.drop_zero]
  refine brB_intro (fun h8 => ?_) (fun h8 => ?_)
  · have h8 := of_decide_eq_true h8
    have hs := joinS_s (ts := ts) (us := us) (i := i) (by omega)
    have hw1 : w64 ((i : Int) + 1) = ((i + 1 : Nat) : Int) := w64_s (n := ts.length) (by omega) (by omega)
    have hx := getD_memT (show i < ts.length by omega)
    refine ⟨⟨by omega, by omega⟩, ?_⟩
    generalize ts.getD i ([], 0) = a at *
    refine loop_okF (T := tab [c_newG, c_gAdd, c_gSum, c_chords, c_joinI]) [2, 4, 6, 7, 9, 16, 17, 18, 23, 24, 25] [(16, 16), (17, 17), (18, 18), (19, 19), (20, 160)] (fun k : Nat => ⟨54, [(2, vi 6), (4, .val (.one (.ptr 16 0))), (6, .val (.one (.ptr 17 0))), (7, .val (.one (.ptr 18 0))), (9, .val (.one (.ptr 20 0))), (16, .val (.one (.ro kTerm ts))), (17, vi (ts.length : Nat)), (18, vi i), (23, .val (.one (.ro kTerm us))), (24, vi (us.length : Nat)), (25, vi k)],
      [(16, .box tS' [.v (.int .i64 q), .ro kTerm us]), (17, .box tS' [.v (.int .i64 0), .v (.slice none 0 0)]), (18, oG p 19), (19, oM (gS p [] (joinS (ts.take i) us ++ joinS1 a (us.take k)))), (20, .box tI [.ro (.int .i64) a.1, .v (.int .i64 a.2)])]⟩)
      (fun k => k ≤ us.length) (fun k => us.length - k) 0 rfl (by rw [show joinS1 a (us.take 0) = [] from rfl, List.append_nil]; rfl) (Nat.zero_le _) (fun k hk => ?_)
    simp only [go_sem, ↓brB_t, ↓brB_f, Nat.reduceAdd, Int.reduceLE, Int.reduceLT, Int.reduceNeg, decide_true, decide_false, Bool.and_self, Nat.succ_eq_add_one, Int.toNat_natCast, Nat.beq_refl, Bool.and_true, Bool.true_and, Bool.false_or, Bool.or_true, List.all_cons, List.all_nil, Nat.reduceMul, Nat.add_zero, Nat.zero_add, List.length_nil, List.length_cons, dite_true, List.nil_append, Nat.reduceBEq, reduceDIte, reduceIte, reduceCtorEq, Bool.or_false, Bool.true_or, Bool.and_false, Bool.false_and, Bool.not_true, Bool.not_false, Option.isSome_some, Option.isSome_none, Option.getD_some, List.getElem?_cons_zero, List.getElem?_cons_succ, eq_self, and_self, List.take_succ_cons, List.take_zero, List.drop_succ_cons, List.drop_zero]
    refine brB_intro (fun h9 => ?_) (fun h9 => ?_)
    · have h9 := of_decide_eq_true h9
      have hs1 := joinS1_s (a := a) (us := us) (k := k) (by omega)
      have hk1 : w64 ((k : Int) + 1) = ((k + 1 : Nat) : Int) := w64_s (n := us.length) (by omega) (by omega)
      have hy := getD_memT (show k < us.length by omega)
      have hj := h7 _ (joinS_mem hx hy)
      have hj : (joL a.1 (us.getD k ([], 0)).1).length ≤ 12 := hj
      rw [joL_len] at hj
      generalize us.getD k ([], 0) = b at *
      have hgl := gS_len p (joinS (ts.take i) us ++ joinS1 a (us.take k)) []
      have hl1 := joinS_len us (ts.take i)
      have hl2 := joinS1_len a (us.take k)
      have htl : (ts.take i).length = i := by rw [List.length_take]; omega
      have hul : (us.take k).length = k := by rw [List.length_take]; omega
      have hl3 : i * us.length ≤ 200 * 200 := Nat.mul_le_mul (by omega) h4
      have hl4 : (gS p [] (joinS (ts.take i) us ++ joinS1 a (us.take k))).length ≤ 200 * 200 + 200 := by
        rw [List.length_append, hl1, hl2, htl, hul, List.length_nil] at hgl
        omega
      refine ⟨⟨by omega, by omega⟩, by kernel_rfl, brB_intro (fun h10 => ?_) (fun h10 => ?_)⟩
      · refine ⟨⟨by omega, by omega⟩, ⟨h1, by rw [joL_len]; omega, by omega, trivial⟩, by kernel_rfl, k + 1, [(16, 16), (17, 17), (18, 18), (19, 19), (20, 20)], by omega, by omega, rfl, ?_⟩
        rw [hk1, hs1, ← List.append_assoc, gS_app p [] _ [_]]
        rfl
      · have h10 := of_decide_eq_false h10
        rw [w64_id (by omega) (by omega)] at h10
        omega
    · have h9 := of_decide_eq_false h9
      have e : k = us.length := by omega
      subst e
      rw [List.take_length, ← hs, hw1]
      exact ⟨i + 1, [(16, 16), (17, 17), (18, 18), (19, 19)], by omega, by omega, rfl, rfl⟩
  · have h8 := of_decide_eq_false h8
    have e : i = ts.length := by omega
    subst e
    rw [List.take_length]
    have hc := gS_rep p (joinS ts us) [] _ GRep.nil hsm
    have e : sortT (nzT (gS p [] (joinS ts us))) = jS p (joinS ts us) := hc.sum (jS_rep p _ hsm)
    have hl := gS_len p (joinS ts us) []
    have hl2 := joinS_len us ts
    have hl3 : ts.length * us.length ≤ 200 * 200 := Nat.mul_le_mul h3 h4
    refine ⟨⟨by simp only [List.length_nil] at hl; omega, fun x hx => by have := (hc.key x hx).2.1; omega, hc.words⟩, retN [864] rfl ?_⟩
    rw [← e] at hK
    exact hK
def c_prod : Ctr Try.prog := ⟨67, ent Try.func67 rfl rfl, [], sp_prod, good_prod, []⟩
@[go_sem] theorem c_prod_f : c_prod.f = 67 := rfl
@[go_sem] theorem c_prod_ms : c_prod.ms = [] := rfl
@[go_sem] theorem c_prod_sp : c_prod.spec = sp_prod := rfl
@[go_sem] theorem c_prod_fz : c_prod.fz = [] := rfl
attribute [go_sem] sp_prod
def q12 (x : List Int × Int) : Bool := decide (x.1.length ≤ 12)
theorem tw_bad {A B : TermL} {x : List Int × Int} (hA : A.all q12 = true) (hx : q12 x = false) : (A ++ x :: B).takeWhile q12 = A ∧ (A ++ x :: B).all q12 = false := by
  constructor
  · rw [List.takeWhile_append_of_pos (fun a ha => List.all_eq_true.1 hA a ha), List.takeWhile_cons_of_neg (by rw [hx]; decide), List.append_nil]
  · rw [List.all_append, List.all_cons, hx]; simp
theorem tw_good {A : TermL} (hA : A.all q12 = true) : A.takeWhile q12 = A := by
  rw [List.all_eq_true] at hA
  induction A with
  | nil => rfl
  | cons x A ih => rw [List.takeWhile_cons_of_pos (hA x List.mem_cons_self), ih fun y hy => hA y (List.mem_cons_of_mem _ hy)]
theorem joinS_at {ts us : TermL} {i k : Nat} (hi : i < ts.length) (hk : k < us.length) : ∃ B, joinS ts us = (joinS (ts.take i) us ++ joinS1 (ts.getD i ([], 0)) (us.take k)) ++ (joL (ts.getD i ([], 0)).1 (us.getD k ([], 0)).1, w64 ((ts.getD i ([], 0)).2 * (us.getD k ([], 0)).2)) :: B := by
  have e1 : joinS ts us = joinS (ts.take (i + 1)) us ++ joinS (ts.drop (i + 1)) us := by
    rw [joinS, joinS, joinS, ← List.flatMap_append, List.take_append_drop]
  have e2 : joinS1 (ts.getD i ([], 0)) us = joinS1 (ts.getD i ([], 0)) (us.take (k + 1)) ++ joinS1 (ts.getD i ([], 0)) (us.drop (k + 1)) := by
    rw [joinS1, joinS1, joinS1, ← List.map_append, List.take_append_drop]
  rw [e1, joinS_s hi, e2, joinS1_s hk]
  exact ⟨_, by simp only [List.append_assoc, List.singleton_append, List.cons_append, List.nil_append]; rfl⟩
def sp_l03Join : List Cv → List Obj' → Tree
  | [.agg [.v (.int .i64 p), .ro (.pr (.sl 2 (.int .i64)) (.int .i64)) ts], .agg [.v (.int .i64 q), .ro (.pr (.sl 2 (.int .i64)) (.int .i64)) us]], [] =>
    .need (p ≠ 0 ∧ (ts : TermL).length ≤ 200 ∧ (us : TermL).length ≤ 200 ∧ (∀ x ∈ (ts : TermL), x.1.length ≤ 12) ∧ (∀ x ∈ (us : TermL), x.1.length ≤ 12))
      (.ret (.tup [.agg [.v (.int .i64 p), .own 0], .one (.v (.bool ((joinS ts us).all q12)))]) [.drow 68 (.pr (.sl 2 (.int .i64)) (.int .i64)) (jS p ((joinS ts us).takeWhile q12))])
  | _, _ => .fail
set_option maxHeartbeats 4000000 in
set_option maxRecDepth 100000 in
theorem good_l03Join : Good Try.prog 62 sp_l03Join := by
  refine good_ofF Try.func62 rfl _ rfl _ rfl (tab [c_l03Empty, c_l03Put, c_joinS]) (fun X cs os0 K hok hos hK => ?_)
  clear hos; unfold sp_l03Join at hK
  split at hK
  case h_2 => exact hK.elim
  rename_i p ts q us
  refine ⟨by simp, by simp, ?_⟩
  simp only [go_sem] at hK hok
  simp (maxSteps := 4000000) only [go_sem, Try.f62, ↓brB_t, ↓brB_f, Nat.reduceAdd, Int.reduceLE, Int.reduceLT, Int.reduceNeg, decide_true, decide_false, Bool.and_self, Nat.succ_eq_add_one, Int.toNat_natCast, Nat.beq_refl, Bool.and_true, Bool.true_and, Bool.false_or, Bool.or_true, List.all_cons, List.all_nil, Nat.reduceMul, Nat.add_zero, Nat.zero_add, List.length_nil, List.length_cons, dite_true, List.nil_append, Nat.reduceBEq, reduceDIte, reduceIte, reduceCtorEq, Bool.or_false, Bool.true_or, Bool.and_false, Bool.false_and, Bool.not_true, Bool.not_false, Option.isSome_some, Option.isSome_none, Option.getD_some, List.getElem?_cons_zero, List.getElem?_cons_succ, eq_self, and_self, List.take_succ_cons, List.take_zero, List.drop_succ_cons, List.drop_zero]
  obtain ⟨⟨h1, h3, h4, h5, h6⟩, hK⟩ := hK
  clear hok
  refine loop_okF (T := tab [c_l03Empty, c_l03Put, c_joinS]) [2, 3, 4, 6, 7] [(16, 48), (17, 64), (18, 80), (19, 112), (20, 224)] (fun i : Nat => ⟨60, [(2, .val (.one (.ptr 16 0))), (3, .val (.one (.ptr 17 0))), (4, .val (.one (.ptr 18 0))), (6, .val (.one (.ptr 19 0))), (7, vi i)],
      [(16, .box tS' [.v (.int .i64 p), .ro kTerm ts]), (17, .box tS' [.v (.int .i64 q), .ro kTerm us]), (18, .box tS' [.v (.int .i64 0), .v (.slice none 0 0)]), (19, .box tS' [.v (.int .i64 p), .own 20]), (20, .drow tI kTerm (jS p (joinS (ts.take i) us)))]⟩)
    (fun i => i ≤ ts.length ∧ (joinS (ts.take i) us).all q12 = true) (fun i => ts.length - i) 0 rfl rfl ⟨Nat.zero_le _, rfl⟩ (fun i hi => ?_)
  obtain ⟨hi, hq⟩ := hi
  simp only [go_sem, ↓brB_t, ↓brB_f, Nat.reduceAdd, Int.reduceLE, Int.reduceLT, Int.reduceNeg, decide_true, decide_false, Bool.and_self, Nat.succ_eq_add_one, Int.toNat_natCast, Nat.beq_refl, Bool.and_true, Bool.true_and, Bool.false_or, Bool.or_true, List.all_cons, List.all_nil, Nat.reduceMul, Nat.add_zero, Nat.zero_add, List.length_nil, List.length_cons, dite_true, List.nil_append, Nat.reduceBEq, reduceDIte, reduceIte, reduceCtorEq, Bool.or_false, Bool.true_or, Bool.and_false, Bool.false_and, Bool.not_true, Bool.not_false, Option.isSome_some, Option.isSome_none, Option.getD_some, List.getElem?_cons_zero, List.getElem?_cons_succ, eq_self, and_self, List.take_succ_cons, List.take_zero, List.drop_succ_cons, List.drop_zero]
  refine brB_intro (fun h8 => ?_) (fun h8 => ?_)
  · have h8 := of_decide_eq_true h8
    have hs := joinS_s (ts := ts) (us := us) (i := i) (by omega)
    have hw1 : w64 ((i : Int) + 1) = ((i + 1 : Nat) : Int) := w64_s (n := ts.length) (by omega) (by omega)
    have hx := h5 _ (getD_memT (show i < ts.length by omega))
    have hat := fun k => joinS_at (ts := ts) (us := us) (i := i) (k := k) (by omega)
    generalize ea : ts.getD i ([], 0) = a at *
    refine loop_okF (T := tab [c_l03Empty, c_l03Put, c_joinS]) [2, 3, 4, 6, 7, 8] [(16, 16), (17, 17), (18, 18), (19, 19), (20, 20)] (fun k : Nat => ⟨60, [(2, .val (.one (.ptr 16 0))), (3, .val (.one (.ptr 17 0))), (4, .val (.one (.ptr 18 0))), (6, .val (.one (.ptr 19 0))), (7, vi i), (8, vi k)],
      [(16, .box tS' [.v (.int .i64 p), .ro kTerm ts]), (17, .box tS' [.v (.int .i64 q), .ro kTerm us]), (18, .box tS' [.v (.int .i64 0), .v (.slice none 0 0)]), (19, .box tS' [.v (.int .i64 p), .own 20]), (20, .drow tI kTerm (jS p (joinS (ts.take i) us ++ joinS1 a (us.take k))))]⟩)
      (fun k => k ≤ us.length ∧ (joinS1 a (us.take k)).all q12 = true) (fun k => us.length - k) 0 rfl (by rw [show joinS1 a (us.take 0) = [] from rfl, List.append_nil]; rfl) ⟨Nat.zero_le _, rfl⟩ (fun k hk => ?_)
    obtain ⟨hk, hqk⟩ := hk
    simp only [go_sem, ↓brB_t, ↓brB_f, Nat.reduceAdd, Int.reduceLE, Int.reduceLT, Int.reduceNeg, decide_true, decide_false, Bool.and_self, Nat.succ_eq_add_one, Int.toNat_natCast, Nat.beq_refl, Bool.and_true, Bool.true_and, Bool.false_or, Bool.or_true, List.all_cons, List.all_nil, Nat.reduceMul, Nat.add_zero, Nat.zero_add, List.length_nil, List.length_cons, dite_true, List.nil_append, Nat.reduceBEq, reduceDIte, reduceIte, reduceCtorEq, Bool.or_false, Bool.true_or, Bool.and_false, Bool.false_and, Bool.not_true, Bool.not_false, Option.isSome_some, Option.isSome_none, Option.getD_some, List.getElem?_cons_zero, List.getElem?_cons_succ, eq_self, and_self, List.take_succ_cons, List.take_zero, List.drop_succ_cons, List.drop_zero]
    rw [ea]
    have hall : (joinS (ts.take i) us ++ joinS1 a (us.take k)).all q12 = true := by rw [List.all_append, hq, hqk]; rfl
    refine brB_intro (fun h9 => ?_) (fun h9 => ?_)
    · have h9 := of_decide_eq_true h9
      obtain ⟨B, hB⟩ := hat k (by omega)
      have hs1 := joinS1_s (a := a) (us := us) (k := k) (by omega)
      have hk1 : w64 ((k : Int) + 1) = ((k + 1 : Nat) : Int) := w64_s (n := us.length) (by omega) (by omega)
      have hy := h6 _ (getD_memT (show k < us.length by omega))
      generalize us.getD k ([], 0) = b at *
      have hjl := jS_len p (joinS (ts.take i) us ++ joinS1 a (us.take k))
      have hl1 := joinS_len us (ts.take i)
      have hl2 := joinS1_len a (us.take k)
      have htl : (ts.take i).length = i := by rw [List.length_take]; omega
      have hul : (us.take k).length = k := by rw [List.length_take]; omega
      have hl3 : i * us.length ≤ 200 * 200 := Nat.mul_le_mul (by omega) h4
      rw [List.length_append, hl1, hl2, htl, hul] at hjl
      have hjw := jS_q (p := p) (q := fun u => u.length ≤ 12) (ts := joinS (ts.take i) us ++ joinS1 a (us.take k)) (fun x hx => of_decide_eq_true (List.all_eq_true.1 hall x hx))
      refine ⟨⟨by omega, by omega⟩, ⟨by omega, by omega⟩, by kernel_rfl, brB_intro (fun h10 => ?_) (fun h10 => ?_)⟩
      · have h10 := of_decide_eq_true h10
        rw [w64_id (by omega) (by omega)] at h10
        have hb := tw_bad (B := B) (x := (joL a.1 b.1, w64 (a.2 * b.2))) hall (decide_eq_false (by rw [joL_len]; omega))
        rw [hB, hb.1, hb.2] at hK
        exact retN [20] rfl hK
      · have h10 := of_decide_eq_false h10
        rw [w64_id (by omega) (by omega)] at h10
        have hq1 : (joinS1 a (us.take (k + 1))).all q12 = true := by
          rw [hs1, List.all_append, hqk, List.all_cons, List.all_nil, Bool.and_true, Bool.true_and]
          exact decide_eq_true (by rw [joL_len]; omega)
        refine ⟨⟨by omega, by omega⟩, ⟨h1, by omega, by rw [joL_len]; omega, fun x hx => by have := hjw x hx; omega⟩, by kernel_rfl, k + 1, [(16, 16), (17, 17), (18, 18), (19, 19), (20, 944)], ⟨by omega, hq1⟩, by omega, rfl, ?_⟩
        rw [hk1, hs1, ← List.append_assoc, jS_s]
        rfl
    · have h9 := of_decide_eq_false h9
      have e : k = us.length := by omega
      subst e
      rw [List.take_length] at hall hqk ⊢
      rw [← hs] at hall ⊢
      rw [hw1]
      exact ⟨i + 1, [(16, 16), (17, 17), (18, 18), (19, 19), (20, 20)], ⟨by omega, hall⟩, by omega, rfl, rfl⟩
  · have h8 := of_decide_eq_false h8
    have e : i = ts.length := by omega
    subst e
    rw [List.take_length] at hq ⊢
    rw [tw_good hq, hq] at hK
    exact retN [20] rfl hK
def c_l03Join : Ctr Try.prog := ⟨62, ent Try.func62 rfl rfl, [], sp_l03Join, good_l03Join, []⟩
@[go_sem] theorem c_l03Join_f : c_l03Join.f = 62 := rfl
@[go_sem] theorem c_l03Join_ms : c_l03Join.ms = [] := rfl
@[go_sem] theorem c_l03Join_sp : c_l03Join.spec = sp_l03Join := rfl
@[go_sem] theorem c_l03Join_fz : c_l03Join.fz = [] := rfl
attribute [go_sem] sp_l03Join
/-! ### the join of two sums -/
/-- What JoinSums gives. -/
def jR (p : Int) (ts : TermL) (q : Int) (us : TermL) : (Int × TermL) × Int :=
  if likeC p ts q us = 0 then (if (joinS ts us).all q12 then (if 200 < (jS p (joinS ts us)).length then ((0, []), 3) else ((p, jS p (joinS ts us)), 0)) else ((0, []), 3)) else ((0, []), likeC p ts q us)
def sp_jOf : List Cv → List Obj' → Tree
  | [.agg [.v (.int .i64 p), .ro (.pr (.sl 2 (.int .i64)) (.int .i64)) ts], .agg [.v (.int .i64 q), .ro (.pr (.sl 2 (.int .i64)) (.int .i64)) us]], [] => resS (jR p ts q us)
  | _, _ => .fail
theorem like_0 {p q : Int} {ts us : TermL} (h : likeC p ts q us = 0) : isS p ts = true ∧ isS q us = true ∧ p = q := by
  unfold likeC at h
  cases h1 : isS p ts <;> cases h2 : isS q us <;> simp [h1, h2] at h ⊢
  exact h
set_option maxHeartbeats 4000000 in
set_option maxRecDepth 100000 in
theorem good_jOfS : Good Try.prog 20 sp_jOf := by
  refine good_ofF Try.func20 rfl _ rfl _ rfl (tab [c_like, c_l03Join, c_told]) (fun X cs os0 K hok hos hK => ?_)
  clear hos; unfold sp_jOf at hK
  split at hK
  case h_2 => exact hK.elim
  rename_i p ts q us
  refine ⟨by simp, by simp, ?_⟩
  simp only [go_sem] at hK hok
  simp (maxSteps := 4000000) only [go_sem, Try.f20, ↓brB_t, ↓brB_f, Nat.reduceAdd, Int.reduceLE, Int.reduceLT, Int.reduceNeg, decide_true, decide_false, Bool.and_self, Nat.succ_eq_add_one, Int.toNat_natCast, Nat.beq_refl, Bool.and_true, Bool.true_and, Bool.false_or, Bool.or_true, List.all_cons, List.all_nil, Nat.reduceMul, Nat.add_zero, Nat.zero_add, List.length_nil, List.length_cons, dite_true, List.nil_append, Nat.reduceBEq, reduceDIte, reduceIte, reduceCtorEq, Bool.or_false, Bool.true_or, Bool.and_false, Bool.false_and, Bool.not_true, Bool.not_false, Option.isSome_some, Option.isSome_none, Option.getD_some, List.getElem?_cons_zero, List.getElem?_cons_succ, eq_self, and_self, List.take_succ_cons, List.take_zero, List.drop_succ_cons, List.drop_zero]
  clear hok
  have err : ∀ {c : Int}, jR p ts q us = ((0, []), c) → K (.tup [.agg [.v (.int .i64 0), .own 0], .one (.v (.int .i64 c))]) [.drow tI kTerm []] := fun e => by rw [e] at hK; exact hK
  refine brB_intro (fun h1 => retM [⟨.cell 80 1, 16, tI, kTerm⟩] rfl (retN [16] rfl (err (by rw [jR, if_neg (of_decide_eq_false (snb h1))])))) (fun h1 => ?_)
  have h1 := of_decide_eq_true (snb' h1)
  obtain ⟨s1, s2, rfl⟩ := like_0 h1
  have w1 := isS_words s1
  have w2 := isS_words s2
  refine ⟨⟨(isS_parts s1).1, (isS_parts s1).2.1, (isS_parts s2).2.1, (isS_parts s1).2.2, (isS_parts s2).2.2⟩, brB_intro (fun h2 => ?_) (fun h2 => ?_)⟩
  · have h2 := snb h2
    exact retM [⟨.cell 80 1, 16, tI, kTerm⟩] rfl (retN [16] rfl (err (by rw [jR, if_pos h1, h2]; rfl)))
  · have h2 := snb' h2
    rw [tw_good h2]
    refine brB_intro (fun h3 => ?_) (fun h3 => ?_)
    · have h3 := of_decide_eq_true h3
      exact retN [480] rfl (err (by rw [jR, if_pos h1, if_pos h2, if_pos (by omega)]))
    · have h3 := of_decide_eq_false h3
      have er : jR p ts p us = ((p, jS p (joinS ts us)), 0) := by rw [jR, if_pos h1, if_pos h2, if_neg (by omega)]
      rw [er] at hK
      exact retN [352] rfl hK
def c_jOfS : Ctr Try.prog := ⟨20, ent Try.func20 rfl rfl, [], sp_jOf, good_jOfS, []⟩
@[go_sem] theorem c_jOfS_f : c_jOfS.f = 20 := rfl
@[go_sem] theorem c_jOfS_ms : c_jOfS.ms = [] := rfl
@[go_sem] theorem c_jOfS_sp : c_jOfS.spec = sp_jOf := rfl
@[go_sem] theorem c_jOfS_fz : c_jOfS.fz = [] := rfl
attribute [go_sem] sp_jOf
theorem before_len {a b : List Int} (h : beforeB a b = true) : a.length ≤ b.length := by
  unfold beforeB at h
  split at h
  · omega
  · have := of_decide_eq_true h; omega
theorem isS_even {p : Int} {ts : TermL} (h : isS p ts = true) : ∀ x ∈ ts, ∃ m, x.1.length = 2 * m := fun x hx => by
  obtain ⟨m, hm⟩ := Go.Proofs.Ytokakggilajjlaa.L.word_of x.1 (by rw [← Go.Proofs.Ytokakggilajjlaa.L.isW_eq]; exact isS_words h x hx)
  exact ⟨m, hm.len⟩
/-- The words lie in the order of their lengths. -/
theorem isS_up {p : Int} {ts : TermL} (h : isS p ts = true) : ∀ i j : Nat, i ≤ j → j < ts.length → (ts.getD i ([], 0)).1.length ≤ (ts.getD j ([], 0)).1.length := by
  unfold isS at h
  simp only [Bool.and_eq_true, decide_eq_true_eq] at h
  obtain ⟨h1, h2, h3⟩ := h
  intro i j hij
  induction j with
  | zero => intro _; rw [show i = 0 by omega]; exact Nat.le_refl _
  | succ j ih =>
    intro hj
    by_cases e : i = j + 1
    · rw [e]; exact Nat.le_refl _
    · have := List.all_eq_true.1 h3 (j + 1) (List.mem_range.2 hj)
      unfold termB at this
      simp only [Bool.and_eq_true, Bool.or_eq_true, decide_eq_true_eq] at this
      have h4 := before_len (this.2.2.resolve_left (by omega))
      exact Nat.le_trans (ih (by omega) (by omega)) h4
theorem most_top {p : Int} {ts : TermL} (h : isS p ts = true) : ∀ x ∈ ts, x.1.length ≤ 2 * mostS ts := fun x hx => by
  obtain ⟨i, hi, rfl⟩ := List.getElem_of_mem hx
  have e : ts.getD i ([], 0) = ts[i] := by rw [List.getD_eq_getElem?_getD, List.getElem?_eq_getElem hi]; rfl
  have h1 := isS_up h i (ts.length - 1) (by omega) (by omega)
  obtain ⟨m, hm⟩ := isS_even h _ (getD_memT (show ts.length - 1 < ts.length by omega))
  rw [e] at h1
  unfold mostS
  rw [hm] at h1 ⊢
  omega
theorem lim_eq {p q : Int} {ts us : TermL} (h1 : isS p ts = true) (h2 : isS q us = true) : (joinS ts us).all q12 = !limS ts us := by
  by_cases h : limS ts us = true
  · rw [h]
    simp only [limS, Bool.and_eq_true, decide_eq_true_eq] at h
    obtain ⟨a1, a2, a3⟩ := h
    have hm := joinS_mem (getD_memT (show ts.length - 1 < ts.length by omega)) (getD_memT (show us.length - 1 < us.length by omega))
    rw [Bool.not_true, ← Bool.not_eq_true]
    intro hall
    have := of_decide_eq_true (List.all_eq_true.1 hall _ hm)
    rw [joL_len] at this
    unfold mostS at a3
    omega
  · have h : limS ts us = false := by simpa using h
    rw [h, Bool.not_false, List.all_eq_true]
    intro x hx
    obtain ⟨a, ha, b, hb, rfl⟩ := mem_joinS hx
    have t1 := most_top h1 a ha
    have t2 := most_top h2 b hb
    have l1 := List.length_pos_of_mem ha
    have l2 := List.length_pos_of_mem hb
    rw [limS, decide_eq_true l1, decide_eq_true l2, Bool.true_and, Bool.true_and] at h
    have h := of_decide_eq_false h
    exact decide_eq_true (by show (joL a.1 b.1).length ≤ 12; rw [joL_len]; omega)
set_option maxHeartbeats 4000000 in
set_option maxRecDepth 100000 in
theorem good_jOf : Good Try.prog 21 sp_jOf := by
  refine good_ofF Try.func21 rfl _ rfl _ rfl (tab [c_wrong, c_jl, c_prod, c_lim]) (fun X cs os0 K hok hos hK => ?_)
  clear hos; unfold sp_jOf at hK
  split at hK
  case h_2 => exact hK.elim
  rename_i p ts q us
  refine ⟨by simp, by simp, ?_⟩
  simp only [go_sem] at hK hok
  simp (maxSteps := 4000000) only [go_sem, Try.f21, ↓brB_t, ↓brB_f, Nat.reduceAdd, Int.reduceLE, Int.reduceLT, Int.reduceNeg, decide_true, decide_false, Bool.and_self, Nat.succ_eq_add_one, Int.toNat_natCast, Nat.beq_refl, Bool.and_true, Bool.true_and, Bool.false_or, Bool.or_true, List.all_cons, List.all_nil, Nat.reduceMul, Nat.add_zero, Nat.zero_add, List.length_nil, List.length_cons, dite_true, List.nil_append, Nat.reduceBEq, reduceDIte, reduceIte, reduceCtorEq, Bool.or_false, Bool.true_or, Bool.and_false, Bool.false_and, Bool.not_true, Bool.not_false, Option.isSome_some, Option.isSome_none, Option.getD_some, List.getElem?_cons_zero, List.getElem?_cons_succ, eq_self, and_self, List.take_succ_cons, List.take_zero, List.drop_succ_cons, List.drop_zero]
  clear hok
  have err : ∀ {c : Int}, jR p ts q us = ((0, []), c) → K (.tup [.agg [.v (.int .i64 0), .own 0], .one (.v (.int .i64 c))]) [.drow tI kTerm []] := fun e => by rw [e] at hK; exact hK
  rw [wrong_like]
  refine ⟨⟨by omega, by omega⟩, brB_intro (fun h1 => retM [⟨.cell 80 1, 16, tI, kTerm⟩] rfl (retN [16] rfl (err (by rw [jR, if_neg (of_decide_eq_false (snb h1))])))) (fun h1 => ?_)⟩
  have h1 := of_decide_eq_true (snb' h1)
  obtain ⟨s1, s2, rfl⟩ := like_0 h1
  have w1 := isS_words s1
  have w2 := isS_words s2
  obtain ⟨p1, p2, p3⟩ := isS_parts s1
  obtain ⟨q1, q2, q3⟩ := isS_parts s2
  have hl := lim_eq s1 s2
  refine ⟨⟨by omega, by omega, fun x hx => by have := p3 x hx; omega, fun x hx => by have := q3 x hx; omega⟩, brB_intro (fun h2 => ?_) (fun h2 => ?_)⟩
  · have hl : (joinS ts us).all q12 = false := by rw [hl, h2]; rfl
    exact retM [⟨.cell 80 1, 16, tI, kTerm⟩] rfl (retN [16] rfl (err (by rw [jR, if_pos h1, hl]; rfl)))
  · have hl : (joinS ts us).all q12 = true := by rw [hl, h2]; rfl
    refine ⟨⟨p1, trivial, p2, q2, w1, w2, fun x hx => of_decide_eq_true (List.all_eq_true.1 hl x hx)⟩, brB_intro (fun h3 => ?_) (fun h3 => ?_)⟩
    · have h3 := of_decide_eq_true h3
      exact retN [368] rfl (err (by rw [jR, if_pos h1, if_pos hl, if_pos (by omega)]))
    · have h3 := of_decide_eq_false h3
      have er : jR p ts p us = ((p, jS p (joinS ts us)), 0) := by rw [jR, if_pos h1, if_pos hl, if_neg (by omega)]
      rw [er] at hK
      exact retN [352] rfl hK
def c_jOf : Ctr Try.prog := ⟨21, ent Try.func21 rfl rfl, [], sp_jOf, good_jOf, []⟩
@[go_sem] theorem c_jOf_f : c_jOf.f = 21 := rfl
@[go_sem] theorem c_jOf_ms : c_jOf.ms = [] := rfl
@[go_sem] theorem c_jOf_sp : c_jOf.spec = sp_jOf := rfl
@[go_sem] theorem c_jOf_fz : c_jOf.fz = [] := rfl
attribute [go_sem] sp_jOf
end Go.Proofs.Ytokakggilajjlaa.V
