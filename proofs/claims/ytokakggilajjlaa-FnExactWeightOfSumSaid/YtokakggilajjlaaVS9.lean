/- Contracts: weights of sums, the law of WeightOfSum. Conditions: told by each spec. -/
import Derived.Test.YtokakggilajjlaaVS5
import Derived.Test.YtokakggilajjlaaVS8
import Derived.Test.YtokakggilajjlaaVE3
set_option linter.unusedVariables false
set_option linter.unusedSimpArgs false
namespace Go.Proofs.Ytokakggilajjlaa.V
open Go
theorem isS_word {p : Int} {ts : TermL} (h : isS p ts = true) : p ≠ 0 ∧ ts.length ≤ 200 ∧ ∀ i, i < ts.length → isW (ts.getD i ([], 0)).1 = true := by
  unfold isS at h
  rw [Bool.and_eq_true, Bool.and_eq_true] at h
  refine ⟨?_, of_decide_eq_true h.2.1, fun i hi => ?_⟩
  · rintro rfl
    have := h.1
    revert this; decide
  · have := List.all_eq_true.1 h.2.2 i (List.mem_range.2 hi)
    unfold termB at this
    rw [Bool.and_eq_true] at this
    exact this.1
/-- One coefficient more. -/
def stepG (p v : Int) (own : List Int) (f : Nat → Int) (i : Nat) : Int := if i < own.length then modI p (w64 (f i + w64 (v * own.getD i 0))) else f i
def wsG (p k : Int) (l : TermL) : Nat → Int := l.foldl (fun f t => stepG p t.2 (kindL t.1 k) f) (fun _ => 0)
def wsL (k : Int) (l : TermL) : Nat := l.foldl (fun n t => max n (kindL t.1 k).length) 0
theorem take_sT {ts : TermL} {i : Nat} (h : i < ts.length) : ts.take (i + 1) = ts.take i ++ [ts.getD i ([], 0)] := by
  rw [List.take_succ_eq_append_getElem h, List.getD_eq_getElem?_getD, List.getElem?_eq_getElem h]; rfl
theorem wsG_s {p k : Int} {ts : TermL} {i : Nat} (h : i < ts.length) : wsG p k (ts.take (i + 1)) = stepG p (ts.getD i ([], 0)).2 (kindL (ts.getD i ([], 0)).1 k) (wsG p k (ts.take i)) := by
  rw [take_sT h, wsG, List.foldl_append]; rfl
theorem wsL_s {k : Int} {ts : TermL} {i : Nat} (h : i < ts.length) : wsL k (ts.take (i + 1)) = max (wsL k (ts.take i)) (kindL (ts.getD i ([], 0)).1 k).length := by
  rw [take_sT h, wsL, List.foldl_append]; rfl
theorem wsG_out {p k : Int} {ts : TermL} : ∀ i, i ≤ ts.length → ∀ j, wsL k (ts.take i) ≤ j → wsG p k (ts.take i) j = 0
  | 0, _, j, _ => rfl
  | i + 1, hi, j, hj => by
    rw [wsL_s (by omega)] at hj
    rw [wsG_s (by omega), stepG, if_neg (by omega)]
    exact wsG_out i (by omega) j (by omega)
theorem wsL_8 {k : Int} {ts : TermL} (hw : ∀ i, i < ts.length → isW (ts.getD i ([], 0)).1 = true) : ∀ i, i ≤ ts.length → wsL k (ts.take i) ≤ 8
  | 0, _ => Nat.zero_le _
  | i + 1, hi => by
    rw [wsL_s (by omega)]
    have h1 := wsL_8 (k := k) hw i (by omega)
    have h2 := kindL_len (hw i (by omega)) k
    omega
/-- A coefficient list half way. -/
def midG (p v : Int) (own : List Int) (f : Nat → Int) (t : Nat) (i : Nat) : Int := if i < t then stepG p v own f i else f i
theorem mid_s {M t : Nat} {p v : Int} {own : List Int} {f : Nat → Int} (h : t < own.length) : (mr M (midG p v own f t)).set t (modI p (w64 (f t + w64 (v * own.getD t 0)))) = mr M (midG p v own f (t + 1)) := by
  have := mr_set (M := M) (i := t) (p := midG p v own f t) (q := midG p v own f (t + 1)) (fun j _ hj => by
    unfold midG
    by_cases h : j < t
    · rw [if_pos h, if_pos (by omega)]
    · rw [if_neg h, if_neg (by omega)])
  have e : midG p v own f (t + 1) t = modI p (w64 (f t + w64 (v * own.getD t 0))) := by
    unfold midG stepG
    rw [if_pos (by omega), if_pos h]
  rw [e] at this
  exact this
theorem mid_end {M t : Nat} {p v : Int} {own : List Int} {f : Nat → Int} (h : own.length ≤ t) : mr M (midG p v own f t) = mr M (stepG p v own f) := mr_eq fun j _ => by
  unfold midG
  by_cases h1 : j < t
  · rw [if_pos h1]
  · rw [if_neg h1, stepG, if_neg (by omega)]
theorem mr_pad {M : Nat} {f : Nat → Int} (h : f M = 0) : mr M f ++ [0] = mr (M + 1) f := by
  rw [mr, mr, List.range_succ, List.map_append, ← h]; rfl
theorem mr_trim {M N : Nat} {f : Nat → Int} (h : ∀ j, M ≤ j → f j = 0) (hN : M ≤ N) : trimL (mr M f) = trimL (mr N f) := by
  refine trim_eq fun i => ?_
  by_cases h1 : i < M
  · rw [mr_get h1, mr_get (by omega)]
  · rw [gD_out (by rw [mr_len]; omega)]
    by_cases h2 : i < N
    · rw [mr_get h2, h i (by omega)]
    · rw [gD_out (by rw [mr_len]; omega)]
abbrev tS : Nat := 28
def wsR (p : Int) (ts : TermL) (k : Int) : List Int × Int := if isS p ts then (if inB k 0 3 then (trimL (mr 8 (wsG p k ts)), 0) else ([], 2)) else ([], 1)
def sp_ws : List Cv → List Obj' → Tree
  | [.agg [.v (.int .i64 p), .ro (.pr (.sl 2 (.int .i64)) (.int .i64)) ts], .one (.v (.int .i64 k))], [] => resL (wsR p ts k)
  | _, _ => .fail
set_option maxHeartbeats 4000000 in
set_option maxRecDepth 100000 in
theorem good_wsI : Good Try.prog 39 sp_ws := by
  refine good_ofF Try.func39 rfl _ rfl _ rfl (tab [c_IsSum, c_kindOk, c_weight, c_rest, c_trimmed]) (fun X cs os0 K hok hos hK => ?_)
  clear hos; unfold sp_ws at hK
  split at hK
  case h_2 => exact hK.elim
  rename_i p ts k
  refine ⟨by simp, by simp, ?_⟩
  simp only [go_sem] at hK hok
  simp (maxSteps := 4000000) only [go_sem, Try.f39, ↓brB_t, ↓brB_f, Nat.reduceAdd, Int.reduceLE, Int.reduceLT, Int.reduceNeg, decide_true, decide_false, Bool.and_self, Nat.succ_eq_add_one, Int.toNat_natCast, Nat.beq_refl, Bool.and_true, Bool.true_and, Bool.false_or, Bool.or_true, List.all_cons, List.all_nil, Nat.reduceMul, Nat.add_zero, Nat.zero_add, List.length_nil, List.length_cons, dite_true, List.nil_append, Nat.reduceBEq, reduceDIte, reduceIte, reduceCtorEq, Bool.or_false, Bool.true_or, Bool.and_false, Bool.false_and, Bool.not_true, Bool.not_false, Option.isSome_some, Option.isSome_none, Option.getD_some, List.getElem?_cons_zero, List.getElem?_cons_succ, eq_self, and_self, List.take_succ_cons, List.take_zero, List.drop_succ_cons, List.drop_zero]
  clear hok
  by_cases h1 : isS p ts = true
  · by_cases h2 : inB k 0 3 = true
    · have er : wsR p ts k = (trimL (mr 8 (wsG p k ts)), 0) := by rw [wsR, h1, h2]; rfl
      rw [er] at hK
      obtain ⟨hp0, hl, hw⟩ := isS_word h1
      have hn1 : (!isS p ts) = false := by rw [h1]; rfl
      have hn2 : (!inB k 0 3) = false := by rw [h2]; rfl
      rw [hn1, hn2]
      refine brB_intro (fun h => absurd h (by decide)) (fun _ => brB_intro (fun h => absurd h (by decide)) (fun _ => ?_))
      refine ⟨trivial, ?_⟩
      refine loop_okF (T := tab [c_IsSum, c_kindOk, c_weight, c_rest, c_trimmed]) [1, 2, 6, 21, 22, 23] [(16, 48), (17, 320)] (fun i : Nat => ⟨56, [(1, vi k), (2, .val (.one (.ptr 16 0))), (6, ow 17), (21, .val (.one (.ro kTerm ts))), (22, vi ts.length), (23, vi i)], [(16, .box tS [.v (.int .i64 p), .ro kTerm ts]), (17, rwi (mr 8 (wsG p k (ts.take i))))]⟩)
        (fun i => i ≤ ts.length) (fun i => ts.length - i) 0 rfl rfl (Nat.zero_le _) (fun i hi => ?_)
      simp only [go_sem, ↓brB_t, ↓brB_f, Nat.reduceAdd, Int.reduceLE, Int.reduceLT, Int.reduceNeg, decide_true, decide_false, Bool.and_self, Nat.succ_eq_add_one, Int.toNat_natCast, Nat.beq_refl, Bool.and_true, Bool.true_and, Bool.false_or, Bool.or_true, List.all_cons, List.all_nil, Nat.reduceMul, Nat.add_zero, Nat.zero_add, List.length_nil, List.length_cons, dite_true, List.nil_append, Nat.reduceBEq, reduceDIte, reduceIte, reduceCtorEq, Bool.or_false, Bool.true_or, Bool.and_false, Bool.false_and, Bool.not_true, Bool.not_false, Option.isSome_some, Option.isSome_none, Option.getD_some, List.getElem?_cons_zero, List.getElem?_cons_succ, eq_self, and_self, List.take_succ_cons, List.take_zero, List.drop_succ_cons, List.drop_zero]
      refine brB_intro (fun h3 => ?_) (fun h3 => ?_)
      · have h3 := of_decide_eq_true h3
        have hwi := hw i (by omega)
        have hs := wsG_s (p := p) (k := k) (ts := ts) (i := i) (by omega)
        have hkl := kindL_len hwi k
        refine ⟨⟨by omega, by omega⟩, ⟨hwi, h2⟩, ?_⟩
        generalize hx : ts.getD i ([], 0) = x at *
        obtain ⟨xw, xv⟩ := x
        generalize hF : wsG p k (ts.take i) = F at *
        have hs : wsG p k (ts.take (i + 1)) = stepG p xv (kindL xw k) F := hs
        have hkl : (kindL xw k).length ≤ 8 := hkl
        have e0 : mr 8 F = mr 8 (midG p xv (kindL xw k) F 0) := mr_eq fun j _ => by unfold midG; rw [if_neg (Nat.not_lt_zero j)]
        rw [e0]
        refine loop_okF (T := tab [c_IsSum, c_kindOk, c_weight, c_rest, c_trimmed]) [1, 2, 6, 8, 21, 22, 23, 30, 31, 32] [(16, 16), (17, 17), (18, 144), (19, 496)] (fun t : Nat => ⟨56, [(1, vi k), (2, .val (.one (.ptr 16 0))), (6, ow 17), (8, .val (.one (.ptr 18 0))), (21, .val (.one (.ro kTerm ts))), (22, vi ts.length), (23, vi i), (30, ow 19), (31, vi (kindL xw k).length), (32, vi t)], [(16, .box tS [.v (.int .i64 p), .ro kTerm ts]), (17, rwi (mr 8 (midG p xv (kindL xw k) F t))), (18, .box 68 [.ro (.int .i64) xw, .v (.int .i64 xv)]), (19, rwi (kindL xw k))]⟩)
          (fun t => t ≤ (kindL xw k).length) (fun t => (kindL xw k).length - t) 0 rfl rfl (Nat.zero_le _) (fun t ht => ?_)
        simp only [go_sem, ↓brB_t, ↓brB_f, Nat.reduceAdd, Int.reduceLE, Int.reduceLT, Int.reduceNeg, decide_true, decide_false, Bool.and_self, Nat.succ_eq_add_one, Int.toNat_natCast, Nat.beq_refl, Bool.and_true, Bool.true_and, Bool.false_or, Bool.or_true, List.all_cons, List.all_nil, Nat.reduceMul, Nat.add_zero, Nat.zero_add, List.length_nil, List.length_cons, dite_true, List.nil_append, Nat.reduceBEq, reduceDIte, reduceIte, reduceCtorEq, Bool.or_false, Bool.true_or, Bool.and_false, Bool.false_and, Bool.not_true, Bool.not_false, Option.isSome_some, Option.isSome_none, Option.getD_some, List.getElem?_cons_zero, List.getElem?_cons_succ, eq_self, and_self, List.take_succ_cons, List.take_zero, List.drop_succ_cons, List.drop_zero]
        rw [mr_len]
        refine brB_intro (fun h4 => ?_) (fun h4 => ?_)
        · have h4 := of_decide_eq_true h4
          have hm := mid_s (M := 8) (p := p) (v := xv) (f := F) (own := kindL xw k) (t := t) (by omega)
          have eg : (mr 8 (midG p xv (kindL xw k) F t)).getD t 0 = F t := by
            rw [mr_get (by omega)]; unfold midG; rw [if_neg (Nat.lt_irrefl t)]
          rw [eg, hm, show w64 ((t : Int) + 1) = ((t + 1 : Nat) : Int) from wN (by omega) (by omega)]
          exact ⟨⟨by omega, by omega⟩, ⟨by omega, by omega⟩, hp0, ⟨by omega, by omega⟩, by kernel_rfl, t + 1, [(16, 16), (17, 17), (18, 18), (19, 19)], by omega, by omega, rfl, rfl⟩
        · have h4 := of_decide_eq_false h4
          rw [mid_end (by omega), ← hs, show w64 ((i : Int) + 1) = ((i + 1 : Nat) : Int) from wN (by omega) (by omega)]
          exact ⟨i + 1, [(16, 16), (17, 17)], by omega, by omega, rfl, rfl⟩
      · have h3 := of_decide_eq_false h3
        have e : i = ts.length := by omega
        subst e
        rw [List.take_length]
        exact brB_intro (fun h => by rw [of_decide_eq_true h] at hK; exact retN [17] rfl hK) (fun h => retN [896] rfl hK)
    · have h2 : inB k 0 3 = false := by simpa using h2
      have er : wsR p ts k = ([], 2) := by rw [wsR, h1, h2]; rfl
      rw [er] at hK
      have hn1 : (!isS p ts) = false := by rw [h1]; rfl
      have hn2 : (!inB k 0 3) = true := by rw [h2]; rfl
      rw [hn1, hn2]
      exact brB_intro (fun h => absurd h (by decide)) (fun _ => brB_intro (fun _ => retM [⟨.reg 4 0, 16, 2, .int .i64⟩] rfl (retN [16] rfl hK)) (fun h => absurd h (by decide)))
  · have h1 : isS p ts = false := by simpa using h1
    have er : wsR p ts k = ([], 1) := by rw [wsR, h1]; rfl
    rw [er] at hK
    have hn1 : (!isS p ts) = true := by rw [h1]; rfl
    rw [hn1]
    exact brB_intro (fun _ => retM [⟨.reg 4 0, 16, 2, .int .i64⟩] rfl (retN [16] rfl hK)) (fun h => absurd h (by decide))
def c_wsI : Ctr Try.prog := ⟨39, ent Try.func39 rfl rfl, [], sp_ws, good_wsI⟩
@[go_sem] theorem c_wsI_f : c_wsI.f = 39 := rfl
@[go_sem] theorem c_wsI_ms : c_wsI.ms = [] := rfl
@[go_sem] theorem c_wsI_sp : c_wsI.spec = sp_ws := rfl
attribute [go_sem] sp_ws
def sp_l05Sum : List Cv → List Obj' → Tree
  | [.agg [.v (.int .i64 p), .ro (.pr (.sl 2 (.int .i64)) (.int .i64)) ts], .one (.v (.int .i64 k))], [] => .need (isS p ts = true ∧ inB k 0 3 = true) (.ret (ow 0) [rwi (trimL (mr 8 (wsG p k ts)))])
  | _, _ => .fail
set_option maxHeartbeats 4000000 in
set_option maxRecDepth 100000 in
theorem good_l05Sum : Good Try.prog 97 sp_l05Sum := by
  refine good_ofF Try.func97 rfl _ rfl _ rfl (tab [c_l05W, c_l03Mod, c_l05Trim]) (fun X cs os0 K hok hos hK => ?_)
  clear hos; unfold sp_l05Sum at hK
  split at hK
  case h_2 => exact hK.elim
  rename_i p ts k
  refine ⟨by simp, by simp, ?_⟩
  simp only [go_sem] at hK hok
  simp (maxSteps := 4000000) only [go_sem, Try.f97, ↓brB_t, ↓brB_f, Nat.reduceAdd, Int.reduceLE, Int.reduceLT, Int.reduceNeg, decide_true, decide_false, Bool.and_self, Nat.succ_eq_add_one, Int.toNat_natCast, Nat.beq_refl, Bool.and_true, Bool.true_and, Bool.false_or, Bool.or_true, List.all_cons, List.all_nil, Nat.reduceMul, Nat.add_zero, Nat.zero_add, List.length_nil, List.length_cons, dite_true, List.nil_append, Nat.reduceBEq, reduceDIte, reduceIte, reduceCtorEq, Bool.or_false, Bool.true_or, Bool.and_false, Bool.false_and, Bool.not_true, Bool.not_false, Option.isSome_some, Option.isSome_none, Option.getD_some, List.getElem?_cons_zero, List.getElem?_cons_succ, eq_self, and_self, List.take_succ_cons, List.take_zero, List.drop_succ_cons, List.drop_zero]
  obtain ⟨⟨h1, h2⟩, hK⟩ := hK
  clear hok
  obtain ⟨hp0, hl, hw⟩ := isS_word h1
  refine loop_okF (T := tab [c_l05W, c_l03Mod, c_l05Trim]) [1, 2, 5, 6] [(16, 48), (17, 160)] (fun i : Nat => ⟨63, [(1, vi k), (2, .val (.one (.ptr 16 0))), (5, ow 17), (6, vi i)], [(16, .box tS [.v (.int .i64 p), .ro kTerm ts]), (17, rwi (mr (wsL k (ts.take i)) (wsG p k (ts.take i))))]⟩)
    (fun i => i ≤ ts.length) (fun i => ts.length - i) 0 rfl rfl (Nat.zero_le _) (fun i hi => ?_)
  have hL8 := wsL_8 (k := k) hw i hi
  have hout := wsG_out (p := p) (k := k) (ts := ts) i hi
  simp only [go_sem, ↓brB_t, ↓brB_f, Nat.reduceAdd, Int.reduceLE, Int.reduceLT, Int.reduceNeg, decide_true, decide_false, Bool.and_self, Nat.succ_eq_add_one, Int.toNat_natCast, Nat.beq_refl, Bool.and_true, Bool.true_and, Bool.false_or, Bool.or_true, List.all_cons, List.all_nil, Nat.reduceMul, Nat.add_zero, Nat.zero_add, List.length_nil, List.length_cons, dite_true, List.nil_append, Nat.reduceBEq, reduceDIte, reduceIte, reduceCtorEq, Bool.or_false, Bool.true_or, Bool.and_false, Bool.false_and, Bool.not_true, Bool.not_false, Option.isSome_some, Option.isSome_none, Option.getD_some, List.getElem?_cons_zero, List.getElem?_cons_succ, eq_self, and_self, List.take_succ_cons, List.take_zero, List.drop_succ_cons, List.drop_zero]
  rw [mr_len]
  refine brB_intro (fun h3 => ?_) (fun h3 => ?_)
  · have h3 := of_decide_eq_true h3
    have hwi := hw i (by omega)
    have hs := wsG_s (p := p) (k := k) (ts := ts) (i := i) (by omega)
    have hls := wsL_s (k := k) (ts := ts) (i := i) (by omega)
    have hkl := kindL_len hwi k
    refine ⟨⟨by omega, by omega⟩, ⟨hwi, h2⟩, ?_⟩
    generalize hF : wsG p k (ts.take i) = F at *
    generalize hL : wsL k (ts.take i) = L at *
    refine loop_okF (T := tab [c_l05W, c_l03Mod, c_l05Trim]) [1, 2, 5, 6, 7] [(16, 16), (17, 17), (18, 400)] (fun n : Nat => ⟨63, [(1, vi k), (2, .val (.one (.ptr 16 0))), (5, ow 17), (6, vi i), (7, ow 18)], [(16, .box tS [.v (.int .i64 p), .ro kTerm ts]), (17, rwi (mr n F)), (18, rwi (kindL (ts.getD i ([], 0)).1 k))]⟩)
      (fun n => L ≤ n ∧ n ≤ max L (kindL (ts.getD i ([], 0)).1 k).length) (fun n => max L (kindL (ts.getD i ([], 0)).1 k).length - n) L rfl rfl ⟨Nat.le_refl _, by omega⟩ (fun n hn => ?_)
    obtain ⟨hn1, hn2⟩ := hn
    simp only [go_sem, ↓brB_t, ↓brB_f, Nat.reduceAdd, Int.reduceLE, Int.reduceLT, Int.reduceNeg, decide_true, decide_false, Bool.and_self, Nat.succ_eq_add_one, Int.toNat_natCast, Nat.beq_refl, Bool.and_true, Bool.true_and, Bool.false_or, Bool.or_true, List.all_cons, List.all_nil, Nat.reduceMul, Nat.add_zero, Nat.zero_add, List.length_nil, List.length_cons, dite_true, List.nil_append, Nat.reduceBEq, reduceDIte, reduceIte, reduceCtorEq, Bool.or_false, Bool.true_or, Bool.and_false, Bool.false_and, Bool.not_true, Bool.not_false, Option.isSome_some, Option.isSome_none, Option.getD_some, List.getElem?_cons_zero, List.getElem?_cons_succ, eq_self, and_self, List.take_succ_cons, List.take_zero, List.drop_succ_cons, List.drop_zero]
    rw [mr_len]
    refine brB_intro (fun h4 => ?_) (fun h4 => ?_)
    · have h4 := of_decide_eq_true h4
      rw [mr_pad (hout n hn1)]
      exact ⟨by omega, n + 1, [(16, 16), (17, 528), (18, 18)], ⟨by omega, by omega⟩, by omega, rfl, rfl⟩
    · have h4 := of_decide_eq_false h4
      have en : n = max L (kindL (ts.getD i ([], 0)).1 k).length := by omega
      have e0 : mr n F = mr n (midG p (ts.getD i ([], 0)).2 (kindL (ts.getD i ([], 0)).1 k) F 0) := mr_eq fun j _ => by unfold midG; rw [if_neg (Nat.not_lt_zero j)]
      rw [e0]
      refine loop_okF (T := tab [c_l05W, c_l03Mod, c_l05Trim]) [1, 2, 5, 6, 7, 8] [(16, 16), (17, 17), (18, 18)] (fun t : Nat => ⟨63, [(1, vi k), (2, .val (.one (.ptr 16 0))), (5, ow 17), (6, vi i), (7, ow 18), (8, vi t)], [(16, .box tS [.v (.int .i64 p), .ro kTerm ts]), (17, rwi (mr n (midG p (ts.getD i ([], 0)).2 (kindL (ts.getD i ([], 0)).1 k) F t))), (18, rwi (kindL (ts.getD i ([], 0)).1 k))]⟩)
        (fun t => t ≤ (kindL (ts.getD i ([], 0)).1 k).length) (fun t => (kindL (ts.getD i ([], 0)).1 k).length - t) 0 rfl rfl (Nat.zero_le _) (fun t ht => ?_)
      simp only [go_sem, ↓brB_t, ↓brB_f, Nat.reduceAdd, Int.reduceLE, Int.reduceLT, Int.reduceNeg, decide_true, decide_false, Bool.and_self, Nat.succ_eq_add_one, Int.toNat_natCast, Nat.beq_refl, Bool.and_true, Bool.true_and, Bool.false_or, Bool.or_true, List.all_cons, List.all_nil, Nat.reduceMul, Nat.add_zero, Nat.zero_add, List.length_nil, List.length_cons, dite_true, List.nil_append, Nat.reduceBEq, reduceDIte, reduceIte, reduceCtorEq, Bool.or_false, Bool.true_or, Bool.and_false, Bool.false_and, Bool.not_true, Bool.not_false, Option.isSome_some, Option.isSome_none, Option.getD_some, List.getElem?_cons_zero, List.getElem?_cons_succ, eq_self, and_self, List.take_succ_cons, List.take_zero, List.drop_succ_cons, List.drop_zero]
      rw [mr_len]
      refine brB_intro (fun h5 => ?_) (fun h5 => ?_)
      · have h5 := of_decide_eq_true h5
        have hm := mid_s (M := n) (p := p) (v := (ts.getD i ([], 0)).2) (f := F) (own := kindL (ts.getD i ([], 0)).1 k) (t := t) (by omega)
        have eg : (mr n (midG p (ts.getD i ([], 0)).2 (kindL (ts.getD i ([], 0)).1 k) F t)).getD t 0 = F t := by
          rw [mr_get (by omega)]; unfold midG; rw [if_neg (Nat.lt_irrefl t)]
        rw [eg, hm, show w64 ((t : Int) + 1) = ((t + 1 : Nat) : Int) from wN (by omega) (by omega)]
        exact ⟨⟨by omega, by omega⟩, ⟨by omega, by omega⟩, ⟨by omega, by omega⟩, hp0, ⟨by omega, by omega⟩, by kernel_rfl, t + 1, [(16, 16), (17, 17), (18, 18)], by omega, by omega, rfl, rfl⟩
      · have h5 := of_decide_eq_false h5
        rw [mid_end (by omega), ← hs, en, ← hls, show w64 ((i : Int) + 1) = ((i + 1 : Nat) : Int) from wN (by omega) (by omega)]
        exact ⟨i + 1, [(16, 16), (17, 17)], by omega, by omega, rfl, rfl⟩
  · have h3 := of_decide_eq_false h3
    have e : i = ts.length := by omega
    subst e
    rw [List.take_length] at hL8 hout ⊢
    rw [← mr_trim hout hL8] at hK
    exact ⟨by omega, retN [1008] rfl hK⟩
def c_l05Sum : Ctr Try.prog := ⟨97, ent Try.func97 rfl rfl, [], sp_l05Sum, good_l05Sum⟩
@[go_sem] theorem c_l05Sum_f : c_l05Sum.f = 97 := rfl
@[go_sem] theorem c_l05Sum_ms : c_l05Sum.ms = [] := rfl
@[go_sem] theorem c_l05Sum_sp : c_l05Sum.spec = sp_l05Sum := rfl
attribute [go_sem] sp_l05Sum
set_option maxHeartbeats 4000000 in
set_option maxRecDepth 100000 in
theorem good_wsS : Good Try.prog 38 sp_ws := by
  refine good_ofF Try.func38 rfl _ rfl _ rfl (tab [c_l03Is, c_l01In, c_l05Sum]) (fun X cs os0 K hok hos hK => ?_)
  clear hos; unfold sp_ws at hK
  split at hK
  case h_2 => exact hK.elim
  rename_i p ts k
  refine ⟨by simp, by simp, ?_⟩
  simp only [go_sem] at hK hok
  simp (maxSteps := 4000000) only [go_sem, Try.f38, ↓brB_t, ↓brB_f, Nat.reduceAdd, Int.reduceLE, Int.reduceLT, Int.reduceNeg, decide_true, decide_false, Bool.and_self, Nat.succ_eq_add_one, Int.toNat_natCast, Nat.beq_refl, Bool.and_true, Bool.true_and, Bool.false_or, Bool.or_true, List.all_cons, List.all_nil, Nat.reduceMul, Nat.add_zero, Nat.zero_add, List.length_nil, List.length_cons, dite_true, List.nil_append, Nat.reduceBEq, reduceDIte, reduceIte, reduceCtorEq, Bool.or_false, Bool.true_or, Bool.and_false, Bool.false_and, Bool.not_true, Bool.not_false, Option.isSome_some, Option.isSome_none, Option.getD_some, List.getElem?_cons_zero, List.getElem?_cons_succ, eq_self, and_self, List.take_succ_cons, List.take_zero, List.drop_succ_cons, List.drop_zero]
  clear hok
  by_cases h1 : isS p ts = true
  · by_cases h2 : inB k 0 3 = true
    · have er : wsR p ts k = (trimL (mr 8 (wsG p k ts)), 0) := by rw [wsR, h1, h2]; rfl
      rw [er] at hK
      have hn1 : (!isS p ts) = false := by rw [h1]; rfl
      have hn2 : (!inB k 0 3) = false := by rw [h2]; rfl
      rw [hn1, hn2]
      exact brB_intro (fun h => absurd h (by decide)) (fun _ => brB_intro (fun h => absurd h (by decide)) (fun _ => ⟨⟨h1, h2⟩, retN [272] rfl hK⟩))
    · have h2 : inB k 0 3 = false := by simpa using h2
      have er : wsR p ts k = ([], 2) := by rw [wsR, h1, h2]; rfl
      rw [er] at hK
      have hn1 : (!isS p ts) = false := by rw [h1]; rfl
      have hn2 : (!inB k 0 3) = true := by rw [h2]; rfl
      rw [hn1, hn2]
      exact brB_intro (fun h => absurd h (by decide)) (fun _ => brB_intro (fun _ => retM [⟨.reg 4 0, 16, 2, .int .i64⟩] rfl (retN [16] rfl hK)) (fun h => absurd h (by decide)))
  · have h1 : isS p ts = false := by simpa using h1
    have er : wsR p ts k = ([], 1) := by rw [wsR, h1]; rfl
    rw [er] at hK
    have hn1 : (!isS p ts) = true := by rw [h1]; rfl
    rw [hn1]
    exact brB_intro (fun _ => retM [⟨.reg 4 0, 16, 2, .int .i64⟩] rfl (retN [16] rfl hK)) (fun h => absurd h (by decide))
def c_wsS : Ctr Try.prog := ⟨38, ent Try.func38 rfl rfl, [], sp_ws, good_wsS⟩
@[go_sem] theorem c_wsS_f : c_wsS.f = 38 := rfl
@[go_sem] theorem c_wsS_ms : c_wsS.ms = [] := rfl
@[go_sem] theorem c_wsS_sp : c_wsS.spec = sp_ws := rfl
attribute [go_sem] sp_ws
theorem wsR_len (p : Int) (ts : TermL) (k : Int) : (wsR p ts k).1.length ≤ 1048576 := by
  unfold wsR
  split
  · split
    · exact Nat.le_trans (trim_len _) (by rw [mr_len]; decide)
    · exact Nat.zero_le _
  · exact Nat.zero_le _
def sp_lawSi : List Cv → List Obj' → Tree
  | [.agg [.v (.int .i64 p), .ro (.pr (.sl 2 (.int .i64)) (.int .i64)) ts], .one (.v (.int .i64 k))], [] => .ret (vb true) []
  | _, _ => .fail
set_option maxHeartbeats 4000000 in
set_option maxRecDepth 100000 in
theorem good_lawWeightOfSum : Good Try.prog 10 sp_lawSi := by
  refine good_ofF Try.func10 rfl _ rfl _ rfl (tab [c_szSum, c_toSum, c_wsS, c_wsI, c_eqS, c_eqSum, c_markSum, c_heldSum, c_mark, c_held]) (fun X cs os0 K hok hos hK => ?_)
  clear hos; unfold sp_lawSi at hK
  split at hK
  case h_2 => exact hK.elim
  rename_i p ts k
  refine ⟨by simp, by simp, ?_⟩
  simp only [go_sem] at hK hok
  simp (maxSteps := 4000000) only [go_sem, Try.f10, ↓brB_t, ↓brB_f, Nat.reduceAdd, Int.reduceLE, Int.reduceLT, Int.reduceNeg, decide_true, decide_false, Bool.and_self, Nat.succ_eq_add_one, Int.toNat_natCast, Nat.beq_refl, Bool.and_true, Bool.true_and, Bool.false_or, Bool.or_true, List.all_cons, List.all_nil, Nat.reduceMul, Nat.add_zero, Nat.zero_add, List.length_nil, List.length_cons, dite_true, List.nil_append, Nat.reduceBEq, reduceDIte, reduceIte, reduceCtorEq, Bool.or_false, Bool.true_or, Bool.and_false, Bool.false_and, Bool.not_true, Bool.not_false, Option.isSome_some, Option.isSome_none, Option.getD_some, List.getElem?_cons_zero, List.getElem?_cons_succ, eq_self, and_self, List.take_succ_cons, List.take_zero, List.drop_succ_cons, List.drop_zero]
  have hr := wsR_len p ts k
  generalize wsR p ts k = r at *
  clear hok
  refine ⟨trivial, brB_intro (fun _ => ret0 hK) (fun h1 => ?_)⟩
  have hz : ts.length + szT ts ≤ 1048576 := by
    have h1 := of_decide_eq_false h1
    split at h1 <;> omega
  have a1 : ts.length ≤ 1099511627776 ∧ ∀ x ∈ (ts : TermL), x.1.length ≤ 1099511627776 := ⟨by omega, fun x hx => by have := szT_mem hx; omega⟩
  clear h1
  exact ⟨a1, a1, a1, by kernel_rfl, ⟨trivial, by omega⟩, brB_intro (fun h2 => by have := of_decide_eq_true h2; omega) (fun _ => ⟨⟨trivial, trivial, by omega⟩, ⟨trivial, trivial, by omega⟩, brB_intro (fun h2 => by have := of_decide_eq_true h2; omega) (fun _ => ⟨a1, ⟨trivial, trivial, by omega⟩, brB_intro (fun h2 => by have := of_decide_eq_true h2; omega) (fun _ => ret0 hK)⟩)⟩)⟩
end Go.Proofs.Ytokakggilajjlaa.V
