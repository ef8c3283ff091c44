/- Contracts: derivatives of words, sums changed word by word, by the program. Conditions: told by each spec. -/
import Derived.Test.YtokakggilajjlaaVM
import Derived.Test.YtokakggilajjlaaVS5
import Derived.Test.YtokakggilajjlaaVD1
import Derived.Test.YtokakggilajjlaaVD0
set_option linter.unusedVariables false
set_option linter.unusedSimpArgs false
namespace Go.Proofs.Ytokakggilajjlaa.V
open Go
def sp_wt1 : List Cv → List Obj' → Tree
  | [.one (.v (.int .i64 k)), .one (.elr (.int .i64) [n] 0 0)], [] => .ret (vb (!decide (k = n))) []
  | _, _ => .fail
set_option maxHeartbeats 4000000 in
set_option maxRecDepth 100000 in
theorem good_wt1 : Good Try.prog 167 sp_wt1 := by
  refine good_ofF Try.func167 rfl _ rfl _ rfl (tab []) (fun X cs os0 K hok hos hK => ?_)
  clear hos; unfold sp_wt1 at hK
  split at hK
  case h_2 => exact hK.elim
  rename_i k n
  refine ⟨by simp, by simp, ?_⟩
  simp only [go_sem] at hK hok
  simp (maxSteps := 4000000) only [go_sem, Try.f167, ↓brB_t, ↓brB_f, Nat.reduceAdd, Int.reduceLE, Int.reduceLT, Int.reduceNeg, decide_true, decide_false, Bool.and_self, Nat.succ_eq_add_one, Int.toNat_natCast, Nat.beq_refl, Bool.and_true, Bool.true_and, Bool.false_or, Bool.or_true, List.all_cons, List.all_nil, Nat.reduceMul, Nat.add_zero, Nat.zero_add, List.length_nil, List.length_cons, dite_true, List.nil_append, Nat.reduceBEq, reduceDIte, reduceIte, reduceCtorEq, Bool.or_false, Bool.true_or, Bool.and_false, Bool.false_and, Bool.not_true, Bool.not_false, Option.isSome_some, Option.isSome_none, Option.getD_some, List.getElem?_cons_zero, List.getElem?_cons_succ, eq_self, and_self, List.take_succ_cons, List.take_zero, List.drop_succ_cons, List.drop_zero]
  exact ret0 hK
def wtP (ys : HC [.d (.int .i64)]) (xs : HT [Kn.int .i64]) : Option Bool := some (!decide ((xs.1 : Int) = ys.1))
def p_wt : PFn Try.prog := ⟨167, entB Try.func167 rfl rfl, [.d (.int .i64)], [.int .i64], .bool, wtP, sp_wt1, good_wt1, fun ys xs y h K hK => by
  unfold wtP at h
  injection h with h; subst h
  exact hK⟩
@[go_sem] theorem p_wt_f : p_wt.f = 167 := rfl
@[go_sem] theorem p_wt_caps (args : List Rv) : (capsM p_wt.cks args fun ys => .ret (.val (.one (.pf p_wt.ks p_wt.r (p_wt.g ys))))) = capsM [.d (.int .i64)] args fun ys => .ret (.val (.one (.pf [.int .i64] .bool (wtP ys)))) := rfl
/-- A word without a chord. -/
def wtL (w : List Int) (i : Int) : List Int := Go.Proofs.Ytokakggilajjlaa.K.normalL (w.filter fun x => !decide (x = i))
def sp_wt : List Cv → List Obj' → Tree
  | [.one (.ro (.int .i64) w), .one (.v (.int .i64 i))], [] => .need (w.length < 1099511627776) (.ret (ow 0) [rwi (wtL w i)])
  | _, _ => .fail
set_option maxHeartbeats 4000000 in
set_option maxRecDepth 100000 in
theorem good_wt : Good Try.prog 128 sp_wt := by
  refine good_ofF Try.func128 rfl _ rfl _ rfl (tab [c_wordOf] [] [p_wt]) (fun X cs os0 K hok hos hK => ?_)
  clear hos; unfold sp_wt at hK
  split at hK
  case h_2 => exact hK.elim
  rename_i w i
  refine ⟨by simp, by simp, ?_⟩
  simp only [go_sem] at hK hok
  simp (maxSteps := 4000000) only [go_sem, Try.f128, ↓brB_t, ↓brB_f, Nat.reduceAdd, Int.reduceLE, Int.reduceLT, Int.reduceNeg, decide_true, decide_false, Bool.and_self, Nat.succ_eq_add_one, Int.toNat_natCast, Nat.beq_refl, Bool.and_true, Bool.true_and, Bool.false_or, Bool.or_true, List.all_cons, List.all_nil, Nat.reduceMul, Nat.add_zero, Nat.zero_add, List.length_nil, List.length_cons, dite_true, List.nil_append, Nat.reduceBEq, reduceDIte, reduceIte, reduceCtorEq, Bool.or_false, Bool.true_or, Bool.and_false, Bool.false_and, Bool.not_true, Bool.not_false, Option.isSome_some, Option.isSome_none, Option.getD_some, List.getElem?_cons_zero, List.getElem?_cons_succ, eq_self, and_self, List.take_succ_cons, List.take_zero, List.drop_succ_cons, List.drop_zero]
  obtain ⟨h1, hK⟩ := hK
  clear hok
  exact ⟨⟨h1, fun x hx => rfl⟩, retN [128] rfl hK⟩
def c_wt : Ctr Try.prog := ⟨128, ent Try.func128 rfl rfl, [], sp_wt, good_wt, []⟩
@[go_sem] theorem c_wt_f : c_wt.f = 128 := rfl
@[go_sem] theorem c_wt_ms : c_wt.ms = [] := rfl
@[go_sem] theorem c_wt_sp : c_wt.spec = sp_wt := rfl
@[go_sem] theorem c_wt_fz : c_wt.fz = [] := rfl
attribute [go_sem] sp_wt
theorem wtL_isW {w : List Int} (h : isW w = true) (i : Int) : isW (wtL w i) = true := filter_isW _ h
def gDer (p : Int) (w : List Int) (n : Nat) : MapL := (List.range n).foldl (fun l k => gAdd p l (wtL w (k : Nat)) 1) []
theorem gDer_s (p : Int) (w : List Int) (n : Nat) : gDer p w (n + 1) = gAdd p (gDer p w n) (wtL w (n : Nat)) 1 := by
  rw [gDer, List.range_succ, List.foldl_append]; rfl
theorem gDer_len (p : Int) (w : List Int) : ∀ n, (gDer p w n).length ≤ n
  | 0 => Nat.le_refl _
  | n + 1 => by
    rw [gDer_s]
    have := gAdd_len p (gDer p w n) (wtL w (n : Nat)) 1
    have := gDer_len p w n
    omega
/-- Numbers at words, added up. -/
def cF (p : Int) (c : List Int → Int) (ts : TermL) : List Int → Int := ts.foldl (fun c x => cAdd p c x.1 x.2) c
theorem cF_s (p : Int) (c : List Int → Int) (ts : TermL) (x : List Int × Int) : cF p c (ts ++ [x]) = cAdd p (cF p c ts) x.1 x.2 := by rw [cF, List.foldl_append]; rfl
def derS (w : List Int) (v : Int) (n : Nat) : TermL := (List.range n).map fun k => (wtL w (k : Nat), v)
theorem derS_s (w : List Int) (v : Int) (n : Nat) : derS w v (n + 1) = derS w v n ++ [(wtL w (n : Nat), v)] := by rw [derS, List.range_succ, List.map_append]; rfl
theorem gDer_rep (p : Int) {w : List Int} (h : isW w = true) : ∀ n, GRep (gDer p w n) (cF p (fun _ => 0) (derS w 1 n))
  | 0 => GRep.nil
  | n + 1 => by
    rw [gDer_s, derS_s, cF_s]
    exact (gDer_rep p h n).add p (sm_of (wtL_isW h _)) 1
def derT (p : Int) (w : List Int) : TermL := sortT (nzT (gDer p w (w.length / 2)))
def sp_deriv : List Cv → List Obj' → Tree
  | [.one (.v (.int .i64 p)), .one (.ro (.int .i64) w)], [] => .need (p ≠ 0 ∧ isW w = true) (.ret (.val (.agg [.v (.int .i64 p), .own 0])) [.drow 68 (.pr (.sl 2 (.int .i64)) (.int .i64)) (derT p w)])
  | _, _ => .fail
set_option maxHeartbeats 4000000 in
set_option maxRecDepth 100000 in
theorem good_deriv : Good Try.prog 73 sp_deriv := by
  refine good_ofF Try.func73 rfl _ rfl _ rfl (tab [c_newG, c_gAdd, c_gSum, c_chords, c_wt]) (fun X cs os0 K hok hos hK => ?_)
  clear hos; unfold sp_deriv at hK
  split at hK
  case h_2 => exact hK.elim
  rename_i p w
  refine ⟨by simp, by simp, ?_⟩
  simp only [go_sem] at hK hok
  simp (maxSteps := 4000000) only [go_sem, Try.f73, ↓brB_t, ↓brB_f, Nat.reduceAdd, Int.reduceLE, Int.reduceLT, Int.reduceNeg, decide_true, decide_false, Bool.and_self, Nat.succ_eq_add_one, Int.toNat_natCast, Nat.beq_refl, Bool.and_true, Bool.true_and, Bool.false_or, Bool.or_true, List.all_cons, List.all_nil, Nat.reduceMul, Nat.add_zero, Nat.zero_add, List.length_nil, List.length_cons, dite_true, List.nil_append, Nat.reduceBEq, reduceDIte, reduceIte, reduceCtorEq, Bool.or_false, Bool.true_or, Bool.and_false, Bool.false_and, Bool.not_true, Bool.not_false, Option.isSome_some, Option.isSome_none, Option.getD_some, List.getElem?_cons_zero, List.getElem?_cons_succ, eq_self, and_self, List.take_succ_cons, List.take_zero, List.drop_succ_cons, List.drop_zero]
  obtain ⟨⟨hp, hw⟩, hK⟩ := hK
  clear hok
  have hlw := (Go.Proofs.Ytokakggilajjlaa.L.word_range (by rw [← Go.Proofs.Ytokakggilajjlaa.L.isW_eq]; exact hw)).1
  refine loop_okF (T := tab [c_newG, c_gAdd, c_gSum, c_chords, c_wt]) [1, 4, 5, 10, 11] [(16, 80), (17, 144), (18, 145)] (fun i : Nat => ⟨22, [(1, ri w), (4, .val (.one (.ptr 16 0))), (5, .val (.one (.ptr 17 0))), (10, vi (w.length / 2 : Nat)), (11, vi i)],
      [(16, .box 28 [.v (.int .i64 0), .v (.slice none 0 0)]), (17, oG p 18), (18, oM (gDer p w i))]⟩)
    (fun i => i ≤ w.length / 2) (fun i => w.length / 2 - i) 0 rfl rfl (Nat.zero_le _) (fun i hi => ?_)
  have hgl := gDer_len p w i
  simp only [go_sem, ↓brB_t, ↓brB_f, Nat.reduceAdd, Int.reduceLE, Int.reduceLT, Int.reduceNeg, decide_true, decide_false, Bool.and_self, Nat.succ_eq_add_one, Int.toNat_natCast, Nat.beq_refl, Bool.and_true, Bool.true_and, Bool.false_or, Bool.or_true, List.all_cons, List.all_nil, Nat.reduceMul, Nat.add_zero, Nat.zero_add, List.length_nil, List.length_cons, dite_true, List.nil_append, Nat.reduceBEq, reduceDIte, reduceIte, reduceCtorEq, Bool.or_false, Bool.true_or, Bool.and_false, Bool.false_and, Bool.not_true, Bool.not_false, Option.isSome_some, Option.isSome_none, Option.getD_some, List.getElem?_cons_zero, List.getElem?_cons_succ, eq_self, and_self, List.take_succ_cons, List.take_zero, List.drop_succ_cons, List.drop_zero]
  refine brB_intro (fun h1 => ?_) (fun h1 => ?_)
  · have h1 := of_decide_eq_true h1
    have hs := gDer_s p w i
    have hw1 : w64 ((i : Int) + 1) = ((i + 1 : Nat) : Int) := w64_s (n := w.length / 2) (by omega) (by omega)
    have hwl := (Go.Proofs.Ytokakggilajjlaa.L.word_range (by rw [← Go.Proofs.Ytokakggilajjlaa.L.isW_eq]; exact wtL_isW hw (i : Int))).1
    refine ⟨by omega, ⟨hp, by omega, by omega, trivial⟩, i + 1, [(16, 16), (17, 17), (18, 18)], by omega, by omega, rfl, ?_⟩
    rw [hw1, hs]; rfl
  · have h1 := of_decide_eq_false h1
    have e : i = w.length / 2 := by omega
    subst e
    have hc := gDer_rep p hw (w.length / 2)
    exact ⟨⟨by omega, fun x hx => by have := (hc.key x hx).2.1; omega, hc.words⟩, retN [352] rfl hK⟩
def c_deriv : Ctr Try.prog := ⟨73, ent Try.func73 rfl rfl, [], sp_deriv, good_deriv, []⟩
@[go_sem] theorem c_deriv_f : c_deriv.f = 73 := rfl
@[go_sem] theorem c_deriv_ms : c_deriv.ms = [] := rfl
@[go_sem] theorem c_deriv_sp : c_deriv.spec = sp_deriv := rfl
@[go_sem] theorem c_deriv_fz : c_deriv.fz = [] := rfl
attribute [go_sem] sp_deriv
abbrev kSum : Kn := .pr (.int .i64) (.sl 68 kTerm)
def sp_der1 : List Cv → List Obj' → Tree
  | [.one (.ro (.int .i64) w), .one (.elr (.pr (.int .i64) (.sl 68 (.pr (.sl 2 (.int .i64)) (.int .i64)))) [x] 0 0)], [] => .need ((x : Int × TermL).1 ≠ 0 ∧ isW w = true) (.ret (.val (.agg [.v (.int .i64 (x : Int × TermL).1), .ro (.pr (.sl 2 (.int .i64)) (.int .i64)) (derT (x : Int × TermL).1 w)])) [])
  | _, _ => .fail
set_option maxHeartbeats 4000000 in
set_option maxRecDepth 100000 in
theorem good_der1 : Good Try.prog 72 sp_der1 := by
  refine good_ofF Try.func72 rfl _ rfl _ rfl (tab [c_deriv]) (fun X cs os0 K hok hos hK => ?_)
  clear hos; unfold sp_der1 at hK
  split at hK
  case h_2 => exact hK.elim
  rename_i w x
  refine ⟨by simp, by simp, ?_⟩
  simp only [go_sem] at hK hok
  simp (maxSteps := 4000000) only [go_sem, Try.f72, ↓brB_t, ↓brB_f, Nat.reduceAdd, Int.reduceLE, Int.reduceLT, Int.reduceNeg, decide_true, decide_false, Bool.and_self, Nat.succ_eq_add_one, Int.toNat_natCast, Nat.beq_refl, Bool.and_true, Bool.true_and, Bool.false_or, Bool.or_true, List.all_cons, List.all_nil, Nat.reduceMul, Nat.add_zero, Nat.zero_add, List.length_nil, List.length_cons, dite_true, List.nil_append, Nat.reduceBEq, reduceDIte, reduceIte, reduceCtorEq, Bool.or_false, Bool.true_or, Bool.and_false, Bool.false_and, Bool.not_true, Bool.not_false, Option.isSome_some, Option.isSome_none, Option.getD_some, List.getElem?_cons_zero, List.getElem?_cons_succ, eq_self, and_self, List.take_succ_cons, List.take_zero, List.drop_succ_cons, List.drop_zero]
  obtain ⟨h1, hK⟩ := hK
  clear hok
  exact ⟨h1, ret0 hK⟩
def derP (ys : HC [.d kSum]) (xs : HT [Kn.sl 2 (.int .i64)]) : Option (Int × TermL) := if (ys.1 : Int × TermL).1 ≠ 0 ∧ isW xs.1 = true then some ((ys.1 : Int × TermL).1, derT (ys.1 : Int × TermL).1 xs.1) else none
def p_der : PFn Try.prog := ⟨72, entB Try.func72 rfl rfl, [.d kSum], [.sl 2 (.int .i64)], kSum, derP, sp_der1, good_der1, fun ys xs y h K hK => by
  unfold derP at h
  split at h
  · rename_i hc
    injection h with h; subst h
    exact ⟨hc, hK⟩
  · cases h⟩
@[go_sem] theorem p_der_f : p_der.f = 72 := rfl
@[go_sem] theorem p_der_caps (args : List Rv) : (capsM p_der.cks args fun ys => .ret (.val (.one (.pf p_der.ks p_der.r (p_der.g ys))))) = capsM [.d kSum] args fun ys => .ret (.val (.one (.pf [.sl 2 (.int .i64)] kSum (derP ys)))) := rfl
/-! ### sums changed word by word -/
abbrev ChT := HT [Kn.sl 2 (.int .i64)] → Option (Int × TermL)
def chS (f : ChT) (w : List Int) : TermL := ((f (w, ())).getD (0, [])).2
def gCh (p : Int) (f : ChT) (ts : TermL) : MapL := ts.foldl (fun l x => gAll p l x.2 (chS f x.1)) []
theorem gCh_s {p : Int} {f : ChT} {ts : TermL} {i : Nat} (h : i < ts.length) : gCh p f (ts.take (i + 1)) = gAll p (gCh p f (ts.take i)) (ts.getD i ([], 0)).2 (chS f (ts.getD i ([], 0)).1) := by
  have e : ts.getD i ([], 0) = ts[i] := by rw [List.getD_eq_getElem?_getD, List.getElem?_eq_getElem h]; rfl
  rw [gCh, List.take_succ_eq_append_getElem h, List.foldl_append, e]; rfl
theorem gCh_len {p : Int} {f : ChT} {ts : TermL} (h : ∀ x ∈ ts, (chS f x.1).length ≤ 100) (i : Nat) : (gCh p f (ts.take i)).length ≤ 100 * i := by
  induction i with
  | zero => simp [gCh]
  | succ i ih =>
    by_cases hi : i < ts.length
    · rw [gCh_s hi]
      have := gAll_len p (gCh p f (ts.take i)) (ts.getD i ([], 0)).2 (chS f (ts.getD i ([], 0)).1)
      have := h _ (getD_memT hi)
      omega
    · rw [List.take_of_length_le (by omega)] at ih ⊢
      omega
def sp_changed : List Cv → List Obj' → Tree
  | [.agg [.v (.int .i64 p), .ro (.pr (.sl 2 (.int .i64)) (.int .i64)) ts], .one (.pf [.sl 2 (.int .i64)] (.pr (.int .i64) (.sl 68 (.pr (.sl 2 (.int .i64)) (.int .i64)))) f)], [] =>
    .need (p ≠ 0 ∧ (ts : TermL).length ≤ 200 ∧ (∀ x ∈ (ts : TermL), (f (x.1, ())).isSome = true ∧ (chS f x.1).length ≤ 100 ∧ ∀ y ∈ chS f x.1, y.1.length < 1099511627776) ∧ ∃ c, GRep (gCh p f ts) c) (.ret (.val (.agg [.v (.int .i64 p), .own 0])) [.drow 68 (.pr (.sl 2 (.int .i64)) (.int .i64)) (sortT (nzT (gCh p f ts)))])
  | _, _ => .fail
set_option maxHeartbeats 4000000 in
set_option maxRecDepth 100000 in
theorem good_changed : Good Try.prog 71 sp_changed := by
  refine good_ofF Try.func71 rfl _ rfl _ rfl (tab [c_newG, c_gAll, c_gSum]) (fun X cs os0 K hok hos hK => ?_)
  clear hos; unfold sp_changed at hK
  split at hK
  case h_2 => exact hK.elim
  rename_i p ts f
  refine ⟨by simp, by simp, ?_⟩
  simp only [go_sem] at hK hok
  simp (maxSteps := 4000000) only [go_sem, Try.f71, ↓brB_t, ↓brB_f, Nat.reduceAdd, Int.reduceLE, Int.reduceLT, Int.reduceNeg, decide_true, decide_false, Bool.and_self, Nat.succ_eq_add_one, Int.toNat_natCast, Nat.beq_refl, Bool.and_true, Bool.true_and, Bool.false_or, Bool.or_true, List.all_cons, List.all_nil, Nat.reduceMul, Nat.add_zero, Nat.zero_add, List.length_nil, List.length_cons, dite_true, List.nil_append, Nat.reduceBEq, reduceDIte, reduceIte, reduceCtorEq, Bool.or_false, Bool.true_or, Bool.and_false, Bool.false_and, Bool.not_true, Bool.not_false, Option.isSome_some, Option.isSome_none, Option.getD_some, List.getElem?_cons_zero, List.getElem?_cons_succ, eq_self, and_self, List.take_succ_cons, List.take_zero, List.drop_succ_cons, List.drop_zero]
  obtain ⟨⟨hp, hl, hw, hg⟩, hK⟩ := hK
  clear hok
  refine loop_okF (T := tab [c_newG, c_gAll, c_gSum]) [1, 4, 5, 12, 13, 14] [(16, 80), (17, 176), (18, 177)] (fun i : Nat => ⟨29, [(1, .val (.one (.pf [.sl 2 (.int .i64)] kSum f))), (4, .val (.one (.ptr 16 0))), (5, .val (.one (.ptr 17 0))), (12, .val (.one (.ro kTerm ts))), (13, vi (ts.length : Nat)), (14, vi i)],
      [(16, .box 28 [.v (.int .i64 0), .v (.slice none 0 0)]), (17, oG p 18), (18, oM (gCh p f (ts.take i)))]⟩)
    (fun i => i ≤ ts.length) (fun i => ts.length - i) 0 rfl rfl (Nat.zero_le _) (fun i hi => ?_)
  have hgl := gCh_len (p := p) (f := f) (fun x hx => (hw x hx).2.1) i
  simp only [go_sem, ↓brB_t, ↓brB_f, Nat.reduceAdd, Int.reduceLE, Int.reduceLT, Int.reduceNeg, decide_true, decide_false, Bool.and_self, Nat.succ_eq_add_one, Int.toNat_natCast, Nat.beq_refl, Bool.and_true, Bool.true_and, Bool.false_or, Bool.or_true, List.all_cons, List.all_nil, Nat.reduceMul, Nat.add_zero, Nat.zero_add, List.length_nil, List.length_cons, dite_true, List.nil_append, Nat.reduceBEq, reduceDIte, reduceIte, reduceCtorEq, Bool.or_false, Bool.true_or, Bool.and_false, Bool.false_and, Bool.not_true, Bool.not_false, Option.isSome_some, Option.isSome_none, Option.getD_some, List.getElem?_cons_zero, List.getElem?_cons_succ, eq_self, and_self, List.take_succ_cons, List.take_zero, List.drop_succ_cons, List.drop_zero]
  refine brB_intro (fun h1 => ?_) (fun h1 => ?_)
  · have h1 := of_decide_eq_true h1
    have hs := gCh_s (p := p) (f := f) (ts := ts) (i := i) (by omega)
    have hw1 : w64 ((i : Int) + 1) = ((i + 1 : Nat) : Int) := w64_s (n := ts.length) (by omega) (by omega)
    obtain ⟨hx1, hx2, hx3⟩ := hw _ (getD_memT (show i < ts.length by omega))
    refine ⟨⟨by omega, by omega⟩, hx1, ⟨hp, hx3, ?_, trivial⟩, by kernel_rfl, i + 1, [(16, 16), (17, 17), (18, 18)], by omega, by omega, rfl, ?_⟩
    · show (gCh p f (ts.take i)).length + (chS f (ts.getD i ([], 0)).1).length ≤ _
      omega
    · rw [hw1, hs]; rfl
  · have h1 := of_decide_eq_false h1
    have e : i = ts.length := by omega
    subst e
    rw [List.take_length] at hgl ⊢
    obtain ⟨c, hc⟩ := hg
    exact ⟨⟨by omega, fun x hx => by have := (hc.key x hx).2.1; omega, hc.words⟩, retN [464] rfl hK⟩
def c_changed : Ctr Try.prog := ⟨71, ent Try.func71 rfl rfl, [], sp_changed, good_changed, []⟩
@[go_sem] theorem c_changed_f : c_changed.f = 71 := rfl
@[go_sem] theorem c_changed_ms : c_changed.ms = [] := rfl
@[go_sem] theorem c_changed_sp : c_changed.spec = sp_changed := rfl
@[go_sem] theorem c_changed_fz : c_changed.fz = [] := rfl
attribute [go_sem] sp_changed
end Go.Proofs.Ytokakggilajjlaa.V
