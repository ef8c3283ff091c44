/- Contracts: the part of a sum by the program, the law of parts of sums. Conditions: told by each spec. -/
import Derived.Test.YtokakggilajjlaaVM
import Derived.Test.YtokakggilajjlaaVS5
import Derived.Test.YtokakggilajjlaaVS6
import Derived.Test.YtokakggilajjlaaVS8
set_option linter.unusedVariables false
set_option linter.unusedSimpArgs false
namespace Go.Proofs.Ytokakggilajjlaa.V
open Go
def gPart (p : Int) (f : Tst) (l : MapL) (ts : TermL) : MapL := ts.foldl (fun l x => if tst f ((x.1.length / 2 : Nat) : Int) then gAdd p l x.1 x.2 else l) l
theorem gPart_s {p : Int} {f : Tst} {l : MapL} {ts : TermL} {i : Nat} (h : i < ts.length) : gPart p f l (ts.take (i + 1)) = if tst f (((ts.getD i ([], 0)).1.length / 2 : Nat) : Int) then gAdd p (gPart p f l (ts.take i)) (ts.getD i ([], 0)).1 (ts.getD i ([], 0)).2 else gPart p f l (ts.take i) := by
  have e : ts.getD i ([], 0) = ts[i] := by rw [List.getD_eq_getElem?_getD, List.getElem?_eq_getElem h]; rfl
  rw [gPart, List.take_succ_eq_append_getElem h, List.foldl_append, e]; rfl
theorem gPart_len (p : Int) (f : Tst) (l : MapL) (ts : TermL) : (gPart p f l ts).length ≤ l.length + ts.length := by
  unfold gPart
  induction ts generalizing l with
  | nil => simp
  | cons x ts ih =>
    rw [List.foldl_cons, List.length_cons]
    split
    · have := ih (gAdd p l x.1 x.2)
      have := gAdd_len p l x.1 x.2
      omega
    · have := ih l
      omega
/-- Gathered and put in: the same. -/
theorem part_rep (p : Int) (f : Tst) (n : Int) : ∀ (ts : TermL) (l : MapL) (us : TermL) (c : List Int → Int), GRep l c → SRep us c → (∀ x ∈ ts, smB x.1) → (∀ x ∈ ts, tst f ((x.1.length / 2 : Nat) : Int) = decide ((x.1.length : Int) = w64 (2 * n))) →
    ∃ c, GRep (gPart p f l ts) c ∧ SRep (ts.foldl (fun out x => if (x.1.length : Int) = w64 (2 * n) then jT p out x.1 x.2 else out) us) c
  | [], l, us, c, hg, hs, _, _ => ⟨c, hg, hs⟩
  | x :: ts, l, us, c, hg, hs, hw, hf => by
    have h1 := hf x List.mem_cons_self
    have ih := fun l us c hg hs => part_rep p f n ts l us c hg hs (fun y hy => hw y (List.mem_cons_of_mem _ hy)) (fun y hy => hf y (List.mem_cons_of_mem _ hy))
    have hsm := hw x List.mem_cons_self
    rw [gPart, List.foldl_cons, List.foldl_cons, h1]
    by_cases e : (x.1.length : Int) = w64 (2 * n)
    · rw [decide_eq_true e, if_pos rfl, if_pos e]
      exact ih _ _ _ (hg.add p hsm x.2) (hs.put p hsm x.2)
    · rw [decide_eq_false e, if_neg (by decide), if_neg e]
      exact ih _ _ _ hg hs
def sp_part : List Cv → List Obj' → Tree
  | [.agg [.v (.int .i64 p), .ro (.pr (.sl 2 (.int .i64)) (.int .i64)) ts], .one (.pf [.int .i64] .bool f)], [] =>
    .need (p ≠ 0 ∧ (ts : TermL).length ≤ 1000000 ∧ (∀ x ∈ (ts : TermL), smB x.1 ∧ (f (((x.1.length / 2 : Nat) : Int), ())).isSome = true) ∧ ∃ c, GRep (gPart p f [] ts) c) (.ret (.val (.agg [.v (.int .i64 p), .own 0])) [.drow 68 (.pr (.sl 2 (.int .i64)) (.int .i64)) (sortT (nzT (gPart p f [] ts)))])
  | _, _ => .fail
set_option maxHeartbeats 4000000 in
set_option maxRecDepth 100000 in
theorem good_part : Good Try.prog 56 sp_part := by
  refine good_ofF Try.func56 rfl _ rfl _ rfl (tab [c_newG, c_gAdd, c_gSum, c_chords]) (fun X cs os0 K hok hos hK => ?_)
  clear hos; unfold sp_part at hK
  split at hK
  case h_2 => exact hK.elim
  rename_i p ts f
  refine ⟨by simp, by simp, ?_⟩
  simp only [go_sem] at hK hok
  simp (maxSteps := 4000000) only [go_sem, Try.f56, ↓brB_t, ↓brB_f, Nat.reduceAdd, Int.reduceLE, Int.reduceLT, Int.reduceNeg, decide_true, decide_false, Bool.and_self, Nat.succ_eq_add_one, Int.toNat_natCast, Nat.beq_refl, Bool.and_true, Bool.true_and, Bool.false_or, Bool.or_true, List.all_cons, List.all_nil, Nat.reduceMul, Nat.add_zero, Nat.zero_add, List.length_nil, List.length_cons, dite_true, List.nil_append, Nat.reduceBEq, reduceDIte, reduceIte, reduceCtorEq, Bool.or_false, Bool.true_or, Bool.and_false, Bool.false_and, Bool.not_true, Bool.not_false, Option.isSome_some, Option.isSome_none, Option.getD_some, List.getElem?_cons_zero, List.getElem?_cons_succ, eq_self, and_self, List.take_succ_cons, List.take_zero, List.drop_succ_cons, List.drop_zero]
  obtain ⟨⟨hp, hl, hw, hg⟩, hK⟩ := hK
  clear hok
  refine loop_okF (T := tab [c_newG, c_gAdd, c_gSum, c_chords]) [1, 4, 5, 12, 13, 14] [(16, 80), (17, 176), (18, 177)] (fun i : Nat => ⟨32, [(1, .val (.one (.pf [.int .i64] .bool f))), (4, .val (.one (.ptr 16 0))), (5, .val (.one (.ptr 17 0))), (12, .val (.one (.ro kTerm ts))), (13, vi (ts.length : Nat)), (14, vi i)],
      [(16, .box 28 [.v (.int .i64 0), .v (.slice none 0 0)]), (17, oG p 18), (18, oM (gPart p f [] (ts.take i)))]⟩)
    (fun i => i ≤ ts.length) (fun i => ts.length - i) 0 rfl rfl (Nat.zero_le _) (fun i hi => ?_)
  have hgl := gPart_len p f [] (ts.take i)
  have htl : (ts.take i).length = i := by rw [List.length_take]; omega
  simp only [go_sem, ↓brB_t, ↓brB_f, Nat.reduceAdd, Int.reduceLE, Int.reduceLT, Int.reduceNeg, decide_true, decide_false, Bool.and_self, Nat.succ_eq_add_one, Int.toNat_natCast, Nat.beq_refl, Bool.and_true, Bool.true_and, Bool.false_or, Bool.or_true, List.all_cons, List.all_nil, Nat.reduceMul, Nat.add_zero, Nat.zero_add, List.length_nil, List.length_cons, dite_true, List.nil_append, Nat.reduceBEq, reduceDIte, reduceIte, reduceCtorEq, Bool.or_false, Bool.true_or, Bool.and_false, Bool.false_and, Bool.not_true, Bool.not_false, Option.isSome_some, Option.isSome_none, Option.getD_some, List.getElem?_cons_zero, List.getElem?_cons_succ, eq_self, and_self, List.take_succ_cons, List.take_zero, List.drop_succ_cons, List.drop_zero]
  refine brB_intro (fun h1 => ?_) (fun h1 => ?_)
  · have h1 := of_decide_eq_true h1
    have hs := gPart_s (p := p) (f := f) (l := []) (ts := ts) (i := i) (by omega)
    have hw1 : w64 ((i : Int) + 1) = ((i + 1 : Nat) : Int) := w64_s (n := ts.length) (by omega) (by omega)
    obtain ⟨hx1, hx2⟩ := hw _ (getD_memT (show i < ts.length by omega))
    obtain ⟨y, hy⟩ := Option.isSome_iff_exists.1 hx2
    have ht : tst f (((ts.getD i ([], 0)).1.length / 2 : Nat) : Int) = y := by unfold tst; rw [hy]; rfl
    rw [ht] at hs
    have hxl := hx1.1
    have hgl' : (gPart p f [] (ts.take i)).length ≤ i := by simpa [htl] using hgl
    refine ⟨⟨by omega, by omega⟩, hx2, brB_intro (fun h2 => ?_) (fun h2 => ?_)⟩
    · rw [hy] at h2
      rw [if_pos (show y = true from h2)] at hs
      refine ⟨⟨hp, by omega, by omega, trivial⟩, i + 1, [(16, 16), (17, 17), (18, 18)], by omega, by omega, rfl, ?_⟩
      rw [hw1, hs]; rfl
    · rw [hy] at h2
      rw [if_neg (show ¬ y = true by rw [show y = false from h2]; decide)] at hs
      refine ⟨i + 1, [(16, 16), (17, 17), (18, 18)], by omega, by omega, rfl, ?_⟩
      rw [hw1, hs]; rfl
  · have h1 := of_decide_eq_false h1
    have e : i = ts.length := by omega
    subst e
    rw [List.take_length] at hgl ⊢
    obtain ⟨c, hc⟩ := hg
    exact ⟨⟨by simp only [List.length_nil] at hgl; omega, fun x hx => by have := (hc.key x hx).2.1; omega, hc.words⟩, retN [512] rfl hK⟩
def c_part : Ctr Try.prog := ⟨56, ent Try.func56 rfl rfl, [], sp_part, good_part, []⟩
@[go_sem] theorem c_part_f : c_part.f = 56 := rfl
@[go_sem] theorem c_part_ms : c_part.ms = [] := rfl
@[go_sem] theorem c_part_sp : c_part.spec = sp_part := rfl
@[go_sem] theorem c_part_fz : c_part.fz = [] := rfl
attribute [go_sem] sp_part
def sp_part1 : List Cv → List Obj' → Tree
  | [.one (.v (.int .i64 k)), .one (.elr (.int .i64) [n] 0 0)], [] => .ret (vb (decide (k = n))) []
  | _, _ => .fail
set_option maxHeartbeats 4000000 in
set_option maxRecDepth 100000 in
theorem good_part1 : Good Try.prog 57 sp_part1 := by
  refine good_ofF Try.func57 rfl _ rfl _ rfl (tab []) (fun X cs os0 K hok hos hK => ?_)
  clear hos; unfold sp_part1 at hK
  split at hK
  case h_2 => exact hK.elim
  rename_i k n
  refine ⟨by simp, by simp, ?_⟩
  simp only [go_sem] at hK hok
  simp (maxSteps := 4000000) only [go_sem, Try.f57, ↓brB_t, ↓brB_f, Nat.reduceAdd, Int.reduceLE, Int.reduceLT, Int.reduceNeg, decide_true, decide_false, Bool.and_self, Nat.succ_eq_add_one, Int.toNat_natCast, Nat.beq_refl, Bool.and_true, Bool.true_and, Bool.false_or, Bool.or_true, List.all_cons, List.all_nil, Nat.reduceMul, Nat.add_zero, Nat.zero_add, List.length_nil, List.length_cons, dite_true, List.nil_append, Nat.reduceBEq, reduceDIte, reduceIte, reduceCtorEq, Bool.or_false, Bool.true_or, Bool.and_false, Bool.false_and, Bool.not_true, Bool.not_false, Option.isSome_some, Option.isSome_none, Option.getD_some, List.getElem?_cons_zero, List.getElem?_cons_succ, eq_self, and_self, List.take_succ_cons, List.take_zero, List.drop_succ_cons, List.drop_zero]
  exact ret0 hK
def partP (ys : HC [.d (.int .i64)]) (xs : HT [Kn.int .i64]) : Option Bool := some (decide ((xs.1 : Int) = ys.1))
def p_part : PFn Try.prog := ⟨57, entB Try.func57 rfl rfl, [.d (.int .i64)], [.int .i64], .bool, partP, sp_part1, good_part1, fun ys xs y h K hK => by
  unfold partP at h
  injection h with h; subst h
  exact hK⟩
@[go_sem] theorem p_part_f : p_part.f = 57 := rfl
@[go_sem] theorem p_part_caps (args : List Rv) : (capsM p_part.cks args fun ys => .ret (.val (.one (.pf p_part.ks p_part.r (p_part.g ys))))) = capsM [.d (.int .i64)] args fun ys => .ret (.val (.one (.pf [.int .i64] .bool (partP ys)))) := rfl
theorem isS_words {p : Int} {ts : TermL} (h : isS p ts = true) : ∀ x ∈ ts, isW x.1 = true := by
  unfold isS at h
  simp only [Bool.and_eq_true, decide_eq_true_eq] at h
  obtain ⟨h1, h2, h3⟩ := h
  intro x hx
  obtain ⟨i, hi, rfl⟩ := List.getElem_of_mem hx
  have := List.all_eq_true.1 h3 i (List.mem_range.2 hi)
  unfold termB at this
  simp only [Bool.and_eq_true] at this
  have e : ts.getD i ([], 0) = ts[i] := by rw [List.getD_eq_getElem?_getD, List.getElem?_eq_getElem hi]; rfl
  rw [e] at this
  exact this.1
theorem part_tst {w : List Int} (hw : isW w = true) {n : Int} (hn : inB n 0 6 = true) : tst (partP (n, ())) ((w.length / 2 : Nat) : Int) = decide ((w.length : Int) = w64 (2 * n)) := by
  obtain ⟨m, hm⟩ := Go.Proofs.Ytokakggilajjlaa.L.word_of w (by rw [← Go.Proofs.Ytokakggilajjlaa.L.isW_eq]; exact hw)
  have hl := hm.len
  simp only [inB, Bool.and_eq_true, decide_eq_true_eq] at hn
  show decide (((w.length / 2 : Nat) : Int) = n) = _
  rw [w64_id (by omega) (by omega)]
  exact decide_eq_decide.2 ⟨fun h => by omega, fun h => by omega⟩
set_option maxHeartbeats 4000000 in
set_option maxRecDepth 100000 in
theorem good_partOfI : Good Try.prog 16 sp_partOf := by
  refine good_ofF Try.func16 rfl _ rfl _ rfl (tab [c_IsSum, c_in, c_part] [] [p_part]) (fun X cs os0 K hok hos hK => ?_)
  clear hos; unfold sp_partOf at hK
  split at hK
  case h_2 => exact hK.elim
  rename_i p ts n
  refine ⟨by simp, by simp, ?_⟩
  simp only [go_sem] at hK hok
  simp (maxSteps := 4000000) only [go_sem, Try.f16, ↓brB_t, ↓brB_f, Nat.reduceAdd, Int.reduceLE, Int.reduceLT, Int.reduceNeg, decide_true, decide_false, Bool.and_self, Nat.succ_eq_add_one, Int.toNat_natCast, Nat.beq_refl, Bool.and_true, Bool.true_and, Bool.false_or, Bool.or_true, List.all_cons, List.all_nil, Nat.reduceMul, Nat.add_zero, Nat.zero_add, List.length_nil, List.length_cons, dite_true, List.nil_append, Nat.reduceBEq, reduceDIte, reduceIte, reduceCtorEq, Bool.or_false, Bool.true_or, Bool.and_false, Bool.false_and, Bool.not_true, Bool.not_false, Option.isSome_some, Option.isSome_none, Option.getD_some, List.getElem?_cons_zero, List.getElem?_cons_succ, eq_self, and_self, List.take_succ_cons, List.take_zero, List.drop_succ_cons, List.drop_zero]
  clear hok
  have err : ∀ {c : Int}, partR p ts n = ((0, []), c) → K (.tup [.agg [.v (.int .i64 0), .own 0], .one (.v (.int .i64 c))]) [.drow tI kTerm []] := fun e => by rw [e] at hK; exact hK
  refine brB_intro (fun h1 => retM [⟨.cell 80 1, 16, tI, kTerm⟩] rfl (retN [16] rfl (err (by rw [partR, snb h1]; rfl)))) (fun h1 => ?_)
  have h1 := snb' h1
  refine brB_intro (fun h2 => retM [⟨.cell 80 1, 16, tI, kTerm⟩] rfl (retN [16] rfl (err (by rw [partR, h1, snb h2]; rfl)))) (fun h2 => ?_)
  have h2 := snb' h2
  have er : partR p ts n = ((p, partF p n ts), 0) := by rw [partR, h1, h2]; rfl
  rw [er] at hK
  have hw := isS_words h1
  obtain ⟨c, hg, hs⟩ := part_rep p (partP (n, ())) n ts [] [] _ GRep.nil SRep.nil (fun x hx => sm_of (hw x hx)) (fun x hx => part_tst (hw x hx) h2)
  have e : sortT (nzT (gPart p (partP (n, ())) [] ts)) = partF p n ts := hg.sum hs
  refine ⟨⟨(isS_parts h1).1, Nat.le_trans (isS_parts h1).2.1 (by decide), fun x hx => ⟨sm_of (hw x hx), rfl⟩, c, hg⟩, retN [304] rfl ?_⟩
  show K (.tup [.agg [.v (.int .i64 p), .own 0], .one (.v (.int .i64 0))]) [.drow tI kTerm (sortT (nzT (gPart p (partP (n, ())) [] ts)))]
  rw [e]
  exact hK
def c_partOfI : Ctr Try.prog := ⟨16, ent Try.func16 rfl rfl, [], sp_partOf, good_partOfI, []⟩
@[go_sem] theorem c_partOfI_f : c_partOfI.f = 16 := rfl
@[go_sem] theorem c_partOfI_ms : c_partOfI.ms = [] := rfl
@[go_sem] theorem c_partOfI_sp : c_partOfI.spec = sp_partOf := rfl
@[go_sem] theorem c_partOfI_fz : c_partOfI.fz = [] := rfl
attribute [go_sem] sp_partOf
theorem partR_len (p : Int) (ts : TermL) (n : Int) : (partR p ts n).1.2.length ≤ ts.length ∧ ∀ x ∈ (partR p ts n).1.2, x.1.length ≤ 12 := by
  unfold partR
  split
  · rename_i h
    split
    · have h1 := partF_len (p := p) (n := n) ts ts.length
      have h2 := partF_mem (p := p) (n := n) (q := fun m => m ≤ 12) (isS_parts h).2.2 ts.length
      rw [List.take_length] at h1 h2
      exact ⟨h1, h2⟩
    · exact ⟨Nat.zero_le _, fun x hx => by cases hx⟩
  · exact ⟨Nat.zero_le _, fun x hx => by cases hx⟩
theorem szT_mark : ∀ (ts : TermL) (k : Int), szT (markT k ts) = szT ts
  | [], k => rfl
  | x :: r, k => by
    have ih := szT_mark r (k + x.1.length + 1)
    unfold szT at ih ⊢
    rw [markT, List.map_cons, List.map_cons, List.sum_cons, List.sum_cons, ih, marks_length]
theorem markT_idem : ∀ (ts : TermL) (k : Int), markT k (markT k ts) = markT k ts
  | [], k => rfl
  | x :: r, k => by
    rw [markT, markT, marks_length, markT_idem r]
attribute [go_sem] resS markT_length szT_mark markT_idem
theorem szT_le12 : ∀ {ts : TermL}, (∀ x ∈ ts, x.1.length ≤ 12) → szT ts ≤ 12 * ts.length
  | [], _ => by simp [szT]
  | x :: r, h => by
    have h1 := h x List.mem_cons_self
    have h2 := szT_le12 (ts := r) fun y hy => h y (List.mem_cons_of_mem _ hy)
    have : szT (x :: r) = x.1.length + szT r := by simp [szT]
    rw [this, List.length_cons]
    omega
def sp_lawSi2 : List Cv → List Obj' → Tree
  | [.agg [.v (.int .i64 p), .ro (.pr (.sl 2 (.int .i64)) (.int .i64)) ts], .one (.v (.int .i64 k))], [] => .ret (vb true) []
  | _, _ => .fail
set_option maxHeartbeats 4000000 in
set_option maxRecDepth 100000 in
theorem good_lawPartOfSum : Good Try.prog 3 sp_lawSi2 := by
  refine good_ofF Try.func3 rfl _ rfl _ rfl (tab [c_szSum, c_toSum, c_partOfS, c_partOfI, c_eqSum, c_markSum, c_heldSum]) (fun X cs os0 K hok hos hK => ?_)
  clear hos; unfold sp_lawSi2 at hK
  split at hK
  case h_2 => exact hK.elim
  rename_i p ts k
  refine ⟨by simp, by simp, ?_⟩
  simp only [go_sem] at hK hok
  simp (maxSteps := 4000000) only [go_sem, Try.f3, ↓brB_t, ↓brB_f, Nat.reduceAdd, Int.reduceLE, Int.reduceLT, Int.reduceNeg, decide_true, decide_false, Bool.and_self, Nat.succ_eq_add_one, Int.toNat_natCast, Nat.beq_refl, Bool.and_true, Bool.true_and, Bool.false_or, Bool.or_true, List.all_cons, List.all_nil, Nat.reduceMul, Nat.add_zero, Nat.zero_add, List.length_nil, List.length_cons, dite_true, List.nil_append, Nat.reduceBEq, reduceDIte, reduceIte, reduceCtorEq, Bool.or_false, Bool.true_or, Bool.and_false, Bool.false_and, Bool.not_true, Bool.not_false, Option.isSome_some, Option.isSome_none, Option.getD_some, List.getElem?_cons_zero, List.getElem?_cons_succ, eq_self, and_self, List.take_succ_cons, List.take_zero, List.drop_succ_cons, List.drop_zero]
  have hr := partR_len p ts k
  generalize partR p ts k = r at *
  clear hok
  refine ⟨trivial, brB_intro (fun _ => ret0 hK) (fun h1 => ?_)⟩
  have hz : ts.length + szT ts ≤ 1048576 := by
    have h1 := of_decide_eq_false h1
    split at h1 <;> omega
  have a1 : ts.length ≤ 1099511627776 ∧ ∀ x ∈ (ts : TermL), x.1.length ≤ 1099511627776 := ⟨by omega, fun x hx => by have := szT_mem hx; omega⟩
  have hb := szT_le12 hr.2
  have hb2 := hr.1
  clear h1 hr
  generalize szT r.1.2 = z at *
  exact ⟨a1, a1, a1, by kernel_rfl, ⟨trivial, by omega⟩, brB_intro (fun h2 => by have := of_decide_eq_true h2; omega) (fun _ => ⟨⟨trivial, by omega⟩, ⟨trivial, by omega⟩, brB_intro (fun h2 => by have := of_decide_eq_true h2; omega) (fun _ => ⟨a1, ⟨trivial, by omega⟩, brB_intro (fun h2 => by have := of_decide_eq_true h2; omega) (fun _ => ret0 hK)⟩)⟩)⟩
end Go.Proofs.Ytokakggilajjlaa.V
