/- Contracts: mates, cycles, borders. Conditions: told by each spec. -/
import Derived.Test.YtokakggilajjlaaVE1
set_option linter.unusedVariables false
set_option linter.unusedSimpArgs false
namespace Go.Proofs.Ytokakggilajjlaa.V
open Go
def mtL (w : List Int) (i : Nat) : List Int := mr w.length fun x => if w.getD x 0 < (i : Int) then ((mt w x : Nat) : Int) else 0
theorem mt_a {w : List Int} {j a b : Nat} (h1 : pl1 w j = a) (h2 : pl2 w j = b) (h3 : w.getD a 0 = j) : mt w a = b := by
  rw [mt, h3, h1, h2, Int.toNat_natCast, Int.toNat_natCast, if_pos rfl]
theorem mt_b {w : List Int} {j a b : Nat} (hab : a < b) (h1 : pl1 w j = a) (h2 : pl2 w j = b) (h3 : w.getD b 0 = j) : mt w b = a := by
  rw [mt, h3, h1, h2, Int.toNat_natCast, Int.toNat_natCast, if_neg (by omega)]
theorem mtL_step {w : List Int} {i a b : Nat} (ab : a < b) (bl : b < w.length) (p1 : pl1 w i = a) (p2 : pl2 w i = b) (wa : w.getD a 0 = i) (wb : w.getD b 0 = i) (only : ∀ j, j < w.length → w.getD j 0 = i → j = a ∨ j = b) :
    ((mtL w i).set a (b : Int)).set b (a : Int) = mtL w (i + 1) := by
  have e1 := mr_set (M := w.length) (i := a) (p := fun x => if w.getD x 0 < (i : Int) then ((mt w x : Nat) : Int) else 0) (q := fun x => if w.getD x 0 < (i : Int) ∨ x = a then ((mt w x : Nat) : Int) else 0) (fun j hj h => by
    show (if _ then _ else _) = (if _ then _ else _)
    by_cases k : w.getD j 0 < (i : Int)
    · rw [if_pos k, if_pos (.inl k)]
    · rw [if_neg k, if_neg (fun h1 => h1.elim k h)])
  have e2 := mr_set (M := w.length) (i := b) (p := fun x => if w.getD x 0 < (i : Int) ∨ x = a then ((mt w x : Nat) : Int) else 0) (q := fun x => if w.getD x 0 < ((i + 1 : Nat) : Int) then ((mt w x : Nat) : Int) else 0) (fun j hj h => by
    show (if _ then _ else _) = (if _ then _ else _)
    by_cases k : w.getD j 0 < (i : Int)
    · rw [if_pos (.inl k), if_pos (by omega)]
    · by_cases k2 : j = a
      · rw [if_pos (.inr k2), if_pos (by rw [k2, wa]; omega)]
      · rw [if_neg (fun h1 => h1.elim k k2), if_neg (fun h1 => by
          rcases only j hj (by omega) with h2 | h2
          · exact k2 h2
          · exact h h2)])
  have v1 : (if w.getD a 0 < (i : Int) ∨ a = a then ((mt w a : Nat) : Int) else 0) = (b : Int) := by
    rw [if_pos (.inr rfl), mt_a p1 p2 wa]
  have v2 : (if w.getD b 0 < ((i + 1 : Nat) : Int) then ((mt w b : Nat) : Int) else 0) = (a : Int) := by
    rw [if_pos (by rw [wb]; omega), mt_b ab p1 p2 wb]
  rw [v1] at e1
  rw [v2] at e2
  unfold mtL
  rw [e1, e2]
def sp_mates : List Cv → List Obj' → Tree
  | [.one (.ro (.int .i64) w)], [] => .need (isW w = true) (.ret (ow 0) [rwn 3 (mtL w (w.length / 2))])
  | _, _ => .fail
set_option maxHeartbeats 4000000 in
set_option maxRecDepth 100000 in
theorem good_mates : Good Try.prog 178 sp_mates := by
  refine good_ofF Try.func178 rfl _ rfl _ rfl (tab [c_chords, c_places]) (fun X cs os0 K hok hos hK => ?_)
  clear hos; unfold sp_mates at hK
  split at hK
  case h_2 => exact hK.elim
  rename_i w
  refine ⟨by simp, by simp, ?_⟩
  simp only [go_sem] at hK hok
  simp (maxSteps := 4000000) only [go_sem, Try.f178, ↓brB_t, ↓brB_f, Nat.reduceAdd, Int.reduceLE, Int.reduceLT, Int.reduceNeg, decide_true, decide_false, Bool.and_self, Nat.succ_eq_add_one, Int.toNat_natCast, Nat.beq_refl, Bool.and_true, Bool.true_and, Bool.false_or, Bool.or_true, List.all_cons, List.all_nil, Nat.reduceMul, Nat.add_zero, Nat.zero_add, List.length_nil, List.length_cons, dite_true, List.nil_append, Nat.reduceBEq, reduceDIte, reduceIte, reduceCtorEq, Bool.or_false, Bool.true_or, Bool.and_false, Bool.false_and, Bool.not_true, Bool.not_false, Option.isSome_some, Option.isSome_none, Option.getD_some, List.getElem?_cons_zero, List.getElem?_cons_succ, eq_self, and_self, List.take_succ_cons, List.take_zero, List.drop_succ_cons, List.drop_zero]
  obtain ⟨hw, hK⟩ := hK
  clear hok
  obtain ⟨w1, w2⟩ := Go.Proofs.Ytokakggilajjlaa.L.word_range hw
  obtain ⟨n, hW⟩ := Go.Proofs.Ytokakggilajjlaa.L.word_of w hw
  have hn := hW.len
  have hn2 : w.length / 2 = n := by omega
  rw [hn2] at hK ⊢
  have h0 : mtL w 0 = List.replicate w.length 0 := mr_zero fun j hj => by
    obtain ⟨k, _, ek⟩ := letter_of hW hj
    rw [if_neg (by rw [ek]; omega)]
  refine ⟨⟨by omega, by omega, trivial⟩, ?_⟩
  refine loop_okF (T := tab [c_chords, c_places]) [0, 3, 11, 12] [(16, 160)] (fun i : Nat => ⟨31, [(0, ri w), (3, ow 16), (11, vi n), (12, vi i)], [(16, rwn 3 (mtL w i))]⟩)
    (fun i => i ≤ n) (fun i => n - i) 0 rfl (by rw [h0]; rfl) (Nat.zero_le _) (fun i hi => ?_)
  have hml : (mtL w i).length = w.length := mr_len _ _
  simp only [go_sem, ↓brB_t, ↓brB_f, Nat.reduceAdd, Int.reduceLE, Int.reduceLT, Int.reduceNeg, decide_true, decide_false, Bool.and_self, Nat.succ_eq_add_one, Int.toNat_natCast, Nat.beq_refl, Bool.and_true, Bool.true_and, Bool.false_or, Bool.or_true, List.all_cons, List.all_nil, Nat.reduceMul, Nat.add_zero, Nat.zero_add, List.length_nil, List.length_cons, dite_true, List.nil_append, Nat.reduceBEq, reduceDIte, reduceIte, reduceCtorEq, Bool.or_false, Bool.true_or, Bool.and_false, Bool.false_and, Bool.not_true, Bool.not_false, Option.isSome_some, Option.isSome_none, Option.getD_some, List.getElem?_cons_zero, List.getElem?_cons_succ, eq_self, and_self, List.take_succ_cons, List.take_zero, List.drop_succ_cons, List.drop_zero]
  refine brB_intro (fun h1 => ?_) (fun h1 => ?_)
  · have h1 := of_decide_eq_true h1
    obtain ⟨a, b, ab, bl, p1, p2, wa, wb, only⟩ := chord_of hW (j := i) (by omega)
    rw [p1, p2, Int.toNat_natCast, Int.toNat_natCast, List.length_set, hml, mtL_step ab bl p1 p2 wa wb only, show w64 ((i : Int) + 1) = ((i + 1 : Nat) : Int) from wN (by omega) (by omega)]
    exact ⟨⟨by omega, hW.two i (by omega)⟩, ⟨by omega, by omega⟩, ⟨by omega, by omega⟩, i + 1, [(16, 16)], by omega, by omega, rfl, rfl⟩
  · have h1 := of_decide_eq_false h1
    have e : i = n := by omega
    subst e
    exact retN [16] rfl hK
def c_mates : Ctr Try.prog := ⟨178, ent Try.func178 rfl rfl, [], sp_mates, good_mates⟩
@[go_sem] theorem c_mates_f : c_mates.f = 178 := rfl
@[go_sem] theorem c_mates_ms : c_mates.ms = [] := rfl
@[go_sem] theorem c_mates_sp : c_mates.spec = sp_mates := rfl
attribute [go_sem] sp_mates
def stepF (l : List Int) (x : Nat) : Nat := (l.getD x 0).toNat
def okS (l : List Int) (x : Nat) : Prop := 0 ≤ l.getD x 0 ∧ l.getD x 0 < (l.length : Int)
theorem okS_step {l : List Int} {x : Nat} (h : okS l x) : stepF l x < l.length ∧ l.getD x 0 = ((stepF l x : Nat) : Int) := by
  unfold okS at h
  unfold stepF
  omega
def sp_cycles : List Cv → List Obj' → Tree
  | [.one (.ro (.int .i64) l)], [] => .need (l.length ≤ 1000000 ∧ ∀ x, x < l.length → okS l x) (.ret (vi (cntF (stepF l) l.length (List.replicate l.length false) 0 : Nat)) [])
  | _, _ => .fail
set_option maxHeartbeats 4000000 in
set_option maxRecDepth 100000 in
theorem good_cycles : Good Try.prog 179 sp_cycles := by
  refine good_ofF Try.func179 rfl _ rfl _ rfl (tab []) (fun X cs os0 K hok hos hK => ?_)
  clear hos; unfold sp_cycles at hK
  split at hK
  case h_2 => exact hK.elim
  rename_i l
  refine ⟨by simp, by simp, ?_⟩
  simp only [go_sem] at hK hok
  simp (maxSteps := 4000000) only [go_sem, Try.f179, ↓brB_t, ↓brB_f, Nat.reduceAdd, Int.reduceLE, Int.reduceLT, Int.reduceNeg, decide_true, decide_false, Bool.and_self, Nat.succ_eq_add_one, Int.toNat_natCast, Nat.beq_refl, Bool.and_true, Bool.true_and, Bool.false_or, Bool.or_true, List.all_cons, List.all_nil, Nat.reduceMul, Nat.add_zero, Nat.zero_add, List.length_nil, List.length_cons, dite_true, List.nil_append, Nat.reduceBEq, reduceDIte, reduceIte, reduceCtorEq, Bool.or_false, Bool.true_or, Bool.and_false, Bool.false_and, Bool.not_true, Bool.not_false, Option.isSome_some, Option.isSome_none, Option.getD_some, List.getElem?_cons_zero, List.getElem?_cons_succ, eq_self, and_self, List.take_succ_cons, List.take_zero, List.drop_succ_cons, List.drop_zero]
  obtain ⟨⟨hl, hr⟩, hK⟩ := hK
  clear hok
  refine ⟨⟨by omega, by omega, trivial⟩, ?_⟩
  refine loop_okF (T := tab []) [0, 3, 4, 11, 12] [(16, 160)] (fun x : Nat × Nat × List Bool => ⟨36, [(0, ri l), (3, ow 16), (4, vi x.2.1), (11, vi l.length), (12, vi x.1)], [(16, rwb x.2.2)]⟩)
    (fun x => x.1 ≤ l.length ∧ x.2.1 ≤ x.1 ∧ x.2.2.length = l.length ∧ x.2.1 + cntF (stepF l) (l.length - x.1) x.2.2 x.1 = cntF (stepF l) l.length (List.replicate l.length false) 0) (fun x => l.length - x.1) (0, 0, List.replicate l.length false) rfl rfl ⟨Nat.zero_le _, Nat.le_refl _, List.length_replicate, by show 0 + cntF _ (l.length - 0) _ 0 = _; rw [Nat.sub_zero, Nat.zero_add]⟩ (fun x hi => ?_)
  obtain ⟨s, c, S⟩ := x
  have hs : s ≤ l.length := hi.1
  have hc : c ≤ s := hi.2.1
  have hsl : S.length = l.length := hi.2.2.1
  have ht : c + cntF (stepF l) (l.length - s) S s = cntF (stepF l) l.length (List.replicate l.length false) 0 := hi.2.2.2
  clear hi
  simp only [go_sem, ↓brB_t, ↓brB_f, Nat.reduceAdd, Int.reduceLE, Int.reduceLT, Int.reduceNeg, decide_true, decide_false, Bool.and_self, Nat.succ_eq_add_one, Int.toNat_natCast, Nat.beq_refl, Bool.and_true, Bool.true_and, Bool.false_or, Bool.or_true, List.all_cons, List.all_nil, Nat.reduceMul, Nat.add_zero, Nat.zero_add, List.length_nil, List.length_cons, dite_true, List.nil_append, Nat.reduceBEq, reduceDIte, reduceIte, reduceCtorEq, Bool.or_false, Bool.true_or, Bool.and_false, Bool.false_and, Bool.not_true, Bool.not_false, Option.isSome_some, Option.isSome_none, Option.getD_some, List.getElem?_cons_zero, List.getElem?_cons_succ, eq_self, and_self, List.take_succ_cons, List.take_zero, List.drop_succ_cons, List.drop_zero]
  refine brB_intro (fun h1 => ?_) (fun h1 => ?_)
  · have h1 := of_decide_eq_true h1
    have ws : w64 ((s : Int) + 1) = ((s + 1 : Nat) : Int) := wN (by omega) (by omega)
    obtain ⟨d, hd⟩ : ∃ d, l.length - s = d + 1 := ⟨l.length - s - 1, by omega⟩
    refine ⟨⟨by omega, by rw [hsl]; omega⟩, brB_intro (fun h2 => ?_) (fun h2 => ?_)⟩
    · rw [ws]
      refine ⟨(s + 1, c, S), [(16, 16)], ⟨by show s + 1 ≤ _; omega, by show c ≤ s + 1; omega, hsl, ?_⟩, by show _ - (s + 1) < _ - s; omega, rfl, rfl⟩
      rw [← ht]
      show c + cntF (stepF l) (l.length - (s + 1)) S (s + 1) = c + cntF (stepF l) (l.length - s) S s
      rw [hd, cntF_skip h2, show l.length - (s + 1) = d by omega]
    · rw [show w64 ((c : Int) + 1) = ((c + 1 : Nat) : Int) from wN (by omega) (by omega)]
      have ht : c + 1 + cntF (stepF l) (l.length - (s + 1)) (trailC (stepF l) S s) (s + 1) = cntF (stepF l) l.length (List.replicate l.length false) 0 := by
        rw [← ht]
        rw [hd, cntF_new h2, show l.length - (s + 1) = d by omega]; omega
      refine loop_okF (T := tab []) [0, 3, 4, 6, 11, 12] [(16, 16)] (fun x : Nat × List Bool => ⟨36, [(0, ri l), (3, ow 16), (4, vi (c + 1 : Nat)), (6, vi x.1), (11, vi l.length), (12, vi s)], [(16, rwb x.2)]⟩)
        (fun x => x.1 < l.length ∧ x.2.length = l.length ∧ trailC (stepF l) x.2 x.1 = trailC (stepF l) S s) (fun x => x.2.count false) (s, S) rfl rfl ⟨by omega, hsl, rfl⟩ (fun x hi => ?_)
      obtain ⟨a, S'⟩ := x
      obtain ⟨ha, hl', he⟩ := hi
      have ha' : a < l.length := ha
      have hl'' : S'.length = l.length := hl'
      have hst := (okS_step (hr a ha')).1
      have e := (okS_step (hr a ha')).2
      simp only [go_sem, ↓brB_t, ↓brB_f, Nat.reduceAdd, Int.reduceLE, Int.reduceLT, Int.reduceNeg, decide_true, decide_false, Bool.and_self, Nat.succ_eq_add_one, Int.toNat_natCast, Nat.beq_refl, Bool.and_true, Bool.true_and, Bool.false_or, Bool.or_true, List.all_cons, List.all_nil, Nat.reduceMul, Nat.add_zero, Nat.zero_add, List.length_nil, List.length_cons, dite_true, List.nil_append, Nat.reduceBEq, reduceDIte, reduceIte, reduceCtorEq, Bool.or_false, Bool.true_or, Bool.and_false, Bool.false_and, Bool.not_true, Bool.not_false, Option.isSome_some, Option.isSome_none, Option.getD_some, List.getElem?_cons_zero, List.getElem?_cons_succ, eq_self, and_self, List.take_succ_cons, List.take_zero, List.drop_succ_cons, List.drop_zero]
      refine ⟨⟨by omega, by rw [hl'']; omega⟩, brB_intro (fun h3 => ?_) (fun h3 => ?_)⟩
      · have h3 : S'.getD a false = false := by simpa using h3
        rw [e, hl'']
        refine ⟨⟨by omega, by omega⟩, ⟨by omega, by omega⟩, (stepF l a, S'.set a true), [(16, 16)], ⟨by show stepF l a < _; omega, by simpa using hl'', ?_⟩, count_m1 ⟨by rw [hl'']; exact ha', h3⟩, rfl, rfl⟩
        exact (trailC_go (by rw [hl'']; exact ha') h3).symm.trans he
      · have h3 : S'.getD a false = true := by simpa using h3
        have he : S' = trailC (stepF l) S s := (trailC_end h3).symm.trans he
        rw [ws]
        refine ⟨(s + 1, c + 1, S'), [(16, 16)], ⟨by show s + 1 ≤ _; omega, by show c + 1 ≤ s + 1; omega, hl'', ?_⟩, by show _ - (s + 1) < _ - s; omega, rfl, rfl⟩
        show c + 1 + cntF (stepF l) (l.length - (s + 1)) S' (s + 1) = _
        rw [he]; exact ht
  · have h1 := of_decide_eq_false h1
    rw [show l.length - s = 0 by omega] at ht
    have ht : c = cntF (stepF l) l.length (List.replicate l.length false) 0 := ht
    rw [← ht] at hK
    exact ret0 hK
def c_cycles : Ctr Try.prog := ⟨179, ent Try.func179 rfl rfl, [], sp_cycles, good_cycles⟩
@[go_sem] theorem c_cycles_f : c_cycles.f = 179 := rfl
@[go_sem] theorem c_cycles_ms : c_cycles.ms = [] := rfl
@[go_sem] theorem c_cycles_sp : c_cycles.spec = sp_cycles := rfl
attribute [go_sem] sp_cycles
def nxL (w : List Int) (i : Nat) : List Int := mr w.length fun x => if x < i then ((nx w x : Nat) : Int) else ((mt w x : Nat) : Int)
def sp_borders : List Cv → List Obj' → Tree
  | [.one (.ro (.int .i64) w)], [] => .need (isW w = true) (.ret (vi (circ w no : Nat)) [])
  | _, _ => .fail
set_option maxHeartbeats 4000000 in
set_option maxRecDepth 100000 in
theorem good_borders : Good Try.prog 150 sp_borders := by
  refine good_ofF Try.func150 rfl _ rfl _ rfl (tab [c_mates, c_cycles]) (fun X cs os0 K hok hos hK => ?_)
  clear hos; unfold sp_borders at hK
  split at hK
  case h_2 => exact hK.elim
  rename_i w
  refine ⟨by simp, by simp, ?_⟩
  simp only [go_sem] at hK hok
  simp (maxSteps := 4000000) only [go_sem, Try.f150, ↓brB_t, ↓brB_f, Nat.reduceAdd, Int.reduceLE, Int.reduceLT, Int.reduceNeg, decide_true, decide_false, Bool.and_self, Nat.succ_eq_add_one, Int.toNat_natCast, Nat.beq_refl, Bool.and_true, Bool.true_and, Bool.false_or, Bool.or_true, List.all_cons, List.all_nil, Nat.reduceMul, Nat.add_zero, Nat.zero_add, List.length_nil, List.length_cons, dite_true, List.nil_append, Nat.reduceBEq, reduceDIte, reduceIte, reduceCtorEq, Bool.or_false, Bool.true_or, Bool.and_false, Bool.false_and, Bool.not_true, Bool.not_false, Option.isSome_some, Option.isSome_none, Option.getD_some, List.getElem?_cons_zero, List.getElem?_cons_succ, eq_self, and_self, List.take_succ_cons, List.take_zero, List.drop_succ_cons, List.drop_zero]
  obtain ⟨hw, hK⟩ := hK
  clear hok
  obtain ⟨w1, w2⟩ := Go.Proofs.Ytokakggilajjlaa.L.word_range hw
  obtain ⟨n, hW⟩ := Go.Proofs.Ytokakggilajjlaa.L.word_of w hw
  have hn := hW.len
  have hn2 : w.length / 2 = n := by omega
  have h0 : mtL w n = nxL w 0 := mr_eq fun j hj => by
    obtain ⟨k, hk, ek⟩ := letter_of hW hj
    rw [if_pos (by rw [ek]; omega), if_neg (by omega)]
  rw [hn2, h0]
  have hml : ∀ i, (nxL w i).length = w.length := fun i => mr_len _ _
  rw [hml]
  refine ⟨hw, ?_⟩
  refine loop_okF (T := tab [c_mates, c_cycles]) [0, 3, 8, 9] [(16, 112)] (fun i : Nat => ⟨27, [(0, ri w), (3, ow 16), (8, vi w.length), (9, vi i)], [(16, rwn 3 (nxL w i))]⟩)
    (fun i => i ≤ w.length) (fun i => w.length - i) 0 rfl rfl (Nat.zero_le _) (fun i hi => ?_)
  simp only [go_sem, ↓brB_t, ↓brB_f, Nat.reduceAdd, Int.reduceLE, Int.reduceLT, Int.reduceNeg, decide_true, decide_false, Bool.and_self, Nat.succ_eq_add_one, Int.toNat_natCast, Nat.beq_refl, Bool.and_true, Bool.true_and, Bool.false_or, Bool.or_true, List.all_cons, List.all_nil, Nat.reduceMul, Nat.add_zero, Nat.zero_add, List.length_nil, List.length_cons, dite_true, List.nil_append, Nat.reduceBEq, reduceDIte, reduceIte, reduceCtorEq, Bool.or_false, Bool.true_or, Bool.and_false, Bool.false_and, Bool.not_true, Bool.not_false, Option.isSome_some, Option.isSome_none, Option.getD_some, List.getElem?_cons_zero, List.getElem?_cons_succ, eq_self, and_self, List.take_succ_cons, List.take_zero, List.drop_succ_cons, List.drop_zero]
  rw [hml]
  refine brB_intro (fun h1 => ?_) (fun h1 => ?_)
  · have h1 := of_decide_eq_true h1
    have hm := mt_ok hW (x := i) (by omega)
    have eg : (nxL w i).getD i 0 = ((mt w i : Nat) : Int) := by
      unfold nxL; rw [mr_get (by omega), if_neg (Nat.lt_irrefl i)]
    have es : (nxL w i).set i ((nx w i : Nat) : Int) = nxL w (i + 1) := by
      have := mr_set (M := w.length) (i := i) (p := fun x => if x < i then ((nx w x : Nat) : Int) else ((mt w x : Nat) : Int)) (q := fun x => if x < i + 1 then ((nx w x : Nat) : Int) else ((mt w x : Nat) : Int)) (fun j _ hj => by
        show (if _ then _ else _) = (if _ then _ else _)
        by_cases h : j < i
        · rw [if_pos h, if_pos (by omega)]
        · rw [if_neg h, if_neg (by omega)])
      rw [if_pos (Nat.lt_succ_self i)] at this
      exact this
    have en : nx w i = (mt w i + 1) % w.length := by rw [nx, if_pos (by omega)]
    rw [eg, show w64 (((mt w i : Nat) : Int) + 1) = ((mt w i + 1 : Nat) : Int) from wN (by omega) (by omega), tN, ← en, es, show w64 ((i : Int) + 1) = ((i + 1 : Nat) : Int) from wN (by omega) (by omega)]
    exact ⟨⟨by omega, by omega⟩, by omega, ⟨by omega, by omega⟩, i + 1, [(16, 16)], by omega, by omega, rfl, rfl⟩
  · have h1 := of_decide_eq_false h1
    have e : i = w.length := by omega
    subst e
    have ef : stepF (nxL w w.length) = nx w := by
      funext x
      unfold stepF
      by_cases hx : x < w.length
      · unfold nxL; rw [mr_get hx, if_pos hx, Int.toNat_natCast]
      · rw [gD_out (by rw [hml]; omega), nx, if_neg hx]; rfl
    have hb := nx_bck hW
    have hcc := circ_cycles hW
    rw [hcc] at hK
    refine ⟨⟨by omega, fun x hx => ?_⟩, ret0 ?_⟩
    · have := hb.fl x hx
      unfold okS
      rw [hml]
      unfold nxL
      rw [mr_get hx, if_pos hx]
      omega
    · rw [ef]
      generalize cntF (nx w) w.length (List.replicate w.length false) 0 = c at *
      have e : mx (c : Int) 1 = (mx1 c : Nat) := by unfold mx mx1; split <;> split <;> omega
      rw [e]; exact hK
def c_borders : Ctr Try.prog := ⟨150, ent Try.func150 rfl rfl, [], sp_borders, good_borders⟩
@[go_sem] theorem c_borders_f : c_borders.f = 150 := rfl
@[go_sem] theorem c_borders_ms : c_borders.ms = [] := rfl
@[go_sem] theorem c_borders_sp : c_borders.spec = sp_borders := rfl
attribute [go_sem] sp_borders
end Go.Proofs.Ytokakggilajjlaa.V
