/- Contracts: border circles by the reference. Conditions: told by each spec. -/
import Derived.Test.YtihfncjpfgdhoaaVC2
set_option linter.unusedVariables false
set_option linter.unusedSimpArgs false
namespace Go.Proofs.Ytihfncjpfgdhoaa.V
open Go
def sp_circlesS : List Cv → List Obj' → Tree
  | [.one (.ro (.int .i64) w), .one (.ro .bool tw)], [] => .need (isW w = true ∧ w.length / 2 ≤ (tw : List Bool).length) (.ret (vi (circ w (fun i => (tw : List Bool).getD i false) : Nat)) [])
  | _, _ => .fail
set_option maxHeartbeats 4000000 in
set_option maxRecDepth 100000 in
theorem good_circlesS : Good Try.prog 112 sp_circlesS := by
  refine good_ofF Try.func112 rfl _ rfl _ rfl (tab [c_l01Places]) (fun X cs os0 K hok hos hK => ?_)
  clear hos; unfold sp_circlesS at hK
  split at hK
  case h_2 => exact hK.elim
  rename_i w tw
  refine ⟨by simp, by simp, ?_⟩
  simp only [go_sem] at hK hok
  simp (maxSteps := 4000000) only [go_sem, Try.f112, ↓brB_t, ↓brB_f, Nat.reduceAdd, Int.reduceLE, Int.reduceLT, Int.reduceNeg, decide_true, decide_false, Bool.and_self, Nat.succ_eq_add_one, Int.toNat_natCast, Nat.beq_refl, Bool.and_true, Bool.true_and, Bool.false_or, Bool.or_true, List.all_cons, List.all_nil, Nat.reduceMul, Nat.add_zero, Nat.zero_add, List.length_nil, List.length_cons, dite_true, List.nil_append, Nat.reduceBEq, reduceDIte, reduceIte, reduceCtorEq, Bool.or_false, Bool.true_or, Bool.and_false, Bool.false_and, Bool.not_true, Bool.not_false, Option.isSome_some, Option.isSome_none, Option.getD_some, List.getElem?_cons_zero, List.getElem?_cons_succ, eq_self, and_self, List.take_succ_cons, List.take_zero, List.drop_succ_cons, List.drop_zero]
  obtain ⟨⟨hw, htw⟩, hK⟩ := hK
  clear hok
  obtain ⟨w1, w2⟩ := Go.Proofs.Ytihfncjpfgdhoaa.L.word_range hw
  obtain ⟨n, hW⟩ := Go.Proofs.Ytihfncjpfgdhoaa.L.word_of w hw
  have hn := hW.len
  have e2 : w64 (2 * (w.length : Int)) = ((2 * w.length : Nat) : Int) := wN (by omega) (by omega)
  rw [e2]
  refine brB_intro (fun h0 => ret0 ?_) (fun h0 => ?_)
  · have h0 := of_decide_eq_true h0
    unfold circ at hK
    rw [if_pos (by omega)] at hK; exact hK
  have h0 := of_decide_eq_false h0
  refine ⟨⟨by omega, by omega, trivial⟩, ?_⟩
  refine loop_okF (T := tab [c_l01Places]) [0, 1, 5, 6, 7] [(16, 336)] (fun i : Nat => ⟨141, [(0, ri w), (1, .val (.one (.ro .bool tw))), (5, vi w.length), (6, ow 16), (7, vi i)], [(16, rwi (bandI w (fun i => (tw : List Bool).getD i false) i))]⟩)
    (fun i => i ≤ n) (fun i => n - i) 0 rfl rfl (Nat.zero_le _) (fun i hi => ?_)
  have hbl := bandI_len w (fun i => (tw : List Bool).getD i false) i
  simp only [go_sem, ↓brB_t, ↓brB_f, Nat.reduceAdd, Int.reduceLE, Int.reduceLT, Int.reduceNeg, decide_true, decide_false, Bool.and_self, Nat.succ_eq_add_one, Int.toNat_natCast, Nat.beq_refl, Bool.and_true, Bool.true_and, Bool.false_or, Bool.or_true, List.all_cons, List.all_nil, Nat.reduceMul, Nat.add_zero, Nat.zero_add, List.length_nil, List.length_cons, dite_true, List.nil_append, Nat.reduceBEq, reduceDIte, reduceIte, reduceCtorEq, Bool.or_false, Bool.true_or, Bool.and_false, Bool.false_and, Bool.not_true, Bool.not_false, Option.isSome_some, Option.isSome_none, Option.getD_some, List.getElem?_cons_zero, List.getElem?_cons_succ, eq_self, and_self, List.take_succ_cons, List.take_zero, List.drop_succ_cons, List.drop_zero]
  rw [half (by omega)]
  refine ⟨by decide, brB_intro (fun h1 => ?_) (fun h1 => ?_)⟩
  · have h1 := of_decide_eq_true h1
    obtain ⟨a, b, ab, bl, p1, p2, _⟩ := chord_of hW (j := i) (by omega)
    rw [p1, p2]
    have f1 : w64 (2 * (a : Int)) = ((2 * a : Nat) : Int) := wN (by omega) (by omega)
    have f2 : w64 (2 * (b : Int)) = ((2 * b : Nat) : Int) := wN (by omega) (by omega)
    have f3 : w64 (((2 * a : Nat) : Int) + 1) = ((2 * a + 1 : Nat) : Int) := wN (by omega) (by omega)
    have f4 : w64 (((2 * b : Nat) : Int) + 1) = ((2 * b + 1 : Nat) : Int) := wN (by omega) (by omega)
    have wi : w64 ((i : Int) + 1) = ((i + 1 : Nat) : Int) := wN (by omega) (by omega)
    have eb : band1 ((tw : List Bool).getD i false) a b (bandI w (fun i => (tw : List Bool).getD i false) i) = bandI w (fun i => (tw : List Bool).getD i false) (i + 1) := by
      rw [bandI, p1, p2, Int.toNat_natCast, Int.toNat_natCast]
    rw [f1, f2, f3, f4, wi]
    refine ⟨⟨by omega, hW.two i (by omega)⟩, ⟨by omega, by omega⟩, brB_intro (fun h2 => ?_) (fun h2 => ?_)⟩
    · simp only [List.length_set, hbl]
      have h2 : (tw : List Bool).getD i false = true := h2
      rw [h2] at eb
      refine ⟨⟨by omega, by omega⟩, ⟨by omega, by omega⟩, ⟨by omega, by omega⟩, ⟨by omega, by omega⟩, i + 1, [(16, 16)], by omega, by omega, rfl, ?_⟩
      rw [← eb]; rfl
    · simp only [List.length_set, hbl]
      have h2 : (tw : List Bool).getD i false = false := h2
      rw [h2] at eb
      refine ⟨⟨by omega, by omega⟩, ⟨by omega, by omega⟩, ⟨by omega, by omega⟩, ⟨by omega, by omega⟩, i + 1, [(16, 16)], by omega, by omega, rfl, ?_⟩
      rw [← eb]; rfl
  · have h1 := of_decide_eq_false h1
    have e : i = n := by omega
    subst e
    have hb := fun (t : Nat) (ht : t < 2 * w.length) => band_all hW (fun i => (tw : List Bool).getD i false) ht
    have hp := bp_flip hW (fun i => (tw : List Bool).getD i false)
    have hq := rng_flip w.length
    unfold circ at hK
    rw [if_neg (by omega)] at hK
    rw [e2]
    generalize bandI w (fun i => (tw : List Bool).getD i false) i = B at *
    generalize bp w (fun i => (tw : List Bool).getD i false) = p at *
    refine ⟨⟨by omega, by omega, trivial⟩, ?_⟩
    refine loop_okF (T := tab [c_l01Places]) [5, 6, 10, 11, 12] [(16, 16), (18, 1536)] (fun x : Nat × Nat × List Bool => ⟨141, [(5, vi w.length), (6, ow 16), (10, ow 18), (11, vi x.2.1), (12, vi x.1)], [(16, rwi B), (18, rwb x.2.2)]⟩)
      (fun x => x.1 ≤ 2 * w.length ∧ x.2.1 ≤ x.1 ∧ x.2.2.length = 2 * w.length ∧ x.2.1 + cntC p (rng w.length) (2 * w.length - x.1) x.2.2 x.1 = cntC p (rng w.length) (2 * w.length) (List.replicate (2 * w.length) false) 0) (fun x => 2 * w.length - x.1) (0, 0, List.replicate (2 * w.length) false) rfl rfl ⟨Nat.zero_le _, Nat.le_refl _, by simp, by simp⟩ (fun x hi => ?_)
    obtain ⟨s, c, S⟩ := x
    have hs : s ≤ 2 * w.length := hi.1
    have hc : c ≤ s := hi.2.1
    have hl : S.length = 2 * w.length := hi.2.2.1
    have ht : c + cntC p (rng w.length) (2 * w.length - s) S s = cntC p (rng w.length) (2 * w.length) (List.replicate (2 * w.length) false) 0 := hi.2.2.2
    clear hi
    simp only [go_sem, ↓brB_t, ↓brB_f, Nat.reduceAdd, Int.reduceLE, Int.reduceLT, Int.reduceNeg, decide_true, decide_false, Bool.and_self, Nat.succ_eq_add_one, Int.toNat_natCast, Nat.beq_refl, Bool.and_true, Bool.true_and, Bool.false_or, Bool.or_true, List.all_cons, List.all_nil, Nat.reduceMul, Nat.add_zero, Nat.zero_add, List.length_nil, List.length_cons, dite_true, List.nil_append, Nat.reduceBEq, reduceDIte, reduceIte, reduceCtorEq, Bool.or_false, Bool.true_or, Bool.and_false, Bool.false_and, Bool.not_true, Bool.not_false, Option.isSome_some, Option.isSome_none, Option.getD_some, List.getElem?_cons_zero, List.getElem?_cons_succ, eq_self, and_self, List.take_succ_cons, List.take_zero, List.drop_succ_cons, List.drop_zero]
    rw [e2]
    refine brB_intro (fun h1 => ?_) (fun h1 => ?_)
    · have h1 := of_decide_eq_true h1
      have ws : w64 ((s : Int) + 1) = ((s + 1 : Nat) : Int) := wN (by omega) (by omega)
      obtain ⟨d, hd⟩ : ∃ d, 2 * w.length - s = d + 1 := ⟨2 * w.length - s - 1, by omega⟩
      refine ⟨⟨by omega, by rw [hl]; omega⟩, brB_intro (fun h2 => ?_) (fun h2 => ?_)⟩
      · rw [ws]
        refine ⟨(s + 1, c, S), [(16, 16), (18, 18)], ⟨by show s + 1 ≤ _; omega, by show c ≤ s + 1; omega, hl, ?_⟩, by show _ - (s + 1) < _ - s; omega, rfl, rfl⟩
        rw [← ht]
        show c + cntC p (rng w.length) (2 * w.length - (s + 1)) S (s + 1) = c + cntC p (rng w.length) (2 * w.length - s) S s
        rw [hd, cnt_skip h2, show 2 * w.length - (s + 1) = d by omega]
      · rw [show w64 ((c : Int) + 1) = ((c + 1 : Nat) : Int) from wN (by omega) (by omega)]
        have ht : c + 1 + cntC p (rng w.length) (2 * w.length - (s + 1)) (trail p (rng w.length) S s) (s + 1) = cntC p (rng w.length) (2 * w.length) (List.replicate (2 * w.length) false) 0 := by
          rw [← ht]
          rw [hd, cnt_new h2, show 2 * w.length - (s + 1) = d by omega]; omega
        refine loop_okF (T := tab [c_l01Places]) [5, 6, 10, 11, 12, 13] [(16, 16), (18, 18)] (fun x : Nat × List Bool => ⟨141, [(5, vi w.length), (6, ow 16), (10, ow 18), (11, vi (c + 1 : Nat)), (12, vi s), (13, vi x.1)], [(16, rwi B), (18, rwb x.2)]⟩)
          (fun x => x.1 < 2 * w.length ∧ x.2.length = 2 * w.length ∧ trail p (rng w.length) x.2 x.1 = trail p (rng w.length) S s) (fun x => x.2.count false) (s, S) rfl rfl ⟨by omega, hl, rfl⟩ (fun x hi => ?_)
        obtain ⟨a, S'⟩ := x
        obtain ⟨ha, hl', he⟩ := hi
        have ha' : a < 2 * w.length := ha
        have hb' := hb a ha'
        have hpa := hp.lt a ha'
        have hl'' : S'.length = 2 * w.length := hl'
        simp only [go_sem, ↓brB_t, ↓brB_f, Nat.reduceAdd, Int.reduceLE, Int.reduceLT, Int.reduceNeg, decide_true, decide_false, Bool.and_self, Nat.succ_eq_add_one, Int.toNat_natCast, Nat.beq_refl, Bool.and_true, Bool.true_and, Bool.false_or, Bool.or_true, List.all_cons, List.all_nil, Nat.reduceMul, Nat.add_zero, Nat.zero_add, List.length_nil, List.length_cons, dite_true, List.nil_append, Nat.reduceBEq, reduceDIte, reduceIte, reduceCtorEq, Bool.or_false, Bool.true_or, Bool.and_false, Bool.false_and, Bool.not_true, Bool.not_false, Option.isSome_some, Option.isSome_none, Option.getD_some, List.getElem?_cons_zero, List.getElem?_cons_succ, eq_self, and_self, List.take_succ_cons, List.take_zero, List.drop_succ_cons, List.drop_zero]
        refine ⟨⟨by omega, by rw [hl'']; omega⟩, brB_intro (fun h3 => ?_) (fun h3 => ?_)⟩
        · have h3 : S'.getD a false = false := by simpa using h3
          rw [hb', Int.toNat_natCast, List.length_set, hbl, hl'', e2]
          rw [show ((p a : Nat) : Int).tmod 2 = ((p a % 2 : Nat) : Int) from tN (p a) 2]
          have hm := count_mk (S := S') (a := a) (b := p a) ⟨by rw [hl'']; exact ha', h3⟩
          have hg := (trail_go (p := p) (r := rng w.length) (S := S') (a := a) (by rw [hl'']; exact ha') h3).symm.trans he
          have hlt := hq.lt _ hpa
          refine ⟨⟨by omega, by omega⟩, ⟨by omega, by omega⟩, ⟨by omega, by omega⟩, by decide, brB_intro (fun h4 => ?_) (fun h4 => ?_)⟩
          · have h4 := of_decide_eq_true h4
            rw [show w64 (((p a : Nat) : Int) + 1) = ((p a + 1 : Nat) : Int) from wN (by omega) (by omega), tN]
            have er : (p a + 1) % (2 * w.length) = rng w.length (p a) := by rw [rng, if_pos (by omega)]
            rw [er]
            exact ⟨by omega, (rng w.length (p a), (S'.set a true).set (p a) true), [(16, 16), (18, 18)], ⟨hlt, by simpa using hl'', hg⟩, hm, rfl, rfl⟩
          · have h4 := of_decide_eq_false h4
            rw [show w64 (((p a : Nat) : Int) + ((2 * w.length : Nat) : Int)) = ((p a + 2 * w.length : Nat) : Int) from wN (by omega) (by omega), show w64 (((p a + 2 * w.length : Nat) : Int) - 1) = ((p a + 2 * w.length - 1 : Nat) : Int) from wN (by omega) (by omega), tN]
            have er : (p a + 2 * w.length - 1) % (2 * w.length) = rng w.length (p a) := by rw [rng, if_neg (by omega)]
            rw [er]
            exact ⟨by omega, (rng w.length (p a), (S'.set a true).set (p a) true), [(16, 16), (18, 18)], ⟨hlt, by simpa using hl'', hg⟩, hm, rfl, rfl⟩
        · have h3 : S'.getD a false = true := by simpa using h3
          have he : S' = trail p (rng w.length) S s := (trail_end h3).symm.trans he
          rw [ws]
          refine ⟨(s + 1, c + 1, S'), [(16, 16), (18, 18)], ⟨by show s + 1 ≤ _; omega, by show c + 1 ≤ s + 1; omega, hl'', ?_⟩, by show _ - (s + 1) < _ - s; omega, rfl, rfl⟩
          show c + 1 + cntC p (rng w.length) (2 * w.length - (s + 1)) S' (s + 1) = _
          rw [he]; exact ht
    · have h1 := of_decide_eq_false h1
      rw [show 2 * w.length - s = 0 by omega] at ht
      have ht : c = cntC p (rng w.length) (2 * w.length) (List.replicate (2 * w.length) false) 0 := ht
      rw [← ht] at hK
      exact ret0 hK
def c_circlesS : Ctr Try.prog := ⟨112, ent Try.func112 rfl rfl, [], sp_circlesS, good_circlesS, []⟩
@[go_sem] theorem c_circlesS_f : c_circlesS.f = 112 := rfl
@[go_sem] theorem c_circlesS_ms : c_circlesS.ms = [] := rfl
@[go_sem] theorem c_circlesS_sp : c_circlesS.spec = sp_circlesS := rfl
@[go_sem] theorem c_circlesS_fz : c_circlesS.fz = [] := rfl
attribute [go_sem] sp_circlesS
end Go.Proofs.Ytihfncjpfgdhoaa.V
