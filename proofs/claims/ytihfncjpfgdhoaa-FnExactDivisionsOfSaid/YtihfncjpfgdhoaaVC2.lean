/- Contracts: border circles on both sides. Conditions: told by each spec. -/
import Derived.Test.YtihfncjpfgdhoaaVC1
set_option linter.unusedVariables false
set_option linter.unusedSimpArgs false
namespace Go.Proofs.Ytihfncjpfgdhoaa.V
open Go
abbrev rwn (t : Nat) (l : List Int) : Obj' := .row t (.int .i64) l
abbrev rwb (l : List Bool) : Obj' := .row 4 .bool l
theorem wN {x : Int} {n : Nat} (h : x = n) (hn : n ≤ 1099511627776) : w64 x = n := by rw [h, w64_id (by omega) (by omega)]
theorem tN (a b : Nat) : (a : Int).tmod (b : Int) = ((a % b : Nat) : Int) := (Int.ofNat_tmod a b).symm
/-- What the ring's table says when it is done. -/
theorem ring_all {m t : Nat} (ht : t < 2 * m) : (ringI m m).getD t 0 = (rng m t : Int) := ringI_get m (Nat.le_refl _) t ht (by omega)
theorem band_all {w : List Int} {n : Nat} (hw : Go.Proofs.Ytihfncjpfgdhoaa.L.Word w n) (tw : Nat → Bool) {t : Nat} (ht : t < 2 * w.length) : (bandI w tw n).getD t 0 = (bp w tw t : Int) := by
  obtain ⟨j, hj, ej⟩ := letter_of hw (t := t / 2) (by omega)
  exact bandI_get hw tw n (Nat.le_refl _) t ht (by omega)
/-- Half of a chord's bands. -/
def bandH (a e0 e1 : Nat) (l : List Int) : Nat → List Int
  | 0 => l
  | 1 => (l.set (2 * a) (e0 : Int)).set e0 ((2 * a : Nat) : Int)
  | _ => (((l.set (2 * a) (e0 : Int)).set e0 ((2 * a : Nat) : Int)).set (2 * a + 1) (e1 : Int)).set e1 ((2 * a + 1 : Nat) : Int)
theorem bandH_len (a e0 e1 : Nat) (l : List Int) (k : Nat) : (bandH a e0 e1 l k).length = l.length := by
  unfold bandH; split <;> simp
def mx1 (n : Nat) : Nat := if n = 0 then 1 else n
def sp_circlesI : List Cv → List Obj' → Tree
  | [.one (.ro (.int .i64) w), .one (.pf [.int .i64] .bool f)], [] => .need (isW w = true ∧ ∀ i : Nat, i < w.length / 2 → (f ((i : Int), ())).isSome = true) (.ret (vi (circ w (fun i => tst f i) : Nat)) [])
  | _, _ => .fail
set_option maxHeartbeats 4000000 in
set_option maxRecDepth 100000 in
theorem good_circlesI : Good Try.prog 132 sp_circlesI := by
  refine good_ofF Try.func132 rfl _ rfl _ rfl (tab [c_chords, c_places]) (fun X cs os0 K hok hos hK => ?_)
  clear hos; unfold sp_circlesI at hK
  split at hK
  case h_2 => exact hK.elim
  rename_i w f
  refine ⟨by simp, by simp, ?_⟩
  simp only [go_sem] at hK hok
  simp (maxSteps := 4000000) only [go_sem, Try.f132, ↓brB_t, ↓brB_f, Nat.reduceAdd, Int.reduceLE, Int.reduceLT, Int.reduceNeg, decide_true, decide_false, Bool.and_self, Nat.succ_eq_add_one, Int.toNat_natCast, Nat.beq_refl, Bool.and_true, Bool.true_and, Bool.false_or, Bool.or_true, List.all_cons, List.all_nil, Nat.reduceMul, Nat.add_zero, Nat.zero_add, List.length_nil, List.length_cons, dite_true, List.nil_append, Nat.reduceBEq, reduceDIte, reduceIte, reduceCtorEq, Bool.or_false, Bool.true_or, Bool.and_false, Bool.false_and, Bool.not_true, Bool.not_false, Option.isSome_some, Option.isSome_none, Option.getD_some, List.getElem?_cons_zero, List.getElem?_cons_succ, eq_self, and_self, List.take_succ_cons, List.take_zero, List.drop_succ_cons, List.drop_zero]
  obtain ⟨⟨hw, hf⟩, hK⟩ := hK
  clear hok
  obtain ⟨w1, w2⟩ := Go.Proofs.Ytihfncjpfgdhoaa.L.word_range hw
  obtain ⟨n, hW⟩ := Go.Proofs.Ytihfncjpfgdhoaa.L.word_of w hw
  have hn := hW.len
  have e2 : w64 (2 * (w.length : Int)) = ((2 * w.length : Nat) : Int) := wN (by omega) (by omega)
  rw [e2]
  refine ⟨⟨by omega, by omega, trivial⟩, ⟨by omega, by omega, trivial⟩, by kernel_rfl, ?_⟩
  rw [Int.toNat_natCast]
  refine loop_okF (T := tab [c_chords, c_places]) [0, 1, 5, 6, 7, 27, 28] [(16, 384), (17, 416)] (fun i : Nat => ⟨136, [(0, ri w), (1, .val (.one (.pf [.int .i64] .bool f))), (5, vi (2 * w.length : Nat)), (6, ow 16), (7, ow 17), (27, vi w.length), (28, vi i)], [(16, rwn 3 (List.replicate (2 * w.length) 0)), (17, rwn 3 (ringI w.length i))]⟩)
    (fun i => i ≤ w.length) (fun i => w.length - i) 0 rfl rfl (Nat.zero_le _) (fun i hi => ?_)
  have hrl := ringI_len w.length i
  simp only [go_sem, ↓brB_t, ↓brB_f, Nat.reduceAdd, Int.reduceLE, Int.reduceLT, Int.reduceNeg, decide_true, decide_false, Bool.and_self, Nat.succ_eq_add_one, Int.toNat_natCast, Nat.beq_refl, Bool.and_true, Bool.true_and, Bool.false_or, Bool.or_true, List.all_cons, List.all_nil, Nat.reduceMul, Nat.add_zero, Nat.zero_add, List.length_nil, List.length_cons, dite_true, List.nil_append, Nat.reduceBEq, reduceDIte, reduceIte, reduceCtorEq, Bool.or_false, Bool.true_or, Bool.and_false, Bool.false_and, Bool.not_true, Bool.not_false, Option.isSome_some, Option.isSome_none, Option.getD_some, List.getElem?_cons_zero, List.getElem?_cons_succ, eq_self, and_self, List.take_succ_cons, List.take_zero, List.drop_succ_cons, List.drop_zero]
  refine brB_intro (fun h1 => ?_) (fun h1 => ?_)
  · have h1 := of_decide_eq_true h1
    rw [show w64 (2 * (i : Int)) = ((2 * i : Nat) : Int) from wN (by omega) (by omega), show w64 (((2 * i : Nat) : Int) + 1) = ((2 * i + 1 : Nat) : Int) from wN (by omega) (by omega),
      show w64 (((2 * i : Nat) : Int) + 2) = ((2 * i + 2 : Nat) : Int) from wN (by omega) (by omega), tN, Int.toNat_natCast, Int.toNat_natCast, List.length_set, hrl, show w64 ((i : Int) + 1) = ((i + 1 : Nat) : Int) from wN (by omega) (by omega)]
    have hlt : (2 * i + 2) % (2 * w.length) < 2 * w.length := Nat.mod_lt _ (by omega)
    exact ⟨by omega, ⟨by omega, by omega⟩, by omega, ⟨by omega, by omega⟩, i + 1, [(16, 16), (17, 17)], by omega, by omega, rfl, rfl⟩
  · have h1 := of_decide_eq_false h1
    have e : i = w.length := by omega
    subst e
    have hr := fun (t : Nat) (ht : t < 2 * w.length) => ring_all (m := w.length) ht
    generalize ringI w.length w.length = R at *
    refine loop_okF (T := tab [c_chords, c_places]) [0, 1, 5, 6, 7, 53, 54] [(16, 16), (17, 17)] (fun i : Nat => ⟨136, [(0, ri w), (1, .val (.one (.pf [.int .i64] .bool f))), (5, vi (2 * w.length : Nat)), (6, ow 16), (7, ow 17), (53, vi (w.length / 2 : Nat)), (54, vi i)], [(16, rwn 3 (bandI w (fun i => tst f i) i)), (17, rwn 3 R)]⟩)
      (fun i => i ≤ n) (fun i => n - i) 0 rfl rfl (Nat.zero_le _) (fun i hi => ?_)
    have hbl := bandI_len w (fun i => tst f i) i
    simp only [go_sem, ↓brB_t, ↓brB_f, Nat.reduceAdd, Int.reduceLE, Int.reduceLT, Int.reduceNeg, decide_true, decide_false, Bool.and_self, Nat.succ_eq_add_one, Int.toNat_natCast, Nat.beq_refl, Bool.and_true, Bool.true_and, Bool.false_or, Bool.or_true, List.all_cons, List.all_nil, Nat.reduceMul, Nat.add_zero, Nat.zero_add, List.length_nil, List.length_cons, dite_true, List.nil_append, Nat.reduceBEq, reduceDIte, reduceIte, reduceCtorEq, Bool.or_false, Bool.true_or, Bool.and_false, Bool.false_and, Bool.not_true, Bool.not_false, Option.isSome_some, Option.isSome_none, Option.getD_some, List.getElem?_cons_zero, List.getElem?_cons_succ, eq_self, and_self, List.take_succ_cons, List.take_zero, List.drop_succ_cons, List.drop_zero]
    refine brB_intro (fun h1 => ?_) (fun h1 => ?_)
    · have h1 := of_decide_eq_true h1
      obtain ⟨a, b, ab, bl, p1, p2, _⟩ := chord_of hW (j := i) (by omega)
      rw [p1, p2]
      refine ⟨⟨by omega, hW.two i (by omega)⟩, ?_⟩
      have f1 : w64 (2 * (a : Int)) = ((2 * a : Nat) : Int) := wN (by omega) (by omega)
      have f2 : w64 (2 * (b : Int)) = ((2 * b : Nat) : Int) := wN (by omega) (by omega)
      have f3 : w64 (((2 * a : Nat) : Int) + ((0 : Nat) : Int)) = ((2 * a : Nat) : Int) := wN (by omega) (by omega)
      have f4 : w64 (((2 * a : Nat) : Int) + ((1 : Nat) : Int)) = ((2 * a + 1 : Nat) : Int) := wN (by omega) (by omega)
      have f5 : w64 (((2 * b : Nat) : Int) + 1) = ((2 * b + 1 : Nat) : Int) := wN (by omega) (by omega)
      have wi : w64 ((i : Int) + 1) = ((i + 1 : Nat) : Int) := wN (by omega) (by omega)
      rw [f2, f5]
      refine ⟨hf i (by omega), brB_intro (fun h2 => ?_) (fun h2 => ?_)⟩
      · have ht : tst f i = true := h2
        refine loop_okF (T := tab [c_chords, c_places]) [0, 1, 5, 6, 7, 10, 53, 54, 78, 79] [(16, 16), (17, 17)] (fun k : Nat => ⟨136, [(0, ri w), (1, .val (.one (.pf [.int .i64] .bool f))), (5, vi (2 * w.length : Nat)), (6, ow 16), (7, ow 17), (10, vi a), (53, vi (w.length / 2 : Nat)), (54, vi i), (78, .val (.agg [.v (.int .i64 (2 * b : Nat)), .v (.int .i64 (2 * b + 1 : Nat))])), (79, vi k)], [(16, rwn 3 (bandH a (2 * b) (2 * b + 1) (bandI w (fun i => tst f i) i) k)), (17, rwn 3 R)]⟩)
          (fun k => k ≤ 2) (fun k => 2 - k) 0 rfl rfl (Nat.zero_le _) (fun k hk => ?_)
        have hhl := bandH_len a (2 * b) (2 * b + 1) (bandI w (fun i => tst f i) i) k
        simp only [go_sem, ↓brB_t, ↓brB_f, Nat.reduceAdd, Int.reduceLE, Int.reduceLT, Int.reduceNeg, decide_true, decide_false, Bool.and_self, Nat.succ_eq_add_one, Int.toNat_natCast, Nat.beq_refl, Bool.and_true, Bool.true_and, Bool.false_or, Bool.or_true, List.all_cons, List.all_nil, Nat.reduceMul, Nat.add_zero, Nat.zero_add, List.length_nil, List.length_cons, dite_true, List.nil_append, Nat.reduceBEq, reduceDIte, reduceIte, reduceCtorEq, Bool.or_false, Bool.true_or, Bool.and_false, Bool.false_and, Bool.not_true, Bool.not_false, Option.isSome_some, Option.isSome_none, Option.getD_some, List.getElem?_cons_zero, List.getElem?_cons_succ, eq_self, and_self, List.take_succ_cons, List.take_zero, List.drop_succ_cons, List.drop_zero]
        refine brB_intro (fun h3 => ?_) (fun h3 => ?_)
        · have h3 := of_decide_eq_true h3
          have hk2 : k = 0 ∨ k = 1 := by omega
          rw [f1]
          rcases hk2 with e | e
          · subst e
            refine ⟨⟨by omega, by omega⟩, brB_intro (fun h4 => ?_) (fun h4 => ?_)⟩
            · rw [f3, List.length_set, hhl]
              exact ⟨⟨by omega, by omega⟩, ⟨by omega, by omega⟩, 1, [(16, 16), (17, 17)], by omega, by omega, rfl, rfl⟩
            · exact absurd h4 (by decide)
          · subst e
            refine ⟨⟨by omega, by omega⟩, brB_intro (fun h4 => absurd h4 (by decide)) (fun h4 => brB_intro (fun h5 => ?_) (fun h5 => absurd h5 (by decide)))⟩
            rw [f4, List.length_set, hhl]
            exact ⟨⟨by omega, by omega⟩, ⟨by omega, by omega⟩, 2, [(16, 16), (17, 17)], by omega, by omega, rfl, rfl⟩
        · have h3 := of_decide_eq_false h3
          have e : k = 2 := by omega
          subst e
          rw [wi]
          refine ⟨i + 1, [(16, 16), (17, 17)], by omega, by omega, rfl, ?_⟩
          have eb : bandH a (2 * b) (2 * b + 1) (bandI w (fun i => tst f i) i) 2 = bandI w (fun i => tst f i) (i + 1) := by
            rw [bandI, p1, p2, Int.toNat_natCast, Int.toNat_natCast, ht]; rfl
          rw [eb]; rfl
      · have ht : tst f i = false := h2
        refine loop_okF (T := tab [c_chords, c_places]) [0, 1, 5, 6, 7, 10, 53, 54, 78, 79] [(16, 16), (17, 17)] (fun k : Nat => ⟨136, [(0, ri w), (1, .val (.one (.pf [.int .i64] .bool f))), (5, vi (2 * w.length : Nat)), (6, ow 16), (7, ow 17), (10, vi a), (53, vi (w.length / 2 : Nat)), (54, vi i), (78, .val (.agg [.v (.int .i64 (2 * b + 1 : Nat)), .v (.int .i64 (2 * b : Nat))])), (79, vi k)], [(16, rwn 3 (bandH a (2 * b + 1) (2 * b) (bandI w (fun i => tst f i) i) k)), (17, rwn 3 R)]⟩)
          (fun k => k ≤ 2) (fun k => 2 - k) 0 rfl rfl (Nat.zero_le _) (fun k hk => ?_)
        have hhl := bandH_len a (2 * b + 1) (2 * b) (bandI w (fun i => tst f i) i) k
        simp only [go_sem, ↓brB_t, ↓brB_f, Nat.reduceAdd, Int.reduceLE, Int.reduceLT, Int.reduceNeg, decide_true, decide_false, Bool.and_self, Nat.succ_eq_add_one, Int.toNat_natCast, Nat.beq_refl, Bool.and_true, Bool.true_and, Bool.false_or, Bool.or_true, List.all_cons, List.all_nil, Nat.reduceMul, Nat.add_zero, Nat.zero_add, List.length_nil, List.length_cons, dite_true, List.nil_append, Nat.reduceBEq, reduceDIte, reduceIte, reduceCtorEq, Bool.or_false, Bool.true_or, Bool.and_false, Bool.false_and, Bool.not_true, Bool.not_false, Option.isSome_some, Option.isSome_none, Option.getD_some, List.getElem?_cons_zero, List.getElem?_cons_succ, eq_self, and_self, List.take_succ_cons, List.take_zero, List.drop_succ_cons, List.drop_zero]
        refine brB_intro (fun h3 => ?_) (fun h3 => ?_)
        · have h3 := of_decide_eq_true h3
          have hk2 : k = 0 ∨ k = 1 := by omega
          rw [f1]
          rcases hk2 with e | e
          · subst e
            refine ⟨⟨by omega, by omega⟩, brB_intro (fun h4 => ?_) (fun h4 => ?_)⟩
            · rw [f3, List.length_set, hhl]
              exact ⟨⟨by omega, by omega⟩, ⟨by omega, by omega⟩, 1, [(16, 16), (17, 17)], by omega, by omega, rfl, rfl⟩
            · exact absurd h4 (by decide)
          · subst e
            refine ⟨⟨by omega, by omega⟩, brB_intro (fun h4 => absurd h4 (by decide)) (fun h4 => brB_intro (fun h5 => ?_) (fun h5 => absurd h5 (by decide)))⟩
            rw [f4, List.length_set, hhl]
            exact ⟨⟨by omega, by omega⟩, ⟨by omega, by omega⟩, 2, [(16, 16), (17, 17)], by omega, by omega, rfl, rfl⟩
        · have h3 := of_decide_eq_false h3
          have e : k = 2 := by omega
          subst e
          rw [wi]
          refine ⟨i + 1, [(16, 16), (17, 17)], by omega, by omega, rfl, ?_⟩
          have eb : bandH a (2 * b + 1) (2 * b) (bandI w (fun i => tst f i) i) 2 = bandI w (fun i => tst f i) (i + 1) := by
            rw [bandI, p1, p2, Int.toNat_natCast, Int.toNat_natCast, ht]; rfl
          rw [eb]; rfl
    · have h1 := of_decide_eq_false h1
      have e : i = n := by omega
      subst e
      have hb := fun (t : Nat) (ht : t < 2 * w.length) => band_all hW (fun i => tst f i) ht
      have hp := bp_flip hW (fun i => tst f i)
      have hq := rng_flip w.length
      have hpos := circ_pos w (fun i => tst f i)
      have hct : circ w (fun i => tst f i) = mx1 (cntC (bp w (fun i => tst f i)) (rng w.length) (2 * w.length) (List.replicate (2 * w.length) false) 0) := by
        unfold circ mx1; split
        · rename_i e; rw [e]; rfl
        · rename_i e
          unfold circ at hpos
          rw [if_neg e] at hpos
          rw [if_neg (by omega)]
      rw [hct] at hK
      clear hpos hct hf
      generalize bandI w (fun i => tst f i) i = B at *
      generalize bp w (fun i => tst f i) = p at *
      refine ⟨⟨by omega, by omega, trivial⟩, ?_⟩
      refine loop_okF (T := tab [c_chords, c_places]) [5, 6, 7, 15, 16, 101, 102] [(16, 16), (17, 17), (18, 1616)] (fun x : Nat × Nat × List Bool => ⟨136, [(5, vi (2 * w.length : Nat)), (6, ow 16), (7, ow 17), (15, ow 18), (16, vi x.2.1), (101, vi (2 * w.length : Nat)), (102, vi x.1)], [(16, rwn 3 B), (17, rwn 3 R), (18, rwb x.2.2)]⟩)
        (fun x => x.1 ≤ 2 * w.length ∧ x.2.1 ≤ x.1 ∧ x.2.2.length = 2 * w.length ∧ x.2.1 + cntC p (rng w.length) (2 * w.length - x.1) x.2.2 x.1 = cntC p (rng w.length) (2 * w.length) (List.replicate (2 * w.length) false) 0) (fun x => 2 * w.length - x.1) (0, 0, List.replicate (2 * w.length) false) rfl rfl ⟨Nat.zero_le _, Nat.le_refl _, by simp, by simp⟩ (fun x hi => ?_)
      obtain ⟨s, c, S⟩ := x
      have hs : s ≤ 2 * w.length := hi.1
      have hc : c ≤ s := hi.2.1
      have hl : S.length = 2 * w.length := hi.2.2.1
      have ht : c + cntC p (rng w.length) (2 * w.length - s) S s = cntC p (rng w.length) (2 * w.length) (List.replicate (2 * w.length) false) 0 := hi.2.2.2
      clear hi
      simp only [go_sem, ↓brB_t, ↓brB_f, Nat.reduceAdd, Int.reduceLE, Int.reduceLT, Int.reduceNeg, decide_true, decide_false, Bool.and_self, Nat.succ_eq_add_one, Int.toNat_natCast, Nat.beq_refl, Bool.and_true, Bool.true_and, Bool.false_or, Bool.or_true, List.all_cons, List.all_nil, Nat.reduceMul, Nat.add_zero, Nat.zero_add, List.length_nil, List.length_cons, dite_true, List.nil_append, Nat.reduceBEq, reduceDIte, reduceIte, reduceCtorEq, Bool.or_false, Bool.true_or, Bool.and_false, Bool.false_and, Bool.not_true, Bool.not_false, Option.isSome_some, Option.isSome_none, Option.getD_some, List.getElem?_cons_zero, List.getElem?_cons_succ, eq_self, and_self, List.take_succ_cons, List.take_zero, List.drop_succ_cons, List.drop_zero]
      refine brB_intro (fun h1 => ?_) (fun h1 => ?_)
      · have h1 := of_decide_eq_true h1
        have ws : w64 ((s : Int) + 1) = ((s + 1 : Nat) : Int) := wN (by omega) (by omega)
        obtain ⟨d, hd⟩ : ∃ d, 2 * w.length - s = d + 1 := ⟨2 * w.length - s - 1, by omega⟩
        refine ⟨⟨by omega, by rw [hl]; omega⟩, brB_intro (fun h2 => ?_) (fun h2 => ?_)⟩
        · rw [ws]
          refine ⟨(s + 1, c, S), [(16, 16), (17, 17), (18, 18)], ⟨by show s + 1 ≤ _; omega, by show c ≤ s + 1; omega, hl, ?_⟩, by show _ - (s + 1) < _ - s; omega, rfl, rfl⟩
          rw [← ht]
          show c + cntC p (rng w.length) (2 * w.length - (s + 1)) S (s + 1) = c + cntC p (rng w.length) (2 * w.length - s) S s
          rw [hd, cnt_skip h2, show 2 * w.length - (s + 1) = d by omega]
        · rw [show w64 ((c : Int) + 1) = ((c + 1 : Nat) : Int) from wN (by omega) (by omega)]
          have ht : c + 1 + cntC p (rng w.length) (2 * w.length - (s + 1)) (trail p (rng w.length) S s) (s + 1) = cntC p (rng w.length) (2 * w.length) (List.replicate (2 * w.length) false) 0 := by
            rw [← ht]
            rw [hd, cnt_new h2, show 2 * w.length - (s + 1) = d by omega]; omega
          refine loop_okF (T := tab [c_chords, c_places]) [5, 6, 7, 15, 16, 18, 101, 102] [(16, 16), (17, 17), (18, 18)] (fun x : Nat × List Bool => ⟨136, [(5, vi (2 * w.length : Nat)), (6, ow 16), (7, ow 17), (15, ow 18), (16, vi (c + 1 : Nat)), (18, vi x.1), (101, vi (2 * w.length : Nat)), (102, vi s)], [(16, rwn 3 B), (17, rwn 3 R), (18, rwb x.2)]⟩)
            (fun x => x.1 < 2 * w.length ∧ x.2.length = 2 * w.length ∧ trail p (rng w.length) x.2 x.1 = trail p (rng w.length) S s) (fun x => x.2.count false) (s, S) rfl rfl ⟨by omega, hl, rfl⟩ (fun x hi => ?_)
          obtain ⟨a, S'⟩ := x
          obtain ⟨ha, hl', he⟩ := hi
          have ha' : a < 2 * w.length := ha
          have hb' := hb a ha'
          have hpa := hp.lt a ha'
          have hr' := hr _ hpa
          have hl'' : S'.length = 2 * w.length := hl'
          simp only [go_sem, ↓brB_t, ↓brB_f, Nat.reduceAdd, Int.reduceLE, Int.reduceLT, Int.reduceNeg, decide_true, decide_false, Bool.and_self, Nat.succ_eq_add_one, Int.toNat_natCast, Nat.beq_refl, Bool.and_true, Bool.true_and, Bool.false_or, Bool.or_true, List.all_cons, List.all_nil, Nat.reduceMul, Nat.add_zero, Nat.zero_add, List.length_nil, List.length_cons, dite_true, List.nil_append, Nat.reduceBEq, reduceDIte, reduceIte, reduceCtorEq, Bool.or_false, Bool.true_or, Bool.and_false, Bool.false_and, Bool.not_true, Bool.not_false, Option.isSome_some, Option.isSome_none, Option.getD_some, List.getElem?_cons_zero, List.getElem?_cons_succ, eq_self, and_self, List.take_succ_cons, List.take_zero, List.drop_succ_cons, List.drop_zero]
          refine ⟨⟨by omega, by rw [hl'']; omega⟩, brB_intro (fun h3 => ?_) (fun h3 => ?_)⟩
          · have h3 : S'.getD a false = false := by simpa using h3
            rw [hb', Int.toNat_natCast, hr', List.length_set, hbl, hrl, hl'']
            refine ⟨⟨by omega, by omega⟩, ⟨by omega, by omega⟩, ⟨by omega, by omega⟩, ⟨by omega, by omega⟩, ⟨by omega, by omega⟩, (rng w.length (p a), (S'.set a true).set (p a) true), [(16, 16), (17, 17), (18, 18)], ⟨hq.lt _ hpa, by simpa using hl'', ?_⟩, count_mk ⟨by rw [hl'']; exact ha', h3⟩, rfl, rfl⟩
            exact (trail_go (by rw [hl'']; exact ha') h3).symm.trans he
          · have h3 : S'.getD a false = true := by simpa using h3
            have he : S' = trail p (rng w.length) S s := (trail_end h3).symm.trans he
            rw [ws]
            refine ⟨(s + 1, c + 1, S'), [(16, 16), (17, 17), (18, 18)], ⟨by show s + 1 ≤ _; omega, by show c + 1 ≤ s + 1; omega, hl'', ?_⟩, by show _ - (s + 1) < _ - s; omega, rfl, rfl⟩
            show c + 1 + cntC p (rng w.length) (2 * w.length - (s + 1)) S' (s + 1) = _
            rw [he]; exact ht
      · have h1 := of_decide_eq_false h1
        rw [show 2 * w.length - s = 0 by omega] at ht
        have ht : c = cntC p (rng w.length) (2 * w.length) (List.replicate (2 * w.length) false) 0 := ht
        rw [← ht] at hK
        refine ret0 ?_
        have e : mx (c : Int) 1 = (mx1 c : Nat) := by unfold mx mx1; split <;> split <;> omega
        rw [e]; exact hK
def c_circlesI : Ctr Try.prog := ⟨132, ent Try.func132 rfl rfl, [], sp_circlesI, good_circlesI, []⟩
@[go_sem] theorem c_circlesI_f : c_circlesI.f = 132 := rfl
@[go_sem] theorem c_circlesI_ms : c_circlesI.ms = [] := rfl
@[go_sem] theorem c_circlesI_sp : c_circlesI.spec = sp_circlesI := rfl
@[go_sem] theorem c_circlesI_fz : c_circlesI.fz = [] := rfl
attribute [go_sem] sp_circlesI
end Go.Proofs.Ytihfncjpfgdhoaa.V
