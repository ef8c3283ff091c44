/- Packed texts of this session's: PAx8, KPlaces, PAx11, KWithout, KDelete, KClone, KLeft, KLeftUse, PPx0, PPx2. Conditions: in each. -/
import Derived.Test.YtihfncjpfgdhoaaProg
import Derived.Test.YtihfncjpfgdhoaaZe1
set_option linter.unusedVariables false
set_option linter.unusedSimpArgs false
set_option linter.unusedSectionVars false
section
namespace Go.Proofs.Ytihfncjpfgdhoaa.PA
open Go.RowKit Go.Proofs.YtihfncjpfgdhoaaW.PrintWords Go.Proofs.YtihfncjpfgdhoaaW.PrintLast Go.Proofs.YtihfncjpfgdhoaaW.PrintMore
attribute [local go_sem] max2_int min2_int max_two min_two max_three min_three max_four min_four   -- for this text's walks alone
open Go.Proofs.Ytihfncjpfgdhoaa.K
/-! ### spec_l07Chord: function 60 -/
def spec_l07Chord.l0 : Nat → List Int → Int → List Int → List Int → List Int → Option (Int)
  | 0, _, _, _, _, _ => none
  | k + 1, x1, x5, x176000, x176001, x176002 => if x5 < (x1.length : Int) then (if 0 ≤ x5 then ((spec_l01In.f (rd x1 x5) 0 (wrap64 ((x176002.length : Int) - 1))).bind fun t178 => (if t178 = true then (spec_l07Chord.l0 k x1 (wrap64 (x5 + 1)) x176000 x176001 x176002) else (some 2))) else (none)) else (some 0)
def spec_l07Chord.f (k : Nat) (l0_0 : List Int) (l0_1 : List Int) (l0_2 : List Int) (l1 : List Int) : Option (Int) := (spec_l07Is.f k l0_0 l0_1 l0_2).bind fun t176 => (if t176 = true then (spec_l07Chord.l0 k l1 0 l0_0 l0_1 l0_2) else (some 1))
theorem spec_l07Chord.mono_l : ∀ k, (∀ y0 y1 y2 y3 y4, LeO (spec_l07Chord.l0 k y0 y1 y2 y3 y4) (spec_l07Chord.l0 (k + 1) y0 y1 y2 y3 y4))
  | 0 => fun _ _ _ _ _ r h => by simp [spec_l07Chord.l0] at h
  | k + 1 => by
    have ih0 := spec_l07Chord.mono_l k
    · intro y0 y1 y2 y3 y4
      unfold spec_l07Chord.l0
      repeat' first
      | (with_reducible exact ih0 _ _ _ _ _)
      | (with_reducible exact spec_l07Is.mono _ _ _ _)
      | (with_reducible exact LeO.refl _)
      | (with_reducible exact LeO.none _)
      | (with_reducible refine LeO.ite ?_ ?_)
      | (with_reducible refine LeO.bind ?_ (fun _ => ?_))
      | exact ih0 _ _ _ _ _
      | exact spec_l07Is.mono _ _ _ _
      | exact LeO.none _
      | refine LeO.ite ?_ ?_
      | refine LeO.bind ?_ (fun _ => ?_)
theorem spec_l07Chord.mono : ∀ a0 a1 a2 a3 k, LeO (spec_l07Chord.f k a0 a1 a2 a3) (spec_l07Chord.f (k + 1) a0 a1 a2 a3) := by
  intro a0 a1 a2 a3 k
  have ih0 := spec_l07Chord.mono_l k
  unfold spec_l07Chord.f
  repeat' first
      | (with_reducible exact ih0 _ _ _ _ _)
      | (with_reducible exact spec_l07Is.mono _ _ _ _)
      | (with_reducible exact LeO.refl _)
      | (with_reducible exact LeO.none _)
      | (with_reducible refine LeO.ite ?_ ?_)
      | (with_reducible refine LeO.bind ?_ (fun _ => ?_))
      | exact ih0 _ _ _ _ _
      | exact spec_l07Is.mono _ _ _ _
      | exact LeO.none _
      | refine LeO.ite ?_ ?_
      | refine LeO.bind ?_ (fun _ => ?_)
set_option maxHeartbeats 8000000 in
set_option maxRecDepth 100000 in
theorem spec_l07Chord.calls (k : Nat) (A0_0 : Option Addr) (c0_0 : Nat) (l0_0 : List Int) (A0_1 : Option Addr) (c0_1 : Nat) (l0_1 : List Int) (A0_2 : Option Addr) (c0_2 : Nat) (l0_2 : List Int) (A1 : Option Addr) (c1 : Nat) (l1 : List Int) (r : Int) (w : World) (hr0_0 : Kd.C (Kd.int .i64) w A0_0 l0_0.length l0_0) (hc0_0 : l0_0.length ≤ c0_0) (hr0_1 : Kd.C (Kd.int .i64) w A0_1 l0_1.length l0_1) (hc0_1 : l0_1.length ≤ c0_1) (hr0_2 : Kd.C (Kd.int .i64) w A0_2 l0_2.length l0_2) (hc0_2 : l0_2.length ≤ c0_2) (hr1 : Kd.C (Kd.int .i64) w A1 l1.length l1) (hc1 : l1.length ≤ c1) (h : spec_l07Chord.f k l0_0 l0_1 l0_2 l1 = some r) :
    Calls Try.prog 60 #[.agg #[.slice A0_0 l0_0.length c0_0, .slice A0_1 l0_1.length c0_1, .slice A0_2 l0_2.length c0_2], .slice A1 l1.length c1] w fun e w' => e = .returned (.int .i64 r) ∧ Below w.heap.size w w' := by
  have hu34 := Try.underlying34
  have HR0_0 := Aside0.mk hr0_0
  have HC0_0 := Aside0.mk hc0_0
  clear hr0_0 hc0_0
  have HR0_1 := Aside0.mk hr0_1
  have HC0_1 := Aside0.mk hc0_1
  clear hr0_1 hc0_1
  have HR0_2 := Aside0.mk hr0_2
  have HC0_2 := Aside0.mk hc0_2
  clear hr0_2 hc0_2
  have HR1 := Aside0.mk hr1
  have HC1 := Aside0.mk hc1
  clear hr1 hc1
  have HB := mk0 (Below.refl w.heap.size w)
  have H : ((spec_l07Is.f k l0_0 l0_1 l0_2).bind fun t176 => (if t176 = true then (spec_l07Chord.l0 k l1 0 l0_0 l0_1 l0_2) else (some 1))) = some r := h
  clear h
  replace H := Option.bind_eq_some_iff.mp H
  obtain ⟨t176, A30, H⟩ := H
  replace H : (if t176 = true then (spec_l07Chord.l0 k l1 0 l0_0 l0_1 l0_2) else (some 1)) = some r := H
  have A3 := Aside0.mk A30
  clear A30
  by_cases c4 : t176 = true
  · subst c4
    have H1 : (spec_l07Chord.l0 k l1 0 l0_0 l0_1 l0_2) = some r := by rw [if_pos rfl] at H; exact H
    clear H
    have H := H1
    clear H1
    have H' := Aside0.mk H
    clear H
    go_enter Try.func60, Try.ntmps60
    go_wp2_with (first | ((with_reducible refine gate_dst (N := 2) rfl ?_); refine box_event ?hg (N := 2) ?hd (cs := #[.slice A0_0 l0_0.length c0_0, .slice A0_1 l0_1.length c0_1, .slice A0_2 l0_2.length c0_2]) (t := 34) ?hr ?_; (case hd => rfl); (case hg => rfl); (case hr => first | (go_simp; done) | (go_simp; rfl)); intro gb175 hg w5 hbox hb; have n0_ := mk0 (below_step (by repeat (first | exact HB.out | apply below_alloc | apply pw_below_drewN | apply below_drew1)) hb); have n1_ := mk0 (hbox); have n2_ := mk0 ((by rw [hg]; exact (below_size (by repeat (first | exact HB.out | apply below_alloc | apply pw_below_drewN | apply below_drew1))) : w.heap.size ≤ gb175)); have n3_ := mk0 ((by rw [hg]; exact (below_size (by repeat (first | exact HB.out | apply below_alloc | apply pw_below_drewN | apply below_drew1))) : w.heap.size ≤ gb175)); clear HB; have HB := n0_; have BK175 := n1_; have GW175 := n2_; have GE175 := n3_; clear n0_ n1_ n2_ n3_; clear hb hbox hg; obtain ⟨hcz6_0, hcz6_1, hcz6_2⟩ := bc3 BK175.out; obtain ⟨hfz6_0, hfz6_1, hfz6_2⟩ := bf3 BK175.out) | (go_at_call 56; (with_reducible refine (spec_l07Is.calls k _ _ l0_0 _ _ l0_1 _ _ l0_2 true _ ?side1 ?side2 ?side3 ?side4 ?side5 ?side6 A3.out).mono ?_); (case side1 => exact (Kd.C_below HR0_0.out HB.out)); (case side2 => exact HC0_0.out); (case side3 => exact (Kd.C_below HR0_1.out HB.out)); (case side4 => exact HC0_1.out); (case side5 => exact (Kd.C_below HR0_2.out HB.out)); (case side6 => exact HC0_2.out); rintro e w7 ⟨rfl, hb⟩; have n0_ := mk0 (blk_below (by exact BK175.out) hb); have n1_ := mk0 (below_step (by repeat (first | exact HB.out | apply below_alloc | apply pw_below_drewN | apply below_drew1 | refine below_set ?_ GE175.out)) hb); clear BK175; clear HB; have BK175 := n0_; have HB := n1_; clear n0_ n1_; (try clear hb); (try clear hb2); (try clear hk); (try clear hi)))
    repeat (go_quiet (first | ((with_reducible refine gate_dst (N := 2) rfl ?_); refine box_event ?hg (N := 2) ?hd (cs := #[.slice A0_0 l0_0.length c0_0, .slice A0_1 l0_1.length c0_1, .slice A0_2 l0_2.length c0_2]) (t := 34) ?hr ?_; (case hd => rfl); (case hg => rfl); (case hr => first | (go_simp; done) | (go_simp; rfl)); intro gb175 hg w5 hbox hb; have n0_ := mk0 (below_step (by repeat (first | exact HB.out | apply below_alloc | apply pw_below_drewN | apply below_drew1)) hb); have n1_ := mk0 (hbox); have n2_ := mk0 ((by rw [hg]; exact (below_size (by repeat (first | exact HB.out | apply below_alloc | apply pw_below_drewN | apply below_drew1))) : w.heap.size ≤ gb175)); have n3_ := mk0 ((by rw [hg]; exact (below_size (by repeat (first | exact HB.out | apply below_alloc | apply pw_below_drewN | apply below_drew1))) : w.heap.size ≤ gb175)); clear HB; have HB := n0_; have BK175 := n1_; have GW175 := n2_; have GE175 := n3_; clear n0_ n1_ n2_ n3_; clear hb hbox hg; obtain ⟨hcz6_0, hcz6_1, hcz6_2⟩ := bc3 BK175.out; obtain ⟨hfz6_0, hfz6_1, hfz6_2⟩ := bf3 BK175.out) | (go_at_call 56; (with_reducible refine (spec_l07Is.calls k _ _ l0_0 _ _ l0_1 _ _ l0_2 true _ ?side1 ?side2 ?side3 ?side4 ?side5 ?side6 A3.out).mono ?_); (case side1 => exact (Kd.C_below HR0_0.out HB.out)); (case side2 => exact HC0_0.out); (case side3 => exact (Kd.C_below HR0_1.out HB.out)); (case side4 => exact HC0_1.out); (case side5 => exact (Kd.C_below HR0_2.out HB.out)); (case side6 => exact HC0_2.out); rintro e w7 ⟨rfl, hb⟩; have n0_ := mk0 (blk_below (by exact BK175.out) hb); have n1_ := mk0 (below_step (by repeat (first | exact HB.out | apply below_alloc | apply pw_below_drewN | apply below_drew1 | refine below_set ?_ GE175.out)) hb); clear BK175; clear HB; have BK175 := n0_; have HB := n1_; clear n0_ n1_; (try clear hb); (try clear hb2); (try clear hk); (try clear hi))); try go_wp2_with (first | ((with_reducible refine gate_dst (N := 2) rfl ?_); refine box_event ?hg (N := 2) ?hd (cs := #[.slice A0_0 l0_0.length c0_0, .slice A0_1 l0_1.length c0_1, .slice A0_2 l0_2.length c0_2]) (t := 34) ?hr ?_; (case hd => rfl); (case hg => rfl); (case hr => first | (go_simp; done) | (go_simp; rfl)); intro gb175 hg w5 hbox hb; have n0_ := mk0 (below_step (by repeat (first | exact HB.out | apply below_alloc | apply pw_below_drewN | apply below_drew1)) hb); have n1_ := mk0 (hbox); have n2_ := mk0 ((by rw [hg]; exact (below_size (by repeat (first | exact HB.out | apply below_alloc | apply pw_below_drewN | apply below_drew1))) : w.heap.size ≤ gb175)); have n3_ := mk0 ((by rw [hg]; exact (below_size (by repeat (first | exact HB.out | apply below_alloc | apply pw_below_drewN | apply below_drew1))) : w.heap.size ≤ gb175)); clear HB; have HB := n0_; have BK175 := n1_; have GW175 := n2_; have GE175 := n3_; clear n0_ n1_ n2_ n3_; clear hb hbox hg; obtain ⟨hcz6_0, hcz6_1, hcz6_2⟩ := bc3 BK175.out; obtain ⟨hfz6_0, hfz6_1, hfz6_2⟩ := bf3 BK175.out) | (go_at_call 56; (with_reducible refine (spec_l07Is.calls k _ _ l0_0 _ _ l0_1 _ _ l0_2 true _ ?side1 ?side2 ?side3 ?side4 ?side5 ?side6 A3.out).mono ?_); (case side1 => exact (Kd.C_below HR0_0.out HB.out)); (case side2 => exact HC0_0.out); (case side3 => exact (Kd.C_below HR0_1.out HB.out)); (case side4 => exact HC0_1.out); (case side5 => exact (Kd.C_below HR0_2.out HB.out)); (case side6 => exact HC0_2.out); rintro e w7 ⟨rfl, hb⟩; have n0_ := mk0 (blk_below (by exact BK175.out) hb); have n1_ := mk0 (below_step (by repeat (first | exact HB.out | apply below_alloc | apply pw_below_drewN | apply below_drew1 | refine below_set ?_ GE175.out)) hb); clear BK175; clear HB; have BK175 := n0_; have HB := n1_; clear n0_ n1_; (try clear hb); (try clear hb2); (try clear hk); (try clear hi))))
    go_loopg [5] k (fun kq v5 w' => ∃ (x5_1 : Int), v5 = .int .i64 x5_1 ∧ Aside0 (spec_l07Chord.l0 kq l1 x5_1 l0_0 l0_1 l0_2 = some r) ∧ Aside0 (kq ≤ k) ∧ Aside0 (w'.heap[gb175]? = some (.cells #[(.slice A0_0 l0_0.length c0_0), (.slice A0_1 l0_1.length c0_1), (.slice A0_2 l0_2.length c0_2)] 34 (0, 0))) ∧ Aside0 (Below w.heap.size w w'))
    case atStart => exact ⟨(0), (by first | rfl | (simp; done) | (simp [*]; done)), H', ⟨Nat.le_refl _⟩, ⟨by exact BK175.out⟩, ⟨by repeat (first | exact HB.out | apply below_alloc | apply pw_below_drewN | apply below_drew1 | refine below_set ?_ GE175.out)⟩⟩
    case round =>
      clear H'
      try clear c1
      try clear p2
      try clear c4
      try clear c6
      try clear hcz6_0
      try clear hcz6_1
      try clear hcz6_2
      try clear hfz6_0
      try clear hfz6_1
      try clear hfz6_2
      obtain ⟨x5_1, rfl, HA, HK1, BK175, HB⟩ := hrel
      cases gk with
      | zero => exact absurd HA.out (by simp [spec_l07Chord.l0])
      | succ k1 =>
        have H := HA.out
        clear HA
        simp only [spec_l07Chord.l0] at H
        by_cases c8 : x5_1 < (l1.length : Int)
        · rw [if_pos c8] at H
          have c8b0 : decide (x5_1 < (l1.length : Int)) = true := decide_eq_true c8
          clear c8
          by_cases c9 : 0 ≤ x5_1
          · rw [if_pos c9] at H
            have c9b0 : decide (0 ≤ x5_1) = true := decide_eq_true c9
            clear c9
            replace H := Option.bind_eq_some_iff.mp H
            obtain ⟨t178, A100, H⟩ := H
            replace H : (if t178 = true then (spec_l07Chord.l0 k1 l1 (wrap64 (x5_1 + 1)) l0_0 l0_1 l0_2) else (some 2)) = some r := H
            have A10 := Aside0.mk A100
            clear A100
            by_cases c11 : t178 = true
            · subst c11
              have H1 : (spec_l07Chord.l0 k1 l1 (wrap64 (x5_1 + 1)) l0_0 l0_1 l0_2) = some r := by rw [if_pos rfl] at H; exact H
              clear H
              have H := H1
              clear H1
              have H' := Aside0.mk H
              clear H
              have p177 : 0 ≤ (x5_1 : Int) := of_decide_eq_true (by first | (with_reducible assumption) | assumption)
              have q177 : x5_1 < (l1.length : Int) := of_decide_eq_true (by first | (with_reducible assumption) | assumption)
              obtain ⟨ad177, e177, hx177_0⟩ := Kd.at_int HR1.out x5_1 p177 q177
              cases e177
              replace hx177_0 := (HB.out.cell (World.block_lt_of_cell? w _ hx177_0)).trans hx177_0
              replace p177 := eq_true p177
              replace q177 := eq_true q177
              obtain ⟨hcz12_0, hcz12_1, hcz12_2⟩ := bc3 BK175.out
              obtain ⟨hfz12_0, hfz12_1, hfz12_2⟩ := bf3 BK175.out
              go_wp2_with (first | (go_at_call 49; (with_reducible refine (spec_l01In.calls (rd l1 x5_1) 0 (wrap64 ((l0_2.length : Int) - 1)) true _ A10.out).mono ?_); rintro e w' ⟨rfl, ⟨nd, rfl⟩⟩; (try first | exact ⟨rfl, _, World.drewN_drewN _ _ _⟩ | exact ⟨rfl, _, Eq.trans (World.drewN_drewN _ _ _) (congrArg (World.drewN _) (Nat.add_assoc _ _ _))⟩)))
              repeat (go_quiet (first | (go_at_call 49; (with_reducible refine (spec_l01In.calls (rd l1 x5_1) 0 (wrap64 ((l0_2.length : Int) - 1)) true _ A10.out).mono ?_); rintro e w' ⟨rfl, ⟨nd, rfl⟩⟩; (try first | exact ⟨rfl, _, World.drewN_drewN _ _ _⟩ | exact ⟨rfl, _, Eq.trans (World.drewN_drewN _ _ _) (congrArg (World.drewN _) (Nat.add_assoc _ _ _))⟩))); try go_wp2_with (first | (go_at_call 49; (with_reducible refine (spec_l01In.calls (rd l1 x5_1) 0 (wrap64 ((l0_2.length : Int) - 1)) true _ A10.out).mono ?_); rintro e w' ⟨rfl, ⟨nd, rfl⟩⟩; (try first | exact ⟨rfl, _, World.drewN_drewN _ _ _⟩ | exact ⟨rfl, _, Eq.trans (World.drewN_drewN _ _ _) (congrArg (World.drewN _) (Nat.add_assoc _ _ _))⟩))))
              go_roundg k1
              case measure => have := HK1.out; omega
              case rel => exact ⟨(wrap64 (x5_1 + 1)), (by first | rfl | (simp; done) | (simp [*]; done)), H', ⟨by have := HK1.out; omega⟩, ⟨by exact BK175.out⟩, ⟨by repeat (first | exact HB.out | apply below_alloc | apply pw_below_drewN | apply below_drew1 | refine below_set ?_ GE175.out)⟩⟩
            · replace c11 := Bool.eq_false_iff.mpr c11
              subst c11
              have H1 : (some 2) = some r := by rw [if_neg (show ¬ (false = true) by decide)] at H; exact H
              clear H
              have H := H1
              clear H1
              obtain rfl := Option.some.inj H
              have p177 : 0 ≤ (x5_1 : Int) := of_decide_eq_true (by first | (with_reducible assumption) | assumption)
              have q177 : x5_1 < (l1.length : Int) := of_decide_eq_true (by first | (with_reducible assumption) | assumption)
              obtain ⟨ad177, e177, hx177_0⟩ := Kd.at_int HR1.out x5_1 p177 q177
              cases e177
              replace hx177_0 := (HB.out.cell (World.block_lt_of_cell? w _ hx177_0)).trans hx177_0
              replace p177 := eq_true p177
              replace q177 := eq_true q177
              obtain ⟨hcz13_0, hcz13_1, hcz13_2⟩ := bc3 BK175.out
              obtain ⟨hfz13_0, hfz13_1, hfz13_2⟩ := bf3 BK175.out
              go_wp2_with (first | (go_at_call 49; (with_reducible refine (spec_l01In.calls (rd l1 x5_1) 0 (wrap64 ((l0_2.length : Int) - 1)) false _ A10.out).mono ?_); rintro e w' ⟨rfl, ⟨nd, rfl⟩⟩; (try first | exact ⟨rfl, _, World.drewN_drewN _ _ _⟩ | exact ⟨rfl, _, Eq.trans (World.drewN_drewN _ _ _) (congrArg (World.drewN _) (Nat.add_assoc _ _ _))⟩)))
              repeat (go_quiet (first | (go_at_call 49; (with_reducible refine (spec_l01In.calls (rd l1 x5_1) 0 (wrap64 ((l0_2.length : Int) - 1)) false _ A10.out).mono ?_); rintro e w' ⟨rfl, ⟨nd, rfl⟩⟩; (try first | exact ⟨rfl, _, World.drewN_drewN _ _ _⟩ | exact ⟨rfl, _, Eq.trans (World.drewN_drewN _ _ _) (congrArg (World.drewN _) (Nat.add_assoc _ _ _))⟩))); try go_wp2_with (first | (go_at_call 49; (with_reducible refine (spec_l01In.calls (rd l1 x5_1) 0 (wrap64 ((l0_2.length : Int) - 1)) false _ A10.out).mono ?_); rintro e w' ⟨rfl, ⟨nd, rfl⟩⟩; (try first | exact ⟨rfl, _, World.drewN_drewN _ _ _⟩ | exact ⟨rfl, _, Eq.trans (World.drewN_drewN _ _ _) (congrArg (World.drewN _) (Nat.add_assoc _ _ _))⟩))))
              go_ret
              exact ⟨by first | rfl | (simp [errW_none, errW_some] <;> rfl) | (simp [*, errW_none, errW_some] <;> rfl), by repeat (first | exact HB.out | apply below_alloc | apply pw_below_drewN | apply below_drew1 | refine below_set ?_ GE175.out)⟩
          · rw [if_neg c9] at H
            exact absurd H (by simp)
        · rw [if_neg c8] at H
          have c8b0 : decide (x5_1 < (l1.length : Int)) = false := decide_eq_false c8
          clear c8
          obtain rfl := Option.some.inj H
          go_wp2
          repeat (go_quiet (fail); try go_wp2)
          go_ret
          exact ⟨by first | rfl | (simp [errW_none, errW_some] <;> rfl) | (simp [*, errW_none, errW_some] <;> rfl), by repeat (first | exact HB.out | apply below_alloc | apply pw_below_drewN | apply below_drew1 | refine below_set ?_ GE175.out)⟩
  · replace c4 := Bool.eq_false_iff.mpr c4
    subst c4
    have H1 : (some 1) = some r := by rw [if_neg (show ¬ (false = true) by decide)] at H; exact H
    clear H
    have H := H1
    clear H1
    obtain rfl := Option.some.inj H
    go_enter Try.func60, Try.ntmps60
    go_wp2_with (first | ((with_reducible refine gate_dst (N := 2) rfl ?_); refine box_event ?hg (N := 2) ?hd (cs := #[.slice A0_0 l0_0.length c0_0, .slice A0_1 l0_1.length c0_1, .slice A0_2 l0_2.length c0_2]) (t := 34) ?hr ?_; (case hd => rfl); (case hg => rfl); (case hr => first | (go_simp; done) | (go_simp; rfl)); intro gb175 hg w14 hbox hb; have n0_ := mk0 (below_step (by repeat (first | exact HB.out | apply below_alloc | apply pw_below_drewN | apply below_drew1)) hb); have n1_ := mk0 (hbox); have n2_ := mk0 ((by rw [hg]; exact (below_size (by repeat (first | exact HB.out | apply below_alloc | apply pw_below_drewN | apply below_drew1))) : w.heap.size ≤ gb175)); have n3_ := mk0 ((by rw [hg]; exact (below_size (by repeat (first | exact HB.out | apply below_alloc | apply pw_below_drewN | apply below_drew1))) : w.heap.size ≤ gb175)); clear HB; have HB := n0_; have BK175 := n1_; have GW175 := n2_; have GE175 := n3_; clear n0_ n1_ n2_ n3_; clear hb hbox hg; obtain ⟨hcz15_0, hcz15_1, hcz15_2⟩ := bc3 BK175.out; obtain ⟨hfz15_0, hfz15_1, hfz15_2⟩ := bf3 BK175.out) | (go_at_call 56; (with_reducible refine (spec_l07Is.calls k _ _ l0_0 _ _ l0_1 _ _ l0_2 false _ ?side1 ?side2 ?side3 ?side4 ?side5 ?side6 A3.out).mono ?_); (case side1 => exact (Kd.C_below HR0_0.out HB.out)); (case side2 => exact HC0_0.out); (case side3 => exact (Kd.C_below HR0_1.out HB.out)); (case side4 => exact HC0_1.out); (case side5 => exact (Kd.C_below HR0_2.out HB.out)); (case side6 => exact HC0_2.out); rintro e w16 ⟨rfl, hb⟩; have n0_ := mk0 (blk_below (by exact BK175.out) hb); have n1_ := mk0 (below_step (by repeat (first | exact HB.out | apply below_alloc | apply pw_below_drewN | apply below_drew1 | refine below_set ?_ GE175.out)) hb); clear BK175; clear HB; have BK175 := n0_; have HB := n1_; clear n0_ n1_; (try clear hb); (try clear hb2); (try clear hk); (try clear hi)))
    repeat (go_quiet (first | ((with_reducible refine gate_dst (N := 2) rfl ?_); refine box_event ?hg (N := 2) ?hd (cs := #[.slice A0_0 l0_0.length c0_0, .slice A0_1 l0_1.length c0_1, .slice A0_2 l0_2.length c0_2]) (t := 34) ?hr ?_; (case hd => rfl); (case hg => rfl); (case hr => first | (go_simp; done) | (go_simp; rfl)); intro gb175 hg w14 hbox hb; have n0_ := mk0 (below_step (by repeat (first | exact HB.out | apply below_alloc | apply pw_below_drewN | apply below_drew1)) hb); have n1_ := mk0 (hbox); have n2_ := mk0 ((by rw [hg]; exact (below_size (by repeat (first | exact HB.out | apply below_alloc | apply pw_below_drewN | apply below_drew1))) : w.heap.size ≤ gb175)); have n3_ := mk0 ((by rw [hg]; exact (below_size (by repeat (first | exact HB.out | apply below_alloc | apply pw_below_drewN | apply below_drew1))) : w.heap.size ≤ gb175)); clear HB; have HB := n0_; have BK175 := n1_; have GW175 := n2_; have GE175 := n3_; clear n0_ n1_ n2_ n3_; clear hb hbox hg; obtain ⟨hcz15_0, hcz15_1, hcz15_2⟩ := bc3 BK175.out; obtain ⟨hfz15_0, hfz15_1, hfz15_2⟩ := bf3 BK175.out) | (go_at_call 56; (with_reducible refine (spec_l07Is.calls k _ _ l0_0 _ _ l0_1 _ _ l0_2 false _ ?side1 ?side2 ?side3 ?side4 ?side5 ?side6 A3.out).mono ?_); (case side1 => exact (Kd.C_below HR0_0.out HB.out)); (case side2 => exact HC0_0.out); (case side3 => exact (Kd.C_below HR0_1.out HB.out)); (case side4 => exact HC0_1.out); (case side5 => exact (Kd.C_below HR0_2.out HB.out)); (case side6 => exact HC0_2.out); rintro e w16 ⟨rfl, hb⟩; have n0_ := mk0 (blk_below (by exact BK175.out) hb); have n1_ := mk0 (below_step (by repeat (first | exact HB.out | apply below_alloc | apply pw_below_drewN | apply below_drew1 | refine below_set ?_ GE175.out)) hb); clear BK175; clear HB; have BK175 := n0_; have HB := n1_; clear n0_ n1_; (try clear hb); (try clear hb2); (try clear hk); (try clear hi))); try go_wp2_with (first | ((with_reducible refine gate_dst (N := 2) rfl ?_); refine box_event ?hg (N := 2) ?hd (cs := #[.slice A0_0 l0_0.length c0_0, .slice A0_1 l0_1.length c0_1, .slice A0_2 l0_2.length c0_2]) (t := 34) ?hr ?_; (case hd => rfl); (case hg => rfl); (case hr => first | (go_simp; done) | (go_simp; rfl)); intro gb175 hg w14 hbox hb; have n0_ := mk0 (below_step (by repeat (first | exact HB.out | apply below_alloc | apply pw_below_drewN | apply below_drew1)) hb); have n1_ := mk0 (hbox); have n2_ := mk0 ((by rw [hg]; exact (below_size (by repeat (first | exact HB.out | apply below_alloc | apply pw_below_drewN | apply below_drew1))) : w.heap.size ≤ gb175)); have n3_ := mk0 ((by rw [hg]; exact (below_size (by repeat (first | exact HB.out | apply below_alloc | apply pw_below_drewN | apply below_drew1))) : w.heap.size ≤ gb175)); clear HB; have HB := n0_; have BK175 := n1_; have GW175 := n2_; have GE175 := n3_; clear n0_ n1_ n2_ n3_; clear hb hbox hg; obtain ⟨hcz15_0, hcz15_1, hcz15_2⟩ := bc3 BK175.out; obtain ⟨hfz15_0, hfz15_1, hfz15_2⟩ := bf3 BK175.out) | (go_at_call 56; (with_reducible refine (spec_l07Is.calls k _ _ l0_0 _ _ l0_1 _ _ l0_2 false _ ?side1 ?side2 ?side3 ?side4 ?side5 ?side6 A3.out).mono ?_); (case side1 => exact (Kd.C_below HR0_0.out HB.out)); (case side2 => exact HC0_0.out); (case side3 => exact (Kd.C_below HR0_1.out HB.out)); (case side4 => exact HC0_1.out); (case side5 => exact (Kd.C_below HR0_2.out HB.out)); (case side6 => exact HC0_2.out); rintro e w16 ⟨rfl, hb⟩; have n0_ := mk0 (blk_below (by exact BK175.out) hb); have n1_ := mk0 (below_step (by repeat (first | exact HB.out | apply below_alloc | apply pw_below_drewN | apply below_drew1 | refine below_set ?_ GE175.out)) hb); clear BK175; clear HB; have BK175 := n0_; have HB := n1_; clear n0_ n1_; (try clear hb); (try clear hb2); (try clear hk); (try clear hi))))
    go_ret
    exact ⟨by first | rfl | (simp [errW_none, errW_some] <;> rfl) | (simp [*, errW_none, errW_some] <;> rfl), by repeat (first | exact HB.out | apply below_alloc | apply pw_below_drewN | apply below_drew1 | refine below_set ?_ GE175.out)⟩
/-! ### spec_l01Places: function 61 -/
def spec_l01Places.l0 : Nat → List Int → Int → Int → Int → Int → Option (Int × Int)
  | 0, _, _, _, _, _ => none
  | k + 1, x0, x1, x6, x7, x8 => if x8 < (x0.length : Int) then (if 0 ≤ x8 then (if (rd x0 x8) = x1 then (if x6 < 0 then (spec_l01Places.l0 k x0 x1 x8 x8 (wrap64 (x8 + 1))) else (spec_l01Places.l0 k x0 x1 x6 x8 (wrap64 (x8 + 1)))) else (spec_l01Places.l0 k x0 x1 x6 x7 (wrap64 (x8 + 1)))) else (none)) else (some (x6, x7))
def spec_l01Places.f (k : Nat) (l0 : List Int) (a1 : Int) : Option (Int × Int) := spec_l01Places.l0 k l0 a1 (-1) (-1) 0
theorem spec_l01Places.mono_l : ∀ k, (∀ y0 y1 y2 y3 y4, LeO (spec_l01Places.l0 k y0 y1 y2 y3 y4) (spec_l01Places.l0 (k + 1) y0 y1 y2 y3 y4))
  | 0 => fun _ _ _ _ _ r h => by simp [spec_l01Places.l0] at h
  | k + 1 => by
    have ih0 := spec_l01Places.mono_l k
    · intro y0 y1 y2 y3 y4
      unfold spec_l01Places.l0
      repeat' first
      | (with_reducible exact ih0 _ _ _ _ _)
      | (with_reducible exact LeO.refl _)
      | (with_reducible exact LeO.none _)
      | (with_reducible refine LeO.ite ?_ ?_)
      | (with_reducible refine LeO.bind ?_ (fun _ => ?_))
      | exact ih0 _ _ _ _ _
      | exact LeO.none _
      | refine LeO.ite ?_ ?_
      | refine LeO.bind ?_ (fun _ => ?_)
theorem spec_l01Places.mono : ∀ a0 a1 k, LeO (spec_l01Places.f k a0 a1) (spec_l01Places.f (k + 1) a0 a1) := by
  intro a0 a1 k
  have ih0 := spec_l01Places.mono_l k
  unfold spec_l01Places.f
  repeat' first
      | (with_reducible exact ih0 _ _ _ _ _)
      | (with_reducible exact LeO.refl _)
      | (with_reducible exact LeO.none _)
      | (with_reducible refine LeO.ite ?_ ?_)
      | (with_reducible refine LeO.bind ?_ (fun _ => ?_))
      | exact ih0 _ _ _ _ _
      | exact LeO.none _
      | refine LeO.ite ?_ ?_
      | refine LeO.bind ?_ (fun _ => ?_)
set_option maxHeartbeats 8000000 in
set_option maxRecDepth 100000 in
theorem spec_l01Places.calls (k : Nat) (A0 : Option Addr) (c0 : Nat) (l0 : List Int) (a1 : Int) (r1 : Int) (r2 : Int) (w : World) (hr0 : Kd.C (Kd.int .i64) w A0 l0.length l0) (hc0 : l0.length ≤ c0) (h : spec_l01Places.f k l0 a1 = some (r1, r2)) :
    Calls Try.prog 61 #[.slice A0 l0.length c0, .int .i64 a1] w fun e w' => e = .returned (.tuple #[.int .i64 r1, .int .i64 r2]) ∧ Drawn0 w w' := by
  have HR0 := Aside0.mk hr0
  have HC0 := Aside0.mk hc0
  clear hr0 hc0
  have H : (spec_l01Places.l0 k l0 a1 (-1) (-1) 0) = some (r1, r2) := h
  clear h
  have H' := Aside0.mk H
  clear H
  go_enter Try.func61, Try.ntmps61
  go_wp2
  go_loopg [6, 7, 8] k (fun kq v6 v7 v8 w' => ∃ (x6_1 : Int) (x7_1 : Int) (x8_1 : Int), v6 = .int .i64 x6_1 ∧ v7 = .int .i64 x7_1 ∧ v8 = .int .i64 x8_1 ∧ Aside0 (spec_l01Places.l0 kq l0 a1 x6_1 x7_1 x8_1 = some (r1, r2)) ∧ Aside0 (kq ≤ k) ∧ Drawn0 w w')
  case atStart => exact ⟨((-1)), ((-1)), (0), (by first | rfl | (simp; done) | (simp [*]; done)), (by first | rfl | (simp; done) | (simp [*]; done)), (by first | rfl | (simp; done) | (simp [*]; done)), H', ⟨Nat.le_refl _⟩, by repeat (first | exact Drawn0.refl _ | apply Drawn0.step)⟩
  case round =>
    clear H'
    try clear p2
    obtain ⟨x6_1, x7_1, x8_1, rfl, rfl, rfl, HA, HK1, ⟨m1, rfl⟩⟩ := hrel
    cases gk with
    | zero => exact absurd HA.out (by simp [spec_l01Places.l0])
    | succ k1 =>
      have H := HA.out
      clear HA
      simp only [spec_l01Places.l0] at H
      by_cases c3 : x8_1 < (l0.length : Int)
      · rw [if_pos c3] at H
        have c3b0 : decide (x8_1 < (l0.length : Int)) = true := decide_eq_true c3
        clear c3
        by_cases c4 : 0 ≤ x8_1
        · rw [if_pos c4] at H
          have c4b0 : decide (0 ≤ x8_1) = true := decide_eq_true c4
          clear c4
          by_cases c5 : (rd l0 x8_1) = a1
          · rw [if_pos c5] at H
            have c5b0 : ((rd l0 x8_1) == a1) = true := beq_iff_eq.mpr c5
            have c5b1 : ((rd l0 x8_1) != a1) = false := bne_eq_false_iff_eq.mpr c5
            clear c5
            by_cases c6 : x6_1 < 0
            · rw [if_pos c6] at H
              have c6b0 : decide (x6_1 < 0) = true := decide_eq_true c6
              clear c6
              have H' := Aside0.mk H
              clear H
              have p179 : 0 ≤ (x8_1 : Int) := of_decide_eq_true (by first | (with_reducible assumption) | assumption)
              have q179 : x8_1 < (l0.length : Int) := of_decide_eq_true (by first | (with_reducible assumption) | assumption)
              obtain ⟨ad179, e179, hx179_0⟩ := Kd.at_int HR0.out x8_1 p179 q179
              cases e179
              replace p179 := eq_true p179
              replace q179 := eq_true q179
              go_wp2
              go_roundg k1
              case measure => have := HK1.out; omega
              case rel => exact ⟨(x8_1), (x8_1), (wrap64 (x8_1 + 1)), (by first | rfl | (simp; done) | (simp [*]; done)), (by first | rfl | (simp; done) | (simp [*]; done)), (by first | rfl | (simp; done) | (simp [*]; done)), H', ⟨by have := HK1.out; omega⟩, by repeat (first | exact Drawn0.refl _ | apply Drawn0.step)⟩
            · rw [if_neg c6] at H
              have c6b0 : decide (x6_1 < 0) = false := decide_eq_false c6
              clear c6
              have H' := Aside0.mk H
              clear H
              have p179 : 0 ≤ (x8_1 : Int) := of_decide_eq_true (by first | (with_reducible assumption) | assumption)
              have q179 : x8_1 < (l0.length : Int) := of_decide_eq_true (by first | (with_reducible assumption) | assumption)
              obtain ⟨ad179, e179, hx179_0⟩ := Kd.at_int HR0.out x8_1 p179 q179
              cases e179
              replace p179 := eq_true p179
              replace q179 := eq_true q179
              go_wp2
              go_roundg k1
              case measure => have := HK1.out; omega
              case rel => exact ⟨(x6_1), (x8_1), (wrap64 (x8_1 + 1)), (by first | rfl | (simp; done) | (simp [*]; done)), (by first | rfl | (simp; done) | (simp [*]; done)), (by first | rfl | (simp; done) | (simp [*]; done)), H', ⟨by have := HK1.out; omega⟩, by repeat (first | exact Drawn0.refl _ | apply Drawn0.step)⟩
          · rw [if_neg c5] at H
            have c5b0 : ((rd l0 x8_1) == a1) = false := beq_eq_false_iff_ne.mpr c5
            have c5b1 : ((rd l0 x8_1) != a1) = true := bne_iff_ne.mpr c5
            have H' := Aside0.mk H
            clear H
            have p179 : 0 ≤ (x8_1 : Int) := of_decide_eq_true (by first | (with_reducible assumption) | assumption)
            have q179 : x8_1 < (l0.length : Int) := of_decide_eq_true (by first | (with_reducible assumption) | assumption)
            obtain ⟨ad179, e179, hx179_0⟩ := Kd.at_int HR0.out x8_1 p179 q179
            cases e179
            replace p179 := eq_true p179
            replace q179 := eq_true q179
            go_wp2
            go_roundg k1
            case measure => have := HK1.out; omega
            case rel => exact ⟨(x6_1), (x7_1), (wrap64 (x8_1 + 1)), (by first | rfl | (simp; done) | (simp [*]; done)), (by first | rfl | (simp; done) | (simp [*]; done)), (by first | rfl | (simp; done) | (simp [*]; done)), H', ⟨by have := HK1.out; omega⟩, by repeat (first | exact Drawn0.refl _ | apply Drawn0.step)⟩
        · rw [if_neg c4] at H
          exact absurd H (by simp)
      · rw [if_neg c3] at H
        have c3b0 : decide (x8_1 < (l0.length : Int)) = false := decide_eq_false c3
        clear c3
        simp only [Option.some.injEq, Prod.mk.injEq] at H
        obtain ⟨rfl, rfl⟩ := H
        go_wp2
        go_ret2
        exact ⟨by first | rfl | (simp; done) | (simp [*]; done), by repeat (first | exact Drawn0.refl _ | apply Drawn0.step)⟩
end Go.Proofs.Ytihfncjpfgdhoaa.PA
end
section
namespace Go.Proofs.Ytihfncjpfgdhoaa.K
open Go.RowKit Go.Proofs.YtihfncjpfgdhoaaW.PrintWords Go.Proofs.YtihfncjpfgdhoaaW.PrintLast Go.Proofs.YtihfncjpfgdhoaaW.PrintMore Go.Proofs.Ytihfncjpfgdhoaa.PA
structure Two (l : List Int) (x : Int) (a b : Nat) : Prop where
  ab : a < b
  bl : b < l.length
  ra : rd l a = x
  rb : rd l b = x
  only : ∀ j, j < l.length → rd l j = x → j = a ∨ j = b
theorem rd_append_left (s t : List Int) (j : Nat) (h : j < s.length) : rd (s ++ t) j = rd s j := by
  unfold rd
  rw [Int.toNat_natCast, List.getD_eq_getElem?_getD, List.getD_eq_getElem?_getD, List.getElem?_append_left h]
theorem rd_append_right (s t : List Int) (j : Nat) : rd (s ++ t) ((s.length + j : Nat) : Int) = rd t j := by
  unfold rd
  rw [Int.toNat_natCast, Int.toNat_natCast, List.getD_eq_getElem?_getD, List.getD_eq_getElem?_getD, List.getElem?_append_right (by omega), Nat.add_sub_cancel_left]
theorem rd_cons_zero (x : Int) (t : List Int) : rd (x :: t) ((0 : Nat) : Int) = x := rfl
theorem rd_cons_succ (x : Int) (t : List Int) (j : Nat) : rd (x :: t) ((j + 1 : Nat) : Int) = rd t j := by
  unfold rd
  rw [Int.toNat_natCast, Int.toNat_natCast, List.getD_cons_succ]
theorem rd_not_mem (s : List Int) (x : Int) (h : x ∉ s) (j : Nat) (hj : j < s.length) : rd s j ≠ x := fun e => h (e ▸ rd_mem s j hj)
theorem two_of_count (l : List Int) (x : Int) (h : l.count x = 2) : ∃ a b, Two l x a b := by
  obtain ⟨s, t, rfl, hs⟩ := List.eq_append_cons_of_mem (List.count_pos_iff.mp (show 0 < l.count x by omega))
  have h0 : s.count x = 0 := List.count_eq_zero.mpr hs
  rw [List.count_append, List.count_cons_self, h0] at h
  obtain ⟨s2, t2, rfl, hs2⟩ := List.eq_append_cons_of_mem (List.count_pos_iff.mp (show 0 < t.count x by omega))
  have h1 : s2.count x = 0 := List.count_eq_zero.mpr hs2
  rw [List.count_append, List.count_cons_self, h1] at h
  have ht2 : x ∉ t2 := List.count_eq_zero.mp (by omega)
  refine ⟨s.length, s.length + (s2.length + 1), by omega, by simp, ?_, ?_, fun j hj e => ?_⟩
  · have := rd_append_right s (x :: (s2 ++ x :: t2)) 0
    rw [Nat.add_zero] at this
    rw [this, rd_cons_zero]
  · rw [rd_append_right, rd_cons_succ]
    have := rd_append_right s2 (x :: t2) 0
    rw [Nat.add_zero] at this
    rw [this, rd_cons_zero]
  · rcases Nat.lt_or_ge j s.length with h1 | h1
    · rw [rd_append_left _ _ _ h1] at e
      exact absurd e (rd_not_mem s x hs j h1)
    · obtain ⟨k, rfl⟩ : ∃ k, j = s.length + k := ⟨j - s.length, by omega⟩
      rw [rd_append_right] at e
      match k with
      | 0 => exact Or.inl rfl
      | k + 1 =>
        rw [rd_cons_succ] at e
        right
        rcases Nat.lt_or_ge k s2.length with h2 | h2
        · rw [rd_append_left _ _ _ h2] at e
          exact absurd e (rd_not_mem s2 x hs2 k h2)
        · obtain ⟨u, rfl⟩ : ∃ u, k = s2.length + u := ⟨k - s2.length, by omega⟩
          rw [rd_append_right] at e
          match u with
          | 0 => omega
          | u + 1 =>
            rw [rd_cons_succ] at e
            simp only [List.length_append, List.length_cons] at hj
            exact absurd e (rd_not_mem t2 x ht2 u (by omega))
section
variable {l : List Int} {n : Nat} (hw : Word l n)
include hw
end
theorem index_l0 (l : List Int) (x : Int) (p : Nat) (hp : p < l.length) (hx : rd l p = x) (hmin : ∀ j, j < p → rd l j ≠ x) (hl : l.length ≤ 4096) (d : Nat) : ∀ i : Nat, p - i = d → i ≤ p → ∃ n, slices_Index_int64_int64.l0 n l x l.length i = some (p : Int) := by
  induction d with
  | zero =>
    intro i hd hi
    obtain rfl : i = p := by omega
    refine ⟨1, ?_⟩
    simp only [slices_Index_int64_int64.l0]
    rw [if_pos (by omega), if_pos (by omega), if_pos (by omega), if_pos hx.symm]
  | succ d ih =>
    intro i hd hi
    obtain ⟨n, hn⟩ := ih (i + 1) (by omega) (by omega)
    refine ⟨n + 1, ?_⟩
    simp only [slices_Index_int64_int64.l0]
    rw [if_pos (by omega), if_pos (by omega), if_pos (by omega), if_neg (fun e => hmin i (by omega) e.symm), wrap_id (by omega) (by omega)]
    exact hn
theorem ev_index (l : List Int) (x : Int) (p : Nat) (hp : p < l.length) (hx : rd l p = x) (hmin : ∀ j, j < p → rd l j ≠ x) (hl : l.length ≤ 4096) : Ev (fun k => slices_Index_int64_int64.f k l x) (p : Int) := by
  refine ev_of (fun k => slices_Index_int64_int64.mono _ _ _) ?_
  obtain ⟨n, hn⟩ := index_l0 l x p hp hx hmin hl p 0 (by omega) (by omega)
  exact ⟨n, by simpa [slices_Index_int64_int64.f] using hn⟩
theorem rd_drop (l : List Int) (a j : Nat) : rd (l.drop a) j = rd l ((a + j : Nat) : Int) := by
  unfold rd
  rw [Int.toNat_natCast, Int.toNat_natCast, List.getD_eq_getElem?_getD, List.getD_eq_getElem?_getD, List.getElem?_drop]
theorem ev_places (l : List Int) (x : Int) (a b : Nat) (ht : Two l x a b) (hl : l.length ≤ 4096) : Ev (fun k => impl_places.f k l x) ((a : Int), (b : Int)) := by
  have hab := ht.ab
  have hbl := ht.bl
  unfold impl_places.f
  refine Ev.bind (ev_index l x a (by omega) ht.ra (fun j hj e => by
    rcases ht.only j (by omega) e with h | h <;> omega) hl) ?_
  rw [wrap_id (x := (a : Int) + 1) (by omega) (by omega)]
  refine ev_pos (by omega) (ev_pos (by omega) ?_)
  rw [show ((a : Int) + 1).toNat = a + 1 by omega]
  refine Ev.bind (ev_index (l.drop (a + 1)) x (b - a - 1) (by rw [List.length_drop]; omega) (by rw [rd_drop, show a + 1 + (b - a - 1) = b by omega, ht.rb]) (fun j hj e => by
    rw [rd_drop] at e
    rcases ht.only (a + 1 + j) (by omega) e with h | h <;> omega) (by rw [List.length_drop]; omega)) ?_
  rw [wrap_id (by omega) (by omega), show ((a : Int) + 1 + ((b - a - 1 : Nat) : Int)) = (b : Int) by omega]
  exact ev_some _
theorem specPlaces_l0 (l : List Int) (x : Int) (a b : Nat) (ht : Two l x a b) (hl : l.length ≤ 4096) (d : Nat) : ∀ (j : Nat) (x6 x7 : Int), l.length - j = d → j ≤ l.length →
    ((j ≤ a ∧ x6 = -1 ∧ x7 = -1) ∨ (a < j ∧ j ≤ b ∧ x6 = a) ∨ (b < j ∧ x6 = a ∧ x7 = b)) → ∃ n, spec_l01Places.l0 n l x x6 x7 j = some ((a : Int), (b : Int)) := by
  have hab := ht.ab
  have hbl := ht.bl
  induction d with
  | zero =>
    intro j x6 x7 hd hj h
    refine ⟨1, ?_⟩
    simp only [spec_l01Places.l0]
    rw [if_neg (by omega)]
    rcases h with ⟨h, _⟩ | ⟨_, h, _⟩ | ⟨_, h6, h7⟩
    · omega
    · omega
    · rw [h6, h7]
  | succ d ih =>
    intro j x6 x7 hd hj h
    have hlt : j < l.length := by clear h; omega
    have hd1 : l.length - (j + 1) = d := by clear h; omega
    by_cases e : rd l j = x
    · rcases ht.only j hlt e with e2 | e2
      · obtain ⟨n, hn⟩ := ih (j + 1) j j hd1 hlt (Or.inr (Or.inl ⟨by omega, by omega, by omega⟩))
        refine ⟨n + 1, ?_⟩
        simp only [spec_l01Places.l0]
        rw [if_pos (by clear h; omega), if_pos (by clear h; omega), if_pos e, if_pos (by rcases h with ⟨_, h, _⟩ | ⟨h, _⟩ | ⟨h, _⟩ <;> omega), wrap_id (by clear h; omega) (by clear h; omega)]
        exact hn
      · obtain ⟨n, hn⟩ := ih (j + 1) a j hd1 hlt (Or.inr (Or.inr ⟨by omega, rfl, by omega⟩))
        have h6 : x6 = a := by rcases h with ⟨h, _⟩ | ⟨_, _, h⟩ | ⟨h, _⟩ <;> omega
        refine ⟨n + 1, ?_⟩
        simp only [spec_l01Places.l0]
        rw [if_pos (by clear h; omega), if_pos (by clear h; omega), if_pos e, if_neg (by clear h; omega), wrap_id (by clear h; omega) (by clear h; omega), h6]
        exact hn
    · have hja : j ≠ a := fun e2 => e (by rw [e2, ht.ra])
      have hjb : j ≠ b := fun e2 => e (by rw [e2, ht.rb])
      obtain ⟨n, hn⟩ := ih (j + 1) x6 x7 hd1 hlt (by
        rcases h with ⟨h, h6, h7⟩ | ⟨h1, h2, h6⟩ | ⟨h, h6, h7⟩
        · exact Or.inl ⟨by omega, h6, h7⟩
        · exact Or.inr (Or.inl ⟨by omega, by omega, h6⟩)
        · exact Or.inr (Or.inr ⟨by omega, h6, h7⟩))
      refine ⟨n + 1, ?_⟩
      simp only [spec_l01Places.l0]
      rw [if_pos (by clear h; omega), if_pos (by clear h; omega), if_neg e, wrap_id (by clear h; omega) (by clear h; omega)]
      exact hn
theorem ev_specPlaces (l : List Int) (x : Int) (a b : Nat) (ht : Two l x a b) (hl : l.length ≤ 4096) : Ev (fun k => spec_l01Places.f k l x) ((a : Int), (b : Int)) := by
  refine ev_of (fun k => spec_l01Places.mono _ _ _) ?_
  obtain ⟨n, hn⟩ := specPlaces_l0 l x a b ht hl l.length 0 (-1) (-1) (by omega) (by omega) (Or.inl ⟨by omega, rfl, rfl⟩)
  exact ⟨n, by simpa [spec_l01Places.f] using hn⟩
end Go.Proofs.Ytihfncjpfgdhoaa.K
end
section
namespace Go.Proofs.Ytihfncjpfgdhoaa.PA
open Go.RowKit Go.Proofs.YtihfncjpfgdhoaaW.PrintWords Go.Proofs.YtihfncjpfgdhoaaW.PrintLast Go.Proofs.YtihfncjpfgdhoaaW.PrintMore
attribute [local go_sem] max2_int min2_int max_two min_two max_three min_three max_four min_four   -- for this text's walks alone
open Go.Proofs.Ytihfncjpfgdhoaa.K
/-! ### spec_l07Without: function 62 -/
mutual
def spec_l07Without.l0 : Nat → List Int → List Int → Int → List Int → List Int → List Int → Option (List Int × List Int × List Int)
  | 0, _, _, _, _, _, _ => none
  | k + 1, x1, x5, x6, x214000, x214001, x214002 => if x6 < (x214000.length : Int) then (spec_l07Without.l1 k x1 x5 x6 false 0 x214000 x214001 x214002) else ((spec_l07Normal.f k x5 x214001 x214002).bind fun bt218 => (some (bt218.1, bt218.2.1, bt218.2.2)))
def spec_l07Without.l1 : Nat → List Int → List Int → Int → Bool → Int → List Int → List Int → List Int → Option (List Int × List Int × List Int)
  | 0, _, _, _, _, _, _, _, _ => none
  | k + 1, x1, x5, x6, x7, x8, x214000, x214001, x214002 => if x8 < (x1.length : Int) then (if x7 = true then (spec_l07Without.l1 k x1 x5 x6 true (wrap64 (x8 + 1)) x214000 x214001 x214002) else (if 0 ≤ x6 then (if x6 < (x214000.length : Int) then (if 0 ≤ x8 then (spec_l07Without.l1 k x1 x5 x6 ((rd x214000 x6) == (rd x1 x8)) (wrap64 (x8 + 1)) x214000 x214001 x214002) else (none)) else (none)) else (none))) else (if x7 = true then (spec_l07Without.l0 k x1 x5 (wrap64 (x6 + 1)) x214000 x214001 x214002) else (if 0 ≤ x6 then (if x6 < (x214000.length : Int) then (if x5.length < 17592186044416 then (spec_l07Without.l0 k x1 (x5 ++ [rd x214000 x6]) (wrap64 (x6 + 1)) x214000 x214001 x214002) else (none)) else (none)) else (none)))
end
def spec_l07Without.f (k : Nat) (l0_0 : List Int) (l0_1 : List Int) (l0_2 : List Int) (l1 : List Int) : Option (List Int × List Int × List Int) := spec_l07Without.l0 k l1 (([] : List Int)) 0 l0_0 l0_1 l0_2
theorem spec_l07Without.mono_l : ∀ k, (∀ y0 y1 y2 y3 y4 y5, LeO (spec_l07Without.l0 k y0 y1 y2 y3 y4 y5) (spec_l07Without.l0 (k + 1) y0 y1 y2 y3 y4 y5)) ∧ (∀ y0 y1 y2 y3 y4 y5 y6 y7, LeO (spec_l07Without.l1 k y0 y1 y2 y3 y4 y5 y6 y7) (spec_l07Without.l1 (k + 1) y0 y1 y2 y3 y4 y5 y6 y7))
  | 0 => ⟨fun _ _ _ _ _ _ r h => by simp [spec_l07Without.l0] at h, fun _ _ _ _ _ _ _ _ r h => by simp [spec_l07Without.l1] at h⟩
  | k + 1 => by
    obtain ⟨ih0, ih1⟩ := spec_l07Without.mono_l k
    refine ⟨?_, ?_⟩
    · intro y0 y1 y2 y3 y4 y5
      unfold spec_l07Without.l0
      repeat' first
      | (with_reducible exact ih0 _ _ _ _ _ _)
      | (with_reducible exact ih1 _ _ _ _ _ _ _ _)
      | (with_reducible exact spec_l07Normal.mono _ _ _ _)
      | (with_reducible exact LeO.refl _)
      | (with_reducible exact LeO.none _)
      | (with_reducible refine LeO.ite ?_ ?_)
      | (with_reducible refine LeO.bind ?_ (fun _ => ?_))
      | exact ih0 _ _ _ _ _ _
      | exact ih1 _ _ _ _ _ _ _ _
      | exact spec_l07Normal.mono _ _ _ _
      | exact LeO.none _
      | refine LeO.ite ?_ ?_
      | refine LeO.bind ?_ (fun _ => ?_)
    · intro y0 y1 y2 y3 y4 y5 y6 y7
      unfold spec_l07Without.l1
      repeat' first
      | (with_reducible exact ih0 _ _ _ _ _ _)
      | (with_reducible exact ih1 _ _ _ _ _ _ _ _)
      | (with_reducible exact spec_l07Normal.mono _ _ _ _)
      | (with_reducible exact LeO.refl _)
      | (with_reducible exact LeO.none _)
      | (with_reducible refine LeO.ite ?_ ?_)
      | (with_reducible refine LeO.bind ?_ (fun _ => ?_))
      | exact ih0 _ _ _ _ _ _
      | exact ih1 _ _ _ _ _ _ _ _
      | exact spec_l07Normal.mono _ _ _ _
      | exact LeO.none _
      | refine LeO.ite ?_ ?_
      | refine LeO.bind ?_ (fun _ => ?_)
theorem spec_l07Without.mono : ∀ a0 a1 a2 a3 k, LeO (spec_l07Without.f k a0 a1 a2 a3) (spec_l07Without.f (k + 1) a0 a1 a2 a3) := by
  intro a0 a1 a2 a3 k
  obtain ⟨ih0, ih1⟩ := spec_l07Without.mono_l k
  unfold spec_l07Without.f
  repeat' first
      | (with_reducible exact ih0 _ _ _ _ _ _)
      | (with_reducible exact ih1 _ _ _ _ _ _ _ _)
      | (with_reducible exact spec_l07Normal.mono _ _ _ _)
      | (with_reducible exact LeO.refl _)
      | (with_reducible exact LeO.none _)
      | (with_reducible refine LeO.ite ?_ ?_)
      | (with_reducible refine LeO.bind ?_ (fun _ => ?_))
      | exact ih0 _ _ _ _ _ _
      | exact ih1 _ _ _ _ _ _ _ _
      | exact spec_l07Normal.mono _ _ _ _
      | exact LeO.none _
      | refine LeO.ite ?_ ?_
      | refine LeO.bind ?_ (fun _ => ?_)
set_option maxHeartbeats 8000000 in
set_option maxRecDepth 100000 in
theorem spec_l07Without.calls (k : Nat) (A0_0 : Option Addr) (c0_0 : Nat) (l0_0 : List Int) (A0_1 : Option Addr) (c0_1 : Nat) (l0_1 : List Int) (A0_2 : Option Addr) (c0_2 : Nat) (l0_2 : List Int) (A1 : Option Addr) (c1 : Nat) (l1 : List Int) (r1 : List Int) (r2 : List Int) (r3 : List Int) (w : World) (hr0_0 : Kd.C (Kd.int .i64) w A0_0 l0_0.length l0_0) (hc0_0 : l0_0.length ≤ c0_0) (hr0_1 : Kd.C (Kd.int .i64) w A0_1 l0_1.length l0_1) (hc0_1 : l0_1.length ≤ c0_1) (hr0_2 : Kd.C (Kd.int .i64) w A0_2 l0_2.length l0_2) (hc0_2 : l0_2.length ≤ c0_2) (hr1 : Kd.C (Kd.int .i64) w A1 l1.length l1) (hc1 : l1.length ≤ c1) (h : spec_l07Without.f k l0_0 l0_1 l0_2 l1 = some (r1, r2, r3)) :
    Calls Try.prog 62 #[.agg #[.slice A0_0 l0_0.length c0_0, .slice A0_1 l0_1.length c0_1, .slice A0_2 l0_2.length c0_2], .slice A1 l1.length c1] w fun e w' => ∃ v0_ v1_ v2_ : Value, e = .returned (.agg #[v0_, v1_, v2_]) ∧ Kd.R (Kd.int .i64) 2 w' w.heap.size (fun k_ => some k_ ≠ (v1_ : Value).ownBlock ∧ some k_ ≠ (v2_ : Value).ownBlock) v0_ r1 ∧ Kd.R (Kd.int .i64) 2 w' w.heap.size (fun k_ => some k_ ≠ (v0_ : Value).ownBlock ∧ some k_ ≠ (v2_ : Value).ownBlock) v1_ r2 ∧ Kd.R (Kd.int .i64) 2 w' w.heap.size (fun k_ => some k_ ≠ (v0_ : Value).ownBlock ∧ some k_ ≠ (v1_ : Value).ownBlock) v2_ r3 ∧ Below w.heap.size w w' := by
  have hu34 := Try.underlying34
  have HR0_0 := Aside0.mk hr0_0
  have HC0_0 := Aside0.mk hc0_0
  clear hr0_0 hc0_0
  have HR0_1 := Aside0.mk hr0_1
  have HC0_1 := Aside0.mk hc0_1
  clear hr0_1 hc0_1
  have HR0_2 := Aside0.mk hr0_2
  have HC0_2 := Aside0.mk hc0_2
  clear hr0_2 hc0_2
  have HR1 := Aside0.mk hr1
  have HC1 := Aside0.mk hc1
  clear hr1 hc1
  have HB := mk0 (Below.refl w.heap.size w)
  have H : (spec_l07Without.l0 k l1 (([] : List Int)) 0 l0_0 l0_1 l0_2) = some (r1, r2, r3) := h
  clear h
  obtain ⟨y215, hy215⟩ : ∃ y_ : List Int, y_ = (([] : List Int)) := ⟨_, rfl⟩
  replace H : (spec_l07Without.l0 k l1 y215 0 l0_0 l0_1 l0_2) = some (r1, r2, r3) := by first | (rw [hy215]; with_reducible exact H) | (have H2_ := (Option.bind_some _ _).symm.trans H; rw [hy215]; with_reducible exact H2_) | (have H2_ := (Option.bind_some _ _).symm.trans H; with_reducible exact H2_) | with_reducible exact H | (rw [hy215]; exact H) | exact H
  have Ny215 := Aside0.mk hy215
  clear hy215
  have H' := Aside0.mk H
  clear H
  go_enter Try.func62, Try.ntmps62
  go_wp2_with (first | ((with_reducible refine gate_dst (N := 2) rfl ?_); refine box_event ?hg (N := 2) ?hd (cs := #[.slice A0_0 l0_0.length c0_0, .slice A0_1 l0_1.length c0_1, .slice A0_2 l0_2.length c0_2]) (t := 34) ?hr ?_; (case hd => rfl); (case hg => rfl); (case hr => first | (go_simp; done) | (go_simp; rfl)); intro gb213 hg w3 hbox hb; have n0_ := mk0 (below_step (by repeat (first | exact HB.out | apply below_alloc | apply pw_below_drewN | apply below_drew1)) hb); have n1_ := mk0 (hbox); have n2_ := mk0 ((by rw [hg]; exact (below_size (by repeat (first | exact HB.out | apply below_alloc | apply pw_below_drewN | apply below_drew1))) : w.heap.size ≤ gb213)); have n3_ := mk0 ((by rw [hg]; exact (below_size (by repeat (first | exact HB.out | apply below_alloc | apply pw_below_drewN | apply below_drew1))) : w.heap.size ≤ gb213)); clear HB; have HB := n0_; have BK213 := n1_; have GW213 := n2_; have GE213 := n3_; clear n0_ n1_ n2_ n3_; clear hb hbox hg) | ((with_reducible refine gate_dst (N := 4) rfl ?_); refine box_event ?hg (N := 4) ?hd (cs := #[.slice none 0 0, .slice none 0 0, .slice none 0 0]) (t := 34) ?hr ?_; (case hd => rfl); (case hg => rfl); (case hr => first | (go_simp; done) | (go_simp; rfl)); intro gb214 hg w4 hbox hb; have n0_ := mk0 (blk_below (by exact BK213.out) hb); have n1_ := mk0 (below_step (by repeat (first | exact HB.out | apply below_alloc | apply pw_below_drewN | apply below_drew1 | refine below_set ?_ GE213.out)) hb); have n2_ := mk0 (hbox); have n3_ := mk0 ((by rw [hg]; exact (below_size (by repeat (first | exact HB.out | apply below_alloc | apply pw_below_drewN | apply below_drew1 | refine below_set ?_ GE213.out))) : w.heap.size ≤ gb214)); have n4_ := mk0 ((by rw [hg]; exact (below_size (by repeat (first | exact HB.out | apply below_alloc | apply pw_below_drewN | apply below_drew1 | refine below_set ?_ GE213.out))) : w.heap.size ≤ gb214)); have n5_ := mk0 ((by rw [hg]; exact Nat.ne_of_lt (blk_lt (g := gb213) (o := .cells #[.slice A0_0 l0_0.length c0_0, .slice A0_1 l0_1.length c0_1, .slice A0_2 l0_2.length c0_2] 34 (0, 0)) (by exact BK213.out)) : gb213 ≠ gb214)); have n6_ := mk0 ((by rw [hg]; exact Nat.ne_of_gt (blk_lt (g := gb213) (o := .cells #[.slice A0_0 l0_0.length c0_0, .slice A0_1 l0_1.length c0_1, .slice A0_2 l0_2.length c0_2] 34 (0, 0)) (by exact BK213.out)) : gb214 ≠ gb213)); clear BK213; clear HB; have BK213 := n0_; have HB := n1_; have BK214 := n2_; have GW214 := n3_; have GE214 := n4_; have NB213_214 := n5_; have NB214_213 := n6_; clear n0_ n1_ n2_ n3_ n4_ n5_ n6_; clear hb hbox hg) | ((with_reducible refine gate_dst (N := 9) rfl ?_); refine Kd.R_lit (Kd.int .i64) _ 2 ?hg (N := 9) ?hd (xs := ([] : List Int)) (inner := []) (ok := fun _ => True) (okp := fun _ => True) ?hr ?hp (fun _ hk => hk) trivial (Below.refl _ _) (Nat.le_refl _) (by simp) ?_; (case hd => rfl); (case hg => rfl); (case hr => first | (go_simp; done) | (go_simp; rfl)); (case hp => exact (Reps.none _ _)); intro v216 w5 ho6 hb hg_ hnew_; clear hg_ hnew_; (first | rw [← Ny215.out] at ho6 | (simp only [Int.reduceToNat] at ho6; rw [← Ny215.out] at ho6)); have n0_ := mk0 (Kd.R_lower ho6 (below_size (by repeat (first | exact HB.out | apply below_alloc | apply pw_below_drewN | apply below_drew1 | refine below_set ?_ GE213.out | refine below_set ?_ GE214.out)))); have n1_ := mk0 (blk_below (by exact BK213.out) hb); have n2_ := mk0 (blk_below (by exact BK214.out) hb); have n3_ := mk0 (below_step (by repeat (first | exact HB.out | apply below_alloc | apply pw_below_drewN | apply below_drew1 | refine below_set ?_ GE213.out | refine below_set ?_ GE214.out)) hb); clear BK213; clear BK214; clear HB; have HO217 := n0_; have BK213 := n1_; have BK214 := n2_; have HB := n3_; clear n0_ n1_ n2_ n3_; clear hb ho6))
  repeat (go_quiet (first | ((with_reducible refine gate_dst (N := 2) rfl ?_); refine box_event ?hg (N := 2) ?hd (cs := #[.slice A0_0 l0_0.length c0_0, .slice A0_1 l0_1.length c0_1, .slice A0_2 l0_2.length c0_2]) (t := 34) ?hr ?_; (case hd => rfl); (case hg => rfl); (case hr => first | (go_simp; done) | (go_simp; rfl)); intro gb213 hg w3 hbox hb; have n0_ := mk0 (below_step (by repeat (first | exact HB.out | apply below_alloc | apply pw_below_drewN | apply below_drew1)) hb); have n1_ := mk0 (hbox); have n2_ := mk0 ((by rw [hg]; exact (below_size (by repeat (first | exact HB.out | apply below_alloc | apply pw_below_drewN | apply below_drew1))) : w.heap.size ≤ gb213)); have n3_ := mk0 ((by rw [hg]; exact (below_size (by repeat (first | exact HB.out | apply below_alloc | apply pw_below_drewN | apply below_drew1))) : w.heap.size ≤ gb213)); clear HB; have HB := n0_; have BK213 := n1_; have GW213 := n2_; have GE213 := n3_; clear n0_ n1_ n2_ n3_; clear hb hbox hg) | ((with_reducible refine gate_dst (N := 4) rfl ?_); refine box_event ?hg (N := 4) ?hd (cs := #[.slice none 0 0, .slice none 0 0, .slice none 0 0]) (t := 34) ?hr ?_; (case hd => rfl); (case hg => rfl); (case hr => first | (go_simp; done) | (go_simp; rfl)); intro gb214 hg w4 hbox hb; have n0_ := mk0 (blk_below (by exact BK213.out) hb); have n1_ := mk0 (below_step (by repeat (first | exact HB.out | apply below_alloc | apply pw_below_drewN | apply below_drew1 | refine below_set ?_ GE213.out)) hb); have n2_ := mk0 (hbox); have n3_ := mk0 ((by rw [hg]; exact (below_size (by repeat (first | exact HB.out | apply below_alloc | apply pw_below_drewN | apply below_drew1 | refine below_set ?_ GE213.out))) : w.heap.size ≤ gb214)); have n4_ := mk0 ((by rw [hg]; exact (below_size (by repeat (first | exact HB.out | apply below_alloc | apply pw_below_drewN | apply below_drew1 | refine below_set ?_ GE213.out))) : w.heap.size ≤ gb214)); have n5_ := mk0 ((by rw [hg]; exact Nat.ne_of_lt (blk_lt (g := gb213) (o := .cells #[.slice A0_0 l0_0.length c0_0, .slice A0_1 l0_1.length c0_1, .slice A0_2 l0_2.length c0_2] 34 (0, 0)) (by exact BK213.out)) : gb213 ≠ gb214)); have n6_ := mk0 ((by rw [hg]; exact Nat.ne_of_gt (blk_lt (g := gb213) (o := .cells #[.slice A0_0 l0_0.length c0_0, .slice A0_1 l0_1.length c0_1, .slice A0_2 l0_2.length c0_2] 34 (0, 0)) (by exact BK213.out)) : gb214 ≠ gb213)); clear BK213; clear HB; have BK213 := n0_; have HB := n1_; have BK214 := n2_; have GW214 := n3_; have GE214 := n4_; have NB213_214 := n5_; have NB214_213 := n6_; clear n0_ n1_ n2_ n3_ n4_ n5_ n6_; clear hb hbox hg) | ((with_reducible refine gate_dst (N := 9) rfl ?_); refine Kd.R_lit (Kd.int .i64) _ 2 ?hg (N := 9) ?hd (xs := ([] : List Int)) (inner := []) (ok := fun _ => True) (okp := fun _ => True) ?hr ?hp (fun _ hk => hk) trivial (Below.refl _ _) (Nat.le_refl _) (by simp) ?_; (case hd => rfl); (case hg => rfl); (case hr => first | (go_simp; done) | (go_simp; rfl)); (case hp => exact (Reps.none _ _)); intro v216 w5 ho6 hb hg_ hnew_; clear hg_ hnew_; (first | rw [← Ny215.out] at ho6 | (simp only [Int.reduceToNat] at ho6; rw [← Ny215.out] at ho6)); have n0_ := mk0 (Kd.R_lower ho6 (below_size (by repeat (first | exact HB.out | apply below_alloc | apply pw_below_drewN | apply below_drew1 | refine below_set ?_ GE213.out | refine below_set ?_ GE214.out)))); have n1_ := mk0 (blk_below (by exact BK213.out) hb); have n2_ := mk0 (blk_below (by exact BK214.out) hb); have n3_ := mk0 (below_step (by repeat (first | exact HB.out | apply below_alloc | apply pw_below_drewN | apply below_drew1 | refine below_set ?_ GE213.out | refine below_set ?_ GE214.out)) hb); clear BK213; clear BK214; clear HB; have HO217 := n0_; have BK213 := n1_; have BK214 := n2_; have HB := n3_; clear n0_ n1_ n2_ n3_; clear hb ho6)); try go_wp2_with (first | ((with_reducible refine gate_dst (N := 2) rfl ?_); refine box_event ?hg (N := 2) ?hd (cs := #[.slice A0_0 l0_0.length c0_0, .slice A0_1 l0_1.length c0_1, .slice A0_2 l0_2.length c0_2]) (t := 34) ?hr ?_; (case hd => rfl); (case hg => rfl); (case hr => first | (go_simp; done) | (go_simp; rfl)); intro gb213 hg w3 hbox hb; have n0_ := mk0 (below_step (by repeat (first | exact HB.out | apply below_alloc | apply pw_below_drewN | apply below_drew1)) hb); have n1_ := mk0 (hbox); have n2_ := mk0 ((by rw [hg]; exact (below_size (by repeat (first | exact HB.out | apply below_alloc | apply pw_below_drewN | apply below_drew1))) : w.heap.size ≤ gb213)); have n3_ := mk0 ((by rw [hg]; exact (below_size (by repeat (first | exact HB.out | apply below_alloc | apply pw_below_drewN | apply below_drew1))) : w.heap.size ≤ gb213)); clear HB; have HB := n0_; have BK213 := n1_; have GW213 := n2_; have GE213 := n3_; clear n0_ n1_ n2_ n3_; clear hb hbox hg) | ((with_reducible refine gate_dst (N := 4) rfl ?_); refine box_event ?hg (N := 4) ?hd (cs := #[.slice none 0 0, .slice none 0 0, .slice none 0 0]) (t := 34) ?hr ?_; (case hd => rfl); (case hg => rfl); (case hr => first | (go_simp; done) | (go_simp; rfl)); intro gb214 hg w4 hbox hb; have n0_ := mk0 (blk_below (by exact BK213.out) hb); have n1_ := mk0 (below_step (by repeat (first | exact HB.out | apply below_alloc | apply pw_below_drewN | apply below_drew1 | refine below_set ?_ GE213.out)) hb); have n2_ := mk0 (hbox); have n3_ := mk0 ((by rw [hg]; exact (below_size (by repeat (first | exact HB.out | apply below_alloc | apply pw_below_drewN | apply below_drew1 | refine below_set ?_ GE213.out))) : w.heap.size ≤ gb214)); have n4_ := mk0 ((by rw [hg]; exact (below_size (by repeat (first | exact HB.out | apply below_alloc | apply pw_below_drewN | apply below_drew1 | refine below_set ?_ GE213.out))) : w.heap.size ≤ gb214)); have n5_ := mk0 ((by rw [hg]; exact Nat.ne_of_lt (blk_lt (g := gb213) (o := .cells #[.slice A0_0 l0_0.length c0_0, .slice A0_1 l0_1.length c0_1, .slice A0_2 l0_2.length c0_2] 34 (0, 0)) (by exact BK213.out)) : gb213 ≠ gb214)); have n6_ := mk0 ((by rw [hg]; exact Nat.ne_of_gt (blk_lt (g := gb213) (o := .cells #[.slice A0_0 l0_0.length c0_0, .slice A0_1 l0_1.length c0_1, .slice A0_2 l0_2.length c0_2] 34 (0, 0)) (by exact BK213.out)) : gb214 ≠ gb213)); clear BK213; clear HB; have BK213 := n0_; have HB := n1_; have BK214 := n2_; have GW214 := n3_; have GE214 := n4_; have NB213_214 := n5_; have NB214_213 := n6_; clear n0_ n1_ n2_ n3_ n4_ n5_ n6_; clear hb hbox hg) | ((with_reducible refine gate_dst (N := 9) rfl ?_); refine Kd.R_lit (Kd.int .i64) _ 2 ?hg (N := 9) ?hd (xs := ([] : List Int)) (inner := []) (ok := fun _ => True) (okp := fun _ => True) ?hr ?hp (fun _ hk => hk) trivial (Below.refl _ _) (Nat.le_refl _) (by simp) ?_; (case hd => rfl); (case hg => rfl); (case hr => first | (go_simp; done) | (go_simp; rfl)); (case hp => exact (Reps.none _ _)); intro v216 w5 ho6 hb hg_ hnew_; clear hg_ hnew_; (first | rw [← Ny215.out] at ho6 | (simp only [Int.reduceToNat] at ho6; rw [← Ny215.out] at ho6)); have n0_ := mk0 (Kd.R_lower ho6 (below_size (by repeat (first | exact HB.out | apply below_alloc | apply pw_below_drewN | apply below_drew1 | refine below_set ?_ GE213.out | refine below_set ?_ GE214.out)))); have n1_ := mk0 (blk_below (by exact BK213.out) hb); have n2_ := mk0 (blk_below (by exact BK214.out) hb); have n3_ := mk0 (below_step (by repeat (first | exact HB.out | apply below_alloc | apply pw_below_drewN | apply below_drew1 | refine below_set ?_ GE213.out | refine below_set ?_ GE214.out)) hb); clear BK213; clear BK214; clear HB; have HO217 := n0_; have BK213 := n1_; have BK214 := n2_; have HB := n3_; clear n0_ n1_ n2_ n3_; clear hb ho6)))
  go_loopg [5, 6] k (fun kq v5 v6 w' => ∃ (x5_1 : List Int) (x6_1 : Int), v6 = .int .i64 x6_1 ∧ Aside0 (spec_l07Without.l0 kq l1 x5_1 x6_1 l0_0 l0_1 l0_2 = some (r1, r2, r3)) ∧ Aside0 (kq ≤ k) ∧ Aside0 (Kd.R (Kd.int .i64) 2 w' w.heap.size (fun _ => True) v5 x5_1) ∧ Aside0 (w'.heap[gb213]? = some (.cells #[(.slice A0_0 l0_0.length c0_0), (.slice A0_1 l0_1.length c0_1), (.slice A0_2 l0_2.length c0_2)] 34 (0, 0))) ∧ Aside0 (w'.heap[gb214]? = some (.cells #[(.slice none 0 0), (.slice none 0 0), (.slice none 0 0)] 34 (0, 0))) ∧ Aside0 (Below w.heap.size w w'))
  case atStart => exact ⟨(y215), (0), (by first | rfl | (simp; done) | (simp [*]; done)), H', ⟨Nat.le_refl _⟩, ⟨by exact HO217.out⟩, ⟨by exact BK213.out⟩, ⟨by exact BK214.out⟩, ⟨by repeat (first | exact HB.out | apply below_alloc | apply pw_below_drewN | apply below_drew1 | refine below_set ?_ GE213.out | refine below_set ?_ GE214.out)⟩⟩
  case round =>
    clear H'
    try clear c1
    try clear p2
    try clear c6
    obtain ⟨x5_1, x6_1, rfl, HA, HK1, HO_5, BK213, BK214, HB⟩ := hrel
    cases gk with
    | zero => exact absurd HA.out (by simp [spec_l07Without.l0])
    | succ k1 =>
      have H := HA.out
      clear HA
      simp only [spec_l07Without.l0] at H
      by_cases c7 : x6_1 < (l0_0.length : Int)
      · rw [if_pos c7] at H
        have c7b0 : decide (x6_1 < (l0_0.length : Int)) = true := decide_eq_true c7
        clear c7
        have H' := Aside0.mk H
        clear H
        have hnb8 := NB213_214.out
        have hnc8 := NB214_213.out
        obtain ⟨hcz9_0, hcz9_1, hcz9_2⟩ := bc3 BK213.out
        obtain ⟨hfz9_0, hfz9_1, hfz9_2⟩ := bf3 BK213.out
        go_wp2
        repeat (go_quiet (fail); try go_wp2)
        go_loopg [7, 8] k1 (fun kq v7 v8 w' => ∃ (x7_2 : Bool) (x8_2 : Int), v7 = .bool x7_2 ∧ v8 = .int .i64 x8_2 ∧ Aside0 (spec_l07Without.l1 kq l1 x5_1 x6_1 x7_2 x8_2 l0_0 l0_1 l0_2 = some (r1, r2, r3)) ∧ Aside0 (kq ≤ k1) ∧ Aside0 (Kd.R (Kd.int .i64) 2 w' w.heap.size (fun _ => True) u5 x5_1) ∧ Aside0 (w'.heap[gb213]? = some (.cells #[(.slice A0_0 l0_0.length c0_0), (.slice A0_1 l0_1.length c0_1), (.slice A0_2 l0_2.length c0_2)] 34 (0, 0))) ∧ Aside0 (w'.heap[gb214]? = some (.cells #[(.slice none 0 0), (.slice none 0 0), (.slice none 0 0)] 34 (0, 0))) ∧ Aside0 (Below w.heap.size w w'))
        case atStart => exact ⟨(false), (0), (by first | rfl | (simp; done) | (simp [*]; done)), (by first | rfl | (simp; done) | (simp [*]; done)), H', ⟨Nat.le_refl _⟩, ⟨by exact HO_5.out⟩, ⟨by exact BK213.out⟩, ⟨by exact BK214.out⟩, ⟨by repeat (first | exact HB.out | apply below_alloc | apply pw_below_drewN | apply below_drew1 | refine below_set ?_ GE213.out | refine below_set ?_ GE214.out)⟩⟩
        case round =>
          clear H'
          try clear c1
          try clear p2
          try clear c6
          try clear c7
          try clear c7b0
          try clear c8
          try clear hcz9_0
          try clear hcz9_1
          try clear hcz9_2
          try clear hfz9_0
          try clear hfz9_1
          try clear hfz9_2
          try clear p2
          obtain ⟨x7_2, x8_2, rfl, rfl, HA, HK2, HO_5, BK213, BK214, HB⟩ := hrel
          cases gk with
          | zero => exact absurd HA.out (by simp [spec_l07Without.l1])
          | succ k2 =>
            have H := HA.out
            clear HA
            simp only [spec_l07Without.l1] at H
            by_cases c10 : x8_2 < (l1.length : Int)
            · rw [if_pos c10] at H
              have c10b0 : decide (x8_2 < (l1.length : Int)) = true := decide_eq_true c10
              clear c10
              by_cases c11 : x7_2 = true
              · subst c11
                have H1 : (spec_l07Without.l1 k2 l1 x5_1 x6_1 true (wrap64 (x8_2 + 1)) l0_0 l0_1 l0_2) = some (r1, r2, r3) := by rw [if_pos rfl] at H; exact H
                clear H
                have H := H1
                clear H1
                have H' := Aside0.mk H
                clear H
                go_wp2
                repeat (go_quiet (fail); try go_wp2)
                go_roundg k2
                case measure => have := HK1.out; have := HK2.out; omega
                case rel => exact ⟨(true), (wrap64 (x8_2 + 1)), (by first | rfl | (simp; done) | (simp [*]; done)), (by first | rfl | (simp; done) | (simp [*]; done)), H', ⟨by have := HK1.out; have := HK2.out; omega⟩, ⟨by exact HO_5.out⟩, ⟨by exact BK213.out⟩, ⟨by exact BK214.out⟩, ⟨by repeat (first | exact HB.out | apply below_alloc | apply pw_below_drewN | apply below_drew1 | refine below_set ?_ GE213.out | refine below_set ?_ GE214.out)⟩⟩
              · replace c11 := Bool.eq_false_iff.mpr c11
                subst c11
                have H1 : (if 0 ≤ x6_1 then (if x6_1 < (l0_0.length : Int) then (if 0 ≤ x8_2 then (spec_l07Without.l1 k2 l1 x5_1 x6_1 ((rd l0_0 x6_1) == (rd l1 x8_2)) (wrap64 (x8_2 + 1)) l0_0 l0_1 l0_2) else (none)) else (none)) else (none)) = some (r1, r2, r3) := by rw [if_neg (show ¬ (false = true) by decide)] at H; exact H
                clear H
                have H := H1
                clear H1
                by_cases c12 : 0 ≤ x6_1
                · rw [if_pos c12] at H
                  have c12b0 : decide (0 ≤ x6_1) = true := decide_eq_true c12
                  clear c12
                  by_cases c13 : x6_1 < (l0_0.length : Int)
                  · rw [if_pos c13] at H
                    have c13b0 : decide (x6_1 < (l0_0.length : Int)) = true := decide_eq_true c13
                    clear c13
                    by_cases c14 : 0 ≤ x8_2
                    · rw [if_pos c14] at H
                      have c14b0 : decide (0 ≤ x8_2) = true := decide_eq_true c14
                      clear c14
                      have H' := Aside0.mk H
                      clear H
                      have hnb15 := NB213_214.out
                      have hnc15 := NB214_213.out
                      obtain ⟨hcz16_0, hcz16_1, hcz16_2⟩ := bc3 BK213.out
                      obtain ⟨hfz16_0, hfz16_1, hfz16_2⟩ := bf3 BK213.out
                      have p227 : 0 ≤ (x6_1 : Int) := of_decide_eq_true (by first | (with_reducible assumption) | assumption)
                      have q227 : x6_1 < (l0_0.length : Int) := of_decide_eq_true (by first | (with_reducible assumption) | assumption)
                      obtain ⟨ad227, e227, hx227_0⟩ := Kd.at_int HR0_0.out x6_1 p227 q227
                      cases e227
                      replace hx227_0 := (HB.out.cell (World.block_lt_of_cell? w _ hx227_0)).trans hx227_0
                      replace p227 := eq_true p227
                      replace q227 := eq_true q227
                      have p228 : 0 ≤ (x8_2 : Int) := of_decide_eq_true (by first | (with_reducible assumption) | assumption)
                      have q228 : x8_2 < (l1.length : Int) := of_decide_eq_true (by first | (with_reducible assumption) | assumption)
                      obtain ⟨ad228, e228, hx228_0⟩ := Kd.at_int HR1.out x8_2 p228 q228
                      cases e228
                      replace hx228_0 := (HB.out.cell (World.block_lt_of_cell? w _ hx228_0)).trans hx228_0
                      replace p228 := eq_true p228
                      replace q228 := eq_true q228
                      go_wp2
                      repeat (go_quiet (fail); try go_wp2)
                      go_roundg k2
                      case measure => have := HK1.out; have := HK2.out; omega
                      case rel => exact ⟨(((rd l0_0 x6_1) == (rd l1 x8_2))), (wrap64 (x8_2 + 1)), (by first | rfl | (simp; done) | (simp [*]; done)), (by first | rfl | (simp; done) | (simp [*]; done)), H', ⟨by have := HK1.out; have := HK2.out; omega⟩, ⟨by exact HO_5.out⟩, ⟨by exact BK213.out⟩, ⟨by exact BK214.out⟩, ⟨by repeat (first | exact HB.out | apply below_alloc | apply pw_below_drewN | apply below_drew1 | refine below_set ?_ GE213.out | refine below_set ?_ GE214.out)⟩⟩
                    · rw [if_neg c14] at H
                      exact absurd H (by simp)
                  · rw [if_neg c13] at H
                    exact absurd H (by simp)
                · rw [if_neg c12] at H
                  exact absurd H (by simp)
            · rw [if_neg c10] at H
              have c10b0 : decide (x8_2 < (l1.length : Int)) = false := decide_eq_false c10
              clear c10
              by_cases c17 : x7_2 = true
              · subst c17
                have H1 : (spec_l07Without.l0 k2 l1 x5_1 (wrap64 (x6_1 + 1)) l0_0 l0_1 l0_2) = some (r1, r2, r3) := by rw [if_pos rfl] at H; exact H
                clear H
                have H := H1
                clear H1
                have H' := Aside0.mk H
                clear H
                go_wp2
                repeat (go_quiet (fail); try go_wp2)
                go_roundg k2
                case measure => have := HK1.out; have := HK2.out; omega
                case rel => exact ⟨(x5_1), (wrap64 (x6_1 + 1)), (by first | rfl | (simp; done) | (simp [*]; done)), H', ⟨by have := HK1.out; have := HK2.out; omega⟩, ⟨by exact HO_5.out⟩, ⟨by exact BK213.out⟩, ⟨by exact BK214.out⟩, ⟨by repeat (first | exact HB.out | apply below_alloc | apply pw_below_drewN | apply below_drew1 | refine below_set ?_ GE213.out | refine below_set ?_ GE214.out)⟩⟩
              · replace c17 := Bool.eq_false_iff.mpr c17
                subst c17
                have H1 : (if 0 ≤ x6_1 then (if x6_1 < (l0_0.length : Int) then (if x5_1.length < 17592186044416 then (spec_l07Without.l0 k2 l1 (x5_1 ++ [rd l0_0 x6_1]) (wrap64 (x6_1 + 1)) l0_0 l0_1 l0_2) else (none)) else (none)) else (none)) = some (r1, r2, r3) := by rw [if_neg (show ¬ (false = true) by decide)] at H; exact H
                clear H
                have H := H1
                clear H1
                by_cases c18 : 0 ≤ x6_1
                · rw [if_pos c18] at H
                  have c18b0 : decide (0 ≤ x6_1) = true := decide_eq_true c18
                  clear c18
                  by_cases c19 : x6_1 < (l0_0.length : Int)
                  · rw [if_pos c19] at H
                    have c19b0 : decide (x6_1 < (l0_0.length : Int)) = true := decide_eq_true c19
                    clear c19
                    by_cases c20 : x5_1.length < 17592186044416
                    · rw [if_pos c20] at H
                      have LMc20 := Aside0.mk c20
                      clear c20
                      obtain ⟨y230, hy230⟩ : ∃ y_ : List Int, y_ = (x5_1 ++ [rd l0_0 x6_1]) := ⟨_, rfl⟩
                      replace H : (spec_l07Without.l0 k2 l1 y230 (wrap64 (x6_1 + 1)) l0_0 l0_1 l0_2) = some (r1, r2, r3) := by first | (rw [hy230]; with_reducible exact H) | (have H2_ := (Option.bind_some _ _).symm.trans H; rw [hy230]; with_reducible exact H2_) | (have H2_ := (Option.bind_some _ _).symm.trans H; with_reducible exact H2_) | with_reducible exact H | (rw [hy230]; exact H) | exact H
                      have Ny230 := Aside0.mk hy230
                      clear hy230
                      have H' := Aside0.mk H
                      clear H
                      have hnb21 := NB213_214.out
                      have hnc21 := NB214_213.out
                      obtain ⟨hcz22_0, hcz22_1, hcz22_2⟩ := bc3 BK213.out
                      obtain ⟨hfz22_0, hfz22_1, hfz22_2⟩ := bf3 BK213.out
                      have p229 : 0 ≤ (x6_1 : Int) := of_decide_eq_true (by first | (with_reducible assumption) | assumption)
                      have q229 : x6_1 < (l0_0.length : Int) := of_decide_eq_true (by first | (with_reducible assumption) | assumption)
                      obtain ⟨ad229, e229, hx229_0⟩ := Kd.at_int HR0_0.out x6_1 p229 q229
                      cases e229
                      replace hx229_0 := (HB.out.cell (World.block_lt_of_cell? w _ hx229_0)).trans hx229_0
                      replace p229 := eq_true p229
                      replace q229 := eq_true q229
                      go_wp2_with (first | ((with_reducible refine gate_builtin (b := .append) (xs := #[.tmp 38, .tmp 44]) rfl ?_); at_builtin; refine Kd.R_append (Kd.int .i64) (w0 := w) w.heap.size rfl (.tmp 38) (.tmp 44) 22 2 (.int .i64 0) 8 rfl Try.underlying22 info2 rfl (by decide) (by omega) u5 x5_1 (rd l0_0 x6_1) [.int .i64 (rd l0_0 x6_1)] (fun _ => True) (fun _ => False) rfl rfl ?aP (fun _ hk => hk.elim) ?aF ?aO ?aB ?aS ?aL ?_; (case aP => exact rfl); (case aB => exact (by repeat (first | exact HB.out | apply below_alloc | apply pw_below_drewN | apply below_drew1 | refine below_set ?_ GE213.out | refine below_set ?_ GE214.out))); (case aF => exact (fun _ _ => trivial)); (case aO => exact HO_5.out); (case aS => exact (below_size (by repeat (first | exact HB.out | apply below_alloc | apply pw_below_drewN | apply below_drew1 | refine below_set ?_ GE213.out | refine below_set ?_ GE214.out)))); (case aL => have := LMc20.out; omega); intro v231 w23 ho hb hg hat; rw [← Ny230.out] at ho; have n0_ := mk0 (blk_grown (g := gb213) (o := .cells #[.slice (some ad229) l0_0.length c0_0, .slice A0_1 l0_1.length c0_1, .slice A0_2 l0_2.length c0_2] 34 (0, 0)) (by exact BK213.out) hg (Kd.R_ne HO_5.out BK213.out (by decide))); have n1_ := mk0 (blk_grown (g := gb214) (o := .cells #[.slice none 0 0, .slice none 0 0, .slice none 0 0] 34 (0, 0)) (by exact BK214.out) hg (Kd.R_ne HO_5.out BK214.out (by decide))); have n2_ := mk0 (hb); have n3_ := mk0 (ho); clear BK213; clear BK214; clear HB; clear HO_5; have BK213 := n0_; have BK214 := n1_; have HB := n2_; have HO232 := n3_; clear n0_ n1_ n2_ n3_; clear ho hb hg hat))
                      repeat (go_quiet (first | ((with_reducible refine gate_builtin (b := .append) (xs := #[.tmp 38, .tmp 44]) rfl ?_); at_builtin; refine Kd.R_append (Kd.int .i64) (w0 := w) w.heap.size rfl (.tmp 38) (.tmp 44) 22 2 (.int .i64 0) 8 rfl Try.underlying22 info2 rfl (by decide) (by omega) u5 x5_1 (rd l0_0 x6_1) [.int .i64 (rd l0_0 x6_1)] (fun _ => True) (fun _ => False) rfl rfl ?aP (fun _ hk => hk.elim) ?aF ?aO ?aB ?aS ?aL ?_; (case aP => exact rfl); (case aB => exact (by repeat (first | exact HB.out | apply below_alloc | apply pw_below_drewN | apply below_drew1 | refine below_set ?_ GE213.out | refine below_set ?_ GE214.out))); (case aF => exact (fun _ _ => trivial)); (case aO => exact HO_5.out); (case aS => exact (below_size (by repeat (first | exact HB.out | apply below_alloc | apply pw_below_drewN | apply below_drew1 | refine below_set ?_ GE213.out | refine below_set ?_ GE214.out)))); (case aL => have := LMc20.out; omega); intro v231 w23 ho hb hg hat; rw [← Ny230.out] at ho; have n0_ := mk0 (blk_grown (g := gb213) (o := .cells #[.slice (some ad229) l0_0.length c0_0, .slice A0_1 l0_1.length c0_1, .slice A0_2 l0_2.length c0_2] 34 (0, 0)) (by exact BK213.out) hg (Kd.R_ne HO_5.out BK213.out (by decide))); have n1_ := mk0 (blk_grown (g := gb214) (o := .cells #[.slice none 0 0, .slice none 0 0, .slice none 0 0] 34 (0, 0)) (by exact BK214.out) hg (Kd.R_ne HO_5.out BK214.out (by decide))); have n2_ := mk0 (hb); have n3_ := mk0 (ho); clear BK213; clear BK214; clear HB; clear HO_5; have BK213 := n0_; have BK214 := n1_; have HB := n2_; have HO232 := n3_; clear n0_ n1_ n2_ n3_; clear ho hb hg hat)); try go_wp2_with (first | ((with_reducible refine gate_builtin (b := .append) (xs := #[.tmp 38, .tmp 44]) rfl ?_); at_builtin; refine Kd.R_append (Kd.int .i64) (w0 := w) w.heap.size rfl (.tmp 38) (.tmp 44) 22 2 (.int .i64 0) 8 rfl Try.underlying22 info2 rfl (by decide) (by omega) u5 x5_1 (rd l0_0 x6_1) [.int .i64 (rd l0_0 x6_1)] (fun _ => True) (fun _ => False) rfl rfl ?aP (fun _ hk => hk.elim) ?aF ?aO ?aB ?aS ?aL ?_; (case aP => exact rfl); (case aB => exact (by repeat (first | exact HB.out | apply below_alloc | apply pw_below_drewN | apply below_drew1 | refine below_set ?_ GE213.out | refine below_set ?_ GE214.out))); (case aF => exact (fun _ _ => trivial)); (case aO => exact HO_5.out); (case aS => exact (below_size (by repeat (first | exact HB.out | apply below_alloc | apply pw_below_drewN | apply below_drew1 | refine below_set ?_ GE213.out | refine below_set ?_ GE214.out)))); (case aL => have := LMc20.out; omega); intro v231 w23 ho hb hg hat; rw [← Ny230.out] at ho; have n0_ := mk0 (blk_grown (g := gb213) (o := .cells #[.slice (some ad229) l0_0.length c0_0, .slice A0_1 l0_1.length c0_1, .slice A0_2 l0_2.length c0_2] 34 (0, 0)) (by exact BK213.out) hg (Kd.R_ne HO_5.out BK213.out (by decide))); have n1_ := mk0 (blk_grown (g := gb214) (o := .cells #[.slice none 0 0, .slice none 0 0, .slice none 0 0] 34 (0, 0)) (by exact BK214.out) hg (Kd.R_ne HO_5.out BK214.out (by decide))); have n2_ := mk0 (hb); have n3_ := mk0 (ho); clear BK213; clear BK214; clear HB; clear HO_5; have BK213 := n0_; have BK214 := n1_; have HB := n2_; have HO232 := n3_; clear n0_ n1_ n2_ n3_; clear ho hb hg hat)))
                      go_roundg k2
                      case measure => have := HK1.out; have := HK2.out; omega
                      case rel => exact ⟨(y230), (wrap64 (x6_1 + 1)), (by first | rfl | (simp; done) | (simp [*]; done)), H', ⟨by have := HK1.out; have := HK2.out; omega⟩, ⟨by exact HO232.out⟩, ⟨by exact BK213.out⟩, ⟨by exact BK214.out⟩, ⟨by repeat (first | exact HB.out | apply below_alloc | apply pw_below_drewN | apply below_drew1 | refine below_set ?_ GE213.out | refine below_set ?_ GE214.out)⟩⟩
                    · rw [if_neg c20] at H
                      exact absurd H (by simp)
                  · rw [if_neg c19] at H
                    exact absurd H (by simp)
                · rw [if_neg c18] at H
                  exact absurd H (by simp)
      · rw [if_neg c7] at H
        have c7b0 : decide (x6_1 < (l0_0.length : Int)) = false := decide_eq_false c7
        clear c7
        replace H := Option.bind_eq_some_iff.mp H
        obtain ⟨⟨t218, t221, t224⟩, A240, H⟩ := H
        replace H : (some (t218, t221, t224)) = some (r1, r2, r3) := H
        have A24 := Aside0.mk A240
        clear A240
        simp only [Option.some.injEq, Prod.mk.injEq] at H
        obtain ⟨rfl, rfl, rfl⟩ := H
        have hnb25 := NB213_214.out
        have hnc25 := NB214_213.out
        obtain ⟨hcz26_0, hcz26_1, hcz26_2⟩ := bc3 BK213.out
        obtain ⟨hfz26_0, hfz26_1, hfz26_2⟩ := bf3 BK213.out
        obtain ⟨Ao27, co27, eo27⟩ := Kd.R_slice HO_5.out
        subst eo27
        go_wp2_with (first | (go_at_call 68; (with_reducible refine (spec_l07Normal.calls k1 _ _ x5_1 _ _ l0_1 _ _ l0_2 t218 t221 t224 _ ?side1 ?side2 ?side3 ?side4 ?side5 ?side6 A24.out).mono ?_); (case side1 => exact (Kd.R_reads' HO_5.out).2.2); (case side2 => exact (Kd.R_reads' HO_5.out).2.1); (case side3 => exact (Kd.C_below HR0_1.out HB.out)); (case side4 => exact HC0_1.out); (case side5 => exact (Kd.C_below HR0_2.out HB.out)); (case side6 => exact HC0_2.out); rintro e w28 ⟨v219, v222, v225, rfl, ho0, ho1, ho2, hb⟩; have n0_ := mk0 (Kd.R_mono (Kd.R_told (Kd.R_told (Kd.R_told (Kd.R_old HO_5.out hb) (Kd.R_base ho0)) (Kd.R_base ho1)) (Kd.R_base ho2)) (fun _ h_ => h_.1)); have n1_ := mk0 (Kd.R_lower (Kd.R_new' ho0 (Kd.R_lt HO_5.out)) (below_size (by repeat (first | exact HB.out | apply below_alloc | apply pw_below_drewN | apply below_drew1 | refine below_set ?_ GE213.out | refine below_set ?_ GE214.out)))); have n2_ := mk0 (Kd.R_lower (Kd.R_new' ho1 (Kd.R_lt HO_5.out)) (below_size (by repeat (first | exact HB.out | apply below_alloc | apply pw_below_drewN | apply below_drew1 | refine below_set ?_ GE213.out | refine below_set ?_ GE214.out)))); have n3_ := mk0 (Kd.R_lower (Kd.R_new' ho2 (Kd.R_lt HO_5.out)) (below_size (by repeat (first | exact HB.out | apply below_alloc | apply pw_below_drewN | apply below_drew1 | refine below_set ?_ GE213.out | refine below_set ?_ GE214.out)))); have n4_ := mk0 (blk_below (by exact BK213.out) hb); have n5_ := mk0 (blk_below (by exact BK214.out) hb); have n6_ := mk0 (below_step (by repeat (first | exact HB.out | apply below_alloc | apply pw_below_drewN | apply below_drew1 | refine below_set ?_ GE213.out | refine below_set ?_ GE214.out)) hb); clear HO_5; clear BK213; clear BK214; clear HB; have HO_5 := n0_; have HO220 := n1_; have HO223 := n2_; have HO226 := n3_; have BK213 := n4_; have BK214 := n5_; have HB := n6_; clear n0_ n1_ n2_ n3_ n4_ n5_ n6_; (try clear hb); (try clear hb2); (try clear hk); (try clear hi); (try clear ho0); (try clear ho1); (try clear ho2); obtain ⟨Ao29, co29, eo29⟩ := Kd.R_slice HO220.out; subst eo29; obtain ⟨hcz30_0, hcz30_1, hcz30_2⟩ := bc3 BK214.out; obtain ⟨hfz30_0, hfz30_1, hfz30_2⟩ := bf3 BK214.out; obtain ⟨Ao31, co31, eo31⟩ := Kd.R_slice HO223.out; subst eo31; obtain ⟨Ao32, co32, eo32⟩ := Kd.R_slice HO226.out; subst eo32))
        repeat (go_quiet (first | (go_at_call 68; (with_reducible refine (spec_l07Normal.calls k1 _ _ x5_1 _ _ l0_1 _ _ l0_2 t218 t221 t224 _ ?side1 ?side2 ?side3 ?side4 ?side5 ?side6 A24.out).mono ?_); (case side1 => exact (Kd.R_reads' HO_5.out).2.2); (case side2 => exact (Kd.R_reads' HO_5.out).2.1); (case side3 => exact (Kd.C_below HR0_1.out HB.out)); (case side4 => exact HC0_1.out); (case side5 => exact (Kd.C_below HR0_2.out HB.out)); (case side6 => exact HC0_2.out); rintro e w28 ⟨v219, v222, v225, rfl, ho0, ho1, ho2, hb⟩; have n0_ := mk0 (Kd.R_mono (Kd.R_told (Kd.R_told (Kd.R_told (Kd.R_old HO_5.out hb) (Kd.R_base ho0)) (Kd.R_base ho1)) (Kd.R_base ho2)) (fun _ h_ => h_.1)); have n1_ := mk0 (Kd.R_lower (Kd.R_new' ho0 (Kd.R_lt HO_5.out)) (below_size (by repeat (first | exact HB.out | apply below_alloc | apply pw_below_drewN | apply below_drew1 | refine below_set ?_ GE213.out | refine below_set ?_ GE214.out)))); have n2_ := mk0 (Kd.R_lower (Kd.R_new' ho1 (Kd.R_lt HO_5.out)) (below_size (by repeat (first | exact HB.out | apply below_alloc | apply pw_below_drewN | apply below_drew1 | refine below_set ?_ GE213.out | refine below_set ?_ GE214.out)))); have n3_ := mk0 (Kd.R_lower (Kd.R_new' ho2 (Kd.R_lt HO_5.out)) (below_size (by repeat (first | exact HB.out | apply below_alloc | apply pw_below_drewN | apply below_drew1 | refine below_set ?_ GE213.out | refine below_set ?_ GE214.out)))); have n4_ := mk0 (blk_below (by exact BK213.out) hb); have n5_ := mk0 (blk_below (by exact BK214.out) hb); have n6_ := mk0 (below_step (by repeat (first | exact HB.out | apply below_alloc | apply pw_below_drewN | apply below_drew1 | refine below_set ?_ GE213.out | refine below_set ?_ GE214.out)) hb); clear HO_5; clear BK213; clear BK214; clear HB; have HO_5 := n0_; have HO220 := n1_; have HO223 := n2_; have HO226 := n3_; have BK213 := n4_; have BK214 := n5_; have HB := n6_; clear n0_ n1_ n2_ n3_ n4_ n5_ n6_; (try clear hb); (try clear hb2); (try clear hk); (try clear hi); (try clear ho0); (try clear ho1); (try clear ho2); obtain ⟨Ao29, co29, eo29⟩ := Kd.R_slice HO220.out; subst eo29; obtain ⟨hcz30_0, hcz30_1, hcz30_2⟩ := bc3 BK214.out; obtain ⟨hfz30_0, hfz30_1, hfz30_2⟩ := bf3 BK214.out; obtain ⟨Ao31, co31, eo31⟩ := Kd.R_slice HO223.out; subst eo31; obtain ⟨Ao32, co32, eo32⟩ := Kd.R_slice HO226.out; subst eo32)); try go_wp2_with (first | (go_at_call 68; (with_reducible refine (spec_l07Normal.calls k1 _ _ x5_1 _ _ l0_1 _ _ l0_2 t218 t221 t224 _ ?side1 ?side2 ?side3 ?side4 ?side5 ?side6 A24.out).mono ?_); (case side1 => exact (Kd.R_reads' HO_5.out).2.2); (case side2 => exact (Kd.R_reads' HO_5.out).2.1); (case side3 => exact (Kd.C_below HR0_1.out HB.out)); (case side4 => exact HC0_1.out); (case side5 => exact (Kd.C_below HR0_2.out HB.out)); (case side6 => exact HC0_2.out); rintro e w28 ⟨v219, v222, v225, rfl, ho0, ho1, ho2, hb⟩; have n0_ := mk0 (Kd.R_mono (Kd.R_told (Kd.R_told (Kd.R_told (Kd.R_old HO_5.out hb) (Kd.R_base ho0)) (Kd.R_base ho1)) (Kd.R_base ho2)) (fun _ h_ => h_.1)); have n1_ := mk0 (Kd.R_lower (Kd.R_new' ho0 (Kd.R_lt HO_5.out)) (below_size (by repeat (first | exact HB.out | apply below_alloc | apply pw_below_drewN | apply below_drew1 | refine below_set ?_ GE213.out | refine below_set ?_ GE214.out)))); have n2_ := mk0 (Kd.R_lower (Kd.R_new' ho1 (Kd.R_lt HO_5.out)) (below_size (by repeat (first | exact HB.out | apply below_alloc | apply pw_below_drewN | apply below_drew1 | refine below_set ?_ GE213.out | refine below_set ?_ GE214.out)))); have n3_ := mk0 (Kd.R_lower (Kd.R_new' ho2 (Kd.R_lt HO_5.out)) (below_size (by repeat (first | exact HB.out | apply below_alloc | apply pw_below_drewN | apply below_drew1 | refine below_set ?_ GE213.out | refine below_set ?_ GE214.out)))); have n4_ := mk0 (blk_below (by exact BK213.out) hb); have n5_ := mk0 (blk_below (by exact BK214.out) hb); have n6_ := mk0 (below_step (by repeat (first | exact HB.out | apply below_alloc | apply pw_below_drewN | apply below_drew1 | refine below_set ?_ GE213.out | refine below_set ?_ GE214.out)) hb); clear HO_5; clear BK213; clear BK214; clear HB; have HO_5 := n0_; have HO220 := n1_; have HO223 := n2_; have HO226 := n3_; have BK213 := n4_; have BK214 := n5_; have HB := n6_; clear n0_ n1_ n2_ n3_ n4_ n5_ n6_; (try clear hb); (try clear hb2); (try clear hk); (try clear hi); (try clear ho0); (try clear ho1); (try clear ho2); obtain ⟨Ao29, co29, eo29⟩ := Kd.R_slice HO220.out; subst eo29; obtain ⟨hcz30_0, hcz30_1, hcz30_2⟩ := bc3 BK214.out; obtain ⟨hfz30_0, hfz30_1, hfz30_2⟩ := bf3 BK214.out; obtain ⟨Ao31, co31, eo31⟩ := Kd.R_slice HO223.out; subst eo31; obtain ⟨Ao32, co32, eo32⟩ := Kd.R_slice HO226.out; subst eo32)))
        refine bodyPost_ret (results_cell_row rfl _ _ gb214 34 #[.slice Ao29 t218.length co29, .slice Ao31 t221.length co31, .slice Ao32 t224.length co32] (0, 0) _ rfl (by refine blk_put (cs := #[.slice Ao29 t218.length co29, .slice Ao31 t221.length co31, .slice none 0 0]) ?_ 2 _ rfl; refine blk_put (cs := #[.slice Ao29 t218.length co29, .slice none 0 0, .slice none 0 0]) ?_ 1 _ rfl; refine blk_put (cs := #[.slice none 0 0, .slice none 0 0, .slice none 0 0]) ?_ 0 _ rfl; exact BK214.out) Try.underlying34 rfl (by kernel_rfl)) rfl ?_
        exact ⟨_, _, _, by first | rfl | (simp [errW_none, errW_some] <;> rfl) | (simp [*, errW_none, errW_some] <;> rfl), by exact Kd.R_mono (Kd.R_far (p := ⟨gb214, 2, none⟩) (Kd.R_far (p := ⟨gb214, 1, none⟩) (Kd.R_far (p := ⟨gb214, 0, none⟩) (Kd.R_types HO220.out BK214.out (by decide)) (fun _ hk => hk.2) (.slice Ao29 t218.length co29)) (fun _ hk => hk.2) (.slice Ao31 t221.length co31)) (fun _ hk => hk.2) (.slice Ao32 t224.length co32)) (fun _ hk => ⟨hk.1.1.1, hk.1.1.2⟩), by exact Kd.R_mono (Kd.R_far (p := ⟨gb214, 2, none⟩) (Kd.R_far (p := ⟨gb214, 1, none⟩) (Kd.R_far (p := ⟨gb214, 0, none⟩) (Kd.R_types HO223.out BK214.out (by decide)) (fun _ hk => hk.2) (.slice Ao29 t218.length co29)) (fun _ hk => hk.2) (.slice Ao31 t221.length co31)) (fun _ hk => hk.2) (.slice Ao32 t224.length co32)) (fun _ hk => ⟨hk.1.1.1, hk.1.1.2⟩), by exact Kd.R_mono (Kd.R_far (p := ⟨gb214, 2, none⟩) (Kd.R_far (p := ⟨gb214, 1, none⟩) (Kd.R_far (p := ⟨gb214, 0, none⟩) (Kd.R_types HO226.out BK214.out (by decide)) (fun _ hk => hk.2) (.slice Ao29 t218.length co29)) (fun _ hk => hk.2) (.slice Ao31 t221.length co31)) (fun _ hk => hk.2) (.slice Ao32 t224.length co32)) (fun _ hk => ⟨hk.1.1.1, hk.1.1.2⟩), by repeat (first | exact HB.out | apply below_alloc | apply pw_below_drewN | apply below_drew1 | refine below_set ?_ GE213.out | refine below_set ?_ GE214.out)⟩
end Go.Proofs.Ytihfncjpfgdhoaa.PA
end
section
namespace Go.Proofs.Ytihfncjpfgdhoaa.K
open Go.RowKit Go.Proofs.YtihfncjpfgdhoaaW.PrintWords Go.Proofs.YtihfncjpfgdhoaaW.PrintLast Go.Proofs.YtihfncjpfgdhoaaW.PrintMore Go.Proofs.Ytihfncjpfgdhoaa.PA Go.Proofs.Ytihfncjpfgdhoaa.PE
theorem without_l1 (w h s cs out : List Int) (i : Nat) (hi : i < w.length) (hl : w.length ≤ 4096) (ho : out.length ≤ i) (hcs : cs.length ≤ 4096) (r : List Int × List Int × List Int)
    (hyes : rd w i ∈ cs → Ev (fun k => spec_l07Without.l0 k cs out ((i : Int) + 1) w h s) r)
    (hno : rd w i ∉ cs → Ev (fun k => spec_l07Without.l0 k cs (out ++ [rd w i]) ((i : Int) + 1) w h s) r) (d : Nat) :
    ∀ (j : Nat) (b : Bool), cs.length - j = d → j ≤ cs.length → (b = true ↔ rd w i ∈ cs.take j) → Ev (fun k => spec_l07Without.l1 k cs out i b j w h s) r := by
  induction d with
  | zero =>
    intro j b hd hj hb
    rw [List.take_of_length_le (by omega)] at hb
    refine Ev.step (fun k => by rw [spec_l07Without.l1]) ?_
    refine ev_neg (by omega) ?_
    by_cases h : rd w i ∈ cs
    · refine ev_pos (hb.mpr h) ?_
      rw [wrap_id (by omega) (by omega)]
      exact hyes h
    · refine ev_neg (fun e => h (hb.mp e)) (ev_pos (by omega) (ev_pos (by omega) (ev_pos (by omega) ?_)))
      rw [wrap_id (by omega) (by omega)]
      exact hno h
  | succ d ih =>
    intro j b hd hj hb
    have hlt : j < cs.length := by omega
    have ht := take_snoc cs j hlt
    refine Ev.step (fun k => by rw [spec_l07Without.l1]) ?_
    refine ev_pos (by omega) ?_
    rw [wrap_id (x := (j : Int) + 1) (by omega) (by omega)]
    by_cases hbt : b = true
    · refine ev_pos hbt (ih (j + 1) true (by omega) (by omega) ?_)
      rw [ht]
      simp [hb.mp hbt]
    · refine ev_neg hbt (ev_pos (by omega) (ev_pos (by omega) (ev_pos (by omega) (ih (j + 1) _ (by omega) (by omega) ?_))))
      rw [ht]
      have : rd w i ∉ cs.take j := fun e => hbt (hb.mpr e)
      simp [this]
theorem without_l0 (w h s cs : List Int) (hl : w.length ≤ 4096) (hcs : cs.length ≤ 4096) (hin : ∀ x ∈ w, 0 ≤ x ∧ x < h.length ∧ x < s.length) (d : Nat) : ∀ (i : Nat) (out : List Int), w.length - i = d → i ≤ w.length → out = (w.take i).filter (fun x => !decide (x ∈ cs)) →
    Ev (fun k => spec_l07Without.l0 k cs out i w h s) (normalL (w.filter fun x => !decide (x ∈ cs)), firsts (w.filter fun x => !decide (x ∈ cs)) h, firsts (w.filter fun x => !decide (x ∈ cs)) s) := by
  induction d with
  | zero =>
    intro i out hd hi ho
    rw [List.take_of_length_le (by omega)] at ho
    subst ho
    refine Ev.step (fun k => by rw [spec_l07Without.l0]) ?_
    refine ev_neg (by omega) ?_
    refine Ev.bind (ev_l07Normal _ h s (Nat.le_trans (List.length_filter_le _ _) hl) (fun x hx => hin x (List.mem_filter.mp hx).1)) (ev_some _)
  | succ d ih =>
    intro i out hd hi ho
    have hlt : i < w.length := by omega
    have ht := take_snoc w i hlt
    have hol : out.length ≤ i := by rw [ho]; exact Nat.le_trans (List.length_filter_le _ _) (List.length_take_le _ _)
    refine Ev.step (fun k => by rw [spec_l07Without.l0]) ?_
    refine ev_pos (by omega) ?_
    refine without_l1 w h s cs out i hlt hl hol hcs _ (fun h1 => ?_) (fun h1 => ?_) cs.length 0 false (by omega) (by omega) (by simp)
    · exact ih (i + 1) out (by omega) (by omega) (by rw [ht, List.filter_append, ho]; simp [h1])
    · exact ih (i + 1) _ (by omega) (by omega) (by rw [ht, List.filter_append, ho]; simp [h1])
theorem ev_without (w h s cs : List Int) (hl : w.length ≤ 4096) (hcs : cs.length ≤ 4096) (hin : ∀ x ∈ w, 0 ≤ x ∧ x < h.length ∧ x < s.length) :
    Ev (fun k => spec_l07Without.f k w h s cs) (normalL (w.filter fun x => !decide (x ∈ cs)), firsts (w.filter fun x => !decide (x ∈ cs)) h, firsts (w.filter fun x => !decide (x ∈ cs)) s) := by
  unfold spec_l07Without.f
  exact without_l0 w h s cs hl hcs hin w.length 0 [] (by omega) (by omega) (by simp)
theorem chord_l0 (w h s cs : List Int) (hs : s.length ≤ 4096) (hcs : cs.length ≤ 4096) (d : Nat) : ∀ j : Nat, cs.length - j = d → j ≤ cs.length →
    Ev (fun k => spec_l07Chord.l0 k cs j w h s) (if (cs.drop j).all (fun i => inB i 0 ((s.length : Int) - 1)) then 0 else 2) := by
  induction d with
  | zero =>
    intro j hd hj
    rw [List.drop_of_length_le (by omega)]
    refine Ev.step (fun k => by rw [spec_l07Chord.l0]) ?_
    exact ev_neg (by omega) (ev_some _)
  | succ d ih =>
    intro j hd hj
    have hlt : j < cs.length := by omega
    rw [drop_at cs j hlt]
    refine Ev.step (fun k => by rw [spec_l07Chord.l0]) ?_
    refine ev_pos (by omega) (ev_pos (by omega) ?_)
    rw [wrap_id (x := (s.length : Int) - 1) (by omega) (by omega), wrap_id (x := (j : Int) + 1) (by omega) (by omega)]
    refine ev_const (inB_l01In _ _ _) ?_
    rw [List.all_cons]
    refine ev_if (fun h1 => ?_) (fun h1 => ?_)
    · rw [h1, Bool.true_and]; exact ih (j + 1) (by omega) (by omega)
    · rw [Bool.eq_false_iff.mpr h1, Bool.false_and]; exact ev_some _
theorem ev_chord (w h s cs : List Int) (hhl : h.length ≤ 1048576) (hsl : s.length ≤ 1048576) (hcs : cs.length ≤ 4096) :
    Ev (fun k => spec_l07Chord.f k w h s cs) (if isGaussL w h s then (if cs.all (fun i => inB i 0 ((s.length : Int) - 1)) then 0 else 2) else 1) := by
  unfold spec_l07Chord.f
  refine Ev.bind (ev_specGauss w h s (by omega) (by omega)) ?_
  cases hg : isGaussL w h s with
  | false => exact ev_neg (by simp) (ev_some _)
  | true =>
    obtain ⟨hw, hh, hs⟩ := gauss_parts hg
    obtain ⟨h12, hr⟩ := word_range hw
    refine ev_pos rfl ?_
    have := chord_l0 w h s cs (by omega) hcs cs.length 0 (by omega) (by omega)
    simpa using this
theorem isChord_some (w : List Int) (i : Int) (hl : w.length ≤ 1048576) : impl_isChord.f w i = some (inB i 0 (((w.length / 2 : Nat) : Int) - 1)) := by
  unfold impl_isChord.f impl_chords.f
  have h2 : (w.length : Int) / 2 = ((w.length / 2 : Nat) : Int) := by omega
  simp only [Option.bind_some]
  rw [wrap_id (x := (w.length : Int) / 2) (by omega) (by omega), wrap_id (by omega) (by omega), h2]
  unfold impl_in.f inB
  by_cases h : i ≥ 0
  · rw [if_pos h, decide_eq_true (show (0 : Int) ≤ i from h)]; simp
  · rw [if_neg h, decide_eq_false (show ¬ (0 : Int) ≤ i from h)]; simp
theorem gauss_two {w h s : List Int} (hg : isGaussL w h s = true) {i : Int} (hi : inB i 0 (((w.length / 2 : Nat) : Int) - 1) = true) : ∃ a b, Two w i a b := by
  obtain ⟨hw, hh, hs⟩ := gauss_parts hg
  obtain ⟨n, hn⟩ := word_of w hw
  have hlen := hn.len
  unfold inB at hi
  simp only [Bool.and_eq_true, decide_eq_true_eq] at hi
  obtain ⟨j, rfl⟩ : ∃ j : Nat, i = j := ⟨i.toNat, by omega⟩
  exact two_of_count w j (hn.two j (by omega))
end Go.Proofs.Ytihfncjpfgdhoaa.K
end
section
namespace Go.Proofs.Ytihfncjpfgdhoaa.K
open Go.RowKit Go.Proofs.YtihfncjpfgdhoaaW.PrintWords Go.Proofs.YtihfncjpfgdhoaaW.PrintLast Go.Proofs.YtihfncjpfgdhoaaW.PrintMore
theorem zero_i64' (w : World) : (zeroValue 2).run Try.prog w = .ok (.int .i64 0) w := by kernel_rfl
theorem cleared {base g cap n : Nat} {ok : Nat → Prop} (m : Nat) : ∀ (i : Nat) (W : World) (cur : List Int), RI W base ok (.slice (some ⟨g, 0, none⟩) n cap) cur → cur.length = n → i + m = n →
    ∃ cur', RI (W.setCells g i (List.replicate m (.int .i64 0))) base ok (.slice (some ⟨g, 0, none⟩) n cap) cur' ∧ cur'.length = n ∧ cur'.take i = cur.take i ∧ W.grownBy (W.setCells g i (List.replicate m (.int .i64 0))) (some g) := by
  induction m with
  | zero => intro i W cur h hl _; exact ⟨cur, h, hl, rfl, World.grownBy.refl _ _⟩
  | succ m ih =>
    intro i W cur h hl him
    obtain ⟨h2, hg⟩ := Kd.R_putg h (i : Int) (0 : Int)
    rw [Int.toNat_natCast] at h2 hg
    obtain ⟨cur', h3, h4, h5, h6⟩ := ih (i + 1) _ _ h2 (by simpa using hl) (by omega)
    refine ⟨cur', h3, h4, ?_, hg.trans h6⟩
    have := congrArg (List.take i) h5
    rw [List.take_take, List.take_take, Nat.min_eq_left (Nat.le_succ i), List.take_set_of_le (Nat.le_refl _)] at this
    exact this
theorem filter_take_snoc (p : Int → Bool) (l : List Int) (j : Nat) (h : j < l.length) : (l.take (j + 1)).filter p = (l.take j).filter p ++ (if p (rd l j) then [rd l j] else []) := by
  have e : rd l j = l[j] := by unfold rd; rw [Int.toNat_natCast, List.getD_eq_getElem?_getD, List.getElem?_eq_getElem h]; rfl
  rw [List.take_succ_eq_append_getElem h, List.filter_append, e]
  congr 1
  cases hp : p l[j] <;> simp [hp]
theorem rd_set_ne (l : List Int) (i j : Nat) (v : Int) (h : i ≠ j) : rd (l.set i v) j = rd l j := by
  unfold rd
  rw [Int.toNat_natCast, List.getD_eq_getElem?_getD, List.getElem?_set, if_neg h, List.getD_eq_getElem?_getD]
structure Del (W0 W : World) (base g cap n : Nat) (ok : Nat → Prop) (p : Int → Bool) (l cur : List Int) (i j : Nat) : Prop where
  row : RI W base ok (.slice (some ⟨g, 0, none⟩) n cap) cur
  len : cur.length = n
  ij : i < j
  jn : j ≤ n
  kept : cur.take i = (l.take j).filter fun x => !p x
  rest : ∀ t, j ≤ t → t < n → rd cur t = rd l t
  grown : W0.grownBy W (some g)
  cnt : i = ((l.take j).filter fun x => !p x).length
theorem Del.miss {W0 W W2 : World} {base g cap n : Nat} {ok : Nat → Prop} {p : Int → Bool} {l cur : List Int} {i j : Nat} (h : Del W0 W base g cap n ok p l cur i j) (hj : j < n) (hn : l.length = n) (hp : p (rd l j) = true) (hb : Below W.heap.size W W2) : Del W0 W2 base g cap n ok p l cur i (j + 1) := by
  have e := filter_take_snoc (fun x => !p x) l j (by omega)
  rw [hp] at e
  simp only [Bool.not_true, Bool.false_eq_true, if_false, List.append_nil] at e
  exact ⟨Kd.R_below h.row hb, h.len, by have := h.ij; omega, by omega, by rw [e]; exact h.kept, fun t h1 h2 => h.rest t (by omega) h2, h.grown.trans (grown_of_below hb _), by rw [e]; exact h.cnt⟩
theorem Del.hit {W0 W W2 W3 : World} {base g cap n : Nat} {ok : Nat → Prop} {p : Int → Bool} {l cur : List Int} {i j : Nat} (h : Del W0 W base g cap n ok p l cur i j) (hj : j < n) (hn : l.length = n) (hp : p (rd l j) = false) (hb : Below W.heap.size W W2)
    (hr : RI W3 base ok (.slice (some ⟨g, 0, none⟩) n cap) (cur.set i (rd l j))) (hg : W2.grownBy W3 (some g)) : Del W0 W3 base g cap n ok p l (cur.set i (rd l j)) (i + 1) (j + 1) := by
  have e := filter_take_snoc (fun x => !p x) l j (by omega)
  rw [hp] at e
  simp only [Bool.not_false, if_true] at e
  have hij := h.ij
  refine ⟨hr, by simpa using h.len, by omega, by omega, ?_, fun t h1 h2 => ?_, (h.grown.trans (grown_of_below hb _)).trans hg, by rw [e, List.length_append, ← h.cnt]; rfl⟩
  · rw [e, ← h.kept, List.take_succ_eq_append_getElem (by simp [h.len]; omega), List.take_set_of_le (Nat.le_refl _)]
    simp
  · rw [rd_set_ne _ _ _ _ (by omega)]
    exact h.rest t (by omega) h2
set_option maxHeartbeats 2000000 in
set_option maxRecDepth 100000 in
theorem c_deleteFunc (w : World) (base g cap : Nat) (ok : Nat → Prop) (l : List Int) (fv : Value) (p : Int → Bool) (hO : RI w base ok (.slice (some ⟨g, 0, none⟩) l.length cap) l) (hl : l.length < 1099511627776) (hcap : l.length ≤ cap)
    (hp : ∀ x ∈ l, ∀ w1, w.grownBy w1 (some g) → Runs Try.prog fv #[.int .i64 x] w1 fun e w2 => e = .returned (.bool (p x)) ∧ Below w1.heap.size w1 w2) :
    Calls Try.prog 101 #[.slice (some ⟨g, 0, none⟩) l.length cap, fv] w fun e w' => ∃ n, e = .returned (.slice (some ⟨g, 0, none⟩) n cap) ∧ RI w' base ok (.slice (some ⟨g, 0, none⟩) n cap) (l.filter fun x => !p x) ∧ w.grownBy w' (some g) := by
  have HO := Aside0.mk hO
  have HP := Aside0.mk hp
  have HX := Aside0.mk (indexFunc step_bel (some ⟨g, 0, none⟩) cap l fv p w (Kd.R_reads' hO).2.2 (fun x hx w1 hw1 => (hp x hx w1 (grown_of_below hw1.out _)).mono fun e w2 hh => ⟨hh.1, ⟨hh.2⟩⟩))
  clear hO hp
  cases hk : l.findIdx? p with
  | none =>
    have hi : idxFrom p l 0 = -1 := by unfold idxFrom; rw [hk]
    have HF : Aside0 (l.filter (fun x => !p x) = l) := ⟨by
      rw [List.findIdx?_eq_none_iff] at hk
      rw [List.filter_eq_self]
      intro x hx
      simp [hk x hx]⟩
    rw [hi] at HX
    clear hi hk
    go_enter Try.func101, Try.ntmps101
    go_wp2_with (first | (go_at_call 122; refine HX.out.mono ?_; rintro e w1 ⟨rfl, hb1⟩; have HB := Aside0.mk hb1; clear hb1))
    go_ret
    exact ⟨_, rfl, by rw [HF.out]; exact Kd.R_below HO.out HB.out.out, grown_of_below HB.out.out _⟩
  | some k0 =>
    have hi : idxFrom p l 0 = (k0 : Int) := by unfold idxFrom; rw [hk]; simp
    rw [List.findIdx?_eq_some_iff_getElem] at hk
    obtain ⟨hk1, hk2, hk3⟩ := hk
    have HD0 : Aside0 (∀ W, Below w.heap.size w W → Del w W base g cap l.length ok p l l k0 (k0 + 1)) := ⟨fun W hb => by
      have hf : (l.take k0).filter (fun x => !p x) = l.take k0 := by
        rw [List.filter_eq_self]
        intro x hx
        obtain ⟨t, ht, rfl⟩ := List.getElem_of_mem hx
        have ht2 : t < k0 := by rw [List.length_take] at ht; omega
        rw [List.getElem_take]
        have := hk3 t ht2
        simpa using this
      have e : rd l k0 = l[k0] := by unfold rd; rw [Int.toNat_natCast, List.getD_eq_getElem?_getD, List.getElem?_eq_getElem hk1]; rfl
      have e2 := filter_take_snoc (fun x => !p x) l k0 hk1
      rw [e, hk2, hf] at e2
      simp only [Bool.not_true, Bool.false_eq_true, if_false, List.append_nil] at e2
      exact ⟨Kd.R_below HO.out hb, rfl, by omega, by omega, by rw [e2], fun _ _ _ => rfl, grown_of_below hb _, by rw [e2, List.length_take]; omega⟩⟩
    rw [hi] at HX
    clear hi hk2 hk3
    go_enter Try.func101, Try.ntmps101
    go_wp2_with (first | (go_at_call 122; refine HX.out.mono ?_; rintro e w1 ⟨rfl, hb1⟩; have HB := Aside0.mk hb1; clear hb1))
    go_loopw [5, 6] (fun i j wr => ∃ (iN jN : Nat), iN < jN ∧ jN ≤ l.length ∧ i = .int .i64 (iN : Int) ∧ j = .int .i64 (jN : Int) ∧ Aside0 (∃ cur, Del w wr base g cap l.length ok p l cur iN jN)) (fun _ j _ => l.length - (intOf j).toNat)
    case atStart => exact ⟨k0, k0 + 1, by omega, by omega, rfl, by go_num, ⟨l, HD0.out _ HB.out.out⟩⟩
    case round =>
      clear HB HD0 HX HO hk1
      obtain ⟨i, j, hij, hjn, rfl, rfl, ⟨cur, hd⟩⟩ := hrel
      have HD := Aside0.mk hd
      clear hd
      by_cases hlt : j < l.length
      · have hlen := HD.out.len
        obtain ⟨ad, hA, hc⟩ := Kd.at_int (Kd.R_reads' HD.out.row).2.2 j (by omega) (by omega)
        obtain rfl := Option.some.inj hA
        rw [add_plain, HD.out.rest j (Nat.le_refl _) hlt, Int.toNat_natCast] at hc
        obtain ⟨x, hx⟩ : ∃ x, x = rd l j := ⟨_, rfl⟩
        have hrun := Aside0.mk (HP.out x (by rw [hx]; exact rd_mem l j hlt) wr HD.out.grown)
        rw [← hx] at hc
        have HXX := Aside0.mk hx
        clear hx
        cases hpx : p x with
        | true =>
          rw [hpx] at hrun
          have HPX := Aside0.mk hpx
          clear hpx
          go_wp2_with (first
            | ((with_reducible refine gate_dst (N := 28) rfl ?_); refine goesV (some 28) rfl rfl rfl (fv := fv) rfl #[.int .i64 x] (by (try simp only [List.map_toArray, List.map_cons, List.map_nil]); rfl) ?_; refine hrun.out.mono ?_; rintro e w2 ⟨rfl, h2⟩; refine ⟨_, rfl, ?_⟩; have HD2 := Aside0.mk (HD.out.miss hlt rfl (by rw [← HXX.out]; exact HPX.out) h2); clear h2))
          go_roundw
          case rel => exact ⟨i, j + 1, by omega, by omega, rfl, by go_num, ⟨_, HD2.out⟩⟩
          case measure => simp [intOf]; omega
        | false =>
          rw [hpx] at hrun
          have HPX := Aside0.mk hpx
          clear hpx
          go_wp2_with (first
            | ((with_reducible refine gate_dst (N := 28) rfl ?_); refine goesV (some 28) rfl rfl rfl (fv := fv) rfl #[.int .i64 x] (by (try simp only [List.map_toArray, List.map_cons, List.map_nil]); rfl) ?_; refine hrun.out.mono ?_; rintro e w2 ⟨rfl, h2⟩; refine ⟨_, rfl, ?_⟩; have HB2 := Aside0.mk h2; clear h2)
            | ((with_reducible refine gate_store (t := 2) (p := 33) rfl ?_); refine putI (w0 := _) (base := base) rfl rfl rfl (i : Int) cur x rfl (by rw [Int.toNat_natCast]) rfl (Kd.R_below HD.out.row HB2.out) (by omega) (by omega) (Below.refl _ _) ?_; intro w3 ho3 hb3 hg3; rw [Int.toNat_natCast, HXX.out] at ho3; have HD3 := Aside0.mk (HD.out.hit hlt rfl (by rw [← HXX.out]; exact HPX.out) HB2.out ho3 hg3); clear ho3 hb3 hg3))
          go_roundw
          case rel => exact ⟨i + 1, j + 1, by omega, by omega, by go_num, by go_num, ⟨_, HD3.out⟩⟩
          case measure => simp [intOf]; omega
      · obtain rfl : j = l.length := by omega
        have HCL : Aside0 (∀ ty, (Builtin.clear_ #[22] ty #[.slice (some ⟨g, i, none⟩) (l.length - i) (cap - i)]).run Try.prog wr = .ok (.tuple #[]) (wr.setCells g i (List.replicate (l.length - i) (.int .i64 0)))) := ⟨fun ty => by
          have hcells : ∀ t, t < l.length - i → wr.cell? ⟨g, i + t, none⟩ = some (.int .i64 (rd cur ((i + t : Nat) : Int))) := fun t ht => by
            have hlen := HD.out.len
            obtain ⟨ad, hA, hc⟩ := Kd.at_int (Kd.R_reads' HD.out.row).2.2 ((i + t : Nat) : Int) (by omega) (by omega)
            obtain rfl := Option.some.inj hA
            rw [add_plain, Int.toNat_natCast] at hc
            exact hc
          obtain ⟨cells, hblk⟩ := Kd.R_typed HD.out.row g (by simp [Value.ownBlock])
          exact Go.Lib.run_clear_slice wr _ _ ty _ Try.underlying22 (fun w => zero_i64' w) rfl rfl g i _ _ (by omega) (fun t ht => by rw [hcells t ht]; rfl) (fun t ht => by simp [World.frozen?, hblk])⟩
        obtain ⟨cur', hc1, hc2, hc3, hc4⟩ := cleared (l.length - i) i wr cur HD.out.row HD.out.len (by omega)
        have HQ := Aside0.mk (And.intro hc1 (And.intro hc2 (And.intro hc3 hc4)))
        clear hc1 hc2 hc3 hc4
        have hcl := HCL.out
        have b1 : (i : Int) ≤ (l.length : Int) := by omega
        have b2 : (0 : Int) ≤ (i : Int) := by omega
        go_wp2
        go_ret
        obtain ⟨hc1, hc2, hc3, hc4⟩ := HQ.out
        refine ⟨i, rfl, ?_, HD.out.grown.trans hc4⟩
        have hk := HD.out.kept
        rw [List.take_length] at hk
        rw [← hk, ← hc3]
        exact Kd.R_take hc1 (by omega)
set_option maxRecDepth 100000 in
theorem c_deleteEmpty (w : World) (A : Option Addr) (cap : Nat) (fv : Value) :
    Calls Try.prog 101 #[.slice A 0 cap, fv] w fun e w' => e = .returned (.slice A 0 cap) ∧ Below w.heap.size w w' := by
  have HX := Aside0.mk (indexFunc step_bel A cap [] fv (fun _ => false) w ⟨rfl, by simp, fun h => absurd h (by simp)⟩ (fun x hx => by simp at hx))
  go_enter Try.func101, Try.ntmps101
  go_wp2_with (first | (go_at_call 122; refine HX.out.mono ?_; rintro e w1 ⟨rfl, hb1⟩; have HB := Aside0.mk hb1; clear hb1))
  go_ret
  exact ⟨rfl, HB.out.out⟩
theorem c_deleteAny (w : World) (base : Nat) (ok : Nat → Prop) (A : Option Addr) (cap : Nat) (l : List Int) (fv : Value) (p : Int → Bool) (hO : RI w base ok (.slice A l.length cap) l) (hl : l.length < 1099511627776)
    (hp : ∀ x ∈ l, ∀ w1, w.grownBy w1 (Value.slice A l.length cap).ownBlock → Runs Try.prog fv #[.int .i64 x] w1 fun e w2 => e = .returned (.bool (p x)) ∧ Below w1.heap.size w1 w2) :
    Calls Try.prog 101 #[.slice A l.length cap, fv] w fun e w' => ∃ n, e = .returned (.slice A n cap) ∧ RI w' base ok (.slice A n cap) (l.filter fun x => !p x) ∧ w.grownBy w' (Value.slice A l.length cap).ownBlock := by
  rcases Nat.eq_zero_or_pos l.length with h0 | h0
  · obtain rfl := List.eq_nil_of_length_eq_zero h0
    refine (c_deleteEmpty w A cap fv).mono ?_
    rintro e w' ⟨rfl, hb⟩
    exact ⟨0, rfl, Kd.R_below hO hb, grown_of_below hb _⟩
  · obtain ⟨g, cap', e, _, _, _⟩ := Kd.R_form hO h0
    injection e with ea _ ec
    subst ea ec
    have hob : (Value.slice (some ⟨g, 0, none⟩) l.length cap).ownBlock = some g := by simp [Value.ownBlock]
    rw [hob] at hp ⊢
    have hcap := (Kd.R_reads' hO).2.1
    exact c_deleteFunc w base g cap ok l fv p hO hl hcap hp
end Go.Proofs.Ytihfncjpfgdhoaa.K
end
section
namespace Go.Proofs.Ytihfncjpfgdhoaa.K
open Go.RowKit Go.Proofs.YtihfncjpfgdhoaaW.PrintWords Go.Proofs.YtihfncjpfgdhoaaW.PrintLast Go.Proofs.YtihfncjpfgdhoaaW.PrintMore
def slices_Clone_int64_int64.f (l0 : List Int) : Option (List Int) := if l0.length < 17592186044416 then some l0 else none
set_option maxHeartbeats 1000000 in
set_option maxRecDepth 100000 in
theorem slices_Clone_int64_int64.calls (A0 : Option Addr) (c0 : Nat) (l0 : List Int) (r : List Int) (w : World) (hr0 : Kd.C (Kd.int .i64) w A0 l0.length l0) (hc0 : l0.length ≤ c0) (h : slices_Clone_int64_int64.f l0 = some r) :
    Calls Try.prog 80 #[.slice A0 l0.length c0] w fun e w' => ∃ v0_ : Value, e = .returned (v0_) ∧ Kd.R (Kd.int .i64) 2 w' w.heap.size (fun _ => True) v0_ r ∧ Below w.heap.size w w' := by
  unfold slices_Clone_int64_int64.f at h
  split at h
  case isFalse => cases h
  rename_i hl
  obtain rfl := Option.some.inj h
  have HR := Aside0.mk hr0
  clear hr0 h
  have q22 : ∀ (w : World) (a : Option Addr) (n c n' c' : Nat), (binOp .eql 22 (.slice a n c) (.slice none n' c')).run Try.prog w = .ok (.bool a.isNone) w := fun w a n c n' c' => Go.Lib.run_eql_slice_nil w _ _ a n c n' c' Try.underlying22
  cases A0 with
  | none =>
    have h0 : l0 = [] := by
      rcases Nat.eq_zero_or_pos l0.length with h0 | h0
      · exact List.eq_nil_of_length_eq_zero h0
      · obtain ⟨ad, h, _⟩ := HR.out.2.2 h0
        cases h
    subst h0
    go_enter Try.func80, Try.ntmps80
    go_wp2
    go_ret
    exact ⟨_, rfl, Kd.R_nil _ _ _ _ _, Below.refl _ _⟩
  | some ad =>
    go_enter Try.func80, Try.ntmps80
    go_wp2_with (first
      | ((with_reducible refine gate_dst (N := 5) rfl ?_); refine lit0 (w0 := w) w.heap.size (ok := fun _ => True) rfl rfl rfl trivial (Below.refl _ _) (Nat.le_refl _) ?_; intro v2 w2 hv hb2 hgr hnew; have HO := Aside0.mk hv; have HB := Aside0.mk hb2; clear hv hb2 hgr hnew)
      | ((with_reducible refine gate_builtin (b := .append) (xs := #[.tmp 5, .tmp 6]) rfl ?_); at_builtin; refine Kd.R_append_rows (Kd.int .i64) (w0 := w) w.heap.size rfl (.tmp 5) (.tmp 6) 22 2 (.int .i64 0) 8 rfl Try.underlying22 info2 rfl (by decide) (by omega) v2 [] l0 _ _ _ (fun _ => True) (fun _ => False) rfl rfl HO.out (Kd.C_below HR.out HB.out) (fun _ _ h => h) (fun _ h => h.elim) (fun _ _ => trivial) HB.out HB.out.size (by simp; omega) ?_; intro v3 w3 ho hb hg hat; have HO3 := Aside0.mk ho; have HB3 := Aside0.mk hb; clear ho hb hg hat HB HO))
    go_ret
    exact ⟨_, rfl, HO3.out, HB3.out⟩
end Go.Proofs.Ytihfncjpfgdhoaa.K
end
section
namespace Go.Proofs.Ytihfncjpfgdhoaa.K
open Go.RowKit Go.Proofs.YtihfncjpfgdhoaaW.PrintWords Go.Proofs.YtihfncjpfgdhoaaW.PrintLast Go.Proofs.YtihfncjpfgdhoaaW.PrintMore
theorem r_left1 (x : Int) (b : Nat) (fv : Value) (r : Bool) (w : World) (hc : w.cell? ⟨b, 0, none⟩ = some fv) (hrun : Runs Try.prog fv #[.int .i64 x] w fun e w' => e = .returned (.bool r) ∧ Below w.heap.size w w') :
    Runs Try.prog (.func (.func 102) #[] #[.pointer (some ⟨b, 0, none⟩)]) #[.int .i64 x] w fun e w' => e = .returned (.bool (!r)) ∧ Below w.heap.size w w' := by
  have HR := Aside0.mk hrun
  clear hrun
  refine ⟨102, _, _, _, rfl, Try.func102, by kernel_rfl, rfl, ?_⟩
  show Calls _ _ #[.int .i64 x, .pointer (some ⟨b, 0, none⟩)] _ _
  go_enter Try.func102, Try.ntmps102
  go_wp2_with (first
    | ((with_reducible refine gate_dst (N := 6) rfl ?_); refine goesV (some 6) rfl rfl rfl (fv := fv) rfl #[.int .i64 x] (by (try simp only [List.map_toArray, List.map_cons, List.map_nil]); rfl) ?_; refine HR.out.mono ?_; rintro e w2 ⟨rfl, h2⟩; refine ⟨_, rfl, ?_⟩; have HB := Aside0.mk h2; clear h2))
  go_ret
  exact ⟨rfl, HB.out⟩
theorem r_RK1 (x i : Int) (b : Nat) (w : World) (hc : w.cell? ⟨b, 0, none⟩ = some (.int .i64 i)) :
    Runs Try.prog (.func (.func 66) #[] #[.pointer (some ⟨b, 0, none⟩)]) #[.int .i64 x] w fun e w' => e = .returned (.bool (x != i)) ∧ Below w.heap.size w w' := by
  refine ⟨66, _, _, _, rfl, Try.func66, by kernel_rfl, rfl, ?_⟩
  show Calls _ _ #[.int .i64 x, .pointer (some ⟨b, 0, none⟩)] _ _
  go_enter Try.func66, Try.ntmps66
  go_wp2
  go_ret
  exact ⟨rfl, Below.refl _ _⟩
set_option maxHeartbeats 2000000 in
set_option maxRecDepth 100000 in
theorem c_left (A0 A1 A2 : Option Addr) (c0 c1 c2 : Nat) (l0 l1 l2 : List Int) (fv : Value) (p : Int → Bool) (w : World) (hl : l0.length < 1099511627776) (h64 : Ok64 l0) (hr0 : CI w A0 l0.length l0) (hc0 : l0.length ≤ c0) (hr1 : CI w A1 l1.length l1) (hr2 : CI w A2 l2.length l2)
    (hin : ∀ x ∈ l0, 0 ≤ x ∧ x < l1.length ∧ x < l2.length) (hfn : fv.oneCell' = true)
    (hp : ∀ x ∈ l0, ∀ w1, Below w.heap.size w w1 → Runs Try.prog fv #[.int .i64 x] w1 fun e w2 => e = .returned (.bool (p x)) ∧ Below w1.heap.size w1 w2) :
    Calls Try.prog 65 #[.agg #[.slice A0 l0.length c0, .slice A1 l1.length c1, .slice A2 l2.length c2], fv] w fun e w' => ∃ v0_ v1_ v2_ : Value, e = .returned (.agg #[v0_, v1_, v2_]) ∧
      RI w' w.heap.size (fun _ => True) v0_ (normalL (l0.filter p)) ∧ RI w' w.heap.size (fun _ => True) v1_ (firsts (l0.filter p) l1) ∧ RI w' w.heap.size (fun _ => True) v2_ (firsts (l0.filter p) l2) ∧ Sep v1_ v0_ ∧ Sep v2_ v0_ ∧ Sep v1_ v2_ ∧ Sep v2_ v1_ ∧ Below w.heap.size w w' := by
  have HC0 := Aside0.mk hc0
  have HL := Aside0.mk hl
  have HCL : Aside0 (slices_Clone_int64_int64.f l0 = some l0) := ⟨by unfold slices_Clone_int64_int64.f; rw [if_pos (by omega)]⟩
  have HLF : Aside0 ((l0.filter p).length < 1099511627776) := ⟨Nat.lt_of_le_of_lt (List.length_filter_le _ _) hl⟩
  have H64 : Aside0 (Ok64 (l0.filter p)) := ⟨fun x hx => h64 x (List.mem_filter.mp hx).1⟩
  have HIN : Aside0 (∀ x ∈ l0.filter p, 0 ≤ x ∧ x < l1.length ∧ x < l2.length) := ⟨fun x hx => hin x (List.mem_filter.mp hx).1⟩
  have NN : (l0.filter fun x => !(fun x => !p x) x) = l0.filter p := by simp
  have BASE : ∀ (W : World) (b : Nat) {v : Value} {l : List Int}, RI W b (fun _ => True) v l → ∀ k, v.ownBlock = some k → b ≤ k := fun W b v l h k hk => by
    rcases Kd.R_base2 h with e | ⟨k2, e, hle⟩
    · rw [e] at hk; cases hk
    · rw [e] at hk; injection hk with hk; omega
  obtain ⟨gb, hgb⟩ : ∃ gb, gb = w.heap.size := ⟨_, rfl⟩
  obtain ⟨gf, hgf⟩ : ∃ gf, gf = w.heap.size + 1 := ⟨_, rfl⟩
  obtain ⟨gr, hgr⟩ : ∃ gr, gr = w.heap.size + 1 + 1 := ⟨_, rfl⟩
  obtain ⟨wb, hwb⟩ : ∃ wb, wb = ((w.alloc (.cells #[.slice A0 l0.length c0, .slice A1 l1.length c1, .slice A2 l2.length c2] 34)).alloc (.cells #[fv] 51)).alloc (.cells #[.slice none 0 0, .slice none 0 0, .slice none 0 0] 34) := ⟨_, rfl⟩
  have HB0 : Below w.heap.size w wb := by rw [hwb]; exact below_alloc (below_alloc (below_alloc (Below.refl _ _) _) _) _
  have s1 : (w.alloc (.cells #[.slice A0 l0.length c0, .slice A1 l1.length c1, .slice A2 l2.length c2] 34)).heap.size = w.heap.size + 1 := by simp
  have s2 : ((w.alloc (.cells #[.slice A0 l0.length c0, .slice A1 l1.length c1, .slice A2 l2.length c2] 34)).alloc (.cells #[fv] 51)).heap.size = w.heap.size + 1 + 1 := by simp
  have b1 : wb.heap[gb]? = some (.cells #[.slice A0 l0.length c0, .slice A1 l1.length c1, .slice A2 l2.length c2] 34 (0, 0)) := by
    have h : Below (w.alloc (.cells #[.slice A0 l0.length c0, .slice A1 l1.length c1, .slice A2 l2.length c2] 34)).heap.size (w.alloc (.cells #[.slice A0 l0.length c0, .slice A1 l1.length c1, .slice A2 l2.length c2] 34)) wb := by rw [hwb]; exact below_alloc (below_alloc (Below.refl _ _) _) _
    rw [h.block gb (by rw [s1, hgb]; omega), hgb]
    exact heap_alloc_new _ _
  have b2 : wb.heap[gf]? = some (.cells #[fv] 51 (0, 0)) := by
    have h : Below ((w.alloc (.cells #[.slice A0 l0.length c0, .slice A1 l1.length c1, .slice A2 l2.length c2] 34)).alloc (.cells #[fv] 51)).heap.size ((w.alloc (.cells #[.slice A0 l0.length c0, .slice A1 l1.length c1, .slice A2 l2.length c2] 34)).alloc (.cells #[fv] 51)) wb := by rw [hwb]; exact below_alloc (Below.refl _ _) _
    rw [h.block gf (by rw [s2, hgf]; omega), hgf, ← s1]
    exact heap_alloc_new _ _
  have b3 : wb.heap[gr]? = some (.cells #[.slice none 0 0, .slice none 0 0, .slice none 0 0] 34 (0, 0)) := by
    rw [hwb, hgr, ← s2]
    exact heap_alloc_new _ _
  have HELD : ∀ W, Below wb.heap.size wb W → W.cell? ⟨gb, 0, none⟩ = some (.slice A0 l0.length c0) ∧ W.cell? ⟨gb, 1, none⟩ = some (.slice A1 l1.length c1) ∧ W.cell? ⟨gb, 2, none⟩ = some (.slice A2 l2.length c2) := fun W h => by
    have hh := blk_below b1 h
    exact ⟨(blk_cell hh 0).trans rfl, (blk_cell hh 1).trans rfl, (blk_cell hh 2).trans rfl⟩
  have BLKR : ∀ W, Below wb.heap.size wb W → W.heap[gr]? = some (.cells #[.slice none 0 0, .slice none 0 0, .slice none 0 0] 34 (0, 0)) := fun W h => blk_below b3 h
  have RD0 : ∀ W, Below wb.heap.size wb W → CI W A0 l0.length l0 := fun W h => Kd.C_below hr0 (below_then HB0 HB0.size h)
  have RD1 : ∀ W, Below wb.heap.size wb W → CI W A1 l1.length l1 := fun W h => Kd.C_below hr1 (below_then HB0 HB0.size h)
  have RD2 : ∀ W, Below wb.heap.size wb W → CI W A2 l2.length l2 := fun W h => Kd.C_below hr2 (below_then HB0 HB0.size h)
  have TEST : ∀ x ∈ l0, ∀ W, Below wb.heap.size wb W → Runs Try.prog (.func (.func 102) #[] #[.pointer (some ⟨gf, 0, none⟩)]) #[.int .i64 x] W fun e w2 => e = .returned (.bool (!p x)) ∧ Below W.heap.size W w2 := fun x hx W h =>
    r_left1 x gf fv (p x) W ((blk_cell (blk_below b2 h) 0).trans rfl) (hp x hx W (below_then HB0 HB0.size h))
  go_enter Try.func65, Try.ntmps65
  go_wp2_with fail
  rw [← hwb, ← hgr, ← hgf, ← hgb]
  have GR := Aside0.mk (show w.heap.size ≤ gr by omega)
  clear hr0 hr1 hr2 hp hc0 h64 hin hwb b1 b2 b3 s1 s2 hgb hgf hgr
  -- REGION 1: laid by gen_left.py
  refine start_ (n := 11) (S := fun w' => w'.cell? ⟨gb, 0, none⟩ = some (.slice A0 l0.length c0) ∧ w'.cell? ⟨gb, 1, none⟩ = some (.slice A1 l1.length c1) ∧ w'.cell? ⟨gb, 2, none⟩ = some (.slice A2 l2.length c2)) (ds := [10]) #[false, false, false, false, false, false, false, false, false, false, false] (by kernel_rfl) rfl rfl (HELD _ (below_drew1 (Below.refl _ _))) (fun hHeld => ?_)
  have HBD := Aside0.mk (below_drew1 (Below.refl wb.heap.size wb))
  generalize wb.drew = wd at HBD hHeld ⊢
  refine pure_ (i := 0) (N := some 5) (v := ?_) (a' := ?_) #[true, false, false, false, false, false, false, false, false, false, false] rfl rfl (by kernel_rfl) (fun _ _ _ h => h) (Or.inl ⟨by rfl, ?_⟩) ?_ ?_
  rotate_left
  · intro w'
    go_simp
    with_reducible rfl
  rotate_left
  · simp only [Act.put, List.setIfInBounds_toArray, List.set_cons_zero, List.set_cons_succ, i64_w, i32_w]
    rfl
  refine pure_ (i := 5) (N := some 10) (v := ?_) (a' := ?_) #[true, false, false, false, false, true, false, false, false, false, false] rfl rfl (by kernel_rfl) (fun _ _ _ h => h) (Or.inl ⟨by rfl, ?_⟩) ?_ ?_
  rotate_left
  · intro w'
    go_simp
    with_reducible rfl
  rotate_left
  · simp only [Act.put, List.setIfInBounds_toArray, List.set_cons_zero, List.set_cons_succ, i64_w, i32_w]
    rfl
  refine pure_ (i := 7) (N := some 12) (v := ?_) (a' := ?_) #[true, false, false, false, false, true, false, true, false, false, false] rfl rfl (by kernel_rfl) (fun _ _ _ h => h) (Or.inl ⟨by rfl, ?_⟩) ?_ ?_
  rotate_left
  · intro w'
    go_simp
    with_reducible rfl
  rotate_left
  · simp only [Act.put, List.setIfInBounds_toArray, List.set_cons_zero, List.set_cons_succ, i64_w, i32_w]
    rfl
  refine pure_ (i := 3) (N := some 8) (v := ?_) (a' := ?_) #[true, false, false, true, false, true, false, true, false, false, false] rfl rfl (by kernel_rfl) (fun _ _ _ h => h) (Or.inl ⟨by rfl, ?_⟩) ?_ ?_
  rotate_left
  · intro w'
    go_simp
    with_reducible rfl
  rotate_left
  · simp only [Act.put, List.setIfInBounds_toArray, List.set_cons_zero, List.set_cons_succ, i64_w, i32_w]
    rfl
  refine take_ (i := 1) (N := some 6) (v := ?_) (a' := ?_) #[true, true, false, true, false, true, false, true, false, false, false] rfl rfl (by kernel_rfl) (fun _ _ _ h => h) (Or.inl ⟨by rfl, ?_⟩) hHeld ?_ ?_
  rotate_left
  · rintro w' ⟨s0, s1, s2⟩
    go_simp
    with_reducible rfl
  rotate_left
  · simp only [Act.put, List.setIfInBounds_toArray, List.set_cons_zero, List.set_cons_succ, i64_w, i32_w]
    rfl
  refine take_ (i := 6) (N := some 11) (v := ?_) (a' := ?_) #[true, true, false, true, false, true, true, true, false, false, false] rfl rfl (by kernel_rfl) (fun _ _ _ h => h) (Or.inl ⟨by rfl, ?_⟩) hHeld ?_ ?_
  rotate_left
  · rintro w' ⟨s0, s1, s2⟩
    go_simp
    with_reducible rfl
  rotate_left
  · simp only [Act.put, List.setIfInBounds_toArray, List.set_cons_zero, List.set_cons_succ, i64_w, i32_w]
    rfl
  refine take_ (i := 8) (N := some 13) (v := ?_) (a' := ?_) #[true, true, false, true, false, true, true, true, true, false, false] rfl rfl (by kernel_rfl) (fun _ _ _ h => h) (Or.inl ⟨by rfl, ?_⟩) hHeld ?_ ?_
  rotate_left
  · rintro w' ⟨s0, s1, s2⟩
    go_simp
    with_reducible rfl
  rotate_left
  · simp only [Act.put, List.setIfInBounds_toArray, List.set_cons_zero, List.set_cons_succ, i64_w, i32_w]
    rfl
  refine one_ (i := 2) (N := some 7) #[true, true, true, true, false, true, true, true, true, false, false] rfl rfl (by kernel_rfl) (by decide) (fun K hK => ?_)
  refine goes_ Try.func80 (by kernel_rfl) rfl #[.slice A0 l0.length c0] (by rfl) rfl rfl (by (try simp only [List.map_toArray, List.map_cons, List.map_nil]); first | done | rfl) ?_
  refine (slices_Clone_int64_int64.calls A0 c0 l0 l0 _ (RD0 _ HBD.out) HC0.out HCL.out).mono ?_
  rintro e w7 ⟨v7, rfl, ho, hb⟩
  refine ⟨_, rfl, ?_⟩
  have HB7 := Aside0.mk (below_then HBD.out HBD.out.size hb)
  have HO7 := Aside0.mk ho
  obtain ⟨A7, c7, e7⟩ := Kd.R_slice ho
  subst e7
  clear ho hb
  refine hK.out _ _ (HELD _ HB7.out) (fun hHeld => ?_)
  clear hK K
  refine norm_ (a' := ?_) ?_ ?_
  rotate_left
  · show Act.put _ (some 7) _ = _
    simp only [Act.put, List.setIfInBounds_toArray, List.set_cons_zero, List.set_cons_succ, i64_w, i32_w]
    rfl
  refine one_ (i := 4) (N := some 9) #[true, true, true, true, true, true, true, true, true, false, false] rfl rfl (by kernel_rfl) (by decide) (fun K hK => ?_)
  refine goes_ Try.func101 (by kernel_rfl) rfl #[.slice A7 l0.length c7, .func (.func 102) #[] #[.pointer (some ⟨gf, 0, none⟩)]] (by rfl) rfl rfl (by (try simp only [List.map_toArray, List.map_cons, List.map_nil]); first | done | rfl) ?_
  refine (c_deleteAny w7 _ _ A7 c7 l0 _ (fun x => !p x) HO7.out HL.out (fun x hx w8 hw8 => TEST x hx w8 (HB7.out.grown hw8 HB7.out.size (fun k hk => Nat.le_trans HBD.out.size (BASE _ _ HO7.out k hk))))).mono ?_
  rintro e w9 ⟨n9, rfl, ho, hg⟩
  refine ⟨_, rfl, ?_⟩
  have HB9 := Aside0.mk (HB7.out.grown hg HB7.out.size (fun k hk => Nat.le_trans HBD.out.size (BASE _ _ HO7.out k hk)))
  have hn9 := (Kd.R_reads' ho).1
  subst hn9
  rw [NN] at ho ⊢
  have HO9 := Aside0.mk ho
  clear ho hg
  refine hK.out _ _ (HELD _ HB9.out) (fun hHeld => ?_)
  clear hK K
  refine norm_ (a' := ?_) ?_ ?_
  rotate_left
  · show Act.put _ (some 9) _ = _
    simp only [Act.put, List.setIfInBounds_toArray, List.set_cons_zero, List.set_cons_succ, i64_w, i32_w]
    rfl
  refine one_ (i := 9) (N := some 14) #[true, true, true, true, true, true, true, true, true, true, false] rfl rfl (by kernel_rfl) (by decide) (fun K hK => ?_)
  refine goes_ Try.func71 (by kernel_rfl) rfl #[.slice A7 (l0.filter p).length c7, .slice A1 l1.length c1, .slice A2 l2.length c2] (by rfl) rfl rfl (by (try simp only [List.map_toArray, List.map_cons, List.map_nil]); first | done | rfl) ?_
  refine (c_renumbered A7 A1 A2 c7 c1 c2 (l0.filter p) l1 l2 w9 HLF.out H64.out (Kd.R_reads' HO9.out).2.2 (RD1 _ HB9.out) (RD2 _ HB9.out) HIN.out).mono ?_
  rintro e w14 ⟨v0, v1, v2, rfl, q0, q1, q2, q3, q4, q5, q6, hb⟩
  obtain ⟨B0, d0, e0⟩ := Kd.R_slice q0
  obtain ⟨B1, d1, e1⟩ := Kd.R_slice q1
  obtain ⟨B2, d2, e2⟩ := Kd.R_slice q2
  subst e0 e1 e2
  refine ⟨_, rfl, ?_⟩
  have HQ := Aside0.mk (And.intro q0 (And.intro q1 q2))
  have HS := Aside0.mk (And.intro q3 (And.intro q4 (And.intro q5 q6)))
  have HB14 := Aside0.mk (below_then HB9.out HB9.out.size hb)
  refine hK.out _ _ (HELD _ HB14.out) (fun hHeld => ?_)
  clear hK K
  refine norm_ (a' := ?_) ?_ ?_
  rotate_left
  · show Act.put _ (some 14) _ = _
    simp only [Act.put, List.setIfInBounds_toArray, List.set_cons_zero, List.set_cons_succ, i64_w, i32_w]
    rfl
  clear q0 q1 q2 q3 q4 q5 q6 hb
  have hbr := BLKR _ HB14.out
  have hd0 : w14.cell? ⟨gr, 0, none⟩ = some (.slice none 0 0) := (blk_cell hbr 0).trans rfl
  have hd1 : w14.cell? ⟨gr, 1, none⟩ = some (.slice none 0 0) := (blk_cell hbr 1).trans rfl
  have hd2 : w14.cell? ⟨gr, 2, none⟩ = some (.slice none 0 0) := (blk_cell hbr 2).trans rfl
  have hf0 := blk_frozen hbr 0
  have hf1 := blk_frozen hbr 1
  have hf2 := blk_frozen hbr 2
  have HBR := Aside0.mk hbr
  clear hbr
  refine last_ (i := 10) (N := none) #[true, true, true, true, true, true, true, true, true, true, true] rfl rfl (by kernel_rfl) (by decide) (fun K hK => ?_)
  refine skip_ (w1 := ?_) (by rfl) rfl ?_ ?_
  rotate_left
  · go_simp
    rfl
  refine hK.out _ _ ?_
  clear hK K
  refine done_ (by kernel_rfl) ?_
  -- END OF REGION 1
  clear hd0 hd1 hd2 hf0 hf1 hf2
  go_wp2
  refine bodyPost_ret (results_cell_row rfl _ _ gr 34 #[.slice B0 (normalL (l0.filter p)).length d0, .slice B1 (firsts (l0.filter p) l1).length d1, .slice B2 (firsts (l0.filter p) l2).length d2] (0, 0) _ rfl (blk_put (cs := #[.slice B0 (normalL (l0.filter p)).length d0, .slice B1 (firsts (l0.filter p) l1).length d1, .slice none 0 0]) (blk_put (cs := #[.slice B0 (normalL (l0.filter p)).length d0, .slice none 0 0, .slice none 0 0]) (blk_put HBR.out 0 _ rfl) 1 _ rfl) 2 _ rfl) Try.underlying34 rfl (by kernel_rfl)) rfl ?_
  have hbel : Below w.heap.size w w14 := below_then HB0 HB0.size HB14.out
  have hle : w.heap.size ≤ w9.heap.size := Nat.le_trans HB0.size HB9.out.size
  have row : ∀ {v : Value} {l_ : List Int}, RI w14 w9.heap.size (fun _ => True) v l_ → ∀ u0 u1 u2, RI (((w14.setCell ⟨gr, 0, none⟩ u0).setCell ⟨gr, 1, none⟩ u1).setCell ⟨gr, 2, none⟩ u2) w.heap.size (fun _ => True) v l_ := fun {v l_} hv u0 u1 u2 =>
    Kd.R_lower (Kd.R_mono (Kd.R_far (Kd.R_far (Kd.R_far (Kd.R_far1 hv rfl (Kd.R_ne hv HBR.out (by decide))) (p := ⟨gr, 0, none⟩) (fun _ hk => hk.2) u0) (p := ⟨gr, 1, none⟩) (fun _ hk => hk.2) u1) (p := ⟨gr, 2, none⟩) (fun _ hk => hk.2) u2) (fun _ _ => trivial)) hle
  exact ⟨_, _, _, rfl, row HQ.out.1 _ _ _, row HQ.out.2.1 _ _ _, row HQ.out.2.2 _ _ _, HS.out.1, HS.out.2.1, HS.out.2.2.1, HS.out.2.2.2, below_set (below_set (below_set hbel GR.out) GR.out) GR.out⟩
end Go.Proofs.Ytihfncjpfgdhoaa.K
end
section
namespace Go.Proofs.Ytihfncjpfgdhoaa.K
open Go.RowKit Go.Proofs.YtihfncjpfgdhoaaW.PrintWords Go.Proofs.YtihfncjpfgdhoaaW.PrintLast Go.Proofs.YtihfncjpfgdhoaaW.PrintMore
def leftF (p : Int → Bool) (l0 l1 l2 : List Int) : Option (List Int × List Int × List Int) := if l0.length < 1099511627776 ∧ Ok64 l0 ∧ (∀ x ∈ l0, 0 ≤ x ∧ x < l1.length ∧ x < l2.length) then some (normalL (l0.filter p), firsts (l0.filter p) l1, firsts (l0.filter p) l2) else none
theorem leftP (p : Int → Bool) (fv : Value) (A0 : Option Addr) (c0 : Nat) (l0 : List Int) (A1 : Option Addr) (c1 : Nat) (l1 : List Int) (A2 : Option Addr) (c2 : Nat) (l2 : List Int) (r1 : List Int) (r2 : List Int) (r3 : List Int) (w : World) (hr0 : Kd.C (Kd.int .i64) w A0 l0.length l0) (hc0 : l0.length ≤ c0) (hr1 : Kd.C (Kd.int .i64) w A1 l1.length l1) (hr2 : Kd.C (Kd.int .i64) w A2 l2.length l2) (hfn : fv.oneCell' = true)
    (hp : ∀ x ∈ l0, ∀ w1, Below w.heap.size w w1 → Runs Try.prog fv #[.int .i64 x] w1 fun e w2 => e = .returned (.bool (p x)) ∧ Below w1.heap.size w1 w2) (h : leftF p l0 l1 l2 = some (r1, r2, r3)) :
    Calls Try.prog 65 #[.agg #[.slice A0 l0.length c0, .slice A1 l1.length c1, .slice A2 l2.length c2], fv] w fun e w' => ∃ v0_ v1_ v2_ : Value, e = .returned (.agg #[v0_, v1_, v2_]) ∧ Kd.R (Kd.int .i64) 2 w' w.heap.size (fun k_ => some k_ ≠ (v1_ : Value).ownBlock ∧ some k_ ≠ (v2_ : Value).ownBlock) v0_ r1 ∧ Kd.R (Kd.int .i64) 2 w' w.heap.size (fun k_ => some k_ ≠ (v0_ : Value).ownBlock ∧ some k_ ≠ (v2_ : Value).ownBlock) v1_ r2 ∧ Kd.R (Kd.int .i64) 2 w' w.heap.size (fun k_ => some k_ ≠ (v0_ : Value).ownBlock ∧ some k_ ≠ (v1_ : Value).ownBlock) v2_ r3 ∧ Below w.heap.size w w' := by
  unfold leftF at h
  split at h
  case isFalse => cases h
  rename_i hh
  simp only [Option.some.injEq, Prod.mk.injEq] at h
  obtain ⟨rfl, rfl, rfl⟩ := h
  refine (c_left A0 A1 A2 c0 c1 c2 l0 l1 l2 fv p w hh.1 hh.2.1 hr0 hc0 hr1 hr2 hh.2.2 hfn hp).mono ?_
  rintro e w' ⟨v0, v1, v2, rfl, h0, h1, h2, s10, s20, s12, s21, hb⟩
  refine ⟨v0, v1, v2, rfl, ?_, ?_, ?_, hb⟩
  · exact ⟨fun k hk => ⟨fun e => s10 k e.symm hk.symm, fun e => s20 k e.symm hk.symm⟩, h0.2⟩
  · exact ⟨fun k hk => ⟨s10 k hk, s12 k hk⟩, h1.2⟩
  · exact ⟨fun k hk => ⟨s20 k hk, s21 k hk⟩, h2.2⟩
theorem blk1_cell {w w1 : World} {g t : Nat} {v : Value} (h : w.heap[g]? = some (.cells #[v] t (0, 0))) (hb : Below w.heap.size w w1) : w1.cell? ⟨g, 0, none⟩ = some v := (blk_cell (blk_below h hb) 0).trans rfl
def leftRK.f (l0 l1 l2 : List Int) (i : Int) : Option (List Int × List Int × List Int) := leftF (fun x => x != i) l0 l1 l2
theorem leftRK.calls (A0 : Option Addr) (c0 : Nat) (l0 : List Int) (A1 : Option Addr) (c1 : Nat) (l1 : List Int) (A2 : Option Addr) (c2 : Nat) (l2 : List Int) (gi : Nat) (i : Int) (r1 : List Int) (r2 : List Int) (r3 : List Int) (w : World) (hr0 : Kd.C (Kd.int .i64) w A0 l0.length l0) (hc0 : l0.length ≤ c0) (hr1 : Kd.C (Kd.int .i64) w A1 l1.length l1) (hc1 : l1.length ≤ c1) (hr2 : Kd.C (Kd.int .i64) w A2 l2.length l2) (hc2 : l2.length ≤ c2) (hbi : w.heap[gi]? = some (.cells #[.int .i64 i] 2 (0, 0))) (h : leftRK.f l0 l1 l2 i = some (r1, r2, r3)) :
    Calls Try.prog 65 #[.agg #[.slice A0 l0.length c0, .slice A1 l1.length c1, .slice A2 l2.length c2], .func (.func 66) #[] #[.pointer (some ⟨gi, 0, none⟩)]] w fun e w' => ∃ v0_ v1_ v2_ : Value, e = .returned (.agg #[v0_, v1_, v2_]) ∧ Kd.R (Kd.int .i64) 2 w' w.heap.size (fun k_ => some k_ ≠ (v1_ : Value).ownBlock ∧ some k_ ≠ (v2_ : Value).ownBlock) v0_ r1 ∧ Kd.R (Kd.int .i64) 2 w' w.heap.size (fun k_ => some k_ ≠ (v0_ : Value).ownBlock ∧ some k_ ≠ (v2_ : Value).ownBlock) v1_ r2 ∧ Kd.R (Kd.int .i64) 2 w' w.heap.size (fun k_ => some k_ ≠ (v0_ : Value).ownBlock ∧ some k_ ≠ (v1_ : Value).ownBlock) v2_ r3 ∧ Below w.heap.size w w' :=
  leftP _ _ A0 c0 l0 A1 c1 l1 A2 c2 l2 r1 r2 r3 w hr0 hc0 hr1 hr2 rfl (fun x _ w1 hw => r_RK1 x i gi w1 (blk1_cell hbi hw)) h
theorem r_RP1 (x i k : Int) (b c : Nat) (w : World) (hb : w.cell? ⟨b, 0, none⟩ = some (.int .i64 i)) (hc : w.cell? ⟨c, 0, none⟩ = some (.int .i64 k)) :
    Runs Try.prog (.func (.func 74) #[] #[.pointer (some ⟨b, 0, none⟩), .pointer (some ⟨c, 0, none⟩)]) #[.int .i64 x] w fun e w' => e = .returned (.bool (x != i && x != k)) ∧ Below w.heap.size w w' := by
  refine ⟨74, _, _, _, rfl, Try.func74, by kernel_rfl, rfl, ?_⟩
  show Calls _ _ #[.int .i64 x, .pointer (some ⟨b, 0, none⟩), .pointer (some ⟨c, 0, none⟩)] _ _
  cases h1 : (x != i) with
  | true =>
    go_enter Try.func74, Try.ntmps74
    go_wp2
    go_ret
    exact ⟨rfl, Below.refl _ _⟩
  | false =>
    go_enter Try.func74, Try.ntmps74
    go_wp2
    go_ret
    exact ⟨rfl, Below.refl _ _⟩
def leftRP.f (l0 l1 l2 : List Int) (i k : Int) : Option (List Int × List Int × List Int) := leftF (fun x => x != i && x != k) l0 l1 l2
theorem leftRP.calls (A0 : Option Addr) (c0 : Nat) (l0 : List Int) (A1 : Option Addr) (c1 : Nat) (l1 : List Int) (A2 : Option Addr) (c2 : Nat) (l2 : List Int) (gi gk : Nat) (i k : Int) (r1 : List Int) (r2 : List Int) (r3 : List Int) (w : World) (hr0 : Kd.C (Kd.int .i64) w A0 l0.length l0) (hc0 : l0.length ≤ c0) (hr1 : Kd.C (Kd.int .i64) w A1 l1.length l1) (hc1 : l1.length ≤ c1) (hr2 : Kd.C (Kd.int .i64) w A2 l2.length l2) (hc2 : l2.length ≤ c2) (hbi : w.heap[gi]? = some (.cells #[.int .i64 i] 2 (0, 0))) (hbk : w.heap[gk]? = some (.cells #[.int .i64 k] 2 (0, 0))) (h : leftRP.f l0 l1 l2 i k = some (r1, r2, r3)) :
    Calls Try.prog 65 #[.agg #[.slice A0 l0.length c0, .slice A1 l1.length c1, .slice A2 l2.length c2], .func (.func 74) #[] #[.pointer (some ⟨gi, 0, none⟩), .pointer (some ⟨gk, 0, none⟩)]] w fun e w' => ∃ v0_ v1_ v2_ : Value, e = .returned (.agg #[v0_, v1_, v2_]) ∧ Kd.R (Kd.int .i64) 2 w' w.heap.size (fun k_ => some k_ ≠ (v1_ : Value).ownBlock ∧ some k_ ≠ (v2_ : Value).ownBlock) v0_ r1 ∧ Kd.R (Kd.int .i64) 2 w' w.heap.size (fun k_ => some k_ ≠ (v0_ : Value).ownBlock ∧ some k_ ≠ (v2_ : Value).ownBlock) v1_ r2 ∧ Kd.R (Kd.int .i64) 2 w' w.heap.size (fun k_ => some k_ ≠ (v0_ : Value).ownBlock ∧ some k_ ≠ (v1_ : Value).ownBlock) v2_ r3 ∧ Below w.heap.size w w' :=
  leftP _ _ A0 c0 l0 A1 c1 l1 A2 c2 l2 r1 r2 r3 w hr0 hc0 hr1 hr2 rfl (fun x _ w1 hw => r_RP1 x i k gi gk w1 (blk1_cell hbi hw) (blk1_cell hbk hw)) h
end Go.Proofs.Ytihfncjpfgdhoaa.K
end
section
namespace Go.Proofs.Ytihfncjpfgdhoaa.PP
open Go.RowKit Go.Proofs.YtihfncjpfgdhoaaW.PrintWords Go.Proofs.YtihfncjpfgdhoaaW.PrintLast Go.Proofs.YtihfncjpfgdhoaaW.PrintMore
attribute [local go_sem] max2_int min2_int max_two min_two max_three min_three max_four min_four   -- for this text's walks alone
open Go.Proofs.Ytihfncjpfgdhoaa.K Go.Proofs.Ytihfncjpfgdhoaa.PA Go.Proofs.Ytihfncjpfgdhoaa.PE
def errW : Option Int → Value
  | none => .nilIface
  | some c => .iface 0 (.int .i64 c)
theorem errW_none : errW none = .nilIface := rfl
theorem errW_some (c : Int) : errW (some c) = .iface 0 (.int .i64 c) := rfl
theorem info2 : (Try.prog.info? 2).map (fun i => (i.zero, i.size, i.bytes)) = some (some (.int .i64 0), 1, 8) := by kernel_rfl
end Go.Proofs.Ytihfncjpfgdhoaa.PP
end
section
namespace Go.Proofs.Ytihfncjpfgdhoaa.PP
open Go.RowKit Go.Proofs.YtihfncjpfgdhoaaW.PrintWords Go.Proofs.YtihfncjpfgdhoaaW.PrintLast Go.Proofs.YtihfncjpfgdhoaaW.PrintMore
attribute [local go_sem] max2_int min2_int max_two min_two max_three min_three max_four min_four   -- for this text's walks alone
open Go.Proofs.Ytihfncjpfgdhoaa.K Go.Proofs.Ytihfncjpfgdhoaa.PA Go.Proofs.Ytihfncjpfgdhoaa.PE
/-! ### spec_RemovePair: function 34 -/
mutual
def spec_RemovePair.j0 : Nat → Int → Int → Int → Bool → List Int → List Int → List Int → Option (List Int × List Int × List Int × Int)
  | 0, _, _, _, _, _, _, _ => none
  | k + 1, x1, x2, x8, x25, x102000, x102001, x102002 => if x25 = true then (spec_RemovePair.j1 k x1 x2 2 x102000 x102001 x102002) else (spec_RemovePair.j1 k x1 x2 x8 x102000 x102001 x102002)
def spec_RemovePair.j1 : Nat → Int → Int → Int → List Int → List Int → List Int → Option (List Int × List Int × List Int × Int)
  | 0, _, _, _, _, _, _ => none
  | k + 1, x1, x2, x8, x102000, x102001, x102002 => if x8 = 0 then ((spec_l01Places.f k x102000 x1).bind fun bt107 => ((spec_l01Places.f k x102000 x2).bind fun bt109 => (if (wrap64 (bt109.1 - bt107.1)) = 1 then (if (wrap64 (bt109.2 - bt107.2)) = 1 then (spec_RemovePair.j2 k x1 x2 true x102000 x102001 x102002) else (spec_RemovePair.j2 k x1 x2 ((wrap64 (bt107.2 - bt109.2)) == 1) x102000 x102001 x102002)) else (if (wrap64 (bt107.1 - bt109.1)) = 1 then (if (wrap64 (bt109.2 - bt107.2)) = 1 then (spec_RemovePair.j2 k x1 x2 true x102000 x102001 x102002) else (spec_RemovePair.j2 k x1 x2 ((wrap64 (bt107.2 - bt109.2)) == 1) x102000 x102001 x102002)) else (spec_RemovePair.j2 k x1 x2 false x102000 x102001 x102002))))) else (some (([] : List Int), ([] : List Int), ([] : List Int), x8))
def spec_RemovePair.j2 : Nat → Int → Int → Bool → List Int → List Int → List Int → Option (List Int × List Int × List Int × Int)
  | 0, _, _, _, _, _, _ => none
  | k + 1, x1, x2, x13, x102000, x102001, x102002 => if x13 = true then (if 0 ≤ x1 then (if x1 < (x102002.length : Int) then (if 0 ≤ x2 then (if x2 < (x102002.length : Int) then (if (wrap64 ((rd x102002 x1) + (rd x102002 x2))) = 0 then (if x1 < (x102001.length : Int) then (if x2 < (x102001.length : Int) then (spec_RemovePair.j3 k x1 x2 ((rd x102001 x1) != (rd x102001 x2)) x102000 x102001 x102002) else (none)) else (none)) else (spec_RemovePair.j3 k x1 x2 true x102000 x102001 x102002)) else (none)) else (none)) else (none)) else (none)) else (spec_RemovePair.j3 k x1 x2 true x102000 x102001 x102002)
def spec_RemovePair.j3 : Nat → Int → Int → Bool → List Int → List Int → List Int → Option (List Int × List Int × List Int × Int)
  | 0, _, _, _, _, _, _ => none
  | k + 1, x1, x2, x94, x102000, x102001, x102002 => if x94 = true then (some (([] : List Int), ([] : List Int), ([] : List Int), 5)) else ((spec_l07Without.f k x102000 x102001 x102002 (([x1, x2] : List Int))).bind fun bt118 => (some (bt118.1, bt118.2.1, bt118.2.2, 0)))
end
def spec_RemovePair.f (k : Nat) (l0_0 : List Int) (l0_1 : List Int) (l0_2 : List Int) (a1 : Int) (a2 : Int) : Option (List Int × List Int × List Int × Int) := (spec_l07Chord.f k l0_0 l0_1 l0_2 (([a1, a2] : List Int))).bind fun t106 => (if t106 = 0 then (spec_RemovePair.j0 k a1 a2 t106 (a1 == a2) l0_0 l0_1 l0_2) else (spec_RemovePair.j0 k a1 a2 t106 false l0_0 l0_1 l0_2))
theorem spec_RemovePair.mono_l : ∀ k, (∀ y0 y1 y2 y3 y4 y5 y6, LeO (spec_RemovePair.j0 k y0 y1 y2 y3 y4 y5 y6) (spec_RemovePair.j0 (k + 1) y0 y1 y2 y3 y4 y5 y6)) ∧ (∀ y0 y1 y2 y3 y4 y5, LeO (spec_RemovePair.j1 k y0 y1 y2 y3 y4 y5) (spec_RemovePair.j1 (k + 1) y0 y1 y2 y3 y4 y5)) ∧ (∀ y0 y1 y2 y3 y4 y5, LeO (spec_RemovePair.j2 k y0 y1 y2 y3 y4 y5) (spec_RemovePair.j2 (k + 1) y0 y1 y2 y3 y4 y5)) ∧ (∀ y0 y1 y2 y3 y4 y5, LeO (spec_RemovePair.j3 k y0 y1 y2 y3 y4 y5) (spec_RemovePair.j3 (k + 1) y0 y1 y2 y3 y4 y5))
  | 0 => ⟨fun _ _ _ _ _ _ _ r h => by simp [spec_RemovePair.j0] at h, fun _ _ _ _ _ _ r h => by simp [spec_RemovePair.j1] at h, fun _ _ _ _ _ _ r h => by simp [spec_RemovePair.j2] at h, fun _ _ _ _ _ _ r h => by simp [spec_RemovePair.j3] at h⟩
  | k + 1 => by
    obtain ⟨ih0, ih1, ih2, ih3⟩ := spec_RemovePair.mono_l k
    refine ⟨?_, ?_, ?_, ?_⟩
    · intro y0 y1 y2 y3 y4 y5 y6
      unfold spec_RemovePair.j0
      repeat' first
      | (with_reducible exact ih0 _ _ _ _ _ _ _)
      | (with_reducible exact ih1 _ _ _ _ _ _)
      | (with_reducible exact ih2 _ _ _ _ _ _)
      | (with_reducible exact ih3 _ _ _ _ _ _)
      | (with_reducible exact spec_l01Places.mono _ _ _)
      | (with_reducible exact spec_l07Chord.mono _ _ _ _ _)
      | (with_reducible exact spec_l07Without.mono _ _ _ _ _)
      | (with_reducible exact LeO.refl _)
      | (with_reducible exact LeO.none _)
      | (with_reducible refine LeO.ite ?_ ?_)
      | (with_reducible refine LeO.bind ?_ (fun _ => ?_))
      | exact ih0 _ _ _ _ _ _ _
      | exact ih1 _ _ _ _ _ _
      | exact ih2 _ _ _ _ _ _
      | exact ih3 _ _ _ _ _ _
      | exact spec_l01Places.mono _ _ _
      | exact spec_l07Chord.mono _ _ _ _ _
      | exact spec_l07Without.mono _ _ _ _ _
      | exact LeO.none _
      | refine LeO.ite ?_ ?_
      | refine LeO.bind ?_ (fun _ => ?_)
    · intro y0 y1 y2 y3 y4 y5
      unfold spec_RemovePair.j1
      repeat' first
      | (with_reducible exact ih0 _ _ _ _ _ _ _)
      | (with_reducible exact ih1 _ _ _ _ _ _)
      | (with_reducible exact ih2 _ _ _ _ _ _)
      | (with_reducible exact ih3 _ _ _ _ _ _)
      | (with_reducible exact spec_l01Places.mono _ _ _)
      | (with_reducible exact spec_l07Chord.mono _ _ _ _ _)
      | (with_reducible exact spec_l07Without.mono _ _ _ _ _)
      | (with_reducible exact LeO.refl _)
      | (with_reducible exact LeO.none _)
      | (with_reducible refine LeO.ite ?_ ?_)
      | (with_reducible refine LeO.bind ?_ (fun _ => ?_))
      | exact ih0 _ _ _ _ _ _ _
      | exact ih1 _ _ _ _ _ _
      | exact ih2 _ _ _ _ _ _
      | exact ih3 _ _ _ _ _ _
      | exact spec_l01Places.mono _ _ _
      | exact spec_l07Chord.mono _ _ _ _ _
      | exact spec_l07Without.mono _ _ _ _ _
      | exact LeO.none _
      | refine LeO.ite ?_ ?_
      | refine LeO.bind ?_ (fun _ => ?_)
    · intro y0 y1 y2 y3 y4 y5
      unfold spec_RemovePair.j2
      repeat' first
      | (with_reducible exact ih0 _ _ _ _ _ _ _)
      | (with_reducible exact ih1 _ _ _ _ _ _)
      | (with_reducible exact ih2 _ _ _ _ _ _)
      | (with_reducible exact ih3 _ _ _ _ _ _)
      | (with_reducible exact spec_l01Places.mono _ _ _)
      | (with_reducible exact spec_l07Chord.mono _ _ _ _ _)
      | (with_reducible exact spec_l07Without.mono _ _ _ _ _)
      | (with_reducible exact LeO.refl _)
      | (with_reducible exact LeO.none _)
      | (with_reducible refine LeO.ite ?_ ?_)
      | (with_reducible refine LeO.bind ?_ (fun _ => ?_))
      | exact ih0 _ _ _ _ _ _ _
      | exact ih1 _ _ _ _ _ _
      | exact ih2 _ _ _ _ _ _
      | exact ih3 _ _ _ _ _ _
      | exact spec_l01Places.mono _ _ _
      | exact spec_l07Chord.mono _ _ _ _ _
      | exact spec_l07Without.mono _ _ _ _ _
      | exact LeO.none _
      | refine LeO.ite ?_ ?_
      | refine LeO.bind ?_ (fun _ => ?_)
    · intro y0 y1 y2 y3 y4 y5
      unfold spec_RemovePair.j3
      repeat' first
      | (with_reducible exact ih0 _ _ _ _ _ _ _)
      | (with_reducible exact ih1 _ _ _ _ _ _)
      | (with_reducible exact ih2 _ _ _ _ _ _)
      | (with_reducible exact ih3 _ _ _ _ _ _)
      | (with_reducible exact spec_l01Places.mono _ _ _)
      | (with_reducible exact spec_l07Chord.mono _ _ _ _ _)
      | (with_reducible exact spec_l07Without.mono _ _ _ _ _)
      | (with_reducible exact LeO.refl _)
      | (with_reducible exact LeO.none _)
      | (with_reducible refine LeO.ite ?_ ?_)
      | (with_reducible refine LeO.bind ?_ (fun _ => ?_))
      | exact ih0 _ _ _ _ _ _ _
      | exact ih1 _ _ _ _ _ _
      | exact ih2 _ _ _ _ _ _
      | exact ih3 _ _ _ _ _ _
      | exact spec_l01Places.mono _ _ _
      | exact spec_l07Chord.mono _ _ _ _ _
      | exact spec_l07Without.mono _ _ _ _ _
      | exact LeO.none _
      | refine LeO.ite ?_ ?_
      | refine LeO.bind ?_ (fun _ => ?_)
theorem spec_RemovePair.mono : ∀ a0 a1 a2 a3 a4 k, LeO (spec_RemovePair.f k a0 a1 a2 a3 a4) (spec_RemovePair.f (k + 1) a0 a1 a2 a3 a4) := by
  intro a0 a1 a2 a3 a4 k
  obtain ⟨ih0, ih1, ih2, ih3⟩ := spec_RemovePair.mono_l k
  unfold spec_RemovePair.f
  repeat' first
      | (with_reducible exact ih0 _ _ _ _ _ _ _)
      | (with_reducible exact ih1 _ _ _ _ _ _)
      | (with_reducible exact ih2 _ _ _ _ _ _)
      | (with_reducible exact ih3 _ _ _ _ _ _)
      | (with_reducible exact spec_l01Places.mono _ _ _)
      | (with_reducible exact spec_l07Chord.mono _ _ _ _ _)
      | (with_reducible exact spec_l07Without.mono _ _ _ _ _)
      | (with_reducible exact LeO.refl _)
      | (with_reducible exact LeO.none _)
      | (with_reducible refine LeO.ite ?_ ?_)
      | (with_reducible refine LeO.bind ?_ (fun _ => ?_))
      | exact ih0 _ _ _ _ _ _ _
      | exact ih1 _ _ _ _ _ _
      | exact ih2 _ _ _ _ _ _
      | exact ih3 _ _ _ _ _ _
      | exact spec_l01Places.mono _ _ _
      | exact spec_l07Chord.mono _ _ _ _ _
      | exact spec_l07Without.mono _ _ _ _ _
      | exact LeO.none _
      | refine LeO.ite ?_ ?_
      | refine LeO.bind ?_ (fun _ => ?_)
set_option maxHeartbeats 8000000 in
set_option maxRecDepth 100000 in
theorem spec_RemovePair.calls (k : Nat) (A0_0 : Option Addr) (c0_0 : Nat) (l0_0 : List Int) (A0_1 : Option Addr) (c0_1 : Nat) (l0_1 : List Int) (A0_2 : Option Addr) (c0_2 : Nat) (l0_2 : List Int) (a1 : Int) (a2 : Int) (r1 : List Int) (r2 : List Int) (r3 : List Int) (r4 : Int) (w : World) (hr0_0 : Kd.C (Kd.int .i64) w A0_0 l0_0.length l0_0) (hc0_0 : l0_0.length ≤ c0_0) (hr0_1 : Kd.C (Kd.int .i64) w A0_1 l0_1.length l0_1) (hc0_1 : l0_1.length ≤ c0_1) (hr0_2 : Kd.C (Kd.int .i64) w A0_2 l0_2.length l0_2) (hc0_2 : l0_2.length ≤ c0_2) (h : spec_RemovePair.f k l0_0 l0_1 l0_2 a1 a2 = some (r1, r2, r3, r4)) :
    Calls Try.prog 34 #[.agg #[.slice A0_0 l0_0.length c0_0, .slice A0_1 l0_1.length c0_1, .slice A0_2 l0_2.length c0_2], .int .i64 a1, .int .i64 a2] w fun e w' => ∃ v0_ v1_ v2_ : Value, e = .returned (.tuple #[.agg #[v0_, v1_, v2_], .int .i64 r4]) ∧ Kd.R (Kd.int .i64) 2 w' w.heap.size (fun k_ => some k_ ≠ (v1_ : Value).ownBlock ∧ some k_ ≠ (v2_ : Value).ownBlock) v0_ r1 ∧ Kd.R (Kd.int .i64) 2 w' w.heap.size (fun k_ => some k_ ≠ (v0_ : Value).ownBlock ∧ some k_ ≠ (v2_ : Value).ownBlock) v1_ r2 ∧ Kd.R (Kd.int .i64) 2 w' w.heap.size (fun k_ => some k_ ≠ (v0_ : Value).ownBlock ∧ some k_ ≠ (v1_ : Value).ownBlock) v2_ r3 ∧ Below w.heap.size w w' := by
  have hu34 := Try.underlying34
  have HR0_0 := Aside0.mk hr0_0
  have HC0_0 := Aside0.mk hc0_0
  clear hr0_0 hc0_0
  have HR0_1 := Aside0.mk hr0_1
  have HC0_1 := Aside0.mk hc0_1
  clear hr0_1 hc0_1
  have HR0_2 := Aside0.mk hr0_2
  have HC0_2 := Aside0.mk hc0_2
  clear hr0_2 hc0_2
  have HB := mk0 (Below.refl w.heap.size w)
  have H : ((spec_l07Chord.f k l0_0 l0_1 l0_2 (([a1, a2] : List Int))).bind fun t106 => (if t106 = 0 then (spec_RemovePair.j0 k a1 a2 t106 (a1 == a2) l0_0 l0_1 l0_2) else (spec_RemovePair.j0 k a1 a2 t106 false l0_0 l0_1 l0_2))) = some (r1, r2, r3, r4) := h
  clear h
  obtain ⟨y103, hy103⟩ : ∃ y_ : List Int, y_ = (([a1, a2] : List Int)) := ⟨_, rfl⟩
  replace H : ((spec_l07Chord.f k l0_0 l0_1 l0_2 y103).bind fun t106 => (if t106 = 0 then (spec_RemovePair.j0 k a1 a2 t106 (a1 == a2) l0_0 l0_1 l0_2) else (spec_RemovePair.j0 k a1 a2 t106 false l0_0 l0_1 l0_2))) = some (r1, r2, r3, r4) := by first | (rw [hy103]; with_reducible exact H) | (have H2_ := (Option.bind_some _ _).symm.trans H; rw [hy103]; with_reducible exact H2_) | (have H2_ := (Option.bind_some _ _).symm.trans H; with_reducible exact H2_) | with_reducible exact H | (rw [hy103]; exact H) | exact H
  have Ny103 := Aside0.mk hy103
  clear hy103
  replace H := Option.bind_eq_some_iff.mp H
  obtain ⟨t106, A40, H⟩ := H
  replace H : (if t106 = 0 then (spec_RemovePair.j0 k a1 a2 t106 (a1 == a2) l0_0 l0_1 l0_2) else (spec_RemovePair.j0 k a1 a2 t106 false l0_0 l0_1 l0_2)) = some (r1, r2, r3, r4) := H
  have A4 := Aside0.mk A40
  clear A40
  have HC5 := Aside0.mk H
  clear H
  go_enter Try.func34, Try.ntmps34
  go_upto_region 2 with (first | ((with_reducible refine gate_dst (N := 3) rfl ?_); refine box_event ?hg (N := 3) ?hd (cs := #[.slice A0_0 l0_0.length c0_0, .slice A0_1 l0_1.length c0_1, .slice A0_2 l0_2.length c0_2]) (t := 34) ?hr ?_; (case hd => rfl); (case hg => rfl); (case hr => first | (go_simp; done) | (go_simp; rfl)); intro gb101 hg w6 hbox hb; have n0_ := mk0 (below_step (by repeat (first | exact HB.out | apply below_alloc | apply pw_below_drewN | apply below_drew1)) hb); have n1_ := mk0 (hbox); have n2_ := mk0 ((by rw [hg]; exact (below_size (by repeat (first | exact HB.out | apply below_alloc | apply pw_below_drewN | apply below_drew1))) : w.heap.size ≤ gb101)); have n3_ := mk0 ((by rw [hg]; exact (below_size (by repeat (first | exact HB.out | apply below_alloc | apply pw_below_drewN | apply below_drew1))) : w.heap.size ≤ gb101)); clear HB; have HB := n0_; have BK101 := n1_; have GW101 := n2_; have GE101 := n3_; clear n0_ n1_ n2_ n3_; clear hb hbox hg) | ((with_reducible refine gate_dst (N := 6) rfl ?_); refine box_event ?hg (N := 6) ?hd (cs := #[.slice none 0 0, .slice none 0 0, .slice none 0 0]) (t := 34) ?hr ?_; (case hd => rfl); (case hg => rfl); (case hr => first | (go_simp; done) | (go_simp; rfl)); intro gb102 hg w7 hbox hb; have n0_ := mk0 (blk_below (by exact BK101.out) hb); have n1_ := mk0 (below_step (by repeat (first | exact HB.out | apply below_alloc | apply pw_below_drewN | apply below_drew1 | refine below_set ?_ GE101.out)) hb); have n2_ := mk0 (hbox); have n3_ := mk0 ((by rw [hg]; exact (below_size (by repeat (first | exact HB.out | apply below_alloc | apply pw_below_drewN | apply below_drew1 | refine below_set ?_ GE101.out))) : w.heap.size ≤ gb102)); have n4_ := mk0 ((by rw [hg]; exact (below_size (by repeat (first | exact HB.out | apply below_alloc | apply pw_below_drewN | apply below_drew1 | refine below_set ?_ GE101.out))) : w.heap.size ≤ gb102)); have n5_ := mk0 ((by rw [hg]; exact Nat.ne_of_lt (blk_lt (g := gb101) (o := .cells #[.slice A0_0 l0_0.length c0_0, .slice A0_1 l0_1.length c0_1, .slice A0_2 l0_2.length c0_2] 34 (0, 0)) (by exact BK101.out)) : gb101 ≠ gb102)); have n6_ := mk0 ((by rw [hg]; exact Nat.ne_of_gt (blk_lt (g := gb101) (o := .cells #[.slice A0_0 l0_0.length c0_0, .slice A0_1 l0_1.length c0_1, .slice A0_2 l0_2.length c0_2] 34 (0, 0)) (by exact BK101.out)) : gb102 ≠ gb101)); clear BK101; clear HB; have BK101 := n0_; have HB := n1_; have BK102 := n2_; have GW102 := n3_; have GE102 := n4_; have NB101_102 := n5_; have NB102_101 := n6_; clear n0_ n1_ n2_ n3_ n4_ n5_ n6_; clear hb hbox hg; have hnb8 := NB101_102.out; have hnc8 := NB102_101.out; obtain ⟨hcz9_0, hcz9_1, hcz9_2⟩ := bc3 BK101.out; obtain ⟨hfz9_0, hfz9_1, hfz9_2⟩ := bf3 BK101.out) | ((with_reducible refine gate_dst (N := 17) rfl ?_); refine Kd.R_lit (Kd.int .i64) _ 2 ?hg (N := 17) ?hd (xs := ([a1, a2] : List Int)) (inner := [.int .i64 a1, .int .i64 a2]) (ok := fun _ => True) (okp := fun _ => True) ?hr ?hp (fun _ hk => hk) trivial (Below.refl _ _) (Nat.le_refl _) (by simp) ?_; (case hd => rfl); (case hg => rfl); (case hr => first | (go_simp; done) | (go_simp; rfl)); (case hp => exact (Reps.one (show Kd.M (Kd.int .i64) _ _ _ a1 [.int .i64 a1] from rfl) (Reps.one (show Kd.M (Kd.int .i64) _ _ _ a2 [.int .i64 a2] from rfl) (Reps.none _ _)))); intro v104 w10 ho11 hb hg_ hnew_; clear hg_ hnew_; (first | rw [← Ny103.out] at ho11 | (simp only [Int.reduceToNat] at ho11; rw [← Ny103.out] at ho11)); have n0_ := mk0 (Kd.R_lower ho11 (below_size (by repeat (first | exact HB.out | apply below_alloc | apply pw_below_drewN | apply below_drew1 | refine below_set ?_ GE101.out | refine below_set ?_ GE102.out)))); have n1_ := mk0 (blk_below (by exact BK101.out) hb); have n2_ := mk0 (blk_below (by exact BK102.out) hb); have n3_ := mk0 (below_step (by repeat (first | exact HB.out | apply below_alloc | apply pw_below_drewN | apply below_drew1 | refine below_set ?_ GE101.out | refine below_set ?_ GE102.out)) hb); clear BK101; clear BK102; clear HB; have HO105 := n0_; have BK101 := n1_; have BK102 := n2_; have HB := n3_; clear n0_ n1_ n2_ n3_; clear hb ho11; obtain ⟨Ao12, co12, eo12⟩ := Kd.R_slice HO105.out; subst eo12) | (go_at_call 60; (with_reducible refine (spec_l07Chord.calls k _ _ l0_0 _ _ l0_1 _ _ l0_2 _ _ y103 t106 _ ?side1 ?side2 ?side3 ?side4 ?side5 ?side6 ?side7 ?side8 A4.out).mono ?_); (case side1 => exact (Kd.C_below HR0_0.out HB.out)); (case side2 => exact HC0_0.out); (case side3 => exact (Kd.C_below HR0_1.out HB.out)); (case side4 => exact HC0_1.out); (case side5 => exact (Kd.C_below HR0_2.out HB.out)); (case side6 => exact HC0_2.out); (case side7 => exact (Kd.R_reads' HO105.out).2.2); (case side8 => exact (Kd.R_reads' HO105.out).2.1); rintro e w13 ⟨rfl, hb⟩; have n0_ := mk0 (Kd.R_below HO105.out hb); have n1_ := mk0 (blk_below (by exact BK101.out) hb); have n2_ := mk0 (blk_below (by exact BK102.out) hb); have n3_ := mk0 (below_step (by repeat (first | exact HB.out | apply below_alloc | apply pw_below_drewN | apply below_drew1 | refine below_set ?_ GE101.out | refine below_set ?_ GE102.out)) hb); clear HO105; clear BK101; clear BK102; clear HB; have HO105 := n0_; have BK101 := n1_; have BK102 := n2_; have HB := n3_; clear n0_ n1_ n2_ n3_; (try clear hb); (try clear hb2); (try clear hk); (try clear hi)))
  repeat (go_quiet (first | ((with_reducible refine gate_dst (N := 3) rfl ?_); refine box_event ?hg (N := 3) ?hd (cs := #[.slice A0_0 l0_0.length c0_0, .slice A0_1 l0_1.length c0_1, .slice A0_2 l0_2.length c0_2]) (t := 34) ?hr ?_; (case hd => rfl); (case hg => rfl); (case hr => first | (go_simp; done) | (go_simp; rfl)); intro gb101 hg w6 hbox hb; have n0_ := mk0 (below_step (by repeat (first | exact HB.out | apply below_alloc | apply pw_below_drewN | apply below_drew1)) hb); have n1_ := mk0 (hbox); have n2_ := mk0 ((by rw [hg]; exact (below_size (by repeat (first | exact HB.out | apply below_alloc | apply pw_below_drewN | apply below_drew1))) : w.heap.size ≤ gb101)); have n3_ := mk0 ((by rw [hg]; exact (below_size (by repeat (first | exact HB.out | apply below_alloc | apply pw_below_drewN | apply below_drew1))) : w.heap.size ≤ gb101)); clear HB; have HB := n0_; have BK101 := n1_; have GW101 := n2_; have GE101 := n3_; clear n0_ n1_ n2_ n3_; clear hb hbox hg) | ((with_reducible refine gate_dst (N := 6) rfl ?_); refine box_event ?hg (N := 6) ?hd (cs := #[.slice none 0 0, .slice none 0 0, .slice none 0 0]) (t := 34) ?hr ?_; (case hd => rfl); (case hg => rfl); (case hr => first | (go_simp; done) | (go_simp; rfl)); intro gb102 hg w7 hbox hb; have n0_ := mk0 (blk_below (by exact BK101.out) hb); have n1_ := mk0 (below_step (by repeat (first | exact HB.out | apply below_alloc | apply pw_below_drewN | apply below_drew1 | refine below_set ?_ GE101.out)) hb); have n2_ := mk0 (hbox); have n3_ := mk0 ((by rw [hg]; exact (below_size (by repeat (first | exact HB.out | apply below_alloc | apply pw_below_drewN | apply below_drew1 | refine below_set ?_ GE101.out))) : w.heap.size ≤ gb102)); have n4_ := mk0 ((by rw [hg]; exact (below_size (by repeat (first | exact HB.out | apply below_alloc | apply pw_below_drewN | apply below_drew1 | refine below_set ?_ GE101.out))) : w.heap.size ≤ gb102)); have n5_ := mk0 ((by rw [hg]; exact Nat.ne_of_lt (blk_lt (g := gb101) (o := .cells #[.slice A0_0 l0_0.length c0_0, .slice A0_1 l0_1.length c0_1, .slice A0_2 l0_2.length c0_2] 34 (0, 0)) (by exact BK101.out)) : gb101 ≠ gb102)); have n6_ := mk0 ((by rw [hg]; exact Nat.ne_of_gt (blk_lt (g := gb101) (o := .cells #[.slice A0_0 l0_0.length c0_0, .slice A0_1 l0_1.length c0_1, .slice A0_2 l0_2.length c0_2] 34 (0, 0)) (by exact BK101.out)) : gb102 ≠ gb101)); clear BK101; clear HB; have BK101 := n0_; have HB := n1_; have BK102 := n2_; have GW102 := n3_; have GE102 := n4_; have NB101_102 := n5_; have NB102_101 := n6_; clear n0_ n1_ n2_ n3_ n4_ n5_ n6_; clear hb hbox hg; have hnb8 := NB101_102.out; have hnc8 := NB102_101.out; obtain ⟨hcz9_0, hcz9_1, hcz9_2⟩ := bc3 BK101.out; obtain ⟨hfz9_0, hfz9_1, hfz9_2⟩ := bf3 BK101.out) | ((with_reducible refine gate_dst (N := 17) rfl ?_); refine Kd.R_lit (Kd.int .i64) _ 2 ?hg (N := 17) ?hd (xs := ([a1, a2] : List Int)) (inner := [.int .i64 a1, .int .i64 a2]) (ok := fun _ => True) (okp := fun _ => True) ?hr ?hp (fun _ hk => hk) trivial (Below.refl _ _) (Nat.le_refl _) (by simp) ?_; (case hd => rfl); (case hg => rfl); (case hr => first | (go_simp; done) | (go_simp; rfl)); (case hp => exact (Reps.one (show Kd.M (Kd.int .i64) _ _ _ a1 [.int .i64 a1] from rfl) (Reps.one (show Kd.M (Kd.int .i64) _ _ _ a2 [.int .i64 a2] from rfl) (Reps.none _ _)))); intro v104 w10 ho11 hb hg_ hnew_; clear hg_ hnew_; (first | rw [← Ny103.out] at ho11 | (simp only [Int.reduceToNat] at ho11; rw [← Ny103.out] at ho11)); have n0_ := mk0 (Kd.R_lower ho11 (below_size (by repeat (first | exact HB.out | apply below_alloc | apply pw_below_drewN | apply below_drew1 | refine below_set ?_ GE101.out | refine below_set ?_ GE102.out)))); have n1_ := mk0 (blk_below (by exact BK101.out) hb); have n2_ := mk0 (blk_below (by exact BK102.out) hb); have n3_ := mk0 (below_step (by repeat (first | exact HB.out | apply below_alloc | apply pw_below_drewN | apply below_drew1 | refine below_set ?_ GE101.out | refine below_set ?_ GE102.out)) hb); clear BK101; clear BK102; clear HB; have HO105 := n0_; have BK101 := n1_; have BK102 := n2_; have HB := n3_; clear n0_ n1_ n2_ n3_; clear hb ho11; obtain ⟨Ao12, co12, eo12⟩ := Kd.R_slice HO105.out; subst eo12) | (go_at_call 60; (with_reducible refine (spec_l07Chord.calls k _ _ l0_0 _ _ l0_1 _ _ l0_2 _ _ y103 t106 _ ?side1 ?side2 ?side3 ?side4 ?side5 ?side6 ?side7 ?side8 A4.out).mono ?_); (case side1 => exact (Kd.C_below HR0_0.out HB.out)); (case side2 => exact HC0_0.out); (case side3 => exact (Kd.C_below HR0_1.out HB.out)); (case side4 => exact HC0_1.out); (case side5 => exact (Kd.C_below HR0_2.out HB.out)); (case side6 => exact HC0_2.out); (case side7 => exact (Kd.R_reads' HO105.out).2.2); (case side8 => exact (Kd.R_reads' HO105.out).2.1); rintro e w13 ⟨rfl, hb⟩; have n0_ := mk0 (Kd.R_below HO105.out hb); have n1_ := mk0 (blk_below (by exact BK101.out) hb); have n2_ := mk0 (blk_below (by exact BK102.out) hb); have n3_ := mk0 (below_step (by repeat (first | exact HB.out | apply below_alloc | apply pw_below_drewN | apply below_drew1 | refine below_set ?_ GE101.out | refine below_set ?_ GE102.out)) hb); clear HO105; clear BK101; clear BK102; clear HB; have HO105 := n0_; have BK101 := n1_; have BK102 := n2_; have HB := n3_; clear n0_ n1_ n2_ n3_; (try clear hb); (try clear hb2); (try clear hk); (try clear hi))); go_upto_region 2 with (first | ((with_reducible refine gate_dst (N := 3) rfl ?_); refine box_event ?hg (N := 3) ?hd (cs := #[.slice A0_0 l0_0.length c0_0, .slice A0_1 l0_1.length c0_1, .slice A0_2 l0_2.length c0_2]) (t := 34) ?hr ?_; (case hd => rfl); (case hg => rfl); (case hr => first | (go_simp; done) | (go_simp; rfl)); intro gb101 hg w6 hbox hb; have n0_ := mk0 (below_step (by repeat (first | exact HB.out | apply below_alloc | apply pw_below_drewN | apply below_drew1)) hb); have n1_ := mk0 (hbox); have n2_ := mk0 ((by rw [hg]; exact (below_size (by repeat (first | exact HB.out | apply below_alloc | apply pw_below_drewN | apply below_drew1))) : w.heap.size ≤ gb101)); have n3_ := mk0 ((by rw [hg]; exact (below_size (by repeat (first | exact HB.out | apply below_alloc | apply pw_below_drewN | apply below_drew1))) : w.heap.size ≤ gb101)); clear HB; have HB := n0_; have BK101 := n1_; have GW101 := n2_; have GE101 := n3_; clear n0_ n1_ n2_ n3_; clear hb hbox hg) | ((with_reducible refine gate_dst (N := 6) rfl ?_); refine box_event ?hg (N := 6) ?hd (cs := #[.slice none 0 0, .slice none 0 0, .slice none 0 0]) (t := 34) ?hr ?_; (case hd => rfl); (case hg => rfl); (case hr => first | (go_simp; done) | (go_simp; rfl)); intro gb102 hg w7 hbox hb; have n0_ := mk0 (blk_below (by exact BK101.out) hb); have n1_ := mk0 (below_step (by repeat (first | exact HB.out | apply below_alloc | apply pw_below_drewN | apply below_drew1 | refine below_set ?_ GE101.out)) hb); have n2_ := mk0 (hbox); have n3_ := mk0 ((by rw [hg]; exact (below_size (by repeat (first | exact HB.out | apply below_alloc | apply pw_below_drewN | apply below_drew1 | refine below_set ?_ GE101.out))) : w.heap.size ≤ gb102)); have n4_ := mk0 ((by rw [hg]; exact (below_size (by repeat (first | exact HB.out | apply below_alloc | apply pw_below_drewN | apply below_drew1 | refine below_set ?_ GE101.out))) : w.heap.size ≤ gb102)); have n5_ := mk0 ((by rw [hg]; exact Nat.ne_of_lt (blk_lt (g := gb101) (o := .cells #[.slice A0_0 l0_0.length c0_0, .slice A0_1 l0_1.length c0_1, .slice A0_2 l0_2.length c0_2] 34 (0, 0)) (by exact BK101.out)) : gb101 ≠ gb102)); have n6_ := mk0 ((by rw [hg]; exact Nat.ne_of_gt (blk_lt (g := gb101) (o := .cells #[.slice A0_0 l0_0.length c0_0, .slice A0_1 l0_1.length c0_1, .slice A0_2 l0_2.length c0_2] 34 (0, 0)) (by exact BK101.out)) : gb102 ≠ gb101)); clear BK101; clear HB; have BK101 := n0_; have HB := n1_; have BK102 := n2_; have GW102 := n3_; have GE102 := n4_; have NB101_102 := n5_; have NB102_101 := n6_; clear n0_ n1_ n2_ n3_ n4_ n5_ n6_; clear hb hbox hg; have hnb8 := NB101_102.out; have hnc8 := NB102_101.out; obtain ⟨hcz9_0, hcz9_1, hcz9_2⟩ := bc3 BK101.out; obtain ⟨hfz9_0, hfz9_1, hfz9_2⟩ := bf3 BK101.out) | ((with_reducible refine gate_dst (N := 17) rfl ?_); refine Kd.R_lit (Kd.int .i64) _ 2 ?hg (N := 17) ?hd (xs := ([a1, a2] : List Int)) (inner := [.int .i64 a1, .int .i64 a2]) (ok := fun _ => True) (okp := fun _ => True) ?hr ?hp (fun _ hk => hk) trivial (Below.refl _ _) (Nat.le_refl _) (by simp) ?_; (case hd => rfl); (case hg => rfl); (case hr => first | (go_simp; done) | (go_simp; rfl)); (case hp => exact (Reps.one (show Kd.M (Kd.int .i64) _ _ _ a1 [.int .i64 a1] from rfl) (Reps.one (show Kd.M (Kd.int .i64) _ _ _ a2 [.int .i64 a2] from rfl) (Reps.none _ _)))); intro v104 w10 ho11 hb hg_ hnew_; clear hg_ hnew_; (first | rw [← Ny103.out] at ho11 | (simp only [Int.reduceToNat] at ho11; rw [← Ny103.out] at ho11)); have n0_ := mk0 (Kd.R_lower ho11 (below_size (by repeat (first | exact HB.out | apply below_alloc | apply pw_below_drewN | apply below_drew1 | refine below_set ?_ GE101.out | refine below_set ?_ GE102.out)))); have n1_ := mk0 (blk_below (by exact BK101.out) hb); have n2_ := mk0 (blk_below (by exact BK102.out) hb); have n3_ := mk0 (below_step (by repeat (first | exact HB.out | apply below_alloc | apply pw_below_drewN | apply below_drew1 | refine below_set ?_ GE101.out | refine below_set ?_ GE102.out)) hb); clear BK101; clear BK102; clear HB; have HO105 := n0_; have BK101 := n1_; have BK102 := n2_; have HB := n3_; clear n0_ n1_ n2_ n3_; clear hb ho11; obtain ⟨Ao12, co12, eo12⟩ := Kd.R_slice HO105.out; subst eo12) | (go_at_call 60; (with_reducible refine (spec_l07Chord.calls k _ _ l0_0 _ _ l0_1 _ _ l0_2 _ _ y103 t106 _ ?side1 ?side2 ?side3 ?side4 ?side5 ?side6 ?side7 ?side8 A4.out).mono ?_); (case side1 => exact (Kd.C_below HR0_0.out HB.out)); (case side2 => exact HC0_0.out); (case side3 => exact (Kd.C_below HR0_1.out HB.out)); (case side4 => exact HC0_1.out); (case side5 => exact (Kd.C_below HR0_2.out HB.out)); (case side6 => exact HC0_2.out); (case side7 => exact (Kd.R_reads' HO105.out).2.2); (case side8 => exact (Kd.R_reads' HO105.out).2.1); rintro e w13 ⟨rfl, hb⟩; have n0_ := mk0 (Kd.R_below HO105.out hb); have n1_ := mk0 (blk_below (by exact BK101.out) hb); have n2_ := mk0 (blk_below (by exact BK102.out) hb); have n3_ := mk0 (below_step (by repeat (first | exact HB.out | apply below_alloc | apply pw_below_drewN | apply below_drew1 | refine below_set ?_ GE101.out | refine below_set ?_ GE102.out)) hb); clear HO105; clear BK101; clear BK102; clear HB; have HO105 := n0_; have BK101 := n1_; have BK102 := n2_; have HB := n3_; clear n0_ n1_ n2_ n3_; (try clear hb); (try clear hb2); (try clear hk); (try clear hi))))
  (try simp only [Act.put, List.setIfInBounds_toArray, List.set_cons_zero, List.set_cons_succ])
  go_cut [25] (fun v25 wc => ∃ (kq : Nat) (x25_4 : Bool), v25 = .bool x25_4 ∧ Aside0 (spec_RemovePair.j0 kq a1 a2 t106 x25_4 l0_0 l0_1 l0_2 = some (r1, r2, r3, r4)) ∧ Aside0 (kq ≤ k) ∧ Aside0 (wc.heap[gb101]? = some (.cells #[(.slice A0_0 l0_0.length c0_0), (.slice A0_1 l0_1.length c0_1), (.slice A0_2 l0_2.length c0_2)] 34 (0, 0))) ∧ Aside0 (wc.heap[gb102]? = some (.cells #[(.slice none 0 0), (.slice none 0 0), (.slice none 0 0)] 34 (0, 0))) ∧ Aside0 (Below w.heap.size w wc))
  case first =>
    have H := HC5.out
    clear HC5
    by_cases c14 : t106 = 0
    · rw [if_pos c14] at H
      have c14b0 : (t106 == 0) = true := beq_iff_eq.mpr c14
      have c14b1 : (t106 != 0) = false := bne_eq_false_iff_eq.mpr c14
      clear c14
      (first | rw [c14b0] | (simp only [i64_w, i32_w]; rw [c14b0]) | skip)
      have H' := Aside0.mk H
      clear H
      go_wp2
      repeat (go_quiet (fail); try go_wp2)
      go_meet
      case rel => exact ⟨_, ((a1 == a2)), (by first | rfl | (simp; done) | (simp [*]; done)), H', ⟨by first | omega | exact Nat.le_refl _⟩, ⟨by exact BK101.out⟩, ⟨by exact BK102.out⟩, ⟨by repeat (first | exact HB.out | apply below_alloc | apply pw_below_drewN | apply below_drew1 | refine below_set ?_ GE101.out | refine below_set ?_ GE102.out)⟩⟩
    · rw [if_neg c14] at H
      have c14b0 : (t106 == 0) = false := beq_eq_false_iff_ne.mpr c14
      have c14b1 : (t106 != 0) = true := bne_iff_ne.mpr c14
      (first | rw [c14b0] | (simp only [i64_w, i32_w]; rw [c14b0]) | skip)
      have H' := Aside0.mk H
      clear H
      go_wp2
      repeat (go_quiet (fail); try go_wp2)
      go_meet
      case rel => exact ⟨_, (false), (by first | rfl | (simp; done) | (simp [*]; done)), H', ⟨by first | omega | exact Nat.le_refl _⟩, ⟨by exact BK101.out⟩, ⟨by exact BK102.out⟩, ⟨by repeat (first | exact HB.out | apply below_alloc | apply pw_below_drewN | apply below_drew1 | refine below_set ?_ GE101.out | refine below_set ?_ GE102.out)⟩⟩
  case rest =>
    clear HC5
    try clear c1
    try clear p2
    try clear c3
    try clear c8
    try clear c14
    try clear c14b0
    try clear c14b1
    try clear hcz9_0
    try clear hcz9_1
    try clear hcz9_2
    try clear hfz9_0
    try clear hfz9_1
    try clear hfz9_2
    obtain ⟨kq, x25_4, rfl, HA, HJ4, BK101, BK102, HB⟩ := hcut
    cases kq with
    | zero => exact absurd HA.out (by simp [spec_RemovePair.j0])
    | succ kj4 =>
      have H := HA.out
      clear HA
      simp only [spec_RemovePair.j0] at H
      have HC15 := Aside0.mk H
      clear H
      go_upto_if 25 with (fail)
      repeat (go_quiet (fail); go_upto_if 25 with (fail))
      go_cut [8] (fun v8 wc => ∃ (kq : Nat) (x8_14 : Int), v8 = .int .i64 x8_14 ∧ Aside0 (spec_RemovePair.j1 kq a1 a2 x8_14 l0_0 l0_1 l0_2 = some (r1, r2, r3, r4)) ∧ Aside0 (kq ≤ kj4) ∧ Aside0 (wc.heap[gb101]? = some (.cells #[(.slice A0_0 l0_0.length c0_0), (.slice A0_1 l0_1.length c0_1), (.slice A0_2 l0_2.length c0_2)] 34 (0, 0))) ∧ Aside0 (wc.heap[gb102]? = some (.cells #[(.slice none 0 0), (.slice none 0 0), (.slice none 0 0)] 34 (0, 0))) ∧ Aside0 (Below w.heap.size w wc))
      case first =>
        have H := HC15.out
        clear HC15
        by_cases c16 : x25_4 = true
        · subst c16
          have H1 : (spec_RemovePair.j1 kj4 a1 a2 2 l0_0 l0_1 l0_2) = some (r1, r2, r3, r4) := by rw [if_pos rfl] at H; exact H
          clear H
          have H := H1
          clear H1
          have H' := Aside0.mk H
          clear H
          go_wp2
          repeat (go_quiet (fail); try go_wp2)
          go_meet
          case rel => exact ⟨_, (2), (by first | rfl | (simp; done) | (simp [*]; done)), H', ⟨by have := HJ4.out; first | omega | exact Nat.le_refl _⟩, ⟨by exact BK101.out⟩, ⟨by exact BK102.out⟩, ⟨by repeat (first | exact HB.out | apply below_alloc | apply pw_below_drewN | apply below_drew1 | refine below_set ?_ GE101.out | refine below_set ?_ GE102.out)⟩⟩
        · replace c16 := Bool.eq_false_iff.mpr c16
          subst c16
          have H1 : (spec_RemovePair.j1 kj4 a1 a2 t106 l0_0 l0_1 l0_2) = some (r1, r2, r3, r4) := by rw [if_neg (show ¬ (false = true) by decide)] at H; exact H
          clear H
          have H := H1
          clear H1
          have H' := Aside0.mk H
          clear H
          go_wp2
          repeat (go_quiet (fail); try go_wp2)
          go_meet
          case rel => exact ⟨_, (t106), (by first | rfl | (simp; done) | (simp [*]; done)), H', ⟨by have := HJ4.out; first | omega | exact Nat.le_refl _⟩, ⟨by exact BK101.out⟩, ⟨by exact BK102.out⟩, ⟨by repeat (first | exact HB.out | apply below_alloc | apply pw_below_drewN | apply below_drew1 | refine below_set ?_ GE101.out | refine below_set ?_ GE102.out)⟩⟩
      case rest =>
        clear HC15
        try clear c1
        try clear p2
        try clear c3
        try clear c8
        try clear c14
        try clear c14b0
        try clear c14b1
        try clear c16
        try clear hcz9_0
        try clear hcz9_1
        try clear hcz9_2
        try clear hfz9_0
        try clear hfz9_1
        try clear hfz9_2
        try clear p2
        obtain ⟨kq, x8_14, rfl, HA, HJ14, BK101, BK102, HB⟩ := hcut
        cases kq with
        | zero => exact absurd HA.out (by simp [spec_RemovePair.j1])
        | succ kj14 =>
          have H := HA.out
          clear HA
          simp only [spec_RemovePair.j1] at H
          by_cases c17 : x8_14 = 0
          · rw [if_pos c17] at H
            have c17b0 : (x8_14 == 0) = true := beq_iff_eq.mpr c17
            have c17b1 : (x8_14 != 0) = false := bne_eq_false_iff_eq.mpr c17
            clear c17
            replace H := Option.bind_eq_some_iff.mp H
            obtain ⟨⟨t107, t108⟩, A180, H⟩ := H
            replace H : ((spec_l01Places.f kj14 l0_0 a2).bind fun bt109 => (if (wrap64 (bt109.1 - t107)) = 1 then (if (wrap64 (bt109.2 - t108)) = 1 then (spec_RemovePair.j2 kj14 a1 a2 true l0_0 l0_1 l0_2) else (spec_RemovePair.j2 kj14 a1 a2 ((wrap64 (t108 - bt109.2)) == 1) l0_0 l0_1 l0_2)) else (if (wrap64 (t107 - bt109.1)) = 1 then (if (wrap64 (bt109.2 - t108)) = 1 then (spec_RemovePair.j2 kj14 a1 a2 true l0_0 l0_1 l0_2) else (spec_RemovePair.j2 kj14 a1 a2 ((wrap64 (t108 - bt109.2)) == 1) l0_0 l0_1 l0_2)) else (spec_RemovePair.j2 kj14 a1 a2 false l0_0 l0_1 l0_2)))) = some (r1, r2, r3, r4) := H
            have A18 := Aside0.mk A180
            clear A180
            replace H := Option.bind_eq_some_iff.mp H
            obtain ⟨⟨t109, t110⟩, A190, H⟩ := H
            replace H : (if (wrap64 (t109 - t107)) = 1 then (if (wrap64 (t110 - t108)) = 1 then (spec_RemovePair.j2 kj14 a1 a2 true l0_0 l0_1 l0_2) else (spec_RemovePair.j2 kj14 a1 a2 ((wrap64 (t108 - t110)) == 1) l0_0 l0_1 l0_2)) else (if (wrap64 (t107 - t109)) = 1 then (if (wrap64 (t110 - t108)) = 1 then (spec_RemovePair.j2 kj14 a1 a2 true l0_0 l0_1 l0_2) else (spec_RemovePair.j2 kj14 a1 a2 ((wrap64 (t108 - t110)) == 1) l0_0 l0_1 l0_2)) else (spec_RemovePair.j2 kj14 a1 a2 false l0_0 l0_1 l0_2))) = some (r1, r2, r3, r4) := H
            have A19 := Aside0.mk A190
            clear A190
            have HC20 := Aside0.mk H
            clear H
            have hnb21 := NB101_102.out
            have hnc21 := NB102_101.out
            obtain ⟨hcz22_0, hcz22_1, hcz22_2⟩ := bc3 BK101.out
            obtain ⟨hfz22_0, hfz22_1, hfz22_2⟩ := bf3 BK101.out
            go_upto_region 8 with (first | (go_at_call 61; (with_reducible refine (spec_l01Places.calls kj14 _ _ l0_0 a1 t107 t108 _ ?side1 ?side2 A18.out).mono ?_); (case side1 => exact (Kd.C_below HR0_0.out HB.out)); (case side2 => exact HC0_0.out); rintro e w' ⟨rfl, ⟨nd, rfl⟩⟩; (try first | exact ⟨rfl, _, World.drewN_drewN _ _ _⟩ | exact ⟨rfl, _, Eq.trans (World.drewN_drewN _ _ _) (congrArg (World.drewN _) (Nat.add_assoc _ _ _))⟩)) | (go_at_call 61; (with_reducible refine (spec_l01Places.calls kj14 _ _ l0_0 a2 t109 t110 _ ?side1 ?side2 A19.out).mono ?_); (case side1 => repeat (first | exact (Kd.C_below HR0_0.out (by repeat (first | exact HB.out | apply below_alloc | apply pw_below_drewN | apply below_drew1 | refine below_set ?_ GE101.out | refine below_set ?_ GE102.out))) | (with_reducible refine Kd.C_alloc ?_ _) | (with_reducible refine Kd.C_drewN ?_ _) | (with_reducible refine Kd.C_drew ?_))); (case side2 => exact HC0_0.out); rintro e w' ⟨rfl, ⟨nd, rfl⟩⟩; (try first | exact ⟨rfl, _, World.drewN_drewN _ _ _⟩ | exact ⟨rfl, _, Eq.trans (World.drewN_drewN _ _ _) (congrArg (World.drewN _) (Nat.add_assoc _ _ _))⟩)))
            repeat (go_quiet (first | (go_at_call 61; (with_reducible refine (spec_l01Places.calls kj14 _ _ l0_0 a1 t107 t108 _ ?side1 ?side2 A18.out).mono ?_); (case side1 => exact (Kd.C_below HR0_0.out HB.out)); (case side2 => exact HC0_0.out); rintro e w' ⟨rfl, ⟨nd, rfl⟩⟩; (try first | exact ⟨rfl, _, World.drewN_drewN _ _ _⟩ | exact ⟨rfl, _, Eq.trans (World.drewN_drewN _ _ _) (congrArg (World.drewN _) (Nat.add_assoc _ _ _))⟩)) | (go_at_call 61; (with_reducible refine (spec_l01Places.calls kj14 _ _ l0_0 a2 t109 t110 _ ?side1 ?side2 A19.out).mono ?_); (case side1 => repeat (first | exact (Kd.C_below HR0_0.out (by repeat (first | exact HB.out | apply below_alloc | apply pw_below_drewN | apply below_drew1 | refine below_set ?_ GE101.out | refine below_set ?_ GE102.out))) | (with_reducible refine Kd.C_alloc ?_ _) | (with_reducible refine Kd.C_drewN ?_ _) | (with_reducible refine Kd.C_drew ?_))); (case side2 => exact HC0_0.out); rintro e w' ⟨rfl, ⟨nd, rfl⟩⟩; (try first | exact ⟨rfl, _, World.drewN_drewN _ _ _⟩ | exact ⟨rfl, _, Eq.trans (World.drewN_drewN _ _ _) (congrArg (World.drewN _) (Nat.add_assoc _ _ _))⟩))); go_upto_region 8 with (first | (go_at_call 61; (with_reducible refine (spec_l01Places.calls kj14 _ _ l0_0 a1 t107 t108 _ ?side1 ?side2 A18.out).mono ?_); (case side1 => exact (Kd.C_below HR0_0.out HB.out)); (case side2 => exact HC0_0.out); rintro e w' ⟨rfl, ⟨nd, rfl⟩⟩; (try first | exact ⟨rfl, _, World.drewN_drewN _ _ _⟩ | exact ⟨rfl, _, Eq.trans (World.drewN_drewN _ _ _) (congrArg (World.drewN _) (Nat.add_assoc _ _ _))⟩)) | (go_at_call 61; (with_reducible refine (spec_l01Places.calls kj14 _ _ l0_0 a2 t109 t110 _ ?side1 ?side2 A19.out).mono ?_); (case side1 => repeat (first | exact (Kd.C_below HR0_0.out (by repeat (first | exact HB.out | apply below_alloc | apply pw_below_drewN | apply below_drew1 | refine below_set ?_ GE101.out | refine below_set ?_ GE102.out))) | (with_reducible refine Kd.C_alloc ?_ _) | (with_reducible refine Kd.C_drewN ?_ _) | (with_reducible refine Kd.C_drew ?_))); (case side2 => exact HC0_0.out); rintro e w' ⟨rfl, ⟨nd, rfl⟩⟩; (try first | exact ⟨rfl, _, World.drewN_drewN _ _ _⟩ | exact ⟨rfl, _, Eq.trans (World.drewN_drewN _ _ _) (congrArg (World.drewN _) (Nat.add_assoc _ _ _))⟩))))
            (try simp only [Act.put, List.setIfInBounds_toArray, List.set_cons_zero, List.set_cons_succ])
            go_cut [13] (fun v13 wc => ∃ (kq : Nat) (x13_19 : Bool), v13 = .bool x13_19 ∧ Aside0 (spec_RemovePair.j2 kq a1 a2 x13_19 l0_0 l0_1 l0_2 = some (r1, r2, r3, r4)) ∧ Aside0 (kq ≤ kj14) ∧ Aside0 (wc.heap[gb101]? = some (.cells #[(.slice A0_0 l0_0.length c0_0), (.slice A0_1 l0_1.length c0_1), (.slice A0_2 l0_2.length c0_2)] 34 (0, 0))) ∧ Aside0 (wc.heap[gb102]? = some (.cells #[(.slice none 0 0), (.slice none 0 0), (.slice none 0 0)] 34 (0, 0))) ∧ Aside0 (Below w.heap.size w wc))
            case first =>
              have H := HC20.out
              clear HC20
              by_cases c23 : (wrap64 (t109 - t107)) = 1
              · rw [if_pos c23] at H
                have c23b0 : ((wrap64 (t109 - t107)) == 1) = true := beq_iff_eq.mpr c23
                have c23b1 : ((wrap64 (t109 - t107)) != 1) = false := bne_eq_false_iff_eq.mpr c23
                clear c23
                (first | rw [c23b0] | (simp only [i64_w, i32_w]; rw [c23b0]) | skip)
                by_cases c24 : (wrap64 (t110 - t108)) = 1
                · rw [if_pos c24] at H
                  have c24b0 : ((wrap64 (t110 - t108)) == 1) = true := beq_iff_eq.mpr c24
                  have c24b1 : ((wrap64 (t110 - t108)) != 1) = false := bne_eq_false_iff_eq.mpr c24
                  clear c24
                  have H' := Aside0.mk H
                  clear H
                  go_wp2
                  repeat (go_quiet (fail); try go_wp2)
                  go_meet
                  case rel => exact ⟨_, (true), (by first | rfl | (simp; done) | (simp [*]; done)), H', ⟨by have := HJ4.out; have := HJ14.out; first | omega | exact Nat.le_refl _⟩, ⟨by exact BK101.out⟩, ⟨by exact BK102.out⟩, ⟨by repeat (first | exact HB.out | apply below_alloc | apply pw_below_drewN | apply below_drew1 | refine below_set ?_ GE101.out | refine below_set ?_ GE102.out)⟩⟩
                · rw [if_neg c24] at H
                  have c24b0 : ((wrap64 (t110 - t108)) == 1) = false := beq_eq_false_iff_ne.mpr c24
                  have c24b1 : ((wrap64 (t110 - t108)) != 1) = true := bne_iff_ne.mpr c24
                  have H' := Aside0.mk H
                  clear H
                  go_wp2
                  repeat (go_quiet (fail); try go_wp2)
                  go_meet
                  case rel => exact ⟨_, (((wrap64 (t108 - t110)) == 1)), (by first | rfl | (simp; done) | (simp [*]; done)), H', ⟨by have := HJ4.out; have := HJ14.out; first | omega | exact Nat.le_refl _⟩, ⟨by exact BK101.out⟩, ⟨by exact BK102.out⟩, ⟨by repeat (first | exact HB.out | apply below_alloc | apply pw_below_drewN | apply below_drew1 | refine below_set ?_ GE101.out | refine below_set ?_ GE102.out)⟩⟩
              · rw [if_neg c23] at H
                have c23b0 : ((wrap64 (t109 - t107)) == 1) = false := beq_eq_false_iff_ne.mpr c23
                have c23b1 : ((wrap64 (t109 - t107)) != 1) = true := bne_iff_ne.mpr c23
                (first | rw [c23b0] | (simp only [i64_w, i32_w]; rw [c23b0]) | skip)
                by_cases c25 : (wrap64 (t107 - t109)) = 1
                · rw [if_pos c25] at H
                  have c25b0 : ((wrap64 (t107 - t109)) == 1) = true := beq_iff_eq.mpr c25
                  have c25b1 : ((wrap64 (t107 - t109)) != 1) = false := bne_eq_false_iff_eq.mpr c25
                  clear c25
                  by_cases c26 : (wrap64 (t110 - t108)) = 1
                  · rw [if_pos c26] at H
                    have c26b0 : ((wrap64 (t110 - t108)) == 1) = true := beq_iff_eq.mpr c26
                    have c26b1 : ((wrap64 (t110 - t108)) != 1) = false := bne_eq_false_iff_eq.mpr c26
                    clear c26
                    have H' := Aside0.mk H
                    clear H
                    go_wp2
                    repeat (go_quiet (fail); try go_wp2)
                    go_meet
                    case rel => exact ⟨_, (true), (by first | rfl | (simp; done) | (simp [*]; done)), H', ⟨by have := HJ4.out; have := HJ14.out; first | omega | exact Nat.le_refl _⟩, ⟨by exact BK101.out⟩, ⟨by exact BK102.out⟩, ⟨by repeat (first | exact HB.out | apply below_alloc | apply pw_below_drewN | apply below_drew1 | refine below_set ?_ GE101.out | refine below_set ?_ GE102.out)⟩⟩
                  · rw [if_neg c26] at H
                    have c26b0 : ((wrap64 (t110 - t108)) == 1) = false := beq_eq_false_iff_ne.mpr c26
                    have c26b1 : ((wrap64 (t110 - t108)) != 1) = true := bne_iff_ne.mpr c26
                    have H' := Aside0.mk H
                    clear H
                    go_wp2
                    repeat (go_quiet (fail); try go_wp2)
                    go_meet
                    case rel => exact ⟨_, (((wrap64 (t108 - t110)) == 1)), (by first | rfl | (simp; done) | (simp [*]; done)), H', ⟨by have := HJ4.out; have := HJ14.out; first | omega | exact Nat.le_refl _⟩, ⟨by exact BK101.out⟩, ⟨by exact BK102.out⟩, ⟨by repeat (first | exact HB.out | apply below_alloc | apply pw_below_drewN | apply below_drew1 | refine below_set ?_ GE101.out | refine below_set ?_ GE102.out)⟩⟩
                · rw [if_neg c25] at H
                  have c25b0 : ((wrap64 (t107 - t109)) == 1) = false := beq_eq_false_iff_ne.mpr c25
                  have c25b1 : ((wrap64 (t107 - t109)) != 1) = true := bne_iff_ne.mpr c25
                  have H' := Aside0.mk H
                  clear H
                  go_wp2
                  repeat (go_quiet (fail); try go_wp2)
                  go_meet
                  case rel => exact ⟨_, (false), (by first | rfl | (simp; done) | (simp [*]; done)), H', ⟨by have := HJ4.out; have := HJ14.out; first | omega | exact Nat.le_refl _⟩, ⟨by exact BK101.out⟩, ⟨by exact BK102.out⟩, ⟨by repeat (first | exact HB.out | apply below_alloc | apply pw_below_drewN | apply below_drew1 | refine below_set ?_ GE101.out | refine below_set ?_ GE102.out)⟩⟩
            case rest =>
              clear HC20
              try clear c1
              try clear c2
              try clear p2
              try clear c3
              try clear p6
              try clear c8
              try clear c14
              try clear c14b0
              try clear c14b1
              try clear c16
              try clear c17
              try clear c17b0
              try clear c17b1
              try clear c21
              try clear c23
              try clear c23b0
              try clear c23b1
              try clear c24
              try clear c24b0
              try clear c24b1
              try clear c25
              try clear c25b0
              try clear c25b1
              try clear c26
              try clear c26b0
              try clear c26b1
              try clear hcz22_0
              try clear hcz22_1
              try clear hcz22_2
              try clear hcz9_0
              try clear hcz9_1
              try clear hcz9_2
              try clear hfz22_0
              try clear hfz22_1
              try clear hfz22_2
              try clear hfz9_0
              try clear hfz9_1
              try clear hfz9_2
              try clear p2
              obtain ⟨kq, x13_19, rfl, HA, HJ19, BK101, BK102, HB⟩ := hcut
              cases kq with
              | zero => exact absurd HA.out (by simp [spec_RemovePair.j2])
              | succ kj19 =>
                have H := HA.out
                clear HA
                simp only [spec_RemovePair.j2] at H
                have HC27 := Aside0.mk H
                clear H
                go_upto_region 9 with (fail)
                repeat (go_quiet (fail); go_upto_region 9 with (fail))
                go_cut [94] (fun v94 wc => ∃ (kq : Nat) (x94_26 : Bool), v94 = .bool x94_26 ∧ Aside0 (spec_RemovePair.j3 kq a1 a2 x94_26 l0_0 l0_1 l0_2 = some (r1, r2, r3, r4)) ∧ Aside0 (kq ≤ kj19) ∧ Aside0 (wc.heap[gb101]? = some (.cells #[(.slice A0_0 l0_0.length c0_0), (.slice A0_1 l0_1.length c0_1), (.slice A0_2 l0_2.length c0_2)] 34 (0, 0))) ∧ Aside0 (wc.heap[gb102]? = some (.cells #[(.slice none 0 0), (.slice none 0 0), (.slice none 0 0)] 34 (0, 0))) ∧ Aside0 (Below w.heap.size w wc))
                case first =>
                  have H := HC27.out
                  clear HC27
                  by_cases c28 : x13_19 = true
                  · subst c28
                    have H1 : (if 0 ≤ a1 then (if a1 < (l0_2.length : Int) then (if 0 ≤ a2 then (if a2 < (l0_2.length : Int) then (if (wrap64 ((rd l0_2 a1) + (rd l0_2 a2))) = 0 then (if a1 < (l0_1.length : Int) then (if a2 < (l0_1.length : Int) then (spec_RemovePair.j3 kj19 a1 a2 ((rd l0_1 a1) != (rd l0_1 a2)) l0_0 l0_1 l0_2) else (none)) else (none)) else (spec_RemovePair.j3 kj19 a1 a2 true l0_0 l0_1 l0_2)) else (none)) else (none)) else (none)) else (none)) = some (r1, r2, r3, r4) := by rw [if_pos rfl] at H; exact H
                    clear H
                    have H := H1
                    clear H1
                    by_cases c29 : 0 ≤ a1
                    · rw [if_pos c29] at H
                      have c29b0 : decide (0 ≤ a1) = true := decide_eq_true c29
                      clear c29
                      (first | rw [c29b0] | (simp only [i64_w, i32_w]; rw [c29b0]) | skip)
                      by_cases c30 : a1 < (l0_2.length : Int)
                      · rw [if_pos c30] at H
                        have c30b0 : decide (a1 < (l0_2.length : Int)) = true := decide_eq_true c30
                        clear c30
                        by_cases c31 : 0 ≤ a2
                        · rw [if_pos c31] at H
                          have c31b0 : decide (0 ≤ a2) = true := decide_eq_true c31
                          clear c31
                          by_cases c32 : a2 < (l0_2.length : Int)
                          · rw [if_pos c32] at H
                            have c32b0 : decide (a2 < (l0_2.length : Int)) = true := decide_eq_true c32
                            clear c32
                            by_cases c33 : (wrap64 ((rd l0_2 a1) + (rd l0_2 a2))) = 0
                            · rw [if_pos c33] at H
                              have c33b0 : ((wrap64 ((rd l0_2 a1) + (rd l0_2 a2))) == 0) = true := beq_iff_eq.mpr c33
                              have c33b1 : ((wrap64 ((rd l0_2 a1) + (rd l0_2 a2))) != 0) = false := bne_eq_false_iff_eq.mpr c33
                              clear c33
                              by_cases c34 : a1 < (l0_1.length : Int)
                              · rw [if_pos c34] at H
                                have c34b0 : decide (a1 < (l0_1.length : Int)) = true := decide_eq_true c34
                                clear c34
                                by_cases c35 : a2 < (l0_1.length : Int)
                                · rw [if_pos c35] at H
                                  have c35b0 : decide (a2 < (l0_1.length : Int)) = true := decide_eq_true c35
                                  clear c35
                                  have H' := Aside0.mk H
                                  clear H
                                  have hnb36 := NB101_102.out
                                  have hnc36 := NB102_101.out
                                  obtain ⟨hcz37_0, hcz37_1, hcz37_2⟩ := bc3 BK101.out
                                  obtain ⟨hfz37_0, hfz37_1, hfz37_2⟩ := bf3 BK101.out
                                  have p111 : 0 ≤ (a1 : Int) := of_decide_eq_true (by first | (with_reducible assumption) | assumption)
                                  have q111 : a1 < (l0_2.length : Int) := of_decide_eq_true (by first | (with_reducible assumption) | assumption)
                                  obtain ⟨ad111, e111, hx111_0⟩ := Kd.at_int HR0_2.out a1 p111 q111
                                  cases e111
                                  replace hx111_0 := (HB.out.cell (World.block_lt_of_cell? w _ hx111_0)).trans hx111_0
                                  replace p111 := eq_true p111
                                  replace q111 := eq_true q111
                                  have p112 : 0 ≤ (a2 : Int) := of_decide_eq_true (by first | (with_reducible assumption) | assumption)
                                  have q112 : a2 < (l0_2.length : Int) := of_decide_eq_true (by first | (with_reducible assumption) | assumption)
                                  obtain ⟨ad112, e112, hx112_0⟩ := Kd.at_int HR0_2.out a2 p112 q112
                                  obtain rfl : ad111 = ad112 := (by injection e112)
                                  replace hx112_0 := (HB.out.cell (World.block_lt_of_cell? w _ hx112_0)).trans hx112_0
                                  replace p112 := eq_true p112
                                  replace q112 := eq_true q112
                                  have p113 : 0 ≤ (a1 : Int) := of_decide_eq_true (by first | (with_reducible assumption) | assumption)
                                  have q113 : a1 < (l0_1.length : Int) := of_decide_eq_true (by first | (with_reducible assumption) | assumption)
                                  obtain ⟨ad113, e113, hx113_0⟩ := Kd.at_int HR0_1.out a1 p113 q113
                                  cases e113
                                  replace hx113_0 := (HB.out.cell (World.block_lt_of_cell? w _ hx113_0)).trans hx113_0
                                  replace p113 := eq_true p113
                                  replace q113 := eq_true q113
                                  have p114 : 0 ≤ (a2 : Int) := of_decide_eq_true (by first | (with_reducible assumption) | assumption)
                                  have q114 : a2 < (l0_1.length : Int) := of_decide_eq_true (by first | (with_reducible assumption) | assumption)
                                  obtain ⟨ad114, e114, hx114_0⟩ := Kd.at_int HR0_1.out a2 p114 q114
                                  obtain rfl : ad113 = ad114 := (by injection e114)
                                  replace hx114_0 := (HB.out.cell (World.block_lt_of_cell? w _ hx114_0)).trans hx114_0
                                  replace p114 := eq_true p114
                                  replace q114 := eq_true q114
                                  go_wp2
                                  repeat (go_quiet (fail); try go_wp2)
                                  go_meet
                                  case rel => exact ⟨_, (((rd l0_1 a1) != (rd l0_1 a2))), (by first | rfl | (simp; done) | (simp [*]; done)), H', ⟨by have := HJ4.out; have := HJ14.out; have := HJ19.out; first | omega | exact Nat.le_refl _⟩, ⟨by exact BK101.out⟩, ⟨by exact BK102.out⟩, ⟨by repeat (first | exact HB.out | apply below_alloc | apply pw_below_drewN | apply below_drew1 | refine below_set ?_ GE101.out | refine below_set ?_ GE102.out)⟩⟩
                                · rw [if_neg c35] at H
                                  exact absurd H (by simp)
                              · rw [if_neg c34] at H
                                exact absurd H (by simp)
                            · rw [if_neg c33] at H
                              have c33b0 : ((wrap64 ((rd l0_2 a1) + (rd l0_2 a2))) == 0) = false := beq_eq_false_iff_ne.mpr c33
                              have c33b1 : ((wrap64 ((rd l0_2 a1) + (rd l0_2 a2))) != 0) = true := bne_iff_ne.mpr c33
                              have H' := Aside0.mk H
                              clear H
                              have hnb38 := NB101_102.out
                              have hnc38 := NB102_101.out
                              obtain ⟨hcz39_0, hcz39_1, hcz39_2⟩ := bc3 BK101.out
                              obtain ⟨hfz39_0, hfz39_1, hfz39_2⟩ := bf3 BK101.out
                              have p111 : 0 ≤ (a1 : Int) := of_decide_eq_true (by first | (with_reducible assumption) | assumption)
                              have q111 : a1 < (l0_2.length : Int) := of_decide_eq_true (by first | (with_reducible assumption) | assumption)
                              obtain ⟨ad111, e111, hx111_0⟩ := Kd.at_int HR0_2.out a1 p111 q111
                              cases e111
                              replace hx111_0 := (HB.out.cell (World.block_lt_of_cell? w _ hx111_0)).trans hx111_0
                              replace p111 := eq_true p111
                              replace q111 := eq_true q111
                              have p112 : 0 ≤ (a2 : Int) := of_decide_eq_true (by first | (with_reducible assumption) | assumption)
                              have q112 : a2 < (l0_2.length : Int) := of_decide_eq_true (by first | (with_reducible assumption) | assumption)
                              obtain ⟨ad112, e112, hx112_0⟩ := Kd.at_int HR0_2.out a2 p112 q112
                              obtain rfl : ad111 = ad112 := (by injection e112)
                              replace hx112_0 := (HB.out.cell (World.block_lt_of_cell? w _ hx112_0)).trans hx112_0
                              replace p112 := eq_true p112
                              replace q112 := eq_true q112
                              go_wp2
                              repeat (go_quiet (fail); try go_wp2)
                              go_meet
                              case rel => exact ⟨_, (true), (by first | rfl | (simp; done) | (simp [*]; done)), H', ⟨by have := HJ4.out; have := HJ14.out; have := HJ19.out; first | omega | exact Nat.le_refl _⟩, ⟨by exact BK101.out⟩, ⟨by exact BK102.out⟩, ⟨by repeat (first | exact HB.out | apply below_alloc | apply pw_below_drewN | apply below_drew1 | refine below_set ?_ GE101.out | refine below_set ?_ GE102.out)⟩⟩
                          · rw [if_neg c32] at H
                            exact absurd H (by simp)
                        · rw [if_neg c31] at H
                          exact absurd H (by simp)
                      · rw [if_neg c30] at H
                        exact absurd H (by simp)
                    · rw [if_neg c29] at H
                      exact absurd H (by simp)
                  · replace c28 := Bool.eq_false_iff.mpr c28
                    subst c28
                    have H1 : (spec_RemovePair.j3 kj19 a1 a2 true l0_0 l0_1 l0_2) = some (r1, r2, r3, r4) := by rw [if_neg (show ¬ (false = true) by decide)] at H; exact H
                    clear H
                    have H := H1
                    clear H1
                    have H' := Aside0.mk H
                    clear H
                    go_wp2
                    repeat (go_quiet (fail); try go_wp2)
                    go_meet
                    case rel => exact ⟨_, (true), (by first | rfl | (simp; done) | (simp [*]; done)), H', ⟨by have := HJ4.out; have := HJ14.out; have := HJ19.out; first | omega | exact Nat.le_refl _⟩, ⟨by exact BK101.out⟩, ⟨by exact BK102.out⟩, ⟨by repeat (first | exact HB.out | apply below_alloc | apply pw_below_drewN | apply below_drew1 | refine below_set ?_ GE101.out | refine below_set ?_ GE102.out)⟩⟩
                case rest =>
                  clear HC27
                  try clear c1
                  try clear p1
                  try clear q1
                  try clear hx1
                  try clear c2
                  try clear p2
                  try clear c3
                  try clear p6
                  try clear c8
                  try clear p11
                  try clear q11
                  try clear hx11
                  try clear c14
                  try clear c14b0
                  try clear c14b1
                  try clear c16
                  try clear c17
                  try clear c17b0
                  try clear c17b1
                  try clear c21
                  try clear c23
                  try clear c23b0
                  try clear c23b1
                  try clear c24
                  try clear c24b0
                  try clear c24b1
                  try clear c25
                  try clear c25b0
                  try clear c25b1
                  try clear c26
                  try clear c26b0
                  try clear c26b1
                  try clear c28
                  try clear c29
                  try clear c29b0
                  try clear c30
                  try clear c30b0
                  try clear c31
                  try clear c31b0
                  try clear c32
                  try clear c32b0
                  try clear c33
                  try clear c33b0
                  try clear c33b1
                  try clear c34
                  try clear c34b0
                  try clear c35
                  try clear c35b0
                  try clear c36
                  try clear c38
                  try clear hcz22_0
                  try clear hcz22_1
                  try clear hcz22_2
                  try clear hcz37_0
                  try clear hcz37_1
                  try clear hcz37_2
                  try clear hcz39_0
                  try clear hcz39_1
                  try clear hcz39_2
                  try clear hcz9_0
                  try clear hcz9_1
                  try clear hcz9_2
                  try clear hfz22_0
                  try clear hfz22_1
                  try clear hfz22_2
                  try clear hfz37_0
                  try clear hfz37_1
                  try clear hfz37_2
                  try clear hfz39_0
                  try clear hfz39_1
                  try clear hfz39_2
                  try clear hfz9_0
                  try clear hfz9_1
                  try clear hfz9_2
                  try clear hx111_0
                  try clear hx112_0
                  try clear hx113_0
                  try clear hx114_0
                  try clear p111
                  try clear p112
                  try clear p113
                  try clear p114
                  try clear p2
                  try clear p6
                  try clear q111
                  try clear q112
                  try clear q113
                  try clear q114
                  obtain ⟨kq, x94_26, rfl, HA, HJ26, BK101, BK102, HB⟩ := hcut
                  cases kq with
                  | zero => exact absurd HA.out (by simp [spec_RemovePair.j3])
                  | succ kj26 =>
                    have H := HA.out
                    clear HA
                    simp only [spec_RemovePair.j3] at H
                    by_cases c40 : x94_26 = true
                    · subst c40
                      have H1 : (some (([] : List Int), ([] : List Int), ([] : List Int), 5)) = some (r1, r2, r3, r4) := by rw [if_pos rfl] at H; exact H
                      clear H
                      have H := H1
                      clear H1
                      simp only [Option.some.injEq, Prod.mk.injEq] at H
                      obtain ⟨rfl, rfl, rfl, rfl⟩ := H
                      have hnb41 := NB102_101.out
                      have hnc41 := NB101_102.out
                      obtain ⟨hcz42_0, hcz42_1, hcz42_2⟩ := bc3 BK102.out
                      obtain ⟨hfz42_0, hfz42_1, hfz42_2⟩ := bf3 BK102.out
                      go_wp2
                      repeat (go_quiet (fail); try go_wp2)
                      refine bodyPost_ret (results_ct rfl _ _ gb102 34 #[.slice none 0 0, .slice none 0 0, .slice none 0 0] (0, 0) _ rfl (by refine blk_put (cs := #[.slice none 0 0, .slice none 0 0, .slice none 0 0]) ?_ 2 _ rfl; refine blk_put (cs := #[.slice none 0 0, .slice none 0 0, .slice none 0 0]) ?_ 1 _ rfl; refine blk_put (cs := #[.slice none 0 0, .slice none 0 0, .slice none 0 0]) ?_ 0 _ rfl; exact BK102.out) Try.underlying34 rfl (by kernel_rfl)) rfl ?_
                      exact ⟨_, _, _, by first | rfl | (simp [errW_none, errW_some] <;> rfl) | (simp [*, errW_none, errW_some] <;> rfl), by first | exact Kd.R_nil _ _ _ _ _ | exact Kd.N_nil _ _ _ _ _ | exact Kd.V_nil _ _ _ _ _ | exact Kd.Q_nil _ _ _ _ _ | exact Kd.S_nil _ _ _ _ _, by first | exact Kd.R_nil _ _ _ _ _ | exact Kd.N_nil _ _ _ _ _ | exact Kd.V_nil _ _ _ _ _ | exact Kd.Q_nil _ _ _ _ _ | exact Kd.S_nil _ _ _ _ _, by first | exact Kd.R_nil _ _ _ _ _ | exact Kd.N_nil _ _ _ _ _ | exact Kd.V_nil _ _ _ _ _ | exact Kd.Q_nil _ _ _ _ _ | exact Kd.S_nil _ _ _ _ _, by repeat (first | exact HB.out | apply below_alloc | apply pw_below_drewN | apply below_drew1 | refine below_set ?_ GE101.out | refine below_set ?_ GE102.out)⟩
                    · replace c40 := Bool.eq_false_iff.mpr c40
                      subst c40
                      have H1 : ((spec_l07Without.f kj26 l0_0 l0_1 l0_2 (([a1, a2] : List Int))).bind fun bt118 => (some (bt118.1, bt118.2.1, bt118.2.2, 0))) = some (r1, r2, r3, r4) := by rw [if_neg (show ¬ (false = true) by decide)] at H; exact H
                      clear H
                      have H := H1
                      clear H1
                      obtain ⟨y115, hy115⟩ : ∃ y_ : List Int, y_ = (([a1, a2] : List Int)) := ⟨_, rfl⟩
                      replace H : ((spec_l07Without.f kj26 l0_0 l0_1 l0_2 y115).bind fun bt118 => (some (bt118.1, bt118.2.1, bt118.2.2, 0))) = some (r1, r2, r3, r4) := by first | (rw [hy115]; with_reducible exact H) | (have H2_ := (Option.bind_some _ _).symm.trans H; rw [hy115]; with_reducible exact H2_) | (have H2_ := (Option.bind_some _ _).symm.trans H; with_reducible exact H2_) | with_reducible exact H | (rw [hy115]; exact H) | exact H
                      have Ny115 := Aside0.mk hy115
                      clear hy115
                      replace H := Option.bind_eq_some_iff.mp H
                      obtain ⟨⟨t118, t121, t124⟩, A430, H⟩ := H
                      replace H : (some (t118, t121, t124, 0)) = some (r1, r2, r3, r4) := H
                      have A43 := Aside0.mk A430
                      clear A430
                      simp only [Option.some.injEq, Prod.mk.injEq] at H
                      obtain ⟨rfl, rfl, rfl, rfl⟩ := H
                      have hnb44 := NB101_102.out
                      have hnc44 := NB102_101.out
                      obtain ⟨hcz45_0, hcz45_1, hcz45_2⟩ := bc3 BK101.out
                      obtain ⟨hfz45_0, hfz45_1, hfz45_2⟩ := bf3 BK101.out
                      go_wp2_with (first | ((with_reducible refine gate_dst (N := 99) rfl ?_); refine Kd.R_lit (Kd.int .i64) _ 2 ?hg (N := 99) ?hd (xs := ([a1, a2] : List Int)) (inner := [.int .i64 a1, .int .i64 a2]) (ok := fun _ => True) (okp := fun _ => True) ?hr ?hp (fun _ hk => hk) trivial (Below.refl _ _) (Nat.le_refl _) (by simp) ?_; (case hd => rfl); (case hg => rfl); (case hr => first | (go_simp; done) | (go_simp; rfl)); (case hp => exact (Reps.one (show Kd.M (Kd.int .i64) _ _ _ a1 [.int .i64 a1] from rfl) (Reps.one (show Kd.M (Kd.int .i64) _ _ _ a2 [.int .i64 a2] from rfl) (Reps.none _ _)))); intro v116 w46 ho47 hb hg_ hnew_; clear hg_ hnew_; (first | rw [← Ny115.out] at ho47 | (simp only [Int.reduceToNat] at ho47; rw [← Ny115.out] at ho47)); have n0_ := mk0 (Kd.R_lower ho47 (below_size (by repeat (first | exact HB.out | apply below_alloc | apply pw_below_drewN | apply below_drew1 | refine below_set ?_ GE101.out | refine below_set ?_ GE102.out)))); have n1_ := mk0 (blk_below (by exact BK101.out) hb); have n2_ := mk0 (blk_below (by exact BK102.out) hb); have n3_ := mk0 (below_step (by repeat (first | exact HB.out | apply below_alloc | apply pw_below_drewN | apply below_drew1 | refine below_set ?_ GE101.out | refine below_set ?_ GE102.out)) hb); clear BK101; clear BK102; clear HB; have HO117 := n0_; have BK101 := n1_; have BK102 := n2_; have HB := n3_; clear n0_ n1_ n2_ n3_; clear hb ho47; obtain ⟨Ao48, co48, eo48⟩ := Kd.R_slice HO117.out; subst eo48) | (go_at_call 62; (with_reducible refine (spec_l07Without.calls kj26 _ _ l0_0 _ _ l0_1 _ _ l0_2 _ _ y115 t118 t121 t124 _ ?side1 ?side2 ?side3 ?side4 ?side5 ?side6 ?side7 ?side8 A43.out).mono ?_); (case side1 => exact (Kd.C_below HR0_0.out HB.out)); (case side2 => exact HC0_0.out); (case side3 => exact (Kd.C_below HR0_1.out HB.out)); (case side4 => exact HC0_1.out); (case side5 => exact (Kd.C_below HR0_2.out HB.out)); (case side6 => exact HC0_2.out); (case side7 => exact (Kd.R_reads' HO117.out).2.2); (case side8 => exact (Kd.R_reads' HO117.out).2.1); rintro e w49 ⟨v119, v122, v125, rfl, ho0, ho1, ho2, hb⟩; have n0_ := mk0 (Kd.R_mono (Kd.R_told (Kd.R_told (Kd.R_told (Kd.R_old HO117.out hb) (Kd.R_base ho0)) (Kd.R_base ho1)) (Kd.R_base ho2)) (fun _ h_ => h_.1)); have n1_ := mk0 (Kd.R_lower (Kd.R_new' ho0 (Kd.R_lt HO117.out)) (below_size (by repeat (first | exact HB.out | apply below_alloc | apply pw_below_drewN | apply below_drew1 | refine below_set ?_ GE101.out | refine below_set ?_ GE102.out)))); have n2_ := mk0 (Kd.R_lower (Kd.R_new' ho1 (Kd.R_lt HO117.out)) (below_size (by repeat (first | exact HB.out | apply below_alloc | apply pw_below_drewN | apply below_drew1 | refine below_set ?_ GE101.out | refine below_set ?_ GE102.out)))); have n3_ := mk0 (Kd.R_lower (Kd.R_new' ho2 (Kd.R_lt HO117.out)) (below_size (by repeat (first | exact HB.out | apply below_alloc | apply pw_below_drewN | apply below_drew1 | refine below_set ?_ GE101.out | refine below_set ?_ GE102.out)))); have n4_ := mk0 (blk_below (by exact BK101.out) hb); have n5_ := mk0 (blk_below (by exact BK102.out) hb); have n6_ := mk0 (below_step (by repeat (first | exact HB.out | apply below_alloc | apply pw_below_drewN | apply below_drew1 | refine below_set ?_ GE101.out | refine below_set ?_ GE102.out)) hb); clear HO117; clear BK101; clear BK102; clear HB; have HO117 := n0_; have HO120 := n1_; have HO123 := n2_; have HO126 := n3_; have BK101 := n4_; have BK102 := n5_; have HB := n6_; clear n0_ n1_ n2_ n3_ n4_ n5_ n6_; (try clear hb); (try clear hb2); (try clear hk); (try clear hi); (try clear ho0); (try clear ho1); (try clear ho2); obtain ⟨Ao50, co50, eo50⟩ := Kd.R_slice HO120.out; subst eo50; obtain ⟨hcz51_0, hcz51_1, hcz51_2⟩ := bc3 BK102.out; obtain ⟨hfz51_0, hfz51_1, hfz51_2⟩ := bf3 BK102.out; obtain ⟨Ao52, co52, eo52⟩ := Kd.R_slice HO123.out; subst eo52; obtain ⟨Ao53, co53, eo53⟩ := Kd.R_slice HO126.out; subst eo53))
                      repeat (go_quiet (first | ((with_reducible refine gate_dst (N := 99) rfl ?_); refine Kd.R_lit (Kd.int .i64) _ 2 ?hg (N := 99) ?hd (xs := ([a1, a2] : List Int)) (inner := [.int .i64 a1, .int .i64 a2]) (ok := fun _ => True) (okp := fun _ => True) ?hr ?hp (fun _ hk => hk) trivial (Below.refl _ _) (Nat.le_refl _) (by simp) ?_; (case hd => rfl); (case hg => rfl); (case hr => first | (go_simp; done) | (go_simp; rfl)); (case hp => exact (Reps.one (show Kd.M (Kd.int .i64) _ _ _ a1 [.int .i64 a1] from rfl) (Reps.one (show Kd.M (Kd.int .i64) _ _ _ a2 [.int .i64 a2] from rfl) (Reps.none _ _)))); intro v116 w46 ho47 hb hg_ hnew_; clear hg_ hnew_; (first | rw [← Ny115.out] at ho47 | (simp only [Int.reduceToNat] at ho47; rw [← Ny115.out] at ho47)); have n0_ := mk0 (Kd.R_lower ho47 (below_size (by repeat (first | exact HB.out | apply below_alloc | apply pw_below_drewN | apply below_drew1 | refine below_set ?_ GE101.out | refine below_set ?_ GE102.out)))); have n1_ := mk0 (blk_below (by exact BK101.out) hb); have n2_ := mk0 (blk_below (by exact BK102.out) hb); have n3_ := mk0 (below_step (by repeat (first | exact HB.out | apply below_alloc | apply pw_below_drewN | apply below_drew1 | refine below_set ?_ GE101.out | refine below_set ?_ GE102.out)) hb); clear BK101; clear BK102; clear HB; have HO117 := n0_; have BK101 := n1_; have BK102 := n2_; have HB := n3_; clear n0_ n1_ n2_ n3_; clear hb ho47; obtain ⟨Ao48, co48, eo48⟩ := Kd.R_slice HO117.out; subst eo48) | (go_at_call 62; (with_reducible refine (spec_l07Without.calls kj26 _ _ l0_0 _ _ l0_1 _ _ l0_2 _ _ y115 t118 t121 t124 _ ?side1 ?side2 ?side3 ?side4 ?side5 ?side6 ?side7 ?side8 A43.out).mono ?_); (case side1 => exact (Kd.C_below HR0_0.out HB.out)); (case side2 => exact HC0_0.out); (case side3 => exact (Kd.C_below HR0_1.out HB.out)); (case side4 => exact HC0_1.out); (case side5 => exact (Kd.C_below HR0_2.out HB.out)); (case side6 => exact HC0_2.out); (case side7 => exact (Kd.R_reads' HO117.out).2.2); (case side8 => exact (Kd.R_reads' HO117.out).2.1); rintro e w49 ⟨v119, v122, v125, rfl, ho0, ho1, ho2, hb⟩; have n0_ := mk0 (Kd.R_mono (Kd.R_told (Kd.R_told (Kd.R_told (Kd.R_old HO117.out hb) (Kd.R_base ho0)) (Kd.R_base ho1)) (Kd.R_base ho2)) (fun _ h_ => h_.1)); have n1_ := mk0 (Kd.R_lower (Kd.R_new' ho0 (Kd.R_lt HO117.out)) (below_size (by repeat (first | exact HB.out | apply below_alloc | apply pw_below_drewN | apply below_drew1 | refine below_set ?_ GE101.out | refine below_set ?_ GE102.out)))); have n2_ := mk0 (Kd.R_lower (Kd.R_new' ho1 (Kd.R_lt HO117.out)) (below_size (by repeat (first | exact HB.out | apply below_alloc | apply pw_below_drewN | apply below_drew1 | refine below_set ?_ GE101.out | refine below_set ?_ GE102.out)))); have n3_ := mk0 (Kd.R_lower (Kd.R_new' ho2 (Kd.R_lt HO117.out)) (below_size (by repeat (first | exact HB.out | apply below_alloc | apply pw_below_drewN | apply below_drew1 | refine below_set ?_ GE101.out | refine below_set ?_ GE102.out)))); have n4_ := mk0 (blk_below (by exact BK101.out) hb); have n5_ := mk0 (blk_below (by exact BK102.out) hb); have n6_ := mk0 (below_step (by repeat (first | exact HB.out | apply below_alloc | apply pw_below_drewN | apply below_drew1 | refine below_set ?_ GE101.out | refine below_set ?_ GE102.out)) hb); clear HO117; clear BK101; clear BK102; clear HB; have HO117 := n0_; have HO120 := n1_; have HO123 := n2_; have HO126 := n3_; have BK101 := n4_; have BK102 := n5_; have HB := n6_; clear n0_ n1_ n2_ n3_ n4_ n5_ n6_; (try clear hb); (try clear hb2); (try clear hk); (try clear hi); (try clear ho0); (try clear ho1); (try clear ho2); obtain ⟨Ao50, co50, eo50⟩ := Kd.R_slice HO120.out; subst eo50; obtain ⟨hcz51_0, hcz51_1, hcz51_2⟩ := bc3 BK102.out; obtain ⟨hfz51_0, hfz51_1, hfz51_2⟩ := bf3 BK102.out; obtain ⟨Ao52, co52, eo52⟩ := Kd.R_slice HO123.out; subst eo52; obtain ⟨Ao53, co53, eo53⟩ := Kd.R_slice HO126.out; subst eo53)); try go_wp2_with (first | ((with_reducible refine gate_dst (N := 99) rfl ?_); refine Kd.R_lit (Kd.int .i64) _ 2 ?hg (N := 99) ?hd (xs := ([a1, a2] : List Int)) (inner := [.int .i64 a1, .int .i64 a2]) (ok := fun _ => True) (okp := fun _ => True) ?hr ?hp (fun _ hk => hk) trivial (Below.refl _ _) (Nat.le_refl _) (by simp) ?_; (case hd => rfl); (case hg => rfl); (case hr => first | (go_simp; done) | (go_simp; rfl)); (case hp => exact (Reps.one (show Kd.M (Kd.int .i64) _ _ _ a1 [.int .i64 a1] from rfl) (Reps.one (show Kd.M (Kd.int .i64) _ _ _ a2 [.int .i64 a2] from rfl) (Reps.none _ _)))); intro v116 w46 ho47 hb hg_ hnew_; clear hg_ hnew_; (first | rw [← Ny115.out] at ho47 | (simp only [Int.reduceToNat] at ho47; rw [← Ny115.out] at ho47)); have n0_ := mk0 (Kd.R_lower ho47 (below_size (by repeat (first | exact HB.out | apply below_alloc | apply pw_below_drewN | apply below_drew1 | refine below_set ?_ GE101.out | refine below_set ?_ GE102.out)))); have n1_ := mk0 (blk_below (by exact BK101.out) hb); have n2_ := mk0 (blk_below (by exact BK102.out) hb); have n3_ := mk0 (below_step (by repeat (first | exact HB.out | apply below_alloc | apply pw_below_drewN | apply below_drew1 | refine below_set ?_ GE101.out | refine below_set ?_ GE102.out)) hb); clear BK101; clear BK102; clear HB; have HO117 := n0_; have BK101 := n1_; have BK102 := n2_; have HB := n3_; clear n0_ n1_ n2_ n3_; clear hb ho47; obtain ⟨Ao48, co48, eo48⟩ := Kd.R_slice HO117.out; subst eo48) | (go_at_call 62; (with_reducible refine (spec_l07Without.calls kj26 _ _ l0_0 _ _ l0_1 _ _ l0_2 _ _ y115 t118 t121 t124 _ ?side1 ?side2 ?side3 ?side4 ?side5 ?side6 ?side7 ?side8 A43.out).mono ?_); (case side1 => exact (Kd.C_below HR0_0.out HB.out)); (case side2 => exact HC0_0.out); (case side3 => exact (Kd.C_below HR0_1.out HB.out)); (case side4 => exact HC0_1.out); (case side5 => exact (Kd.C_below HR0_2.out HB.out)); (case side6 => exact HC0_2.out); (case side7 => exact (Kd.R_reads' HO117.out).2.2); (case side8 => exact (Kd.R_reads' HO117.out).2.1); rintro e w49 ⟨v119, v122, v125, rfl, ho0, ho1, ho2, hb⟩; have n0_ := mk0 (Kd.R_mono (Kd.R_told (Kd.R_told (Kd.R_told (Kd.R_old HO117.out hb) (Kd.R_base ho0)) (Kd.R_base ho1)) (Kd.R_base ho2)) (fun _ h_ => h_.1)); have n1_ := mk0 (Kd.R_lower (Kd.R_new' ho0 (Kd.R_lt HO117.out)) (below_size (by repeat (first | exact HB.out | apply below_alloc | apply pw_below_drewN | apply below_drew1 | refine below_set ?_ GE101.out | refine below_set ?_ GE102.out)))); have n2_ := mk0 (Kd.R_lower (Kd.R_new' ho1 (Kd.R_lt HO117.out)) (below_size (by repeat (first | exact HB.out | apply below_alloc | apply pw_below_drewN | apply below_drew1 | refine below_set ?_ GE101.out | refine below_set ?_ GE102.out)))); have n3_ := mk0 (Kd.R_lower (Kd.R_new' ho2 (Kd.R_lt HO117.out)) (below_size (by repeat (first | exact HB.out | apply below_alloc | apply pw_below_drewN | apply below_drew1 | refine below_set ?_ GE101.out | refine below_set ?_ GE102.out)))); have n4_ := mk0 (blk_below (by exact BK101.out) hb); have n5_ := mk0 (blk_below (by exact BK102.out) hb); have n6_ := mk0 (below_step (by repeat (first | exact HB.out | apply below_alloc | apply pw_below_drewN | apply below_drew1 | refine below_set ?_ GE101.out | refine below_set ?_ GE102.out)) hb); clear HO117; clear BK101; clear BK102; clear HB; have HO117 := n0_; have HO120 := n1_; have HO123 := n2_; have HO126 := n3_; have BK101 := n4_; have BK102 := n5_; have HB := n6_; clear n0_ n1_ n2_ n3_ n4_ n5_ n6_; (try clear hb); (try clear hb2); (try clear hk); (try clear hi); (try clear ho0); (try clear ho1); (try clear ho2); obtain ⟨Ao50, co50, eo50⟩ := Kd.R_slice HO120.out; subst eo50; obtain ⟨hcz51_0, hcz51_1, hcz51_2⟩ := bc3 BK102.out; obtain ⟨hfz51_0, hfz51_1, hfz51_2⟩ := bf3 BK102.out; obtain ⟨Ao52, co52, eo52⟩ := Kd.R_slice HO123.out; subst eo52; obtain ⟨Ao53, co53, eo53⟩ := Kd.R_slice HO126.out; subst eo53)))
                      refine bodyPost_ret (results_ct rfl _ _ gb102 34 #[.slice Ao50 t118.length co50, .slice Ao52 t121.length co52, .slice Ao53 t124.length co53] (0, 0) _ rfl (by refine blk_put (cs := #[.slice Ao50 t118.length co50, .slice Ao52 t121.length co52, .slice none 0 0]) ?_ 2 _ rfl; refine blk_put (cs := #[.slice Ao50 t118.length co50, .slice none 0 0, .slice none 0 0]) ?_ 1 _ rfl; refine blk_put (cs := #[.slice none 0 0, .slice none 0 0, .slice none 0 0]) ?_ 0 _ rfl; exact BK102.out) Try.underlying34 rfl (by kernel_rfl)) rfl ?_
                      exact ⟨_, _, _, by first | rfl | (simp [errW_none, errW_some] <;> rfl) | (simp [*, errW_none, errW_some] <;> rfl), by exact Kd.R_mono (Kd.R_far (p := ⟨gb102, 2, none⟩) (Kd.R_far (p := ⟨gb102, 1, none⟩) (Kd.R_far (p := ⟨gb102, 0, none⟩) (Kd.R_types HO120.out BK102.out (by decide)) (fun _ hk => hk.2) (.slice Ao50 t118.length co50)) (fun _ hk => hk.2) (.slice Ao52 t121.length co52)) (fun _ hk => hk.2) (.slice Ao53 t124.length co53)) (fun _ hk => ⟨hk.1.1.1, hk.1.1.2⟩), by exact Kd.R_mono (Kd.R_far (p := ⟨gb102, 2, none⟩) (Kd.R_far (p := ⟨gb102, 1, none⟩) (Kd.R_far (p := ⟨gb102, 0, none⟩) (Kd.R_types HO123.out BK102.out (by decide)) (fun _ hk => hk.2) (.slice Ao50 t118.length co50)) (fun _ hk => hk.2) (.slice Ao52 t121.length co52)) (fun _ hk => hk.2) (.slice Ao53 t124.length co53)) (fun _ hk => ⟨hk.1.1.1, hk.1.1.2⟩), by exact Kd.R_mono (Kd.R_far (p := ⟨gb102, 2, none⟩) (Kd.R_far (p := ⟨gb102, 1, none⟩) (Kd.R_far (p := ⟨gb102, 0, none⟩) (Kd.R_types HO126.out BK102.out (by decide)) (fun _ hk => hk.2) (.slice Ao50 t118.length co50)) (fun _ hk => hk.2) (.slice Ao52 t121.length co52)) (fun _ hk => hk.2) (.slice Ao53 t124.length co53)) (fun _ hk => ⟨hk.1.1.1, hk.1.1.2⟩), by repeat (first | exact HB.out | apply below_alloc | apply pw_below_drewN | apply below_drew1 | refine below_set ?_ GE101.out | refine below_set ?_ GE102.out)⟩
          · rw [if_neg c17] at H
            have c17b0 : (x8_14 == 0) = false := beq_eq_false_iff_ne.mpr c17
            have c17b1 : (x8_14 != 0) = true := bne_iff_ne.mpr c17
            simp only [Option.some.injEq, Prod.mk.injEq] at H
            obtain ⟨rfl, rfl, rfl, rfl⟩ := H
            have hnb54 := NB102_101.out
            have hnc54 := NB101_102.out
            obtain ⟨hcz55_0, hcz55_1, hcz55_2⟩ := bc3 BK102.out
            obtain ⟨hfz55_0, hfz55_1, hfz55_2⟩ := bf3 BK102.out
            go_wp2
            repeat (go_quiet (fail); try go_wp2)
            refine bodyPost_ret (results_ct rfl _ _ gb102 34 #[.slice none 0 0, .slice none 0 0, .slice none 0 0] (0, 0) _ rfl (by refine blk_put (cs := #[.slice none 0 0, .slice none 0 0, .slice none 0 0]) ?_ 2 _ rfl; refine blk_put (cs := #[.slice none 0 0, .slice none 0 0, .slice none 0 0]) ?_ 1 _ rfl; refine blk_put (cs := #[.slice none 0 0, .slice none 0 0, .slice none 0 0]) ?_ 0 _ rfl; exact BK102.out) Try.underlying34 rfl (by kernel_rfl)) rfl ?_
            exact ⟨_, _, _, by first | rfl | (simp [errW_none, errW_some] <;> rfl) | (simp [*, errW_none, errW_some] <;> rfl), by first | exact Kd.R_nil _ _ _ _ _ | exact Kd.N_nil _ _ _ _ _ | exact Kd.V_nil _ _ _ _ _ | exact Kd.Q_nil _ _ _ _ _ | exact Kd.S_nil _ _ _ _ _, by first | exact Kd.R_nil _ _ _ _ _ | exact Kd.N_nil _ _ _ _ _ | exact Kd.V_nil _ _ _ _ _ | exact Kd.Q_nil _ _ _ _ _ | exact Kd.S_nil _ _ _ _ _, by first | exact Kd.R_nil _ _ _ _ _ | exact Kd.N_nil _ _ _ _ _ | exact Kd.V_nil _ _ _ _ _ | exact Kd.Q_nil _ _ _ _ _ | exact Kd.S_nil _ _ _ _ _, by repeat (first | exact HB.out | apply below_alloc | apply pw_below_drewN | apply below_drew1 | refine below_set ?_ GE101.out | refine below_set ?_ GE102.out)⟩
end Go.Proofs.Ytihfncjpfgdhoaa.PP
end
