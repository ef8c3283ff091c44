/- Packed texts of this session's: PPx4, KRemovePair, ExactFnExactRemovePair. Conditions: in each. -/
import Derived.Test.YtihfncjpfgdhoaaProg
import Derived.Test.YtihfncjpfgdhoaaZe2
set_option linter.unusedVariables false
set_option linter.unusedSimpArgs false
set_option linter.unusedSectionVars false
section
namespace Go.Proofs.Ytihfncjpfgdhoaa.PP
open Go.RowKit Go.Proofs.YtihfncjpfgdhoaaW.PrintWords Go.Proofs.YtihfncjpfgdhoaaW.PrintLast Go.Proofs.YtihfncjpfgdhoaaW.PrintMore
attribute [local go_sem] max2_int min2_int max_two min_two max_three min_three max_four min_four   -- for this text's walks alone
open Go.Proofs.Ytihfncjpfgdhoaa.K Go.Proofs.Ytihfncjpfgdhoaa.PA Go.Proofs.Ytihfncjpfgdhoaa.PE
theorem wp_dn {P : Program} {c : Code} {Q : Exit → Act → World → Prop} {a : Act} {w : World} {m : Nat} (h : ∀ m, c.wp P Q a (w.drewN m)) : c.wp P Q a (w.drewN m) := h m
/-! ### impl_RemovePair: function 35 -/
mutual
def impl_RemovePair.j0 : Nat → Bool → List Int → List Int → List Int → Int → Int → Option (List Int × List Int × List Int × Int)
  | 0, _, _, _, _, _, _ => none
  | k + 1, x17, x128000, x128001, x128002, x129000, x130000 => if x17 = true then (some (([] : List Int), ([] : List Int), ([] : List Int), 2)) else ((impl_places.f k x128000 x129000).bind fun bt134 => ((impl_places.f k x128000 x130000).bind fun bt136 => (if 0 ≤ x129000 then (if x129000 < (x128002.length : Int) then (if 0 ≤ x130000 then (if x130000 < (x128002.length : Int) then (if (rd x128002 x129000) = (rd x128002 x130000) then (impl_RemovePair.j1 k true x128000 x128001 x128002 x129000 x130000) else (if x129000 < (x128001.length : Int) then (if x130000 < (x128001.length : Int) then (if (rd x128001 x129000) = (rd x128001 x130000) then ((impl_beside.f bt134.1 bt136.1).bind fun t142 => (if t142 = true then ((impl_beside.f bt134.2 bt136.2).bind fun t143 => (impl_RemovePair.j1 k (!t143) x128000 x128001 x128002 x129000 x130000)) else (impl_RemovePair.j1 k true x128000 x128001 x128002 x129000 x130000))) else (impl_RemovePair.j1 k true x128000 x128001 x128002 x129000 x130000)) else (none)) else (none))) else (none)) else (none)) else (none)) else (none))))
def impl_RemovePair.j1 : Nat → Bool → List Int → List Int → List Int → Int → Int → Option (List Int × List Int × List Int × Int)
  | 0, _, _, _, _, _, _ => none
  | k + 1, x85, x128000, x128001, x128002, x129000, x130000 => if x85 = true then (some (([] : List Int), ([] : List Int), ([] : List Int), 5)) else ((leftRP.f x128000 x128001 x128002 x129000 x130000).bind fun bt144 => (some (bt144.1, bt144.2.1, bt144.2.2, 0)))
end
def impl_RemovePair.f (k : Nat) (l0_0 : List Int) (l0_1 : List Int) (l0_2 : List Int) (a1 : Int) (a2 : Int) : Option (List Int × List Int × List Int × Int) := (impl_IsGauss.f k l0_0 l0_1 l0_2).bind fun t131 => (if t131 = true then ((impl_isChord.f l0_0 a1).bind fun t132 => (if t132 = true then ((impl_isChord.f l0_0 a2).bind fun t133 => (if t133 = true then (impl_RemovePair.j0 k (a1 == a2) l0_0 l0_1 l0_2 a1 a2) else (impl_RemovePair.j0 k true l0_0 l0_1 l0_2 a1 a2))) else (impl_RemovePair.j0 k true l0_0 l0_1 l0_2 a1 a2))) else (some (([] : List Int), ([] : List Int), ([] : List Int), 1)))
theorem impl_RemovePair.mono_l : ∀ k, (∀ y0 y1 y2 y3 y4 y5, LeO (impl_RemovePair.j0 k y0 y1 y2 y3 y4 y5) (impl_RemovePair.j0 (k + 1) y0 y1 y2 y3 y4 y5)) ∧ (∀ y0 y1 y2 y3 y4 y5, LeO (impl_RemovePair.j1 k y0 y1 y2 y3 y4 y5) (impl_RemovePair.j1 (k + 1) y0 y1 y2 y3 y4 y5))
  | 0 => ⟨fun _ _ _ _ _ _ r h => by simp [impl_RemovePair.j0] at h, fun _ _ _ _ _ _ r h => by simp [impl_RemovePair.j1] at h⟩
  | k + 1 => by
    obtain ⟨ih0, ih1⟩ := impl_RemovePair.mono_l k
    refine ⟨?_, ?_⟩
    · intro y0 y1 y2 y3 y4 y5
      unfold impl_RemovePair.j0
      repeat' first
      | (with_reducible exact ih0 _ _ _ _ _ _)
      | (with_reducible exact ih1 _ _ _ _ _ _)
      | (with_reducible exact impl_IsGauss.mono _ _ _ _)
      | (with_reducible exact impl_places.mono _ _ _)
      | (with_reducible exact LeO.refl _)
      | (with_reducible exact LeO.none _)
      | (with_reducible refine LeO.ite ?_ ?_)
      | (with_reducible refine LeO.bind ?_ (fun _ => ?_))
      | exact ih0 _ _ _ _ _ _
      | exact ih1 _ _ _ _ _ _
      | exact impl_IsGauss.mono _ _ _ _
      | exact impl_places.mono _ _ _
      | exact LeO.none _
      | refine LeO.ite ?_ ?_
      | refine LeO.bind ?_ (fun _ => ?_)
    · intro y0 y1 y2 y3 y4 y5
      unfold impl_RemovePair.j1
      repeat' first
      | (with_reducible exact ih0 _ _ _ _ _ _)
      | (with_reducible exact ih1 _ _ _ _ _ _)
      | (with_reducible exact impl_IsGauss.mono _ _ _ _)
      | (with_reducible exact impl_places.mono _ _ _)
      | (with_reducible exact LeO.refl _)
      | (with_reducible exact LeO.none _)
      | (with_reducible refine LeO.ite ?_ ?_)
      | (with_reducible refine LeO.bind ?_ (fun _ => ?_))
      | exact ih0 _ _ _ _ _ _
      | exact ih1 _ _ _ _ _ _
      | exact impl_IsGauss.mono _ _ _ _
      | exact impl_places.mono _ _ _
      | exact LeO.none _
      | refine LeO.ite ?_ ?_
      | refine LeO.bind ?_ (fun _ => ?_)
theorem impl_RemovePair.mono : ∀ a0 a1 a2 a3 a4 k, LeO (impl_RemovePair.f k a0 a1 a2 a3 a4) (impl_RemovePair.f (k + 1) a0 a1 a2 a3 a4) := by
  intro a0 a1 a2 a3 a4 k
  obtain ⟨ih0, ih1⟩ := impl_RemovePair.mono_l k
  unfold impl_RemovePair.f
  repeat' first
      | (with_reducible exact ih0 _ _ _ _ _ _)
      | (with_reducible exact ih1 _ _ _ _ _ _)
      | (with_reducible exact impl_IsGauss.mono _ _ _ _)
      | (with_reducible exact impl_places.mono _ _ _)
      | (with_reducible exact LeO.refl _)
      | (with_reducible exact LeO.none _)
      | (with_reducible refine LeO.ite ?_ ?_)
      | (with_reducible refine LeO.bind ?_ (fun _ => ?_))
      | exact ih0 _ _ _ _ _ _
      | exact ih1 _ _ _ _ _ _
      | exact impl_IsGauss.mono _ _ _ _
      | exact impl_places.mono _ _ _
      | exact LeO.none _
      | refine LeO.ite ?_ ?_
      | refine LeO.bind ?_ (fun _ => ?_)
def impl_RemovePair.T7 : Bool × List (List Nat × List Nat) := (true, [([], []), ([0], [0]), ([], []), ([1, 2], [1, 2]), ([3], [3]), ([], []), ([5], [5]), ([], []), ([6, 7], [6, 7]), ([8], [8]), ([4, 9], [4, 9]), ([10], [10]), ([11], [11]), ([12, 11], [11, 12]), ([11], [11]), ([13, 14, 11], [11, 13, 14]), ([15, 11], [11, 15]), ([11], [11]), ([17, 11], [11, 17]), ([11], [11]), ([18, 19, 11], [11, 18, 19]), ([20, 11], [11, 20]), ([16, 21, 11], [11, 16, 21]), ([11, 22], [11, 22]), ([23, 11], [23]), ([24], [24]), ([24], [24]), ([25, 26, 24, 24], [24, 25, 26]), ([27, 24], [24, 27]), ([24, 28], [24, 28]), ([29, 27], [29]), ([30], [30]), ([30], [30]), ([31, 32, 30, 30], [30, 31, 32]), ([33, 30], [30, 33]), ([30, 34], [30, 34])])
def impl_RemovePair.B7 : List Nat := [0, 1, 0, 7, 15, 0, 32, 0, 224, 480, 1023, 2047, 4095, 8191, 4095, 32767, 65535, 4095, 135167, 4095, 921599, 1970175, 4194303, 8388607, 16777215, 33554431, 33554431, 134217727, 268435455, 536870911, 1073741823, 2147483647, 2147483647, 8589934591, 17179869183, 34359738367]
theorem impl_RemovePair.tab7 : rtab .any (opsOf Try.f35 7) = impl_RemovePair.T7 := by kernel_rfl
theorem impl_RemovePair.bits7 : waitsOk impl_RemovePair.T7.2 impl_RemovePair.B7 = true := by kernel_rfl
set_option maxHeartbeats 8000000 in
set_option maxRecDepth 100000 in
theorem impl_RemovePair.calls (k : Nat) (A0_0 : Option Addr) (c0_0 : Nat) (l0_0 : List Int) (A0_1 : Option Addr) (c0_1 : Nat) (l0_1 : List Int) (A0_2 : Option Addr) (c0_2 : Nat) (l0_2 : List Int) (a1 : Int) (a2 : Int) (r1 : List Int) (r2 : List Int) (r3 : List Int) (r4 : Int) (w : World) (hr0_0 : Kd.C (Kd.int .i64) w A0_0 l0_0.length l0_0) (hc0_0 : l0_0.length ≤ c0_0) (hr0_1 : Kd.C (Kd.int .i64) w A0_1 l0_1.length l0_1) (hc0_1 : l0_1.length ≤ c0_1) (hr0_2 : Kd.C (Kd.int .i64) w A0_2 l0_2.length l0_2) (hc0_2 : l0_2.length ≤ c0_2) (h : impl_RemovePair.f k l0_0 l0_1 l0_2 a1 a2 = some (r1, r2, r3, r4)) :
    Calls Try.prog 35 #[.agg #[.slice A0_0 l0_0.length c0_0, .slice A0_1 l0_1.length c0_1, .slice A0_2 l0_2.length c0_2], .int .i64 a1, .int .i64 a2] w fun e w' => ∃ v0_ v1_ v2_ : Value, e = .returned (.tuple #[.agg #[v0_, v1_, v2_], .int .i64 r4]) ∧ Kd.R (Kd.int .i64) 2 w' w.heap.size (fun k_ => some k_ ≠ (v1_ : Value).ownBlock ∧ some k_ ≠ (v2_ : Value).ownBlock) v0_ r1 ∧ Kd.R (Kd.int .i64) 2 w' w.heap.size (fun k_ => some k_ ≠ (v0_ : Value).ownBlock ∧ some k_ ≠ (v2_ : Value).ownBlock) v1_ r2 ∧ Kd.R (Kd.int .i64) 2 w' w.heap.size (fun k_ => some k_ ≠ (v0_ : Value).ownBlock ∧ some k_ ≠ (v1_ : Value).ownBlock) v2_ r3 ∧ Below w.heap.size w w' := by
  have hu34 := Try.underlying34
  have HR0_0 := Aside0.mk hr0_0
  have HC0_0 := Aside0.mk hc0_0
  clear hr0_0 hc0_0
  have HR0_1 := Aside0.mk hr0_1
  have HC0_1 := Aside0.mk hc0_1
  clear hr0_1 hc0_1
  have HR0_2 := Aside0.mk hr0_2
  have HC0_2 := Aside0.mk hc0_2
  clear hr0_2 hc0_2
  have HB := mk0 (Below.refl w.heap.size w)
  have H : ((impl_IsGauss.f k l0_0 l0_1 l0_2).bind fun t131 => (if t131 = true then ((impl_isChord.f l0_0 a1).bind fun t132 => (if t132 = true then ((impl_isChord.f l0_0 a2).bind fun t133 => (if t133 = true then (impl_RemovePair.j0 k (a1 == a2) l0_0 l0_1 l0_2 a1 a2) else (impl_RemovePair.j0 k true l0_0 l0_1 l0_2 a1 a2))) else (impl_RemovePair.j0 k true l0_0 l0_1 l0_2 a1 a2))) else (some (([] : List Int), ([] : List Int), ([] : List Int), 1)))) = some (r1, r2, r3, r4) := h
  clear h
  replace H := Option.bind_eq_some_iff.mp H
  obtain ⟨t131, A40, H⟩ := H
  replace H : (if t131 = true then ((impl_isChord.f l0_0 a1).bind fun t132 => (if t132 = true then ((impl_isChord.f l0_0 a2).bind fun t133 => (if t133 = true then (impl_RemovePair.j0 k (a1 == a2) l0_0 l0_1 l0_2 a1 a2) else (impl_RemovePair.j0 k true l0_0 l0_1 l0_2 a1 a2))) else (impl_RemovePair.j0 k true l0_0 l0_1 l0_2 a1 a2))) else (some (([] : List Int), ([] : List Int), ([] : List Int), 1))) = some (r1, r2, r3, r4) := H
  have A4 := Aside0.mk A40
  clear A40
  by_cases c5 : t131 = true
  · subst c5
    have H1 : ((impl_isChord.f l0_0 a1).bind fun t132 => (if t132 = true then ((impl_isChord.f l0_0 a2).bind fun t133 => (if t133 = true then (impl_RemovePair.j0 k (a1 == a2) l0_0 l0_1 l0_2 a1 a2) else (impl_RemovePair.j0 k true l0_0 l0_1 l0_2 a1 a2))) else (impl_RemovePair.j0 k true l0_0 l0_1 l0_2 a1 a2))) = some (r1, r2, r3, r4) := by rw [if_pos rfl] at H; exact H
    clear H
    have H := H1
    clear H1
    have HC6 := Aside0.mk H
    clear H
    go_enter Try.func35, Try.ntmps35
    go_upto_region 3 with (first | ((with_reducible refine gate_dst (N := 3) rfl ?_); refine box_event ?hg (N := 3) ?hd (cs := #[.slice A0_0 l0_0.length c0_0, .slice A0_1 l0_1.length c0_1, .slice A0_2 l0_2.length c0_2]) (t := 34) ?hr ?_; (case hd => rfl); (case hg => rfl); (case hr => first | (go_simp; done) | (go_simp; rfl)); intro gb127 hg w7 hbox hb; have n0_ := mk0 (below_step (by repeat (first | exact HB.out | apply below_alloc | apply pw_below_drewN | apply below_drew1)) hb); have n1_ := mk0 (hbox); have n2_ := mk0 ((by rw [hg]; exact (below_size (by repeat (first | exact HB.out | apply below_alloc | apply pw_below_drewN | apply below_drew1))) : w.heap.size ≤ gb127)); have n3_ := mk0 ((by rw [hg]; exact (below_size (by repeat (first | exact HB.out | apply below_alloc | apply pw_below_drewN | apply below_drew1))) : w.heap.size ≤ gb127)); clear HB; have HB := n0_; have BK127 := n1_; have GW127 := n2_; have GE127 := n3_; clear n0_ n1_ n2_ n3_; clear hb hbox hg) | ((with_reducible refine gate_dst (N := 4) rfl ?_); refine box_event ?hg (N := 4) ?hd (cs := #[.int .i64 a1]) (t := 2) ?hr ?_; (case hd => rfl); (case hg => rfl); (case hr => first | (go_simp; done) | (go_simp; rfl)); intro gb128 hg w8 hbox hb; have n0_ := mk0 (blk_below (by exact BK127.out) hb); have n1_ := mk0 (below_step (by repeat (first | exact HB.out | apply below_alloc | apply pw_below_drewN | apply below_drew1 | refine below_set ?_ GE127.out)) hb); have n2_ := mk0 (hbox); have n3_ := mk0 ((by rw [hg]; exact (below_size (by repeat (first | exact HB.out | apply below_alloc | apply pw_below_drewN | apply below_drew1 | refine below_set ?_ GE127.out))) : w.heap.size ≤ gb128)); have n4_ := mk0 ((by rw [hg]; exact (below_size (by repeat (first | exact HB.out | apply below_alloc | apply pw_below_drewN | apply below_drew1 | refine below_set ?_ GE127.out))) : w.heap.size ≤ gb128)); have n5_ := mk0 ((by rw [hg]; exact Nat.ne_of_lt (blk_lt (g := gb127) (o := .cells #[.slice A0_0 l0_0.length c0_0, .slice A0_1 l0_1.length c0_1, .slice A0_2 l0_2.length c0_2] 34 (0, 0)) (by exact BK127.out)) : gb127 ≠ gb128)); have n6_ := mk0 ((by rw [hg]; exact Nat.ne_of_gt (blk_lt (g := gb127) (o := .cells #[.slice A0_0 l0_0.length c0_0, .slice A0_1 l0_1.length c0_1, .slice A0_2 l0_2.length c0_2] 34 (0, 0)) (by exact BK127.out)) : gb128 ≠ gb127)); clear BK127; clear HB; have BK127 := n0_; have HB := n1_; have BK128 := n2_; have GW128 := n3_; have GE128 := n4_; have NB127_128 := n5_; have NB128_127 := n6_; clear n0_ n1_ n2_ n3_ n4_ n5_ n6_; clear hb hbox hg) | ((with_reducible refine gate_dst (N := 5) rfl ?_); refine box_event ?hg (N := 5) ?hd (cs := #[.int .i64 a2]) (t := 2) ?hr ?_; (case hd => rfl); (case hg => rfl); (case hr => first | (go_simp; done) | (go_simp; rfl)); intro gb129 hg w9 hbox hb; have n0_ := mk0 (blk_below (by exact BK127.out) hb); have n1_ := mk0 (blk_below (by exact BK128.out) hb); have n2_ := mk0 (below_step (by repeat (first | exact HB.out | apply below_alloc | apply pw_below_drewN | apply below_drew1 | refine below_set ?_ GE127.out | refine below_set ?_ GE128.out)) hb); have n3_ := mk0 (hbox); have n4_ := mk0 ((by rw [hg]; exact (below_size (by repeat (first | exact HB.out | apply below_alloc | apply pw_below_drewN | apply below_drew1 | refine below_set ?_ GE127.out | refine below_set ?_ GE128.out))) : w.heap.size ≤ gb129)); have n5_ := mk0 ((by rw [hg]; exact (below_size (by repeat (first | exact HB.out | apply below_alloc | apply pw_below_drewN | apply below_drew1 | refine below_set ?_ GE127.out | refine below_set ?_ GE128.out))) : w.heap.size ≤ gb129)); have n6_ := mk0 ((by rw [hg]; exact Nat.ne_of_lt (blk_lt (g := gb127) (o := .cells #[.slice A0_0 l0_0.length c0_0, .slice A0_1 l0_1.length c0_1, .slice A0_2 l0_2.length c0_2] 34 (0, 0)) (by exact BK127.out)) : gb127 ≠ gb129)); have n7_ := mk0 ((by rw [hg]; exact Nat.ne_of_gt (blk_lt (g := gb127) (o := .cells #[.slice A0_0 l0_0.length c0_0, .slice A0_1 l0_1.length c0_1, .slice A0_2 l0_2.length c0_2] 34 (0, 0)) (by exact BK127.out)) : gb129 ≠ gb127)); have n8_ := mk0 ((by rw [hg]; exact Nat.ne_of_lt (blk_lt (g := gb128) (o := .cells #[.int .i64 a1] 2 (0, 0)) (by exact BK128.out)) : gb128 ≠ gb129)); have n9_ := mk0 ((by rw [hg]; exact Nat.ne_of_gt (blk_lt (g := gb128) (o := .cells #[.int .i64 a1] 2 (0, 0)) (by exact BK128.out)) : gb129 ≠ gb128)); clear BK127; clear BK128; clear HB; have BK127 := n0_; have BK128 := n1_; have HB := n2_; have BK129 := n3_; have GW129 := n4_; have GE129 := n5_; have NB127_129 := n6_; have NB129_127 := n7_; have NB128_129 := n8_; have NB129_128 := n9_; clear n0_ n1_ n2_ n3_ n4_ n5_ n6_ n7_ n8_ n9_; clear hb hbox hg) | ((with_reducible refine gate_dst (N := 6) rfl ?_); refine box_event ?hg (N := 6) ?hd (cs := #[.slice none 0 0, .slice none 0 0, .slice none 0 0]) (t := 34) ?hr ?_; (case hd => rfl); (case hg => rfl); (case hr => first | (go_simp; done) | (go_simp; rfl)); intro gb130 hg w10 hbox hb; have n0_ := mk0 (blk_below (by exact BK127.out) hb); have n1_ := mk0 (blk_below (by exact BK128.out) hb); have n2_ := mk0 (blk_below (by exact BK129.out) hb); have n3_ := mk0 (below_step (by repeat (first | exact HB.out | apply below_alloc | apply pw_below_drewN | apply below_drew1 | refine below_set ?_ GE127.out | refine below_set ?_ GE128.out | refine below_set ?_ GE129.out)) hb); have n4_ := mk0 (hbox); have n5_ := mk0 ((by rw [hg]; exact (below_size (by repeat (first | exact HB.out | apply below_alloc | apply pw_below_drewN | apply below_drew1 | refine below_set ?_ GE127.out | refine below_set ?_ GE128.out | refine below_set ?_ GE129.out))) : w.heap.size ≤ gb130)); have n6_ := mk0 ((by rw [hg]; exact (below_size (by repeat (first | exact HB.out | apply below_alloc | apply pw_below_drewN | apply below_drew1 | refine below_set ?_ GE127.out | refine below_set ?_ GE128.out | refine below_set ?_ GE129.out))) : w.heap.size ≤ gb130)); have n7_ := mk0 ((by rw [hg]; exact Nat.ne_of_lt (blk_lt (g := gb127) (o := .cells #[.slice A0_0 l0_0.length c0_0, .slice A0_1 l0_1.length c0_1, .slice A0_2 l0_2.length c0_2] 34 (0, 0)) (by exact BK127.out)) : gb127 ≠ gb130)); have n8_ := mk0 ((by rw [hg]; exact Nat.ne_of_gt (blk_lt (g := gb127) (o := .cells #[.slice A0_0 l0_0.length c0_0, .slice A0_1 l0_1.length c0_1, .slice A0_2 l0_2.length c0_2] 34 (0, 0)) (by exact BK127.out)) : gb130 ≠ gb127)); have n9_ := mk0 ((by rw [hg]; exact Nat.ne_of_lt (blk_lt (g := gb128) (o := .cells #[.int .i64 a1] 2 (0, 0)) (by exact BK128.out)) : gb128 ≠ gb130)); have n10_ := mk0 ((by rw [hg]; exact Nat.ne_of_gt (blk_lt (g := gb128) (o := .cells #[.int .i64 a1] 2 (0, 0)) (by exact BK128.out)) : gb130 ≠ gb128)); have n11_ := mk0 ((by rw [hg]; exact Nat.ne_of_lt (blk_lt (g := gb129) (o := .cells #[.int .i64 a2] 2 (0, 0)) (by exact BK129.out)) : gb129 ≠ gb130)); have n12_ := mk0 ((by rw [hg]; exact Nat.ne_of_gt (blk_lt (g := gb129) (o := .cells #[.int .i64 a2] 2 (0, 0)) (by exact BK129.out)) : gb130 ≠ gb129)); clear BK127; clear BK128; clear BK129; clear HB; have BK127 := n0_; have BK128 := n1_; have BK129 := n2_; have HB := n3_; have BK130 := n4_; have GW130 := n5_; have GE130 := n6_; have NB127_130 := n7_; have NB130_127 := n8_; have NB128_130 := n9_; have NB130_128 := n10_; have NB129_130 := n11_; have NB130_129 := n12_; clear n0_ n1_ n2_ n3_ n4_ n5_ n6_ n7_ n8_ n9_ n10_ n11_ n12_; clear hb hbox hg; have hnb11 := NB127_128.out; have hnc11 := NB128_127.out; have hnb12 := NB127_129.out; have hnc12 := NB129_127.out; have hnb13 := NB127_130.out; have hnc13 := NB130_127.out; obtain ⟨hcz14_0, hcz14_1, hcz14_2⟩ := bc3 BK127.out; obtain ⟨hfz14_0, hfz14_1, hfz14_2⟩ := bf3 BK127.out) | ((with_reducible refine gate_callee (f := 58) rfl ?_); refine goesL_ (some 14) rfl rfl Try.func58 (by kernel_rfl) rfl #[.agg #[.slice A0_0 l0_0.length c0_0, .slice A0_1 l0_1.length c0_1, .slice A0_2 l0_2.length c0_2]] rfl (by (try simp only [List.map_toArray, List.map_cons, List.map_nil]); rfl) ?_; (with_reducible refine (impl_IsGauss.calls k _ _ l0_0 _ _ l0_1 _ _ l0_2 true _ ?side1 ?side2 ?side3 ?side4 ?side5 ?side6 A4.out).mono ?_); (case side1 => exact (Kd.C_below HR0_0.out HB.out)); (case side2 => exact HC0_0.out); (case side3 => exact (Kd.C_below HR0_1.out HB.out)); (case side4 => exact HC0_1.out); (case side5 => exact (Kd.C_below HR0_2.out HB.out)); (case side6 => exact HC0_2.out); rintro e w15 ⟨rfl, hb⟩; refine ⟨_, rfl, ?_⟩; have n0_ := mk0 (blk_below (by exact BK127.out) hb); have n1_ := mk0 (blk_below (by exact BK128.out) hb); have n2_ := mk0 (blk_below (by exact BK129.out) hb); have n3_ := mk0 (blk_below (by exact BK130.out) hb); have n4_ := mk0 (below_step (by repeat (first | exact HB.out | apply below_alloc | apply pw_below_drewN | apply below_drew1 | refine below_set ?_ GE127.out | refine below_set ?_ GE128.out | refine below_set ?_ GE129.out | refine below_set ?_ GE130.out)) hb); clear BK127; clear BK128; clear BK129; clear BK130; clear HB; have BK127 := n0_; have BK128 := n1_; have BK129 := n2_; have BK130 := n3_; have HB := n4_; clear n0_ n1_ n2_ n3_ n4_; (try clear hb); (try clear hb2); (try clear hk); (try clear hi)))
    (try simp only [Act.put, List.setIfInBounds_toArray, List.set_cons_zero, List.set_cons_succ])
    go_cut [17] (fun v17 wc => ∃ (kq : Nat) (x17_5 : Bool), v17 = .bool x17_5 ∧ Aside0 (impl_RemovePair.j0 kq x17_5 l0_0 l0_1 l0_2 a1 a2 = some (r1, r2, r3, r4)) ∧ Aside0 (kq ≤ k) ∧ Aside0 (wc.heap[gb127]? = some (.cells #[(.slice A0_0 l0_0.length c0_0), (.slice A0_1 l0_1.length c0_1), (.slice A0_2 l0_2.length c0_2)] 34 (0, 0))) ∧ Aside0 (wc.heap[gb128]? = some (.cells #[.int .i64 a1] 2 (0, 0))) ∧ Aside0 (wc.heap[gb129]? = some (.cells #[.int .i64 a2] 2 (0, 0))) ∧ Aside0 (wc.heap[gb130]? = some (.cells #[(.slice none 0 0), (.slice none 0 0), (.slice none 0 0)] 34 (0, 0))) ∧ Aside0 (Below w.heap.size w wc))
    case first =>
      have H := HC6.out
      clear HC6
      replace H := Option.bind_eq_some_iff.mp H
      obtain ⟨t132, A160, H⟩ := H
      replace H : (if t132 = true then ((impl_isChord.f l0_0 a2).bind fun t133 => (if t133 = true then (impl_RemovePair.j0 k (a1 == a2) l0_0 l0_1 l0_2 a1 a2) else (impl_RemovePair.j0 k true l0_0 l0_1 l0_2 a1 a2))) else (impl_RemovePair.j0 k true l0_0 l0_1 l0_2 a1 a2)) = some (r1, r2, r3, r4) := H
      have A16 := Aside0.mk A160
      clear A160
      by_cases c17 : t132 = true
      · subst c17
        have H1 : ((impl_isChord.f l0_0 a2).bind fun t133 => (if t133 = true then (impl_RemovePair.j0 k (a1 == a2) l0_0 l0_1 l0_2 a1 a2) else (impl_RemovePair.j0 k true l0_0 l0_1 l0_2 a1 a2))) = some (r1, r2, r3, r4) := by rw [if_pos rfl] at H; exact H
        clear H
        have H := H1
        clear H1
        replace H := Option.bind_eq_some_iff.mp H
        obtain ⟨t133, A180, H⟩ := H
        replace H : (if t133 = true then (impl_RemovePair.j0 k (a1 == a2) l0_0 l0_1 l0_2 a1 a2) else (impl_RemovePair.j0 k true l0_0 l0_1 l0_2 a1 a2)) = some (r1, r2, r3, r4) := H
        have A18 := Aside0.mk A180
        clear A180
        by_cases c19 : t133 = true
        · subst c19
          have H1 : (impl_RemovePair.j0 k (a1 == a2) l0_0 l0_1 l0_2 a1 a2) = some (r1, r2, r3, r4) := by rw [if_pos rfl] at H; exact H
          clear H
          have H := H1
          clear H1
          have H' := Aside0.mk H
          clear H
          have hnb20 := NB127_128.out
          have hnc20 := NB128_127.out
          have hnb21 := NB127_129.out
          have hnc21 := NB129_127.out
          have hnb22 := NB127_130.out
          have hnc22 := NB130_127.out
          obtain ⟨hcz23_0, hcz23_1, hcz23_2⟩ := bc3 BK127.out
          obtain ⟨hfz23_0, hfz23_1, hfz23_2⟩ := bf3 BK127.out
          have hnb24 := NB128_129.out
          have hnc24 := NB129_128.out
          have hnb25 := NB128_130.out
          have hnc25 := NB130_128.out
          have hcz26_0 : w15.cell? ⟨gb128, 0, none⟩ = some (.int .i64 a1) := (blk_cell BK128.out 0).trans rfl
          have hfz26_0 := blk_frozen BK128.out 0
          go_wp2_with (first | ((with_reducible refine gate_callee (f := 63) rfl ?_); refine goesL_ (some 21) rfl rfl Try.func63 (by kernel_rfl) rfl #[.slice A0_0 l0_0.length c0_0, .int .i64 a1] rfl (by (try simp only [List.map_toArray, List.map_cons, List.map_nil]); rfl) ?_; (with_reducible refine (impl_isChord.calls _ _ l0_0 a1 true _ ?side1 ?side2 A16.out).mono ?_); (case side1 => exact (Kd.C_below HR0_0.out HB.out)); (case side2 => exact HC0_0.out); rintro e w' ⟨rfl, ⟨nd, rfl⟩⟩; refine ⟨_, rfl, ?_⟩; have hnb27 := NB129_130.out; have hnc27 := NB130_129.out; have hcz28_0 : w15.cell? ⟨gb129, 0, none⟩ = some (.int .i64 a2) := (blk_cell BK129.out 0).trans rfl; have hfz28_0 := blk_frozen BK129.out 0) | (go_at_call 63; (with_reducible refine (impl_isChord.calls _ _ l0_0 a2 true _ ?side1 ?side2 A18.out).mono ?_); (case side1 => repeat (first | exact (Kd.C_below HR0_0.out (by repeat (first | exact HB.out | apply below_alloc | apply pw_below_drewN | apply below_drew1 | refine below_set ?_ GE127.out | refine below_set ?_ GE128.out | refine below_set ?_ GE129.out | refine below_set ?_ GE130.out))) | (with_reducible refine Kd.C_alloc ?_ _) | (with_reducible refine Kd.C_drewN ?_ _) | (with_reducible refine Kd.C_drew ?_))); (case side2 => exact HC0_0.out); rintro e w' ⟨rfl, ⟨nd, rfl⟩⟩))
          go_meet
          case rel => exact ⟨_, ((a1 == a2)), (by first | rfl | (simp; done) | (simp [*]; done)), H', ⟨by first | omega | exact Nat.le_refl _⟩, ⟨by exact BK127.out⟩, ⟨by exact BK128.out⟩, ⟨by exact BK129.out⟩, ⟨by exact BK130.out⟩, ⟨by repeat (first | exact HB.out | apply below_alloc | apply pw_below_drewN | apply below_drew1 | refine below_set ?_ GE127.out | refine below_set ?_ GE128.out | refine below_set ?_ GE129.out | refine below_set ?_ GE130.out)⟩⟩
        · replace c19 := Bool.eq_false_iff.mpr c19
          subst c19
          have H1 : (impl_RemovePair.j0 k true l0_0 l0_1 l0_2 a1 a2) = some (r1, r2, r3, r4) := by rw [if_neg (show ¬ (false = true) by decide)] at H; exact H
          clear H
          have H := H1
          clear H1
          have H' := Aside0.mk H
          clear H
          have hnb29 := NB127_128.out
          have hnc29 := NB128_127.out
          have hnb30 := NB127_129.out
          have hnc30 := NB129_127.out
          have hnb31 := NB127_130.out
          have hnc31 := NB130_127.out
          obtain ⟨hcz32_0, hcz32_1, hcz32_2⟩ := bc3 BK127.out
          obtain ⟨hfz32_0, hfz32_1, hfz32_2⟩ := bf3 BK127.out
          have hnb33 := NB128_129.out
          have hnc33 := NB129_128.out
          have hnb34 := NB128_130.out
          have hnc34 := NB130_128.out
          have hcz35_0 : w15.cell? ⟨gb128, 0, none⟩ = some (.int .i64 a1) := (blk_cell BK128.out 0).trans rfl
          have hfz35_0 := blk_frozen BK128.out 0
          go_wp2_with (first | ((with_reducible refine gate_callee (f := 63) rfl ?_); refine goesL_ (some 21) rfl rfl Try.func63 (by kernel_rfl) rfl #[.slice A0_0 l0_0.length c0_0, .int .i64 a1] rfl (by (try simp only [List.map_toArray, List.map_cons, List.map_nil]); rfl) ?_; (with_reducible refine (impl_isChord.calls _ _ l0_0 a1 true _ ?side1 ?side2 A16.out).mono ?_); (case side1 => exact (Kd.C_below HR0_0.out HB.out)); (case side2 => exact HC0_0.out); rintro e w' ⟨rfl, ⟨nd, rfl⟩⟩; refine ⟨_, rfl, ?_⟩; have hnb36 := NB129_130.out; have hnc36 := NB130_129.out; have hcz37_0 : w15.cell? ⟨gb129, 0, none⟩ = some (.int .i64 a2) := (blk_cell BK129.out 0).trans rfl; have hfz37_0 := blk_frozen BK129.out 0) | (go_at_call 63; (with_reducible refine (impl_isChord.calls _ _ l0_0 a2 false _ ?side1 ?side2 A18.out).mono ?_); (case side1 => repeat (first | exact (Kd.C_below HR0_0.out (by repeat (first | exact HB.out | apply below_alloc | apply pw_below_drewN | apply below_drew1 | refine below_set ?_ GE127.out | refine below_set ?_ GE128.out | refine below_set ?_ GE129.out | refine below_set ?_ GE130.out))) | (with_reducible refine Kd.C_alloc ?_ _) | (with_reducible refine Kd.C_drewN ?_ _) | (with_reducible refine Kd.C_drew ?_))); (case side2 => exact HC0_0.out); rintro e w' ⟨rfl, ⟨nd, rfl⟩⟩))
          go_meet
          case rel => exact ⟨_, (true), (by first | rfl | (simp; done) | (simp [*]; done)), H', ⟨by first | omega | exact Nat.le_refl _⟩, ⟨by exact BK127.out⟩, ⟨by exact BK128.out⟩, ⟨by exact BK129.out⟩, ⟨by exact BK130.out⟩, ⟨by repeat (first | exact HB.out | apply below_alloc | apply pw_below_drewN | apply below_drew1 | refine below_set ?_ GE127.out | refine below_set ?_ GE128.out | refine below_set ?_ GE129.out | refine below_set ?_ GE130.out)⟩⟩
      · replace c17 := Bool.eq_false_iff.mpr c17
        subst c17
        have H1 : (impl_RemovePair.j0 k true l0_0 l0_1 l0_2 a1 a2) = some (r1, r2, r3, r4) := by rw [if_neg (show ¬ (false = true) by decide)] at H; exact H
        clear H
        have H := H1
        clear H1
        have H' := Aside0.mk H
        clear H
        have hnb38 := NB127_128.out
        have hnc38 := NB128_127.out
        have hnb39 := NB127_129.out
        have hnc39 := NB129_127.out
        have hnb40 := NB127_130.out
        have hnc40 := NB130_127.out
        obtain ⟨hcz41_0, hcz41_1, hcz41_2⟩ := bc3 BK127.out
        obtain ⟨hfz41_0, hfz41_1, hfz41_2⟩ := bf3 BK127.out
        have hnb42 := NB128_129.out
        have hnc42 := NB129_128.out
        have hnb43 := NB128_130.out
        have hnc43 := NB130_128.out
        have hcz44_0 : w15.cell? ⟨gb128, 0, none⟩ = some (.int .i64 a1) := (blk_cell BK128.out 0).trans rfl
        have hfz44_0 := blk_frozen BK128.out 0
        go_wp2_with (first | ((with_reducible refine gate_callee (f := 63) rfl ?_); refine goesL_ (some 21) rfl rfl Try.func63 (by kernel_rfl) rfl #[.slice A0_0 l0_0.length c0_0, .int .i64 a1] rfl (by (try simp only [List.map_toArray, List.map_cons, List.map_nil]); rfl) ?_; (with_reducible refine (impl_isChord.calls _ _ l0_0 a1 false _ ?side1 ?side2 A16.out).mono ?_); (case side1 => exact (Kd.C_below HR0_0.out HB.out)); (case side2 => exact HC0_0.out); rintro e w' ⟨rfl, ⟨nd, rfl⟩⟩; refine ⟨_, rfl, ?_⟩))
        go_meet
        case rel => exact ⟨_, (true), (by first | rfl | (simp; done) | (simp [*]; done)), H', ⟨by first | omega | exact Nat.le_refl _⟩, ⟨by exact BK127.out⟩, ⟨by exact BK128.out⟩, ⟨by exact BK129.out⟩, ⟨by exact BK130.out⟩, ⟨by repeat (first | exact HB.out | apply below_alloc | apply pw_below_drewN | apply below_drew1 | refine below_set ?_ GE127.out | refine below_set ?_ GE128.out | refine below_set ?_ GE129.out | refine below_set ?_ GE130.out)⟩⟩
    case rest =>
      clear HC6
      try clear c1
      try clear c2
      try clear p2
      try clear c3
      try clear c4
      try clear c5
      try clear c6
      try clear c11
      try clear c12
      try clear c13
      try clear c17
      try clear c19
      try clear c20
      try clear c21
      try clear c22
      try clear c24
      try clear c25
      try clear c27
      try clear c29
      try clear c30
      try clear c31
      try clear c33
      try clear c34
      try clear c35
      try clear c36
      try clear c38
      try clear c39
      try clear c40
      try clear c42
      try clear c43
      try clear hcz14_0
      try clear hcz14_1
      try clear hcz14_2
      try clear hcz23_0
      try clear hcz23_1
      try clear hcz23_2
      try clear hcz26_0
      try clear hcz28_0
      try clear hcz32_0
      try clear hcz32_1
      try clear hcz32_2
      try clear hcz35_0
      try clear hcz37_0
      try clear hcz41_0
      try clear hcz41_1
      try clear hcz41_2
      try clear hcz44_0
      try clear hfz14_0
      try clear hfz14_1
      try clear hfz14_2
      try clear hfz23_0
      try clear hfz23_1
      try clear hfz23_2
      try clear hfz26_0
      try clear hfz28_0
      try clear hfz32_0
      try clear hfz32_1
      try clear hfz32_2
      try clear hfz35_0
      try clear hfz37_0
      try clear hfz41_0
      try clear hfz41_1
      try clear hfz41_2
      try clear hfz44_0
      obtain ⟨kq, x17_5, rfl, HA, HJ5, BK127, BK128, BK129, BK130, HB⟩ := hcut
      cases kq with
      | zero => exact absurd HA.out (by simp [impl_RemovePair.j0])
      | succ kj5 =>
        have H := HA.out
        clear HA
        simp only [impl_RemovePair.j0] at H
        by_cases c45 : x17_5 = true
        · subst c45
          have H1 : (some (([] : List Int), ([] : List Int), ([] : List Int), 2)) = some (r1, r2, r3, r4) := by rw [if_pos rfl] at H; exact H
          clear H
          have H := H1
          clear H1
          simp only [Option.some.injEq, Prod.mk.injEq] at H
          obtain ⟨rfl, rfl, rfl, rfl⟩ := H
          have hnb46 := NB130_127.out
          have hnc46 := NB127_130.out
          have hnb47 := NB130_128.out
          have hnc47 := NB128_130.out
          have hnb48 := NB130_129.out
          have hnc48 := NB129_130.out
          obtain ⟨hcz49_0, hcz49_1, hcz49_2⟩ := bc3 BK130.out
          obtain ⟨hfz49_0, hfz49_1, hfz49_2⟩ := bf3 BK130.out
          go_wp2
          refine bodyPost_ret (results_ct rfl _ _ gb130 34 #[.slice none 0 0, .slice none 0 0, .slice none 0 0] (0, 0) _ rfl (by refine blk_put (cs := #[.slice none 0 0, .slice none 0 0, .slice none 0 0]) ?_ 2 _ rfl; refine blk_put (cs := #[.slice none 0 0, .slice none 0 0, .slice none 0 0]) ?_ 1 _ rfl; refine blk_put (cs := #[.slice none 0 0, .slice none 0 0, .slice none 0 0]) ?_ 0 _ rfl; exact BK130.out) Try.underlying34 rfl (by kernel_rfl)) rfl ?_
          exact ⟨_, _, _, by first | rfl | (simp [errW_none, errW_some] <;> rfl) | (simp [*, errW_none, errW_some] <;> rfl), by first | exact Kd.R_nil _ _ _ _ _ | exact Kd.N_nil _ _ _ _ _ | exact Kd.V_nil _ _ _ _ _ | exact Kd.Q_nil _ _ _ _ _ | exact Kd.S_nil _ _ _ _ _, by first | exact Kd.R_nil _ _ _ _ _ | exact Kd.N_nil _ _ _ _ _ | exact Kd.V_nil _ _ _ _ _ | exact Kd.Q_nil _ _ _ _ _ | exact Kd.S_nil _ _ _ _ _, by first | exact Kd.R_nil _ _ _ _ _ | exact Kd.N_nil _ _ _ _ _ | exact Kd.V_nil _ _ _ _ _ | exact Kd.Q_nil _ _ _ _ _ | exact Kd.S_nil _ _ _ _ _, by repeat (first | exact HB.out | apply below_alloc | apply pw_below_drewN | apply below_drew1 | refine below_set ?_ GE127.out | refine below_set ?_ GE128.out | refine below_set ?_ GE129.out | refine below_set ?_ GE130.out)⟩
        · replace c45 := Bool.eq_false_iff.mpr c45
          subst c45
          have H1 : ((impl_places.f kj5 l0_0 a1).bind fun bt134 => ((impl_places.f kj5 l0_0 a2).bind fun bt136 => (if 0 ≤ a1 then (if a1 < (l0_2.length : Int) then (if 0 ≤ a2 then (if a2 < (l0_2.length : Int) then (if (rd l0_2 a1) = (rd l0_2 a2) then (impl_RemovePair.j1 kj5 true l0_0 l0_1 l0_2 a1 a2) else (if a1 < (l0_1.length : Int) then (if a2 < (l0_1.length : Int) then (if (rd l0_1 a1) = (rd l0_1 a2) then ((impl_beside.f bt134.1 bt136.1).bind fun t142 => (if t142 = true then ((impl_beside.f bt134.2 bt136.2).bind fun t143 => (impl_RemovePair.j1 kj5 (!t143) l0_0 l0_1 l0_2 a1 a2)) else (impl_RemovePair.j1 kj5 true l0_0 l0_1 l0_2 a1 a2))) else (impl_RemovePair.j1 kj5 true l0_0 l0_1 l0_2 a1 a2)) else (none)) else (none))) else (none)) else (none)) else (none)) else (none)))) = some (r1, r2, r3, r4) := by rw [if_neg (show ¬ (false = true) by decide)] at H; exact H
          clear H
          have H := H1
          clear H1
          replace H := Option.bind_eq_some_iff.mp H
          obtain ⟨⟨t134, t135⟩, A500, H⟩ := H
          replace H : ((impl_places.f kj5 l0_0 a2).bind fun bt136 => (if 0 ≤ a1 then (if a1 < (l0_2.length : Int) then (if 0 ≤ a2 then (if a2 < (l0_2.length : Int) then (if (rd l0_2 a1) = (rd l0_2 a2) then (impl_RemovePair.j1 kj5 true l0_0 l0_1 l0_2 a1 a2) else (if a1 < (l0_1.length : Int) then (if a2 < (l0_1.length : Int) then (if (rd l0_1 a1) = (rd l0_1 a2) then ((impl_beside.f t134 bt136.1).bind fun t142 => (if t142 = true then ((impl_beside.f t135 bt136.2).bind fun t143 => (impl_RemovePair.j1 kj5 (!t143) l0_0 l0_1 l0_2 a1 a2)) else (impl_RemovePair.j1 kj5 true l0_0 l0_1 l0_2 a1 a2))) else (impl_RemovePair.j1 kj5 true l0_0 l0_1 l0_2 a1 a2)) else (none)) else (none))) else (none)) else (none)) else (none)) else (none))) = some (r1, r2, r3, r4) := H
          have A50 := Aside0.mk A500
          clear A500
          replace H := Option.bind_eq_some_iff.mp H
          obtain ⟨⟨t136, t137⟩, A510, H⟩ := H
          replace H : (if 0 ≤ a1 then (if a1 < (l0_2.length : Int) then (if 0 ≤ a2 then (if a2 < (l0_2.length : Int) then (if (rd l0_2 a1) = (rd l0_2 a2) then (impl_RemovePair.j1 kj5 true l0_0 l0_1 l0_2 a1 a2) else (if a1 < (l0_1.length : Int) then (if a2 < (l0_1.length : Int) then (if (rd l0_1 a1) = (rd l0_1 a2) then ((impl_beside.f t134 t136).bind fun t142 => (if t142 = true then ((impl_beside.f t135 t137).bind fun t143 => (impl_RemovePair.j1 kj5 (!t143) l0_0 l0_1 l0_2 a1 a2)) else (impl_RemovePair.j1 kj5 true l0_0 l0_1 l0_2 a1 a2))) else (impl_RemovePair.j1 kj5 true l0_0 l0_1 l0_2 a1 a2)) else (none)) else (none))) else (none)) else (none)) else (none)) else (none)) = some (r1, r2, r3, r4) := H
          have A51 := Aside0.mk A510
          clear A510
          have HC52 := Aside0.mk H
          clear H
          have hnb53 := NB127_128.out
          have hnc53 := NB128_127.out
          have hnb54 := NB127_129.out
          have hnc54 := NB129_127.out
          have hnb55 := NB127_130.out
          have hnc55 := NB130_127.out
          obtain ⟨hcz56_0, hcz56_1, hcz56_2⟩ := bc3 BK127.out
          obtain ⟨hfz56_0, hfz56_1, hfz56_2⟩ := bf3 BK127.out
          have hnb57 := NB128_129.out
          have hnc57 := NB129_128.out
          have hnb58 := NB128_130.out
          have hnc58 := NB130_128.out
          have hcz59_0 : wc.cell? ⟨gb128, 0, none⟩ = some (.int .i64 a1) := (blk_cell BK128.out 0).trans rfl
          have hfz59_0 := blk_frozen BK128.out 0
          go_upto_region 7 with (first | ((with_reducible refine gate_callee (f := 64) rfl ?_); refine goesL_ (some 40) rfl rfl Try.func64 (by kernel_rfl) rfl #[.slice A0_0 l0_0.length c0_0, .int .i64 a1] rfl (by (try simp only [List.map_toArray, List.map_cons, List.map_nil]); rfl) ?_; (with_reducible refine (impl_places.calls kj5 _ _ l0_0 a1 t134 t135 _ ?side1 ?side2 A50.out).mono ?_); (case side1 => exact (Kd.C_below HR0_0.out HB.out)); (case side2 => exact HC0_0.out); rintro e w' ⟨rfl, ⟨nd, rfl⟩⟩; refine ⟨_, rfl, ?_⟩; have hnb60 := NB129_130.out; have hnc60 := NB130_129.out; have hcz61_0 : wc.cell? ⟨gb129, 0, none⟩ = some (.int .i64 a2) := (blk_cell BK129.out 0).trans rfl; have hfz61_0 := blk_frozen BK129.out 0) | ((with_reducible refine gate_callee (f := 64) rfl ?_); refine goesL_ (some 47) rfl rfl Try.func64 (by kernel_rfl) rfl #[.slice A0_0 l0_0.length c0_0, .int .i64 a2] rfl (by (try simp only [List.map_toArray, List.map_cons, List.map_nil]); rfl) ?_; (with_reducible refine (impl_places.calls kj5 _ _ l0_0 a2 t136 t137 _ ?side1 ?side2 A51.out).mono ?_); (case side1 => repeat (first | exact (Kd.C_below HR0_0.out (by repeat (first | exact HB.out | apply below_alloc | apply pw_below_drewN | apply below_drew1 | refine below_set ?_ GE127.out | refine below_set ?_ GE128.out | refine below_set ?_ GE129.out | refine below_set ?_ GE130.out))) | (with_reducible refine Kd.C_alloc ?_ _) | (with_reducible refine Kd.C_drewN ?_ _) | (with_reducible refine Kd.C_drew ?_))); (case side2 => exact HC0_0.out); rintro e w' ⟨rfl, ⟨nd, rfl⟩⟩; refine ⟨_, rfl, ?_⟩))
          (try simp only [Act.put, List.setIfInBounds_toArray, List.set_cons_zero, List.set_cons_succ])
          go_cut [85] (fun v85 wc => ∃ (kq : Nat) (x85_51 : Bool), v85 = .bool x85_51 ∧ Aside0 (impl_RemovePair.j1 kq x85_51 l0_0 l0_1 l0_2 a1 a2 = some (r1, r2, r3, r4)) ∧ Aside0 (kq ≤ kj5) ∧ Aside0 (wc.heap[gb127]? = some (.cells #[(.slice A0_0 l0_0.length c0_0), (.slice A0_1 l0_1.length c0_1), (.slice A0_2 l0_2.length c0_2)] 34 (0, 0))) ∧ Aside0 (wc.heap[gb128]? = some (.cells #[.int .i64 a1] 2 (0, 0))) ∧ Aside0 (wc.heap[gb129]? = some (.cells #[.int .i64 a2] 2 (0, 0))) ∧ Aside0 (wc.heap[gb130]? = some (.cells #[(.slice none 0 0), (.slice none 0 0), (.slice none 0 0)] 34 (0, 0))) ∧ Aside0 (Below w.heap.size w wc))
          case first =>
            have H := HC52.out
            clear HC52
            by_cases c62 : 0 ≤ a1
            · rw [if_pos c62] at H
              have c62b0 : decide (0 ≤ a1) = true := decide_eq_true c62
              clear c62
              (first | rw [c62b0] | (simp only [i64_w, i32_w]; rw [c62b0]) | skip)
              by_cases c63 : a1 < (l0_2.length : Int)
              · rw [if_pos c63] at H
                have c63b0 : decide (a1 < (l0_2.length : Int)) = true := decide_eq_true c63
                clear c63
                by_cases c64 : 0 ≤ a2
                · rw [if_pos c64] at H
                  have c64b0 : decide (0 ≤ a2) = true := decide_eq_true c64
                  clear c64
                  by_cases c65 : a2 < (l0_2.length : Int)
                  · rw [if_pos c65] at H
                    have c65b0 : decide (a2 < (l0_2.length : Int)) = true := decide_eq_true c65
                    clear c65
                    by_cases c66 : (rd l0_2 a1) = (rd l0_2 a2)
                    · rw [if_pos c66] at H
                      have c66b0 : ((rd l0_2 a1) == (rd l0_2 a2)) = true := beq_iff_eq.mpr c66
                      have c66b1 : ((rd l0_2 a1) != (rd l0_2 a2)) = false := bne_eq_false_iff_eq.mpr c66
                      clear c66
                      have H' := Aside0.mk H
                      clear H
                      try go_wp2
                      refine wp_dn fun md => ?_
                      have n0_ := mk0 (blk_drew (blk_drewN BK127.out md))
                      have n1_ := mk0 (blk_drew (blk_drewN BK128.out md))
                      have n2_ := mk0 (blk_drew (blk_drewN BK129.out md))
                      have n3_ := mk0 (blk_drew (blk_drewN BK130.out md))
                      have n4_ := mk0 (below_drew1 (pw_below_drewN HB.out md))
                      clear BK127
                      clear BK128
                      clear BK129
                      clear BK130
                      clear HB
                      have BK127 := n0_
                      have BK128 := n1_
                      have BK129 := n2_
                      have BK130 := n3_
                      have HB := n4_
                      clear n0_ n1_ n2_ n3_ n4_
                      have p138 : 0 ≤ (a1 : Int) := of_decide_eq_true (by first | (with_reducible assumption) | assumption)
                      have q138 : a1 < (l0_2.length : Int) := of_decide_eq_true (by first | (with_reducible assumption) | assumption)
                      obtain ⟨ad138, e138, hx138_0⟩ := Kd.at_int HR0_2.out a1 p138 q138
                      have hw138_0 := hx138_0
                      cases e138
                      replace hx138_0 := (HB.out.cell (World.block_lt_of_cell? w _ hx138_0)).trans hx138_0
                      replace p138 := eq_true p138
                      replace q138 := eq_true q138
                      have p139 : 0 ≤ (a2 : Int) := of_decide_eq_true (by first | (with_reducible assumption) | assumption)
                      have q139 : a2 < (l0_2.length : Int) := of_decide_eq_true (by first | (with_reducible assumption) | assumption)
                      obtain ⟨ad139, e139, hx139_0⟩ := Kd.at_int HR0_2.out a2 p139 q139
                      have hw139_0 := hx139_0
                      obtain rfl : ad138 = ad139 := (by injection e139)
                      replace hx139_0 := (HB.out.cell (World.block_lt_of_cell? w _ hx139_0)).trans hx139_0
                      replace p139 := eq_true p139
                      replace q139 := eq_true q139
                      refine start_ (n := 36) (S := fun w' => w'.cell? ⟨gb127, 0, none⟩ = some (.slice A0_0 l0_0.length c0_0) ∧ w'.cell? ⟨gb127, 1, none⟩ = some (.slice A0_1 l0_1.length c0_1) ∧ w'.cell? ⟨gb127, 2, none⟩ = some (.slice (some ad138) l0_2.length c0_2) ∧ w'.cell? ⟨gb128, 0, none⟩ = some (.int .i64 a1) ∧ w'.cell? ⟨gb129, 0, none⟩ = some (.int .i64 a2) ∧ w'.cell? (ad138.add (a1).toNat) = some (.int .i64 (rd l0_2 a1)) ∧ w'.cell? (ad138.add (a2).toNat) = some (.int .i64 (rd l0_2 a2))) (ds := []) (bl 36 0) (by kernel_rfl) rfl rfl ⟨(blk_cell BK127.out 0).trans rfl, (blk_cell BK127.out 1).trans rfl, (blk_cell BK127.out 2).trans rfl, (blk_cell BK128.out 0).trans rfl, (blk_cell BK129.out 0).trans rfl, ((HB.out.cell (World.block_lt_of_cell? w _ hw138_0)).trans hw138_0), ((HB.out.cell (World.block_lt_of_cell? w _ hw139_0)).trans hw139_0)⟩ (fun hHeld => ?_); refine with_tabW impl_RemovePair.tab7 impl_RemovePair.bits7 (fun HT_ HW_ => ?_)
                      generalize (World.drewN wc md).drew = w67 at BK127 BK128 BK129 BK130 HB hx138_0 hx139_0 hHeld ⊢
                      refine pure_ (i := 0) (N := some 50) (v := ?_) (a' := ?_) (bl 36 1) rfl rfl (any_of HT_.out (by kernel_rfl)) (fun _ _ _ h => h) (Or.inl ⟨by rfl, ?_⟩) ?_ ?_; rotate_left; (focus intro w'; go_simp; with_reducible rfl); rotate_left; (focus simp only [Act.put, List.setIfInBounds_toArray, List.set_cons_zero, List.set_cons_succ, i64_w, i32_w]; rfl)
                      refine pure_ (i := 5) (N := some 55) (v := ?_) (a' := ?_) (bl 36 33) rfl rfl (any_of HT_.out (by kernel_rfl)) (fun _ _ _ h => h) (Or.inl ⟨by rfl, ?_⟩) ?_ ?_; rotate_left; (focus intro w'; go_simp; with_reducible rfl); rotate_left; (focus simp only [Act.put, List.setIfInBounds_toArray, List.set_cons_zero, List.set_cons_succ, i64_w, i32_w]; rfl)
                      refine take_ (i := 1) (N := some 51) (v := ?_) (a' := ?_) (bl 36 35) rfl rfl (take_ofW HT_.out HW_.out (by kernel_rfl)) (fun _ _ _ h => h) (Or.inl ⟨by rfl, ?_⟩) hHeld ?_ ?_; rotate_left; (focus rintro w' ⟨s0, s1, s2, s3, s4, s5, s6⟩; go_simp; with_reducible rfl); rotate_left; (focus simp only [Act.put, List.setIfInBounds_toArray, List.set_cons_zero, List.set_cons_succ, i64_w, i32_w]; rfl)
                      refine take_ (i := 2) (N := some 52) (v := ?_) (a' := ?_) (bl 36 39) rfl rfl (take_ofW HT_.out HW_.out (by kernel_rfl)) (fun _ _ _ h => h) (Or.inl ⟨by rfl, ?_⟩) hHeld ?_ ?_; rotate_left; (focus rintro w' ⟨s0, s1, s2, s3, s4, s5, s6⟩; go_simp; with_reducible rfl); rotate_left; (focus simp only [Act.put, List.setIfInBounds_toArray, List.set_cons_zero, List.set_cons_succ, i64_w, i32_w]; rfl)
                      refine pure_ (i := 3) (N := some 53) (v := ?_) (a' := ?_) (bl 36 47) rfl rfl (any_of HT_.out (by kernel_rfl)) (fun _ _ _ h => h) (Or.inl ⟨by rfl, ?_⟩) ?_ ?_; rotate_left; (focus intro w'; go_simp; with_reducible rfl); rotate_left; (focus simp only [Act.put, List.setIfInBounds_toArray, List.set_cons_zero, List.set_cons_succ, i64_w, i32_w]; rfl)
                      refine take_ (i := 4) (N := some 54) (v := ?_) (a' := ?_) (bl 36 63) rfl rfl (take_ofW HT_.out HW_.out (by kernel_rfl)) (fun _ _ _ h => h) (Or.inl ⟨by rfl, ?_⟩) hHeld ?_ ?_; rotate_left; (focus rintro w' ⟨s0, s1, s2, s3, s4, s5, s6⟩; go_simp; with_reducible rfl); rotate_left; (focus simp only [Act.put, List.setIfInBounds_toArray, List.set_cons_zero, List.set_cons_succ, i64_w, i32_w]; rfl)
                      refine take_ (i := 6) (N := some 56) (v := ?_) (a' := ?_) (bl 36 127) rfl rfl (take_ofW HT_.out HW_.out (by kernel_rfl)) (fun _ _ _ h => h) (Or.inl ⟨by rfl, ?_⟩) hHeld ?_ ?_; rotate_left; (focus rintro w' ⟨s0, s1, s2, s3, s4, s5, s6⟩; go_simp; with_reducible rfl); rotate_left; (focus simp only [Act.put, List.setIfInBounds_toArray, List.set_cons_zero, List.set_cons_succ, i64_w, i32_w]; rfl)
                      refine take_ (i := 7) (N := some 57) (v := ?_) (a' := ?_) (bl 36 255) rfl rfl (take_ofW HT_.out HW_.out (by kernel_rfl)) (fun _ _ _ h => h) (Or.inl ⟨by rfl, ?_⟩) hHeld ?_ ?_; rotate_left; (focus rintro w' ⟨s0, s1, s2, s3, s4, s5, s6⟩; go_simp; with_reducible rfl); rotate_left; (focus simp only [Act.put, List.setIfInBounds_toArray, List.set_cons_zero, List.set_cons_succ, i64_w, i32_w]; rfl)
                      refine pure_ (i := 8) (N := some 58) (v := ?_) (a' := ?_) (bl 36 511) rfl rfl (any_of HT_.out (by kernel_rfl)) (fun _ _ _ h => h) (Or.inl ⟨by rfl, ?_⟩) ?_ ?_; rotate_left; (focus intro w'; go_simp; with_reducible rfl); rotate_left; (focus simp only [Act.put, List.setIfInBounds_toArray, List.set_cons_zero, List.set_cons_succ, i64_w, i32_w]; rfl)
                      refine take_ (i := 9) (N := some 59) (v := ?_) (a' := ?_) (bl 36 1023) rfl rfl (take_ofW HT_.out HW_.out (by kernel_rfl)) (fun _ _ _ h => h) (Or.inl ⟨by rfl, ?_⟩) hHeld ?_ ?_; rotate_left; (focus rintro w' ⟨s0, s1, s2, s3, s4, s5, s6⟩; go_simp; with_reducible rfl); rotate_left; (focus simp only [Act.put, List.setIfInBounds_toArray, List.set_cons_zero, List.set_cons_succ, i64_w, i32_w]; rfl)
                      refine pure_ (i := 10) (N := some 60) (v := ?_) (a' := ?_) (bl 36 2047) rfl rfl (any_of HT_.out (by kernel_rfl)) (fun _ _ _ h => h) (Or.inl ⟨by rfl, ?_⟩) ?_ ?_; rotate_left; (focus intro w'; go_simp; with_reducible rfl); rotate_left; (focus simp only [Act.put, List.setIfInBounds_toArray, List.set_cons_zero, List.set_cons_succ, i64_w, i32_w]; rfl)
                      refine pure_ (i := 11) (N := some 61) (v := ?_) (a' := ?_) (bl 36 4095) rfl rfl (any_of HT_.out (by kernel_rfl)) (fun _ _ _ h => h) (Or.inl ⟨by rfl, ?_⟩) ?_ ?_; rotate_left; (focus intro w'; go_simp; with_reducible rfl); rotate_left; (focus simp only [Act.put, List.setIfInBounds_toArray, List.set_cons_zero, List.set_cons_succ, i64_w, i32_w]; rfl)
                      refine pure_ (i := 12) (N := some 62) (v := undef) (a' := ?_) (bl 36 8191) rfl rfl (any_of HT_.out (by kernel_rfl)) (fun _ _ _ h => h) (Or.inr ⟨by rfl, rfl⟩) ?_ ?_; rotate_left; (focus simp only [Act.put, List.setIfInBounds_toArray, List.set_cons_zero, List.set_cons_succ, i64_w, i32_w]; rfl)
                      refine pure_ (i := 13) (N := some 63) (v := undef) (a' := ?_) (bl 36 16383) rfl rfl (any_of HT_.out (by kernel_rfl)) (fun _ _ _ h => h) (Or.inr ⟨by rfl, rfl⟩) ?_ ?_; rotate_left; (focus simp only [Act.put, List.setIfInBounds_toArray, List.set_cons_zero, List.set_cons_succ, i64_w, i32_w]; rfl)
                      refine pure_ (i := 14) (N := some 64) (v := undef) (a' := ?_) (bl 36 32767) rfl rfl (any_of HT_.out (by kernel_rfl)) (fun _ _ _ h => h) (Or.inr ⟨by rfl, rfl⟩) ?_ ?_; rotate_left; (focus simp only [Act.put, List.setIfInBounds_toArray, List.set_cons_zero, List.set_cons_succ, i64_w, i32_w]; rfl)
                      refine pure_ (i := 15) (N := some 65) (v := undef) (a' := ?_) (bl 36 65535) rfl rfl (any_of HT_.out (by kernel_rfl)) (fun _ _ _ h => h) (Or.inr ⟨by rfl, rfl⟩) ?_ ?_; rotate_left; (focus simp only [Act.put, List.setIfInBounds_toArray, List.set_cons_zero, List.set_cons_succ, i64_w, i32_w]; rfl)
                      refine pure_ (i := 16) (N := some 66) (v := undef) (a' := ?_) (bl 36 131071) rfl rfl (any_of HT_.out (by kernel_rfl)) (fun _ _ _ h => h) (Or.inr ⟨by rfl, rfl⟩) ?_ ?_; rotate_left; (focus simp only [Act.put, List.setIfInBounds_toArray, List.set_cons_zero, List.set_cons_succ, i64_w, i32_w]; rfl)
                      refine pure_ (i := 17) (N := some 67) (v := undef) (a' := ?_) (bl 36 262143) rfl rfl (any_of HT_.out (by kernel_rfl)) (fun _ _ _ h => h) (Or.inr ⟨by rfl, rfl⟩) ?_ ?_; rotate_left; (focus simp only [Act.put, List.setIfInBounds_toArray, List.set_cons_zero, List.set_cons_succ, i64_w, i32_w]; rfl)
                      refine pure_ (i := 18) (N := some 68) (v := undef) (a' := ?_) (bl 36 524287) rfl rfl (any_of HT_.out (by kernel_rfl)) (fun _ _ _ h => h) (Or.inr ⟨by rfl, rfl⟩) ?_ ?_; rotate_left; (focus simp only [Act.put, List.setIfInBounds_toArray, List.set_cons_zero, List.set_cons_succ, i64_w, i32_w]; rfl)
                      refine pure_ (i := 19) (N := some 69) (v := undef) (a' := ?_) (bl 36 1048575) rfl rfl (any_of HT_.out (by kernel_rfl)) (fun _ _ _ h => h) (Or.inr ⟨by rfl, rfl⟩) ?_ ?_; rotate_left; (focus simp only [Act.put, List.setIfInBounds_toArray, List.set_cons_zero, List.set_cons_succ, i64_w, i32_w]; rfl)
                      refine pure_ (i := 20) (N := some 70) (v := undef) (a' := ?_) (bl 36 2097151) rfl rfl (any_of HT_.out (by kernel_rfl)) (fun _ _ _ h => h) (Or.inr ⟨by rfl, rfl⟩) ?_ ?_; rotate_left; (focus simp only [Act.put, List.setIfInBounds_toArray, List.set_cons_zero, List.set_cons_succ, i64_w, i32_w]; rfl)
                      refine pure_ (i := 21) (N := some 71) (v := undef) (a' := ?_) (bl 36 4194303) rfl rfl (any_of HT_.out (by kernel_rfl)) (fun _ _ _ h => h) (Or.inr ⟨by rfl, rfl⟩) ?_ ?_; rotate_left; (focus simp only [Act.put, List.setIfInBounds_toArray, List.set_cons_zero, List.set_cons_succ, i64_w, i32_w]; rfl)
                      refine pure_ (i := 22) (N := some 72) (v := undef) (a' := ?_) (bl 36 8388607) rfl rfl (any_of HT_.out (by kernel_rfl)) (fun _ _ _ h => h) (Or.inr ⟨by rfl, rfl⟩) ?_ ?_; rotate_left; (focus simp only [Act.put, List.setIfInBounds_toArray, List.set_cons_zero, List.set_cons_succ, i64_w, i32_w]; rfl)
                      refine pure_ (i := 23) (N := some 73) (v := ?_) (a' := ?_) (bl 36 16777215) rfl rfl (any_of HT_.out (by kernel_rfl)) (fun _ _ _ h => h) (Or.inl ⟨by rfl, ?_⟩) ?_ ?_; rotate_left; (focus intro w'; go_simp; with_reducible rfl); rotate_left; (focus simp only [Act.put, List.setIfInBounds_toArray, List.set_cons_zero, List.set_cons_succ, i64_w, i32_w]; rfl)
                      refine pure_ (i := 24) (N := some 74) (v := ?_) (a' := ?_) (bl 36 33554431) rfl rfl (any_of HT_.out (by kernel_rfl)) (fun _ _ _ h => h) (Or.inl ⟨by rfl, ?_⟩) ?_ ?_; rotate_left; (focus intro w'; go_simp; with_reducible rfl); rotate_left; (focus simp only [Act.put, List.setIfInBounds_toArray, List.set_cons_zero, List.set_cons_succ, i64_w, i32_w]; rfl)
                      refine pure_ (i := 25) (N := some 75) (v := undef) (a' := ?_) (bl 36 67108863) rfl rfl (any_of HT_.out (by kernel_rfl)) (fun _ _ _ h => h) (Or.inr ⟨by rfl, rfl⟩) ?_ ?_; rotate_left; (focus simp only [Act.put, List.setIfInBounds_toArray, List.set_cons_zero, List.set_cons_succ, i64_w, i32_w]; rfl)
                      refine pure_ (i := 26) (N := some 76) (v := undef) (a' := ?_) (bl 36 134217727) rfl rfl (any_of HT_.out (by kernel_rfl)) (fun _ _ _ h => h) (Or.inr ⟨by rfl, rfl⟩) ?_ ?_; rotate_left; (focus simp only [Act.put, List.setIfInBounds_toArray, List.set_cons_zero, List.set_cons_succ, i64_w, i32_w]; rfl)
                      refine pure_ (i := 27) (N := some 77) (v := undef) (a' := ?_) (bl 36 268435455) rfl rfl (any_of HT_.out (by kernel_rfl)) (fun _ _ _ h => h) (Or.inr ⟨by rfl, rfl⟩) ?_ ?_; rotate_left; (focus simp only [Act.put, List.setIfInBounds_toArray, List.set_cons_zero, List.set_cons_succ, i64_w, i32_w]; rfl)
                      refine pure_ (i := 28) (N := some 78) (v := undef) (a' := ?_) (bl 36 536870911) rfl rfl (any_of HT_.out (by kernel_rfl)) (fun _ _ _ h => h) (Or.inr ⟨by rfl, rfl⟩) ?_ ?_; rotate_left; (focus simp only [Act.put, List.setIfInBounds_toArray, List.set_cons_zero, List.set_cons_succ, i64_w, i32_w]; rfl)
                      refine pure_ (i := 29) (N := some 79) (v := ?_) (a' := ?_) (bl 36 1073741823) rfl rfl (any_of HT_.out (by kernel_rfl)) (fun _ _ _ h => h) (Or.inl ⟨by rfl, ?_⟩) ?_ ?_; rotate_left; (focus intro w'; go_simp; with_reducible rfl); rotate_left; (focus simp only [Act.put, List.setIfInBounds_toArray, List.set_cons_zero, List.set_cons_succ, i64_w, i32_w]; rfl)
                      refine pure_ (i := 30) (N := some 80) (v := ?_) (a' := ?_) (bl 36 2147483647) rfl rfl (any_of HT_.out (by kernel_rfl)) (fun _ _ _ h => h) (Or.inl ⟨by rfl, ?_⟩) ?_ ?_; rotate_left; (focus intro w'; go_simp; with_reducible rfl); rotate_left; (focus simp only [Act.put, List.setIfInBounds_toArray, List.set_cons_zero, List.set_cons_succ, i64_w, i32_w]; rfl)
                      refine pure_ (i := 31) (N := some 81) (v := undef) (a' := ?_) (bl 36 4294967295) rfl rfl (any_of HT_.out (by kernel_rfl)) (fun _ _ _ h => h) (Or.inr ⟨by rfl, rfl⟩) ?_ ?_; rotate_left; (focus simp only [Act.put, List.setIfInBounds_toArray, List.set_cons_zero, List.set_cons_succ, i64_w, i32_w]; rfl)
                      refine pure_ (i := 32) (N := some 82) (v := undef) (a' := ?_) (bl 36 8589934591) rfl rfl (any_of HT_.out (by kernel_rfl)) (fun _ _ _ h => h) (Or.inr ⟨by rfl, rfl⟩) ?_ ?_; rotate_left; (focus simp only [Act.put, List.setIfInBounds_toArray, List.set_cons_zero, List.set_cons_succ, i64_w, i32_w]; rfl)
                      refine pure_ (i := 33) (N := some 83) (v := undef) (a' := ?_) (bl 36 17179869183) rfl rfl (any_of HT_.out (by kernel_rfl)) (fun _ _ _ h => h) (Or.inr ⟨by rfl, rfl⟩) ?_ ?_; rotate_left; (focus simp only [Act.put, List.setIfInBounds_toArray, List.set_cons_zero, List.set_cons_succ, i64_w, i32_w]; rfl)
                      refine pure_ (i := 34) (N := some 84) (v := undef) (a' := ?_) (bl 36 34359738367) rfl rfl (any_of HT_.out (by kernel_rfl)) (fun _ _ _ h => h) (Or.inr ⟨by rfl, rfl⟩) ?_ ?_; rotate_left; (focus simp only [Act.put, List.setIfInBounds_toArray, List.set_cons_zero, List.set_cons_succ, i64_w, i32_w]; rfl)
                      refine pure_ (i := 35) (N := some 85) (v := ?_) (a' := ?_) (bl 36 68719476735) rfl rfl (any_of HT_.out (by kernel_rfl)) (fun _ _ _ h => h) (Or.inl ⟨by rfl, ?_⟩) ?_ ?_; rotate_left; (focus intro w'; go_simp; with_reducible rfl); rotate_left; (focus simp only [Act.put, List.setIfInBounds_toArray, List.set_cons_zero, List.set_cons_succ, i64_w, i32_w]; rfl)
                      refine done_ (done_of HT_.out (by kernel_rfl)) ?_
                      try go_wp2
                      go_meet
                      case rel => exact ⟨_, (true), (by first | rfl | (simp; done) | (simp [*]; done)), H', ⟨by have := HJ5.out; first | omega | exact Nat.le_refl _⟩, ⟨by exact BK127.out⟩, ⟨by exact BK128.out⟩, ⟨by exact BK129.out⟩, ⟨by exact BK130.out⟩, ⟨by repeat (first | exact HB.out | apply below_alloc | apply pw_below_drewN | apply below_drew1 | refine below_set ?_ GE127.out | refine below_set ?_ GE128.out | refine below_set ?_ GE129.out | refine below_set ?_ GE130.out)⟩⟩
                    · rw [if_neg c66] at H
                      have c66b0 : ((rd l0_2 a1) == (rd l0_2 a2)) = false := beq_eq_false_iff_ne.mpr c66
                      have c66b1 : ((rd l0_2 a1) != (rd l0_2 a2)) = true := bne_iff_ne.mpr c66
                      by_cases c68 : a1 < (l0_1.length : Int)
                      · rw [if_pos c68] at H
                        have c68b0 : decide (a1 < (l0_1.length : Int)) = true := decide_eq_true c68
                        clear c68
                        by_cases c69 : a2 < (l0_1.length : Int)
                        · rw [if_pos c69] at H
                          have c69b0 : decide (a2 < (l0_1.length : Int)) = true := decide_eq_true c69
                          clear c69
                          by_cases c70 : (rd l0_1 a1) = (rd l0_1 a2)
                          · rw [if_pos c70] at H
                            have c70b0 : ((rd l0_1 a1) == (rd l0_1 a2)) = true := beq_iff_eq.mpr c70
                            have c70b1 : ((rd l0_1 a1) != (rd l0_1 a2)) = false := bne_eq_false_iff_eq.mpr c70
                            clear c70
                            replace H := Option.bind_eq_some_iff.mp H
                            obtain ⟨t142, A710, H⟩ := H
                            replace H : (if t142 = true then ((impl_beside.f t135 t137).bind fun t143 => (impl_RemovePair.j1 kj5 (!t143) l0_0 l0_1 l0_2 a1 a2)) else (impl_RemovePair.j1 kj5 true l0_0 l0_1 l0_2 a1 a2)) = some (r1, r2, r3, r4) := H
                            have A71 := Aside0.mk A710
                            clear A710
                            by_cases c72 : t142 = true
                            · subst c72
                              have H1 : ((impl_beside.f t135 t137).bind fun t143 => (impl_RemovePair.j1 kj5 (!t143) l0_0 l0_1 l0_2 a1 a2)) = some (r1, r2, r3, r4) := by rw [if_pos rfl] at H; exact H
                              clear H
                              have H := H1
                              clear H1
                              replace H := Option.bind_eq_some_iff.mp H
                              obtain ⟨t143, A730, H⟩ := H
                              replace H : (impl_RemovePair.j1 kj5 (!t143) l0_0 l0_1 l0_2 a1 a2) = some (r1, r2, r3, r4) := H
                              have A73 := Aside0.mk A730
                              clear A730
                              have H' := Aside0.mk H
                              clear H
                              try go_wp2
                              refine wp_dn fun md => ?_
                              have n0_ := mk0 (blk_drew (blk_drewN BK127.out md))
                              have n1_ := mk0 (blk_drew (blk_drewN BK128.out md))
                              have n2_ := mk0 (blk_drew (blk_drewN BK129.out md))
                              have n3_ := mk0 (blk_drew (blk_drewN BK130.out md))
                              have n4_ := mk0 (below_drew1 (pw_below_drewN HB.out md))
                              clear BK127
                              clear BK128
                              clear BK129
                              clear BK130
                              clear HB
                              have BK127 := n0_
                              have BK128 := n1_
                              have BK129 := n2_
                              have BK130 := n3_
                              have HB := n4_
                              clear n0_ n1_ n2_ n3_ n4_
                              have p138 : 0 ≤ (a1 : Int) := of_decide_eq_true (by first | (with_reducible assumption) | assumption)
                              have q138 : a1 < (l0_2.length : Int) := of_decide_eq_true (by first | (with_reducible assumption) | assumption)
                              obtain ⟨ad138, e138, hx138_0⟩ := Kd.at_int HR0_2.out a1 p138 q138
                              have hw138_0 := hx138_0
                              cases e138
                              replace hx138_0 := (HB.out.cell (World.block_lt_of_cell? w _ hx138_0)).trans hx138_0
                              replace p138 := eq_true p138
                              replace q138 := eq_true q138
                              have p139 : 0 ≤ (a2 : Int) := of_decide_eq_true (by first | (with_reducible assumption) | assumption)
                              have q139 : a2 < (l0_2.length : Int) := of_decide_eq_true (by first | (with_reducible assumption) | assumption)
                              obtain ⟨ad139, e139, hx139_0⟩ := Kd.at_int HR0_2.out a2 p139 q139
                              have hw139_0 := hx139_0
                              obtain rfl : ad138 = ad139 := (by injection e139)
                              replace hx139_0 := (HB.out.cell (World.block_lt_of_cell? w _ hx139_0)).trans hx139_0
                              replace p139 := eq_true p139
                              replace q139 := eq_true q139
                              have p140 : 0 ≤ (a1 : Int) := of_decide_eq_true (by first | (with_reducible assumption) | assumption)
                              have q140 : a1 < (l0_1.length : Int) := of_decide_eq_true (by first | (with_reducible assumption) | assumption)
                              obtain ⟨ad140, e140, hx140_0⟩ := Kd.at_int HR0_1.out a1 p140 q140
                              have hw140_0 := hx140_0
                              cases e140
                              replace hx140_0 := (HB.out.cell (World.block_lt_of_cell? w _ hx140_0)).trans hx140_0
                              replace p140 := eq_true p140
                              replace q140 := eq_true q140
                              have p141 : 0 ≤ (a2 : Int) := of_decide_eq_true (by first | (with_reducible assumption) | assumption)
                              have q141 : a2 < (l0_1.length : Int) := of_decide_eq_true (by first | (with_reducible assumption) | assumption)
                              obtain ⟨ad141, e141, hx141_0⟩ := Kd.at_int HR0_1.out a2 p141 q141
                              have hw141_0 := hx141_0
                              obtain rfl : ad140 = ad141 := (by injection e141)
                              replace hx141_0 := (HB.out.cell (World.block_lt_of_cell? w _ hx141_0)).trans hx141_0
                              replace p141 := eq_true p141
                              replace q141 := eq_true q141
                              refine start_ (n := 36) (S := fun w' => w'.cell? ⟨gb127, 0, none⟩ = some (.slice A0_0 l0_0.length c0_0) ∧ w'.cell? ⟨gb127, 1, none⟩ = some (.slice (some ad140) l0_1.length c0_1) ∧ w'.cell? ⟨gb127, 2, none⟩ = some (.slice (some ad138) l0_2.length c0_2) ∧ w'.cell? ⟨gb128, 0, none⟩ = some (.int .i64 a1) ∧ w'.cell? ⟨gb129, 0, none⟩ = some (.int .i64 a2) ∧ w'.cell? (ad138.add (a1).toNat) = some (.int .i64 (rd l0_2 a1)) ∧ w'.cell? (ad138.add (a2).toNat) = some (.int .i64 (rd l0_2 a2)) ∧ w'.cell? (ad140.add (a1).toNat) = some (.int .i64 (rd l0_1 a1)) ∧ w'.cell? (ad140.add (a2).toNat) = some (.int .i64 (rd l0_1 a2))) (ds := []) (bl 36 0) (by kernel_rfl) rfl rfl ⟨(blk_cell BK127.out 0).trans rfl, (blk_cell BK127.out 1).trans rfl, (blk_cell BK127.out 2).trans rfl, (blk_cell BK128.out 0).trans rfl, (blk_cell BK129.out 0).trans rfl, ((HB.out.cell (World.block_lt_of_cell? w _ hw138_0)).trans hw138_0), ((HB.out.cell (World.block_lt_of_cell? w _ hw139_0)).trans hw139_0), ((HB.out.cell (World.block_lt_of_cell? w _ hw140_0)).trans hw140_0), ((HB.out.cell (World.block_lt_of_cell? w _ hw141_0)).trans hw141_0)⟩ (fun hHeld => ?_); refine with_tabW impl_RemovePair.tab7 impl_RemovePair.bits7 (fun HT_ HW_ => ?_)
                              generalize (World.drewN wc md).drew = w74 at BK127 BK128 BK129 BK130 HB hx138_0 hx139_0 hx140_0 hx141_0 hHeld ⊢
                              refine pure_ (i := 0) (N := some 50) (v := ?_) (a' := ?_) (bl 36 1) rfl rfl (any_of HT_.out (by kernel_rfl)) (fun _ _ _ h => h) (Or.inl ⟨by rfl, ?_⟩) ?_ ?_; rotate_left; (focus intro w'; go_simp; with_reducible rfl); rotate_left; (focus simp only [Act.put, List.setIfInBounds_toArray, List.set_cons_zero, List.set_cons_succ, i64_w, i32_w]; rfl)
                              refine pure_ (i := 5) (N := some 55) (v := ?_) (a' := ?_) (bl 36 33) rfl rfl (any_of HT_.out (by kernel_rfl)) (fun _ _ _ h => h) (Or.inl ⟨by rfl, ?_⟩) ?_ ?_; rotate_left; (focus intro w'; go_simp; with_reducible rfl); rotate_left; (focus simp only [Act.put, List.setIfInBounds_toArray, List.set_cons_zero, List.set_cons_succ, i64_w, i32_w]; rfl)
                              refine take_ (i := 1) (N := some 51) (v := ?_) (a' := ?_) (bl 36 35) rfl rfl (take_ofW HT_.out HW_.out (by kernel_rfl)) (fun _ _ _ h => h) (Or.inl ⟨by rfl, ?_⟩) hHeld ?_ ?_; rotate_left; (focus rintro w' ⟨s0, s1, s2, s3, s4, s5, s6, s7, s8⟩; go_simp; with_reducible rfl); rotate_left; (focus simp only [Act.put, List.setIfInBounds_toArray, List.set_cons_zero, List.set_cons_succ, i64_w, i32_w]; rfl)
                              refine take_ (i := 2) (N := some 52) (v := ?_) (a' := ?_) (bl 36 39) rfl rfl (take_ofW HT_.out HW_.out (by kernel_rfl)) (fun _ _ _ h => h) (Or.inl ⟨by rfl, ?_⟩) hHeld ?_ ?_; rotate_left; (focus rintro w' ⟨s0, s1, s2, s3, s4, s5, s6, s7, s8⟩; go_simp; with_reducible rfl); rotate_left; (focus simp only [Act.put, List.setIfInBounds_toArray, List.set_cons_zero, List.set_cons_succ, i64_w, i32_w]; rfl)
                              refine pure_ (i := 3) (N := some 53) (v := ?_) (a' := ?_) (bl 36 47) rfl rfl (any_of HT_.out (by kernel_rfl)) (fun _ _ _ h => h) (Or.inl ⟨by rfl, ?_⟩) ?_ ?_; rotate_left; (focus intro w'; go_simp; with_reducible rfl); rotate_left; (focus simp only [Act.put, List.setIfInBounds_toArray, List.set_cons_zero, List.set_cons_succ, i64_w, i32_w]; rfl)
                              refine take_ (i := 4) (N := some 54) (v := ?_) (a' := ?_) (bl 36 63) rfl rfl (take_ofW HT_.out HW_.out (by kernel_rfl)) (fun _ _ _ h => h) (Or.inl ⟨by rfl, ?_⟩) hHeld ?_ ?_; rotate_left; (focus rintro w' ⟨s0, s1, s2, s3, s4, s5, s6, s7, s8⟩; go_simp; with_reducible rfl); rotate_left; (focus simp only [Act.put, List.setIfInBounds_toArray, List.set_cons_zero, List.set_cons_succ, i64_w, i32_w]; rfl)
                              refine take_ (i := 6) (N := some 56) (v := ?_) (a' := ?_) (bl 36 127) rfl rfl (take_ofW HT_.out HW_.out (by kernel_rfl)) (fun _ _ _ h => h) (Or.inl ⟨by rfl, ?_⟩) hHeld ?_ ?_; rotate_left; (focus rintro w' ⟨s0, s1, s2, s3, s4, s5, s6, s7, s8⟩; go_simp; with_reducible rfl); rotate_left; (focus simp only [Act.put, List.setIfInBounds_toArray, List.set_cons_zero, List.set_cons_succ, i64_w, i32_w]; rfl)
                              refine take_ (i := 7) (N := some 57) (v := ?_) (a' := ?_) (bl 36 255) rfl rfl (take_ofW HT_.out HW_.out (by kernel_rfl)) (fun _ _ _ h => h) (Or.inl ⟨by rfl, ?_⟩) hHeld ?_ ?_; rotate_left; (focus rintro w' ⟨s0, s1, s2, s3, s4, s5, s6, s7, s8⟩; go_simp; with_reducible rfl); rotate_left; (focus simp only [Act.put, List.setIfInBounds_toArray, List.set_cons_zero, List.set_cons_succ, i64_w, i32_w]; rfl)
                              refine pure_ (i := 8) (N := some 58) (v := ?_) (a' := ?_) (bl 36 511) rfl rfl (any_of HT_.out (by kernel_rfl)) (fun _ _ _ h => h) (Or.inl ⟨by rfl, ?_⟩) ?_ ?_; rotate_left; (focus intro w'; go_simp; with_reducible rfl); rotate_left; (focus simp only [Act.put, List.setIfInBounds_toArray, List.set_cons_zero, List.set_cons_succ, i64_w, i32_w]; rfl)
                              refine take_ (i := 9) (N := some 59) (v := ?_) (a' := ?_) (bl 36 1023) rfl rfl (take_ofW HT_.out HW_.out (by kernel_rfl)) (fun _ _ _ h => h) (Or.inl ⟨by rfl, ?_⟩) hHeld ?_ ?_; rotate_left; (focus rintro w' ⟨s0, s1, s2, s3, s4, s5, s6, s7, s8⟩; go_simp; with_reducible rfl); rotate_left; (focus simp only [Act.put, List.setIfInBounds_toArray, List.set_cons_zero, List.set_cons_succ, i64_w, i32_w]; rfl)
                              refine pure_ (i := 10) (N := some 60) (v := ?_) (a' := ?_) (bl 36 2047) rfl rfl (any_of HT_.out (by kernel_rfl)) (fun _ _ _ h => h) (Or.inl ⟨by rfl, ?_⟩) ?_ ?_; rotate_left; (focus intro w'; go_simp; with_reducible rfl); rotate_left; (focus simp only [Act.put, List.setIfInBounds_toArray, List.set_cons_zero, List.set_cons_succ, i64_w, i32_w]; rfl)
                              refine pure_ (i := 11) (N := some 61) (v := ?_) (a' := ?_) (bl 36 4095) rfl rfl (any_of HT_.out (by kernel_rfl)) (fun _ _ _ h => h) (Or.inl ⟨by rfl, ?_⟩) ?_ ?_; rotate_left; (focus intro w'; go_simp; with_reducible rfl); rotate_left; (focus simp only [Act.put, List.setIfInBounds_toArray, List.set_cons_zero, List.set_cons_succ, i64_w, i32_w]; rfl)
                              refine pure_ (i := 12) (N := some 62) (v := ?_) (a' := ?_) (bl 36 8191) rfl rfl (any_of HT_.out (by kernel_rfl)) (fun _ _ _ h => h) (Or.inl ⟨by rfl, ?_⟩) ?_ ?_; rotate_left; (focus intro w'; go_simp; with_reducible rfl); rotate_left; (focus simp only [Act.put, List.setIfInBounds_toArray, List.set_cons_zero, List.set_cons_succ, i64_w, i32_w]; rfl)
                              refine pure_ (i := 17) (N := some 67) (v := ?_) (a' := ?_) (bl 36 139263) rfl rfl (any_of HT_.out (by kernel_rfl)) (fun _ _ _ h => h) (Or.inl ⟨by rfl, ?_⟩) ?_ ?_; rotate_left; (focus intro w'; go_simp; with_reducible rfl); rotate_left; (focus simp only [Act.put, List.setIfInBounds_toArray, List.set_cons_zero, List.set_cons_succ, i64_w, i32_w]; rfl)
                              refine take_ (i := 13) (N := some 63) (v := ?_) (a' := ?_) (bl 36 147455) rfl rfl (take_ofW HT_.out HW_.out (by kernel_rfl)) (fun _ _ _ h => h) (Or.inl ⟨by rfl, ?_⟩) hHeld ?_ ?_; rotate_left; (focus rintro w' ⟨s0, s1, s2, s3, s4, s5, s6, s7, s8⟩; go_simp; with_reducible rfl); rotate_left; (focus simp only [Act.put, List.setIfInBounds_toArray, List.set_cons_zero, List.set_cons_succ, i64_w, i32_w]; rfl)
                              refine take_ (i := 14) (N := some 64) (v := ?_) (a' := ?_) (bl 36 163839) rfl rfl (take_ofW HT_.out HW_.out (by kernel_rfl)) (fun _ _ _ h => h) (Or.inl ⟨by rfl, ?_⟩) hHeld ?_ ?_; rotate_left; (focus rintro w' ⟨s0, s1, s2, s3, s4, s5, s6, s7, s8⟩; go_simp; with_reducible rfl); rotate_left; (focus simp only [Act.put, List.setIfInBounds_toArray, List.set_cons_zero, List.set_cons_succ, i64_w, i32_w]; rfl)
                              refine pure_ (i := 15) (N := some 65) (v := ?_) (a' := ?_) (bl 36 196607) rfl rfl (any_of HT_.out (by kernel_rfl)) (fun _ _ _ h => h) (Or.inl ⟨by rfl, ?_⟩) ?_ ?_; rotate_left; (focus intro w'; go_simp; with_reducible rfl); rotate_left; (focus simp only [Act.put, List.setIfInBounds_toArray, List.set_cons_zero, List.set_cons_succ, i64_w, i32_w]; rfl)
                              refine take_ (i := 16) (N := some 66) (v := ?_) (a' := ?_) (bl 36 262143) rfl rfl (take_ofW HT_.out HW_.out (by kernel_rfl)) (fun _ _ _ h => h) (Or.inl ⟨by rfl, ?_⟩) hHeld ?_ ?_; rotate_left; (focus rintro w' ⟨s0, s1, s2, s3, s4, s5, s6, s7, s8⟩; go_simp; with_reducible rfl); rotate_left; (focus simp only [Act.put, List.setIfInBounds_toArray, List.set_cons_zero, List.set_cons_succ, i64_w, i32_w]; rfl)
                              refine take_ (i := 18) (N := some 68) (v := ?_) (a' := ?_) (bl 36 524287) rfl rfl (take_ofW HT_.out HW_.out (by kernel_rfl)) (fun _ _ _ h => h) (Or.inl ⟨by rfl, ?_⟩) hHeld ?_ ?_; rotate_left; (focus rintro w' ⟨s0, s1, s2, s3, s4, s5, s6, s7, s8⟩; go_simp; with_reducible rfl); rotate_left; (focus simp only [Act.put, List.setIfInBounds_toArray, List.set_cons_zero, List.set_cons_succ, i64_w, i32_w]; rfl)
                              refine take_ (i := 19) (N := some 69) (v := ?_) (a' := ?_) (bl 36 1048575) rfl rfl (take_ofW HT_.out HW_.out (by kernel_rfl)) (fun _ _ _ h => h) (Or.inl ⟨by rfl, ?_⟩) hHeld ?_ ?_; rotate_left; (focus rintro w' ⟨s0, s1, s2, s3, s4, s5, s6, s7, s8⟩; go_simp; with_reducible rfl); rotate_left; (focus simp only [Act.put, List.setIfInBounds_toArray, List.set_cons_zero, List.set_cons_succ, i64_w, i32_w]; rfl)
                              refine pure_ (i := 20) (N := some 70) (v := ?_) (a' := ?_) (bl 36 2097151) rfl rfl (any_of HT_.out (by kernel_rfl)) (fun _ _ _ h => h) (Or.inl ⟨by rfl, ?_⟩) ?_ ?_; rotate_left; (focus intro w'; go_simp; with_reducible rfl); rotate_left; (focus simp only [Act.put, List.setIfInBounds_toArray, List.set_cons_zero, List.set_cons_succ, i64_w, i32_w]; rfl)
                              refine take_ (i := 21) (N := some 71) (v := ?_) (a' := ?_) (bl 36 4194303) rfl rfl (take_ofW HT_.out HW_.out (by kernel_rfl)) (fun _ _ _ h => h) (Or.inl ⟨by rfl, ?_⟩) hHeld ?_ ?_; rotate_left; (focus rintro w' ⟨s0, s1, s2, s3, s4, s5, s6, s7, s8⟩; go_simp; with_reducible rfl); rotate_left; (focus simp only [Act.put, List.setIfInBounds_toArray, List.set_cons_zero, List.set_cons_succ, i64_w, i32_w]; rfl)
                              refine pure_ (i := 22) (N := some 72) (v := ?_) (a' := ?_) (bl 36 8388607) rfl rfl (any_of HT_.out (by kernel_rfl)) (fun _ _ _ h => h) (Or.inl ⟨by rfl, ?_⟩) ?_ ?_; rotate_left; (focus intro w'; go_simp; with_reducible rfl); rotate_left; (focus simp only [Act.put, List.setIfInBounds_toArray, List.set_cons_zero, List.set_cons_succ, i64_w, i32_w]; rfl)
                              refine pure_ (i := 23) (N := some 73) (v := ?_) (a' := ?_) (bl 36 16777215) rfl rfl (any_of HT_.out (by kernel_rfl)) (fun _ _ _ h => h) (Or.inl ⟨by rfl, ?_⟩) ?_ ?_; rotate_left; (focus intro w'; go_simp; with_reducible rfl); rotate_left; (focus simp only [Act.put, List.setIfInBounds_toArray, List.set_cons_zero, List.set_cons_succ, i64_w, i32_w]; rfl)
                              refine pure_ (i := 24) (N := some 74) (v := ?_) (a' := ?_) (bl 36 33554431) rfl rfl (any_of HT_.out (by kernel_rfl)) (fun _ _ _ h => h) (Or.inl ⟨by rfl, ?_⟩) ?_ ?_; rotate_left; (focus intro w'; go_simp; with_reducible rfl); rotate_left; (focus simp only [Act.put, List.setIfInBounds_toArray, List.set_cons_zero, List.set_cons_succ, i64_w, i32_w]; rfl)
                              refine pure_ (i := 25) (N := some 75) (v := ?_) (a' := ?_) (bl 36 67108863) rfl rfl (any_of HT_.out (by kernel_rfl)) (fun _ _ _ h => h) (Or.inl ⟨by rfl, ?_⟩) ?_ ?_; rotate_left; (focus intro w'; go_simp; with_reducible rfl); rotate_left; (focus simp only [Act.put, List.setIfInBounds_toArray, List.set_cons_zero, List.set_cons_succ, i64_w, i32_w]; rfl)
                              refine pure_ (i := 26) (N := some 76) (v := ?_) (a' := ?_) (bl 36 134217727) rfl rfl (any_of HT_.out (by kernel_rfl)) (fun _ _ _ h => h) (Or.inl ⟨by rfl, ?_⟩) ?_ ?_; rotate_left; (focus intro w'; go_simp; with_reducible rfl); rotate_left; (focus simp only [Act.put, List.setIfInBounds_toArray, List.set_cons_zero, List.set_cons_succ, i64_w, i32_w]; rfl)
                              refine one_ (i := 27) (N := some 77) (bl 36 268435455) rfl rfl (one_of HT_.out (by kernel_rfl)) (by decide) (fun K hK => ?_)
                              refine goes_ Try.func73 (by kernel_rfl) rfl #[.int .i64 t134, .int .i64 t136] (by rfl) rfl rfl (by (try simp only [List.map_toArray, List.map_cons, List.map_nil]); rfl) ?_
                              with_reducible refine (impl_beside.calls t134 t136 true _ A71.out).mono ?_
                              rintro e w' ⟨rfl, ⟨nd, rfl⟩⟩
                              refine ⟨_, rfl, ?_⟩
                              refine hK.out _ _ ⟨(blk_cell BK127.out 0).trans rfl, (blk_cell BK127.out 1).trans rfl, (blk_cell BK127.out 2).trans rfl, (blk_cell BK128.out 0).trans rfl, (blk_cell BK129.out 0).trans rfl, ((HB.out.cell (World.block_lt_of_cell? w _ hw138_0)).trans hw138_0), ((HB.out.cell (World.block_lt_of_cell? w _ hw139_0)).trans hw139_0), ((HB.out.cell (World.block_lt_of_cell? w _ hw140_0)).trans hw140_0), ((HB.out.cell (World.block_lt_of_cell? w _ hw141_0)).trans hw141_0)⟩ (fun hHeld => ?_)
                              clear hK K
                              refine norm_ (a' := ?_) ?_ ?_
                              rotate_left
                              · show Act.put _ (some 77) _ = _
                                simp only [Act.put, List.setIfInBounds_toArray, List.set_cons_zero, List.set_cons_succ, i64_w, i32_w]
                                rfl
                              refine pure_ (i := 28) (N := some 78) (v := ?_) (a' := ?_) (bl 36 536870911) rfl rfl (any_of HT_.out (by kernel_rfl)) (fun _ _ _ h => h) (Or.inl ⟨by rfl, ?_⟩) ?_ ?_; rotate_left; (focus intro w'; go_simp; with_reducible rfl); rotate_left; (focus simp only [Act.put, List.setIfInBounds_toArray, List.set_cons_zero, List.set_cons_succ, i64_w, i32_w]; rfl)
                              refine pure_ (i := 29) (N := some 79) (v := ?_) (a' := ?_) (bl 36 1073741823) rfl rfl (any_of HT_.out (by kernel_rfl)) (fun _ _ _ h => h) (Or.inl ⟨by rfl, ?_⟩) ?_ ?_; rotate_left; (focus intro w'; go_simp; with_reducible rfl); rotate_left; (focus simp only [Act.put, List.setIfInBounds_toArray, List.set_cons_zero, List.set_cons_succ, i64_w, i32_w]; rfl)
                              refine pure_ (i := 30) (N := some 80) (v := ?_) (a' := ?_) (bl 36 2147483647) rfl rfl (any_of HT_.out (by kernel_rfl)) (fun _ _ _ h => h) (Or.inl ⟨by rfl, ?_⟩) ?_ ?_; rotate_left; (focus intro w'; go_simp; with_reducible rfl); rotate_left; (focus simp only [Act.put, List.setIfInBounds_toArray, List.set_cons_zero, List.set_cons_succ, i64_w, i32_w]; rfl)
                              refine pure_ (i := 31) (N := some 81) (v := ?_) (a' := ?_) (bl 36 4294967295) rfl rfl (any_of HT_.out (by kernel_rfl)) (fun _ _ _ h => h) (Or.inl ⟨by rfl, ?_⟩) ?_ ?_; rotate_left; (focus intro w'; go_simp; with_reducible rfl); rotate_left; (focus simp only [Act.put, List.setIfInBounds_toArray, List.set_cons_zero, List.set_cons_succ, i64_w, i32_w]; rfl)
                              refine pure_ (i := 32) (N := some 82) (v := ?_) (a' := ?_) (bl 36 8589934591) rfl rfl (any_of HT_.out (by kernel_rfl)) (fun _ _ _ h => h) (Or.inl ⟨by rfl, ?_⟩) ?_ ?_; rotate_left; (focus intro w'; go_simp; with_reducible rfl); rotate_left; (focus simp only [Act.put, List.setIfInBounds_toArray, List.set_cons_zero, List.set_cons_succ, i64_w, i32_w]; rfl)
                              refine one_ (i := 33) (N := some 83) (bl 36 17179869183) rfl rfl (one_of HT_.out (by kernel_rfl)) (by decide) (fun K hK => ?_)
                              refine goes_ Try.func73 (by kernel_rfl) rfl #[.int .i64 t135, .int .i64 t137] (by rfl) rfl rfl (by (try simp only [List.map_toArray, List.map_cons, List.map_nil]); rfl) ?_
                              with_reducible refine (impl_beside.calls t135 t137 t143 _ A73.out).mono ?_
                              rintro e w' ⟨rfl, ⟨nd, rfl⟩⟩
                              refine ⟨_, rfl, ?_⟩
                              refine hK.out _ _ ⟨(blk_cell BK127.out 0).trans rfl, (blk_cell BK127.out 1).trans rfl, (blk_cell BK127.out 2).trans rfl, (blk_cell BK128.out 0).trans rfl, (blk_cell BK129.out 0).trans rfl, ((HB.out.cell (World.block_lt_of_cell? w _ hw138_0)).trans hw138_0), ((HB.out.cell (World.block_lt_of_cell? w _ hw139_0)).trans hw139_0), ((HB.out.cell (World.block_lt_of_cell? w _ hw140_0)).trans hw140_0), ((HB.out.cell (World.block_lt_of_cell? w _ hw141_0)).trans hw141_0)⟩ (fun hHeld => ?_)
                              clear hK K
                              refine norm_ (a' := ?_) ?_ ?_
                              rotate_left
                              · show Act.put _ (some 83) _ = _
                                simp only [Act.put, List.setIfInBounds_toArray, List.set_cons_zero, List.set_cons_succ, i64_w, i32_w]
                                rfl
                              refine pure_ (i := 34) (N := some 84) (v := ?_) (a' := ?_) (bl 36 34359738367) rfl rfl (any_of HT_.out (by kernel_rfl)) (fun _ _ _ h => h) (Or.inl ⟨by rfl, ?_⟩) ?_ ?_; rotate_left; (focus intro w'; go_simp; with_reducible rfl); rotate_left; (focus simp only [Act.put, List.setIfInBounds_toArray, List.set_cons_zero, List.set_cons_succ, i64_w, i32_w]; rfl)
                              refine pure_ (i := 35) (N := some 85) (v := ?_) (a' := ?_) (bl 36 68719476735) rfl rfl (any_of HT_.out (by kernel_rfl)) (fun _ _ _ h => h) (Or.inl ⟨by rfl, ?_⟩) ?_ ?_; rotate_left; (focus intro w'; go_simp; with_reducible rfl); rotate_left; (focus simp only [Act.put, List.setIfInBounds_toArray, List.set_cons_zero, List.set_cons_succ, i64_w, i32_w]; rfl)
                              refine done_ (done_of HT_.out (by kernel_rfl)) ?_
                              try go_wp2
                              go_meet
                              case rel => exact ⟨_, (!t143), (by first | rfl | (simp; done) | (simp [*]; done)), H', ⟨by have := HJ5.out; first | omega | exact Nat.le_refl _⟩, ⟨by exact BK127.out⟩, ⟨by exact BK128.out⟩, ⟨by exact BK129.out⟩, ⟨by exact BK130.out⟩, ⟨by repeat (first | exact HB.out | apply below_alloc | apply pw_below_drewN | apply below_drew1 | refine below_set ?_ GE127.out | refine below_set ?_ GE128.out | refine below_set ?_ GE129.out | refine below_set ?_ GE130.out)⟩⟩
                            · replace c72 := Bool.eq_false_iff.mpr c72
                              subst c72
                              have H1 : (impl_RemovePair.j1 kj5 true l0_0 l0_1 l0_2 a1 a2) = some (r1, r2, r3, r4) := by rw [if_neg (show ¬ (false = true) by decide)] at H; exact H
                              clear H
                              have H := H1
                              clear H1
                              have H' := Aside0.mk H
                              clear H
                              try go_wp2
                              refine wp_dn fun md => ?_
                              have n0_ := mk0 (blk_drew (blk_drewN BK127.out md))
                              have n1_ := mk0 (blk_drew (blk_drewN BK128.out md))
                              have n2_ := mk0 (blk_drew (blk_drewN BK129.out md))
                              have n3_ := mk0 (blk_drew (blk_drewN BK130.out md))
                              have n4_ := mk0 (below_drew1 (pw_below_drewN HB.out md))
                              clear BK127
                              clear BK128
                              clear BK129
                              clear BK130
                              clear HB
                              have BK127 := n0_
                              have BK128 := n1_
                              have BK129 := n2_
                              have BK130 := n3_
                              have HB := n4_
                              clear n0_ n1_ n2_ n3_ n4_
                              have p138 : 0 ≤ (a1 : Int) := of_decide_eq_true (by first | (with_reducible assumption) | assumption)
                              have q138 : a1 < (l0_2.length : Int) := of_decide_eq_true (by first | (with_reducible assumption) | assumption)
                              obtain ⟨ad138, e138, hx138_0⟩ := Kd.at_int HR0_2.out a1 p138 q138
                              have hw138_0 := hx138_0
                              cases e138
                              replace hx138_0 := (HB.out.cell (World.block_lt_of_cell? w _ hx138_0)).trans hx138_0
                              replace p138 := eq_true p138
                              replace q138 := eq_true q138
                              have p139 : 0 ≤ (a2 : Int) := of_decide_eq_true (by first | (with_reducible assumption) | assumption)
                              have q139 : a2 < (l0_2.length : Int) := of_decide_eq_true (by first | (with_reducible assumption) | assumption)
                              obtain ⟨ad139, e139, hx139_0⟩ := Kd.at_int HR0_2.out a2 p139 q139
                              have hw139_0 := hx139_0
                              obtain rfl : ad138 = ad139 := (by injection e139)
                              replace hx139_0 := (HB.out.cell (World.block_lt_of_cell? w _ hx139_0)).trans hx139_0
                              replace p139 := eq_true p139
                              replace q139 := eq_true q139
                              have p140 : 0 ≤ (a1 : Int) := of_decide_eq_true (by first | (with_reducible assumption) | assumption)
                              have q140 : a1 < (l0_1.length : Int) := of_decide_eq_true (by first | (with_reducible assumption) | assumption)
                              obtain ⟨ad140, e140, hx140_0⟩ := Kd.at_int HR0_1.out a1 p140 q140
                              have hw140_0 := hx140_0
                              cases e140
                              replace hx140_0 := (HB.out.cell (World.block_lt_of_cell? w _ hx140_0)).trans hx140_0
                              replace p140 := eq_true p140
                              replace q140 := eq_true q140
                              have p141 : 0 ≤ (a2 : Int) := of_decide_eq_true (by first | (with_reducible assumption) | assumption)
                              have q141 : a2 < (l0_1.length : Int) := of_decide_eq_true (by first | (with_reducible assumption) | assumption)
                              obtain ⟨ad141, e141, hx141_0⟩ := Kd.at_int HR0_1.out a2 p141 q141
                              have hw141_0 := hx141_0
                              obtain rfl : ad140 = ad141 := (by injection e141)
                              replace hx141_0 := (HB.out.cell (World.block_lt_of_cell? w _ hx141_0)).trans hx141_0
                              replace p141 := eq_true p141
                              replace q141 := eq_true q141
                              refine start_ (n := 36) (S := fun w' => w'.cell? ⟨gb127, 0, none⟩ = some (.slice A0_0 l0_0.length c0_0) ∧ w'.cell? ⟨gb127, 1, none⟩ = some (.slice (some ad140) l0_1.length c0_1) ∧ w'.cell? ⟨gb127, 2, none⟩ = some (.slice (some ad138) l0_2.length c0_2) ∧ w'.cell? ⟨gb128, 0, none⟩ = some (.int .i64 a1) ∧ w'.cell? ⟨gb129, 0, none⟩ = some (.int .i64 a2) ∧ w'.cell? (ad138.add (a1).toNat) = some (.int .i64 (rd l0_2 a1)) ∧ w'.cell? (ad138.add (a2).toNat) = some (.int .i64 (rd l0_2 a2)) ∧ w'.cell? (ad140.add (a1).toNat) = some (.int .i64 (rd l0_1 a1)) ∧ w'.cell? (ad140.add (a2).toNat) = some (.int .i64 (rd l0_1 a2))) (ds := []) (bl 36 0) (by kernel_rfl) rfl rfl ⟨(blk_cell BK127.out 0).trans rfl, (blk_cell BK127.out 1).trans rfl, (blk_cell BK127.out 2).trans rfl, (blk_cell BK128.out 0).trans rfl, (blk_cell BK129.out 0).trans rfl, ((HB.out.cell (World.block_lt_of_cell? w _ hw138_0)).trans hw138_0), ((HB.out.cell (World.block_lt_of_cell? w _ hw139_0)).trans hw139_0), ((HB.out.cell (World.block_lt_of_cell? w _ hw140_0)).trans hw140_0), ((HB.out.cell (World.block_lt_of_cell? w _ hw141_0)).trans hw141_0)⟩ (fun hHeld => ?_); refine with_tabW impl_RemovePair.tab7 impl_RemovePair.bits7 (fun HT_ HW_ => ?_)
                              generalize (World.drewN wc md).drew = w75 at BK127 BK128 BK129 BK130 HB hx138_0 hx139_0 hx140_0 hx141_0 hHeld ⊢
                              refine pure_ (i := 0) (N := some 50) (v := ?_) (a' := ?_) (bl 36 1) rfl rfl (any_of HT_.out (by kernel_rfl)) (fun _ _ _ h => h) (Or.inl ⟨by rfl, ?_⟩) ?_ ?_; rotate_left; (focus intro w'; go_simp; with_reducible rfl); rotate_left; (focus simp only [Act.put, List.setIfInBounds_toArray, List.set_cons_zero, List.set_cons_succ, i64_w, i32_w]; rfl)
                              refine pure_ (i := 5) (N := some 55) (v := ?_) (a' := ?_) (bl 36 33) rfl rfl (any_of HT_.out (by kernel_rfl)) (fun _ _ _ h => h) (Or.inl ⟨by rfl, ?_⟩) ?_ ?_; rotate_left; (focus intro w'; go_simp; with_reducible rfl); rotate_left; (focus simp only [Act.put, List.setIfInBounds_toArray, List.set_cons_zero, List.set_cons_succ, i64_w, i32_w]; rfl)
                              refine take_ (i := 1) (N := some 51) (v := ?_) (a' := ?_) (bl 36 35) rfl rfl (take_ofW HT_.out HW_.out (by kernel_rfl)) (fun _ _ _ h => h) (Or.inl ⟨by rfl, ?_⟩) hHeld ?_ ?_; rotate_left; (focus rintro w' ⟨s0, s1, s2, s3, s4, s5, s6, s7, s8⟩; go_simp; with_reducible rfl); rotate_left; (focus simp only [Act.put, List.setIfInBounds_toArray, List.set_cons_zero, List.set_cons_succ, i64_w, i32_w]; rfl)
                              refine take_ (i := 2) (N := some 52) (v := ?_) (a' := ?_) (bl 36 39) rfl rfl (take_ofW HT_.out HW_.out (by kernel_rfl)) (fun _ _ _ h => h) (Or.inl ⟨by rfl, ?_⟩) hHeld ?_ ?_; rotate_left; (focus rintro w' ⟨s0, s1, s2, s3, s4, s5, s6, s7, s8⟩; go_simp; with_reducible rfl); rotate_left; (focus simp only [Act.put, List.setIfInBounds_toArray, List.set_cons_zero, List.set_cons_succ, i64_w, i32_w]; rfl)
                              refine pure_ (i := 3) (N := some 53) (v := ?_) (a' := ?_) (bl 36 47) rfl rfl (any_of HT_.out (by kernel_rfl)) (fun _ _ _ h => h) (Or.inl ⟨by rfl, ?_⟩) ?_ ?_; rotate_left; (focus intro w'; go_simp; with_reducible rfl); rotate_left; (focus simp only [Act.put, List.setIfInBounds_toArray, List.set_cons_zero, List.set_cons_succ, i64_w, i32_w]; rfl)
                              refine take_ (i := 4) (N := some 54) (v := ?_) (a' := ?_) (bl 36 63) rfl rfl (take_ofW HT_.out HW_.out (by kernel_rfl)) (fun _ _ _ h => h) (Or.inl ⟨by rfl, ?_⟩) hHeld ?_ ?_; rotate_left; (focus rintro w' ⟨s0, s1, s2, s3, s4, s5, s6, s7, s8⟩; go_simp; with_reducible rfl); rotate_left; (focus simp only [Act.put, List.setIfInBounds_toArray, List.set_cons_zero, List.set_cons_succ, i64_w, i32_w]; rfl)
                              refine take_ (i := 6) (N := some 56) (v := ?_) (a' := ?_) (bl 36 127) rfl rfl (take_ofW HT_.out HW_.out (by kernel_rfl)) (fun _ _ _ h => h) (Or.inl ⟨by rfl, ?_⟩) hHeld ?_ ?_; rotate_left; (focus rintro w' ⟨s0, s1, s2, s3, s4, s5, s6, s7, s8⟩; go_simp; with_reducible rfl); rotate_left; (focus simp only [Act.put, List.setIfInBounds_toArray, List.set_cons_zero, List.set_cons_succ, i64_w, i32_w]; rfl)
                              refine take_ (i := 7) (N := some 57) (v := ?_) (a' := ?_) (bl 36 255) rfl rfl (take_ofW HT_.out HW_.out (by kernel_rfl)) (fun _ _ _ h => h) (Or.inl ⟨by rfl, ?_⟩) hHeld ?_ ?_; rotate_left; (focus rintro w' ⟨s0, s1, s2, s3, s4, s5, s6, s7, s8⟩; go_simp; with_reducible rfl); rotate_left; (focus simp only [Act.put, List.setIfInBounds_toArray, List.set_cons_zero, List.set_cons_succ, i64_w, i32_w]; rfl)
                              refine pure_ (i := 8) (N := some 58) (v := ?_) (a' := ?_) (bl 36 511) rfl rfl (any_of HT_.out (by kernel_rfl)) (fun _ _ _ h => h) (Or.inl ⟨by rfl, ?_⟩) ?_ ?_; rotate_left; (focus intro w'; go_simp; with_reducible rfl); rotate_left; (focus simp only [Act.put, List.setIfInBounds_toArray, List.set_cons_zero, List.set_cons_succ, i64_w, i32_w]; rfl)
                              refine take_ (i := 9) (N := some 59) (v := ?_) (a' := ?_) (bl 36 1023) rfl rfl (take_ofW HT_.out HW_.out (by kernel_rfl)) (fun _ _ _ h => h) (Or.inl ⟨by rfl, ?_⟩) hHeld ?_ ?_; rotate_left; (focus rintro w' ⟨s0, s1, s2, s3, s4, s5, s6, s7, s8⟩; go_simp; with_reducible rfl); rotate_left; (focus simp only [Act.put, List.setIfInBounds_toArray, List.set_cons_zero, List.set_cons_succ, i64_w, i32_w]; rfl)
                              refine pure_ (i := 10) (N := some 60) (v := ?_) (a' := ?_) (bl 36 2047) rfl rfl (any_of HT_.out (by kernel_rfl)) (fun _ _ _ h => h) (Or.inl ⟨by rfl, ?_⟩) ?_ ?_; rotate_left; (focus intro w'; go_simp; with_reducible rfl); rotate_left; (focus simp only [Act.put, List.setIfInBounds_toArray, List.set_cons_zero, List.set_cons_succ, i64_w, i32_w]; rfl)
                              refine pure_ (i := 11) (N := some 61) (v := ?_) (a' := ?_) (bl 36 4095) rfl rfl (any_of HT_.out (by kernel_rfl)) (fun _ _ _ h => h) (Or.inl ⟨by rfl, ?_⟩) ?_ ?_; rotate_left; (focus intro w'; go_simp; with_reducible rfl); rotate_left; (focus simp only [Act.put, List.setIfInBounds_toArray, List.set_cons_zero, List.set_cons_succ, i64_w, i32_w]; rfl)
                              refine pure_ (i := 12) (N := some 62) (v := ?_) (a' := ?_) (bl 36 8191) rfl rfl (any_of HT_.out (by kernel_rfl)) (fun _ _ _ h => h) (Or.inl ⟨by rfl, ?_⟩) ?_ ?_; rotate_left; (focus intro w'; go_simp; with_reducible rfl); rotate_left; (focus simp only [Act.put, List.setIfInBounds_toArray, List.set_cons_zero, List.set_cons_succ, i64_w, i32_w]; rfl)
                              refine pure_ (i := 17) (N := some 67) (v := ?_) (a' := ?_) (bl 36 139263) rfl rfl (any_of HT_.out (by kernel_rfl)) (fun _ _ _ h => h) (Or.inl ⟨by rfl, ?_⟩) ?_ ?_; rotate_left; (focus intro w'; go_simp; with_reducible rfl); rotate_left; (focus simp only [Act.put, List.setIfInBounds_toArray, List.set_cons_zero, List.set_cons_succ, i64_w, i32_w]; rfl)
                              refine take_ (i := 13) (N := some 63) (v := ?_) (a' := ?_) (bl 36 147455) rfl rfl (take_ofW HT_.out HW_.out (by kernel_rfl)) (fun _ _ _ h => h) (Or.inl ⟨by rfl, ?_⟩) hHeld ?_ ?_; rotate_left; (focus rintro w' ⟨s0, s1, s2, s3, s4, s5, s6, s7, s8⟩; go_simp; with_reducible rfl); rotate_left; (focus simp only [Act.put, List.setIfInBounds_toArray, List.set_cons_zero, List.set_cons_succ, i64_w, i32_w]; rfl)
                              refine take_ (i := 14) (N := some 64) (v := ?_) (a' := ?_) (bl 36 163839) rfl rfl (take_ofW HT_.out HW_.out (by kernel_rfl)) (fun _ _ _ h => h) (Or.inl ⟨by rfl, ?_⟩) hHeld ?_ ?_; rotate_left; (focus rintro w' ⟨s0, s1, s2, s3, s4, s5, s6, s7, s8⟩; go_simp; with_reducible rfl); rotate_left; (focus simp only [Act.put, List.setIfInBounds_toArray, List.set_cons_zero, List.set_cons_succ, i64_w, i32_w]; rfl)
                              refine pure_ (i := 15) (N := some 65) (v := ?_) (a' := ?_) (bl 36 196607) rfl rfl (any_of HT_.out (by kernel_rfl)) (fun _ _ _ h => h) (Or.inl ⟨by rfl, ?_⟩) ?_ ?_; rotate_left; (focus intro w'; go_simp; with_reducible rfl); rotate_left; (focus simp only [Act.put, List.setIfInBounds_toArray, List.set_cons_zero, List.set_cons_succ, i64_w, i32_w]; rfl)
                              refine take_ (i := 16) (N := some 66) (v := ?_) (a' := ?_) (bl 36 262143) rfl rfl (take_ofW HT_.out HW_.out (by kernel_rfl)) (fun _ _ _ h => h) (Or.inl ⟨by rfl, ?_⟩) hHeld ?_ ?_; rotate_left; (focus rintro w' ⟨s0, s1, s2, s3, s4, s5, s6, s7, s8⟩; go_simp; with_reducible rfl); rotate_left; (focus simp only [Act.put, List.setIfInBounds_toArray, List.set_cons_zero, List.set_cons_succ, i64_w, i32_w]; rfl)
                              refine take_ (i := 18) (N := some 68) (v := ?_) (a' := ?_) (bl 36 524287) rfl rfl (take_ofW HT_.out HW_.out (by kernel_rfl)) (fun _ _ _ h => h) (Or.inl ⟨by rfl, ?_⟩) hHeld ?_ ?_; rotate_left; (focus rintro w' ⟨s0, s1, s2, s3, s4, s5, s6, s7, s8⟩; go_simp; with_reducible rfl); rotate_left; (focus simp only [Act.put, List.setIfInBounds_toArray, List.set_cons_zero, List.set_cons_succ, i64_w, i32_w]; rfl)
                              refine take_ (i := 19) (N := some 69) (v := ?_) (a' := ?_) (bl 36 1048575) rfl rfl (take_ofW HT_.out HW_.out (by kernel_rfl)) (fun _ _ _ h => h) (Or.inl ⟨by rfl, ?_⟩) hHeld ?_ ?_; rotate_left; (focus rintro w' ⟨s0, s1, s2, s3, s4, s5, s6, s7, s8⟩; go_simp; with_reducible rfl); rotate_left; (focus simp only [Act.put, List.setIfInBounds_toArray, List.set_cons_zero, List.set_cons_succ, i64_w, i32_w]; rfl)
                              refine pure_ (i := 20) (N := some 70) (v := ?_) (a' := ?_) (bl 36 2097151) rfl rfl (any_of HT_.out (by kernel_rfl)) (fun _ _ _ h => h) (Or.inl ⟨by rfl, ?_⟩) ?_ ?_; rotate_left; (focus intro w'; go_simp; with_reducible rfl); rotate_left; (focus simp only [Act.put, List.setIfInBounds_toArray, List.set_cons_zero, List.set_cons_succ, i64_w, i32_w]; rfl)
                              refine take_ (i := 21) (N := some 71) (v := ?_) (a' := ?_) (bl 36 4194303) rfl rfl (take_ofW HT_.out HW_.out (by kernel_rfl)) (fun _ _ _ h => h) (Or.inl ⟨by rfl, ?_⟩) hHeld ?_ ?_; rotate_left; (focus rintro w' ⟨s0, s1, s2, s3, s4, s5, s6, s7, s8⟩; go_simp; with_reducible rfl); rotate_left; (focus simp only [Act.put, List.setIfInBounds_toArray, List.set_cons_zero, List.set_cons_succ, i64_w, i32_w]; rfl)
                              refine pure_ (i := 22) (N := some 72) (v := ?_) (a' := ?_) (bl 36 8388607) rfl rfl (any_of HT_.out (by kernel_rfl)) (fun _ _ _ h => h) (Or.inl ⟨by rfl, ?_⟩) ?_ ?_; rotate_left; (focus intro w'; go_simp; with_reducible rfl); rotate_left; (focus simp only [Act.put, List.setIfInBounds_toArray, List.set_cons_zero, List.set_cons_succ, i64_w, i32_w]; rfl)
                              refine pure_ (i := 23) (N := some 73) (v := ?_) (a' := ?_) (bl 36 16777215) rfl rfl (any_of HT_.out (by kernel_rfl)) (fun _ _ _ h => h) (Or.inl ⟨by rfl, ?_⟩) ?_ ?_; rotate_left; (focus intro w'; go_simp; with_reducible rfl); rotate_left; (focus simp only [Act.put, List.setIfInBounds_toArray, List.set_cons_zero, List.set_cons_succ, i64_w, i32_w]; rfl)
                              refine pure_ (i := 24) (N := some 74) (v := ?_) (a' := ?_) (bl 36 33554431) rfl rfl (any_of HT_.out (by kernel_rfl)) (fun _ _ _ h => h) (Or.inl ⟨by rfl, ?_⟩) ?_ ?_; rotate_left; (focus intro w'; go_simp; with_reducible rfl); rotate_left; (focus simp only [Act.put, List.setIfInBounds_toArray, List.set_cons_zero, List.set_cons_succ, i64_w, i32_w]; rfl)
                              refine pure_ (i := 25) (N := some 75) (v := ?_) (a' := ?_) (bl 36 67108863) rfl rfl (any_of HT_.out (by kernel_rfl)) (fun _ _ _ h => h) (Or.inl ⟨by rfl, ?_⟩) ?_ ?_; rotate_left; (focus intro w'; go_simp; with_reducible rfl); rotate_left; (focus simp only [Act.put, List.setIfInBounds_toArray, List.set_cons_zero, List.set_cons_succ, i64_w, i32_w]; rfl)
                              refine pure_ (i := 26) (N := some 76) (v := ?_) (a' := ?_) (bl 36 134217727) rfl rfl (any_of HT_.out (by kernel_rfl)) (fun _ _ _ h => h) (Or.inl ⟨by rfl, ?_⟩) ?_ ?_; rotate_left; (focus intro w'; go_simp; with_reducible rfl); rotate_left; (focus simp only [Act.put, List.setIfInBounds_toArray, List.set_cons_zero, List.set_cons_succ, i64_w, i32_w]; rfl)
                              refine one_ (i := 27) (N := some 77) (bl 36 268435455) rfl rfl (one_of HT_.out (by kernel_rfl)) (by decide) (fun K hK => ?_)
                              refine goes_ Try.func73 (by kernel_rfl) rfl #[.int .i64 t134, .int .i64 t136] (by rfl) rfl rfl (by (try simp only [List.map_toArray, List.map_cons, List.map_nil]); rfl) ?_
                              with_reducible refine (impl_beside.calls t134 t136 false _ A71.out).mono ?_
                              rintro e w' ⟨rfl, ⟨nd, rfl⟩⟩
                              refine ⟨_, rfl, ?_⟩
                              refine hK.out _ _ ⟨(blk_cell BK127.out 0).trans rfl, (blk_cell BK127.out 1).trans rfl, (blk_cell BK127.out 2).trans rfl, (blk_cell BK128.out 0).trans rfl, (blk_cell BK129.out 0).trans rfl, ((HB.out.cell (World.block_lt_of_cell? w _ hw138_0)).trans hw138_0), ((HB.out.cell (World.block_lt_of_cell? w _ hw139_0)).trans hw139_0), ((HB.out.cell (World.block_lt_of_cell? w _ hw140_0)).trans hw140_0), ((HB.out.cell (World.block_lt_of_cell? w _ hw141_0)).trans hw141_0)⟩ (fun hHeld => ?_)
                              clear hK K
                              refine norm_ (a' := ?_) ?_ ?_
                              rotate_left
                              · show Act.put _ (some 77) _ = _
                                simp only [Act.put, List.setIfInBounds_toArray, List.set_cons_zero, List.set_cons_succ, i64_w, i32_w]
                                rfl
                              refine pure_ (i := 28) (N := some 78) (v := ?_) (a' := ?_) (bl 36 536870911) rfl rfl (any_of HT_.out (by kernel_rfl)) (fun _ _ _ h => h) (Or.inl ⟨by rfl, ?_⟩) ?_ ?_; rotate_left; (focus intro w'; go_simp; with_reducible rfl); rotate_left; (focus simp only [Act.put, List.setIfInBounds_toArray, List.set_cons_zero, List.set_cons_succ, i64_w, i32_w]; rfl)
                              refine pure_ (i := 29) (N := some 79) (v := ?_) (a' := ?_) (bl 36 1073741823) rfl rfl (any_of HT_.out (by kernel_rfl)) (fun _ _ _ h => h) (Or.inl ⟨by rfl, ?_⟩) ?_ ?_; rotate_left; (focus intro w'; go_simp; with_reducible rfl); rotate_left; (focus simp only [Act.put, List.setIfInBounds_toArray, List.set_cons_zero, List.set_cons_succ, i64_w, i32_w]; rfl)
                              refine pure_ (i := 30) (N := some 80) (v := ?_) (a' := ?_) (bl 36 2147483647) rfl rfl (any_of HT_.out (by kernel_rfl)) (fun _ _ _ h => h) (Or.inl ⟨by rfl, ?_⟩) ?_ ?_; rotate_left; (focus intro w'; go_simp; with_reducible rfl); rotate_left; (focus simp only [Act.put, List.setIfInBounds_toArray, List.set_cons_zero, List.set_cons_succ, i64_w, i32_w]; rfl)
                              refine pure_ (i := 31) (N := some 81) (v := undef) (a' := ?_) (bl 36 4294967295) rfl rfl (any_of HT_.out (by kernel_rfl)) (fun _ _ _ h => h) (Or.inr ⟨by rfl, rfl⟩) ?_ ?_; rotate_left; (focus simp only [Act.put, List.setIfInBounds_toArray, List.set_cons_zero, List.set_cons_succ, i64_w, i32_w]; rfl)
                              refine pure_ (i := 32) (N := some 82) (v := undef) (a' := ?_) (bl 36 8589934591) rfl rfl (any_of HT_.out (by kernel_rfl)) (fun _ _ _ h => h) (Or.inr ⟨by rfl, rfl⟩) ?_ ?_; rotate_left; (focus simp only [Act.put, List.setIfInBounds_toArray, List.set_cons_zero, List.set_cons_succ, i64_w, i32_w]; rfl)
                              refine pure_ (i := 33) (N := some 83) (v := undef) (a' := ?_) (bl 36 17179869183) rfl rfl (any_of HT_.out (by kernel_rfl)) (fun _ _ _ h => h) (Or.inr ⟨by rfl, rfl⟩) ?_ ?_; rotate_left; (focus simp only [Act.put, List.setIfInBounds_toArray, List.set_cons_zero, List.set_cons_succ, i64_w, i32_w]; rfl)
                              refine pure_ (i := 34) (N := some 84) (v := undef) (a' := ?_) (bl 36 34359738367) rfl rfl (any_of HT_.out (by kernel_rfl)) (fun _ _ _ h => h) (Or.inr ⟨by rfl, rfl⟩) ?_ ?_; rotate_left; (focus simp only [Act.put, List.setIfInBounds_toArray, List.set_cons_zero, List.set_cons_succ, i64_w, i32_w]; rfl)
                              refine pure_ (i := 35) (N := some 85) (v := ?_) (a' := ?_) (bl 36 68719476735) rfl rfl (any_of HT_.out (by kernel_rfl)) (fun _ _ _ h => h) (Or.inl ⟨by rfl, ?_⟩) ?_ ?_; rotate_left; (focus intro w'; go_simp; with_reducible rfl); rotate_left; (focus simp only [Act.put, List.setIfInBounds_toArray, List.set_cons_zero, List.set_cons_succ, i64_w, i32_w]; rfl)
                              refine done_ (done_of HT_.out (by kernel_rfl)) ?_
                              try go_wp2
                              go_meet
                              case rel => exact ⟨_, (true), (by first | rfl | (simp; done) | (simp [*]; done)), H', ⟨by have := HJ5.out; first | omega | exact Nat.le_refl _⟩, ⟨by exact BK127.out⟩, ⟨by exact BK128.out⟩, ⟨by exact BK129.out⟩, ⟨by exact BK130.out⟩, ⟨by repeat (first | exact HB.out | apply below_alloc | apply pw_below_drewN | apply below_drew1 | refine below_set ?_ GE127.out | refine below_set ?_ GE128.out | refine below_set ?_ GE129.out | refine below_set ?_ GE130.out)⟩⟩
                          · rw [if_neg c70] at H
                            have c70b0 : ((rd l0_1 a1) == (rd l0_1 a2)) = false := beq_eq_false_iff_ne.mpr c70
                            have c70b1 : ((rd l0_1 a1) != (rd l0_1 a2)) = true := bne_iff_ne.mpr c70
                            have H' := Aside0.mk H
                            clear H
                            try go_wp2
                            refine wp_dn fun md => ?_
                            have n0_ := mk0 (blk_drew (blk_drewN BK127.out md))
                            have n1_ := mk0 (blk_drew (blk_drewN BK128.out md))
                            have n2_ := mk0 (blk_drew (blk_drewN BK129.out md))
                            have n3_ := mk0 (blk_drew (blk_drewN BK130.out md))
                            have n4_ := mk0 (below_drew1 (pw_below_drewN HB.out md))
                            clear BK127
                            clear BK128
                            clear BK129
                            clear BK130
                            clear HB
                            have BK127 := n0_
                            have BK128 := n1_
                            have BK129 := n2_
                            have BK130 := n3_
                            have HB := n4_
                            clear n0_ n1_ n2_ n3_ n4_
                            have p138 : 0 ≤ (a1 : Int) := of_decide_eq_true (by first | (with_reducible assumption) | assumption)
                            have q138 : a1 < (l0_2.length : Int) := of_decide_eq_true (by first | (with_reducible assumption) | assumption)
                            obtain ⟨ad138, e138, hx138_0⟩ := Kd.at_int HR0_2.out a1 p138 q138
                            have hw138_0 := hx138_0
                            cases e138
                            replace hx138_0 := (HB.out.cell (World.block_lt_of_cell? w _ hx138_0)).trans hx138_0
                            replace p138 := eq_true p138
                            replace q138 := eq_true q138
                            have p139 : 0 ≤ (a2 : Int) := of_decide_eq_true (by first | (with_reducible assumption) | assumption)
                            have q139 : a2 < (l0_2.length : Int) := of_decide_eq_true (by first | (with_reducible assumption) | assumption)
                            obtain ⟨ad139, e139, hx139_0⟩ := Kd.at_int HR0_2.out a2 p139 q139
                            have hw139_0 := hx139_0
                            obtain rfl : ad138 = ad139 := (by injection e139)
                            replace hx139_0 := (HB.out.cell (World.block_lt_of_cell? w _ hx139_0)).trans hx139_0
                            replace p139 := eq_true p139
                            replace q139 := eq_true q139
                            have p140 : 0 ≤ (a1 : Int) := of_decide_eq_true (by first | (with_reducible assumption) | assumption)
                            have q140 : a1 < (l0_1.length : Int) := of_decide_eq_true (by first | (with_reducible assumption) | assumption)
                            obtain ⟨ad140, e140, hx140_0⟩ := Kd.at_int HR0_1.out a1 p140 q140
                            have hw140_0 := hx140_0
                            cases e140
                            replace hx140_0 := (HB.out.cell (World.block_lt_of_cell? w _ hx140_0)).trans hx140_0
                            replace p140 := eq_true p140
                            replace q140 := eq_true q140
                            have p141 : 0 ≤ (a2 : Int) := of_decide_eq_true (by first | (with_reducible assumption) | assumption)
                            have q141 : a2 < (l0_1.length : Int) := of_decide_eq_true (by first | (with_reducible assumption) | assumption)
                            obtain ⟨ad141, e141, hx141_0⟩ := Kd.at_int HR0_1.out a2 p141 q141
                            have hw141_0 := hx141_0
                            obtain rfl : ad140 = ad141 := (by injection e141)
                            replace hx141_0 := (HB.out.cell (World.block_lt_of_cell? w _ hx141_0)).trans hx141_0
                            replace p141 := eq_true p141
                            replace q141 := eq_true q141
                            refine start_ (n := 36) (S := fun w' => w'.cell? ⟨gb127, 0, none⟩ = some (.slice A0_0 l0_0.length c0_0) ∧ w'.cell? ⟨gb127, 1, none⟩ = some (.slice (some ad140) l0_1.length c0_1) ∧ w'.cell? ⟨gb127, 2, none⟩ = some (.slice (some ad138) l0_2.length c0_2) ∧ w'.cell? ⟨gb128, 0, none⟩ = some (.int .i64 a1) ∧ w'.cell? ⟨gb129, 0, none⟩ = some (.int .i64 a2) ∧ w'.cell? (ad138.add (a1).toNat) = some (.int .i64 (rd l0_2 a1)) ∧ w'.cell? (ad138.add (a2).toNat) = some (.int .i64 (rd l0_2 a2)) ∧ w'.cell? (ad140.add (a1).toNat) = some (.int .i64 (rd l0_1 a1)) ∧ w'.cell? (ad140.add (a2).toNat) = some (.int .i64 (rd l0_1 a2))) (ds := []) (bl 36 0) (by kernel_rfl) rfl rfl ⟨(blk_cell BK127.out 0).trans rfl, (blk_cell BK127.out 1).trans rfl, (blk_cell BK127.out 2).trans rfl, (blk_cell BK128.out 0).trans rfl, (blk_cell BK129.out 0).trans rfl, ((HB.out.cell (World.block_lt_of_cell? w _ hw138_0)).trans hw138_0), ((HB.out.cell (World.block_lt_of_cell? w _ hw139_0)).trans hw139_0), ((HB.out.cell (World.block_lt_of_cell? w _ hw140_0)).trans hw140_0), ((HB.out.cell (World.block_lt_of_cell? w _ hw141_0)).trans hw141_0)⟩ (fun hHeld => ?_); refine with_tabW impl_RemovePair.tab7 impl_RemovePair.bits7 (fun HT_ HW_ => ?_)
                            generalize (World.drewN wc md).drew = w76 at BK127 BK128 BK129 BK130 HB hx138_0 hx139_0 hx140_0 hx141_0 hHeld ⊢
                            refine pure_ (i := 0) (N := some 50) (v := ?_) (a' := ?_) (bl 36 1) rfl rfl (any_of HT_.out (by kernel_rfl)) (fun _ _ _ h => h) (Or.inl ⟨by rfl, ?_⟩) ?_ ?_; rotate_left; (focus intro w'; go_simp; with_reducible rfl); rotate_left; (focus simp only [Act.put, List.setIfInBounds_toArray, List.set_cons_zero, List.set_cons_succ, i64_w, i32_w]; rfl)
                            refine pure_ (i := 5) (N := some 55) (v := ?_) (a' := ?_) (bl 36 33) rfl rfl (any_of HT_.out (by kernel_rfl)) (fun _ _ _ h => h) (Or.inl ⟨by rfl, ?_⟩) ?_ ?_; rotate_left; (focus intro w'; go_simp; with_reducible rfl); rotate_left; (focus simp only [Act.put, List.setIfInBounds_toArray, List.set_cons_zero, List.set_cons_succ, i64_w, i32_w]; rfl)
                            refine take_ (i := 1) (N := some 51) (v := ?_) (a' := ?_) (bl 36 35) rfl rfl (take_ofW HT_.out HW_.out (by kernel_rfl)) (fun _ _ _ h => h) (Or.inl ⟨by rfl, ?_⟩) hHeld ?_ ?_; rotate_left; (focus rintro w' ⟨s0, s1, s2, s3, s4, s5, s6, s7, s8⟩; go_simp; with_reducible rfl); rotate_left; (focus simp only [Act.put, List.setIfInBounds_toArray, List.set_cons_zero, List.set_cons_succ, i64_w, i32_w]; rfl)
                            refine take_ (i := 2) (N := some 52) (v := ?_) (a' := ?_) (bl 36 39) rfl rfl (take_ofW HT_.out HW_.out (by kernel_rfl)) (fun _ _ _ h => h) (Or.inl ⟨by rfl, ?_⟩) hHeld ?_ ?_; rotate_left; (focus rintro w' ⟨s0, s1, s2, s3, s4, s5, s6, s7, s8⟩; go_simp; with_reducible rfl); rotate_left; (focus simp only [Act.put, List.setIfInBounds_toArray, List.set_cons_zero, List.set_cons_succ, i64_w, i32_w]; rfl)
                            refine pure_ (i := 3) (N := some 53) (v := ?_) (a' := ?_) (bl 36 47) rfl rfl (any_of HT_.out (by kernel_rfl)) (fun _ _ _ h => h) (Or.inl ⟨by rfl, ?_⟩) ?_ ?_; rotate_left; (focus intro w'; go_simp; with_reducible rfl); rotate_left; (focus simp only [Act.put, List.setIfInBounds_toArray, List.set_cons_zero, List.set_cons_succ, i64_w, i32_w]; rfl)
                            refine take_ (i := 4) (N := some 54) (v := ?_) (a' := ?_) (bl 36 63) rfl rfl (take_ofW HT_.out HW_.out (by kernel_rfl)) (fun _ _ _ h => h) (Or.inl ⟨by rfl, ?_⟩) hHeld ?_ ?_; rotate_left; (focus rintro w' ⟨s0, s1, s2, s3, s4, s5, s6, s7, s8⟩; go_simp; with_reducible rfl); rotate_left; (focus simp only [Act.put, List.setIfInBounds_toArray, List.set_cons_zero, List.set_cons_succ, i64_w, i32_w]; rfl)
                            refine take_ (i := 6) (N := some 56) (v := ?_) (a' := ?_) (bl 36 127) rfl rfl (take_ofW HT_.out HW_.out (by kernel_rfl)) (fun _ _ _ h => h) (Or.inl ⟨by rfl, ?_⟩) hHeld ?_ ?_; rotate_left; (focus rintro w' ⟨s0, s1, s2, s3, s4, s5, s6, s7, s8⟩; go_simp; with_reducible rfl); rotate_left; (focus simp only [Act.put, List.setIfInBounds_toArray, List.set_cons_zero, List.set_cons_succ, i64_w, i32_w]; rfl)
                            refine take_ (i := 7) (N := some 57) (v := ?_) (a' := ?_) (bl 36 255) rfl rfl (take_ofW HT_.out HW_.out (by kernel_rfl)) (fun _ _ _ h => h) (Or.inl ⟨by rfl, ?_⟩) hHeld ?_ ?_; rotate_left; (focus rintro w' ⟨s0, s1, s2, s3, s4, s5, s6, s7, s8⟩; go_simp; with_reducible rfl); rotate_left; (focus simp only [Act.put, List.setIfInBounds_toArray, List.set_cons_zero, List.set_cons_succ, i64_w, i32_w]; rfl)
                            refine pure_ (i := 8) (N := some 58) (v := ?_) (a' := ?_) (bl 36 511) rfl rfl (any_of HT_.out (by kernel_rfl)) (fun _ _ _ h => h) (Or.inl ⟨by rfl, ?_⟩) ?_ ?_; rotate_left; (focus intro w'; go_simp; with_reducible rfl); rotate_left; (focus simp only [Act.put, List.setIfInBounds_toArray, List.set_cons_zero, List.set_cons_succ, i64_w, i32_w]; rfl)
                            refine take_ (i := 9) (N := some 59) (v := ?_) (a' := ?_) (bl 36 1023) rfl rfl (take_ofW HT_.out HW_.out (by kernel_rfl)) (fun _ _ _ h => h) (Or.inl ⟨by rfl, ?_⟩) hHeld ?_ ?_; rotate_left; (focus rintro w' ⟨s0, s1, s2, s3, s4, s5, s6, s7, s8⟩; go_simp; with_reducible rfl); rotate_left; (focus simp only [Act.put, List.setIfInBounds_toArray, List.set_cons_zero, List.set_cons_succ, i64_w, i32_w]; rfl)
                            refine pure_ (i := 10) (N := some 60) (v := ?_) (a' := ?_) (bl 36 2047) rfl rfl (any_of HT_.out (by kernel_rfl)) (fun _ _ _ h => h) (Or.inl ⟨by rfl, ?_⟩) ?_ ?_; rotate_left; (focus intro w'; go_simp; with_reducible rfl); rotate_left; (focus simp only [Act.put, List.setIfInBounds_toArray, List.set_cons_zero, List.set_cons_succ, i64_w, i32_w]; rfl)
                            refine pure_ (i := 11) (N := some 61) (v := ?_) (a' := ?_) (bl 36 4095) rfl rfl (any_of HT_.out (by kernel_rfl)) (fun _ _ _ h => h) (Or.inl ⟨by rfl, ?_⟩) ?_ ?_; rotate_left; (focus intro w'; go_simp; with_reducible rfl); rotate_left; (focus simp only [Act.put, List.setIfInBounds_toArray, List.set_cons_zero, List.set_cons_succ, i64_w, i32_w]; rfl)
                            refine pure_ (i := 12) (N := some 62) (v := ?_) (a' := ?_) (bl 36 8191) rfl rfl (any_of HT_.out (by kernel_rfl)) (fun _ _ _ h => h) (Or.inl ⟨by rfl, ?_⟩) ?_ ?_; rotate_left; (focus intro w'; go_simp; with_reducible rfl); rotate_left; (focus simp only [Act.put, List.setIfInBounds_toArray, List.set_cons_zero, List.set_cons_succ, i64_w, i32_w]; rfl)
                            refine pure_ (i := 17) (N := some 67) (v := ?_) (a' := ?_) (bl 36 139263) rfl rfl (any_of HT_.out (by kernel_rfl)) (fun _ _ _ h => h) (Or.inl ⟨by rfl, ?_⟩) ?_ ?_; rotate_left; (focus intro w'; go_simp; with_reducible rfl); rotate_left; (focus simp only [Act.put, List.setIfInBounds_toArray, List.set_cons_zero, List.set_cons_succ, i64_w, i32_w]; rfl)
                            refine take_ (i := 13) (N := some 63) (v := ?_) (a' := ?_) (bl 36 147455) rfl rfl (take_ofW HT_.out HW_.out (by kernel_rfl)) (fun _ _ _ h => h) (Or.inl ⟨by rfl, ?_⟩) hHeld ?_ ?_; rotate_left; (focus rintro w' ⟨s0, s1, s2, s3, s4, s5, s6, s7, s8⟩; go_simp; with_reducible rfl); rotate_left; (focus simp only [Act.put, List.setIfInBounds_toArray, List.set_cons_zero, List.set_cons_succ, i64_w, i32_w]; rfl)
                            refine take_ (i := 14) (N := some 64) (v := ?_) (a' := ?_) (bl 36 163839) rfl rfl (take_ofW HT_.out HW_.out (by kernel_rfl)) (fun _ _ _ h => h) (Or.inl ⟨by rfl, ?_⟩) hHeld ?_ ?_; rotate_left; (focus rintro w' ⟨s0, s1, s2, s3, s4, s5, s6, s7, s8⟩; go_simp; with_reducible rfl); rotate_left; (focus simp only [Act.put, List.setIfInBounds_toArray, List.set_cons_zero, List.set_cons_succ, i64_w, i32_w]; rfl)
                            refine pure_ (i := 15) (N := some 65) (v := ?_) (a' := ?_) (bl 36 196607) rfl rfl (any_of HT_.out (by kernel_rfl)) (fun _ _ _ h => h) (Or.inl ⟨by rfl, ?_⟩) ?_ ?_; rotate_left; (focus intro w'; go_simp; with_reducible rfl); rotate_left; (focus simp only [Act.put, List.setIfInBounds_toArray, List.set_cons_zero, List.set_cons_succ, i64_w, i32_w]; rfl)
                            refine take_ (i := 16) (N := some 66) (v := ?_) (a' := ?_) (bl 36 262143) rfl rfl (take_ofW HT_.out HW_.out (by kernel_rfl)) (fun _ _ _ h => h) (Or.inl ⟨by rfl, ?_⟩) hHeld ?_ ?_; rotate_left; (focus rintro w' ⟨s0, s1, s2, s3, s4, s5, s6, s7, s8⟩; go_simp; with_reducible rfl); rotate_left; (focus simp only [Act.put, List.setIfInBounds_toArray, List.set_cons_zero, List.set_cons_succ, i64_w, i32_w]; rfl)
                            refine take_ (i := 18) (N := some 68) (v := ?_) (a' := ?_) (bl 36 524287) rfl rfl (take_ofW HT_.out HW_.out (by kernel_rfl)) (fun _ _ _ h => h) (Or.inl ⟨by rfl, ?_⟩) hHeld ?_ ?_; rotate_left; (focus rintro w' ⟨s0, s1, s2, s3, s4, s5, s6, s7, s8⟩; go_simp; with_reducible rfl); rotate_left; (focus simp only [Act.put, List.setIfInBounds_toArray, List.set_cons_zero, List.set_cons_succ, i64_w, i32_w]; rfl)
                            refine take_ (i := 19) (N := some 69) (v := ?_) (a' := ?_) (bl 36 1048575) rfl rfl (take_ofW HT_.out HW_.out (by kernel_rfl)) (fun _ _ _ h => h) (Or.inl ⟨by rfl, ?_⟩) hHeld ?_ ?_; rotate_left; (focus rintro w' ⟨s0, s1, s2, s3, s4, s5, s6, s7, s8⟩; go_simp; with_reducible rfl); rotate_left; (focus simp only [Act.put, List.setIfInBounds_toArray, List.set_cons_zero, List.set_cons_succ, i64_w, i32_w]; rfl)
                            refine pure_ (i := 20) (N := some 70) (v := ?_) (a' := ?_) (bl 36 2097151) rfl rfl (any_of HT_.out (by kernel_rfl)) (fun _ _ _ h => h) (Or.inl ⟨by rfl, ?_⟩) ?_ ?_; rotate_left; (focus intro w'; go_simp; with_reducible rfl); rotate_left; (focus simp only [Act.put, List.setIfInBounds_toArray, List.set_cons_zero, List.set_cons_succ, i64_w, i32_w]; rfl)
                            refine take_ (i := 21) (N := some 71) (v := ?_) (a' := ?_) (bl 36 4194303) rfl rfl (take_ofW HT_.out HW_.out (by kernel_rfl)) (fun _ _ _ h => h) (Or.inl ⟨by rfl, ?_⟩) hHeld ?_ ?_; rotate_left; (focus rintro w' ⟨s0, s1, s2, s3, s4, s5, s6, s7, s8⟩; go_simp; with_reducible rfl); rotate_left; (focus simp only [Act.put, List.setIfInBounds_toArray, List.set_cons_zero, List.set_cons_succ, i64_w, i32_w]; rfl)
                            refine pure_ (i := 22) (N := some 72) (v := ?_) (a' := ?_) (bl 36 8388607) rfl rfl (any_of HT_.out (by kernel_rfl)) (fun _ _ _ h => h) (Or.inl ⟨by rfl, ?_⟩) ?_ ?_; rotate_left; (focus intro w'; go_simp; with_reducible rfl); rotate_left; (focus simp only [Act.put, List.setIfInBounds_toArray, List.set_cons_zero, List.set_cons_succ, i64_w, i32_w]; rfl)
                            refine pure_ (i := 23) (N := some 73) (v := ?_) (a' := ?_) (bl 36 16777215) rfl rfl (any_of HT_.out (by kernel_rfl)) (fun _ _ _ h => h) (Or.inl ⟨by rfl, ?_⟩) ?_ ?_; rotate_left; (focus intro w'; go_simp; with_reducible rfl); rotate_left; (focus simp only [Act.put, List.setIfInBounds_toArray, List.set_cons_zero, List.set_cons_succ, i64_w, i32_w]; rfl)
                            refine pure_ (i := 24) (N := some 74) (v := ?_) (a' := ?_) (bl 36 33554431) rfl rfl (any_of HT_.out (by kernel_rfl)) (fun _ _ _ h => h) (Or.inl ⟨by rfl, ?_⟩) ?_ ?_; rotate_left; (focus intro w'; go_simp; with_reducible rfl); rotate_left; (focus simp only [Act.put, List.setIfInBounds_toArray, List.set_cons_zero, List.set_cons_succ, i64_w, i32_w]; rfl)
                            refine pure_ (i := 25) (N := some 75) (v := undef) (a' := ?_) (bl 36 67108863) rfl rfl (any_of HT_.out (by kernel_rfl)) (fun _ _ _ h => h) (Or.inr ⟨by rfl, rfl⟩) ?_ ?_; rotate_left; (focus simp only [Act.put, List.setIfInBounds_toArray, List.set_cons_zero, List.set_cons_succ, i64_w, i32_w]; rfl)
                            refine pure_ (i := 26) (N := some 76) (v := undef) (a' := ?_) (bl 36 134217727) rfl rfl (any_of HT_.out (by kernel_rfl)) (fun _ _ _ h => h) (Or.inr ⟨by rfl, rfl⟩) ?_ ?_; rotate_left; (focus simp only [Act.put, List.setIfInBounds_toArray, List.set_cons_zero, List.set_cons_succ, i64_w, i32_w]; rfl)
                            refine pure_ (i := 27) (N := some 77) (v := undef) (a' := ?_) (bl 36 268435455) rfl rfl (any_of HT_.out (by kernel_rfl)) (fun _ _ _ h => h) (Or.inr ⟨by rfl, rfl⟩) ?_ ?_; rotate_left; (focus simp only [Act.put, List.setIfInBounds_toArray, List.set_cons_zero, List.set_cons_succ, i64_w, i32_w]; rfl)
                            refine pure_ (i := 28) (N := some 78) (v := undef) (a' := ?_) (bl 36 536870911) rfl rfl (any_of HT_.out (by kernel_rfl)) (fun _ _ _ h => h) (Or.inr ⟨by rfl, rfl⟩) ?_ ?_; rotate_left; (focus simp only [Act.put, List.setIfInBounds_toArray, List.set_cons_zero, List.set_cons_succ, i64_w, i32_w]; rfl)
                            refine pure_ (i := 29) (N := some 79) (v := ?_) (a' := ?_) (bl 36 1073741823) rfl rfl (any_of HT_.out (by kernel_rfl)) (fun _ _ _ h => h) (Or.inl ⟨by rfl, ?_⟩) ?_ ?_; rotate_left; (focus intro w'; go_simp; with_reducible rfl); rotate_left; (focus simp only [Act.put, List.setIfInBounds_toArray, List.set_cons_zero, List.set_cons_succ, i64_w, i32_w]; rfl)
                            refine pure_ (i := 30) (N := some 80) (v := ?_) (a' := ?_) (bl 36 2147483647) rfl rfl (any_of HT_.out (by kernel_rfl)) (fun _ _ _ h => h) (Or.inl ⟨by rfl, ?_⟩) ?_ ?_; rotate_left; (focus intro w'; go_simp; with_reducible rfl); rotate_left; (focus simp only [Act.put, List.setIfInBounds_toArray, List.set_cons_zero, List.set_cons_succ, i64_w, i32_w]; rfl)
                            refine pure_ (i := 31) (N := some 81) (v := undef) (a' := ?_) (bl 36 4294967295) rfl rfl (any_of HT_.out (by kernel_rfl)) (fun _ _ _ h => h) (Or.inr ⟨by rfl, rfl⟩) ?_ ?_; rotate_left; (focus simp only [Act.put, List.setIfInBounds_toArray, List.set_cons_zero, List.set_cons_succ, i64_w, i32_w]; rfl)
                            refine pure_ (i := 32) (N := some 82) (v := undef) (a' := ?_) (bl 36 8589934591) rfl rfl (any_of HT_.out (by kernel_rfl)) (fun _ _ _ h => h) (Or.inr ⟨by rfl, rfl⟩) ?_ ?_; rotate_left; (focus simp only [Act.put, List.setIfInBounds_toArray, List.set_cons_zero, List.set_cons_succ, i64_w, i32_w]; rfl)
                            refine pure_ (i := 33) (N := some 83) (v := undef) (a' := ?_) (bl 36 17179869183) rfl rfl (any_of HT_.out (by kernel_rfl)) (fun _ _ _ h => h) (Or.inr ⟨by rfl, rfl⟩) ?_ ?_; rotate_left; (focus simp only [Act.put, List.setIfInBounds_toArray, List.set_cons_zero, List.set_cons_succ, i64_w, i32_w]; rfl)
                            refine pure_ (i := 34) (N := some 84) (v := undef) (a' := ?_) (bl 36 34359738367) rfl rfl (any_of HT_.out (by kernel_rfl)) (fun _ _ _ h => h) (Or.inr ⟨by rfl, rfl⟩) ?_ ?_; rotate_left; (focus simp only [Act.put, List.setIfInBounds_toArray, List.set_cons_zero, List.set_cons_succ, i64_w, i32_w]; rfl)
                            refine pure_ (i := 35) (N := some 85) (v := ?_) (a' := ?_) (bl 36 68719476735) rfl rfl (any_of HT_.out (by kernel_rfl)) (fun _ _ _ h => h) (Or.inl ⟨by rfl, ?_⟩) ?_ ?_; rotate_left; (focus intro w'; go_simp; with_reducible rfl); rotate_left; (focus simp only [Act.put, List.setIfInBounds_toArray, List.set_cons_zero, List.set_cons_succ, i64_w, i32_w]; rfl)
                            refine done_ (done_of HT_.out (by kernel_rfl)) ?_
                            try go_wp2
                            go_meet
                            case rel => exact ⟨_, (true), (by first | rfl | (simp; done) | (simp [*]; done)), H', ⟨by have := HJ5.out; first | omega | exact Nat.le_refl _⟩, ⟨by exact BK127.out⟩, ⟨by exact BK128.out⟩, ⟨by exact BK129.out⟩, ⟨by exact BK130.out⟩, ⟨by repeat (first | exact HB.out | apply below_alloc | apply pw_below_drewN | apply below_drew1 | refine below_set ?_ GE127.out | refine below_set ?_ GE128.out | refine below_set ?_ GE129.out | refine below_set ?_ GE130.out)⟩⟩
                        · rw [if_neg c69] at H
                          exact absurd H (by simp)
                      · rw [if_neg c68] at H
                        exact absurd H (by simp)
                  · rw [if_neg c65] at H
                    exact absurd H (by simp)
                · rw [if_neg c64] at H
                  exact absurd H (by simp)
              · rw [if_neg c63] at H
                exact absurd H (by simp)
            · rw [if_neg c62] at H
              exact absurd H (by simp)
          case rest =>
            clear HC52
            try clear p1
            try clear q1
            try clear hx1
            try clear p2
            try clear c6
            try clear c7
            try clear p13
            try clear q13
            try clear hx13
            try clear p14
            try clear q14
            try clear hx14
            try clear c62
            try clear c63
            try clear c64
            try clear c65
            try clear c68
            try clear c69
            try clear c70
            try clear c70b0
            try clear c70b1
            try clear c73
            try clear hx138_0
            try clear hx139_0
            try clear hx140_0
            try clear hx141_0
            try clear p138
            try clear p139
            try clear p140
            try clear p141
            try clear q138
            try clear q139
            try clear q140
            try clear q141
            obtain ⟨kq, x85_51, rfl, HA, HJ51, BK127, BK128, BK129, BK130, HB⟩ := hcut
            cases kq with
            | zero => exact absurd HA.out (by simp [impl_RemovePair.j1])
            | succ kj51 =>
              have H := HA.out
              clear HA
              simp only [impl_RemovePair.j1] at H
              by_cases c77 : x85_51 = true
              · subst c77
                have H1 : (some (([] : List Int), ([] : List Int), ([] : List Int), 5)) = some (r1, r2, r3, r4) := by rw [if_pos rfl] at H; exact H
                clear H
                have H := H1
                clear H1
                simp only [Option.some.injEq, Prod.mk.injEq] at H
                obtain ⟨rfl, rfl, rfl, rfl⟩ := H
                have hnb78 := NB130_127.out
                have hnc78 := NB127_130.out
                have hnb79 := NB130_128.out
                have hnc79 := NB128_130.out
                have hnb80 := NB130_129.out
                have hnc80 := NB129_130.out
                obtain ⟨hcz81_0, hcz81_1, hcz81_2⟩ := bc3 BK130.out
                obtain ⟨hfz81_0, hfz81_1, hfz81_2⟩ := bf3 BK130.out
                go_wp2
                refine bodyPost_ret (results_ct rfl _ _ gb130 34 #[.slice none 0 0, .slice none 0 0, .slice none 0 0] (0, 0) _ rfl (by refine blk_put (cs := #[.slice none 0 0, .slice none 0 0, .slice none 0 0]) ?_ 2 _ rfl; refine blk_put (cs := #[.slice none 0 0, .slice none 0 0, .slice none 0 0]) ?_ 1 _ rfl; refine blk_put (cs := #[.slice none 0 0, .slice none 0 0, .slice none 0 0]) ?_ 0 _ rfl; exact BK130.out) Try.underlying34 rfl (by kernel_rfl)) rfl ?_
                exact ⟨_, _, _, by first | rfl | (simp [errW_none, errW_some] <;> rfl) | (simp [*, errW_none, errW_some] <;> rfl), by first | exact Kd.R_nil _ _ _ _ _ | exact Kd.N_nil _ _ _ _ _ | exact Kd.V_nil _ _ _ _ _ | exact Kd.Q_nil _ _ _ _ _ | exact Kd.S_nil _ _ _ _ _, by first | exact Kd.R_nil _ _ _ _ _ | exact Kd.N_nil _ _ _ _ _ | exact Kd.V_nil _ _ _ _ _ | exact Kd.Q_nil _ _ _ _ _ | exact Kd.S_nil _ _ _ _ _, by first | exact Kd.R_nil _ _ _ _ _ | exact Kd.N_nil _ _ _ _ _ | exact Kd.V_nil _ _ _ _ _ | exact Kd.Q_nil _ _ _ _ _ | exact Kd.S_nil _ _ _ _ _, by repeat (first | exact HB.out | apply below_alloc | apply pw_below_drewN | apply below_drew1 | refine below_set ?_ GE127.out | refine below_set ?_ GE128.out | refine below_set ?_ GE129.out | refine below_set ?_ GE130.out)⟩
              · replace c77 := Bool.eq_false_iff.mpr c77
                subst c77
                have H1 : ((leftRP.f l0_0 l0_1 l0_2 a1 a2).bind fun bt144 => (some (bt144.1, bt144.2.1, bt144.2.2, 0))) = some (r1, r2, r3, r4) := by rw [if_neg (show ¬ (false = true) by decide)] at H; exact H
                clear H
                have H := H1
                clear H1
                replace H := Option.bind_eq_some_iff.mp H
                obtain ⟨⟨t144, t147, t150⟩, A820, H⟩ := H
                replace H : (some (t144, t147, t150, 0)) = some (r1, r2, r3, r4) := H
                have A82 := Aside0.mk A820
                clear A820
                simp only [Option.some.injEq, Prod.mk.injEq] at H
                obtain ⟨rfl, rfl, rfl, rfl⟩ := H
                have hnb83 := NB127_128.out
                have hnc83 := NB128_127.out
                have hnb84 := NB127_129.out
                have hnc84 := NB129_127.out
                have hnb85 := NB127_130.out
                have hnc85 := NB130_127.out
                obtain ⟨hcz86_0, hcz86_1, hcz86_2⟩ := bc3 BK127.out
                obtain ⟨hfz86_0, hfz86_1, hfz86_2⟩ := bf3 BK127.out
                go_wp2_with (first | ((with_reducible refine gate_callee (f := 65) rfl ?_); refine goesL_ (some 89) rfl rfl Try.func65 (by kernel_rfl) rfl #[.agg #[.slice A0_0 l0_0.length c0_0, .slice A0_1 l0_1.length c0_1, .slice A0_2 l0_2.length c0_2], .func (.func 74) #[] #[.pointer (some ⟨gb128, 0, none⟩), .pointer (some ⟨gb129, 0, none⟩)]] rfl (by (try simp only [List.map_toArray, List.map_cons, List.map_nil]); rfl) ?_; (with_reducible refine (leftRP.calls _ _ l0_0 _ _ l0_1 _ _ l0_2 gb128 gb129 a1 a2 t144 t147 t150 _ ?side1 ?side2 ?side3 ?side4 ?side5 ?side6 ?side7 ?side8 A82.out).mono ?_); (case side1 => exact (Kd.C_below HR0_0.out HB.out)); (case side2 => exact HC0_0.out); (case side3 => exact (Kd.C_below HR0_1.out HB.out)); (case side4 => exact HC0_1.out); (case side5 => exact (Kd.C_below HR0_2.out HB.out)); (case side6 => exact HC0_2.out); (case side7 => exact (by exact BK128.out)); (case side8 => exact (by exact BK129.out)); rintro e w87 ⟨v145, v148, v151, rfl, ho0, ho1, ho2, hb⟩; refine ⟨_, rfl, ?_⟩; have n0_ := mk0 (Kd.R_lower (Kd.R_newB (Kd.R_newB ho0 (g := gb128) (o := .cells #[.int .i64 a1] 2 (0, 0)) (by exact BK128.out)) (g := gb129) (o := .cells #[.int .i64 a2] 2 (0, 0)) (by exact BK129.out)) (below_size (by repeat (first | exact HB.out | apply below_alloc | apply pw_below_drewN | apply below_drew1 | refine below_set ?_ GE127.out | refine below_set ?_ GE128.out | refine below_set ?_ GE129.out | refine below_set ?_ GE130.out)))); have n1_ := mk0 (Kd.R_lower (Kd.R_newB (Kd.R_newB ho1 (g := gb128) (o := .cells #[.int .i64 a1] 2 (0, 0)) (by exact BK128.out)) (g := gb129) (o := .cells #[.int .i64 a2] 2 (0, 0)) (by exact BK129.out)) (below_size (by repeat (first | exact HB.out | apply below_alloc | apply pw_below_drewN | apply below_drew1 | refine below_set ?_ GE127.out | refine below_set ?_ GE128.out | refine below_set ?_ GE129.out | refine below_set ?_ GE130.out)))); have n2_ := mk0 (Kd.R_lower (Kd.R_newB (Kd.R_newB ho2 (g := gb128) (o := .cells #[.int .i64 a1] 2 (0, 0)) (by exact BK128.out)) (g := gb129) (o := .cells #[.int .i64 a2] 2 (0, 0)) (by exact BK129.out)) (below_size (by repeat (first | exact HB.out | apply below_alloc | apply pw_below_drewN | apply below_drew1 | refine below_set ?_ GE127.out | refine below_set ?_ GE128.out | refine below_set ?_ GE129.out | refine below_set ?_ GE130.out)))); have n3_ := mk0 (blk_below (by exact BK127.out) hb); have n4_ := mk0 (blk_below (by exact BK128.out) hb); have n5_ := mk0 (blk_below (by exact BK129.out) hb); have n6_ := mk0 (blk_below (by exact BK130.out) hb); have n7_ := mk0 (below_step (by repeat (first | exact HB.out | apply below_alloc | apply pw_below_drewN | apply below_drew1 | refine below_set ?_ GE127.out | refine below_set ?_ GE128.out | refine below_set ?_ GE129.out | refine below_set ?_ GE130.out)) hb); clear BK127; clear BK128; clear BK129; clear BK130; clear HB; have HO146 := n0_; have HO149 := n1_; have HO152 := n2_; have BK127 := n3_; have BK128 := n4_; have BK129 := n5_; have BK130 := n6_; have HB := n7_; clear n0_ n1_ n2_ n3_ n4_ n5_ n6_ n7_; (try clear hb); (try clear hb2); (try clear hk); (try clear hi); (try clear ho0); (try clear ho1); (try clear ho2); obtain ⟨Ao88, co88, eo88⟩ := Kd.R_slice HO146.out; subst eo88; have hnb89 := NB130_128.out; have hnc89 := NB128_130.out; have hnb90 := NB130_129.out; have hnc90 := NB129_130.out; obtain ⟨hcz91_0, hcz91_1, hcz91_2⟩ := bc3 BK130.out; obtain ⟨hfz91_0, hfz91_1, hfz91_2⟩ := bf3 BK130.out; obtain ⟨Ao92, co92, eo92⟩ := Kd.R_slice HO149.out; subst eo92; obtain ⟨Ao93, co93, eo93⟩ := Kd.R_slice HO152.out; subst eo93))
                refine bodyPost_ret (results_ct rfl _ _ gb130 34 #[.slice Ao88 t144.length co88, .slice Ao92 t147.length co92, .slice Ao93 t150.length co93] (0, 0) _ rfl (by refine blk_put (cs := #[.slice Ao88 t144.length co88, .slice Ao92 t147.length co92, .slice none 0 0]) ?_ 2 _ rfl; refine blk_put (cs := #[.slice Ao88 t144.length co88, .slice none 0 0, .slice none 0 0]) ?_ 1 _ rfl; refine blk_put (cs := #[.slice none 0 0, .slice none 0 0, .slice none 0 0]) ?_ 0 _ rfl; exact BK130.out) Try.underlying34 rfl (by kernel_rfl)) rfl ?_
                exact ⟨_, _, _, by first | rfl | (simp [errW_none, errW_some] <;> rfl) | (simp [*, errW_none, errW_some] <;> rfl), by exact Kd.R_mono (Kd.R_far (p := ⟨gb130, 2, none⟩) (Kd.R_far (p := ⟨gb130, 1, none⟩) (Kd.R_far (p := ⟨gb130, 0, none⟩) (Kd.R_types HO146.out BK130.out (by decide)) (fun _ hk => hk.2) (.slice Ao88 t144.length co88)) (fun _ hk => hk.2) (.slice Ao92 t147.length co92)) (fun _ hk => hk.2) (.slice Ao93 t150.length co93)) (fun _ hk => ⟨hk.1.1.1.1, hk.1.1.1.2⟩), by exact Kd.R_mono (Kd.R_far (p := ⟨gb130, 2, none⟩) (Kd.R_far (p := ⟨gb130, 1, none⟩) (Kd.R_far (p := ⟨gb130, 0, none⟩) (Kd.R_types HO149.out BK130.out (by decide)) (fun _ hk => hk.2) (.slice Ao88 t144.length co88)) (fun _ hk => hk.2) (.slice Ao92 t147.length co92)) (fun _ hk => hk.2) (.slice Ao93 t150.length co93)) (fun _ hk => ⟨hk.1.1.1.1, hk.1.1.1.2⟩), by exact Kd.R_mono (Kd.R_far (p := ⟨gb130, 2, none⟩) (Kd.R_far (p := ⟨gb130, 1, none⟩) (Kd.R_far (p := ⟨gb130, 0, none⟩) (Kd.R_types HO152.out BK130.out (by decide)) (fun _ hk => hk.2) (.slice Ao88 t144.length co88)) (fun _ hk => hk.2) (.slice Ao92 t147.length co92)) (fun _ hk => hk.2) (.slice Ao93 t150.length co93)) (fun _ hk => ⟨hk.1.1.1.1, hk.1.1.1.2⟩), by repeat (first | exact HB.out | apply below_alloc | apply pw_below_drewN | apply below_drew1 | refine below_set ?_ GE127.out | refine below_set ?_ GE128.out | refine below_set ?_ GE129.out | refine below_set ?_ GE130.out)⟩
  · replace c5 := Bool.eq_false_iff.mpr c5
    subst c5
    have H1 : (some (([] : List Int), ([] : List Int), ([] : List Int), 1)) = some (r1, r2, r3, r4) := by rw [if_neg (show ¬ (false = true) by decide)] at H; exact H
    clear H
    have H := H1
    clear H1
    simp only [Option.some.injEq, Prod.mk.injEq] at H
    obtain ⟨rfl, rfl, rfl, rfl⟩ := H
    go_enter Try.func35, Try.ntmps35
    go_wp2_with (first | ((with_reducible refine gate_dst (N := 3) rfl ?_); refine box_event ?hg (N := 3) ?hd (cs := #[.slice A0_0 l0_0.length c0_0, .slice A0_1 l0_1.length c0_1, .slice A0_2 l0_2.length c0_2]) (t := 34) ?hr ?_; (case hd => rfl); (case hg => rfl); (case hr => first | (go_simp; done) | (go_simp; rfl)); intro gb127 hg w94 hbox hb; have n0_ := mk0 (below_step (by repeat (first | exact HB.out | apply below_alloc | apply pw_below_drewN | apply below_drew1)) hb); have n1_ := mk0 (hbox); have n2_ := mk0 ((by rw [hg]; exact (below_size (by repeat (first | exact HB.out | apply below_alloc | apply pw_below_drewN | apply below_drew1))) : w.heap.size ≤ gb127)); have n3_ := mk0 ((by rw [hg]; exact (below_size (by repeat (first | exact HB.out | apply below_alloc | apply pw_below_drewN | apply below_drew1))) : w.heap.size ≤ gb127)); clear HB; have HB := n0_; have BK127 := n1_; have GW127 := n2_; have GE127 := n3_; clear n0_ n1_ n2_ n3_; clear hb hbox hg) | ((with_reducible refine gate_dst (N := 4) rfl ?_); refine box_event ?hg (N := 4) ?hd (cs := #[.int .i64 a1]) (t := 2) ?hr ?_; (case hd => rfl); (case hg => rfl); (case hr => first | (go_simp; done) | (go_simp; rfl)); intro gb128 hg w95 hbox hb; have n0_ := mk0 (blk_below (by exact BK127.out) hb); have n1_ := mk0 (below_step (by repeat (first | exact HB.out | apply below_alloc | apply pw_below_drewN | apply below_drew1 | refine below_set ?_ GE127.out)) hb); have n2_ := mk0 (hbox); have n3_ := mk0 ((by rw [hg]; exact (below_size (by repeat (first | exact HB.out | apply below_alloc | apply pw_below_drewN | apply below_drew1 | refine below_set ?_ GE127.out))) : w.heap.size ≤ gb128)); have n4_ := mk0 ((by rw [hg]; exact (below_size (by repeat (first | exact HB.out | apply below_alloc | apply pw_below_drewN | apply below_drew1 | refine below_set ?_ GE127.out))) : w.heap.size ≤ gb128)); have n5_ := mk0 ((by rw [hg]; exact Nat.ne_of_lt (blk_lt (g := gb127) (o := .cells #[.slice A0_0 l0_0.length c0_0, .slice A0_1 l0_1.length c0_1, .slice A0_2 l0_2.length c0_2] 34 (0, 0)) (by exact BK127.out)) : gb127 ≠ gb128)); have n6_ := mk0 ((by rw [hg]; exact Nat.ne_of_gt (blk_lt (g := gb127) (o := .cells #[.slice A0_0 l0_0.length c0_0, .slice A0_1 l0_1.length c0_1, .slice A0_2 l0_2.length c0_2] 34 (0, 0)) (by exact BK127.out)) : gb128 ≠ gb127)); clear BK127; clear HB; have BK127 := n0_; have HB := n1_; have BK128 := n2_; have GW128 := n3_; have GE128 := n4_; have NB127_128 := n5_; have NB128_127 := n6_; clear n0_ n1_ n2_ n3_ n4_ n5_ n6_; clear hb hbox hg) | ((with_reducible refine gate_dst (N := 5) rfl ?_); refine box_event ?hg (N := 5) ?hd (cs := #[.int .i64 a2]) (t := 2) ?hr ?_; (case hd => rfl); (case hg => rfl); (case hr => first | (go_simp; done) | (go_simp; rfl)); intro gb129 hg w96 hbox hb; have n0_ := mk0 (blk_below (by exact BK127.out) hb); have n1_ := mk0 (blk_below (by exact BK128.out) hb); have n2_ := mk0 (below_step (by repeat (first | exact HB.out | apply below_alloc | apply pw_below_drewN | apply below_drew1 | refine below_set ?_ GE127.out | refine below_set ?_ GE128.out)) hb); have n3_ := mk0 (hbox); have n4_ := mk0 ((by rw [hg]; exact (below_size (by repeat (first | exact HB.out | apply below_alloc | apply pw_below_drewN | apply below_drew1 | refine below_set ?_ GE127.out | refine below_set ?_ GE128.out))) : w.heap.size ≤ gb129)); have n5_ := mk0 ((by rw [hg]; exact (below_size (by repeat (first | exact HB.out | apply below_alloc | apply pw_below_drewN | apply below_drew1 | refine below_set ?_ GE127.out | refine below_set ?_ GE128.out))) : w.heap.size ≤ gb129)); have n6_ := mk0 ((by rw [hg]; exact Nat.ne_of_lt (blk_lt (g := gb127) (o := .cells #[.slice A0_0 l0_0.length c0_0, .slice A0_1 l0_1.length c0_1, .slice A0_2 l0_2.length c0_2] 34 (0, 0)) (by exact BK127.out)) : gb127 ≠ gb129)); have n7_ := mk0 ((by rw [hg]; exact Nat.ne_of_gt (blk_lt (g := gb127) (o := .cells #[.slice A0_0 l0_0.length c0_0, .slice A0_1 l0_1.length c0_1, .slice A0_2 l0_2.length c0_2] 34 (0, 0)) (by exact BK127.out)) : gb129 ≠ gb127)); have n8_ := mk0 ((by rw [hg]; exact Nat.ne_of_lt (blk_lt (g := gb128) (o := .cells #[.int .i64 a1] 2 (0, 0)) (by exact BK128.out)) : gb128 ≠ gb129)); have n9_ := mk0 ((by rw [hg]; exact Nat.ne_of_gt (blk_lt (g := gb128) (o := .cells #[.int .i64 a1] 2 (0, 0)) (by exact BK128.out)) : gb129 ≠ gb128)); clear BK127; clear BK128; clear HB; have BK127 := n0_; have BK128 := n1_; have HB := n2_; have BK129 := n3_; have GW129 := n4_; have GE129 := n5_; have NB127_129 := n6_; have NB129_127 := n7_; have NB128_129 := n8_; have NB129_128 := n9_; clear n0_ n1_ n2_ n3_ n4_ n5_ n6_ n7_ n8_ n9_; clear hb hbox hg) | ((with_reducible refine gate_dst (N := 6) rfl ?_); refine box_event ?hg (N := 6) ?hd (cs := #[.slice none 0 0, .slice none 0 0, .slice none 0 0]) (t := 34) ?hr ?_; (case hd => rfl); (case hg => rfl); (case hr => first | (go_simp; done) | (go_simp; rfl)); intro gb130 hg w97 hbox hb; have n0_ := mk0 (blk_below (by exact BK127.out) hb); have n1_ := mk0 (blk_below (by exact BK128.out) hb); have n2_ := mk0 (blk_below (by exact BK129.out) hb); have n3_ := mk0 (below_step (by repeat (first | exact HB.out | apply below_alloc | apply pw_below_drewN | apply below_drew1 | refine below_set ?_ GE127.out | refine below_set ?_ GE128.out | refine below_set ?_ GE129.out)) hb); have n4_ := mk0 (hbox); have n5_ := mk0 ((by rw [hg]; exact (below_size (by repeat (first | exact HB.out | apply below_alloc | apply pw_below_drewN | apply below_drew1 | refine below_set ?_ GE127.out | refine below_set ?_ GE128.out | refine below_set ?_ GE129.out))) : w.heap.size ≤ gb130)); have n6_ := mk0 ((by rw [hg]; exact (below_size (by repeat (first | exact HB.out | apply below_alloc | apply pw_below_drewN | apply below_drew1 | refine below_set ?_ GE127.out | refine below_set ?_ GE128.out | refine below_set ?_ GE129.out))) : w.heap.size ≤ gb130)); have n7_ := mk0 ((by rw [hg]; exact Nat.ne_of_lt (blk_lt (g := gb127) (o := .cells #[.slice A0_0 l0_0.length c0_0, .slice A0_1 l0_1.length c0_1, .slice A0_2 l0_2.length c0_2] 34 (0, 0)) (by exact BK127.out)) : gb127 ≠ gb130)); have n8_ := mk0 ((by rw [hg]; exact Nat.ne_of_gt (blk_lt (g := gb127) (o := .cells #[.slice A0_0 l0_0.length c0_0, .slice A0_1 l0_1.length c0_1, .slice A0_2 l0_2.length c0_2] 34 (0, 0)) (by exact BK127.out)) : gb130 ≠ gb127)); have n9_ := mk0 ((by rw [hg]; exact Nat.ne_of_lt (blk_lt (g := gb128) (o := .cells #[.int .i64 a1] 2 (0, 0)) (by exact BK128.out)) : gb128 ≠ gb130)); have n10_ := mk0 ((by rw [hg]; exact Nat.ne_of_gt (blk_lt (g := gb128) (o := .cells #[.int .i64 a1] 2 (0, 0)) (by exact BK128.out)) : gb130 ≠ gb128)); have n11_ := mk0 ((by rw [hg]; exact Nat.ne_of_lt (blk_lt (g := gb129) (o := .cells #[.int .i64 a2] 2 (0, 0)) (by exact BK129.out)) : gb129 ≠ gb130)); have n12_ := mk0 ((by rw [hg]; exact Nat.ne_of_gt (blk_lt (g := gb129) (o := .cells #[.int .i64 a2] 2 (0, 0)) (by exact BK129.out)) : gb130 ≠ gb129)); clear BK127; clear BK128; clear BK129; clear HB; have BK127 := n0_; have BK128 := n1_; have BK129 := n2_; have HB := n3_; have BK130 := n4_; have GW130 := n5_; have GE130 := n6_; have NB127_130 := n7_; have NB130_127 := n8_; have NB128_130 := n9_; have NB130_128 := n10_; have NB129_130 := n11_; have NB130_129 := n12_; clear n0_ n1_ n2_ n3_ n4_ n5_ n6_ n7_ n8_ n9_ n10_ n11_ n12_; clear hb hbox hg; have hnb98 := NB127_128.out; have hnc98 := NB128_127.out; have hnb99 := NB127_129.out; have hnc99 := NB129_127.out; have hnb100 := NB127_130.out; have hnc100 := NB130_127.out; obtain ⟨hcz101_0, hcz101_1, hcz101_2⟩ := bc3 BK127.out; obtain ⟨hfz101_0, hfz101_1, hfz101_2⟩ := bf3 BK127.out) | ((with_reducible refine gate_callee (f := 58) rfl ?_); refine goesL_ (some 14) rfl rfl Try.func58 (by kernel_rfl) rfl #[.agg #[.slice A0_0 l0_0.length c0_0, .slice A0_1 l0_1.length c0_1, .slice A0_2 l0_2.length c0_2]] rfl (by (try simp only [List.map_toArray, List.map_cons, List.map_nil]); rfl) ?_; (with_reducible refine (impl_IsGauss.calls k _ _ l0_0 _ _ l0_1 _ _ l0_2 false _ ?side1 ?side2 ?side3 ?side4 ?side5 ?side6 A4.out).mono ?_); (case side1 => exact (Kd.C_below HR0_0.out HB.out)); (case side2 => exact HC0_0.out); (case side3 => exact (Kd.C_below HR0_1.out HB.out)); (case side4 => exact HC0_1.out); (case side5 => exact (Kd.C_below HR0_2.out HB.out)); (case side6 => exact HC0_2.out); rintro e w102 ⟨rfl, hb⟩; refine ⟨_, rfl, ?_⟩; have n0_ := mk0 (blk_below (by exact BK127.out) hb); have n1_ := mk0 (blk_below (by exact BK128.out) hb); have n2_ := mk0 (blk_below (by exact BK129.out) hb); have n3_ := mk0 (blk_below (by exact BK130.out) hb); have n4_ := mk0 (below_step (by repeat (first | exact HB.out | apply below_alloc | apply pw_below_drewN | apply below_drew1 | refine below_set ?_ GE127.out | refine below_set ?_ GE128.out | refine below_set ?_ GE129.out | refine below_set ?_ GE130.out)) hb); clear BK127; clear BK128; clear BK129; clear BK130; clear HB; have BK127 := n0_; have BK128 := n1_; have BK129 := n2_; have BK130 := n3_; have HB := n4_; clear n0_ n1_ n2_ n3_ n4_; (try clear hb); (try clear hb2); (try clear hk); (try clear hi); have hnb103 := NB130_128.out; have hnc103 := NB128_130.out; have hnb104 := NB130_129.out; have hnc104 := NB129_130.out; obtain ⟨hcz105_0, hcz105_1, hcz105_2⟩ := bc3 BK130.out; obtain ⟨hfz105_0, hfz105_1, hfz105_2⟩ := bf3 BK130.out))
    refine bodyPost_ret (results_ct rfl _ _ gb130 34 #[.slice none 0 0, .slice none 0 0, .slice none 0 0] (0, 0) _ rfl (by refine blk_put (cs := #[.slice none 0 0, .slice none 0 0, .slice none 0 0]) ?_ 2 _ rfl; refine blk_put (cs := #[.slice none 0 0, .slice none 0 0, .slice none 0 0]) ?_ 1 _ rfl; refine blk_put (cs := #[.slice none 0 0, .slice none 0 0, .slice none 0 0]) ?_ 0 _ rfl; exact BK130.out) Try.underlying34 rfl (by kernel_rfl)) rfl ?_
    exact ⟨_, _, _, by first | rfl | (simp [errW_none, errW_some] <;> rfl) | (simp [*, errW_none, errW_some] <;> rfl), by first | exact Kd.R_nil _ _ _ _ _ | exact Kd.N_nil _ _ _ _ _ | exact Kd.V_nil _ _ _ _ _ | exact Kd.Q_nil _ _ _ _ _ | exact Kd.S_nil _ _ _ _ _, by first | exact Kd.R_nil _ _ _ _ _ | exact Kd.N_nil _ _ _ _ _ | exact Kd.V_nil _ _ _ _ _ | exact Kd.Q_nil _ _ _ _ _ | exact Kd.S_nil _ _ _ _ _, by first | exact Kd.R_nil _ _ _ _ _ | exact Kd.N_nil _ _ _ _ _ | exact Kd.V_nil _ _ _ _ _ | exact Kd.Q_nil _ _ _ _ _ | exact Kd.S_nil _ _ _ _ _, by repeat (first | exact HB.out | apply below_alloc | apply pw_below_drewN | apply below_drew1 | refine below_set ?_ GE127.out | refine below_set ?_ GE128.out | refine below_set ?_ GE129.out | refine below_set ?_ GE130.out)⟩
end Go.Proofs.Ytihfncjpfgdhoaa.PP
end
section
namespace Go.Proofs.Ytihfncjpfgdhoaa.K
open Go.RowKit Go.Proofs.YtihfncjpfgdhoaaW.PrintWords Go.Proofs.YtihfncjpfgdhoaaW.PrintLast Go.Proofs.YtihfncjpfgdhoaaW.PrintMore Go.Proofs.Ytihfncjpfgdhoaa.PA Go.Proofs.Ytihfncjpfgdhoaa.PE Go.Proofs.Ytihfncjpfgdhoaa.PP
theorem leftF_some (p : Int → Bool) (w h s : List Int) (h12 : w.length ≤ 4096) (h64 : Ok64 w) (hin : ∀ x ∈ w, 0 ≤ x ∧ x < h.length ∧ x < s.length) : leftF p w h s = some (normalL (w.filter p), firsts (w.filter p) h, firsts (w.filter p) s) := by
  unfold leftF
  rw [if_pos ⟨by omega, h64, hin⟩]
theorem filter_lens (p : Int → Bool) (w h s : List Int) (h12 : w.length ≤ 12) : (normalL (w.filter p)).length ≤ 1048576 ∧ (firsts (w.filter p) h).length ≤ 1048576 ∧ (firsts (w.filter p) s).length ≤ 1048576 := by
  have h0 := List.length_filter_le p w
  have h1 := firsts_length_le (w.filter p) h
  have h2 := firsts_length_le (w.filter p) s
  rw [normalL_length]
  omega
def nearN (a c : Nat) : Bool := decide (c = a + 1) || decide (a = c + 1)
theorem beside_some (a c : Nat) (ha : a ≤ 4096) (hc : c ≤ 4096) : impl_beside.f (a : Int) (c : Int) = some (nearN a c) := by
  unfold impl_beside.f nearN
  rw [wrap_id (x := (a : Int) - c) (by omega) (by omega), wrap_id (x := (c : Int) - a) (by omega) (by omega)]
  by_cases h1 : a = c + 1
  · rw [if_pos (by omega), decide_eq_true h1, Bool.or_true]
  · rw [if_neg (by omega), decide_eq_false h1, Bool.or_false]
    by_cases h2 : c = a + 1
    · rw [decide_eq_true h2]
      have : ((c : Int) - a == 1) = true := by rw [beq_iff_eq]; omega
      first | rw [this] | simp [this]
    · rw [decide_eq_false h2]
      have : ((c : Int) - a == 1) = false := by rw [beq_eq_false_iff_ne]; omega
      first | rw [this] | simp [this]
section
variable {w h s : List Int} {i k : Int} (hg : isGaussL w h s = true) (h64 : Ok64 w) (hi : inB i 0 (((w.length / 2 : Nat) : Int) - 1) = true) (hk : inB k 0 (((w.length / 2 : Nat) : Int) - 1) = true)
include hg hi hk
def goodB (h s : List Int) (i k : Int) (a b c d : Nat) : Bool := (nearN a c && nearN b d) && (decide (rd s i ≠ rd s k) && decide (rd h i = rd h k))
theorem pair_spec {a b c d : Nat} (ta : Two w i a b) (tc : Two w k c d) (hne : i ≠ k) : Ev (fun n => spec_RemovePair.f n w h s i k) (if goodB h s i k a b c d then (normalL (w.filter fun x => x != i && x != k), firsts (w.filter fun x => x != i && x != k) h, firsts (w.filter fun x => x != i && x != k) s, 0) else (([] : List Int), ([] : List Int), ([] : List Int), 5)) := by
  obtain ⟨hw, hh, hs⟩ := gauss_parts hg
  obtain ⟨h12, hr⟩ := word_range hw
  have hin : ∀ x ∈ w, 0 ≤ x ∧ x < h.length ∧ x < s.length := fun x hx => by have := hr x hx; omega
  have hi2 : 0 ≤ i ∧ i < h.length ∧ i < s.length := by
    unfold inB at hi
    simp only [Bool.and_eq_true, decide_eq_true_eq] at hi
    omega
  have hk2 : 0 ≤ k ∧ k < h.length ∧ k < s.length := by
    unfold inB at hk
    simp only [Bool.and_eq_true, decide_eq_true_eq] at hk
    omega
  have hch := ev_chord w h s [i, k] (by omega) (by omega) (by simp)
  rw [hg, hs] at hch
  simp only [List.all_cons, List.all_nil, Bool.and_true, hi, hk] at hch
  have la := ta.bl
  have lab := ta.ab
  have lc := tc.bl
  have lcd := tc.ab
  have e2 : (fun x => !decide (x ∈ [i, k])) = (fun x : Int => x != i && x != k) := by
    funext x
    by_cases e : x = i <;> by_cases f : x = k <;> simp [e, f]
  have hwo := ev_without w h s [i, k] (by omega) (by simp) hin
  rw [e2] at hwo
  have hpm : ∀ x ∈ s, x = 1 ∨ x = -1 := fun x hx => by
    unfold isGaussL at hg
    simp only [Bool.and_eq_true, decide_eq_true_eq] at hg
    have := List.all_eq_true.mp hg.2.2.2.2 x hx
    unfold isSignB at this
    simpa using this
  obtain ⟨ni, rfl⟩ : ∃ m : Nat, i = m := ⟨i.toNat, by omega⟩
  obtain ⟨nk, rfl⟩ : ∃ m : Nat, k = m := ⟨k.toNat, by omega⟩
  have pi := hpm _ (rd_mem s ni (by omega))
  have pk := hpm _ (rd_mem s nk (by omega))
  have j3 : ∀ q : Bool, Ev (fun n => spec_RemovePair.j3 n ni nk q w h s) (if q then (([] : List Int), ([] : List Int), ([] : List Int), 5) else (normalL (w.filter fun x => x != (ni : Int) && x != (nk : Int)), firsts (w.filter fun x => x != (ni : Int) && x != (nk : Int)) h, firsts (w.filter fun x => x != (ni : Int) && x != (nk : Int)) s, 0)) := fun q => by
    refine Ev.step (fun n => by rw [spec_RemovePair.j3]) ?_
    cases q with
    | true => exact ev_pos rfl (ev_some _)
    | false => exact ev_neg (by simp) (Ev.bind hwo (ev_some _))
  have j2 : ∀ q : Bool, q = (nearN a c && nearN b d) → Ev (fun n => spec_RemovePair.j2 n ni nk q w h s) (if goodB h s ni nk a b c d then (normalL (w.filter fun x => x != (ni : Int) && x != (nk : Int)), firsts (w.filter fun x => x != (ni : Int) && x != (nk : Int)) h, firsts (w.filter fun x => x != (ni : Int) && x != (nk : Int)) s, 0) else (([] : List Int), ([] : List Int), ([] : List Int), 5)) := fun q hq => by
    refine Ev.step (fun n => by rw [spec_RemovePair.j2]) ?_
    cases q with
    | false =>
      refine ev_neg (by simp) ?_
      have e : goodB h s ni nk a b c d = false := by unfold goodB; rw [← hq, Bool.false_and]
      rw [e]
      exact j3 true
    | true =>
      refine ev_pos rfl (ev_pos hi2.1 (ev_pos hi2.2.2 (ev_pos hk2.1 (ev_pos hk2.2.2 ?_))))
      by_cases hsum : rd s ni = rd s nk
      · refine ev_neg (by rw [hsum]; rcases pk with e | e <;> rw [e] <;> unfold wrap64 <;> omega) ?_
        have e : goodB h s ni nk a b c d = false := by unfold goodB; rw [decide_eq_false (fun h => h hsum), Bool.false_and, Bool.and_false]
        rw [e]
        exact j3 true
      · refine ev_pos (by rcases pi with e | e <;> rcases pk with f | f <;> rw [e, f] at hsum ⊢ <;> first | (unfold wrap64; omega) | exact absurd rfl hsum) (ev_pos hi2.2.1 (ev_pos hk2.2.1 ?_))
        by_cases hhd : rd h ni = rd h nk
        · have e : goodB h s ni nk a b c d = true := by unfold goodB; rw [← hq, decide_eq_true hsum, decide_eq_true hhd]; rfl
          rw [e, hhd]
          simpa using j3 false
        · have e : goodB h s ni nk a b c d = false := by unfold goodB; rw [decide_eq_false hhd, Bool.and_false, Bool.and_false]
          rw [e]
          have e3 : (rd h ni != rd h nk) = true := by simpa using hhd
          rw [e3]
          exact j3 true
  unfold spec_RemovePair.f
  refine Ev.bind hch (ev_pos rfl ?_)
  refine Ev.step (fun n => by rw [spec_RemovePair.j0]) ?_
  refine ev_neg (by simpa using hne) ?_
  refine Ev.step (fun n => by rw [spec_RemovePair.j1]) ?_
  refine ev_pos rfl (Ev.bind (ev_specPlaces w ni a b ta (by omega)) (Ev.bind (ev_specPlaces w nk c d tc (by omega)) ?_))
  rw [wrap_id (x := (c : Int) - a) (by omega) (by omega), wrap_id (x := (d : Int) - b) (by omega) (by omega), wrap_id (x := (b : Int) - d) (by omega) (by omega), wrap_id (x := (a : Int) - c) (by omega) (by omega)]
  have tail : nearN a c = true → Ev (fun n => if (d : Int) - b = 1 then spec_RemovePair.j2 n ni nk true w h s else spec_RemovePair.j2 n ni nk ((b : Int) - d == 1) w h s) (if goodB h s ni nk a b c d then (normalL (w.filter fun x => x != (ni : Int) && x != (nk : Int)), firsts (w.filter fun x => x != (ni : Int) && x != (nk : Int)) h, firsts (w.filter fun x => x != (ni : Int) && x != (nk : Int)) s, 0) else (([] : List Int), ([] : List Int), ([] : List Int), 5)) := fun hac => by
    by_cases h1 : d = b + 1
    · exact ev_pos (by omega) (j2 true (by rw [hac]; unfold nearN; rw [decide_eq_true h1]; rfl))
    · refine ev_neg (by omega) (j2 _ ?_)
      rw [hac, Bool.true_and]
      unfold nearN
      rw [decide_eq_false h1, Bool.false_or]
      by_cases h2 : b = d + 1
      · rw [decide_eq_true h2, beq_iff_eq]; omega
      · rw [decide_eq_false h2, beq_eq_false_iff_ne]; omega
  by_cases h1 : c = a + 1
  · exact ev_pos (by omega) (tail (by unfold nearN; rw [decide_eq_true h1]; rfl))
  · refine ev_neg (by omega) ?_
    by_cases h2 : a = c + 1
    · exact ev_pos (by omega) (tail (by unfold nearN; rw [decide_eq_true h2, Bool.or_true]))
    · exact ev_neg (by omega) (j2 false (by unfold nearN; rw [decide_eq_false h1, decide_eq_false h2]; rfl))
include h64
theorem pair_impl {a b c d : Nat} (ta : Two w i a b) (tc : Two w k c d) (hne : i ≠ k) : Ev (fun n => impl_RemovePair.f n w h s i k) (if goodB h s i k a b c d then (normalL (w.filter fun x => x != i && x != k), firsts (w.filter fun x => x != i && x != k) h, firsts (w.filter fun x => x != i && x != k) s, 0) else (([] : List Int), ([] : List Int), ([] : List Int), 5)) := by
  obtain ⟨hw, hh, hs⟩ := gauss_parts hg
  obtain ⟨h12, hr⟩ := word_range hw
  have hin : ∀ x ∈ w, 0 ≤ x ∧ x < h.length ∧ x < s.length := fun x hx => by have := hr x hx; omega
  have hi2 : 0 ≤ i ∧ i < h.length ∧ i < s.length := by
    unfold inB at hi
    simp only [Bool.and_eq_true, decide_eq_true_eq] at hi
    omega
  have hk2 : 0 ≤ k ∧ k < h.length ∧ k < s.length := by
    unfold inB at hk
    simp only [Bool.and_eq_true, decide_eq_true_eq] at hk
    omega
  have c1 := isChord_some w i (by omega)
  have c2 := isChord_some w k (by omega)
  rw [hi] at c1
  rw [hk] at c2
  have la := ta.bl
  have lab := ta.ab
  have lc := tc.bl
  have lcd := tc.ab
  have hlf : leftRP.f w h s i k = some (normalL (w.filter fun x => x != i && x != k), firsts (w.filter fun x => x != i && x != k) h, firsts (w.filter fun x => x != i && x != k) s) := leftF_some _ w h s (by omega) h64 hin
  have j1 : ∀ q : Bool, q = !goodB h s i k a b c d → Ev (fun n => impl_RemovePair.j1 n q w h s i k) (if goodB h s i k a b c d then (normalL (w.filter fun x => x != i && x != k), firsts (w.filter fun x => x != i && x != k) h, firsts (w.filter fun x => x != i && x != k) s, 0) else (([] : List Int), ([] : List Int), ([] : List Int), 5)) := fun q hq => by
    refine Ev.step (fun n => by rw [impl_RemovePair.j1]) ?_
    cases hb : goodB h s i k a b c d with
    | true => rw [hb] at hq; subst hq; exact ev_neg (by simp) (ev_const hlf (ev_some _))
    | false => rw [hb] at hq; subst hq; exact ev_pos rfl (ev_some _)
  unfold impl_RemovePair.f
  refine Ev.bind (ev_isGauss w h s h64) (ev_pos hg (ev_const c1 (ev_pos rfl (ev_const c2 (ev_pos rfl ?_)))))
  refine Ev.step (fun n => by rw [impl_RemovePair.j0]) ?_
  refine ev_neg (by simpa using hne) (Ev.bind (ev_places w i a b ta (by omega)) (Ev.bind (ev_places w k c d tc (by omega)) ?_))
  refine ev_pos hi2.1 (ev_pos hi2.2.2 (ev_pos hk2.1 (ev_pos hk2.2.2 ?_)))
  by_cases hsum : rd s i = rd s k
  · refine ev_pos hsum (j1 true ?_)
    unfold goodB
    rw [decide_eq_false (fun h => h hsum), Bool.false_and, Bool.and_false]
    rfl
  · refine ev_neg hsum (ev_pos hi2.2.1 (ev_pos hk2.2.1 ?_))
    by_cases hhd : rd h i = rd h k
    · refine ev_pos hhd (ev_const (beside_some a c (by omega) (by omega)) ?_)
      cases hac : nearN a c with
      | true =>
        refine ev_pos rfl (ev_const (beside_some b d (by omega) (by omega)) (j1 _ ?_))
        unfold goodB
        rw [hac, decide_eq_true hsum, decide_eq_true hhd]
        simp
      | false =>
        refine ev_neg (by simp) (j1 true ?_)
        unfold goodB
        rw [hac]
        simp
    · refine ev_neg hhd (j1 true ?_)
      unfold goodB
      rw [decide_eq_false hhd]
      simp
end
theorem removePair_eq (w h s : List Int) (i k : Int) (h64 : Ok64 w) (hhl : h.length ≤ 1048576) (hsl : s.length ≤ 1048576) (hi64 : in64 i) (hk64 : in64 k) : ∃ (a b c : List Int) (d : Int), a.length ≤ 1048576 ∧ b.length ≤ 1048576 ∧ c.length ≤ 1048576 ∧ Ev (fun n => spec_RemovePair.f n w h s i k) (a, b, c, d) ∧ Ev (fun n => impl_RemovePair.f n w h s i k) (a, b, c, d) := by
  have hch := ev_chord w h s [i, k] hhl hsl (by simp)
  have bad : ∀ d : Int, d ≠ 0 → Ev (fun n => spec_l07Chord.f n w h s [i, k]) d → Ev (fun n => impl_RemovePair.f n w h s i k) (([] : List Int), ([] : List Int), ([] : List Int), d) → ∃ (a b c : List Int) (d : Int), a.length ≤ 1048576 ∧ b.length ≤ 1048576 ∧ c.length ≤ 1048576 ∧ Ev (fun n => spec_RemovePair.f n w h s i k) (a, b, c, d) ∧ Ev (fun n => impl_RemovePair.f n w h s i k) (a, b, c, d) := fun d hd h1 h2 => by
    refine ⟨[], [], [], d, by simp, by simp, by simp, ?_, h2⟩
    unfold spec_RemovePair.f
    refine Ev.bind h1 (ev_neg hd ?_)
    refine Ev.step (fun n => by rw [spec_RemovePair.j0]) ?_
    refine ev_neg (by simp) ?_
    refine Ev.step (fun n => by rw [spec_RemovePair.j1]) ?_
    exact ev_neg hd (ev_some _)
  cases hg : isGaussL w h s with
  | false =>
    rw [hg] at hch
    refine bad 1 (by omega) (by simpa using hch) ?_
    unfold impl_RemovePair.f
    exact Ev.bind (ev_isGauss w h s h64) (ev_neg (by simp [hg]) (ev_some _))
  | true =>
    obtain ⟨hw, hh, hs⟩ := gauss_parts hg
    obtain ⟨h12, hr⟩ := word_range hw
    have c1 := isChord_some w i (by omega)
    have c2 := isChord_some w k (by omega)
    rw [hg, hs] at hch
    simp only [List.all_cons, List.all_nil, Bool.and_true] at hch
    have two : Ev (fun n => impl_RemovePair.j0 n true w h s i k) (([] : List Int), ([] : List Int), ([] : List Int), 2) := by
      refine Ev.step (fun n => by rw [impl_RemovePair.j0]) ?_
      exact ev_pos rfl (ev_some _)
    cases hi : inB i 0 (((w.length / 2 : Nat) : Int) - 1) with
    | false =>
      rw [hi] at hch c1
      refine bad 2 (by omega) (by simpa using hch) ?_
      unfold impl_RemovePair.f
      exact Ev.bind (ev_isGauss w h s h64) (ev_pos hg (ev_const c1 (ev_neg (by simp) two)))
    | true =>
      cases hk : inB k 0 (((w.length / 2 : Nat) : Int) - 1) with
      | false =>
        rw [hi, hk] at hch
        rw [hi] at c1
        rw [hk] at c2
        refine bad 2 (by omega) (by simpa using hch) ?_
        unfold impl_RemovePair.f
        exact Ev.bind (ev_isGauss w h s h64) (ev_pos hg (ev_const c1 (ev_pos rfl (ev_const c2 (ev_neg (by simp) two)))))
      | true =>
        by_cases hne : i = k
        · rw [hi, hk] at hch
          rw [hi] at c1
          rw [hk] at c2
          have e : (i == k) = true := by simpa using hne
          refine ⟨[], [], [], 2, by simp, by simp, by simp, ?_, ?_⟩
          · unfold spec_RemovePair.f
            refine Ev.bind (a := 0) (by simpa using hch) (ev_pos rfl ?_)
            refine Ev.step (fun n => by rw [spec_RemovePair.j0]) ?_
            refine ev_pos e ?_
            refine Ev.step (fun n => by rw [spec_RemovePair.j1]) ?_
            exact ev_neg (by omega) (ev_some _)
          · unfold impl_RemovePair.f
            refine Ev.bind (ev_isGauss w h s h64) (ev_pos hg (ev_const c1 (ev_pos rfl (ev_const c2 (ev_pos rfl ?_)))))
            rw [e]
            exact two
        · obtain ⟨a, b, ta⟩ := gauss_two hg hi
          obtain ⟨c, d, tc⟩ := gauss_two hg hk
          have r1 := pair_spec hg hi hk ta tc hne
          have r2 := pair_impl hg h64 hi hk ta tc hne
          obtain ⟨q1, q2, q3⟩ := filter_lens (fun x => x != i && x != k) w h s h12
          cases hb : goodB h s i k a b c d with
          | true => rw [hb] at r1 r2; exact ⟨_, _, _, 0, q1, q2, q3, r1, r2⟩
          | false => rw [hb] at r1 r2; exact ⟨[], [], [], 5, by simp, by simp, by simp, r1, r2⟩
end Go.Proofs.Ytihfncjpfgdhoaa.K
end
section
namespace Go.Proofs.Ytihfncjpfgdhoaa.K
open Go.RowKit Go.Proofs.YtihfncjpfgdhoaaW.PrintWords Go.Proofs.YtihfncjpfgdhoaaW.PrintLast Go.Proofs.YtihfncjpfgdhoaaW.PrintMore Go.Proofs.Ytihfncjpfgdhoaa.PA Go.Proofs.Ytihfncjpfgdhoaa.PE Go.Proofs.Ytihfncjpfgdhoaa.PP
set_option maxHeartbeats 8000000 in
set_option maxRecDepth 100000 in
theorem exact_FnExactRemovePair (k : Nat) (A0 : Option Addr) (c0 : Nat) (l0 : List Int) (A1 : Option Addr) (c1 : Nat) (l1 : List Int) (A2 : Option Addr) (c2 : Nat) (l2 : List Int) (i1 i2 : Int) (a b c ma mb mc x1 x2 x3 : List Int) (d t m0 m1 : Int) (w : World) (hr0_ : CI w A0 l0.length l0) (hc0_ : l0.length ≤ c0) (hr1_ : CI w A1 l1.length l1) (hc1_ : l1.length ≤ c1) (hr2_ : CI w A2 l2.length l2) (hc2_ : l2.length ≤ c2)
    (hsz_ : laws_szGauss.f l0 l1 l2 1048576 = some t) (ht : decide (t < 0) = false) (hto_ : laws_toGauss.f k l0 l1 l2 = some (l0, l1, l2)) (hsp_ : spec_RemovePair.f k l0 l1 l2 i1 i2 = some (a, b, c, d)) (him_ : impl_RemovePair.f k l0 l1 l2 i1 i2 = some (a, b, c, d)) (heq_ : laws_eqGauss.f k a b c a b c = some true) (heq0_ : laws_eqGauss.f k l0 l1 l2 l0 l1 l2 = some true)
    (hm0_ : laws_markGauss.f k l0 l1 l2 1 = some (m0, x1, x2, x3)) (hq0 : decide (m0 < 0) = false) (hm1_ : laws_markGauss.f k a b c 1 = some (m1, ma, mb, mc)) (hh_ : laws_heldGauss.f k ma mb mc 1 = some m1) (hq1 : decide (m1 < 0) = false) :
    Calls Try.prog 8 #[.agg #[.slice A0 l0.length c0, .slice A1 l1.length c1, .slice A2 l2.length c2], .int .i64 i1, .int .i64 i2] w fun e w' => e = .returned (.bool true) ∧ Below w.heap.size w w' := by
  have hu30 := Try.underlying30
  have hu34 := Try.underlying34
  have hr0 := mk0 hr0_
  have hc0 := mk0 hc0_
  have hr1 := mk0 hr1_
  have hc1 := mk0 hc1_
  have hr2 := mk0 hr2_
  have hc2 := mk0 hc2_
  have hsz := mk0 hsz_
  have hto := mk0 hto_
  have hsp := mk0 hsp_
  have him := mk0 him_
  have heq := mk0 heq_
  have heq0 := mk0 heq0_
  have hm0 := mk0 hm0_
  have hm1 := mk0 hm1_
  have hh := mk0 hh_
  clear hr0_ hc0_ hr1_ hc1_ hr2_ hc2_ hsz_ hto_ hsp_ him_ heq_ heq0_ hm0_ hm1_ hh_
  have HB := mk0 (Below.refl w.heap.size w)
  have hdd : (d != d) = false := by simp
  have hmm : (m1 != m1) = false := by simp
  go_enter Try.func8, Try.ntmps8
  go_wp2_with (first
    | ((with_reducible refine gate_dst (N := 3) rfl ?_); refine box_event ?hg (N := 3) ?hd (cs := #[.slice A0 l0.length c0, .slice A1 l1.length c1, .slice A2 l2.length c2]) (t := 30) ?hr ?_; (case hd => rfl); (case hg => rfl); (case hr => first | (go_simp; done) | (go_simp; rfl)); intro g0 hg wn hbox hb; have Gg0 := mk0 (Nat.le_trans HB.out.size (Nat.le_of_eq hg.symm)); replace HB := mk0 (below_step HB.out hb); have X0 := mk0 hbox; clear hb hbox hg; (try clear z0_0 z0_1 z0_2 y0_0 y0_1 y0_2); (try clear z1_0 z1_1 z1_2 y1_0 y1_1 y1_2); (try clear z2_0 z2_1 z2_2 y2_0 y2_1 y2_2); obtain ⟨z0_0, z0_1, z0_2, y0_0, y0_1, y0_2⟩ := bk3 X0.out)
    | ((with_reducible refine gate_dst (N := 20) rfl ?_); refine goesL_ (some 20) rfl rfl Try.func21 (by kernel_rfl) rfl #[.agg #[.slice A0 l0.length c0, .slice A1 l1.length c1, .slice A2 l2.length c2], .int .i64 1048576] rfl (by (try simp only [List.map_toArray, List.map_cons, List.map_nil]); first | done | rfl) ?_; refine (laws_szGauss.calls _ _ l0 _ _ l1 _ _ l2 1048576 t _ (Kd.C_below hr0.out HB.out) hc0.out (Kd.C_below hr1.out HB.out) hc1.out (Kd.C_below hr2.out HB.out) hc2.out hsz.out).mono ?_; rintro e wn ⟨rfl, hb⟩; refine ⟨_, rfl, ?_⟩; replace X0 := mk0 (blk_below X0.out hb); replace HB := mk0 (below_step HB.out hb); clear hb; (try clear z0_0 z0_1 z0_2 y0_0 y0_1 y0_2); (try clear z1_0 z1_1 z1_2 y1_0 y1_1 y1_2); (try clear z2_0 z2_1 z2_2 y2_0 y2_1 y2_2); obtain ⟨z0_0, z0_1, z0_2, y0_0, y0_1, y0_2⟩ := bk3 X0.out)
    | ((with_reducible refine gate_dst (N := 25) rfl ?_); refine goesL_ (some 25) rfl rfl Try.func23 (by kernel_rfl) rfl #[.agg #[.slice A0 l0.length c0, .slice A1 l1.length c1, .slice A2 l2.length c2]] rfl (by (try simp only [List.map_toArray, List.map_cons, List.map_nil]); first | done | rfl) ?_; refine (laws_toGauss.calls k _ _ l0 _ _ l1 _ _ l2 l0 l1 l2 _ (Kd.C_below hr0.out HB.out) hc0.out (Kd.C_below hr1.out HB.out) hc1.out (Kd.C_below hr2.out HB.out) hc2.out hto.out).mono ?_; rintro e wn ⟨v0, v1, v2, rfl, ho0, ho1, ho2, hb⟩; refine ⟨_, rfl, ?_⟩; obtain ⟨tA0, tA1, tA2, tc0, tc1, tc2, rfl, rfl, rfl, n_⟩ := Tri.of HB.out.size ho0 ho1 ho2; have T := mk0 n_; clear n_ ho0 ho1 ho2; replace X0 := mk0 (blk_below X0.out hb); replace HB := mk0 (below_step HB.out hb); clear hb; (try clear z0_0 z0_1 z0_2 y0_0 y0_1 y0_2); (try clear z1_0 z1_1 z1_2 y1_0 y1_1 y1_2); (try clear z2_0 z2_1 z2_2 y2_0 y2_1 y2_2); obtain ⟨z0_0, z0_1, z0_2, y0_0, y0_1, y0_2⟩ := bk3 X0.out)
    | ((with_reducible refine gate_dst (N := 28) rfl ?_); refine goesL_ (some 28) rfl rfl Try.func34 (by kernel_rfl) rfl #[.agg #[.slice tA0 l0.length tc0, .slice tA1 l1.length tc1, .slice tA2 l2.length tc2], .int .i64 i1, .int .i64 i2] rfl (by (try simp only [List.map_toArray, List.map_cons, List.map_nil]); first | done | rfl) ?_; refine (spec_RemovePair.calls k _ _ l0 _ _ l1 _ _ l2 i1 i2 a b c d _ T.out.C0 T.out.L0 T.out.C1 T.out.L1 T.out.C2 T.out.L2 hsp.out).mono ?_; rintro e wn ⟨v0, v1, v2, rfl, ho0, ho1, ho2, hb⟩; refine ⟨_, rfl, ?_⟩; obtain ⟨wA0, wA1, wA2, wc0, wc1, wc2, rfl, rfl, rfl, n_⟩ := Tri.of HB.out.size ho0 ho1 ho2; have W := mk0 n_; clear n_ ho0 ho1 ho2; have DT_W := mk0 T.out.hs; replace X0 := mk0 (blk_below X0.out hb); replace T := mk0 (T.out.below hb); replace HB := mk0 (below_step HB.out hb); clear hb; clear T)
    | ((with_reducible refine gate_dst (N := 8) rfl ?_); refine box_event ?hg (N := 8) ?hd (cs := #[.slice none 0 0, .slice none 0 0, .slice none 0 0]) (t := 34) ?hr ?_; (case hd => rfl); (case hg => rfl); (case hr => first | (go_simp; done) | (go_simp; rfl)); intro g1 hg wn hbox hb; have Lg1_W := mk0 (Nat.le_trans W.out.hs (Nat.le_of_eq hg.symm)); have ng1_g0 : g0 ≠ g1 := fun e_ => Nat.ne_of_lt (blk_lt X0.out) (e_.trans hg); have ng0_g1 : g1 ≠ g0 := ng1_g0.symm; have Gg1 := mk0 (Nat.le_trans HB.out.size (Nat.le_of_eq hg.symm)); replace X0 := mk0 (blk_below X0.out hb); replace W := mk0 (W.out.below hb); replace HB := mk0 (below_step HB.out hb); have X1 := mk0 hbox; clear hb hbox hg; (try clear z0_0 z0_1 z0_2 y0_0 y0_1 y0_2); (try clear z1_0 z1_1 z1_2 y1_0 y1_1 y1_2); (try clear z2_0 z2_1 z2_2 y2_0 y2_1 y2_2); obtain ⟨z0_0, z0_1, z0_2, y0_0, y0_1, y0_2⟩ := bk3 X1.out; obtain ⟨z1_0, z1_1, z1_2, y1_0, y1_1, y1_2⟩ := bk3 X0.out)
    | ((with_reducible refine gate_dst (N := 32) rfl ?_); have K := mk0 (put3 X1.out (.slice wA0 a.length wc0) (.slice wA1 b.length wc1) (.slice wA2 c.length wc2)).2; replace X1 := mk0 (put3 X1.out (.slice wA0 a.length wc0) (.slice wA1 b.length wc1) (.slice wA2 c.length wc2)).1; replace HB := mk0 (put3_below HB.out Gg1.out (.slice wA0 a.length wc0) (.slice wA1 b.length wc1) (.slice wA2 c.length wc2)); replace X0 := mk0 (blk_kept X0.out K.out ng1_g0); replace W := mk0 (W.out.keptEq K.out Lg1_W.out); clear K; generalize World.setCell (World.setCell (World.setCell wn ⟨g1, 0, none⟩ (.slice wA0 a.length wc0)) ⟨g1, 1, none⟩ (.slice wA1 b.length wc1)) ⟨g1, 2, none⟩ (.slice wA2 c.length wc2) = wm at X0 X1 W HB ⊢; refine goesL_ (some 32) rfl rfl Try.func23 (by kernel_rfl) rfl #[.agg #[.slice A0 l0.length c0, .slice A1 l1.length c1, .slice A2 l2.length c2]] rfl (by (try simp only [List.map_toArray, List.map_cons, List.map_nil]); first | done | rfl) ?_; refine (laws_toGauss.calls k _ _ l0 _ _ l1 _ _ l2 l0 l1 l2 _ (Kd.C_below hr0.out HB.out) hc0.out (Kd.C_below hr1.out HB.out) hc1.out (Kd.C_below hr2.out HB.out) hc2.out hto.out).mono ?_; rintro e wn ⟨v0, v1, v2, rfl, ho0, ho1, ho2, hb⟩; refine ⟨_, rfl, ?_⟩; obtain ⟨xA0, xA1, xA2, xc0, xc1, xc2, rfl, rfl, rfl, n_⟩ := Tri.of HB.out.size ho0 ho1 ho2; have X := mk0 n_; clear n_ ho0 ho1 ho2; have DW_X := mk0 W.out.hs; replace X0 := mk0 (blk_below X0.out hb); replace X1 := mk0 (blk_below X1.out hb); replace W := mk0 (W.out.below hb); replace HB := mk0 (below_step HB.out hb); clear hb; (try clear z0_0 z0_1 z0_2 y0_0 y0_1 y0_2); (try clear z1_0 z1_1 z1_2 y1_0 y1_1 y1_2); (try clear z2_0 z2_1 z2_2 y2_0 y2_1 y2_2))
    | ((with_reducible refine gate_dst (N := 10) rfl ?_); refine box_event ?hg (N := 10) ?hd (cs := #[.slice none 0 0, .slice none 0 0, .slice none 0 0]) (t := 34) ?hr ?_; (case hd => rfl); (case hg => rfl); (case hr => first | (go_simp; done) | (go_simp; rfl)); intro g2 hg wn hbox hb; have Lg2_W := mk0 (Nat.le_trans W.out.hs (Nat.le_of_eq hg.symm)); have Lg2_X := mk0 (Nat.le_trans X.out.hs (Nat.le_of_eq hg.symm)); have ng2_g0 : g0 ≠ g2 := fun e_ => Nat.ne_of_lt (blk_lt X0.out) (e_.trans hg); have ng0_g2 : g2 ≠ g0 := ng2_g0.symm; have ng2_g1 : g1 ≠ g2 := fun e_ => Nat.ne_of_lt (blk_lt X1.out) (e_.trans hg); have ng1_g2 : g2 ≠ g1 := ng2_g1.symm; have Gg2 := mk0 (Nat.le_trans HB.out.size (Nat.le_of_eq hg.symm)); replace X0 := mk0 (blk_below X0.out hb); replace X1 := mk0 (blk_below X1.out hb); replace W := mk0 (W.out.below hb); replace X := mk0 (X.out.below hb); replace HB := mk0 (below_step HB.out hb); have X2 := mk0 hbox; clear hb hbox hg; (try clear z0_0 z0_1 z0_2 y0_0 y0_1 y0_2); (try clear z1_0 z1_1 z1_2 y1_0 y1_1 y1_2); (try clear z2_0 z2_1 z2_2 y2_0 y2_1 y2_2); obtain ⟨z0_0, z0_1, z0_2, y0_0, y0_1, y0_2⟩ := bk3 X2.out)
    | ((with_reducible refine gate_dst (N := 37) rfl ?_); have K := mk0 (put3 X2.out (.slice xA0 l0.length xc0) (.slice xA1 l1.length xc1) (.slice xA2 l2.length xc2)).2; replace X2 := mk0 (put3 X2.out (.slice xA0 l0.length xc0) (.slice xA1 l1.length xc1) (.slice xA2 l2.length xc2)).1; replace HB := mk0 (put3_below HB.out Gg2.out (.slice xA0 l0.length xc0) (.slice xA1 l1.length xc1) (.slice xA2 l2.length xc2)); replace X0 := mk0 (blk_kept X0.out K.out ng2_g0); replace X1 := mk0 (blk_kept X1.out K.out ng2_g1); replace W := mk0 (W.out.keptEq K.out Lg2_W.out); replace X := mk0 (X.out.keptEq K.out Lg2_X.out); clear K; generalize World.setCell (World.setCell (World.setCell wn ⟨g2, 0, none⟩ (.slice xA0 l0.length xc0)) ⟨g2, 1, none⟩ (.slice xA1 l1.length xc1)) ⟨g2, 2, none⟩ (.slice xA2 l2.length xc2) = wm at X0 X1 X2 W X HB ⊢; refine goesL_ (some 37) rfl rfl Try.func35 (by kernel_rfl) rfl #[.agg #[.slice xA0 l0.length xc0, .slice xA1 l1.length xc1, .slice xA2 l2.length xc2], .int .i64 i1, .int .i64 i2] rfl (by (try simp only [List.map_toArray, List.map_cons, List.map_nil]); first | done | rfl) ?_; refine (impl_RemovePair.calls k _ _ l0 _ _ l1 _ _ l2 i1 i2 a b c d _ X.out.C0 X.out.L0 X.out.C1 X.out.L1 X.out.C2 X.out.L2 him.out).mono ?_; rintro e wn ⟨v0, v1, v2, rfl, ho0, ho1, ho2, hb⟩; refine ⟨_, rfl, ?_⟩; obtain ⟨gA0, gA1, gA2, gc0, gc1, gc2, rfl, rfl, rfl, n_⟩ := Tri.of HB.out.size ho0 ho1 ho2; have G := mk0 n_; clear n_ ho0 ho1 ho2; have DW_G := mk0 W.out.hs; have DX_G := mk0 X.out.hs; replace X0 := mk0 (blk_below X0.out hb); replace X1 := mk0 (blk_below X1.out hb); replace X2 := mk0 (blk_below X2.out hb); replace W := mk0 (W.out.below hb); replace X := mk0 (X.out.below hb); replace HB := mk0 (below_step HB.out hb); clear hb)
    | ((with_reducible refine gate_dst (N := 11) rfl ?_); refine box_event ?hg (N := 11) ?hd (cs := #[.slice none 0 0, .slice none 0 0, .slice none 0 0]) (t := 34) ?hr ?_; (case hd => rfl); (case hg => rfl); (case hr => first | (go_simp; done) | (go_simp; rfl)); intro g3 hg wn hbox hb; have Lg3_W := mk0 (Nat.le_trans W.out.hs (Nat.le_of_eq hg.symm)); have Lg3_X := mk0 (Nat.le_trans X.out.hs (Nat.le_of_eq hg.symm)); have Lg3_G := mk0 (Nat.le_trans G.out.hs (Nat.le_of_eq hg.symm)); have ng3_g0 : g0 ≠ g3 := fun e_ => Nat.ne_of_lt (blk_lt X0.out) (e_.trans hg); have ng0_g3 : g3 ≠ g0 := ng3_g0.symm; have ng3_g1 : g1 ≠ g3 := fun e_ => Nat.ne_of_lt (blk_lt X1.out) (e_.trans hg); have ng1_g3 : g3 ≠ g1 := ng3_g1.symm; have ng3_g2 : g2 ≠ g3 := fun e_ => Nat.ne_of_lt (blk_lt X2.out) (e_.trans hg); have ng2_g3 : g3 ≠ g2 := ng3_g2.symm; have Gg3 := mk0 (Nat.le_trans HB.out.size (Nat.le_of_eq hg.symm)); replace X0 := mk0 (blk_below X0.out hb); replace X1 := mk0 (blk_below X1.out hb); replace X2 := mk0 (blk_below X2.out hb); replace W := mk0 (W.out.below hb); replace X := mk0 (X.out.below hb); replace G := mk0 (G.out.below hb); replace HB := mk0 (below_step HB.out hb); have X3 := mk0 hbox; clear hb hbox hg; (try clear z0_0 z0_1 z0_2 y0_0 y0_1 y0_2); (try clear z1_0 z1_1 z1_2 y1_0 y1_1 y1_2); (try clear z2_0 z2_1 z2_2 y2_0 y2_1 y2_2); obtain ⟨z0_0, z0_1, z0_2, y0_0, y0_1, y0_2⟩ := bk3 X3.out; obtain ⟨z1_0, z1_1, z1_2, y1_0, y1_1, y1_2⟩ := bk3 X1.out)
    | ((with_reducible refine gate_dst (N := 42) rfl ?_); have K := mk0 (put3 X3.out (.slice gA0 a.length gc0) (.slice gA1 b.length gc1) (.slice gA2 c.length gc2)).2; replace X3 := mk0 (put3 X3.out (.slice gA0 a.length gc0) (.slice gA1 b.length gc1) (.slice gA2 c.length gc2)).1; replace HB := mk0 (put3_below HB.out Gg3.out (.slice gA0 a.length gc0) (.slice gA1 b.length gc1) (.slice gA2 c.length gc2)); replace X0 := mk0 (blk_kept X0.out K.out ng3_g0); replace X1 := mk0 (blk_kept X1.out K.out ng3_g1); replace X2 := mk0 (blk_kept X2.out K.out ng3_g2); replace W := mk0 (W.out.keptEq K.out Lg3_W.out); replace X := mk0 (X.out.keptEq K.out Lg3_X.out); replace G := mk0 (G.out.keptEq K.out Lg3_G.out); clear K; generalize World.setCell (World.setCell (World.setCell wn ⟨g3, 0, none⟩ (.slice gA0 a.length gc0)) ⟨g3, 1, none⟩ (.slice gA1 b.length gc1)) ⟨g3, 2, none⟩ (.slice gA2 c.length gc2) = wm at X0 X1 X2 X3 W X G HB ⊢; refine goesL_ (some 42) rfl rfl Try.func25 (by kernel_rfl) rfl #[.agg #[.slice gA0 a.length gc0, .slice gA1 b.length gc1, .slice gA2 c.length gc2], .agg #[.slice wA0 a.length wc0, .slice wA1 b.length wc1, .slice wA2 c.length wc2]] rfl (by (try simp only [List.map_toArray, List.map_cons, List.map_nil]); first | done | rfl) ?_; refine (laws_eqGauss.calls k _ _ a _ _ b _ _ c _ _ a _ _ b _ _ c true _ G.out.C0 G.out.L0 G.out.C1 G.out.L1 G.out.C2 G.out.L2 W.out.C0 W.out.L0 W.out.C1 W.out.L1 W.out.C2 W.out.L2 heq.out).mono ?_; rintro e wn ⟨rfl, hb⟩; refine ⟨_, rfl, ?_⟩; replace X0 := mk0 (blk_below X0.out hb); replace X1 := mk0 (blk_below X1.out hb); replace X2 := mk0 (blk_below X2.out hb); replace X3 := mk0 (blk_below X3.out hb); replace W := mk0 (W.out.below hb); replace X := mk0 (X.out.below hb); replace G := mk0 (G.out.below hb); replace HB := mk0 (below_step HB.out hb); clear hb; (try clear z0_0 z0_1 z0_2 y0_0 y0_1 y0_2); (try clear z1_0 z1_1 z1_2 y1_0 y1_1 y1_2); (try clear z2_0 z2_1 z2_2 y2_0 y2_1 y2_2)))
  replace X0 := mk0 (blk_drew X0.out)
  replace X1 := mk0 (blk_drew X1.out)
  replace X2 := mk0 (blk_drew X2.out)
  replace X3 := mk0 (blk_drew X3.out)
  replace W := mk0 W.out.drew
  replace X := mk0 X.out.drew
  replace G := mk0 G.out.drew
  replace HB := mk0 (below_drew1 HB.out)
  refine start_ (n := 5) (S := fun w' => w'.cell? ⟨g2, 0, none⟩ = some (.slice xA0 l0.length xc0) ∧ w'.cell? ⟨g2, 1, none⟩ = some (.slice xA1 l1.length xc1) ∧ w'.cell? ⟨g2, 2, none⟩ = some (.slice xA2 l2.length xc2) ∧ w'.cell? ⟨g0, 0, none⟩ = some (.slice A0 l0.length c0) ∧ w'.cell? ⟨g0, 1, none⟩ = some (.slice A1 l1.length c1) ∧ w'.cell? ⟨g0, 2, none⟩ = some (.slice A2 l2.length c2)) (ds := []) #[false, false, false, false, false] (by kernel_rfl) rfl rfl ⟨(bk3 X2.out).1, (bk3 X2.out).2.1, (bk3 X2.out).2.2.1, (bk3 X0.out).1, (bk3 X0.out).2.1, (bk3 X0.out).2.2.1⟩ (fun hHeld => ?_)
  generalize wn.drew = wd at X0 X1 X2 X3 W X G HB hHeld ⊢
  refine take_ (i := 0) (N := some 49) (v := ?_) (a' := ?_) #[true, false, false, false, false] rfl rfl (by kernel_rfl) (fun _ _ _ h => h) (Or.inl ⟨by rfl, ?_⟩) hHeld ?_ ?_
  rotate_left
  · rintro w' ⟨s0, s1, s2, s3, s4, s5⟩
    go_simp
    with_reducible rfl
  rotate_left
  · simp only [Act.put, List.setIfInBounds_toArray, List.set_cons_zero, List.set_cons_succ, i64_w, i32_w]
    rfl
  refine take_ (i := 1) (N := some 50) (v := ?_) (a' := ?_) #[true, true, false, false, false] rfl rfl (by kernel_rfl) (fun _ _ _ h => h) (Or.inl ⟨by rfl, ?_⟩) hHeld ?_ ?_
  rotate_left
  · rintro w' ⟨s0, s1, s2, s3, s4, s5⟩
    go_simp
    with_reducible rfl
  rotate_left
  · simp only [Act.put, List.setIfInBounds_toArray, List.set_cons_zero, List.set_cons_succ, i64_w, i32_w]
    rfl
  refine one_ (i := 2) (N := some 51) #[true, true, true, false, false] rfl rfl (by kernel_rfl) (by decide) (fun K hK => ?_)
  refine goes_ Try.func23 (by kernel_rfl) rfl #[.agg #[.slice A0 l0.length c0, .slice A1 l1.length c1, .slice A2 l2.length c2]] (by rfl) rfl rfl (by (try simp only [List.map_toArray, List.map_cons, List.map_nil]); first | done | rfl) ?_
  refine (laws_toGauss.calls k _ _ l0 _ _ l1 _ _ l2 l0 l1 l2 _ (Kd.C_below hr0.out HB.out) hc0.out (Kd.C_below hr1.out HB.out) hc1.out (Kd.C_below hr2.out HB.out) hc2.out hto.out).mono ?_
  rintro e wn ⟨v0, v1, v2, rfl, ho0, ho1, ho2, hb⟩
  refine ⟨_, rfl, ?_⟩
  obtain ⟨tA0, tA1, tA2, tc0, tc1, tc2, rfl, rfl, rfl, n_⟩ := Tri.of HB.out.size ho0 ho1 ho2
  have T := mk0 n_
  clear n_ ho0 ho1 ho2
  have DW_T := mk0 W.out.hs
  have DX_T := mk0 X.out.hs
  have DG_T := mk0 G.out.hs
  replace X0 := mk0 (blk_below X0.out hb)
  replace X1 := mk0 (blk_below X1.out hb)
  replace X2 := mk0 (blk_below X2.out hb)
  replace X3 := mk0 (blk_below X3.out hb)
  replace W := mk0 (W.out.below hb)
  replace X := mk0 (X.out.below hb)
  replace G := mk0 (G.out.below hb)
  replace HB := mk0 (below_step HB.out hb)
  clear hb
  refine hK.out _ _ ⟨(bk3 X2.out).1, (bk3 X2.out).2.1, (bk3 X2.out).2.2.1, (bk3 X0.out).1, (bk3 X0.out).2.1, (bk3 X0.out).2.2.1⟩ (fun hHeld => ?_)
  clear hK K
  refine norm_ (a' := ?_) ?_ ?_
  rotate_left
  · show Act.put _ (some 51) _ = _
    simp only [Act.put, List.setIfInBounds_toArray, List.set_cons_zero, List.set_cons_succ, i64_w, i32_w]
    rfl
  refine one_ (i := 3) (N := some 52) #[true, true, true, true, false] rfl rfl (by kernel_rfl) (by decide) (fun K hK => ?_)
  refine goes_ Try.func25 (by kernel_rfl) rfl #[.agg #[.slice xA0 l0.length xc0, .slice xA1 l1.length xc1, .slice xA2 l2.length xc2], .agg #[.slice tA0 l0.length tc0, .slice tA1 l1.length tc1, .slice tA2 l2.length tc2]] (by rfl) rfl rfl (by (try simp only [List.map_toArray, List.map_cons, List.map_nil]); first | done | rfl) ?_
  refine (laws_eqGauss.calls k _ _ l0 _ _ l1 _ _ l2 _ _ l0 _ _ l1 _ _ l2 true _ X.out.C0 X.out.L0 X.out.C1 X.out.L1 X.out.C2 X.out.L2 T.out.C0 T.out.L0 T.out.C1 T.out.L1 T.out.C2 T.out.L2 heq0.out).mono ?_
  rintro e wn ⟨rfl, hb⟩
  refine ⟨_, rfl, ?_⟩
  replace X0 := mk0 (blk_below X0.out hb)
  replace X1 := mk0 (blk_below X1.out hb)
  replace X2 := mk0 (blk_below X2.out hb)
  replace X3 := mk0 (blk_below X3.out hb)
  replace W := mk0 (W.out.below hb)
  replace X := mk0 (X.out.below hb)
  replace G := mk0 (G.out.below hb)
  replace T := mk0 (T.out.below hb)
  replace HB := mk0 (below_step HB.out hb)
  clear hb
  refine hK.out _ _ ⟨(bk3 X2.out).1, (bk3 X2.out).2.1, (bk3 X2.out).2.2.1, (bk3 X0.out).1, (bk3 X0.out).2.1, (bk3 X0.out).2.2.1⟩ (fun hHeld => ?_)
  clear hK K
  refine norm_ (a' := ?_) ?_ ?_
  rotate_left
  · show Act.put _ (some 52) _ = _
    simp only [Act.put, List.setIfInBounds_toArray, List.set_cons_zero, List.set_cons_succ, i64_w, i32_w]
    rfl
  refine pure_ (i := 4) (N := some 53) (v := ?_) (a' := ?_) #[true, true, true, true, true] rfl rfl (by kernel_rfl) (fun _ _ _ h => h) (Or.inl ⟨by rfl, ?_⟩) ?_ ?_
  rotate_left
  · intro w'
    go_simp
    with_reducible rfl
  rotate_left
  · simp only [Act.put, List.setIfInBounds_toArray, List.set_cons_zero, List.set_cons_succ, i64_w, i32_w]
    rfl
  refine done_ (by kernel_rfl) ?_
  clear T
  (try clear hHeld)
  (try clear z0_0 z0_1 z0_2 y0_0 y0_1 y0_2)
  (try clear z1_0 z1_1 z1_2 y1_0 y1_1 y1_2)
  (try clear z2_0 z2_1 z2_2 y2_0 y2_1 y2_2)
  obtain ⟨z0_0, z0_1, z0_2, y0_0, y0_1, y0_2⟩ := bk3 X2.out
  go_wp2_with (first
    | ((with_reducible refine gate_dst (N := 56) rfl ?_); refine goesL_ (some 56) rfl rfl Try.func30 (by kernel_rfl) rfl #[.agg #[.slice xA0 l0.length xc0, .slice xA1 l1.length xc1, .slice xA2 l2.length xc2], .int .i64 1] rfl (by (try simp only [List.map_toArray, List.map_cons, List.map_nil]); first | done | rfl) ?_; refine (laws_markGauss.calls k (fun k_ => some k_ = (.slice xA0 l0.length xc0 : Value).ownBlock) (.slice xA0 l0.length xc0) l0 (fun k_ => some k_ = (.slice xA1 l1.length xc1 : Value).ownBlock) (.slice xA1 l1.length xc1) l1 (fun k_ => some k_ = (.slice xA2 l2.length xc2 : Value).ownBlock) (.slice xA2 l2.length xc2) l2 1 m0 x1 x2 x3 w _ HB.out X.out.T0 (fun k_ e1 e2 => X.out.s01 k_ e1 e2) (fun k_ e1 e2 => X.out.s02 k_ e1 e2) X.out.T1 (fun k_ e1 e2 => X.out.s01 k_ e2 e1) (fun k_ e1 e2 => X.out.s12 k_ e1 e2) X.out.T2 (fun k_ e1 e2 => X.out.s02 k_ e2 e1) (fun k_ e1 e2 => X.out.s12 k_ e2 e1) hm0.out).mono ?_; rintro e wn ⟨rfl, hy0, hy1, hy2, hbb, hkp⟩; refine ⟨_, rfl, ?_⟩; have nW := mk0 (W.out.apart X.out hkp (by have := DW_X.out; omega)); have nG := mk0 (G.out.apart X.out hkp (by have := DX_G.out; omega)); have nX0 := mk0 (X.out.blk X0.out (by decide) hkp); have nX1 := mk0 (X.out.blk X1.out (by decide) hkp); have nX2 := mk0 (X.out.blk X2.out (by decide) hkp); have nX3 := mk0 (X.out.blk X3.out (by decide) hkp); replace HB := mk0 hbb; clear X; clear W G X0 X1 X2 X3 hy0 hy1 hy2 hkp hbb; have W := nW; have G := nG; have X0 := nX0; have X1 := nX1; have X2 := nX2; have X3 := nX3; clear nW nG nX0 nX1 nX2 nX3; (try clear z0_0 z0_1 z0_2 y0_0 y0_1 y0_2); (try clear z1_0 z1_1 z1_2 y1_0 y1_1 y1_2); (try clear z2_0 z2_1 z2_2 y2_0 y2_1 y2_2); obtain ⟨z0_0, z0_1, z0_2, y0_0, y0_1, y0_2⟩ := bk3 X3.out; obtain ⟨z1_0, z1_1, z1_2, y1_0, y1_1, y1_2⟩ := bk3 X1.out)
    | (go_at_call 25; (with_reducible refine (laws_eqGauss.calls k _ _ a _ _ b _ _ c _ _ a _ _ b _ _ c true _ G.out.C0 G.out.L0 G.out.C1 G.out.L1 G.out.C2 G.out.L2 W.out.C0 W.out.L0 W.out.C1 W.out.L1 W.out.C2 W.out.L2 heq.out).mono ?_); rintro e wn ⟨rfl, hb⟩; replace X0 := mk0 (blk_below X0.out hb); replace X1 := mk0 (blk_below X1.out hb); replace X2 := mk0 (blk_below X2.out hb); replace X3 := mk0 (blk_below X3.out hb); replace W := mk0 (W.out.below hb); replace G := mk0 (G.out.below hb); replace HB := mk0 (below_step HB.out hb); clear hb; (try clear z0_0 z0_1 z0_2 y0_0 y0_1 y0_2); (try clear z1_0 z1_1 z1_2 y1_0 y1_1 y1_2); (try clear z2_0 z2_1 z2_2 y2_0 y2_1 y2_2); obtain ⟨z0_0, z0_1, z0_2, y0_0, y0_1, y0_2⟩ := bk3 X3.out)
    | ((with_reducible refine gate_dst (N := 72) rfl ?_); refine goesL_ (some 72) rfl rfl Try.func30 (by kernel_rfl) rfl #[.agg #[.slice gA0 a.length gc0, .slice gA1 b.length gc1, .slice gA2 c.length gc2], .int .i64 1] rfl (by (try simp only [List.map_toArray, List.map_cons, List.map_nil]); first | done | rfl) ?_; refine (laws_markGauss.calls k (fun k_ => some k_ = (.slice gA0 a.length gc0 : Value).ownBlock) (.slice gA0 a.length gc0) a (fun k_ => some k_ = (.slice gA1 b.length gc1 : Value).ownBlock) (.slice gA1 b.length gc1) b (fun k_ => some k_ = (.slice gA2 c.length gc2 : Value).ownBlock) (.slice gA2 c.length gc2) c 1 m1 ma mb mc w _ HB.out G.out.T0 (fun k_ e1 e2 => G.out.s01 k_ e1 e2) (fun k_ e1 e2 => G.out.s02 k_ e1 e2) G.out.T1 (fun k_ e1 e2 => G.out.s01 k_ e2 e1) (fun k_ e1 e2 => G.out.s12 k_ e1 e2) G.out.T2 (fun k_ e1 e2 => G.out.s02 k_ e2 e1) (fun k_ e1 e2 => G.out.s12 k_ e2 e1) hm1.out).mono ?_; rintro e wn ⟨rfl, hy0, hy1, hy2, hbb, hkp⟩; refine ⟨_, rfl, ?_⟩; have nW := mk0 (W.out.apart G.out hkp (by have := DW_G.out; omega)); have nX0 := mk0 (G.out.blk X0.out (by decide) hkp); have nX1 := mk0 (G.out.blk X1.out (by decide) hkp); have nX2 := mk0 (G.out.blk X2.out (by decide) hkp); have nX3 := mk0 (G.out.blk X3.out (by decide) hkp); replace HB := mk0 hbb; obtain ⟨q0, q1, q2, n_⟩ := G.out.marked hy0 hy1 hy2 hkp.1; have nG := mk0 n_; replace nX3 := mk0 (by have z := nX3.out; rw [q0, q1, q2] at z; exact z); clear n_ q0 q1 q2; clear W G X0 X1 X2 X3 hy0 hy1 hy2 hkp hbb; have W := nW; have G := nG; have X0 := nX0; have X1 := nX1; have X2 := nX2; have X3 := nX3; clear nW nG nX0 nX1 nX2 nX3; (try clear z0_0 z0_1 z0_2 y0_0 y0_1 y0_2); (try clear z1_0 z1_1 z1_2 y1_0 y1_1 y1_2); (try clear z2_0 z2_1 z2_2 y2_0 y2_1 y2_2); obtain ⟨z0_0, z0_1, z0_2, y0_0, y0_1, y0_2⟩ := bk3 X3.out)
    | ((with_reducible refine gate_dst (N := 75) rfl ?_); refine goesL_ (some 75) rfl rfl Try.func31 (by kernel_rfl) rfl #[.agg #[.slice gA0 ma.length gc0, .slice gA1 mb.length gc1, .slice gA2 mc.length gc2], .int .i64 1] rfl (by (try simp only [List.map_toArray, List.map_cons, List.map_nil]); first | done | rfl) ?_; refine (laws_heldGauss.calls k _ _ ma _ _ mb _ _ mc 1 m1 _ G.out.C0 G.out.L0 G.out.C1 G.out.L1 G.out.C2 G.out.L2 hh.out).mono ?_; rintro e wn ⟨rfl, hb⟩; refine ⟨_, rfl, ?_⟩; replace X0 := mk0 (blk_below X0.out hb); replace X1 := mk0 (blk_below X1.out hb); replace X2 := mk0 (blk_below X2.out hb); replace X3 := mk0 (blk_below X3.out hb); replace W := mk0 (W.out.below hb); replace G := mk0 (G.out.below hb); replace HB := mk0 (below_step HB.out hb); clear hb; (try clear z0_0 z0_1 z0_2 y0_0 y0_1 y0_2); (try clear z1_0 z1_1 z1_2 y1_0 y1_1 y1_2); (try clear z2_0 z2_1 z2_2 y2_0 y2_1 y2_2); obtain ⟨z0_0, z0_1, z0_2, y0_0, y0_1, y0_2⟩ := bk3 X0.out)
    | ((with_reducible refine gate_dst (N := 83) rfl ?_); refine goesL_ (some 83) rfl rfl Try.func23 (by kernel_rfl) rfl #[.agg #[.slice A0 l0.length c0, .slice A1 l1.length c1, .slice A2 l2.length c2]] rfl (by (try simp only [List.map_toArray, List.map_cons, List.map_nil]); first | done | rfl) ?_; refine (laws_toGauss.calls k _ _ l0 _ _ l1 _ _ l2 l0 l1 l2 _ (Kd.C_below hr0.out HB.out) hc0.out (Kd.C_below hr1.out HB.out) hc1.out (Kd.C_below hr2.out HB.out) hc2.out hto.out).mono ?_; rintro e wn ⟨v0, v1, v2, rfl, ho0, ho1, ho2, hb⟩; refine ⟨_, rfl, ?_⟩; obtain ⟨tA0, tA1, tA2, tc0, tc1, tc2, rfl, rfl, rfl, n_⟩ := Tri.of HB.out.size ho0 ho1 ho2; have T := mk0 n_; clear n_ ho0 ho1 ho2; have DW_T := mk0 W.out.hs; have DG_T := mk0 G.out.hs; replace X0 := mk0 (blk_below X0.out hb); replace X1 := mk0 (blk_below X1.out hb); replace X2 := mk0 (blk_below X2.out hb); replace X3 := mk0 (blk_below X3.out hb); replace W := mk0 (W.out.below hb); replace G := mk0 (G.out.below hb); replace HB := mk0 (below_step HB.out hb); clear hb; (try clear z0_0 z0_1 z0_2 y0_0 y0_1 y0_2); (try clear z1_0 z1_1 z1_2 y1_0 y1_1 y1_2); (try clear z2_0 z2_1 z2_2 y2_0 y2_1 y2_2))
    | ((with_reducible refine gate_dst (N := 86) rfl ?_); refine goesL_ (some 86) rfl rfl Try.func35 (by kernel_rfl) rfl #[.agg #[.slice tA0 l0.length tc0, .slice tA1 l1.length tc1, .slice tA2 l2.length tc2], .int .i64 i1, .int .i64 i2] rfl (by (try simp only [List.map_toArray, List.map_cons, List.map_nil]); first | done | rfl) ?_; refine (impl_RemovePair.calls k _ _ l0 _ _ l1 _ _ l2 i1 i2 a b c d _ T.out.C0 T.out.L0 T.out.C1 T.out.L1 T.out.C2 T.out.L2 him.out).mono ?_; rintro e wn ⟨v0, v1, v2, rfl, ho0, ho1, ho2, hb⟩; refine ⟨_, rfl, ?_⟩; obtain ⟨hA0, hA1, hA2, hc0, hc1, hc2, rfl, rfl, rfl, n_⟩ := Tri.of HB.out.size ho0 ho1 ho2; have H := mk0 n_; clear n_ ho0 ho1 ho2; have DW_H := mk0 W.out.hs; have DG_H := mk0 G.out.hs; have DT_H := mk0 T.out.hs; replace X0 := mk0 (blk_below X0.out hb); replace X1 := mk0 (blk_below X1.out hb); replace X2 := mk0 (blk_below X2.out hb); replace X3 := mk0 (blk_below X3.out hb); replace W := mk0 (W.out.below hb); replace G := mk0 (G.out.below hb); replace T := mk0 (T.out.below hb); replace HB := mk0 (below_step HB.out hb); clear hb; clear T)
    | ((with_reducible refine gate_dst (N := 16) rfl ?_); refine box_event ?hg (N := 16) ?hd (cs := #[.slice none 0 0, .slice none 0 0, .slice none 0 0]) (t := 34) ?hr ?_; (case hd => rfl); (case hg => rfl); (case hr => first | (go_simp; done) | (go_simp; rfl)); intro g4 hg wn hbox hb; have Lg4_W := mk0 (Nat.le_trans W.out.hs (Nat.le_of_eq hg.symm)); have Lg4_G := mk0 (Nat.le_trans G.out.hs (Nat.le_of_eq hg.symm)); have Lg4_H := mk0 (Nat.le_trans H.out.hs (Nat.le_of_eq hg.symm)); have ng4_g0 : g0 ≠ g4 := fun e_ => Nat.ne_of_lt (blk_lt X0.out) (e_.trans hg); have ng0_g4 : g4 ≠ g0 := ng4_g0.symm; have ng4_g1 : g1 ≠ g4 := fun e_ => Nat.ne_of_lt (blk_lt X1.out) (e_.trans hg); have ng1_g4 : g4 ≠ g1 := ng4_g1.symm; have ng4_g2 : g2 ≠ g4 := fun e_ => Nat.ne_of_lt (blk_lt X2.out) (e_.trans hg); have ng2_g4 : g4 ≠ g2 := ng4_g2.symm; have ng4_g3 : g3 ≠ g4 := fun e_ => Nat.ne_of_lt (blk_lt X3.out) (e_.trans hg); have ng3_g4 : g4 ≠ g3 := ng4_g3.symm; have Gg4 := mk0 (Nat.le_trans HB.out.size (Nat.le_of_eq hg.symm)); replace X0 := mk0 (blk_below X0.out hb); replace X1 := mk0 (blk_below X1.out hb); replace X2 := mk0 (blk_below X2.out hb); replace X3 := mk0 (blk_below X3.out hb); replace W := mk0 (W.out.below hb); replace G := mk0 (G.out.below hb); replace H := mk0 (H.out.below hb); replace HB := mk0 (below_step HB.out hb); have X4 := mk0 hbox; clear hb hbox hg; (try clear z0_0 z0_1 z0_2 y0_0 y0_1 y0_2); (try clear z1_0 z1_1 z1_2 y1_0 y1_1 y1_2); (try clear z2_0 z2_1 z2_2 y2_0 y2_1 y2_2); obtain ⟨z0_0, z0_1, z0_2, y0_0, y0_1, y0_2⟩ := bk3 X4.out; obtain ⟨z1_0, z1_1, z1_2, y1_0, y1_1, y1_2⟩ := bk3 X1.out)
    | ((with_reducible refine gate_dst (N := 91) rfl ?_); have K := mk0 (put3 X4.out (.slice hA0 a.length hc0) (.slice hA1 b.length hc1) (.slice hA2 c.length hc2)).2; replace X4 := mk0 (put3 X4.out (.slice hA0 a.length hc0) (.slice hA1 b.length hc1) (.slice hA2 c.length hc2)).1; replace HB := mk0 (put3_below HB.out Gg4.out (.slice hA0 a.length hc0) (.slice hA1 b.length hc1) (.slice hA2 c.length hc2)); replace X0 := mk0 (blk_kept X0.out K.out ng4_g0); replace X1 := mk0 (blk_kept X1.out K.out ng4_g1); replace X2 := mk0 (blk_kept X2.out K.out ng4_g2); replace X3 := mk0 (blk_kept X3.out K.out ng4_g3); replace W := mk0 (W.out.keptEq K.out Lg4_W.out); replace G := mk0 (G.out.keptEq K.out Lg4_G.out); replace H := mk0 (H.out.keptEq K.out Lg4_H.out); clear K; generalize World.setCell (World.setCell (World.setCell wn ⟨g4, 0, none⟩ (.slice hA0 a.length hc0)) ⟨g4, 1, none⟩ (.slice hA1 b.length hc1)) ⟨g4, 2, none⟩ (.slice hA2 c.length hc2) = wm at X0 X1 X2 X3 X4 W G H HB ⊢; refine goesL_ (some 91) rfl rfl Try.func25 (by kernel_rfl) rfl #[.agg #[.slice hA0 a.length hc0, .slice hA1 b.length hc1, .slice hA2 c.length hc2], .agg #[.slice wA0 a.length wc0, .slice wA1 b.length wc1, .slice wA2 c.length wc2]] rfl (by (try simp only [List.map_toArray, List.map_cons, List.map_nil]); first | done | rfl) ?_; refine (laws_eqGauss.calls k _ _ a _ _ b _ _ c _ _ a _ _ b _ _ c true _ H.out.C0 H.out.L0 H.out.C1 H.out.L1 H.out.C2 H.out.L2 W.out.C0 W.out.L0 W.out.C1 W.out.L1 W.out.C2 W.out.L2 heq.out).mono ?_; rintro e wn ⟨rfl, hb⟩; refine ⟨_, rfl, ?_⟩; replace X0 := mk0 (blk_below X0.out hb); replace X1 := mk0 (blk_below X1.out hb); replace X2 := mk0 (blk_below X2.out hb); replace X3 := mk0 (blk_below X3.out hb); replace X4 := mk0 (blk_below X4.out hb); replace W := mk0 (W.out.below hb); replace G := mk0 (G.out.below hb); replace H := mk0 (H.out.below hb); replace HB := mk0 (below_step HB.out hb); clear hb; (try clear z0_0 z0_1 z0_2 y0_0 y0_1 y0_2); (try clear z1_0 z1_1 z1_2 y1_0 y1_1 y1_2); (try clear z2_0 z2_1 z2_2 y2_0 y2_1 y2_2); obtain ⟨z0_0, z0_1, z0_2, y0_0, y0_1, y0_2⟩ := bk3 X3.out)
    | ((with_reducible refine gate_dst (N := 100) rfl ?_); refine goesL_ (some 100) rfl rfl Try.func31 (by kernel_rfl) rfl #[.agg #[.slice gA0 ma.length gc0, .slice gA1 mb.length gc1, .slice gA2 mc.length gc2], .int .i64 1] rfl (by (try simp only [List.map_toArray, List.map_cons, List.map_nil]); first | done | rfl) ?_; refine (laws_heldGauss.calls k _ _ ma _ _ mb _ _ mc 1 m1 _ G.out.C0 G.out.L0 G.out.C1 G.out.L1 G.out.C2 G.out.L2 hh.out).mono ?_; rintro e wn ⟨rfl, hb⟩; refine ⟨_, rfl, ?_⟩; replace X0 := mk0 (blk_below X0.out hb); replace X1 := mk0 (blk_below X1.out hb); replace X2 := mk0 (blk_below X2.out hb); replace X3 := mk0 (blk_below X3.out hb); replace X4 := mk0 (blk_below X4.out hb); replace W := mk0 (W.out.below hb); replace G := mk0 (G.out.below hb); replace H := mk0 (H.out.below hb); replace HB := mk0 (below_step HB.out hb); clear hb; (try clear z0_0 z0_1 z0_2 y0_0 y0_1 y0_2); (try clear z1_0 z1_1 z1_2 y1_0 y1_1 y1_2); (try clear z2_0 z2_1 z2_2 y2_0 y2_1 y2_2)))
  go_ret
  exact ⟨rfl, HB.out⟩
theorem great_FnExactRemovePair (A0 : Option Addr) (c0 : Nat) (l0 : List Int) (A1 : Option Addr) (c1 : Nat) (l1 : List Int) (A2 : Option Addr) (c2 : Nat) (l2 : List Int) (i1 i2 : Int) (t : Int) (w : World) (hr0_ : CI w A0 l0.length l0) (hc0_ : l0.length ≤ c0) (hr1_ : CI w A1 l1.length l1) (hc1_ : l1.length ≤ c1) (hr2_ : CI w A2 l2.length l2) (hc2_ : l2.length ≤ c2) (hsz_ : laws_szGauss.f l0 l1 l2 1048576 = some t) (ht : decide (t < 0) = true) :
    Calls Try.prog 8 #[.agg #[.slice A0 l0.length c0, .slice A1 l1.length c1, .slice A2 l2.length c2], .int .i64 i1, .int .i64 i2] w fun e w' => e = .returned (.bool true) ∧ Below w.heap.size w w' := by
  have hu30 := Try.underlying30
  have hr0 := mk0 hr0_
  have hc0 := mk0 hc0_
  have hr1 := mk0 hr1_
  have hc1 := mk0 hc1_
  have hr2 := mk0 hr2_
  have hc2 := mk0 hc2_
  have hsz := mk0 hsz_
  clear hr0_ hc0_ hr1_ hc1_ hr2_ hc2_ hsz_
  have HB := mk0 (Below.refl w.heap.size w)
  go_enter Try.func8, Try.ntmps8
  go_wp2_with (first
    | ((with_reducible refine gate_dst (N := 3) rfl ?_); refine box_event ?hg (N := 3) ?hd (cs := #[.slice A0 l0.length c0, .slice A1 l1.length c1, .slice A2 l2.length c2]) (t := 30) ?hr ?_; (case hd => rfl); (case hg => rfl); (case hr => first | (go_simp; done) | (go_simp; rfl)); intro g0 hg wn hbox hb; have Gg0 := mk0 (Nat.le_trans HB.out.size (Nat.le_of_eq hg.symm)); replace HB := mk0 (below_step HB.out hb); have X0 := mk0 hbox; clear hb hbox hg; (try clear z0_0 z0_1 z0_2 y0_0 y0_1 y0_2); (try clear z1_0 z1_1 z1_2 y1_0 y1_1 y1_2); (try clear z2_0 z2_1 z2_2 y2_0 y2_1 y2_2); obtain ⟨z0_0, z0_1, z0_2, y0_0, y0_1, y0_2⟩ := bk3 X0.out)
    | ((with_reducible refine gate_dst (N := 20) rfl ?_); refine goesL_ (some 20) rfl rfl Try.func21 (by kernel_rfl) rfl #[.agg #[.slice A0 l0.length c0, .slice A1 l1.length c1, .slice A2 l2.length c2], .int .i64 1048576] rfl (by (try simp only [List.map_toArray, List.map_cons, List.map_nil]); first | done | rfl) ?_; refine (laws_szGauss.calls _ _ l0 _ _ l1 _ _ l2 1048576 t _ (Kd.C_below hr0.out HB.out) hc0.out (Kd.C_below hr1.out HB.out) hc1.out (Kd.C_below hr2.out HB.out) hc2.out hsz.out).mono ?_; rintro e wn ⟨rfl, hb⟩; refine ⟨_, rfl, ?_⟩; replace X0 := mk0 (blk_below X0.out hb); replace HB := mk0 (below_step HB.out hb); clear hb; (try clear z0_0 z0_1 z0_2 y0_0 y0_1 y0_2); (try clear z1_0 z1_1 z1_2 y1_0 y1_1 y1_2); (try clear z2_0 z2_1 z2_2 y2_0 y2_1 y2_2); obtain ⟨z0_0, z0_1, z0_2, y0_0, y0_1, y0_2⟩ := bk3 X0.out))
  go_ret
  exact ⟨rfl, HB.out⟩
theorem said_FnExactRemovePair (A0 : Option Addr) (c0 : Nat) (l0 : List Int) (A1 : Option Addr) (c1 : Nat) (l1 : List Int) (A2 : Option Addr) (c2 : Nat) (l2 : List Int) (i1 i2 : Int) (w : World) (hr0_ : CI w A0 l0.length l0) (hc0_ : l0.length ≤ c0) (hr1_ : CI w A1 l1.length l1) (hc1_ : l1.length ≤ c1) (hr2_ : CI w A2 l2.length l2) (hc2_ : l2.length ≤ c2) (hm0 : l0.length ≤ maxLen) (hw0 : ∀ x ∈ l0, (Lit.int .i64 x).wf = true) (hm1 : l1.length ≤ maxLen) (hw1 : ∀ x ∈ l1, (Lit.int .i64 x).wf = true) (hm2 : l2.length ≤ maxLen) (hw2 : ∀ x ∈ l2, (Lit.int .i64 x).wf = true) (wi1 : (Lit.int .i64 i1).wf = true) (wi2 : (Lit.int .i64 i2).wf = true) :
    Calls Try.prog 8 #[.agg #[.slice A0 l0.length c0, .slice A1 l1.length c1, .slice A2 l2.length c2], .int .i64 i1, .int .i64 i2] w fun e w' => e = .returned (.bool true) ∧ Below w.heap.size w w' := by
  rcases sz_gauss l0 l1 l2 hm0 hm1 hm2 with ⟨t, ht, hn⟩ | ⟨t, ht, hn, q0, q1, q2⟩
  · exact great_FnExactRemovePair A0 c0 l0 A1 c1 l1 A2 c2 l2 i1 i2 t w hr0_ hc0_ hr1_ hc1_ hr2_ hc2_ ht (decide_eq_true hn)
  obtain ⟨a, b, c, d, ha, hb, hc, ⟨K1, e1⟩, ⟨K2, e2⟩⟩ := removePair_eq l0 l1 l2 i1 i2 (fun x hx => wf_in64 (hw0 x hx)) q1 q2 (wf_in64 wi1) (wf_in64 wi2)
  obtain ⟨K3, e3⟩ := ev_toGauss l0 l1 l2 q0 q1 q2
  obtain ⟨K4, e4⟩ := ev_eqGauss_same a b c (by omega) (by omega) (by omega)
  obtain ⟨K5, e5⟩ := ev_eqGauss_same l0 l1 l2 q0 q1 q2
  obtain ⟨K6, e6⟩ := ev_markGauss l0 l1 l2 1 (by omega) (by omega) q0 q1 q2
  obtain ⟨K7, e7⟩ := ev_markGauss a b c 1 (by omega) (by omega) (by omega) (by omega) (by omega)
  obtain ⟨K8, e8⟩ := ev_heldGauss a.length b.length c.length 1 (by omega) (by omega) (by omega) (by omega) (by omega)
  exact exact_FnExactRemovePair (K1 + K2 + K3 + K4 + K5 + K6 + K7 + K8) A0 c0 l0 A1 c1 l1 A2 c2 l2 i1 i2 a b c _ _ _ _ _ _ d t _ _ w hr0_ hc0_ hr1_ hc1_ hr2_ hc2_ ht (decide_eq_false (by omega)) (e3 _ (by omega)) (e1 _ (by omega)) (e2 _ (by omega)) (e4 _ (by omega)) (e5 _ (by omega)) (e6 _ (by omega)) (decide_eq_false (by omega)) (e7 _ (by omega)) (e8 _ (by omega)) (decide_eq_false (by omega))
end Go.Proofs.Ytihfncjpfgdhoaa.K
end
