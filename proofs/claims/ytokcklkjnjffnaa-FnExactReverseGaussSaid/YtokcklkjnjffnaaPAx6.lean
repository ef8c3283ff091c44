/- Laid by this session's myprint.py over the kit's printer: contracts of functions of the program. Conditions: in each. -/
import Derived.Test.YtokcklkjnjffnaaKShort
import Derived.Test.YtokcklkjnjffnaaPAx0
import Derived.Test.YtokcklkjnjffnaaPAx3
import Derived.Test.YtokcklkjnjffnaaPAx5
import Derived.Test.YtokcklkjnjffnaaKRows
namespace Go.Proofs.Ytokcklkjnjffnaa.PA
open Go.RowKit Go.Proofs.YtokcklkjnjffnaaW.PrintWords Go.Proofs.YtokcklkjnjffnaaW.PrintLast Go.Proofs.YtokcklkjnjffnaaW.PrintMore
attribute [local go_sem] max2_int min2_int max_two min_two max_three min_three max_four min_four   -- for this text's walks alone
open Go.Proofs.Ytokcklkjnjffnaa.K
set_option linter.unusedVariables false
set_option linter.unusedSimpArgs false

/-! ### spec_l07Normal: function 75 -/
def spec_l07Normal.l0 : Nat → List Int → List Int → List Int → Int → List Int → List Int → List Int → Option (List Int × List Int × List Int)
  | 0, _, _, _, _, _, _, _ => none
  | k + 1, x1, x2, x7, x9, x161000, x161001, x161002 => if x9 < (x7.length : Int) then (if 0 ≤ x9 then (if 0 ≤ (rd x7 x9) then (if (rd x7 x9) < (x1.length : Int) then (if x161001.length < 17592186044416 then (if (rd x7 x9) < (x2.length : Int) then (if x161002.length < 17592186044416 then (spec_l07Normal.l0 k x1 x2 x7 (wrap64 (x9 + 1)) x161000 (x161001 ++ [rd x1 (rd x7 x9)]) (x161002 ++ [rd x2 (rd x7 x9)])) else (none)) else (none)) else (none)) else (none)) else (none)) else (none)) else (some (x161000, x161001, x161002))
def spec_l07Normal.f (k : Nat) (l0 : List Int) (l1 : List Int) (l2 : List Int) : Option (List Int × List Int × List Int) := (spec_l07Order.f k l0).bind fun t148 => ((spec_l01Normal.f k l0).bind fun t151 => (spec_l07Normal.l0 k l1 l2 t148 0 t151 (([] : List Int)) (([] : List Int))))
theorem spec_l07Normal.mono_l : ∀ k, (∀ y0 y1 y2 y3 y4 y5 y6, LeO (spec_l07Normal.l0 k y0 y1 y2 y3 y4 y5 y6) (spec_l07Normal.l0 (k + 1) y0 y1 y2 y3 y4 y5 y6))
  | 0 => fun _ _ _ _ _ _ _ r h => by simp [spec_l07Normal.l0] at h
  | k + 1 => by
    have ih0 := spec_l07Normal.mono_l k
    · intro y0 y1 y2 y3 y4 y5 y6
      unfold spec_l07Normal.l0
      repeat' first
      | (with_reducible exact ih0 _ _ _ _ _ _ _)
      | (with_reducible exact spec_l01Normal.mono _ _)
      | (with_reducible exact spec_l07Order.mono _ _)
      | (with_reducible exact LeO.refl _)
      | (with_reducible exact LeO.none _)
      | (with_reducible refine LeO.ite ?_ ?_)
      | (with_reducible refine LeO.bind ?_ (fun _ => ?_))
      | exact ih0 _ _ _ _ _ _ _
      | exact spec_l01Normal.mono _ _
      | exact spec_l07Order.mono _ _
      | exact LeO.none _
      | refine LeO.ite ?_ ?_
      | refine LeO.bind ?_ (fun _ => ?_)
theorem spec_l07Normal.mono : ∀ a0 a1 a2 k, LeO (spec_l07Normal.f k a0 a1 a2) (spec_l07Normal.f (k + 1) a0 a1 a2) := by
  intro a0 a1 a2 k
  have ih0 := spec_l07Normal.mono_l k
  unfold spec_l07Normal.f
  repeat' first
      | (with_reducible exact ih0 _ _ _ _ _ _ _)
      | (with_reducible exact spec_l01Normal.mono _ _)
      | (with_reducible exact spec_l07Order.mono _ _)
      | (with_reducible exact LeO.refl _)
      | (with_reducible exact LeO.none _)
      | (with_reducible refine LeO.ite ?_ ?_)
      | (with_reducible refine LeO.bind ?_ (fun _ => ?_))
      | exact ih0 _ _ _ _ _ _ _
      | exact spec_l01Normal.mono _ _
      | exact spec_l07Order.mono _ _
      | exact LeO.none _
      | refine LeO.ite ?_ ?_
      | refine LeO.bind ?_ (fun _ => ?_)
def spec_l07Normal.T5 : Bool × List (List Nat × List Nat) := (true, [([], []), ([0], [0]), ([], []), ([], []), ([], []), ([3, 4], [3, 4]), ([5], [5]), ([2, 6], [2, 6]), ([7], [7]), ([8], [8]), ([1, 9], [1, 9]), ([0, 1, 2, 3, 4, 5, 6, 7, 8, 9, 10], []), ([11, 10, 10, 0, 1, 2, 3, 4, 5, 6, 7, 8, 9, 10], [10, 11])])
def spec_l07Normal.B5 : List Nat := [0, 1, 0, 0, 0, 24, 56, 124, 252, 508, 1023, 2047, 4095]
theorem spec_l07Normal.tab5 : rtab .any (opsOf Try.f75 5) = spec_l07Normal.T5 := by kernel_rfl
theorem spec_l07Normal.bits5 : waitsOk spec_l07Normal.T5.2 spec_l07Normal.B5 = true := by kernel_rfl
def spec_l07Normal.T6 : Bool × List (List Nat × List Nat) := (true, [([], []), ([0], [0]), ([], []), ([], []), ([], []), ([3, 4], [3, 4]), ([5], [5]), ([2, 6], [2, 6]), ([7], [7]), ([8], [8]), ([1, 9], [1, 9]), ([0, 1, 2, 3, 4, 5, 6, 7, 8, 9, 10], []), ([11, 10, 10, 0, 1, 2, 3, 4, 5, 6, 7, 8, 9, 10], [10, 11])])
def spec_l07Normal.B6 : List Nat := [0, 1, 0, 0, 0, 24, 56, 124, 252, 508, 1023, 2047, 4095]
theorem spec_l07Normal.tab6 : rtab .any (opsOf Try.f75 6) = spec_l07Normal.T6 := by kernel_rfl
theorem spec_l07Normal.bits6 : waitsOk spec_l07Normal.T6.2 spec_l07Normal.B6 = true := by kernel_rfl
set_option maxHeartbeats 8000000 in
set_option maxRecDepth 100000 in
theorem spec_l07Normal.calls (k : Nat) (A0 : Option Addr) (c0 : Nat) (l0 : List Int) (A1 : Option Addr) (c1 : Nat) (l1 : List Int) (A2 : Option Addr) (c2 : Nat) (l2 : List Int) (r1 : List Int) (r2 : List Int) (r3 : List Int) (w : World) (hr0 : Kd.C (Kd.int .i64) w A0 l0.length l0) (hc0 : l0.length ≤ c0) (hr1 : Kd.C (Kd.int .i64) w A1 l1.length l1) (hc1 : l1.length ≤ c1) (hr2 : Kd.C (Kd.int .i64) w A2 l2.length l2) (hc2 : l2.length ≤ c2) (h : spec_l07Normal.f k l0 l1 l2 = some (r1, r2, r3)) :
    Calls Try.prog 75 #[.slice A0 l0.length c0, .slice A1 l1.length c1, .slice A2 l2.length c2] w fun e w' => ∃ v0_ v1_ v2_ : Value, e = .returned (.agg #[v0_, v1_, v2_]) ∧ Kd.R (Kd.int .i64) 2 w' w.heap.size (fun k_ => some k_ ≠ (v1_ : Value).ownBlock ∧ some k_ ≠ (v2_ : Value).ownBlock) v0_ r1 ∧ Kd.R (Kd.int .i64) 2 w' w.heap.size (fun k_ => some k_ ≠ (v0_ : Value).ownBlock ∧ some k_ ≠ (v2_ : Value).ownBlock) v1_ r2 ∧ Kd.R (Kd.int .i64) 2 w' w.heap.size (fun k_ => some k_ ≠ (v0_ : Value).ownBlock ∧ some k_ ≠ (v1_ : Value).ownBlock) v2_ r3 ∧ Below w.heap.size w w' := by
  have hu41 := Try.underlying41
  have HR0 := Aside0.mk hr0
  have HC0 := Aside0.mk hc0
  clear hr0 hc0
  have HR1 := Aside0.mk hr1
  have HC1 := Aside0.mk hc1
  clear hr1 hc1
  have HR2 := Aside0.mk hr2
  have HC2 := Aside0.mk hc2
  clear hr2 hc2
  have HB := mk0 (Below.refl w.heap.size w)
  have H : ((spec_l07Order.f k l0).bind fun t148 => ((spec_l01Normal.f k l0).bind fun t151 => (spec_l07Normal.l0 k l1 l2 t148 0 t151 (([] : List Int)) (([] : List Int))))) = some (r1, r2, r3) := h
  clear h
  replace H := Option.bind_eq_some_iff.mp H
  obtain ⟨t148, A40, H⟩ := H
  replace H : ((spec_l01Normal.f k l0).bind fun t151 => (spec_l07Normal.l0 k l1 l2 t148 0 t151 (([] : List Int)) (([] : List Int)))) = some (r1, r2, r3) := H
  have A4 := Aside0.mk A40
  clear A40
  replace H := Option.bind_eq_some_iff.mp H
  obtain ⟨t151, A50, H⟩ := H
  replace H : (spec_l07Normal.l0 k l1 l2 t148 0 t151 (([] : List Int)) (([] : List Int))) = some (r1, r2, r3) := H
  have A5 := Aside0.mk A50
  clear A50
  obtain ⟨y154, hy154⟩ : ∃ y_ : List Int, y_ = (([] : List Int)) := ⟨_, rfl⟩
  replace H : (spec_l07Normal.l0 k l1 l2 t148 0 t151 y154 (([] : List Int))) = some (r1, r2, r3) := by first | (rw [hy154]; with_reducible exact H) | (have H2_ := (Option.bind_some _ _).symm.trans H; rw [hy154]; with_reducible exact H2_) | (have H2_ := (Option.bind_some _ _).symm.trans H; with_reducible exact H2_) | with_reducible exact H | (rw [hy154]; exact H) | exact H
  have Ny154 := Aside0.mk hy154
  clear hy154
  obtain ⟨y157, hy157⟩ : ∃ y_ : List Int, y_ = (([] : List Int)) := ⟨_, rfl⟩
  replace H : (spec_l07Normal.l0 k l1 l2 t148 0 t151 y154 y157) = some (r1, r2, r3) := by first | (rw [hy157]; with_reducible exact H) | (have H2_ := (Option.bind_some _ _).symm.trans H; rw [hy157]; with_reducible exact H2_) | (have H2_ := (Option.bind_some _ _).symm.trans H; with_reducible exact H2_) | with_reducible exact H | (rw [hy157]; exact H) | exact H
  have Ny157 := Aside0.mk hy157
  clear hy157
  have H' := Aside0.mk H
  clear H
  go_enter Try.func75, Try.ntmps75
  go_wp2_with (first | ((with_reducible refine gate_dst (N := 6) rfl ?_); refine box_event ?hg (N := 6) ?hd (cs := #[.slice none 0 0, .slice none 0 0, .slice none 0 0]) (t := 41) ?hr ?_; (case hd => rfl); (case hg => rfl); (case hr => first | (go_simp; done) | (go_simp; rfl)); intro gb147 hg w6 hbox hb; have n0_ := mk0 (below_step HB.out hb); have n1_ := mk0 (hbox); have n2_ := mk0 ((by rw [hg]; exact (below_size HB.out) : w.heap.size ≤ gb147)); have n3_ := mk0 ((by rw [hg]; exact (below_size HB.out) : w.heap.size ≤ gb147)); clear HB; have HB := n0_; have BK147 := n1_; have GW147 := n2_; have GE147 := n3_; clear n0_ n1_ n2_ n3_; clear hb hbox hg) | ((with_reducible refine gate_callee (f := 115) rfl ?_); refine goesL_ (some 11) rfl rfl Try.func115 (by kernel_rfl) rfl #[.slice A0 l0.length c0] rfl (by (try simp only [List.map_toArray, List.map_cons, List.map_nil]); rfl) ?_; (with_reducible refine (spec_l07Order.calls k _ _ l0 t148 _ ?side1 ?side2 A4.out).mono ?_); (case side1 => exact (Kd.C_below HR0.out HB.out)); (case side2 => exact HC0.out); rintro e w7 ⟨v149, rfl, ho0, hb⟩; refine ⟨_, rfl, ?_⟩; have n0_ := mk0 (Kd.R_lower ho0 (below_size (by repeat (first | (with_reducible first | exact HB.out | apply below_alloc | apply pw_below_drewN | apply below_drew1 | refine below_set ?_ GE147.out) | exact HB.out)))); have n1_ := mk0 (blk_below BK147.out hb); have n2_ := mk0 (below_step (by repeat (first | (with_reducible first | exact HB.out | apply below_alloc | apply pw_below_drewN | apply below_drew1 | refine below_set ?_ GE147.out) | exact HB.out)) hb); clear BK147; clear HB; have HO150 := n0_; have BK147 := n1_; have HB := n2_; clear n0_ n1_ n2_; (try clear hb); (try clear hb2); (try clear hk); (try clear hi); (try clear ho0)) | ((with_reducible refine gate_callee (f := 102) rfl ?_); refine goesL_ (some 13) rfl rfl Try.func102 (by kernel_rfl) rfl #[.slice A0 l0.length c0] rfl (by (try simp only [List.map_toArray, List.map_cons, List.map_nil]); rfl) ?_; (with_reducible refine (spec_l01Normal.calls k _ _ l0 t151 _ ?side1 ?side2 A5.out).mono ?_); (case side1 => exact (Kd.C_below HR0.out HB.out)); (case side2 => exact HC0.out); rintro e w8 ⟨v152, rfl, ho0, hb⟩; refine ⟨_, rfl, ?_⟩; have n0_ := mk0 (Kd.R_elder' HO150.out (Kd.R_base ho0) hb); have n1_ := mk0 (Kd.R_lower (Kd.R_new' ho0 (Kd.R_lt HO150.out)) (below_size (by repeat (first | (with_reducible first | exact HB.out | apply below_alloc | apply pw_below_drewN | apply below_drew1 | refine below_set ?_ GE147.out) | exact HB.out)))); have n2_ := mk0 (blk_below BK147.out hb); have n3_ := mk0 (below_step (by repeat (first | (with_reducible first | exact HB.out | apply below_alloc | apply pw_below_drewN | apply below_drew1 | refine below_set ?_ GE147.out) | exact HB.out)) hb); clear HO150; clear BK147; clear HB; have HO150 := n0_; have HO153 := n1_; have BK147 := n2_; have HB := n3_; clear n0_ n1_ n2_ n3_; (try clear hb); (try clear hb2); (try clear hk); (try clear hi); (try clear ho0)) | ((with_reducible refine gate_dst (N := 14) rfl ?_); refine Kd.R_lit (Kd.int .i64) _ 2 ?hg (N := 14) ?hd (xs := ([] : List Int)) (inner := []) (ok := fun _ => True) (okp := fun _ => True) ?hr ?hp (fun _ hk => hk) trivial (Below.refl _ _) (Nat.le_refl _) (by simp) ?_; (case hd => rfl); (case hg => rfl); (case hr => first | (go_simp; done) | (go_simp; rfl)); (case hp => exact (Reps.none _ _)); intro v155 w9 ho10 hb hg_ hnew_; clear hg_ hnew_; (first | rw [← Ny154.out] at ho10 | (simp only [Int.reduceToNat] at ho10; rw [← Ny154.out] at ho10)); have n0_ := mk0 (Kd.R_elder' HO150.out (Kd.R_base ho10) hb); have n1_ := mk0 (Kd.R_elder' HO153.out (Kd.R_base ho10) hb); have n2_ := mk0 (Kd.R_lower (Kd.R_new' (Kd.R_new' ho10 (Kd.R_lt HO150.out)) (Kd.R_lt HO153.out)) (below_size (by repeat (first | (with_reducible first | exact HB.out | apply below_alloc | apply pw_below_drewN | apply below_drew1 | refine below_set ?_ GE147.out) | exact HB.out)))); have n3_ := mk0 (blk_below BK147.out hb); have n4_ := mk0 (below_step (by repeat (first | (with_reducible first | exact HB.out | apply below_alloc | apply pw_below_drewN | apply below_drew1 | refine below_set ?_ GE147.out) | exact HB.out)) hb); clear HO150; clear HO153; clear BK147; clear HB; have HO150 := n0_; have HO153 := n1_; have HO156 := n2_; have BK147 := n3_; have HB := n4_; clear n0_ n1_ n2_ n3_ n4_; clear hb ho10) | ((with_reducible refine gate_dst (N := 15) rfl ?_); refine Kd.R_lit (Kd.int .i64) _ 2 ?hg (N := 15) ?hd (xs := ([] : List Int)) (inner := []) (ok := fun _ => True) (okp := fun _ => True) ?hr ?hp (fun _ hk => hk) trivial (Below.refl _ _) (Nat.le_refl _) (by simp) ?_; (case hd => rfl); (case hg => rfl); (case hr => first | (go_simp; done) | (go_simp; rfl)); (case hp => exact (Reps.none _ _)); intro v158 w11 ho12 hb hg_ hnew_; clear hg_ hnew_; (first | rw [← Ny157.out] at ho12 | (simp only [Int.reduceToNat] at ho12; rw [← Ny157.out] at ho12)); have n0_ := mk0 (Kd.R_elder' HO150.out (Kd.R_base ho12) hb); have n1_ := mk0 (Kd.R_elder' HO153.out (Kd.R_base ho12) hb); have n2_ := mk0 (Kd.R_elder' HO156.out (Kd.R_base ho12) hb); have n3_ := mk0 (Kd.R_lower (Kd.R_new' (Kd.R_new' (Kd.R_new' ho12 (Kd.R_lt HO150.out)) (Kd.R_lt HO153.out)) (Kd.R_lt HO156.out)) (below_size (by repeat (first | (with_reducible first | exact HB.out | apply below_alloc | apply pw_below_drewN | apply below_drew1 | refine below_set ?_ GE147.out) | exact HB.out)))); have n4_ := mk0 (blk_below BK147.out hb); have n5_ := mk0 (below_step (by repeat (first | (with_reducible first | exact HB.out | apply below_alloc | apply pw_below_drewN | apply below_drew1 | refine below_set ?_ GE147.out) | exact HB.out)) hb); clear HO150; clear HO153; clear HO156; clear BK147; clear HB; have HO150 := n0_; have HO153 := n1_; have HO156 := n2_; have HO159 := n3_; have BK147 := n4_; have HB := n5_; clear n0_ n1_ n2_ n3_ n4_ n5_; clear hb ho12; obtain ⟨Ao13, co13, eo13⟩ := Kd.R_slice HO159.out; subst eo13; obtain ⟨Ao14, co14, eo14⟩ := Kd.R_slice HO156.out; subst eo14; obtain ⟨Ao15, co15, eo15⟩ := Kd.R_slice HO153.out; subst eo15) | ((with_reducible refine gate_dst (N := 8) rfl ?_); refine box_event ?hg (N := 8) ?hd (cs := #[.slice none 0 0, .slice none 0 0, .slice none 0 0]) (t := 41) ?hr ?_; (case hd => rfl); (case hg => rfl); (case hr => first | (go_simp; done) | (go_simp; rfl)); intro gb160 hg w16 hbox hb; have n0_ := mk0 (Kd.R_below HO150.out hb); have n1_ := mk0 (Kd.R_below HO153.out hb); have n2_ := mk0 (Kd.R_below HO156.out hb); have n3_ := mk0 (Kd.R_below HO159.out hb); have n4_ := mk0 (blk_below BK147.out hb); have n5_ := mk0 (below_step (by repeat (first | (with_reducible first | exact HB.out | apply below_alloc | apply pw_below_drewN | apply below_drew1 | refine below_set ?_ GE147.out) | exact HB.out)) hb); have n6_ := mk0 (hbox); have n7_ := mk0 ((by rw [hg]; exact (below_size (by repeat (first | (with_reducible first | exact HB.out | apply below_alloc | apply pw_below_drewN | apply below_drew1 | refine below_set ?_ GE147.out) | exact HB.out))) : w.heap.size ≤ gb160)); have n8_ := mk0 ((by rw [hg]; exact (below_size (by repeat (first | (with_reducible first | exact HB.out | apply below_alloc | apply pw_below_drewN | apply below_drew1 | refine below_set ?_ GE147.out) | exact HB.out))) : w.heap.size ≤ gb160)); have n9_ := mk0 ((by rw [hg]; exact Nat.ne_of_lt (blk_lt (g := gb147) (o := .cells #[.slice none 0 0, .slice none 0 0, .slice none 0 0] 41 (0, 0)) (by exact BK147.out)) : gb147 ≠ gb160)); have n10_ := mk0 ((by rw [hg]; exact Nat.ne_of_gt (blk_lt (g := gb147) (o := .cells #[.slice none 0 0, .slice none 0 0, .slice none 0 0] 41 (0, 0)) (by exact BK147.out)) : gb160 ≠ gb147)); clear HO150; clear HO153; clear HO156; clear HO159; clear BK147; clear HB; have HO150 := n0_; have HO153 := n1_; have HO156 := n2_; have HO159 := n3_; have BK147 := n4_; have HB := n5_; have BK160 := n6_; have GW160 := n7_; have GE160 := n8_; have NB147_160 := n9_; have NB160_147 := n10_; clear n0_ n1_ n2_ n3_ n4_ n5_ n6_ n7_ n8_ n9_ n10_; clear hb hbox hg; have hnb17 := NB160_147.out; have hnc17 := NB147_160.out; have hcz18_0 : w16.cell? ⟨gb160, 0, none⟩ = some (.slice none 0 0) := (blk_cell BK160.out 0).trans rfl; have hcz18_1 : w16.cell? ⟨gb160, 1, none⟩ = some (.slice none 0 0) := (blk_cell BK160.out 1).trans rfl; have hcz18_2 : w16.cell? ⟨gb160, 2, none⟩ = some (.slice none 0 0) := (blk_cell BK160.out 2).trans rfl; have hfz18_0 := blk_frozen BK160.out 0; have hfz18_1 := blk_frozen BK160.out 1; have hfz18_2 := blk_frozen BK160.out 2))
  go_loopg [9] k (fun kq v9 w' => ∃ (x9_1 : Int) (x161001_1 : List Int) (x161002_1 : List Int) (u161001 : Value) (u161002 : Value), v9 = .int .i64 x9_1 ∧ Aside0 (spec_l07Normal.l0 kq l1 l2 t148 x9_1 t151 x161001_1 x161002_1 = some (r1, r2, r3)) ∧ Aside0 (kq ≤ k) ∧ Aside0 (Kd.R (Kd.int .i64) 2 w' w.heap.size (fun k_ => some k_ ≠ ((.slice Ao15 t151.length co15) : Value).ownBlock ∧ some k_ ≠ (u161001 : Value).ownBlock ∧ some k_ ≠ (u161002 : Value).ownBlock) v149 t148) ∧ Aside0 (Kd.R (Kd.int .i64) 2 w' w.heap.size (fun k_ => some k_ ≠ (v149 : Value).ownBlock ∧ some k_ ≠ (u161001 : Value).ownBlock ∧ some k_ ≠ (u161002 : Value).ownBlock) (.slice Ao15 t151.length co15) t151) ∧ Aside0 (Kd.R (Kd.int .i64) 2 w' w.heap.size (fun k_ => some k_ ≠ (v149 : Value).ownBlock ∧ some k_ ≠ ((.slice Ao15 t151.length co15) : Value).ownBlock ∧ some k_ ≠ (u161002 : Value).ownBlock) u161001 x161001_1) ∧ Aside0 (Kd.R (Kd.int .i64) 2 w' w.heap.size (fun k_ => some k_ ≠ (v149 : Value).ownBlock ∧ some k_ ≠ ((.slice Ao15 t151.length co15) : Value).ownBlock ∧ some k_ ≠ (u161001 : Value).ownBlock) u161002 x161002_1) ∧ Aside0 (w'.heap[gb147]? = some (.cells #[(.slice none 0 0), (.slice none 0 0), (.slice none 0 0)] 41 (0, 0))) ∧ Aside0 (w'.heap[gb160]? = some (.cells #[(.slice Ao15 t151.length co15), u161001, u161002] 41 (0, 0))) ∧ Aside0 (Below w.heap.size w w'))
  case atStart => exact ⟨(0), (y154), (y157), (.slice Ao14 y154.length co14), (.slice Ao13 y157.length co13), (by first | rfl | (simp; done) | (simp [*]; done)), H', ⟨Nat.le_refl _⟩, ⟨by exact Kd.R_mono (Kd.R_far (p := ⟨gb160, 2, none⟩) (Kd.R_far (p := ⟨gb160, 1, none⟩) (Kd.R_far (p := ⟨gb160, 0, none⟩) (Kd.R_types HO150.out BK160.out (by decide)) (fun _ hk => hk.2) (.slice Ao15 t151.length co15)) (fun _ hk => hk.2) (.slice Ao14 y154.length co14)) (fun _ hk => hk.2) (.slice Ao13 y157.length co13)) (fun _ hk => ⟨hk.1.1.1.2, ⟨hk.1.1.2, hk.1.2⟩⟩)⟩, ⟨by exact Kd.R_mono (Kd.R_far (p := ⟨gb160, 2, none⟩) (Kd.R_far (p := ⟨gb160, 1, none⟩) (Kd.R_far (p := ⟨gb160, 0, none⟩) (Kd.R_types HO153.out BK160.out (by decide)) (fun _ hk => hk.2) (.slice Ao15 t151.length co15)) (fun _ hk => hk.2) (.slice Ao14 y154.length co14)) (fun _ hk => hk.2) (.slice Ao13 y157.length co13)) (fun _ hk => ⟨hk.1.1.1.2, ⟨hk.1.1.2, hk.1.2⟩⟩)⟩, ⟨by exact Kd.R_mono (Kd.R_far (p := ⟨gb160, 2, none⟩) (Kd.R_far (p := ⟨gb160, 1, none⟩) (Kd.R_far (p := ⟨gb160, 0, none⟩) (Kd.R_types HO156.out BK160.out (by decide)) (fun _ hk => hk.2) (.slice Ao15 t151.length co15)) (fun _ hk => hk.2) (.slice Ao14 y154.length co14)) (fun _ hk => hk.2) (.slice Ao13 y157.length co13)) (fun _ hk => ⟨hk.1.1.1.2, ⟨hk.1.1.2, hk.1.2⟩⟩)⟩, ⟨by exact Kd.R_mono (Kd.R_far (p := ⟨gb160, 2, none⟩) (Kd.R_far (p := ⟨gb160, 1, none⟩) (Kd.R_far (p := ⟨gb160, 0, none⟩) (Kd.R_types HO159.out BK160.out (by decide)) (fun _ hk => hk.2) (.slice Ao15 t151.length co15)) (fun _ hk => hk.2) (.slice Ao14 y154.length co14)) (fun _ hk => hk.2) (.slice Ao13 y157.length co13)) (fun _ hk => ⟨hk.1.1.1.2, ⟨hk.1.1.2, hk.1.2⟩⟩)⟩, ⟨by refine blk_far ?_ NB147_160.out _; refine blk_far ?_ NB147_160.out _; refine blk_far ?_ NB147_160.out _; exact BK147.out⟩, ⟨by refine blk_put (cs := #[.slice Ao15 t151.length co15, .slice Ao14 y154.length co14, .slice none 0 0]) ?_ 2 _ rfl; refine blk_put (cs := #[.slice Ao15 t151.length co15, .slice none 0 0, .slice none 0 0]) ?_ 1 _ rfl; refine blk_put (cs := #[.slice none 0 0, .slice none 0 0, .slice none 0 0]) ?_ 0 _ rfl; exact BK160.out⟩, ⟨by repeat (first | (with_reducible first | exact HB.out | apply below_alloc | apply pw_below_drewN | apply below_drew1 | refine below_set ?_ GE147.out | refine below_set ?_ GE160.out) | exact HB.out)⟩⟩
  case round =>
    clear H'
    try clear c1
    try clear c2
    try clear p2
    try clear c7
    try clear c10
    try clear c11
    try clear c17
    try clear hcz18_0
    try clear hcz18_1
    try clear hcz18_2
    try clear hfz18_0
    try clear hfz18_1
    try clear hfz18_2
    obtain ⟨x9_1, x161001_1, x161002_1, u161001, u161002, rfl, HA, HK1, HO_7, HO_161000, HO_161001, HO_161002, BK147, BK160, HB⟩ := hrel
    cases gk with
    | zero => exact absurd HA.out (by simp [spec_l07Normal.l0])
    | succ k1 =>
      have H := HA.out
      clear HA
      simp only [spec_l07Normal.l0] at H
      by_cases c19 : x9_1 < (t148.length : Int)
      · rw [if_pos c19] at H
        have c19b0 : decide (x9_1 < (t148.length : Int)) = true := decide_eq_true c19
        clear c19
        by_cases c20 : 0 ≤ x9_1
        · rw [if_pos c20] at H
          have c20b0 : decide (0 ≤ x9_1) = true := decide_eq_true c20
          clear c20
          by_cases c21 : 0 ≤ (rd t148 x9_1)
          · rw [if_pos c21] at H
            have c21b0 : decide (0 ≤ (rd t148 x9_1)) = true := decide_eq_true c21
            clear c21
            by_cases c22 : (rd t148 x9_1) < (l1.length : Int)
            · rw [if_pos c22] at H
              have c22b0 : decide ((rd t148 x9_1) < (l1.length : Int)) = true := decide_eq_true c22
              clear c22
              by_cases c23 : x161001_1.length < 17592186044416
              · rw [if_pos c23] at H
                have LMc23 := Aside0.mk c23
                clear c23
                obtain ⟨y163, hy163⟩ : ∃ y_ : List Int, y_ = (x161001_1 ++ [rd l1 (rd t148 x9_1)]) := ⟨_, rfl⟩
                replace H : (if (rd t148 x9_1) < (l2.length : Int) then (if x161002_1.length < 17592186044416 then (spec_l07Normal.l0 k1 l1 l2 t148 (wrap64 (x9_1 + 1)) t151 y163 (x161002_1 ++ [rd l2 (rd t148 x9_1)])) else (none)) else (none)) = some (r1, r2, r3) := by first | (rw [hy163]; with_reducible exact H) | (have H2_ := (Option.bind_some _ _).symm.trans H; rw [hy163]; with_reducible exact H2_) | (have H2_ := (Option.bind_some _ _).symm.trans H; with_reducible exact H2_) | with_reducible exact H | (rw [hy163]; exact H) | exact H
                have Ny163 := Aside0.mk hy163
                clear hy163
                by_cases c24 : (rd t148 x9_1) < (l2.length : Int)
                · rw [if_pos c24] at H
                  have c24b0 : decide ((rd t148 x9_1) < (l2.length : Int)) = true := decide_eq_true c24
                  clear c24
                  by_cases c25 : x161002_1.length < 17592186044416
                  · rw [if_pos c25] at H
                    have LMc25 := Aside0.mk c25
                    clear c25
                    obtain ⟨y168, hy168⟩ : ∃ y_ : List Int, y_ = (x161002_1 ++ [rd l2 (rd t148 x9_1)]) := ⟨_, rfl⟩
                    replace H : (spec_l07Normal.l0 k1 l1 l2 t148 (wrap64 (x9_1 + 1)) t151 y163 y168) = some (r1, r2, r3) := by first | (rw [hy168]; with_reducible exact H) | (have H2_ := (Option.bind_some _ _).symm.trans H; rw [hy168]; with_reducible exact H2_) | (have H2_ := (Option.bind_some _ _).symm.trans H; with_reducible exact H2_) | with_reducible exact H | (rw [hy168]; exact H) | exact H
                    have Ny168 := Aside0.mk hy168
                    clear hy168
                    have H' := Aside0.mk H
                    clear H
                    obtain ⟨Ao26, co26, eo26⟩ := Kd.R_slice HO_7.out
                    subst eo26
                    try go_wp2
                    have n0_ := mk0 (Kd.R_drew HO_7.out)
                    have n1_ := mk0 (Kd.R_drew HO_161000.out)
                    have n2_ := mk0 (Kd.R_drew HO_161001.out)
                    have n3_ := mk0 (Kd.R_drew HO_161002.out)
                    have n4_ := mk0 (blk_drew BK147.out)
                    have n5_ := mk0 (blk_drew BK160.out)
                    have n6_ := mk0 (below_drew1 HB.out)
                    clear HO_7
                    clear HO_161000
                    clear HO_161001
                    clear HO_161002
                    clear BK147
                    clear BK160
                    clear HB
                    have HO_7 := n0_
                    have HO_161000 := n1_
                    have HO_161001 := n2_
                    have HO_161002 := n3_
                    have BK147 := n4_
                    have BK160 := n5_
                    have HB := n6_
                    clear n0_ n1_ n2_ n3_ n4_ n5_ n6_
                    have p161 : 0 ≤ (x9_1 : Int) := of_decide_eq_true (by first | (with_reducible assumption) | assumption)
                    have q161 : x9_1 < (t148.length : Int) := of_decide_eq_true (by first | (with_reducible assumption) | assumption)
                    obtain ⟨ad161, e161, hx161_0⟩ := Kd.at_int (Kd.R_reads' HO_7.out).2.2 x9_1 p161 q161
                    cases e161
                    replace p161 := eq_true p161
                    replace q161 := eq_true q161
                    have p162 : 0 ≤ ((rd t148 x9_1) : Int) := of_decide_eq_true (by first | (with_reducible assumption) | assumption)
                    have q162 : (rd t148 x9_1) < (l1.length : Int) := of_decide_eq_true (by first | (with_reducible assumption) | assumption)
                    obtain ⟨ad162, e162, hx162_0⟩ := Kd.at_int HR1.out (rd t148 x9_1) p162 q162
                    have hw162_0 := hx162_0
                    cases e162
                    replace hx162_0 := (HB.out.cell (World.block_lt_of_cell? w _ hx162_0)).trans hx162_0
                    replace p162 := eq_true p162
                    replace q162 := eq_true q162
                    refine start_ (n := 13) (S := fun w' => w'.cell? ⟨gb160, 0, none⟩ = some (.slice Ao15 t151.length co15) ∧ w'.cell? ⟨gb160, 1, none⟩ = some (u161001) ∧ w'.cell? ⟨gb160, 2, none⟩ = some (u161002) ∧ w'.cell? (ad161.add (x9_1).toNat) = some (.int .i64 (rd t148 x9_1)) ∧ w'.cell? (ad162.add ((rd t148 x9_1)).toNat) = some (.int .i64 (rd l1 (rd t148 x9_1)))) (ds := [10, 12]) #[false, false, false, false, false, false, false, false, false, false, false, false, false] (by kernel_rfl) rfl rfl ⟨(blk_cell BK160.out 0).trans rfl, (blk_cell BK160.out 1).trans rfl, (blk_cell BK160.out 2).trans rfl, hx161_0, ((HB.out.cell (World.block_lt_of_cell? w _ hw162_0)).trans hw162_0)⟩ (fun hHeld => ?_); refine with_tabW spec_l07Normal.tab5 spec_l07Normal.bits5 (fun HT_ HW_ => ?_)
                    generalize wr.drew = w27 at HO_7 HO_161000 HO_161001 HO_161002 BK147 BK160 HB hx161_0 hx162_0 hHeld ⊢
                    refine pure_ (i := 0) (N := some 23) (v := ?_) (a' := ?_) #[true, false, false, false, false, false, false, false, false, false, false, false, false] rfl rfl (any_of HT_.out (by kernel_rfl)) (fun _ _ _ h => h) (Or.inl ⟨by rfl, ?_⟩) ?_ ?_
                    rotate_left
                    · intro w'
                      go_simp
                      with_reducible rfl
                    rotate_left
                    · simp only [Act.put, List.setIfInBounds_toArray, List.set_cons_zero, List.set_cons_succ, i64_w, i32_w]
                      rfl
                    refine pure_ (i := 2) (N := some 25) (v := ?_) (a' := ?_) #[true, false, true, false, false, false, false, false, false, false, false, false, false] rfl rfl (any_of HT_.out (by kernel_rfl)) (fun _ _ _ h => h) (Or.inl ⟨by rfl, ?_⟩) ?_ ?_
                    rotate_left
                    · intro w'
                      go_simp
                      with_reducible rfl
                    rotate_left
                    · simp only [Act.put, List.setIfInBounds_toArray, List.set_cons_zero, List.set_cons_succ, i64_w, i32_w]
                      rfl
                    refine pure_ (i := 3) (N := some 26) (v := ?_) (a' := ?_) #[true, false, true, true, false, false, false, false, false, false, false, false, false] rfl rfl (any_of HT_.out (by kernel_rfl)) (fun _ _ _ h => h) (Or.inl ⟨by rfl, ?_⟩) ?_ ?_
                    rotate_left
                    · intro w'
                      go_simp
                      with_reducible rfl
                    rotate_left
                    · simp only [Act.put, List.setIfInBounds_toArray, List.set_cons_zero, List.set_cons_succ, i64_w, i32_w]
                      rfl
                    refine pure_ (i := 4) (N := some 27) (v := ?_) (a' := ?_) #[true, false, true, true, true, false, false, false, false, false, false, false, false] rfl rfl (any_of HT_.out (by kernel_rfl)) (fun _ _ _ h => h) (Or.inl ⟨by rfl, ?_⟩) ?_ ?_
                    rotate_left
                    · intro w'
                      go_simp
                      with_reducible rfl
                    rotate_left
                    · simp only [Act.put, List.setIfInBounds_toArray, List.set_cons_zero, List.set_cons_succ, i64_w, i32_w]
                      rfl
                    refine pure_ (i := 5) (N := some 28) (v := ?_) (a' := ?_) #[true, false, true, true, true, true, false, false, false, false, false, false, false] rfl rfl (any_of HT_.out (by kernel_rfl)) (fun _ _ _ h => h) (Or.inl ⟨by rfl, ?_⟩) ?_ ?_
                    rotate_left
                    · intro w'
                      go_simp
                      with_reducible rfl
                    rotate_left
                    · simp only [Act.put, List.setIfInBounds_toArray, List.set_cons_zero, List.set_cons_succ, i64_w, i32_w]
                      rfl
                    refine take_ (i := 1) (N := some 24) (v := ?_) (a' := ?_) #[true, true, true, true, true, true, false, false, false, false, false, false, false] rfl rfl (take_ofW HT_.out HW_.out (by kernel_rfl)) (fun _ _ _ h => h) (Or.inl ⟨by rfl, ?_⟩) hHeld ?_ ?_
                    rotate_left
                    · rintro w' ⟨s0, s1, s2, s3, s4⟩
                      go_simp
                      with_reducible rfl
                    rotate_left
                    · simp only [Act.put, List.setIfInBounds_toArray, List.set_cons_zero, List.set_cons_succ, i64_w, i32_w]
                      rfl
                    refine take_ (i := 6) (N := some 29) (v := ?_) (a' := ?_) #[true, true, true, true, true, true, true, false, false, false, false, false, false] rfl rfl (take_ofW HT_.out HW_.out (by kernel_rfl)) (fun _ _ _ h => h) (Or.inl ⟨by rfl, ?_⟩) hHeld ?_ ?_
                    rotate_left
                    · rintro w' ⟨s0, s1, s2, s3, s4⟩
                      go_simp
                      with_reducible rfl
                    rotate_left
                    · simp only [Act.put, List.setIfInBounds_toArray, List.set_cons_zero, List.set_cons_succ, i64_w, i32_w]
                      rfl
                    refine pure_ (i := 7) (N := some 30) (v := ?_) (a' := ?_) #[true, true, true, true, true, true, true, true, false, false, false, false, false] rfl rfl (any_of HT_.out (by kernel_rfl)) (fun _ _ _ h => h) (Or.inl ⟨by rfl, ?_⟩) ?_ ?_
                    rotate_left
                    · intro w'
                      go_simp
                      with_reducible rfl
                    rotate_left
                    · simp only [Act.put, List.setIfInBounds_toArray, List.set_cons_zero, List.set_cons_succ, i64_w, i32_w]
                      rfl
                    refine take_ (i := 8) (N := some 31) (v := ?_) (a' := ?_) #[true, true, true, true, true, true, true, true, true, false, false, false, false] rfl rfl (take_ofW HT_.out HW_.out (by kernel_rfl)) (fun _ _ _ h => h) (Or.inl ⟨by rfl, ?_⟩) hHeld ?_ ?_
                    rotate_left
                    · rintro w' ⟨s0, s1, s2, s3, s4⟩
                      go_simp
                      with_reducible rfl
                    rotate_left
                    · simp only [Act.put, List.setIfInBounds_toArray, List.set_cons_zero, List.set_cons_succ, i64_w, i32_w]
                      rfl
                    refine one_ (i := 9) (N := some 32) #[true, true, true, true, true, true, true, true, true, true, false, false, false] rfl rfl (one_of HT_.out (by kernel_rfl)) (by decide) (fun K hK => ?_)
                    refine value_ (w1 := ?_) (v := ?_) (by rfl) rfl ?_ ?_
                    rotate_left 2
                    · go_simp
                      constructor
                      · rfl
                      · rfl
                    refine hK.out _ _ ⟨(blk_cell (blk_alloc BK160.out _) 0).trans rfl, (blk_cell (blk_alloc BK160.out _) 1).trans rfl, (blk_cell (blk_alloc BK160.out _) 2).trans rfl, (World.cell?_alloc_lt _ _ _ (World.block_lt_of_cell? _ _ (hHeld.2.2.2.1))).trans (hHeld.2.2.2.1), (World.cell?_alloc_lt _ _ _ (World.block_lt_of_cell? _ _ (((HB.out.cell (World.block_lt_of_cell? w _ hw162_0)).trans hw162_0)))).trans (((HB.out.cell (World.block_lt_of_cell? w _ hw162_0)).trans hw162_0))⟩ (fun hHeld => ?_)
                    clear hK K
                    refine norm_ (a' := ?_) ?_ ?_
                    rotate_left
                    · show Act.put _ (some 32) _ = _
                      simp only [Act.put, List.setIfInBounds_toArray, List.set_cons_zero, List.set_cons_succ, i64_w, i32_w]
                      rfl
                    refine last_ (i := 10) (N := some 33) #[true, true, true, true, true, true, true, true, true, true, true, false, false] rfl rfl (one_of HT_.out (by kernel_rfl)) (by decide) (fun K hK => ?_)
                    refine Kd.R_append_step (Kd.int .i64) (w0 := w) w.heap.size (by rfl) (.tmp 24) (.tmp 32) 25 2 (.int .i64 0) 8 rfl Try.underlying25 info2 rfl (by decide) (by omega) u161001 x161001_1 (rd l1 (rd t148 x9_1)) [.int .i64 (rd l1 (rd t148 x9_1))] (fun k_ => some k_ ≠ (.slice (some ad161) t148.length co26 : Value).ownBlock ∧ some k_ ≠ (.slice Ao15 t151.length co15 : Value).ownBlock ∧ some k_ ≠ (u161002 : Value).ownBlock) (fun _ => False) rfl rfl ?aP (fun _ hk => hk.elim) ?aF ?aO ?aB ?aS ?aL ?_
                    (case aP => exact rfl)
                    (case aB => exact (by repeat (first | (with_reducible first | exact HB.out | apply below_alloc | apply pw_below_drewN | apply below_drew1 | refine below_set ?_ GE147.out | refine below_set ?_ GE160.out) | exact HB.out)))
                    (case aF => exact (fun k_ hk => ⟨Kd.fresh' (Kd.R_lt HO_7.out) k_ hk, Kd.fresh' (Kd.R_lt HO_161000.out) k_ hk, Kd.fresh' (Kd.R_lt HO_161002.out) k_ hk⟩))
                    (case aO => exact HO_161001.out)
                    (case aS => exact (below_size (by repeat (first | (with_reducible first | exact HB.out | apply below_alloc | apply pw_below_drewN | apply below_drew1 | refine below_set ?_ GE147.out | refine below_set ?_ GE160.out) | exact HB.out))))
                    (case aL => have := LMc23.out; omega)
                    intro v164 w28 ho hb hg hat
                    rw [← Ny163.out] at ho
                    have n0_ := mk0 (Kd.R_after (ok := (fun k_ => some k_ ≠ (.slice Ao15 t151.length co15 : Value).ownBlock ∧ some k_ ≠ (u161002 : Value).ownBlock)) (by exact Kd.R_mono HO_7.out (fun _ hk => ⟨⟨hk.1, hk.2.2⟩, hk.2.1⟩)) hg hat)
                    have n1_ := mk0 (Kd.R_after (ok := (fun k_ => some k_ ≠ (.slice (some ad161) t148.length co26 : Value).ownBlock ∧ some k_ ≠ (u161002 : Value).ownBlock)) (by exact Kd.R_mono HO_161000.out (fun _ hk => ⟨⟨hk.1, hk.2.2⟩, hk.2.1⟩)) hg hat)
                    have n2_ := mk0 (Kd.R_after (ok := (fun k_ => some k_ ≠ (.slice (some ad161) t148.length co26 : Value).ownBlock ∧ some k_ ≠ (.slice Ao15 t151.length co15 : Value).ownBlock)) (by exact Kd.R_mono HO_161002.out (fun _ hk => ⟨⟨hk.1, hk.2.1⟩, hk.2.2⟩)) hg hat)
                    have n3_ := mk0 (blk_grown (g := gb147) (o := .cells #[.slice none 0 0, .slice none 0 0, .slice none 0 0] 41 (0, 0)) (by exact BK147.out) hg (Kd.R_ne HO_161001.out BK147.out (by decide)))
                    have n4_ := mk0 (blk_grown (g := gb160) (o := .cells #[.slice Ao15 t151.length co15, u161001, u161002] 41 (0, 0)) (by exact BK160.out) hg (Kd.R_ne HO_161001.out BK160.out (by decide)))
                    have n5_ := mk0 (hb)
                    have n6_ := mk0 (ho)
                    clear HO_7
                    clear HO_161000
                    clear HO_161002
                    clear BK147
                    clear BK160
                    clear HB
                    clear HO_161001
                    have HO_7 := n0_
                    have HO_161000 := n1_
                    have HO_161002 := n2_
                    have BK147 := n3_
                    have BK160 := n4_
                    have HB := n5_
                    have HO165 := n6_
                    clear n0_ n1_ n2_ n3_ n4_ n5_ n6_
                    clear ho hb hg hat
                    obtain ⟨Ao29, co29, eo29⟩ := Kd.R_slice HO165.out
                    (first | subst eo29 | (injection eo29 with f1_ f2_ f3_; have f4_ := f1_.symm; have f5_ := f3_.symm; clear f1_ f2_ f3_; subst f4_; subst f5_))
                    refine hK.out _ _ ?_
                    clear hK K
                    refine norm_ (a' := ?_) ?_ ?_
                    rotate_left
                    · show Act.put _ (some 33) _ = _
                      simp only [Act.put, List.setIfInBounds_toArray, List.set_cons_zero, List.set_cons_succ, i64_w, i32_w]
                      rfl
                    refine pure_ (i := 11) (N := some 34) (v := ?_) (a' := ?_) #[true, true, true, true, true, true, true, true, true, true, true, true, false] rfl rfl (any_of HT_.out (by kernel_rfl)) (fun _ _ _ h => h) (Or.inl ⟨by rfl, ?_⟩) ?_ ?_
                    rotate_left
                    · intro w'
                      go_simp
                      with_reducible rfl
                    rotate_left
                    · simp only [Act.put, List.setIfInBounds_toArray, List.set_cons_zero, List.set_cons_succ, i64_w, i32_w]
                      rfl
                    refine last_ (i := 12) (N := none) #[true, true, true, true, true, true, true, true, true, true, true, true, true] rfl rfl (one_of HT_.out (by kernel_rfl)) (by decide) (fun K hK => ?_)
                    have hs30 : w28.cell? ⟨gb160, 1, none⟩ = some (u161001) := (blk_cell BK160.out 1).trans rfl
                    have hfs30 := blk_frozen BK160.out 1
                    have hns30_0 := NB147_160.out
                    have hms30_0 := NB160_147.out
                    refine skip_ (w1 := ?_) (by rfl) rfl ?_ ?_
                    rotate_left
                    · go_simp
                      rfl
                    refine hK.out _ _ ?_
                    clear hK K
                    refine done_ (done_of HT_.out (by kernel_rfl)) ?_
                    try go_wp2
                    have n0_ : Aside0 (Kd.R (Kd.int .i64) 2 (w28.setCell ⟨gb160, 1, none⟩ (.slice Ao29 y163.length co29)) w.heap.size (fun k_ => some k_ ≠ (.slice Ao15 t151.length co15 : Value).ownBlock ∧ some k_ ≠ (u161002 : Value).ownBlock ∧ some k_ ≠ (.slice Ao29 y163.length co29 : Value).ownBlock) (.slice (some ad161) t148.length co26) t148) := ⟨by exact Kd.R_mono (Kd.R_far (p := ⟨gb160, 1, none⟩) (Kd.R_types HO_7.out BK160.out (by decide)) (fun _ hk => hk.2) (.slice Ao29 y163.length co29)) (fun _ hk => ⟨hk.1.1.1, ⟨hk.1.1.2, hk.1.2⟩⟩)⟩
                    have n1_ : Aside0 (Kd.R (Kd.int .i64) 2 (w28.setCell ⟨gb160, 1, none⟩ (.slice Ao29 y163.length co29)) w.heap.size (fun k_ => some k_ ≠ (.slice (some ad161) t148.length co26 : Value).ownBlock ∧ some k_ ≠ (u161002 : Value).ownBlock ∧ some k_ ≠ (.slice Ao29 y163.length co29 : Value).ownBlock) (.slice Ao15 t151.length co15) t151) := ⟨by exact Kd.R_mono (Kd.R_far (p := ⟨gb160, 1, none⟩) (Kd.R_types HO_161000.out BK160.out (by decide)) (fun _ hk => hk.2) (.slice Ao29 y163.length co29)) (fun _ hk => ⟨hk.1.1.1, ⟨hk.1.1.2, hk.1.2⟩⟩)⟩
                    have n2_ : Aside0 (Kd.R (Kd.int .i64) 2 (w28.setCell ⟨gb160, 1, none⟩ (.slice Ao29 y163.length co29)) w.heap.size (fun k_ => some k_ ≠ (.slice (some ad161) t148.length co26 : Value).ownBlock ∧ some k_ ≠ (.slice Ao15 t151.length co15 : Value).ownBlock ∧ some k_ ≠ (.slice Ao29 y163.length co29 : Value).ownBlock) u161002 x161002_1) := ⟨by exact Kd.R_mono (Kd.R_far (p := ⟨gb160, 1, none⟩) (Kd.R_types HO_161002.out BK160.out (by decide)) (fun _ hk => hk.2) (.slice Ao29 y163.length co29)) (fun _ hk => ⟨hk.1.1.1, ⟨hk.1.1.2, hk.1.2⟩⟩)⟩
                    have n3_ : Aside0 (Kd.R (Kd.int .i64) 2 (w28.setCell ⟨gb160, 1, none⟩ (.slice Ao29 y163.length co29)) w.heap.size (fun k_ => some k_ ≠ (.slice (some ad161) t148.length co26 : Value).ownBlock ∧ some k_ ≠ (.slice Ao15 t151.length co15 : Value).ownBlock ∧ some k_ ≠ (u161002 : Value).ownBlock) (.slice Ao29 y163.length co29) y163) := ⟨by exact Kd.R_mono (Kd.R_far (p := ⟨gb160, 1, none⟩) (Kd.R_types HO165.out BK160.out (by decide)) (fun _ hk => hk.2) (.slice Ao29 y163.length co29)) (fun _ hk => ⟨hk.1.1, ⟨hk.1.2.1, hk.1.2.2⟩⟩)⟩
                    have n4_ : Aside0 ((w28.setCell ⟨gb160, 1, none⟩ (.slice Ao29 y163.length co29)).heap[gb147]? = some (.cells #[.slice none 0 0, .slice none 0 0, .slice none 0 0] 41 (0, 0))) := ⟨by refine blk_far ?_ NB147_160.out _; exact BK147.out⟩
                    have n5_ : Aside0 ((w28.setCell ⟨gb160, 1, none⟩ (.slice Ao29 y163.length co29)).heap[gb160]? = some (.cells #[.slice Ao15 t151.length co15, .slice Ao29 y163.length co29, u161002] 41 (0, 0))) := ⟨by refine blk_put (cs := #[.slice Ao15 t151.length co15, u161001, u161002]) ?_ 1 _ rfl; exact BK160.out⟩
                    have n6_ : Aside0 (Below w.heap.size w (w28.setCell ⟨gb160, 1, none⟩ (.slice Ao29 y163.length co29))) := ⟨by repeat (first | (with_reducible first | exact HB.out | apply below_alloc | apply pw_below_drewN | apply below_drew1 | refine below_set ?_ GE147.out | refine below_set ?_ GE160.out) | exact HB.out)⟩
                    (try clear HO_7)
                    (try clear HO_161000)
                    (try clear HO_161002)
                    (try clear HO165)
                    (try clear BK147)
                    (try clear BK160)
                    (try clear HB)
                    generalize (w28.setCell ⟨gb160, 1, none⟩ (.slice Ao29 y163.length co29)) = w31 at n0_ n1_ n2_ n3_ n4_ n5_ n6_ ⊢
                    have HO_7 := n0_
                    have HO_161000 := n1_
                    have HO_161002 := n2_
                    have HO165 := n3_
                    have BK147 := n4_
                    have BK160 := n5_
                    have HB := n6_
                    clear n0_ n1_ n2_ n3_ n4_ n5_ n6_
                    have n0_ := mk0 (Kd.R_drew HO_7.out)
                    have n1_ := mk0 (Kd.R_drew HO_161000.out)
                    have n2_ := mk0 (Kd.R_drew HO_161002.out)
                    have n3_ := mk0 (Kd.R_drew HO165.out)
                    have n4_ := mk0 (blk_drew BK147.out)
                    have n5_ := mk0 (blk_drew BK160.out)
                    have n6_ := mk0 (below_drew1 HB.out)
                    clear HO_7
                    clear HO_161000
                    clear HO_161002
                    clear HO165
                    clear BK147
                    clear BK160
                    clear HB
                    have HO_7 := n0_
                    have HO_161000 := n1_
                    have HO_161002 := n2_
                    have HO165 := n3_
                    have BK147 := n4_
                    have BK160 := n5_
                    have HB := n6_
                    clear n0_ n1_ n2_ n3_ n4_ n5_ n6_
                    have p166 : 0 ≤ (x9_1 : Int) := of_decide_eq_true (by first | (with_reducible assumption) | assumption)
                    have q166 : x9_1 < (t148.length : Int) := of_decide_eq_true (by first | (with_reducible assumption) | assumption)
                    obtain ⟨ad166, e166, hx166_0⟩ := Kd.at_int (Kd.R_reads' HO_7.out).2.2 x9_1 p166 q166
                    obtain rfl : ad161 = ad166 := (by injection e166)
                    replace p166 := eq_true p166
                    replace q166 := eq_true q166
                    have p167 : 0 ≤ ((rd t148 x9_1) : Int) := of_decide_eq_true (by first | (with_reducible assumption) | assumption)
                    have q167 : (rd t148 x9_1) < (l2.length : Int) := of_decide_eq_true (by first | (with_reducible assumption) | assumption)
                    obtain ⟨ad167, e167, hx167_0⟩ := Kd.at_int HR2.out (rd t148 x9_1) p167 q167
                    have hw167_0 := hx167_0
                    cases e167
                    replace hx167_0 := (HB.out.cell (World.block_lt_of_cell? w _ hx167_0)).trans hx167_0
                    replace p167 := eq_true p167
                    replace q167 := eq_true q167
                    refine start_ (n := 13) (S := fun w' => w'.cell? ⟨gb160, 0, none⟩ = some (.slice Ao15 t151.length co15) ∧ w'.cell? ⟨gb160, 1, none⟩ = some (.slice Ao29 y163.length co29) ∧ w'.cell? ⟨gb160, 2, none⟩ = some (u161002) ∧ w'.cell? (ad161.add (x9_1).toNat) = some (.int .i64 (rd t148 x9_1)) ∧ w'.cell? (ad167.add ((rd t148 x9_1)).toNat) = some (.int .i64 (rd l2 (rd t148 x9_1)))) (ds := [10, 12]) #[false, false, false, false, false, false, false, false, false, false, false, false, false] (by kernel_rfl) rfl rfl ⟨(blk_cell BK160.out 0).trans rfl, (blk_cell BK160.out 1).trans rfl, (blk_cell BK160.out 2).trans rfl, hx166_0, ((HB.out.cell (World.block_lt_of_cell? w _ hw167_0)).trans hw167_0)⟩ (fun hHeld => ?_); refine with_tabW spec_l07Normal.tab6 spec_l07Normal.bits6 (fun HT_ HW_ => ?_)
                    generalize w31.drew = w32 at HO_7 HO_161000 HO_161002 HO165 BK147 BK160 HB hx166_0 hx167_0 hHeld ⊢
                    refine pure_ (i := 0) (N := some 35) (v := ?_) (a' := ?_) #[true, false, false, false, false, false, false, false, false, false, false, false, false] rfl rfl (any_of HT_.out (by kernel_rfl)) (fun _ _ _ h => h) (Or.inl ⟨by rfl, ?_⟩) ?_ ?_
                    rotate_left
                    · intro w'
                      go_simp
                      with_reducible rfl
                    rotate_left
                    · simp only [Act.put, List.setIfInBounds_toArray, List.set_cons_zero, List.set_cons_succ, i64_w, i32_w]
                      rfl
                    refine pure_ (i := 2) (N := some 37) (v := ?_) (a' := ?_) #[true, false, true, false, false, false, false, false, false, false, false, false, false] rfl rfl (any_of HT_.out (by kernel_rfl)) (fun _ _ _ h => h) (Or.inl ⟨by rfl, ?_⟩) ?_ ?_
                    rotate_left
                    · intro w'
                      go_simp
                      with_reducible rfl
                    rotate_left
                    · simp only [Act.put, List.setIfInBounds_toArray, List.set_cons_zero, List.set_cons_succ, i64_w, i32_w]
                      rfl
                    refine pure_ (i := 3) (N := some 38) (v := ?_) (a' := ?_) #[true, false, true, true, false, false, false, false, false, false, false, false, false] rfl rfl (any_of HT_.out (by kernel_rfl)) (fun _ _ _ h => h) (Or.inl ⟨by rfl, ?_⟩) ?_ ?_
                    rotate_left
                    · intro w'
                      go_simp
                      with_reducible rfl
                    rotate_left
                    · simp only [Act.put, List.setIfInBounds_toArray, List.set_cons_zero, List.set_cons_succ, i64_w, i32_w]
                      rfl
                    refine pure_ (i := 4) (N := some 39) (v := ?_) (a' := ?_) #[true, false, true, true, true, false, false, false, false, false, false, false, false] rfl rfl (any_of HT_.out (by kernel_rfl)) (fun _ _ _ h => h) (Or.inl ⟨by rfl, ?_⟩) ?_ ?_
                    rotate_left
                    · intro w'
                      go_simp
                      with_reducible rfl
                    rotate_left
                    · simp only [Act.put, List.setIfInBounds_toArray, List.set_cons_zero, List.set_cons_succ, i64_w, i32_w]
                      rfl
                    refine pure_ (i := 5) (N := some 40) (v := ?_) (a' := ?_) #[true, false, true, true, true, true, false, false, false, false, false, false, false] rfl rfl (any_of HT_.out (by kernel_rfl)) (fun _ _ _ h => h) (Or.inl ⟨by rfl, ?_⟩) ?_ ?_
                    rotate_left
                    · intro w'
                      go_simp
                      with_reducible rfl
                    rotate_left
                    · simp only [Act.put, List.setIfInBounds_toArray, List.set_cons_zero, List.set_cons_succ, i64_w, i32_w]
                      rfl
                    refine take_ (i := 1) (N := some 36) (v := ?_) (a' := ?_) #[true, true, true, true, true, true, false, false, false, false, false, false, false] rfl rfl (take_ofW HT_.out HW_.out (by kernel_rfl)) (fun _ _ _ h => h) (Or.inl ⟨by rfl, ?_⟩) hHeld ?_ ?_
                    rotate_left
                    · rintro w' ⟨s0, s1, s2, s3, s4⟩
                      go_simp
                      with_reducible rfl
                    rotate_left
                    · simp only [Act.put, List.setIfInBounds_toArray, List.set_cons_zero, List.set_cons_succ, i64_w, i32_w]
                      rfl
                    refine take_ (i := 6) (N := some 41) (v := ?_) (a' := ?_) #[true, true, true, true, true, true, true, false, false, false, false, false, false] rfl rfl (take_ofW HT_.out HW_.out (by kernel_rfl)) (fun _ _ _ h => h) (Or.inl ⟨by rfl, ?_⟩) hHeld ?_ ?_
                    rotate_left
                    · rintro w' ⟨s0, s1, s2, s3, s4⟩
                      go_simp
                      with_reducible rfl
                    rotate_left
                    · simp only [Act.put, List.setIfInBounds_toArray, List.set_cons_zero, List.set_cons_succ, i64_w, i32_w]
                      rfl
                    refine pure_ (i := 7) (N := some 42) (v := ?_) (a' := ?_) #[true, true, true, true, true, true, true, true, false, false, false, false, false] rfl rfl (any_of HT_.out (by kernel_rfl)) (fun _ _ _ h => h) (Or.inl ⟨by rfl, ?_⟩) ?_ ?_
                    rotate_left
                    · intro w'
                      go_simp
                      with_reducible rfl
                    rotate_left
                    · simp only [Act.put, List.setIfInBounds_toArray, List.set_cons_zero, List.set_cons_succ, i64_w, i32_w]
                      rfl
                    refine take_ (i := 8) (N := some 43) (v := ?_) (a' := ?_) #[true, true, true, true, true, true, true, true, true, false, false, false, false] rfl rfl (take_ofW HT_.out HW_.out (by kernel_rfl)) (fun _ _ _ h => h) (Or.inl ⟨by rfl, ?_⟩) hHeld ?_ ?_
                    rotate_left
                    · rintro w' ⟨s0, s1, s2, s3, s4⟩
                      go_simp
                      with_reducible rfl
                    rotate_left
                    · simp only [Act.put, List.setIfInBounds_toArray, List.set_cons_zero, List.set_cons_succ, i64_w, i32_w]
                      rfl
                    refine one_ (i := 9) (N := some 44) #[true, true, true, true, true, true, true, true, true, true, false, false, false] rfl rfl (one_of HT_.out (by kernel_rfl)) (by decide) (fun K hK => ?_)
                    refine value_ (w1 := ?_) (v := ?_) (by rfl) rfl ?_ ?_
                    rotate_left 2
                    · go_simp
                      constructor
                      · rfl
                      · rfl
                    refine hK.out _ _ ⟨(blk_cell (blk_alloc BK160.out _) 0).trans rfl, (blk_cell (blk_alloc BK160.out _) 1).trans rfl, (blk_cell (blk_alloc BK160.out _) 2).trans rfl, (World.cell?_alloc_lt _ _ _ (World.block_lt_of_cell? _ _ (hHeld.2.2.2.1))).trans (hHeld.2.2.2.1), (World.cell?_alloc_lt _ _ _ (World.block_lt_of_cell? _ _ (((HB.out.cell (World.block_lt_of_cell? w _ hw167_0)).trans hw167_0)))).trans (((HB.out.cell (World.block_lt_of_cell? w _ hw167_0)).trans hw167_0))⟩ (fun hHeld => ?_)
                    clear hK K
                    refine norm_ (a' := ?_) ?_ ?_
                    rotate_left
                    · show Act.put _ (some 44) _ = _
                      simp only [Act.put, List.setIfInBounds_toArray, List.set_cons_zero, List.set_cons_succ, i64_w, i32_w]
                      rfl
                    refine last_ (i := 10) (N := some 45) #[true, true, true, true, true, true, true, true, true, true, true, false, false] rfl rfl (one_of HT_.out (by kernel_rfl)) (by decide) (fun K hK => ?_)
                    refine Kd.R_append_step (Kd.int .i64) (w0 := w) w.heap.size (by rfl) (.tmp 36) (.tmp 44) 25 2 (.int .i64 0) 8 rfl Try.underlying25 info2 rfl (by decide) (by omega) u161002 x161002_1 (rd l2 (rd t148 x9_1)) [.int .i64 (rd l2 (rd t148 x9_1))] (fun k_ => some k_ ≠ (.slice (some ad161) t148.length co26 : Value).ownBlock ∧ some k_ ≠ (.slice Ao15 t151.length co15 : Value).ownBlock ∧ some k_ ≠ (.slice Ao29 y163.length co29 : Value).ownBlock) (fun _ => False) rfl rfl ?aP (fun _ hk => hk.elim) ?aF ?aO ?aB ?aS ?aL ?_
                    (case aP => exact rfl)
                    (case aB => exact (by repeat (first | (with_reducible first | exact HB.out | apply below_alloc | apply pw_below_drewN | apply below_drew1 | refine below_set ?_ GE147.out | refine below_set ?_ GE160.out) | exact HB.out)))
                    (case aF => exact (fun k_ hk => ⟨Kd.fresh' (Kd.R_lt HO_7.out) k_ hk, Kd.fresh' (Kd.R_lt HO_161000.out) k_ hk, Kd.fresh' (Kd.R_lt HO165.out) k_ hk⟩))
                    (case aO => exact HO_161002.out)
                    (case aS => exact (below_size (by repeat (first | (with_reducible first | exact HB.out | apply below_alloc | apply pw_below_drewN | apply below_drew1 | refine below_set ?_ GE147.out | refine below_set ?_ GE160.out) | exact HB.out))))
                    (case aL => have := LMc25.out; omega)
                    intro v169 w33 ho hb hg hat
                    rw [← Ny168.out] at ho
                    have n0_ := mk0 (Kd.R_after (ok := (fun k_ => some k_ ≠ (.slice Ao15 t151.length co15 : Value).ownBlock ∧ some k_ ≠ (.slice Ao29 y163.length co29 : Value).ownBlock)) (by exact Kd.R_mono HO_7.out (fun _ hk => ⟨⟨hk.1, hk.2.2⟩, hk.2.1⟩)) hg hat)
                    have n1_ := mk0 (Kd.R_after (ok := (fun k_ => some k_ ≠ (.slice (some ad161) t148.length co26 : Value).ownBlock ∧ some k_ ≠ (.slice Ao29 y163.length co29 : Value).ownBlock)) (by exact Kd.R_mono HO_161000.out (fun _ hk => ⟨⟨hk.1, hk.2.2⟩, hk.2.1⟩)) hg hat)
                    have n2_ := mk0 (blk_grown (g := gb147) (o := .cells #[.slice none 0 0, .slice none 0 0, .slice none 0 0] 41 (0, 0)) (by exact BK147.out) hg (Kd.R_ne HO_161002.out BK147.out (by decide)))
                    have n3_ := mk0 (blk_grown (g := gb160) (o := .cells #[.slice Ao15 t151.length co15, .slice Ao29 y163.length co29, u161002] 41 (0, 0)) (by exact BK160.out) hg (Kd.R_ne HO_161002.out BK160.out (by decide)))
                    have n4_ := mk0 (Kd.R_after (ok := (fun k_ => some k_ ≠ (.slice (some ad161) t148.length co26 : Value).ownBlock ∧ some k_ ≠ (.slice Ao15 t151.length co15 : Value).ownBlock)) (by exact Kd.R_mono HO165.out (fun _ hk => ⟨⟨hk.1, hk.2.1⟩, hk.2.2⟩)) hg hat)
                    have n5_ := mk0 (hb)
                    have n6_ := mk0 (ho)
                    clear HO_7
                    clear HO_161000
                    clear BK147
                    clear BK160
                    clear HO165
                    clear HB
                    clear HO_161002
                    have HO_7 := n0_
                    have HO_161000 := n1_
                    have BK147 := n2_
                    have BK160 := n3_
                    have HO165 := n4_
                    have HB := n5_
                    have HO170 := n6_
                    clear n0_ n1_ n2_ n3_ n4_ n5_ n6_
                    clear ho hb hg hat
                    obtain ⟨Ao34, co34, eo34⟩ := Kd.R_slice HO170.out
                    (first | subst eo34 | (injection eo34 with f1_ f2_ f3_; have f4_ := f1_.symm; have f5_ := f3_.symm; clear f1_ f2_ f3_; subst f4_; subst f5_))
                    refine hK.out _ _ ?_
                    clear hK K
                    refine norm_ (a' := ?_) ?_ ?_
                    rotate_left
                    · show Act.put _ (some 45) _ = _
                      simp only [Act.put, List.setIfInBounds_toArray, List.set_cons_zero, List.set_cons_succ, i64_w, i32_w]
                      rfl
                    refine pure_ (i := 11) (N := some 46) (v := ?_) (a' := ?_) #[true, true, true, true, true, true, true, true, true, true, true, true, false] rfl rfl (any_of HT_.out (by kernel_rfl)) (fun _ _ _ h => h) (Or.inl ⟨by rfl, ?_⟩) ?_ ?_
                    rotate_left
                    · intro w'
                      go_simp
                      with_reducible rfl
                    rotate_left
                    · simp only [Act.put, List.setIfInBounds_toArray, List.set_cons_zero, List.set_cons_succ, i64_w, i32_w]
                      rfl
                    refine last_ (i := 12) (N := none) #[true, true, true, true, true, true, true, true, true, true, true, true, true] rfl rfl (one_of HT_.out (by kernel_rfl)) (by decide) (fun K hK => ?_)
                    have hs35 : w33.cell? ⟨gb160, 2, none⟩ = some (u161002) := (blk_cell BK160.out 2).trans rfl
                    have hfs35 := blk_frozen BK160.out 2
                    have hns35_0 := NB147_160.out
                    have hms35_0 := NB160_147.out
                    refine skip_ (w1 := ?_) (by rfl) rfl ?_ ?_
                    rotate_left
                    · go_simp
                      rfl
                    refine hK.out _ _ ?_
                    clear hK K
                    refine done_ (done_of HT_.out (by kernel_rfl)) ?_
                    try go_wp2
                    go_roundg k1
                    case measure => have := HK1.out; omega
                    case rel => exact ⟨(wrap64 (x9_1 + 1)), (y163), (y168), (.slice Ao29 y163.length co29), (.slice Ao34 y168.length co34), (by first | rfl | (simp; done) | (simp [*]; done)), H', ⟨by have := HK1.out; omega⟩, ⟨by exact Kd.R_mono (Kd.R_far (p := ⟨gb160, 2, none⟩) (Kd.R_types HO_7.out BK160.out (by decide)) (fun _ hk => hk.2) (.slice Ao34 y168.length co34)) (fun _ hk => ⟨hk.1.1.1, ⟨hk.1.1.2, hk.1.2⟩⟩)⟩, ⟨by exact Kd.R_mono (Kd.R_far (p := ⟨gb160, 2, none⟩) (Kd.R_types HO_161000.out BK160.out (by decide)) (fun _ hk => hk.2) (.slice Ao34 y168.length co34)) (fun _ hk => ⟨hk.1.1.1, ⟨hk.1.1.2, hk.1.2⟩⟩)⟩, ⟨by exact Kd.R_mono (Kd.R_far (p := ⟨gb160, 2, none⟩) (Kd.R_types HO165.out BK160.out (by decide)) (fun _ hk => hk.2) (.slice Ao34 y168.length co34)) (fun _ hk => ⟨hk.1.1.1, ⟨hk.1.1.2, hk.1.2⟩⟩)⟩, ⟨by exact Kd.R_mono (Kd.R_far (p := ⟨gb160, 2, none⟩) (Kd.R_types HO170.out BK160.out (by decide)) (fun _ hk => hk.2) (.slice Ao34 y168.length co34)) (fun _ hk => ⟨hk.1.1, ⟨hk.1.2.1, hk.1.2.2⟩⟩)⟩, ⟨by refine blk_far ?_ NB147_160.out _; exact BK147.out⟩, ⟨by refine blk_put (cs := #[.slice Ao15 t151.length co15, .slice Ao29 y163.length co29, u161002]) ?_ 2 _ rfl; exact BK160.out⟩, ⟨by repeat (first | (with_reducible first | exact HB.out | apply below_alloc | apply pw_below_drewN | apply below_drew1 | refine below_set ?_ GE147.out | refine below_set ?_ GE160.out) | exact HB.out)⟩⟩
                  · rw [if_neg c25] at H
                    exact absurd H (by simp)
                · rw [if_neg c24] at H
                  exact absurd H (by simp)
              · rw [if_neg c23] at H
                exact absurd H (by simp)
            · rw [if_neg c22] at H
              exact absurd H (by simp)
          · rw [if_neg c21] at H
            exact absurd H (by simp)
        · rw [if_neg c20] at H
          exact absurd H (by simp)
      · rw [if_neg c19] at H
        have c19b0 : decide (x9_1 < (t148.length : Int)) = false := decide_eq_false c19
        clear c19
        simp only [Option.some.injEq, Prod.mk.injEq] at H
        obtain ⟨rfl, rfl, rfl⟩ := H
        obtain ⟨Ao36, co36, eo36⟩ := Kd.R_slice HO_7.out
        subst eo36
        have hnb37 := NB160_147.out
        have hnc37 := NB147_160.out
        have hcz38_0 : wr.cell? ⟨gb160, 0, none⟩ = some (.slice Ao15 t151.length co15) := (blk_cell BK160.out 0).trans rfl
        have hcz38_1 : wr.cell? ⟨gb160, 1, none⟩ = some (u161001) := (blk_cell BK160.out 1).trans rfl
        have hcz38_2 : wr.cell? ⟨gb160, 2, none⟩ = some (u161002) := (blk_cell BK160.out 2).trans rfl
        have hfz38_0 := blk_frozen BK160.out 0
        have hfz38_1 := blk_frozen BK160.out 1
        have hfz38_2 := blk_frozen BK160.out 2
        have hcz39_0 : wr.cell? ⟨gb147, 0, none⟩ = some (.slice none 0 0) := (blk_cell BK147.out 0).trans rfl
        have hcz39_1 : wr.cell? ⟨gb147, 1, none⟩ = some (.slice none 0 0) := (blk_cell BK147.out 1).trans rfl
        have hcz39_2 : wr.cell? ⟨gb147, 2, none⟩ = some (.slice none 0 0) := (blk_cell BK147.out 2).trans rfl
        have hfz39_0 := blk_frozen BK147.out 0
        have hfz39_1 := blk_frozen BK147.out 1
        have hfz39_2 := blk_frozen BK147.out 2
        obtain ⟨Ao40, co40, eo40⟩ := Kd.R_slice HO_161001.out
        subst eo40
        obtain ⟨Ao41, co41, eo41⟩ := Kd.R_slice HO_161002.out
        subst eo41
        go_wp2
        refine bodyPost_ret (results_cell_row rfl _ _ gb147 41 #[.slice Ao15 t151.length co15, .slice Ao40 x161001_1.length co40, .slice Ao41 x161002_1.length co41] (0, 0) _ rfl (by refine blk_put (cs := #[.slice Ao15 t151.length co15, .slice Ao40 x161001_1.length co40, .slice none 0 0]) ?_ 2 _ rfl; refine blk_put (cs := #[.slice Ao15 t151.length co15, .slice none 0 0, .slice none 0 0]) ?_ 1 _ rfl; refine blk_put (cs := #[.slice none 0 0, .slice none 0 0, .slice none 0 0]) ?_ 0 _ rfl; exact BK147.out) Try.underlying41 rfl (by kernel_rfl)) rfl ?_
        exact ⟨_, _, _, by first | rfl | (simp [errW_none, errW_some] <;> rfl) | (simp [*, errW_none, errW_some] <;> rfl), by exact Kd.R_mono (Kd.R_far (p := ⟨gb147, 2, none⟩) (Kd.R_far (p := ⟨gb147, 1, none⟩) (Kd.R_far (p := ⟨gb147, 0, none⟩) (Kd.R_types HO_161000.out BK147.out (by decide)) (fun _ hk => hk.2) (.slice Ao15 t151.length co15)) (fun _ hk => hk.2) (.slice Ao40 x161001_1.length co40)) (fun _ hk => hk.2) (.slice Ao41 x161002_1.length co41)) (fun _ hk => ⟨hk.1.2.1, hk.1.2.2⟩), by exact Kd.R_mono (Kd.R_far (p := ⟨gb147, 2, none⟩) (Kd.R_far (p := ⟨gb147, 1, none⟩) (Kd.R_far (p := ⟨gb147, 0, none⟩) (Kd.R_types HO_161001.out BK147.out (by decide)) (fun _ hk => hk.2) (.slice Ao15 t151.length co15)) (fun _ hk => hk.2) (.slice Ao40 x161001_1.length co40)) (fun _ hk => hk.2) (.slice Ao41 x161002_1.length co41)) (fun _ hk => ⟨hk.1.2.1, hk.1.2.2⟩), by exact Kd.R_mono (Kd.R_far (p := ⟨gb147, 2, none⟩) (Kd.R_far (p := ⟨gb147, 1, none⟩) (Kd.R_far (p := ⟨gb147, 0, none⟩) (Kd.R_types HO_161002.out BK147.out (by decide)) (fun _ hk => hk.2) (.slice Ao15 t151.length co15)) (fun _ hk => hk.2) (.slice Ao40 x161001_1.length co40)) (fun _ hk => hk.2) (.slice Ao41 x161002_1.length co41)) (fun _ hk => ⟨hk.1.2.1, hk.1.2.2⟩), by repeat (first | (with_reducible first | exact HB.out | apply below_alloc | apply pw_below_drewN | apply below_drew1 | refine below_set ?_ GE147.out | refine below_set ?_ GE160.out) | exact HB.out)⟩

end Go.Proofs.Ytokcklkjnjffnaa.PA
