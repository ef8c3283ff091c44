/- Packed texts of this session's: PAx18, PAx8, KGaussHelp, KWordLaw, KSlices, KGauss, KRenum, PEx0, PEx2, PKx0, KGaussLaw, KPlaces, KWithout, KDelete, KClone, KLeft, KLeftUse. Conditions: in each. -/
import Derived.Test.YtihfncjpfgdhoaaProg
import Derived.Test.YtihfncjpfgdhoaaZa1
section -- PAx18
namespace Go.Proofs.Ytihfncjpfgdhoaa.PA
open Go.RowKit Go.Proofs.YtihfncjpfgdhoaaW.PrintWords Go.Proofs.YtihfncjpfgdhoaaW.PrintLast Go.Proofs.YtihfncjpfgdhoaaW.PrintMore
attribute [local go_sem] max2_int min2_int max_two min_two max_three min_three max_four min_four   -- for this text's walks alone
open Go.Proofs.Ytihfncjpfgdhoaa.K
set_option linter.unusedVariables false
set_option linter.unusedSimpArgs false

/-! ### laws_heldGauss: function 31 -/
def laws_heldGauss.f (k : Nat) (l0_0 : List Int) (l0_1 : List Int) (l0_2 : List Int) (a1 : Int) : Option (Int) := (laws_heldInt64S.f k l0_0 a1).bind fun t471 => (if t471 < 0 then (some (-1)) else ((laws_heldInt64S.f k l0_1 t471).bind fun t472 => (if t472 < 0 then (some (-1)) else ((laws_heldInt64S.f k l0_2 t472).bind fun t473 => (if t473 < 0 then (some (-1)) else (some t473))))))
theorem laws_heldGauss.mono : ∀ a0 a1 a2 a3 k, LeO (laws_heldGauss.f k a0 a1 a2 a3) (laws_heldGauss.f (k + 1) a0 a1 a2 a3) := by
  intro a0 a1 a2 a3 k
  unfold laws_heldGauss.f
  repeat' first
      | (with_reducible exact laws_heldInt64S.mono _ _ _)
      | (with_reducible exact LeO.refl _)
      | (with_reducible exact LeO.none _)
      | (with_reducible refine LeO.ite ?_ ?_)
      | (with_reducible refine LeO.bind ?_ (fun _ => ?_))
      | exact laws_heldInt64S.mono _ _ _
      | exact LeO.none _
      | refine LeO.ite ?_ ?_
      | refine LeO.bind ?_ (fun _ => ?_)
set_option maxHeartbeats 8000000 in
set_option maxRecDepth 100000 in
theorem laws_heldGauss.calls (k : Nat) (A0_0 : Option Addr) (c0_0 : Nat) (l0_0 : List Int) (A0_1 : Option Addr) (c0_1 : Nat) (l0_1 : List Int) (A0_2 : Option Addr) (c0_2 : Nat) (l0_2 : List Int) (a1 : Int) (r : Int) (w : World) (hr0_0 : Kd.C (Kd.int .i64) w A0_0 l0_0.length l0_0) (hc0_0 : l0_0.length ≤ c0_0) (hr0_1 : Kd.C (Kd.int .i64) w A0_1 l0_1.length l0_1) (hc0_1 : l0_1.length ≤ c0_1) (hr0_2 : Kd.C (Kd.int .i64) w A0_2 l0_2.length l0_2) (hc0_2 : l0_2.length ≤ c0_2) (h : laws_heldGauss.f k l0_0 l0_1 l0_2 a1 = some r) :
    Calls Try.prog 31 #[.agg #[.slice A0_0 l0_0.length c0_0, .slice A0_1 l0_1.length c0_1, .slice A0_2 l0_2.length c0_2], .int .i64 a1] w fun e w' => e = .returned (.int .i64 r) ∧ Below w.heap.size w w' := by
  have hu34 := Try.underlying34
  have HR0_0 := Aside0.mk hr0_0
  have HC0_0 := Aside0.mk hc0_0
  clear hr0_0 hc0_0
  have HR0_1 := Aside0.mk hr0_1
  have HC0_1 := Aside0.mk hc0_1
  clear hr0_1 hc0_1
  have HR0_2 := Aside0.mk hr0_2
  have HC0_2 := Aside0.mk hc0_2
  clear hr0_2 hc0_2
  have HB := Aside0.mk (Below.refl w.heap.size w)
  have H : ((laws_heldInt64S.f k l0_0 a1).bind fun t471 => (if t471 < 0 then (some (-1)) else ((laws_heldInt64S.f k l0_1 t471).bind fun t472 => (if t472 < 0 then (some (-1)) else ((laws_heldInt64S.f k l0_2 t472).bind fun t473 => (if t473 < 0 then (some (-1)) else (some t473))))))) = some r := h
  clear h
  replace H := Option.bind_eq_some_iff.mp H
  obtain ⟨t471, A30, H⟩ := H
  replace H : (if t471 < 0 then (some (-1)) else ((laws_heldInt64S.f k l0_1 t471).bind fun t472 => (if t472 < 0 then (some (-1)) else ((laws_heldInt64S.f k l0_2 t472).bind fun t473 => (if t473 < 0 then (some (-1)) else (some t473)))))) = some r := H
  have A3 := Aside0.mk A30
  clear A30
  by_cases c4 : t471 < 0
  · rw [if_pos c4] at H
    have c4b0 : decide (t471 < 0) = true := decide_eq_true c4
    clear c4
    obtain rfl := Option.some.inj H
    go_enter Try.func31, Try.ntmps31
    go_wp2_with (first | ((with_reducible refine gate_dst (N := 2) rfl ?_); refine box_event ?hg (N := 2) ?hd (cs := #[.slice A0_0 l0_0.length c0_0, .slice A0_1 l0_1.length c0_1, .slice A0_2 l0_2.length c0_2]) (t := 34) ?hr ?_; (case hd => rfl); (case hg => rfl); (case hr => first | (go_simp; done) | (go_simp; rfl)); intro gb470 hg w5 hbox hb; have n0_ := Aside0.mk (below_step (by repeat (first | (with_reducible first | exact HB.out | apply below_alloc | apply pw_below_drewN | apply below_drew1) | exact HB.out)) hb); have n1_ := Aside0.mk (hbox); have n2_ := Aside0.mk ((by rw [hg]; exact (below_size (by repeat (first | (with_reducible first | exact HB.out | apply below_alloc | apply pw_below_drewN | apply below_drew1) | exact HB.out))) : w.heap.size ≤ gb470)); have n3_ := Aside0.mk ((by rw [hg]; exact (below_size (by repeat (first | (with_reducible first | exact HB.out | apply below_alloc | apply pw_below_drewN | apply below_drew1) | exact HB.out))) : w.heap.size ≤ gb470)); clear HB; have HB := n0_; have BK470 := n1_; have GW470 := n2_; have GE470 := n3_; clear n0_ n1_ n2_ n3_; clear hb hbox hg; have hcz6_0 : w5.cell? ⟨gb470, 0, none⟩ = some (.slice A0_0 l0_0.length c0_0) := (blk_cell BK470.out 0).trans rfl; have hcz6_1 : w5.cell? ⟨gb470, 1, none⟩ = some (.slice A0_1 l0_1.length c0_1) := (blk_cell BK470.out 1).trans rfl; have hcz6_2 : w5.cell? ⟨gb470, 2, none⟩ = some (.slice A0_2 l0_2.length c0_2) := (blk_cell BK470.out 2).trans rfl; have hfz6_0 := blk_frozen BK470.out 0; have hfz6_1 := blk_frozen BK470.out 1; have hfz6_2 := blk_frozen BK470.out 2) | ((with_reducible refine gate_callee (f := 20) rfl ?_); refine goesL_ (some 8) rfl rfl Try.func20 (by kernel_rfl) rfl #[.slice A0_0 l0_0.length c0_0, .int .i64 a1] rfl (by (try simp only [List.map_toArray, List.map_cons, List.map_nil]); first | done | rfl | (simp only [List.length_drop, List.length_take]; rfl)) ?_; (with_reducible refine (laws_heldInt64S.calls k _ _ l0_0 a1 t471 _ ?side1 ?side2 A3.out).mono ?_); (case side1 => exact (Kd.C_below HR0_0.out HB.out)); (case side2 => exact HC0_0.out); rintro e w' ⟨rfl, ⟨nd, rfl⟩⟩; refine ⟨_, rfl, ?_⟩))
    go_ret
    exact ⟨by first | rfl | (simp [errW_none, errW_some] <;> rfl) | (simp [*, errW_none, errW_some] <;> rfl), by repeat (first | (with_reducible first | exact HB.out | apply below_alloc | apply pw_below_drewN | apply below_drew1 | refine below_set ?_ GE470.out) | exact HB.out)⟩
  · rw [if_neg c4] at H
    have c4b0 : decide (t471 < 0) = false := decide_eq_false c4
    clear c4
    replace H := Option.bind_eq_some_iff.mp H
    obtain ⟨t472, A70, H⟩ := H
    replace H : (if t472 < 0 then (some (-1)) else ((laws_heldInt64S.f k l0_2 t472).bind fun t473 => (if t473 < 0 then (some (-1)) else (some t473)))) = some r := H
    have A7 := Aside0.mk A70
    clear A70
    by_cases c8 : t472 < 0
    · rw [if_pos c8] at H
      have c8b0 : decide (t472 < 0) = true := decide_eq_true c8
      clear c8
      obtain rfl := Option.some.inj H
      go_enter Try.func31, Try.ntmps31
      go_wp2_with (first | ((with_reducible refine gate_dst (N := 2) rfl ?_); refine box_event ?hg (N := 2) ?hd (cs := #[.slice A0_0 l0_0.length c0_0, .slice A0_1 l0_1.length c0_1, .slice A0_2 l0_2.length c0_2]) (t := 34) ?hr ?_; (case hd => rfl); (case hg => rfl); (case hr => first | (go_simp; done) | (go_simp; rfl)); intro gb470 hg w9 hbox hb; have n0_ := Aside0.mk (below_step (by repeat (first | (with_reducible first | exact HB.out | apply below_alloc | apply pw_below_drewN | apply below_drew1) | exact HB.out)) hb); have n1_ := Aside0.mk (hbox); have n2_ := Aside0.mk ((by rw [hg]; exact (below_size (by repeat (first | (with_reducible first | exact HB.out | apply below_alloc | apply pw_below_drewN | apply below_drew1) | exact HB.out))) : w.heap.size ≤ gb470)); have n3_ := Aside0.mk ((by rw [hg]; exact (below_size (by repeat (first | (with_reducible first | exact HB.out | apply below_alloc | apply pw_below_drewN | apply below_drew1) | exact HB.out))) : w.heap.size ≤ gb470)); clear HB; have HB := n0_; have BK470 := n1_; have GW470 := n2_; have GE470 := n3_; clear n0_ n1_ n2_ n3_; clear hb hbox hg; have hcz10_0 : w9.cell? ⟨gb470, 0, none⟩ = some (.slice A0_0 l0_0.length c0_0) := (blk_cell BK470.out 0).trans rfl; have hcz10_1 : w9.cell? ⟨gb470, 1, none⟩ = some (.slice A0_1 l0_1.length c0_1) := (blk_cell BK470.out 1).trans rfl; have hcz10_2 : w9.cell? ⟨gb470, 2, none⟩ = some (.slice A0_2 l0_2.length c0_2) := (blk_cell BK470.out 2).trans rfl; have hfz10_0 := blk_frozen BK470.out 0; have hfz10_1 := blk_frozen BK470.out 1; have hfz10_2 := blk_frozen BK470.out 2) | ((with_reducible refine gate_callee (f := 20) rfl ?_); refine goesL_ (some 8) rfl rfl Try.func20 (by kernel_rfl) rfl #[.slice A0_0 l0_0.length c0_0, .int .i64 a1] rfl (by (try simp only [List.map_toArray, List.map_cons, List.map_nil]); first | done | rfl | (simp only [List.length_drop, List.length_take]; rfl)) ?_; (with_reducible refine (laws_heldInt64S.calls k _ _ l0_0 a1 t471 _ ?side1 ?side2 A3.out).mono ?_); (case side1 => exact (Kd.C_below HR0_0.out HB.out)); (case side2 => exact HC0_0.out); rintro e w' ⟨rfl, ⟨nd, rfl⟩⟩; refine ⟨_, rfl, ?_⟩) | ((with_reducible refine gate_callee (f := 20) rfl ?_); refine goesL_ (some 14) rfl rfl Try.func20 (by kernel_rfl) rfl #[.slice A0_1 l0_1.length c0_1, .int .i64 t471] rfl (by (try simp only [List.map_toArray, List.map_cons, List.map_nil]); first | done | rfl | (simp only [List.length_drop, List.length_take]; rfl)) ?_; (with_reducible refine (laws_heldInt64S.calls k _ _ l0_1 t471 t472 _ ?side1 ?side2 A7.out).mono ?_); (case side1 => repeat (first | exact (Kd.C_below HR0_1.out (by repeat (first | (with_reducible first | exact HB.out | apply below_alloc | apply pw_below_drewN | apply below_drew1 | refine below_set ?_ GE470.out) | exact HB.out))) | (with_reducible refine Kd.C_alloc ?_ _) | (with_reducible refine Kd.C_drewN ?_ _) | (with_reducible refine Kd.C_drew ?_))); (case side2 => exact HC0_1.out); rintro e w' ⟨rfl, ⟨nd, rfl⟩⟩; refine ⟨_, rfl, ?_⟩))
      go_ret
      exact ⟨by first | rfl | (simp [errW_none, errW_some] <;> rfl) | (simp [*, errW_none, errW_some] <;> rfl), by repeat (first | (with_reducible first | exact HB.out | apply below_alloc | apply pw_below_drewN | apply below_drew1 | refine below_set ?_ GE470.out) | exact HB.out)⟩
    · rw [if_neg c8] at H
      have c8b0 : decide (t472 < 0) = false := decide_eq_false c8
      clear c8
      replace H := Option.bind_eq_some_iff.mp H
      obtain ⟨t473, A110, H⟩ := H
      replace H : (if t473 < 0 then (some (-1)) else (some t473)) = some r := H
      have A11 := Aside0.mk A110
      clear A110
      by_cases c12 : t473 < 0
      · rw [if_pos c12] at H
        have c12b0 : decide (t473 < 0) = true := decide_eq_true c12
        clear c12
        obtain rfl := Option.some.inj H
        go_enter Try.func31, Try.ntmps31
        go_wp2_with (first | ((with_reducible refine gate_dst (N := 2) rfl ?_); refine box_event ?hg (N := 2) ?hd (cs := #[.slice A0_0 l0_0.length c0_0, .slice A0_1 l0_1.length c0_1, .slice A0_2 l0_2.length c0_2]) (t := 34) ?hr ?_; (case hd => rfl); (case hg => rfl); (case hr => first | (go_simp; done) | (go_simp; rfl)); intro gb470 hg w13 hbox hb; have n0_ := Aside0.mk (below_step (by repeat (first | (with_reducible first | exact HB.out | apply below_alloc | apply pw_below_drewN | apply below_drew1) | exact HB.out)) hb); have n1_ := Aside0.mk (hbox); have n2_ := Aside0.mk ((by rw [hg]; exact (below_size (by repeat (first | (with_reducible first | exact HB.out | apply below_alloc | apply pw_below_drewN | apply below_drew1) | exact HB.out))) : w.heap.size ≤ gb470)); have n3_ := Aside0.mk ((by rw [hg]; exact (below_size (by repeat (first | (with_reducible first | exact HB.out | apply below_alloc | apply pw_below_drewN | apply below_drew1) | exact HB.out))) : w.heap.size ≤ gb470)); clear HB; have HB := n0_; have BK470 := n1_; have GW470 := n2_; have GE470 := n3_; clear n0_ n1_ n2_ n3_; clear hb hbox hg; have hcz14_0 : w13.cell? ⟨gb470, 0, none⟩ = some (.slice A0_0 l0_0.length c0_0) := (blk_cell BK470.out 0).trans rfl; have hcz14_1 : w13.cell? ⟨gb470, 1, none⟩ = some (.slice A0_1 l0_1.length c0_1) := (blk_cell BK470.out 1).trans rfl; have hcz14_2 : w13.cell? ⟨gb470, 2, none⟩ = some (.slice A0_2 l0_2.length c0_2) := (blk_cell BK470.out 2).trans rfl; have hfz14_0 := blk_frozen BK470.out 0; have hfz14_1 := blk_frozen BK470.out 1; have hfz14_2 := blk_frozen BK470.out 2) | ((with_reducible refine gate_callee (f := 20) rfl ?_); refine goesL_ (some 8) rfl rfl Try.func20 (by kernel_rfl) rfl #[.slice A0_0 l0_0.length c0_0, .int .i64 a1] rfl (by (try simp only [List.map_toArray, List.map_cons, List.map_nil]); first | done | rfl | (simp only [List.length_drop, List.length_take]; rfl)) ?_; (with_reducible refine (laws_heldInt64S.calls k _ _ l0_0 a1 t471 _ ?side1 ?side2 A3.out).mono ?_); (case side1 => exact (Kd.C_below HR0_0.out HB.out)); (case side2 => exact HC0_0.out); rintro e w' ⟨rfl, ⟨nd, rfl⟩⟩; refine ⟨_, rfl, ?_⟩) | ((with_reducible refine gate_callee (f := 20) rfl ?_); refine goesL_ (some 14) rfl rfl Try.func20 (by kernel_rfl) rfl #[.slice A0_1 l0_1.length c0_1, .int .i64 t471] rfl (by (try simp only [List.map_toArray, List.map_cons, List.map_nil]); first | done | rfl | (simp only [List.length_drop, List.length_take]; rfl)) ?_; (with_reducible refine (laws_heldInt64S.calls k _ _ l0_1 t471 t472 _ ?side1 ?side2 A7.out).mono ?_); (case side1 => repeat (first | exact (Kd.C_below HR0_1.out (by repeat (first | (with_reducible first | exact HB.out | apply below_alloc | apply pw_below_drewN | apply below_drew1 | refine below_set ?_ GE470.out) | exact HB.out))) | (with_reducible refine Kd.C_alloc ?_ _) | (with_reducible refine Kd.C_drewN ?_ _) | (with_reducible refine Kd.C_drew ?_))); (case side2 => exact HC0_1.out); rintro e w' ⟨rfl, ⟨nd, rfl⟩⟩; refine ⟨_, rfl, ?_⟩) | ((with_reducible refine gate_callee (f := 20) rfl ?_); refine goesL_ (some 20) rfl rfl Try.func20 (by kernel_rfl) rfl #[.slice A0_2 l0_2.length c0_2, .int .i64 t472] rfl (by (try simp only [List.map_toArray, List.map_cons, List.map_nil]); first | done | rfl | (simp only [List.length_drop, List.length_take]; rfl)) ?_; (with_reducible refine (laws_heldInt64S.calls k _ _ l0_2 t472 t473 _ ?side1 ?side2 A11.out).mono ?_); (case side1 => repeat (first | exact (Kd.C_below HR0_2.out (by repeat (first | (with_reducible first | exact HB.out | apply below_alloc | apply pw_below_drewN | apply below_drew1 | refine below_set ?_ GE470.out) | exact HB.out))) | (with_reducible refine Kd.C_alloc ?_ _) | (with_reducible refine Kd.C_drewN ?_ _) | (with_reducible refine Kd.C_drew ?_))); (case side2 => exact HC0_2.out); rintro e w' ⟨rfl, ⟨nd, rfl⟩⟩; refine ⟨_, rfl, ?_⟩))
        go_ret
        exact ⟨by first | rfl | (simp [errW_none, errW_some] <;> rfl) | (simp [*, errW_none, errW_some] <;> rfl), by repeat (first | (with_reducible first | exact HB.out | apply below_alloc | apply pw_below_drewN | apply below_drew1 | refine below_set ?_ GE470.out) | exact HB.out)⟩
      · rw [if_neg c12] at H
        have c12b0 : decide (t473 < 0) = false := decide_eq_false c12
        clear c12
        obtain rfl := Option.some.inj H
        go_enter Try.func31, Try.ntmps31
        go_wp2_with (first | ((with_reducible refine gate_dst (N := 2) rfl ?_); refine box_event ?hg (N := 2) ?hd (cs := #[.slice A0_0 l0_0.length c0_0, .slice A0_1 l0_1.length c0_1, .slice A0_2 l0_2.length c0_2]) (t := 34) ?hr ?_; (case hd => rfl); (case hg => rfl); (case hr => first | (go_simp; done) | (go_simp; rfl)); intro gb470 hg w15 hbox hb; have n0_ := Aside0.mk (below_step (by repeat (first | (with_reducible first | exact HB.out | apply below_alloc | apply pw_below_drewN | apply below_drew1) | exact HB.out)) hb); have n1_ := Aside0.mk (hbox); have n2_ := Aside0.mk ((by rw [hg]; exact (below_size (by repeat (first | (with_reducible first | exact HB.out | apply below_alloc | apply pw_below_drewN | apply below_drew1) | exact HB.out))) : w.heap.size ≤ gb470)); have n3_ := Aside0.mk ((by rw [hg]; exact (below_size (by repeat (first | (with_reducible first | exact HB.out | apply below_alloc | apply pw_below_drewN | apply below_drew1) | exact HB.out))) : w.heap.size ≤ gb470)); clear HB; have HB := n0_; have BK470 := n1_; have GW470 := n2_; have GE470 := n3_; clear n0_ n1_ n2_ n3_; clear hb hbox hg; have hcz16_0 : w15.cell? ⟨gb470, 0, none⟩ = some (.slice A0_0 l0_0.length c0_0) := (blk_cell BK470.out 0).trans rfl; have hcz16_1 : w15.cell? ⟨gb470, 1, none⟩ = some (.slice A0_1 l0_1.length c0_1) := (blk_cell BK470.out 1).trans rfl; have hcz16_2 : w15.cell? ⟨gb470, 2, none⟩ = some (.slice A0_2 l0_2.length c0_2) := (blk_cell BK470.out 2).trans rfl; have hfz16_0 := blk_frozen BK470.out 0; have hfz16_1 := blk_frozen BK470.out 1; have hfz16_2 := blk_frozen BK470.out 2) | ((with_reducible refine gate_callee (f := 20) rfl ?_); refine goesL_ (some 8) rfl rfl Try.func20 (by kernel_rfl) rfl #[.slice A0_0 l0_0.length c0_0, .int .i64 a1] rfl (by (try simp only [List.map_toArray, List.map_cons, List.map_nil]); first | done | rfl | (simp only [List.length_drop, List.length_take]; rfl)) ?_; (with_reducible refine (laws_heldInt64S.calls k _ _ l0_0 a1 t471 _ ?side1 ?side2 A3.out).mono ?_); (case side1 => exact (Kd.C_below HR0_0.out HB.out)); (case side2 => exact HC0_0.out); rintro e w' ⟨rfl, ⟨nd, rfl⟩⟩; refine ⟨_, rfl, ?_⟩) | ((with_reducible refine gate_callee (f := 20) rfl ?_); refine goesL_ (some 14) rfl rfl Try.func20 (by kernel_rfl) rfl #[.slice A0_1 l0_1.length c0_1, .int .i64 t471] rfl (by (try simp only [List.map_toArray, List.map_cons, List.map_nil]); first | done | rfl | (simp only [List.length_drop, List.length_take]; rfl)) ?_; (with_reducible refine (laws_heldInt64S.calls k _ _ l0_1 t471 t472 _ ?side1 ?side2 A7.out).mono ?_); (case side1 => repeat (first | exact (Kd.C_below HR0_1.out (by repeat (first | (with_reducible first | exact HB.out | apply below_alloc | apply pw_below_drewN | apply below_drew1 | refine below_set ?_ GE470.out) | exact HB.out))) | (with_reducible refine Kd.C_alloc ?_ _) | (with_reducible refine Kd.C_drewN ?_ _) | (with_reducible refine Kd.C_drew ?_))); (case side2 => exact HC0_1.out); rintro e w' ⟨rfl, ⟨nd, rfl⟩⟩; refine ⟨_, rfl, ?_⟩) | ((with_reducible refine gate_callee (f := 20) rfl ?_); refine goesL_ (some 20) rfl rfl Try.func20 (by kernel_rfl) rfl #[.slice A0_2 l0_2.length c0_2, .int .i64 t472] rfl (by (try simp only [List.map_toArray, List.map_cons, List.map_nil]); first | done | rfl | (simp only [List.length_drop, List.length_take]; rfl)) ?_; (with_reducible refine (laws_heldInt64S.calls k _ _ l0_2 t472 t473 _ ?side1 ?side2 A11.out).mono ?_); (case side1 => repeat (first | exact (Kd.C_below HR0_2.out (by repeat (first | (with_reducible first | exact HB.out | apply below_alloc | apply pw_below_drewN | apply below_drew1 | refine below_set ?_ GE470.out) | exact HB.out))) | (with_reducible refine Kd.C_alloc ?_ _) | (with_reducible refine Kd.C_drewN ?_ _) | (with_reducible refine Kd.C_drew ?_))); (case side2 => exact HC0_2.out); rintro e w' ⟨rfl, ⟨nd, rfl⟩⟩; refine ⟨_, rfl, ?_⟩))
        go_ret
        exact ⟨by first | rfl | (simp [errW_none, errW_some] <;> rfl) | (simp [*, errW_none, errW_some] <;> rfl), by repeat (first | (with_reducible first | exact HB.out | apply below_alloc | apply pw_below_drewN | apply below_drew1 | refine below_set ?_ GE470.out) | exact HB.out)⟩

end Go.Proofs.Ytihfncjpfgdhoaa.PA
end -- PAx18

section -- PAx8
namespace Go.Proofs.Ytihfncjpfgdhoaa.PA
open Go.RowKit Go.Proofs.YtihfncjpfgdhoaaW.PrintWords Go.Proofs.YtihfncjpfgdhoaaW.PrintLast Go.Proofs.YtihfncjpfgdhoaaW.PrintMore
attribute [local go_sem] max2_int min2_int max_two min_two max_three min_three max_four min_four   -- for this text's walks alone
open Go.Proofs.Ytihfncjpfgdhoaa.K
set_option linter.unusedVariables false
set_option linter.unusedSimpArgs false

/-! ### laws_szGauss: function 21 -/
def laws_szGauss.f (l0_0 : List Int) (l0_1 : List Int) (l0_2 : List Int) (a1 : Int) : Option (Int) := (laws_szInt64S.f l0_0 a1).bind fun t217 => (if t217 < 0 then (some (-1)) else ((laws_szInt64S.f l0_1 t217).bind fun t218 => (if t218 < 0 then (some (-1)) else ((laws_szInt64S.f l0_2 t218).bind fun t219 => (if t219 < 0 then (some (-1)) else (some t219))))))
set_option maxHeartbeats 8000000 in
set_option maxRecDepth 100000 in
theorem laws_szGauss.calls (A0_0 : Option Addr) (c0_0 : Nat) (l0_0 : List Int) (A0_1 : Option Addr) (c0_1 : Nat) (l0_1 : List Int) (A0_2 : Option Addr) (c0_2 : Nat) (l0_2 : List Int) (a1 : Int) (r : Int) (w : World) (hr0_0 : Kd.C (Kd.int .i64) w A0_0 l0_0.length l0_0) (hc0_0 : l0_0.length ≤ c0_0) (hr0_1 : Kd.C (Kd.int .i64) w A0_1 l0_1.length l0_1) (hc0_1 : l0_1.length ≤ c0_1) (hr0_2 : Kd.C (Kd.int .i64) w A0_2 l0_2.length l0_2) (hc0_2 : l0_2.length ≤ c0_2) (h : laws_szGauss.f l0_0 l0_1 l0_2 a1 = some r) :
    Calls Try.prog 21 #[.agg #[.slice A0_0 l0_0.length c0_0, .slice A0_1 l0_1.length c0_1, .slice A0_2 l0_2.length c0_2], .int .i64 a1] w fun e w' => e = .returned (.int .i64 r) ∧ Below w.heap.size w w' := by
  have hu30 := Try.underlying30
  have HR0_0 := Aside0.mk hr0_0
  have HC0_0 := Aside0.mk hc0_0
  clear hr0_0 hc0_0
  have HR0_1 := Aside0.mk hr0_1
  have HC0_1 := Aside0.mk hc0_1
  clear hr0_1 hc0_1
  have HR0_2 := Aside0.mk hr0_2
  have HC0_2 := Aside0.mk hc0_2
  clear hr0_2 hc0_2
  have HB := Aside0.mk (Below.refl w.heap.size w)
  have H : ((laws_szInt64S.f l0_0 a1).bind fun t217 => (if t217 < 0 then (some (-1)) else ((laws_szInt64S.f l0_1 t217).bind fun t218 => (if t218 < 0 then (some (-1)) else ((laws_szInt64S.f l0_2 t218).bind fun t219 => (if t219 < 0 then (some (-1)) else (some t219))))))) = some r := h
  clear h
  replace H := Option.bind_eq_some_iff.mp H
  obtain ⟨t217, A30, H⟩ := H
  replace H : (if t217 < 0 then (some (-1)) else ((laws_szInt64S.f l0_1 t217).bind fun t218 => (if t218 < 0 then (some (-1)) else ((laws_szInt64S.f l0_2 t218).bind fun t219 => (if t219 < 0 then (some (-1)) else (some t219)))))) = some r := H
  have A3 := Aside0.mk A30
  clear A30
  by_cases c4 : t217 < 0
  · rw [if_pos c4] at H
    have c4b0 : decide (t217 < 0) = true := decide_eq_true c4
    clear c4
    obtain rfl := Option.some.inj H
    go_enter Try.func21, Try.ntmps21
    go_wp2_with (first | ((with_reducible refine gate_dst (N := 2) rfl ?_); refine box_event ?hg (N := 2) ?hd (cs := #[.slice A0_0 l0_0.length c0_0, .slice A0_1 l0_1.length c0_1, .slice A0_2 l0_2.length c0_2]) (t := 30) ?hr ?_; (case hd => rfl); (case hg => rfl); (case hr => first | (go_simp; done) | (go_simp; rfl)); intro gb216 hg w5 hbox hb; have n0_ := Aside0.mk (below_step (by repeat (first | (with_reducible first | exact HB.out | apply below_alloc | apply pw_below_drewN | apply below_drew1) | exact HB.out)) hb); have n1_ := Aside0.mk (hbox); have n2_ := Aside0.mk ((by rw [hg]; exact (below_size (by repeat (first | (with_reducible first | exact HB.out | apply below_alloc | apply pw_below_drewN | apply below_drew1) | exact HB.out))) : w.heap.size ≤ gb216)); have n3_ := Aside0.mk ((by rw [hg]; exact (below_size (by repeat (first | (with_reducible first | exact HB.out | apply below_alloc | apply pw_below_drewN | apply below_drew1) | exact HB.out))) : w.heap.size ≤ gb216)); clear HB; have HB := n0_; have BK216 := n1_; have GW216 := n2_; have GE216 := n3_; clear n0_ n1_ n2_ n3_; clear hb hbox hg; have hcz6_0 : w5.cell? ⟨gb216, 0, none⟩ = some (.slice A0_0 l0_0.length c0_0) := (blk_cell BK216.out 0).trans rfl; have hcz6_1 : w5.cell? ⟨gb216, 1, none⟩ = some (.slice A0_1 l0_1.length c0_1) := (blk_cell BK216.out 1).trans rfl; have hcz6_2 : w5.cell? ⟨gb216, 2, none⟩ = some (.slice A0_2 l0_2.length c0_2) := (blk_cell BK216.out 2).trans rfl; have hfz6_0 := blk_frozen BK216.out 0; have hfz6_1 := blk_frozen BK216.out 1; have hfz6_2 := blk_frozen BK216.out 2) | ((with_reducible refine gate_callee (f := 55) rfl ?_); refine goesL_ (some 8) rfl rfl Try.func55 (by kernel_rfl) rfl #[.slice A0_0 l0_0.length c0_0, .int .i64 a1] rfl (by (try simp only [List.map_toArray, List.map_cons, List.map_nil]); first | done | rfl | (simp only [List.length_drop, List.length_take]; rfl)) ?_; (with_reducible refine (laws_szInt64S.calls _ _ l0_0 a1 t217 _ ?side1 ?side2 A3.out).mono ?_); (case side1 => exact (Kd.C_below HR0_0.out HB.out)); (case side2 => exact HC0_0.out); rintro e w' ⟨rfl, ⟨nd, rfl⟩⟩; refine ⟨_, rfl, ?_⟩))
    go_ret
    exact ⟨by first | rfl | (simp [errW_none, errW_some] <;> rfl) | (simp [*, errW_none, errW_some] <;> rfl), by repeat (first | (with_reducible first | exact HB.out | apply below_alloc | apply pw_below_drewN | apply below_drew1 | refine below_set ?_ GE216.out) | exact HB.out)⟩
  · rw [if_neg c4] at H
    have c4b0 : decide (t217 < 0) = false := decide_eq_false c4
    clear c4
    replace H := Option.bind_eq_some_iff.mp H
    obtain ⟨t218, A70, H⟩ := H
    replace H : (if t218 < 0 then (some (-1)) else ((laws_szInt64S.f l0_2 t218).bind fun t219 => (if t219 < 0 then (some (-1)) else (some t219)))) = some r := H
    have A7 := Aside0.mk A70
    clear A70
    by_cases c8 : t218 < 0
    · rw [if_pos c8] at H
      have c8b0 : decide (t218 < 0) = true := decide_eq_true c8
      clear c8
      obtain rfl := Option.some.inj H
      go_enter Try.func21, Try.ntmps21
      go_wp2_with (first | ((with_reducible refine gate_dst (N := 2) rfl ?_); refine box_event ?hg (N := 2) ?hd (cs := #[.slice A0_0 l0_0.length c0_0, .slice A0_1 l0_1.length c0_1, .slice A0_2 l0_2.length c0_2]) (t := 30) ?hr ?_; (case hd => rfl); (case hg => rfl); (case hr => first | (go_simp; done) | (go_simp; rfl)); intro gb216 hg w9 hbox hb; have n0_ := Aside0.mk (below_step (by repeat (first | (with_reducible first | exact HB.out | apply below_alloc | apply pw_below_drewN | apply below_drew1) | exact HB.out)) hb); have n1_ := Aside0.mk (hbox); have n2_ := Aside0.mk ((by rw [hg]; exact (below_size (by repeat (first | (with_reducible first | exact HB.out | apply below_alloc | apply pw_below_drewN | apply below_drew1) | exact HB.out))) : w.heap.size ≤ gb216)); have n3_ := Aside0.mk ((by rw [hg]; exact (below_size (by repeat (first | (with_reducible first | exact HB.out | apply below_alloc | apply pw_below_drewN | apply below_drew1) | exact HB.out))) : w.heap.size ≤ gb216)); clear HB; have HB := n0_; have BK216 := n1_; have GW216 := n2_; have GE216 := n3_; clear n0_ n1_ n2_ n3_; clear hb hbox hg; have hcz10_0 : w9.cell? ⟨gb216, 0, none⟩ = some (.slice A0_0 l0_0.length c0_0) := (blk_cell BK216.out 0).trans rfl; have hcz10_1 : w9.cell? ⟨gb216, 1, none⟩ = some (.slice A0_1 l0_1.length c0_1) := (blk_cell BK216.out 1).trans rfl; have hcz10_2 : w9.cell? ⟨gb216, 2, none⟩ = some (.slice A0_2 l0_2.length c0_2) := (blk_cell BK216.out 2).trans rfl; have hfz10_0 := blk_frozen BK216.out 0; have hfz10_1 := blk_frozen BK216.out 1; have hfz10_2 := blk_frozen BK216.out 2) | ((with_reducible refine gate_callee (f := 55) rfl ?_); refine goesL_ (some 8) rfl rfl Try.func55 (by kernel_rfl) rfl #[.slice A0_0 l0_0.length c0_0, .int .i64 a1] rfl (by (try simp only [List.map_toArray, List.map_cons, List.map_nil]); first | done | rfl | (simp only [List.length_drop, List.length_take]; rfl)) ?_; (with_reducible refine (laws_szInt64S.calls _ _ l0_0 a1 t217 _ ?side1 ?side2 A3.out).mono ?_); (case side1 => exact (Kd.C_below HR0_0.out HB.out)); (case side2 => exact HC0_0.out); rintro e w' ⟨rfl, ⟨nd, rfl⟩⟩; refine ⟨_, rfl, ?_⟩) | ((with_reducible refine gate_callee (f := 55) rfl ?_); refine goesL_ (some 14) rfl rfl Try.func55 (by kernel_rfl) rfl #[.slice A0_1 l0_1.length c0_1, .int .i64 t217] rfl (by (try simp only [List.map_toArray, List.map_cons, List.map_nil]); first | done | rfl | (simp only [List.length_drop, List.length_take]; rfl)) ?_; (with_reducible refine (laws_szInt64S.calls _ _ l0_1 t217 t218 _ ?side1 ?side2 A7.out).mono ?_); (case side1 => repeat (first | exact (Kd.C_below HR0_1.out (by repeat (first | (with_reducible first | exact HB.out | apply below_alloc | apply pw_below_drewN | apply below_drew1 | refine below_set ?_ GE216.out) | exact HB.out))) | (with_reducible refine Kd.C_alloc ?_ _) | (with_reducible refine Kd.C_drewN ?_ _) | (with_reducible refine Kd.C_drew ?_))); (case side2 => exact HC0_1.out); rintro e w' ⟨rfl, ⟨nd, rfl⟩⟩; refine ⟨_, rfl, ?_⟩))
      go_ret
      exact ⟨by first | rfl | (simp [errW_none, errW_some] <;> rfl) | (simp [*, errW_none, errW_some] <;> rfl), by repeat (first | (with_reducible first | exact HB.out | apply below_alloc | apply pw_below_drewN | apply below_drew1 | refine below_set ?_ GE216.out) | exact HB.out)⟩
    · rw [if_neg c8] at H
      have c8b0 : decide (t218 < 0) = false := decide_eq_false c8
      clear c8
      replace H := Option.bind_eq_some_iff.mp H
      obtain ⟨t219, A110, H⟩ := H
      replace H : (if t219 < 0 then (some (-1)) else (some t219)) = some r := H
      have A11 := Aside0.mk A110
      clear A110
      by_cases c12 : t219 < 0
      · rw [if_pos c12] at H
        have c12b0 : decide (t219 < 0) = true := decide_eq_true c12
        clear c12
        obtain rfl := Option.some.inj H
        go_enter Try.func21, Try.ntmps21
        go_wp2_with (first | ((with_reducible refine gate_dst (N := 2) rfl ?_); refine box_event ?hg (N := 2) ?hd (cs := #[.slice A0_0 l0_0.length c0_0, .slice A0_1 l0_1.length c0_1, .slice A0_2 l0_2.length c0_2]) (t := 30) ?hr ?_; (case hd => rfl); (case hg => rfl); (case hr => first | (go_simp; done) | (go_simp; rfl)); intro gb216 hg w13 hbox hb; have n0_ := Aside0.mk (below_step (by repeat (first | (with_reducible first | exact HB.out | apply below_alloc | apply pw_below_drewN | apply below_drew1) | exact HB.out)) hb); have n1_ := Aside0.mk (hbox); have n2_ := Aside0.mk ((by rw [hg]; exact (below_size (by repeat (first | (with_reducible first | exact HB.out | apply below_alloc | apply pw_below_drewN | apply below_drew1) | exact HB.out))) : w.heap.size ≤ gb216)); have n3_ := Aside0.mk ((by rw [hg]; exact (below_size (by repeat (first | (with_reducible first | exact HB.out | apply below_alloc | apply pw_below_drewN | apply below_drew1) | exact HB.out))) : w.heap.size ≤ gb216)); clear HB; have HB := n0_; have BK216 := n1_; have GW216 := n2_; have GE216 := n3_; clear n0_ n1_ n2_ n3_; clear hb hbox hg; have hcz14_0 : w13.cell? ⟨gb216, 0, none⟩ = some (.slice A0_0 l0_0.length c0_0) := (blk_cell BK216.out 0).trans rfl; have hcz14_1 : w13.cell? ⟨gb216, 1, none⟩ = some (.slice A0_1 l0_1.length c0_1) := (blk_cell BK216.out 1).trans rfl; have hcz14_2 : w13.cell? ⟨gb216, 2, none⟩ = some (.slice A0_2 l0_2.length c0_2) := (blk_cell BK216.out 2).trans rfl; have hfz14_0 := blk_frozen BK216.out 0; have hfz14_1 := blk_frozen BK216.out 1; have hfz14_2 := blk_frozen BK216.out 2) | ((with_reducible refine gate_callee (f := 55) rfl ?_); refine goesL_ (some 8) rfl rfl Try.func55 (by kernel_rfl) rfl #[.slice A0_0 l0_0.length c0_0, .int .i64 a1] rfl (by (try simp only [List.map_toArray, List.map_cons, List.map_nil]); first | done | rfl | (simp only [List.length_drop, List.length_take]; rfl)) ?_; (with_reducible refine (laws_szInt64S.calls _ _ l0_0 a1 t217 _ ?side1 ?side2 A3.out).mono ?_); (case side1 => exact (Kd.C_below HR0_0.out HB.out)); (case side2 => exact HC0_0.out); rintro e w' ⟨rfl, ⟨nd, rfl⟩⟩; refine ⟨_, rfl, ?_⟩) | ((with_reducible refine gate_callee (f := 55) rfl ?_); refine goesL_ (some 14) rfl rfl Try.func55 (by kernel_rfl) rfl #[.slice A0_1 l0_1.length c0_1, .int .i64 t217] rfl (by (try simp only [List.map_toArray, List.map_cons, List.map_nil]); first | done | rfl | (simp only [List.length_drop, List.length_take]; rfl)) ?_; (with_reducible refine (laws_szInt64S.calls _ _ l0_1 t217 t218 _ ?side1 ?side2 A7.out).mono ?_); (case side1 => repeat (first | exact (Kd.C_below HR0_1.out (by repeat (first | (with_reducible first | exact HB.out | apply below_alloc | apply pw_below_drewN | apply below_drew1 | refine below_set ?_ GE216.out) | exact HB.out))) | (with_reducible refine Kd.C_alloc ?_ _) | (with_reducible refine Kd.C_drewN ?_ _) | (with_reducible refine Kd.C_drew ?_))); (case side2 => exact HC0_1.out); rintro e w' ⟨rfl, ⟨nd, rfl⟩⟩; refine ⟨_, rfl, ?_⟩) | ((with_reducible refine gate_callee (f := 55) rfl ?_); refine goesL_ (some 20) rfl rfl Try.func55 (by kernel_rfl) rfl #[.slice A0_2 l0_2.length c0_2, .int .i64 t218] rfl (by (try simp only [List.map_toArray, List.map_cons, List.map_nil]); first | done | rfl | (simp only [List.length_drop, List.length_take]; rfl)) ?_; (with_reducible refine (laws_szInt64S.calls _ _ l0_2 t218 t219 _ ?side1 ?side2 A11.out).mono ?_); (case side1 => repeat (first | exact (Kd.C_below HR0_2.out (by repeat (first | (with_reducible first | exact HB.out | apply below_alloc | apply pw_below_drewN | apply below_drew1 | refine below_set ?_ GE216.out) | exact HB.out))) | (with_reducible refine Kd.C_alloc ?_ _) | (with_reducible refine Kd.C_drewN ?_ _) | (with_reducible refine Kd.C_drew ?_))); (case side2 => exact HC0_2.out); rintro e w' ⟨rfl, ⟨nd, rfl⟩⟩; refine ⟨_, rfl, ?_⟩))
        go_ret
        exact ⟨by first | rfl | (simp [errW_none, errW_some] <;> rfl) | (simp [*, errW_none, errW_some] <;> rfl), by repeat (first | (with_reducible first | exact HB.out | apply below_alloc | apply pw_below_drewN | apply below_drew1 | refine below_set ?_ GE216.out) | exact HB.out)⟩
      · rw [if_neg c12] at H
        have c12b0 : decide (t219 < 0) = false := decide_eq_false c12
        clear c12
        obtain rfl := Option.some.inj H
        go_enter Try.func21, Try.ntmps21
        go_wp2_with (first | ((with_reducible refine gate_dst (N := 2) rfl ?_); refine box_event ?hg (N := 2) ?hd (cs := #[.slice A0_0 l0_0.length c0_0, .slice A0_1 l0_1.length c0_1, .slice A0_2 l0_2.length c0_2]) (t := 30) ?hr ?_; (case hd => rfl); (case hg => rfl); (case hr => first | (go_simp; done) | (go_simp; rfl)); intro gb216 hg w15 hbox hb; have n0_ := Aside0.mk (below_step (by repeat (first | (with_reducible first | exact HB.out | apply below_alloc | apply pw_below_drewN | apply below_drew1) | exact HB.out)) hb); have n1_ := Aside0.mk (hbox); have n2_ := Aside0.mk ((by rw [hg]; exact (below_size (by repeat (first | (with_reducible first | exact HB.out | apply below_alloc | apply pw_below_drewN | apply below_drew1) | exact HB.out))) : w.heap.size ≤ gb216)); have n3_ := Aside0.mk ((by rw [hg]; exact (below_size (by repeat (first | (with_reducible first | exact HB.out | apply below_alloc | apply pw_below_drewN | apply below_drew1) | exact HB.out))) : w.heap.size ≤ gb216)); clear HB; have HB := n0_; have BK216 := n1_; have GW216 := n2_; have GE216 := n3_; clear n0_ n1_ n2_ n3_; clear hb hbox hg; have hcz16_0 : w15.cell? ⟨gb216, 0, none⟩ = some (.slice A0_0 l0_0.length c0_0) := (blk_cell BK216.out 0).trans rfl; have hcz16_1 : w15.cell? ⟨gb216, 1, none⟩ = some (.slice A0_1 l0_1.length c0_1) := (blk_cell BK216.out 1).trans rfl; have hcz16_2 : w15.cell? ⟨gb216, 2, none⟩ = some (.slice A0_2 l0_2.length c0_2) := (blk_cell BK216.out 2).trans rfl; have hfz16_0 := blk_frozen BK216.out 0; have hfz16_1 := blk_frozen BK216.out 1; have hfz16_2 := blk_frozen BK216.out 2) | ((with_reducible refine gate_callee (f := 55) rfl ?_); refine goesL_ (some 8) rfl rfl Try.func55 (by kernel_rfl) rfl #[.slice A0_0 l0_0.length c0_0, .int .i64 a1] rfl (by (try simp only [List.map_toArray, List.map_cons, List.map_nil]); first | done | rfl | (simp only [List.length_drop, List.length_take]; rfl)) ?_; (with_reducible refine (laws_szInt64S.calls _ _ l0_0 a1 t217 _ ?side1 ?side2 A3.out).mono ?_); (case side1 => exact (Kd.C_below HR0_0.out HB.out)); (case side2 => exact HC0_0.out); rintro e w' ⟨rfl, ⟨nd, rfl⟩⟩; refine ⟨_, rfl, ?_⟩) | ((with_reducible refine gate_callee (f := 55) rfl ?_); refine goesL_ (some 14) rfl rfl Try.func55 (by kernel_rfl) rfl #[.slice A0_1 l0_1.length c0_1, .int .i64 t217] rfl (by (try simp only [List.map_toArray, List.map_cons, List.map_nil]); first | done | rfl | (simp only [List.length_drop, List.length_take]; rfl)) ?_; (with_reducible refine (laws_szInt64S.calls _ _ l0_1 t217 t218 _ ?side1 ?side2 A7.out).mono ?_); (case side1 => repeat (first | exact (Kd.C_below HR0_1.out (by repeat (first | (with_reducible first | exact HB.out | apply below_alloc | apply pw_below_drewN | apply below_drew1 | refine below_set ?_ GE216.out) | exact HB.out))) | (with_reducible refine Kd.C_alloc ?_ _) | (with_reducible refine Kd.C_drewN ?_ _) | (with_reducible refine Kd.C_drew ?_))); (case side2 => exact HC0_1.out); rintro e w' ⟨rfl, ⟨nd, rfl⟩⟩; refine ⟨_, rfl, ?_⟩) | ((with_reducible refine gate_callee (f := 55) rfl ?_); refine goesL_ (some 20) rfl rfl Try.func55 (by kernel_rfl) rfl #[.slice A0_2 l0_2.length c0_2, .int .i64 t218] rfl (by (try simp only [List.map_toArray, List.map_cons, List.map_nil]); first | done | rfl | (simp only [List.length_drop, List.length_take]; rfl)) ?_; (with_reducible refine (laws_szInt64S.calls _ _ l0_2 t218 t219 _ ?side1 ?side2 A11.out).mono ?_); (case side1 => repeat (first | exact (Kd.C_below HR0_2.out (by repeat (first | (with_reducible first | exact HB.out | apply below_alloc | apply pw_below_drewN | apply below_drew1 | refine below_set ?_ GE216.out) | exact HB.out))) | (with_reducible refine Kd.C_alloc ?_ _) | (with_reducible refine Kd.C_drewN ?_ _) | (with_reducible refine Kd.C_drew ?_))); (case side2 => exact HC0_2.out); rintro e w' ⟨rfl, ⟨nd, rfl⟩⟩; refine ⟨_, rfl, ?_⟩))
        go_ret
        exact ⟨by first | rfl | (simp [errW_none, errW_some] <;> rfl) | (simp [*, errW_none, errW_some] <;> rfl), by repeat (first | (with_reducible first | exact HB.out | apply below_alloc | apply pw_below_drewN | apply below_drew1 | refine below_set ?_ GE216.out) | exact HB.out)⟩

end Go.Proofs.Ytihfncjpfgdhoaa.PA
end -- PAx8

section -- KGaussHelp
set_option linter.unusedVariables false
set_option linter.unusedSimpArgs false
namespace Go.Proofs.Ytihfncjpfgdhoaa.K
open Go.RowKit Go.Proofs.YtihfncjpfgdhoaaW.PrintWords Go.Proofs.YtihfncjpfgdhoaaW.PrintLast Go.Proofs.YtihfncjpfgdhoaaW.PrintMore Go.Proofs.Ytihfncjpfgdhoaa.PA

theorem sz_one (l : List Int) (a : Int) (h0 : 0 ≤ a) (h1 : a ≤ 1048576) (hm : l.length ≤ maxLen) : laws_szInt64S.f l a = some (if a < l.length then -1 else a - l.length) := by
  have hm2 : (l.length : Int) ≤ 9223372036854775807 := by
    have : maxLen = 9223372036854775807 := rfl
    omega
  unfold laws_szInt64S.f
  rw [wrap_id (by omega) (by omega)]
  by_cases h : a < l.length
  · rw [if_pos (by omega), if_pos h]
  · rw [if_neg (by omega), if_neg h]
/-- The bulk of a Gauss word: told with the three lengths, or too great. -/
theorem sz_gauss (a b c : List Int) (ha : a.length ≤ maxLen) (hb : b.length ≤ maxLen) (hc : c.length ≤ maxLen) : (∃ t : Int, laws_szGauss.f a b c 1048576 = some t ∧ t < 0) ∨ (∃ t : Int, laws_szGauss.f a b c 1048576 = some t ∧ 0 ≤ t ∧ a.length ≤ 1048576 ∧ b.length ≤ 1048576 ∧ c.length ≤ 1048576) := by
  unfold laws_szGauss.f
  rw [sz_one a 1048576 (by omega) (by omega) ha]
  simp only [Option.bind_some]
  by_cases h1 : (1048576 : Int) < a.length
  · left; rw [if_pos h1, if_pos (by omega)]; exact ⟨-1, rfl, by omega⟩
  · rw [if_neg h1, if_neg (by omega), sz_one b _ (by omega) (by omega) hb]
    simp only [Option.bind_some]
    by_cases h2 : (1048576 : Int) - a.length < b.length
    · left; rw [if_pos h2, if_pos (by omega)]; exact ⟨-1, rfl, by omega⟩
    · rw [if_neg h2, if_neg (by omega), sz_one c _ (by omega) (by omega) hc]
      simp only [Option.bind_some]
      by_cases h3 : (1048576 : Int) - a.length - b.length < c.length
      · left; rw [if_pos h3, if_pos (by omega)]; exact ⟨-1, rfl, by omega⟩
      · right; rw [if_neg h3, if_neg (by omega)]; exact ⟨_, rfl, by omega, by omega, by omega, by omega⟩
theorem ev_toGauss (a b c : List Int) (ha : a.length ≤ 1048576) (hb : b.length ≤ 1048576) (hc : c.length ≤ 1048576) : Ev (fun k => laws_toGauss.f k a b c) (a, b, c) := by
  unfold laws_toGauss.f
  exact Ev.bind (ev_toInt a ha) (Ev.bind (ev_toInt b hb) (Ev.bind (ev_toInt c hc) (ev_some _)))
theorem ev_eqGauss (a b c a' b' c' : List Int) (ha : a.length ≤ 1048576) (hb : b.length ≤ 1048576) (hc : c.length ≤ 1048576) : Ev (fun k => laws_eqGauss.f k a b c a' b' c') (decide (a = a') && (decide (b = b') && decide (c = c'))) := by
  unfold laws_eqGauss.f
  refine Ev.bind (ev_eqInt _ _ (by omega)) (ev_if (fun h1 => ?_) (fun h1 => ?_))
  · rw [h1, Bool.true_and]
    refine Ev.bind (ev_eqInt _ _ (by omega)) (ev_if (fun h2 => ?_) (fun h2 => ?_))
    · rw [h2, Bool.true_and]
      refine Ev.bind (ev_eqInt _ _ (by omega)) (ev_if (fun h3 => ?_) (fun h3 => ?_))
      · rw [h3]; exact ev_some _
      · rw [Bool.eq_false_iff.mpr h3]; exact ev_some _
    · rw [Bool.eq_false_iff.mpr h2, Bool.false_and]; exact ev_some _
  · rw [Bool.eq_false_iff.mpr h1, Bool.false_and]; exact ev_some _
theorem ev_eqGauss_same (a b c : List Int) (ha : a.length ≤ 1048576) (hb : b.length ≤ 1048576) (hc : c.length ≤ 1048576) : Ev (fun k => laws_eqGauss.f k a b c a b c) true := ev_eq (ev_eqGauss a b c a b c ha hb hc) (by simp)
/-- The marks: the numbers from k on, through the three rows. -/
theorem ev_markGauss (a b c : List Int) (k : Int) (h0 : 0 ≤ k) (h1 : k ≤ 1) (ha : a.length ≤ 1048576) (hb : b.length ≤ 1048576) (hc : c.length ≤ 1048576) :
    Ev (fun n => laws_markGauss.f n a b c k) (k + a.length + b.length + c.length, upL a.length k, upL b.length (k + a.length), upL c.length (k + a.length + b.length)) := by
  unfold laws_markGauss.f
  exact Ev.bind (ev_mark a k h0 (by omega)) (Ev.bind (ev_mark b (k + a.length) (by omega) (by omega)) (Ev.bind (ev_mark c (k + a.length + b.length) (by omega) (by omega)) (ev_some _)))
theorem ev_heldGauss (a b c : Nat) (k : Int) (h0 : 0 ≤ k) (h1 : k ≤ 1) (ha : a ≤ 1048576) (hb : b ≤ 1048576) (hc : c ≤ 1048576) :
    Ev (fun n => laws_heldGauss.f n (upL a k) (upL b (k + a)) (upL c (k + a + b)) k) (k + a + b + c) := by
  unfold laws_heldGauss.f
  exact Ev.bind (ev_held a k h0 (by omega)) (ev_neg (by omega) (Ev.bind (ev_held b (k + a) (by omega) (by omega)) (ev_neg (by omega) (Ev.bind (ev_held c (k + a + b) (by omega) (by omega)) (ev_neg (by omega) (ev_some _))))))
end Go.Proofs.Ytihfncjpfgdhoaa.K
end -- KGaussHelp

section -- KWordLaw
set_option linter.unusedVariables false
set_option linter.unusedSimpArgs false
namespace Go.Proofs.Ytihfncjpfgdhoaa.K
open Go.RowKit Go.Proofs.YtihfncjpfgdhoaaW.PrintWords Go.Proofs.YtihfncjpfgdhoaaW.PrintLast Go.Proofs.YtihfncjpfgdhoaaW.PrintMore Go.Proofs.Ytihfncjpfgdhoaa.PA

def isWordL (l : List Int) : Bool := decide (l.length ≤ 12) && (twiceL l && decide (normalL l = l))

theorem rd_lt (l : List Int) (i : Nat) (h : i < l.length) : rd l i = l[i] := by
  unfold rd
  rw [Int.toNat_natCast, List.getD_eq_getElem?_getD, List.getElem?_eq_getElem h]
  rfl
theorem take_snoc (l : List Int) (i : Nat) (h : i < l.length) : l.take (i + 1) = l.take i ++ [rd l i] := by
  rw [rd_lt l i h, List.take_succ_eq_append_getElem h]

/-! ### twice -/
theorem twice_l1 (l : List Int) (hl : l.length ≤ 4096) (i : Nat) (hi : i < l.length) (b : Bool) (hb : l.count (rd l i) = 2 → ∃ n, spec_l01Twice.l0 n l ((i : Int) + 1) = some b) (hb2 : l.count (rd l i) ≠ 2 → b = false) (d : Nat) :
    ∀ (j : Nat) (c : Int), l.length - j = d → j ≤ l.length → c = ((l.take j).count (rd l i) : Int) → ∃ n, spec_l01Twice.l1 n l i c j = some b := by
  induction d with
  | zero =>
    intro j c hd hj hc
    rw [List.take_of_length_le (by omega)] at hc
    by_cases h2 : l.count (rd l i) = 2
    · obtain ⟨n, hn⟩ := hb h2
      refine ⟨n + 1, ?_⟩
      simp only [spec_l01Twice.l1]
      rw [if_neg (by omega), if_pos (by omega), wrap_id (by omega) (by omega)]
      exact hn
    · refine ⟨1, ?_⟩
      simp only [spec_l01Twice.l1]
      rw [if_neg (by omega), if_neg (by omega), hb2 h2]
  | succ d ih =>
    intro j c hd hj hc
    have hlt : j < l.length := by omega
    have hcl : (l.take j).count (rd l i) ≤ 4096 := Nat.le_trans List.count_le_length (by rw [List.length_take]; omega)
    by_cases he : rd l j = rd l i
    · obtain ⟨n, hn⟩ := ih (j + 1) (c + 1) (by omega) (by omega) (by rw [take_snoc l j hlt, List.count_append, he]; simp; omega)
      refine ⟨n + 1, ?_⟩
      simp only [spec_l01Twice.l1]
      rw [if_pos (by omega), if_pos (by omega), if_pos (by omega), if_pos (by omega), if_pos he, wrap_id (by omega) (by omega), wrap_id (by omega) (by omega)]
      exact hn
    · obtain ⟨n, hn⟩ := ih (j + 1) c (by omega) (by omega) (by
        have h0 : List.count (rd l i) [rd l j] = 0 := List.count_eq_zero.mpr (by simpa using fun h => he h.symm)
        rw [take_snoc l j hlt, List.count_append, h0]; omega)
      refine ⟨n + 1, ?_⟩
      simp only [spec_l01Twice.l1]
      rw [if_pos (by omega), if_pos (by omega), if_pos (by omega), if_pos (by omega), if_neg he, wrap_id (by omega) (by omega)]
      exact hn
theorem twice_l0 (l : List Int) (hl : l.length ≤ 4096) (d : Nat) : ∀ (i : Nat), l.length - i = d → i ≤ l.length →
    ∃ n, spec_l01Twice.l0 n l i = some ((l.drop i).all fun x => l.count x == 2) := by
  induction d with
  | zero =>
    intro i hd hi
    refine ⟨1, ?_⟩
    simp only [spec_l01Twice.l0]
    rw [if_neg (by omega), List.drop_of_length_le (by omega)]
    rfl
  | succ d ih =>
    intro i hd hi
    have hlt : i < l.length := by omega
    obtain ⟨n, hn⟩ := twice_l1 l hl i hlt ((l.drop i).all fun x => l.count x == 2) (fun h2 => by
      obtain ⟨n, hn⟩ := ih (i + 1) (by omega) (by omega)
      refine ⟨n, ?_⟩
      rw [drop_at l i hlt, List.all_cons, h2]
      simpa using hn) (fun h2 => by rw [drop_at l i hlt, List.all_cons]; simp [h2]) l.length 0 0 (by omega) (by omega) (by simp)
    refine ⟨n + 1, ?_⟩
    simp only [spec_l01Twice.l0]
    rw [if_pos (by omega)]
    exact hn
theorem ev_specTwice (l : List Int) (hl : l.length ≤ 4096) : Ev (fun k => spec_l01Twice.f k l) (twiceL l) := by
  refine ev_of (fun k => spec_l01Twice.mono _ _) ?_
  obtain ⟨n, hn⟩ := twice_l0 l hl l.length 0 (by omega) (by omega)
  exact ⟨n, by simpa [spec_l01Twice.f, twiceL] using hn⟩

/-! ### normal -/
/-- The place at which the reference's inner loop ends: the last one; in a list without doubles it is the only one. -/
theorem normal_l1 (l : List Int) (met out : List Int) (i : Nat) (hi : i < l.length) (hm : met.length ≤ i) (ho : out.length = i) (hl : l.length ≤ 4096) (hnd : met.Nodup) (r : List Int)
    (h1 : ∀ p, met.idxOf? (rd l i) = some p → ∃ n, spec_l01Normal.l0 n l met (out ++ [(p : Int)]) ((i : Int) + 1) = some r)
    (h2 : met.idxOf? (rd l i) = none → ∃ n, spec_l01Normal.l0 n l (met ++ [rd l i]) (out ++ [(met.length : Int)]) ((i : Int) + 1) = some r) (d : Nat) :
    ∀ (j : Nat) (a : Int), met.length - j = d → j ≤ met.length → (a = -1 ∧ ¬ rd l i ∈ met.take j ∨ ∃ p : Nat, a = p ∧ p < j ∧ met.idxOf? (rd l i) = some p) → ∃ n, spec_l01Normal.l1 n l met out i a j = some r := by
  induction d with
  | zero =>
    intro j a hd hj ha
    rcases ha with ⟨ha, hno⟩ | ⟨p, ha, hp, hidx⟩
    · rw [List.take_of_length_le (by omega)] at hno
      obtain ⟨n, hn⟩ := h2 (by simpa [List.idxOf?_eq_none_iff] using hno)
      refine ⟨n + 1, ?_⟩
      simp only [spec_l01Normal.l1]
      rw [if_neg (by omega), if_pos (by omega), if_pos (by omega), if_pos (by omega), if_pos (by omega), if_pos (by omega), wrap_id (by omega) (by omega)]
      exact hn
    · obtain ⟨n, hn⟩ := h1 p hidx
      refine ⟨n + 1, ?_⟩
      simp only [spec_l01Normal.l1]
      rw [if_neg (by omega), if_neg (by omega), if_pos (by omega), wrap_id (by omega) (by omega), ha]
      exact hn
  | succ d ih =>
    intro j a hd hj ha
    have hlt : j < met.length := by clear ha; omega
    have hd1 : met.length - (j + 1) = d := by clear ha; omega
    have hj1 : j + 1 ≤ met.length := by clear ha; omega
    by_cases he : rd met j = rd l i
    · have hget : met[j] = rd l i := by rw [← rd_lt met j hlt, he]
      obtain ⟨n, hn⟩ := ih (j + 1) j hd1 hj1 (Or.inr ⟨j, rfl, Nat.lt_succ_self j, by
        rw [List.idxOf?, List.findIdx?_eq_some_iff_findIdx_eq]
        refine ⟨hlt, ?_⟩
        rw [List.findIdx_eq hlt]
        refine ⟨by simp [hget], fun q hq => ?_⟩
        have : met[q] ≠ met[j] := (List.pairwise_iff_getElem.mp hnd) q j (by omega) hlt hq
        rw [hget] at this
        simpa using this⟩)
      refine ⟨n + 1, ?_⟩
      simp only [spec_l01Normal.l1]
      rw [if_pos (by omega), if_pos (by omega), if_pos (by omega), if_pos (by omega), if_pos he, wrap_id (by omega) (by omega)]
      exact hn
    · obtain ⟨n, hn⟩ := ih (j + 1) a hd1 hj1 (by
        rcases ha with ⟨ha, hno⟩ | ⟨p, ha, hp, hidx⟩
        · refine Or.inl ⟨ha, ?_⟩
          rw [take_snoc met j hlt]
          simp only [List.mem_append, List.mem_singleton, not_or]
          exact ⟨hno, fun h => he h.symm⟩
        · exact Or.inr ⟨p, ha, by omega, hidx⟩)
      refine ⟨n + 1, ?_⟩
      simp only [spec_l01Normal.l1]
      rw [if_pos (by omega), if_pos (by omega), if_pos (by omega), if_pos (by omega), if_neg he, wrap_id (by omega) (by omega)]
      exact hn
theorem normal_l0 (l : List Int) (hl : l.length ≤ 4096) (d : Nat) : ∀ (met out : List Int) (i : Nat), l.length - i = d → i ≤ l.length → met.length ≤ i → out.length = i → met.Nodup →
    ∃ n, spec_l01Normal.l0 n l met out i = some (out ++ normFrom met (l.drop i)) := by
  induction d with
  | zero =>
    intro met out i hd hi hm ho hnd
    refine ⟨1, ?_⟩
    simp only [spec_l01Normal.l0]
    rw [if_neg (by omega), List.drop_of_length_le (by omega), normFrom, List.append_nil]
  | succ d ih =>
    intro met out i hd hi hm ho hnd
    have hlt : i < l.length := by omega
    obtain ⟨n, hn⟩ := normal_l1 l met out i hlt hm ho hl hnd (out ++ normFrom met (l.drop i)) (fun p hp => by
        obtain ⟨n, hn⟩ := ih met (out ++ [(p : Int)]) (i + 1) (by omega) (by omega) (by omega) (by simp; omega) hnd
        refine ⟨n, ?_⟩
        rw [drop_at l i hlt, normFrom, hp]
        simpa using hn) (fun hp => by
        obtain ⟨n, hn⟩ := ih (met ++ [rd l i]) (out ++ [(met.length : Int)]) (i + 1) (by omega) (by omega) (by simp; omega) (by simp; omega) (by
          rw [List.nodup_append]
          refine ⟨hnd, by simp, ?_⟩
          intro a ha b hb e
          obtain rfl : b = rd l i := by simpa using hb
          subst e
          exact (List.idxOf?_eq_none_iff.mp hp) ha)
        refine ⟨n, ?_⟩
        rw [drop_at l i hlt, normFrom, hp]
        simpa using hn) met.length 0 (-1) (by omega) (by omega) (Or.inl ⟨rfl, by simp⟩)
    refine ⟨n + 1, ?_⟩
    simp only [spec_l01Normal.l0]
    rw [if_pos (by omega)]
    exact hn
theorem ev_specNormal (l : List Int) (hl : l.length ≤ 4096) : Ev (fun k => spec_l01Normal.f k l) (normalL l) := by
  refine ev_of (fun k => spec_l01Normal.mono _ _) ?_
  obtain ⟨n, hn⟩ := normal_l0 l hl l.length [] [] 0 (by omega) (by omega) (by simp) rfl (by simp)
  exact ⟨n, by simpa [spec_l01Normal.f, normalL] using hn⟩

/-! ### same -/
theorem same_l0 (a b : List Int) (hl : a.length < 1099511627776) (hab : a.length = b.length) (d : Nat) : ∀ (i : Nat), a.length - i = d → i ≤ a.length →
    ∃ n, spec_l01Same.l0 n a b i = some (decide (a.drop i = b.drop i)) := by
  induction d with
  | zero =>
    intro i hd hi
    refine ⟨1, ?_⟩
    simp only [spec_l01Same.l0]
    rw [if_neg (by omega), List.drop_of_length_le (by omega), List.drop_of_length_le (by omega)]
    rfl
  | succ d ih =>
    intro i hd hi
    have hlt : i < a.length := by omega
    obtain ⟨n, hn⟩ := ih (i + 1) (by omega) (by omega)
    refine ⟨n + 1, ?_⟩
    simp only [spec_l01Same.l0]
    rw [if_pos (by omega), if_pos (by omega), if_pos (by omega), wrap_id (by omega) (by omega), drop_at a i hlt, drop_at b i (by omega)]
    by_cases h : rd a i = rd b i
    · rw [if_pos h]
      refine (show spec_l01Same.l0 n a b ((i : Int) + 1) = _ from hn).trans ?_
      simp [h]
    · rw [if_neg h]
      simp [h]
theorem ev_specSame (a b : List Int) (hl : a.length < 1099511627776) : Ev (fun k => spec_l01Same.f k a b) (decide (a = b)) := by
  refine ev_of (fun k => spec_l01Same.mono _ _ _) ?_
  by_cases h : a.length = b.length
  · obtain ⟨n, hn⟩ := same_l0 a b hl h a.length 0 (by omega) (by omega)
    refine ⟨n, ?_⟩
    unfold spec_l01Same.f
    rw [if_pos (by omega)]
    exact hn
  · refine ⟨0, ?_⟩
    unfold spec_l01Same.f
    rw [if_neg (by omega)]
    have : ¬ a = b := fun e => h (by rw [e])
    simp [this]
theorem equal_l0 (a b : List Int) (hl : a.length < 1099511627776) (hab : a.length = b.length) (d : Nat) : ∀ (i : Nat), a.length - i = d → i ≤ a.length →
    ∃ n, slices_Equal_int64_int64.l0 n a b a.length i = some (decide (a.drop i = b.drop i)) := by
  induction d with
  | zero =>
    intro i hd hi
    refine ⟨1, ?_⟩
    simp only [slices_Equal_int64_int64.l0]
    rw [if_neg (by omega), List.drop_of_length_le (by omega), List.drop_of_length_le (by omega)]
    rfl
  | succ d ih =>
    intro i hd hi
    have hlt : i < a.length := by omega
    obtain ⟨n, hn⟩ := ih (i + 1) (by omega) (by omega)
    refine ⟨n + 1, ?_⟩
    simp only [slices_Equal_int64_int64.l0]
    rw [if_pos (by omega), if_pos (by omega), if_pos (by omega), if_pos (by omega), wrap_id (by omega) (by omega), drop_at a i hlt, drop_at b i (by omega)]
    by_cases h : rd a i = rd b i
    · rw [if_pos h]
      refine (show slices_Equal_int64_int64.l0 n a b a.length ((i : Int) + 1) = _ from hn).trans ?_
      simp [h]
    · rw [if_neg h]
      simp [h]
theorem ev_equal (a b : List Int) (hl : a.length < 1099511627776) : Ev (fun k => slices_Equal_int64_int64.f k a b) (decide (a = b)) := by
  refine ev_of (fun k => slices_Equal_int64_int64.mono _ _ _) ?_
  by_cases h : a.length = b.length
  · obtain ⟨n, hn⟩ := equal_l0 a b hl h a.length 0 (by omega) (by omega)
    refine ⟨n, ?_⟩
    unfold slices_Equal_int64_int64.f
    rw [if_pos (by omega)]
    exact hn
  · refine ⟨0, ?_⟩
    unfold slices_Equal_int64_int64.f
    rw [if_neg (by omega)]
    have : ¬ a = b := fun e => h (by rw [e])
    simp [this]

/-! ### words -/
theorem ev_specIs (l : List Int) : Ev (fun k => spec_l01Is.f k l) (isWordL l) := by
  unfold spec_l01Is.f isWordL
  refine ev_if (fun h => ?_) (fun h => ?_)
  · rw [show decide (l.length ≤ 12) = true from decide_eq_true (by omega), Bool.true_and]
    refine Ev.bind (ev_specTwice l (by omega)) ?_
    refine ev_if (fun ht => ?_) (fun ht => ?_)
    · rw [ht, Bool.true_and]
      refine Ev.bind (ev_specNormal l (by omega)) (Ev.bind (ev_specSame _ _ (by rw [normalL_length]; omega)) (ev_some _))
    · rw [Bool.eq_false_iff.mpr ht, Bool.false_and]
      exact ev_some _
  · rw [show decide (l.length ≤ 12) = false from decide_eq_false (by omega), Bool.false_and]
    exact ev_some _
theorem ev_isWord (l : List Int) (h64 : Ok64 l) : Ev (fun k => impl_IsWord.f k l) (isWordL l) := by
  unfold impl_IsWord.f isWordL
  refine ev_if (fun h => ?_) (fun h => ?_)
  · rw [show decide (l.length ≤ 12) = true from decide_eq_true (by omega), Bool.true_and]
    refine ev_const (show impl_twice.f l = some (twiceL l) by unfold impl_twice.f; rw [if_pos ⟨by omega, h64⟩]) ?_
    refine ev_if (fun ht => ?_) (fun ht => ?_)
    · rw [ht, Bool.true_and]
      refine ev_const (show impl_normal.f l = some (normalL l) by unfold impl_normal.f; rw [if_pos ⟨by omega, h64⟩]) (Ev.bind (ev_equal _ _ (by rw [normalL_length]; omega)) (ev_some _))
    · rw [Bool.eq_false_iff.mpr ht, Bool.false_and]
      exact ev_some _
  · rw [show decide (l.length ≤ 12) = false from decide_eq_false (by omega), Bool.false_and]
    exact ev_some _

/-! ### what a word is -/
/-- The numbers of a word of n chords. -/
structure Word (l : List Int) (n : Nat) : Prop where
  len : l.length = 2 * n
  small : n ≤ 6
  range : ∀ j, j < l.length → 0 ≤ rd l j ∧ rd l j < n
  two : ∀ i, i < n → l.count (i : Int) = 2
theorem normFrom_range (l : List Int) : ∀ met, ∀ y ∈ normFrom met l, 0 ≤ y ∧ y < ((metBy met l).length : Int) := by
  have hmono : ∀ (l : List Int) (met : List Int), met.length ≤ (metBy met l).length := by
    intro l
    induction l with
    | nil => intro met; exact Nat.le_refl _
    | cons x r ih =>
      intro met
      rw [metBy]
      split
      · exact ih met
      · have := ih (met ++ [x])
        simp at this
        omega
  induction l with
  | nil => intro met y hy; simp [normFrom] at hy
  | cons x r ih =>
    intro met y hy
    rw [normFrom] at hy
    rw [metBy]
    cases h : met.idxOf? x with
    | some j =>
      rw [h] at hy
      simp only at hy ⊢
      rcases List.mem_cons.mp hy with rfl | hy
      · have h1 := idxOf?_lt h
        have h2 := hmono r met
        omega
      · exact ih met y hy
    | none =>
      rw [h] at hy
      simp only at hy ⊢
      rcases List.mem_cons.mp hy with rfl | hy
      · have h2 := hmono r (met ++ [x])
        simp at h2
        omega
      · exact ih (met ++ [x]) y hy
theorem normFrom_onto (l : List Int) : ∀ met (k : Nat), met.length ≤ k → k < (metBy met l).length → (k : Int) ∈ normFrom met l := by
  induction l with
  | nil => intro met k h1 h2; simp [metBy] at h2; omega
  | cons x r ih =>
    intro met k h1 h2
    rw [metBy] at h2
    rw [normFrom]
    cases h : met.idxOf? x with
    | some j =>
      rw [h] at h2
      exact List.mem_cons_of_mem _ (ih met k h1 h2)
    | none =>
      rw [h] at h2
      simp only at h2 ⊢
      by_cases e : k = met.length
      · subst e; exact List.mem_cons_self
      · exact List.mem_cons_of_mem _ (ih (met ++ [x]) k (by simp; omega) h2)
/-- A list whose numbers are 0 to n - 1, each twice, has 2 n elements. -/
theorem length_of_counts (n : Nat) : ∀ (l : List Int), (∀ y ∈ l, 0 ≤ y ∧ y < (n : Int)) → (∀ i : Nat, i < n → l.count (i : Int) = 2) → l.length = 2 * n := by
  induction n with
  | zero =>
    intro l h _
    cases l with
    | nil => rfl
    | cons y r =>
      have := h y List.mem_cons_self
      omega
  | succ n ih =>
    intro l h h2
    have h3 := ih (l.filter (fun y => y != (n : Int))) (fun y hy => by
      obtain ⟨hy1, hy2⟩ := List.mem_filter.mp hy
      have := h y hy1
      have : y ≠ (n : Int) := by simpa using hy2
      omega) (fun i hi => by
      rw [List.count_filter (by have : (i : Int) ≠ n := by omega
                                simpa using this)]
      exact h2 i (by omega))
    have h4 : l.length = (l.filter (fun y => y != (n : Int))).length + l.count (n : Int) := by
      clear h h2 h3 ih
      induction l with
      | nil => rfl
      | cons y r ihr =>
        by_cases e : y = (n : Int)
        · subst e; simp; omega
        · have h5 : (y != (n : Int)) = true := by simpa using e
          rw [List.filter_cons, if_pos h5, List.count_cons]
          simp [e]
          omega
    have := h2 n (by omega)
    omega
theorem word_of (l : List Int) (h : isWordL l = true) : ∃ n, Word l n := by
  unfold isWordL at h
  simp only [Bool.and_eq_true, decide_eq_true_eq] at h
  obtain ⟨h12, ht, hn⟩ := h
  have hr : ∀ y ∈ l, 0 ≤ y ∧ y < ((metBy [] l).length : Int) := by
    intro y hy
    exact normFrom_range l [] y (by
      have : normFrom [] l = l := hn
      rw [this]; exact hy)
  have hc : ∀ i : Nat, i < (metBy [] l).length → l.count (i : Int) = 2 := by
    intro i hi
    have hm : (i : Int) ∈ l := by
      have h5 := normFrom_onto l [] i (by simp) hi
      have : normFrom [] l = l := hn
      rw [this] at h5
      exact h5
    have := List.all_eq_true.mp ht _ hm
    simpa using this
  have hlen := length_of_counts _ l hr hc
  exact ⟨_, hlen, by omega, fun j hj => hr _ (rd_mem l j hj), hc⟩

end Go.Proofs.Ytihfncjpfgdhoaa.K
end -- KWordLaw

section -- KSlices
set_option linter.unusedVariables false
set_option linter.unusedSimpArgs false
namespace Go.Proofs.Ytihfncjpfgdhoaa.K
open Go.RowKit Go.Proofs.YtihfncjpfgdhoaaW.PrintWords Go.Proofs.YtihfncjpfgdhoaaW.PrintLast Go.Proofs.YtihfncjpfgdhoaaW.PrintMore

/-- Where the first element is that meets p, counted from i; -1 without one. -/
def idxFrom (p : Int → Bool) (l : List Int) (i : Nat) : Int := match l.findIdx? p with | some j => (i + j : Nat) | none => -1

/-- The predicate p, as a function value computes it; the world goes by R. -/
def PredOn (P : Program) (R : World → World → Prop) (fv : Value) (p : Int → Bool) (l : List Int) (w : World) : Prop :=
  ∀ x ∈ l, ∀ w1, R w w1 → Runs P fv #[.int .i64 x] w1 fun e w2 => e = .returned (.bool (p x)) ∧ R w1 w2

theorem idxFrom_hit (p : Int → Bool) (l : List Int) (k : Nat) (h : k < l.length) (hp : p (rd l k) = true) : idxFrom p (l.drop k) k = k := by
  rw [drop_at l k h]
  simp [idxFrom, List.findIdx?_cons, hp]
theorem idxFrom_miss (p : Int → Bool) (l : List Int) (k : Nat) (h : k < l.length) (hp : p (rd l k) = false) : idxFrom p (l.drop k) k = idxFrom p (l.drop (k + 1)) (k + 1) := by
  rw [drop_at l k h]
  simp only [idxFrom, List.findIdx?_cons, hp]
  cases h : (l.drop (k + 1)).findIdx? p with
  | none => simp [h]
  | some j => simp [h]; omega

theorem idx_any (p : Int → Bool) (l : List Int) : decide (0 ≤ idxFrom p l 0) = l.any p := by
  unfold idxFrom
  cases h : l.findIdx? p with
  | none =>
    rw [List.findIdx?_eq_none_iff] at h
    have : l.any p = false := by simpa using h
    rw [this]
    rfl
  | some j =>
    have h2 : l.any p = true := by
      have := List.findIdx?_isSome (xs := l) (p := p)
      rw [h] at this
      simpa using this.symm
    rw [h2]
    simp

set_option maxHeartbeats 1000000 in
set_option maxRecDepth 100000 in
theorem indexFunc {R : World → World → Prop} (hR : Step R) (A0 : Option Addr) (c0 : Nat) (l : List Int) (fv : Value) (p : Int → Bool) (w : World)
    (hr : Kd.C (Kd.int .i64) w A0 l.length l) (hp : PredOn Try.prog R fv p l w) :
    Calls Try.prog 122 #[.slice A0 l.length c0, fv] w fun e w' => e = .returned (.int .i64 (idxFrom p l 0)) ∧ R w w' := by
  have HR := Aside0.mk hr
  have HP := Aside0.mk hp
  have hm : l.length ≤ 9223372036854775807 := hr.2.1
  clear hr hp
  go_enter Try.func122, Try.ntmps122
  go_wp2
  go_loopw [8] (fun i wr => ∃ k : Nat, k ≤ l.length ∧ i = .int .i64 k ∧ Aside0 (idxFrom p l 0 = idxFrom p (l.drop k) k) ∧ Aside0 (R w wr)) (fun i _ => l.length - (intOf i).toNat)
  case atStart => exact ⟨0, Nat.zero_le _, rfl, ⟨rfl⟩, ⟨hR.refl _⟩⟩
  case round =>
    obtain ⟨k, hk, rfl, HI, HW⟩ := hrel
    by_cases hlt : k < l.length
    · obtain ⟨ad, hA, hc⟩ := Kd.at_int (Kd.C_below HR.out (hR.below HW.out)) k (by omega) (by omega)
      subst hA
      have hrun := Aside0.mk (HP.out (rd l k) (rd_mem l k hlt) wr HW.out)
      simp only [Int.toNat_natCast] at hc
      go_wp2_with ((with_reducible refine gate_dst (N := 16) rfl ?_); refine goesV (some 16) rfl rfl rfl (fv := fv) rfl #[.int .i64 (rd l k)] (by (try simp only [List.map_toArray, List.map_cons, List.map_nil]); rfl) ?_; refine hrun.out.mono ?_; rintro e w2 ⟨rfl, h2⟩; have H2 := Aside0.mk h2; clear h2; refine ⟨_, rfl, ?_⟩)
      · have hpt : p (rd l k) = true := by assumption
        go_ret
        exact ⟨by rw [HI.out, idxFrom_hit p l k hlt hpt]; rfl, hR.trans HW.out H2.out⟩
      · have hpf : p (rd l k) = false := by assumption
        go_roundw
        case rel => exact ⟨k + 1, hlt, by go_num, ⟨by rw [HI.out, idxFrom_miss p l k hlt hpf]⟩, ⟨hR.trans HW.out H2.out⟩⟩
        case measure => simp [intOf]; omega
    · have hke : k = l.length := by omega
      go_wp2
      go_ret
      exact ⟨by rw [HI.out, hke, List.drop_length]; rfl, HW.out⟩

/-- Does any element meet p? -/
theorem containsFunc {R : World → World → Prop} (hR : Step R) (A0 : Option Addr) (c0 : Nat) (l : List Int) (fv : Value) (p : Int → Bool) (w : World)
    (hr : Kd.C (Kd.int .i64) w A0 l.length l) (hp : PredOn Try.prog R fv p l w) :
    Calls Try.prog 96 #[.slice A0 l.length c0, fv] w fun e w' => e = .returned (.bool (l.any p)) ∧ R w w' := by
  have HR := Aside0.mk hr
  have HP := Aside0.mk hp
  clear hr hp
  have HE := Aside0.mk (idx_any p l)
  go_enter Try.func96, Try.ntmps96
  go_wp2_with (go_at_call 122; refine (indexFunc hR A0 c0 l fv p _ HR.out HP.out).mono ?_; rintro e w1 ⟨rfl, h1⟩; have H1 := Aside0.mk h1; clear h1)
  go_ret
  exact ⟨by rw [← HE.out]; rfl, H1.out⟩
end Go.Proofs.Ytihfncjpfgdhoaa.K
end -- KSlices

section -- KGauss
set_option linter.unusedVariables false
set_option linter.unusedSimpArgs false
namespace Go.Proofs.Ytihfncjpfgdhoaa.K
open Go.RowKit Go.Proofs.YtihfncjpfgdhoaaW.PrintWords Go.Proofs.YtihfncjpfgdhoaaW.PrintLast Go.Proofs.YtihfncjpfgdhoaaW.PrintMore

theorem c_inG (a b c : Int) (w : World) : Calls Try.prog 81 #[.int .i64 a, .int .i64 b, .int .i64 c] w fun e w' => e = .returned (.bool (inB a b c)) ∧ w = w' := by
  by_cases h : b ≤ a
  · have hd : decide (b ≤ a) = true := decide_eq_true h
    clear h
    go_enter Try.func81, Try.ntmps81
    go_wp2
    go_ret
    exact ⟨by rw [inB, hd]; rfl, rfl⟩
  · have hd : decide (b ≤ a) = false := decide_eq_false h
    clear h
    go_enter Try.func81, Try.ntmps81
    go_wp2
    go_ret
    exact ⟨by rw [inB, hd]; rfl, rfl⟩
def isHeadB (x : Int) : Bool := inB x 0 1
def isSignB (x : Int) : Bool := (x == 1) || (x == -1)
theorem c_isHead (a : Int) (w : World) : Calls Try.prog 76 #[.int .i64 a] w fun e w' => e = .returned (.bool (isHeadB a)) ∧ w = w' := by
  go_enter Try.func76, Try.ntmps76
  go_wp2_with (go_at_call 81; refine (c_inG _ _ _ _).mono ?_; rintro e w1 ⟨rfl, rfl⟩)
  go_ret
  exact ⟨rfl, rfl⟩
theorem c_isSign (a : Int) (w : World) : Calls Try.prog 77 #[.int .i64 a] w fun e w' => e = .returned (.bool (isSignB a)) ∧ w = w' := by
  by_cases h : a = 1
  · subst h
    go_enter Try.func77, Try.ntmps77
    go_wp2
    go_ret
    exact ⟨rfl, rfl⟩
  · have h1 : (a == 1) = false := beq_eq_false_iff_ne.mpr h
    have hs : isSignB a = (a == -1) := by unfold isSignB; rw [h1, Bool.false_or]
    go_enter Try.func77, Try.ntmps77
    go_wp2
    go_ret
    rw [hs]
    exact ⟨rfl, rfl⟩
theorem r_IG1 (x : Int) (w : World) : Runs Try.prog (.func (.func 97) #[] #[]) #[.int .i64 x] w fun e w' => e = .returned (.bool (!isHeadB x)) ∧ Drawn0 w w' := by
  refine ⟨97, _, _, _, rfl, Try.func97, by kernel_rfl, rfl, ?_⟩
  show Calls _ _ #[.int .i64 x] _ _
  go_enter Try.func97, Try.ntmps97
  go_wp2_with (go_at_call 76; refine (c_isHead _ _).mono ?_; rintro e w1 ⟨rfl, rfl⟩)
  go_ret
  exact ⟨rfl, Drawn0.refl _⟩
theorem r_IG2 (x : Int) (w : World) : Runs Try.prog (.func (.func 98) #[] #[]) #[.int .i64 x] w fun e w' => e = .returned (.bool (!isSignB x)) ∧ Drawn0 w w' := by
  refine ⟨98, _, _, _, rfl, Try.func98, by kernel_rfl, rfl, ?_⟩
  show Calls _ _ #[.int .i64 x] _ _
  go_enter Try.func98, Try.ntmps98
  go_wp2_with (go_at_call 77; refine (c_isSign _ _).mono ?_; rintro e w1 ⟨rfl, rfl⟩)
  go_ret
  exact ⟨rfl, Drawn0.refl _⟩
def anyNoHead.f (l0 : List Int) : Option Bool := some (l0.any fun x => !isHeadB x)
theorem anyNoHead.calls (A0 : Option Addr) (c0 : Nat) (l0 : List Int) (r : Bool) (w : World) (hr0 : Kd.C (Kd.int .i64) w A0 l0.length l0) (hc0 : l0.length ≤ c0) (h : anyNoHead.f l0 = some r) :
    Calls Try.prog 96 #[.slice A0 l0.length c0, .func (.func 97) #[] #[]] w fun e w' => e = .returned (.bool r) ∧ Drawn0 w w' := by
  obtain rfl := Option.some.inj h
  exact containsFunc step_drawn A0 c0 l0 _ _ w hr0 (fun x _ w1 hw1 => (r_IG1 x w1).mono fun e w2 hh => hh)
def anyNoSign.f (l0 : List Int) : Option Bool := some (l0.any fun x => !isSignB x)
theorem anyNoSign.calls (A0 : Option Addr) (c0 : Nat) (l0 : List Int) (r : Bool) (w : World) (hr0 : Kd.C (Kd.int .i64) w A0 l0.length l0) (hc0 : l0.length ≤ c0) (h : anyNoSign.f l0 = some r) :
    Calls Try.prog 96 #[.slice A0 l0.length c0, .func (.func 98) #[] #[]] w fun e w' => e = .returned (.bool r) ∧ Drawn0 w w' := by
  obtain rfl := Option.some.inj h
  exact containsFunc step_drawn A0 c0 l0 _ _ w hr0 (fun x _ w1 hw1 => (r_IG2 x w1).mono fun e w2 hh => hh)
end Go.Proofs.Ytihfncjpfgdhoaa.K
end -- KGauss

section -- KRenum
set_option linter.unusedVariables false
set_option linter.unusedSimpArgs false
namespace Go.Proofs.Ytihfncjpfgdhoaa.K
open Go.RowKit Go.Proofs.YtihfncjpfgdhoaaW.PrintWords Go.Proofs.YtihfncjpfgdhoaaW.PrintLast Go.Proofs.YtihfncjpfgdhoaaW.PrintMore

theorem law_map_bool : Try.prog.underlying 84 = some (.map 2 4) := Try.underlying84
theorem zero_bool (w : World) : (zeroValue 4).run Try.prog w = .ok (.bool false) w := by kernel_rfl
/-- What the map of numbers seen holds. -/
def seenOf (met : List Int) : Lit → Option Value
  | .int .i64 x => if x ∈ met then some (.bool true) else none
  | _ => none
theorem seenOf_get (met : List Int) (x : Int) : (seenOf met (.int .i64 x)).getD (.bool false) = .bool (decide (x ∈ met)) := by
  simp only [seenOf]
  split <;> rename_i h <;> simp [h]
theorem seenOf_snoc (met : List Int) (x : Int) (kl : Lit) : seenOf (met ++ [x]) kl = if kl.sameKey (.int .i64 x) = true then some (.bool true) else seenOf met kl := by
  cases kl with
  | int q y => cases q <;> simp [seenOf, Lit.sameKey]; by_cases e : y = x <;> simp [e]
  | _ => simp [seenOf, Lit.sameKey]
theorem seenOf_again (met : List Int) (x : Int) (hx : x ∈ met) (kl : Lit) : seenOf met kl = if kl.sameKey (.int .i64 x) = true then some (.bool true) else seenOf met kl := by
  cases kl with
  | int q y => cases q <;> simp [seenOf, Lit.sameKey]; intro e; subst e; simp [hx]
  | _ => simp [seenOf, Lit.sameKey]
/-- Their own blocks are apart. -/
def Sep (u v : Value) : Prop := ∀ k, u.ownBlock = some k → some k ≠ v.ownBlock
/-- The world of the renumbering. -/
structure RenSt (w W : World) (mb gb gr : Nat) (v7 cH cS vH vS : Value) (N H S : List Int) (s : Nat) (m : Lit → Option Value) : Prop where
  map : MapV W Try.prog 2 mb s m
  blk : W.heap[gb]? = some (.cells #[v7, cH, cS] 34 (0, 0))
  res : W.heap[gr]? = some (.cells #[.slice none 0 0, .slice none 0 0, .slice none 0 0] 34 (0, 0))
  r7 : RI W w.heap.size (fun _ => True) v7 N
  rH : RI W w.heap.size (fun _ => True) vH H
  rS : RI W w.heap.size (fun _ => True) vS S
  s7H : Sep vH v7
  s7S : Sep vS v7
  sHS : Sep vH vS
  sSH : Sep vS vH
  bel : Below w.heap.size w W
  gB : w.heap.size ≤ gb
  mB : w.heap.size ≤ mb
  ne : gr ≠ gb
theorem blk_of_map {W : World} {P : Program} {k : TypeId} {b s : Nat} {m : Lit → Option Value} (h : MapV W P k b s m) {g : Nat} {cs : Array Value} {t : TypeId} {fr : Nat × Nat} (hb : W.heap[g]? = some (.cells cs t fr)) : g ≠ b := by
  obtain ⟨D, ⟨es, clock, h1, _⟩, _⟩ := h
  intro e
  subst e
  rw [hb] at h1
  cases h1
section
variable {w W W2 : World} {mb gb gr : Nat} {v7 cH cS vH vS : Value} {N H S : List Int} {s : Nat} {m : Lit → Option Value}
theorem RenSt.map_ne (h : RenSt w W mb gb gr v7 cH cS vH vS N H S s m) {v : Value} {l : List Int} (hv : RI W w.heap.size (fun _ => True) v l) : some mb ≠ v.ownBlock := by
  intro e
  obtain ⟨cells, hc⟩ := Kd.R_typed hv mb e.symm
  exact blk_of_map h.map hc rfl
theorem RenSt.blk_ne (h : RenSt w W mb gb gr v7 cH cS vH vS N H S s m) {v : Value} {l : List Int} (hv : RI W w.heap.size (fun _ => True) v l) : some gb ≠ v.ownBlock ∧ some gr ≠ v.ownBlock :=
  ⟨Kd.R_ne hv h.blk (by decide), Kd.R_ne hv h.res (by decide)⟩
/-- What leaves all old blocks alone. -/
theorem RenSt.below (h : RenSt w W mb gb gr v7 cH cS vH vS N H S s m) (hb : Below W.heap.size W W2) : RenSt w W2 mb gb gr v7 cH cS vH vS N H S s m :=
  ⟨h.map.below hb, (hb.block gb (blk_lt h.blk)).trans h.blk, (hb.block gr (blk_lt h.res)).trans h.res, Kd.R_below h.r7 hb, Kd.R_below h.rH hb, Kd.R_below h.rS hb, h.s7H, h.s7S, h.sHS, h.sSH, below_then h.bel h.bel.size hb, h.gB, h.mB, h.ne⟩
/-- The map is written. -/
theorem RenSt.stored (h : RenSt w W mb gb gr v7 cH cS vH vS N H S s m) {s2 : Nat} {m2 : Lit → Option Value} (hm : MapV W2 Try.prog 2 mb s2 m2) (hg : W.grownBy W2 (some mb)) : RenSt w W2 mb gb gr v7 cH cS vH vS N H S s2 m2 := by
  have nb := blk_of_map h.map h.blk
  have nr := blk_of_map h.map h.res
  refine ⟨hm, (hg.block gb (blk_lt h.blk) (by simpa using nb)).trans h.blk, (hg.block gr (blk_lt h.res) (by simpa using nr)).trans h.res, Kd.R_grown2 h.r7 rfl hg ?_, Kd.R_grown2 h.rH rfl hg ?_, Kd.R_grown2 h.rS rfl hg ?_, h.s7H, h.s7S, h.sHS, h.sSH, h.bel.grown hg h.bel.size ?_, h.gB, h.mB, h.ne⟩
  · intro k hk; cases hk; exact h.map_ne h.r7
  · intro k hk; cases hk; exact h.map_ne h.rH
  · intro k hk; cases hk; exact h.map_ne h.rS
  · intro k hk; cases hk; exact h.mB
/-- The Heads' row is appended to. -/
theorem RenSt.appH (h : RenSt w W mb gb gr v7 cH cS vH vS N H S s m) {v : Value} {H2 : List Int} (hr : RI W2 w.heap.size (fun _ => True) v H2) (hb : Below w.heap.size w W2) (hg : W.grownBy W2 vH.ownBlock) (hat : v.ownBlock = vH.ownBlock ∨ ∃ b, v.ownBlock = some b ∧ W.heap.size ≤ b) : RenSt w W2 mb gb gr v7 cH cS v vS N H2 S s m := by
  have hx := h.blk_ne h.rH
  have hmb := h.map_ne h.rH
  have new : ∀ {u : Value} {l : List Int}, RI W w.heap.size (fun _ => True) u l → Sep vH u → Sep v u ∧ Sep u v := fun {u l} hu hs => by
    have key : ∀ k, v.ownBlock = some k → some k ≠ u.ownBlock := fun k hk => by
      rcases hat with e | ⟨b, e, hle⟩
      · exact hs k (e ▸ hk)
      · intro e2
        have h1 := Kd.R_lt hu k e2.symm
        rw [e] at hk
        injection hk with hk
        omega
    exact ⟨key, fun k hk e => key k e.symm hk.symm⟩
  refine ⟨h.map.kept hg hmb, (hg.block gb (blk_lt h.blk) hx.1).trans h.blk, (hg.block gr (blk_lt h.res) hx.2).trans h.res, Kd.R_grown2 h.r7 rfl hg (fun k hk => h.s7H k hk), hr, Kd.R_grown2 h.rS rfl hg (fun k hk => h.sHS k hk), (new h.r7 h.s7H).1, h.s7S, (new h.rS h.sHS).1, (new h.rS h.sHS).2, hb, h.gB, h.mB, h.ne⟩
theorem RenSt.swap_ (h : RenSt w W mb gb gr v7 cH cS vH vS N H S s m) {v : Value} {S2 : List Int} (hr : RI W2 w.heap.size (fun _ => True) v S2) (hb : Below w.heap.size w W2) (hg : W.grownBy W2 vS.ownBlock) (hat : v.ownBlock = vS.ownBlock ∨ ∃ b, v.ownBlock = some b ∧ W.heap.size ≤ b) : RenSt w W2 mb gb gr v7 cH cS vH v N H S2 s m := by
  have hx := h.blk_ne h.rS
  have hmb := h.map_ne h.rS
  have new : ∀ {u : Value} {l : List Int}, RI W w.heap.size (fun _ => True) u l → Sep vS u → Sep v u ∧ Sep u v := fun {u l} hu hs => by
    have key : ∀ k, v.ownBlock = some k → some k ≠ u.ownBlock := fun k hk => by
      rcases hat with e | ⟨b, e, hle⟩
      · exact hs k (e ▸ hk)
      · intro e2
        have h1 := Kd.R_lt hu k e2.symm
        rw [e] at hk
        injection hk with hk
        omega
    exact ⟨key, fun k hk e => key k e.symm hk.symm⟩
  refine ⟨h.map.kept hg hmb, (hg.block gb (blk_lt h.blk) hx.1).trans h.blk, (hg.block gr (blk_lt h.res) hx.2).trans h.res, Kd.R_grown2 h.r7 rfl hg (fun k hk => h.s7S k hk), Kd.R_grown2 h.rH rfl hg (fun k hk => h.sSH k hk), hr, h.s7H, (new h.r7 h.s7S).1, (new h.rH h.sSH).2, (new h.rH h.sSH).1, hb, h.gB, h.mB, h.ne⟩
theorem heap_put (W : World) (g j : Nat) (u : Value) (k : Nat) (h : k ≠ g) : (W.setCell ⟨g, j, none⟩ u).heap[k]? = W.heap[k]? := Below.heap_setCell W ⟨g, j, none⟩ u k h
/-- Both fields are written. -/
theorem RenSt.puts (h : RenSt w W mb gb gr v7 cH cS vH vS N H S s m) : RenSt w ((W.setCell ⟨gb, 1, none⟩ vH).setCell ⟨gb, 2, none⟩ vS) mb gb gr v7 vH vS vH vS N H S s m := by
  have nb := blk_of_map h.map h.blk
  have row : ∀ {v : Value} {l : List Int}, RI W w.heap.size (fun _ => True) v l → RI ((W.setCell ⟨gb, 1, none⟩ vH).setCell ⟨gb, 2, none⟩ vS) w.heap.size (fun _ => True) v l := fun {v l} hv =>
    Kd.R_mono (Kd.R_far (Kd.R_far (Kd.R_far1 hv rfl (h.blk_ne hv).1) (p := ⟨gb, 1, none⟩) (fun _ hk => hk.2) vH) (p := ⟨gb, 2, none⟩) (fun _ hk => hk.2) vS) (fun _ _ => trivial)
  refine ⟨h.map.block ((heap_put _ _ _ _ _ (Ne.symm nb)).trans (heap_put _ _ _ _ _ (Ne.symm nb))), blk_put (cs := #[v7, vH, cS]) (blk_put h.blk 1 vH rfl) 2 vS rfl, ((heap_put _ _ _ _ _ h.ne).trans (heap_put _ _ _ _ _ h.ne)).trans h.res, row h.r7, row h.rH, row h.rS, h.s7H, h.s7S, h.sHS, h.sSH, below_set (below_set h.bel h.gB) h.gB, h.gB, h.mB, h.ne⟩
theorem bel_of_grown (hg : W.grownBy W2 none) : Below W.heap.size W W2 := ⟨hg.os, hg.tape, hg.output, hg.size, fun i hi => hg.block i hi (by simp)⟩
theorem held_ (h : RenSt w W mb gb gr v7 cH cS vH vS N H S s m) {a1 a2 : Addr} {u1 u2 : Value} (h1 : w.cell? a1 = some u1) (h2 : w.cell? a2 = some u2) : W.cell? ⟨gb, 1, none⟩ = some cH ∧ W.cell? ⟨gb, 2, none⟩ = some cS ∧ W.cell? a1 = some u1 ∧ W.cell? a2 = some u2 :=
  ⟨(blk_cell h.blk 1).trans rfl, (blk_cell h.blk 2).trans rfl, (h.bel.cell (World.block_lt_of_cell? w _ h1)).trans h1, (h.bel.cell (World.block_lt_of_cell? w _ h2)).trans h2⟩
end
theorem repsI {W : World} {base : Nat} (y : Int) : Reps ((Kd.int .i64).M W base fun _ => False) (Kd.int .i64).sz [y] [.int .i64 y] := Reps.one (p := y) (v := .int .i64 y) rfl (Reps.none _ _)
theorem metBy_length (l : List Int) : ∀ met, (metBy met l).length ≤ met.length + l.length := by
  induction l with
  | nil => intro met; exact Nat.le_refl _
  | cons x r ih =>
    intro met
    rw [metBy]
    split
    · have := ih met; simp only [List.length_cons]; omega
    · have := ih (met ++ [x]); simp only [List.length_cons, List.length_append, List.length_nil] at this ⊢; omega
/-- The numbers met, and what the rows tell of them. -/
def firsts (l hs : List Int) : List Int := (metBy [] l).map fun x => rd hs x
theorem metBy_append (l t : List Int) : ∀ met, metBy met (l ++ t) = metBy (metBy met l) t := by
  induction l with
  | nil => intro met; rfl
  | cons x r ih =>
    intro met
    rw [List.cons_append, metBy, metBy]
    split <;> exact ih _
theorem metBy_one (met : List Int) (x : Int) : metBy met [x] = if x ∈ met then met else met ++ [x] := by
  rw [metBy]
  cases h : met.idxOf? x with
  | some j =>
    have hx : x ∈ met := by
      have : ¬ met.idxOf? x = none := by rw [h]; simp
      rw [List.idxOf?_eq_none_iff] at this
      simpa using this
    simp [hx, metBy]
  | none =>
    have hx : x ∉ met := by simpa [List.idxOf?_eq_none_iff] using h
    simp [hx, metBy]
theorem metBy_snoc (l : List Int) (k : Int) (h0 : 0 ≤ k) (h : k < l.length) : metBy [] (l.take (k + 1).toNat) = if rd l k ∈ metBy [] (l.take k.toNat) then metBy [] (l.take k.toNat) else metBy [] (l.take k.toNat) ++ [rd l k] := by
  rw [take_snoc' l k h0 h, metBy_append, metBy_one]

set_option maxHeartbeats 2000000 in
set_option maxRecDepth 100000 in
theorem c_renumbered (A0 A1 A2 : Option Addr) (c0 c1 c2 : Nat) (l hs ss : List Int) (w : World) (hl : l.length < 1099511627776) (h64 : Ok64 l) (hr0 : CI w A0 l.length l) (hr1 : CI w A1 hs.length hs) (hr2 : CI w A2 ss.length ss)
    (hin : ∀ x ∈ l, 0 ≤ x ∧ x < hs.length ∧ x < ss.length) :
    Calls Try.prog 71 #[.slice A0 l.length c0, .slice A1 hs.length c1, .slice A2 ss.length c2] w fun e w' => ∃ v0_ v1_ v2_ : Value, e = .returned (.agg #[v0_, v1_, v2_]) ∧
      RI w' w.heap.size (fun _ => True) v0_ (normalL l) ∧ RI w' w.heap.size (fun _ => True) v1_ (firsts l hs) ∧ RI w' w.heap.size (fun _ => True) v2_ (firsts l ss) ∧ Sep v1_ v0_ ∧ Sep v2_ v0_ ∧ Sep v1_ v2_ ∧ Sep v2_ v1_ ∧ Below w.heap.size w w' := by
  have HR := Aside0.mk hr0
  have HR1 := Aside0.mk hr1
  have HR2 := Aside0.mk hr2
  have H64 := Aside0.mk h64
  have HIN := Aside0.mk hin
  clear hr0 hr1 hr2 h64 hin
  go_enter Try.func71, Try.ntmps71
  go_wp2_with (first
    | (go_at_call 92; refine (c_normal A0 c0 l _ hl H64.out (Kd.C_alloc HR.out _)).mono ?_; rintro e w1 ⟨v7, rfl, ho, hb⟩; have HO := Aside0.mk ho; have HB := Aside0.mk hb; clear ho hb; obtain ⟨A7, c7, e7⟩ := Kd.R_slice HO.out; subst e7)
    | ((with_reducible refine gate_dst (N := 14) rfl ?_); refine mapMake rfl rfl rfl law_map_bool ?_; intro w2 hM hg hb hsz; have HM := Aside0.mk hM; have HG := Aside0.mk hb; clear hM hg hb))
  have hsz1 : w.heap.size + 1 ≤ w1.heap.size := by have := HB.out.size; simpa using this
  have h0st : RenSt w (w2.alloc (.cells #[.slice A7 (normalL l).length c7, .slice none 0 0, .slice none 0 0] 34)) w1.heap.size (w1.heap.size + 1) w.heap.size (.slice A7 (normalL l).length c7) (.slice none 0 0) (.slice none 0 0) (.slice none 0 0) (.slice none 0 0) (normalL l) [] [] 0 (seenOf []) := by
    have hbel1 : Below w.heap.size w w1 := by
      have h1 : Below w.heap.size w (w.alloc (.cells #[.slice none 0 0, .slice none 0 0, .slice none 0 0] 34)) := below_alloc (Below.refl _ _) _
      exact below_then h1 h1.size HB.out
    have hbel2 : Below w.heap.size w w2 := below_then hbel1 hbel1.size HG.out
    have hal : Below w2.heap.size w2 (w2.alloc (.cells #[.slice A7 (normalL l).length c7, .slice none 0 0, .slice none 0 0] 34)) := below_alloc (Below.refl _ _) _
    refine ⟨(HM.out.congr (fun kl _ => by cases kl with | int q x => cases q <;> rfl | _ => rfl)).below hal, ?_, ?_, Kd.R_below (Kd.R_below (Kd.R_lower HO.out (by simp)) HG.out) hal, Kd.R_nil _ _ _ _ _, Kd.R_nil _ _ _ _ _, ?_, ?_, ?_, ?_, below_then hbel2 hbel2.size hal, by omega, by omega, by omega⟩
    · rw [← hsz]; exact heap_alloc_new _ _
    · rw [hal.block _ (by omega), HG.out.block _ (by omega), HB.out.block _ (by simp)]; exact heap_alloc_new _ _
    all_goals (intro k hk; simp [Value.ownBlock] at hk)
  have HST := Aside0.mk h0st
  clear h0st HM HO HG
  go_loopw [19] (fun i wr => ∃ (k : Int), 0 ≤ k ∧ k ≤ l.length ∧ i = .int .i64 k ∧ Aside0 (∃ s AH cH AS cS, s ≤ k.toNat ∧ RenSt w wr w1.heap.size (w1.heap.size + 1) w.heap.size (.slice A7 (normalL l).length c7) (.slice AH (firsts (l.take k.toNat) hs).length cH) (.slice AS (firsts (l.take k.toNat) ss).length cS) (.slice AH (firsts (l.take k.toNat) hs).length cH) (.slice AS (firsts (l.take k.toNat) ss).length cS) (normalL l) (firsts (l.take k.toNat) hs) (firsts (l.take k.toNat) ss) s (seenOf (metBy [] (l.take k.toNat))))) (fun i _ => l.length - (intOf i).toNat)
  case atStart => exact ⟨0, by omega, by omega, rfl, ⟨0, none, 0, none, 0, Nat.le_refl _, HST.out⟩⟩
  case round =>
    clear HST HB
    obtain ⟨k, hk0, hk, rfl, ⟨s, AH, cH, AS, cS, hs1, hst⟩⟩ := hrel
    have HST := Aside0.mk hst
    have HS := Aside0.mk hs1
    clear hst hs1
    by_cases hlt : k < l.length
    · obtain ⟨ad, hA, hc⟩ := Kd.at_int (Kd.C_below HR.out HST.out.bel) k (by omega) (by omega)
      subst hA
      have HMS := Aside0.mk (metBy_snoc l k hk0 hlt)
      obtain ⟨x, hx⟩ : ∃ x, x = rd l k := ⟨_, rfl⟩
      rw [← hx] at hc HMS
      have hxm : x ∈ l := by
        have := rd_mem l k.toNat (by omega)
        rw [show ((k.toNat : Nat) : Int) = k by omega, ← hx] at this
        exact this
      have HK := Aside0.mk (key_i64 (in64_wf (H64.out x hxm)))
      have hxr := HIN.out x hxm
      clear hx hxm
      have HGT := Aside0.mk (seenOf_get (metBy [] (l.take k.toNat)) x)
      by_cases hin : x ∈ metBy [] (l.take k.toNat)
      · rw [decide_eq_true hin] at HGT
        rw [if_pos hin] at HMS
        have HIX := Aside0.mk hin
        clear hin
        go_wp2_with (first
          | ((with_reducible refine gate_dst (N := 25) rfl ?_); refine mapLook rfl rfl law_i64 law_map_bool (zero_bool _) HST.out.map rfl (.int .i64 x) (.int .i64 x) rfl HK.out trivial ?_; rw [HGT.out])
          | (at_mapUpdate; refine mapStore rfl rfl law_i64 law_map_bool HST.out.map (by have := HS.out; omega) rfl (.int .i64 x) (.bool true) (.int .i64 x) rfl rfl HK.out trivial ?_; intro w3 hM3 hg3; obtain ⟨s2, hs2, hM4⟩ : ∃ s2, s2 ≤ s + 1 ∧ MapV w3 Try.prog 2 w1.heap.size s2 (seenOf (metBy [] (l.take k.toNat))) := ⟨_, by split <;> omega, hM3.congr (fun kl _ => seenOf_again _ x HIX.out kl)⟩; have HST3 := Aside0.mk (HST.out.stored hM4 hg3); have HS2 := Aside0.mk hs2; clear HST hM3 hM4 hg3 hs2))
        go_roundw
        case rel =>
          refine ⟨k + 1, by omega, by omega, rfl, ⟨s2, AH, cH, AS, cS, by have := HS.out; have := HS2.out; omega, ?_⟩⟩
          have e1 : firsts (l.take (k + 1).toNat) hs = firsts (l.take k.toNat) hs := by unfold firsts; rw [HMS.out]
          have e2 : firsts (l.take (k + 1).toNat) ss = firsts (l.take k.toNat) ss := by unfold firsts; rw [HMS.out]
          rw [e1, e2, HMS.out]
          exact HST3.out
        case measure => simp [intOf]; omega
      · rw [decide_eq_false hin] at HGT
        rw [if_neg hin] at HMS
        have HIX := Aside0.mk hin
        clear hin
        go_wp2_with (first
          | ((with_reducible refine gate_dst (N := 25) rfl ?_); refine mapLook rfl rfl law_i64 law_map_bool (zero_bool _) HST.out.map rfl (.int .i64 x) (.int .i64 x) rfl HK.out trivial ?_; rw [HGT.out]))
        have HLT := Aside0.mk (metBy_length (l.take k.toNat) [])
        obtain ⟨ad1, hA1, hh1⟩ := Kd.at_int HR1.out x hxr.1 hxr.2.1
        obtain ⟨ad2, hA2, hh2⟩ := Kd.at_int HR2.out x hxr.1 hxr.2.2
        subst hA1 hA2
        have HA1 := Aside0.mk hh1
        have HA2 := Aside0.mk hh2
        have d0 := eq_true hxr.1
        have d1 := eq_true hxr.2.1
        have d2 := eq_true hxr.2.2
        clear hh1 hh2 hxr
        have HN1 : Aside0 (firsts (l.take (k + 1).toNat) hs = firsts (l.take k.toNat) hs ++ [rd hs x]) := ⟨by unfold firsts; rw [HMS.out, List.map_append]; rfl⟩
        have HN2 : Aside0 (firsts (l.take (k + 1).toNat) ss = firsts (l.take k.toNat) ss ++ [rd ss x]) := ⟨by unfold firsts; rw [HMS.out, List.map_append]; rfl⟩
        have HLN : Aside0 ((firsts (l.take k.toNat) hs).length < 1099511627776 ∧ (firsts (l.take k.toNat) ss).length < 1099511627776) := ⟨by
          have h1 := HLT.out
          rw [List.length_take, List.length_nil] at h1
          unfold firsts
          rw [List.length_map, List.length_map]
          omega⟩
        obtain ⟨met, hmet⟩ : ∃ met, met = metBy [] (l.take k.toNat) := ⟨_, rfl⟩
        obtain ⟨Hl, hHl⟩ : ∃ Hl, Hl = firsts (l.take k.toNat) hs := ⟨_, rfl⟩
        obtain ⟨Sl, hSl⟩ : ∃ Sl, Sl = firsts (l.take k.toNat) ss := ⟨_, rfl⟩
        rw [← hmet, ← hHl, ← hSl] at HST
        rw [← hHl] at HN1
        rw [← hSl] at HN2
        rw [← hHl, ← hSl] at HLN
        rw [← hmet] at HMS HIX
        clear HGT HLT hmet hHl hSl
        -- REGION 7: laid by gen_renum.py
        refine start_ (n := 20) (S := fun w' => w'.cell? ⟨w1.heap.size + 1, 1, none⟩ = some (.slice AH Hl.length cH) ∧ w'.cell? ⟨w1.heap.size + 1, 2, none⟩ = some (.slice AS Sl.length cS) ∧ w'.cell? (ad1.add x.toNat) = some (.int .i64 (rd hs x)) ∧ w'.cell? (ad2.add x.toNat) = some (.int .i64 (rd ss x))) (ds := [17, 19]) #[false, false, false, false, false, false, false, false, false, false, false, false, false, false, false, false, false, false, false, false] (by kernel_rfl) rfl rfl (held_ (HST.out.below (below_drew1 (Below.refl _ _))) HA1.out HA2.out) (fun hHeld => ?_)
        have n0_ := Aside0.mk (HST.out.below (below_drew1 (Below.refl _ _)))
        clear HST
        have HST := n0_
        clear n0_
        generalize wr.drew = wd at HST hHeld ⊢
        refine pure_ (i := 0) (N := some 27) (v := ?_) (a' := ?_) #[true, false, false, false, false, false, false, false, false, false, false, false, false, false, false, false, false, false, false, false] rfl rfl (by kernel_rfl) (fun _ _ _ h => h) (Or.inl ⟨by rfl, ?_⟩) ?_ ?_
        rotate_left
        · intro w'
          go_simp
          with_reducible rfl
        rotate_left
        · simp only [Act.put, List.setIfInBounds_toArray, List.set_cons_zero, List.set_cons_succ, i64_w, i32_w]
          rfl
        refine pure_ (i := 2) (N := some 29) (v := ?_) (a' := ?_) #[true, false, true, false, false, false, false, false, false, false, false, false, false, false, false, false, false, false, false, false] rfl rfl (by kernel_rfl) (fun _ _ _ h => h) (Or.inl ⟨by rfl, ?_⟩) ?_ ?_
        rotate_left
        · intro w'
          go_simp
          with_reducible rfl
        rotate_left
        · simp only [Act.put, List.setIfInBounds_toArray, List.set_cons_zero, List.set_cons_succ, i64_w, i32_w]
          rfl
        refine pure_ (i := 3) (N := some 30) (v := ?_) (a' := ?_) #[true, false, true, true, false, false, false, false, false, false, false, false, false, false, false, false, false, false, false, false] rfl rfl (by kernel_rfl) (fun _ _ _ h => h) (Or.inl ⟨by rfl, ?_⟩) ?_ ?_
        rotate_left
        · intro w'
          go_simp
          with_reducible rfl
        rotate_left
        · simp only [Act.put, List.setIfInBounds_toArray, List.set_cons_zero, List.set_cons_succ, i64_w, i32_w]
          rfl
        refine pure_ (i := 8) (N := some 35) (v := ?_) (a' := ?_) #[true, false, true, true, false, false, false, false, true, false, false, false, false, false, false, false, false, false, false, false] rfl rfl (by kernel_rfl) (fun _ _ _ h => h) (Or.inl ⟨by rfl, ?_⟩) ?_ ?_
        rotate_left
        · intro w'
          go_simp
          with_reducible rfl
        rotate_left
        · simp only [Act.put, List.setIfInBounds_toArray, List.set_cons_zero, List.set_cons_succ, i64_w, i32_w]
          rfl
        refine pure_ (i := 10) (N := some 37) (v := ?_) (a' := ?_) #[true, false, true, true, false, false, false, false, true, false, true, false, false, false, false, false, false, false, false, false] rfl rfl (by kernel_rfl) (fun _ _ _ h => h) (Or.inl ⟨by rfl, ?_⟩) ?_ ?_
        rotate_left
        · intro w'
          go_simp
          with_reducible rfl
        rotate_left
        · simp only [Act.put, List.setIfInBounds_toArray, List.set_cons_zero, List.set_cons_succ, i64_w, i32_w]
          rfl
        refine pure_ (i := 11) (N := some 38) (v := ?_) (a' := ?_) #[true, false, true, true, false, false, false, false, true, false, true, true, false, false, false, false, false, false, false, false] rfl rfl (by kernel_rfl) (fun _ _ _ h => h) (Or.inl ⟨by rfl, ?_⟩) ?_ ?_
        rotate_left
        · intro w'
          go_simp
          with_reducible rfl
        rotate_left
        · simp only [Act.put, List.setIfInBounds_toArray, List.set_cons_zero, List.set_cons_succ, i64_w, i32_w]
          rfl
        refine take_ (i := 1) (N := some 28) (v := ?_) (a' := ?_) #[true, true, true, true, false, false, false, false, true, false, true, true, false, false, false, false, false, false, false, false] rfl rfl (by kernel_rfl) (fun _ _ _ h => h) (Or.inl ⟨by rfl, ?_⟩) hHeld ?_ ?_
        rotate_left
        · rintro w' ⟨s0, s1, s2, s3⟩
          go_simp
          with_reducible rfl
        rotate_left
        · simp only [Act.put, List.setIfInBounds_toArray, List.set_cons_zero, List.set_cons_succ, i64_w, i32_w]
          rfl
        refine take_ (i := 4) (N := some 31) (v := ?_) (a' := ?_) #[true, true, true, true, true, false, false, false, true, false, true, true, false, false, false, false, false, false, false, false] rfl rfl (by kernel_rfl) (fun _ _ _ h => h) (Or.inl ⟨by rfl, ?_⟩) hHeld ?_ ?_
        rotate_left
        · rintro w' ⟨s0, s1, s2, s3⟩
          go_simp
          with_reducible rfl
        rotate_left
        · simp only [Act.put, List.setIfInBounds_toArray, List.set_cons_zero, List.set_cons_succ, i64_w, i32_w]
          rfl
        refine take_ (i := 5) (N := some 32) (v := ?_) (a' := ?_) #[true, true, true, true, true, true, false, false, true, false, true, true, false, false, false, false, false, false, false, false] rfl rfl (by kernel_rfl) (fun _ _ _ h => h) (Or.inl ⟨by rfl, ?_⟩) hHeld ?_ ?_
        rotate_left
        · rintro w' ⟨s0, s1, s2, s3⟩
          go_simp
          with_reducible rfl
        rotate_left
        · simp only [Act.put, List.setIfInBounds_toArray, List.set_cons_zero, List.set_cons_succ, i64_w, i32_w]
          rfl
        refine take_ (i := 9) (N := some 36) (v := ?_) (a' := ?_) #[true, true, true, true, true, true, false, false, true, true, true, true, false, false, false, false, false, false, false, false] rfl rfl (by kernel_rfl) (fun _ _ _ h => h) (Or.inl ⟨by rfl, ?_⟩) hHeld ?_ ?_
        rotate_left
        · rintro w' ⟨s0, s1, s2, s3⟩
          go_simp
          with_reducible rfl
        rotate_left
        · simp only [Act.put, List.setIfInBounds_toArray, List.set_cons_zero, List.set_cons_succ, i64_w, i32_w]
          rfl
        refine take_ (i := 12) (N := some 39) (v := ?_) (a' := ?_) #[true, true, true, true, true, true, false, false, true, true, true, true, true, false, false, false, false, false, false, false] rfl rfl (by kernel_rfl) (fun _ _ _ h => h) (Or.inl ⟨by rfl, ?_⟩) hHeld ?_ ?_
        rotate_left
        · rintro w' ⟨s0, s1, s2, s3⟩
          go_simp
          with_reducible rfl
        rotate_left
        · simp only [Act.put, List.setIfInBounds_toArray, List.set_cons_zero, List.set_cons_succ, i64_w, i32_w]
          rfl
        refine take_ (i := 13) (N := some 40) (v := ?_) (a' := ?_) #[true, true, true, true, true, true, false, false, true, true, true, true, true, true, false, false, false, false, false, false] rfl rfl (by kernel_rfl) (fun _ _ _ h => h) (Or.inl ⟨by rfl, ?_⟩) hHeld ?_ ?_
        rotate_left
        · rintro w' ⟨s0, s1, s2, s3⟩
          go_simp
          with_reducible rfl
        rotate_left
        · simp only [Act.put, List.setIfInBounds_toArray, List.set_cons_zero, List.set_cons_succ, i64_w, i32_w]
          rfl
        obtain ⟨B0, hB0⟩ : ∃ B0, B0 = wd.heap.size := ⟨_, rfl⟩
        have HBH : Aside0 (∀ k_, (Value.slice AH Hl.length cH).ownBlock = some k_ → k_ < B0) := ⟨fun k_ hk_ => by rw [hB0]; exact Kd.R_lt HST.out.rH k_ hk_⟩
        have HBS : Aside0 (∀ k_, (Value.slice AS Sl.length cS).ownBlock = some k_ → k_ < B0) := ⟨fun k_ hk_ => by rw [hB0]; exact Kd.R_lt HST.out.rS k_ hk_⟩
        have HZ : Aside0 (B0 ≤ wd.heap.size) := ⟨by rw [hB0]; exact Nat.le_refl _⟩
        clear hB0
        refine join_ (σ := Value × Value × (Option Addr × Nat) × (Option Addr × Nat)) 3 #[true, true, true, true, true, true, true, true, true, true, true, true, true, true, true, true, true, false, false, false] (fun s_ => [(33, s_.1), (41, s_.2.1), (43, .pointer (some ⟨w1.heap.size + 1, 1, none⟩)), (34, .slice s_.2.2.1.1 (Hl ++ [rd hs x]).length s_.2.2.1.2), (42, .slice s_.2.2.2.1 (Sl ++ [rd ss x]).length s_.2.2.2.2)]) (fun s_ w' => RenSt w w' w1.heap.size (w1.heap.size + 1) w.heap.size (.slice A7 (normalL l).length c7) (.slice AH Hl.length cH) (.slice AS Sl.length cS) (.slice s_.2.2.1.1 (Hl ++ [rd hs x]).length s_.2.2.1.2) (.slice s_.2.2.2.1 (Sl ++ [rd ss x]).length s_.2.2.2.2) (normalL l) (Hl ++ [rd hs x]) (Sl ++ [rd ss x]) s (seenOf met)) ?_ ?_
        rotate_left
        · intro hCont
          refine two_ (i := 6) (j := 14) (Ni := some 33) (Nj := some 41) #[true, true, true, true, true, true, true, false, true, true, true, true, true, true, false, false, false, false, false, false] #[true, true, true, true, true, true, false, false, true, true, true, true, true, true, true, false, false, false, false, false] rfl rfl rfl rfl (by kernel_rfl) (by decide) (by decide) (fun K hK => ?_) (fun K hK => ?_)
          · skip
            refine Kd.R_lit_step (Kd.int .i64) w.heap.size 2 (w0 := w) (by rfl) (N := 33) rfl (xs := [(rd hs x)]) (inner := [.int .i64 (rd hs x)]) (ok := fun k_ => B0 ≤ k_) (okp := fun _ => False) ?hr (repsI (rd hs x)) (fun _ h => h.elim) HZ.out HST.out.bel HST.out.bel.size (by simp) ?_
            case hr => first | (go_simp; done) | (go_simp; rfl)
            intro v33 w33 ho hb hg hnew
            have hbw := bel_of_grown hg
            have n0_ := Aside0.mk (HST.out.below hbw)
            have n1_ := Aside0.mk (Nat.le_trans HZ.out hbw.size)
            have n2_ := Aside0.mk ho
            clear HST HZ 
            have HST := n0_
            have HZ := n1_
            have HF33 := n2_
            clear n0_ n1_ n2_ ho hb hg hnew hbw 
            obtain ⟨A33, c33, e33⟩ := Kd.R_slice HF33.out
            subst e33
            refine hK.out _ _ (held_ HST.out HA1.out HA2.out) (fun hHeld => ?_)
            clear hK K
            refine norm_ (a' := ?_) ?_ ?_
            rotate_left
            · show Act.put _ (some 33) _ = _
              simp only [Act.put, List.setIfInBounds_toArray, List.set_cons_zero, List.set_cons_succ, i64_w, i32_w]
              rfl
            refine two_ (i := 7) (j := 14) (Ni := some 34) (Nj := some 41) #[true, true, true, true, true, true, true, true, true, true, true, true, true, true, false, false, false, false, false, false] #[true, true, true, true, true, true, true, false, true, true, true, true, true, true, true, false, false, false, false, false] rfl rfl rfl rfl (by kernel_rfl) (by decide) (by decide) (fun K hK => ?_) (fun K hK => ?_)
            · skip
              refine Kd.R_append_rows_step (Kd.int .i64) (w0 := w) w.heap.size (by rfl) (.tmp 28) (.tmp 33) 22 2 (.int .i64 0) 8 rfl Try.underlying22 info2 rfl (by decide) (by omega) (.slice AH Hl.length cH) Hl [(rd hs x)] A33 1 c33 (fun _ => True) (fun _ => False) rfl rfl HST.out.rH (Kd.R_reads' HF33.out).2.2 (fun _ _ h => h) (fun _ h => h.elim) (fun _ _ => trivial) HST.out.bel HST.out.bel.size (by have := HLN.out; omega) ?_
              intro v34 w34 ho hb hg hat
              obtain ⟨A34, c34, e34⟩ := Kd.R_slice ho
              subst e34
              have n0_ := Aside0.mk (HST.out.appH ho hb hg hat)
              have n1_ := Aside0.mk (Nat.le_trans HZ.out hg.size)
              clear HST HZ HF33
              have HST := n0_
              have HZ := n1_
              clear n0_ n1_ ho hb hg hat 
              refine hK.out _ _ (held_ HST.out HA1.out HA2.out) (fun hHeld => ?_)
              clear hK K
              refine norm_ (a' := ?_) ?_ ?_
              rotate_left
              · show Act.put _ (some 34) _ = _
                simp only [Act.put, List.setIfInBounds_toArray, List.set_cons_zero, List.set_cons_succ, i64_w, i32_w]
                rfl
              refine pure_ (i := 16) (N := some 43) (v := ?_) (a' := ?_) #[true, true, true, true, true, true, true, true, true, true, true, true, true, true, false, false, true, false, false, false] rfl rfl (by kernel_rfl) (fun _ _ _ h => h) (Or.inl ⟨by rfl, ?_⟩) ?_ ?_
              rotate_left
              · intro w'
                go_simp
                with_reducible rfl
              rotate_left
              · simp only [Act.put, List.setIfInBounds_toArray, List.set_cons_zero, List.set_cons_succ, i64_w, i32_w]
                rfl
              refine one_ (i := 14) (N := some 41) #[true, true, true, true, true, true, true, true, true, true, true, true, true, true, true, false, true, false, false, false] rfl rfl (by kernel_rfl) (by decide) (fun K hK => ?_)
              refine Kd.R_lit_step (Kd.int .i64) w.heap.size 2 (w0 := w) (by rfl) (N := 41) rfl (xs := [(rd ss x)]) (inner := [.int .i64 (rd ss x)]) (ok := fun k_ => B0 ≤ k_) (okp := fun _ => False) ?hr (repsI (rd ss x)) (fun _ h => h.elim) HZ.out HST.out.bel HST.out.bel.size (by simp) ?_
              case hr => first | (go_simp; done) | (go_simp; rfl)
              intro v41 w41 ho hb hg hnew
              have hbw := bel_of_grown hg
              have n0_ := Aside0.mk (HST.out.below hbw)
              have n1_ := Aside0.mk (Nat.le_trans HZ.out hbw.size)
              have n2_ := Aside0.mk ho
              clear HST HZ 
              have HST := n0_
              have HZ := n1_
              have HF41 := n2_
              clear n0_ n1_ n2_ ho hb hg hnew hbw 
              obtain ⟨A41, c41, e41⟩ := Kd.R_slice HF41.out
              subst e41
              refine hK.out _ _ (held_ HST.out HA1.out HA2.out) (fun hHeld => ?_)
              clear hK K
              refine norm_ (a' := ?_) ?_ ?_
              rotate_left
              · show Act.put _ (some 41) _ = _
                simp only [Act.put, List.setIfInBounds_toArray, List.set_cons_zero, List.set_cons_succ, i64_w, i32_w]
                rfl
              refine one_ (i := 15) (N := some 42) #[true, true, true, true, true, true, true, true, true, true, true, true, true, true, true, true, true, false, false, false] rfl rfl (by kernel_rfl) (by decide) (fun K hK => ?_)
              refine Kd.R_append_rows_step (Kd.int .i64) (w0 := w) w.heap.size (by rfl) (.tmp 36) (.tmp 41) 22 2 (.int .i64 0) 8 rfl Try.underlying22 info2 rfl (by decide) (by omega) (.slice AS Sl.length cS) Sl [(rd ss x)] A41 1 c41 (fun _ => True) (fun _ => False) rfl rfl HST.out.rS (Kd.R_reads' HF41.out).2.2 (fun _ _ h => h) (fun _ h => h.elim) (fun _ _ => trivial) HST.out.bel HST.out.bel.size (by have := HLN.out; omega) ?_
              intro v42 w42 ho hb hg hat
              obtain ⟨A42, c42, e42⟩ := Kd.R_slice ho
              subst e42
              have n0_ := Aside0.mk (HST.out.swap_ ho hb hg hat)
              have n1_ := Aside0.mk (Nat.le_trans HZ.out hg.size)
              clear HST HZ HF41
              have HST := n0_
              have HZ := n1_
              clear n0_ n1_ ho hb hg hat 
              refine hK.out _ _ (held_ HST.out HA1.out HA2.out) (fun hHeld => ?_)
              clear hK K
              refine norm_ (a' := ?_) ?_ ?_
              rotate_left
              · show Act.put _ (some 42) _ = _
                simp only [Act.put, List.setIfInBounds_toArray, List.set_cons_zero, List.set_cons_succ, i64_w, i32_w]
                rfl
              exact norm_ (by simp only [putAll, Act.put, List.setIfInBounds_toArray, List.set_cons_zero, List.set_cons_succ]) (hCont (.slice A33 [rd hs x].length c33, .slice A41 [rd ss x].length c41, (A34, c34), (A42, c42)) _ HST.out)
            · skip
              refine Kd.R_lit_step (Kd.int .i64) w.heap.size 2 (w0 := w) (by rfl) (N := 41) rfl (xs := [(rd ss x)]) (inner := [.int .i64 (rd ss x)]) (ok := fun k_ => B0 ≤ k_) (okp := fun _ => False) ?hr (repsI (rd ss x)) (fun _ h => h.elim) HZ.out HST.out.bel HST.out.bel.size (by simp) ?_
              case hr => first | (go_simp; done) | (go_simp; rfl)
              intro v41 w41 ho hb hg hnew
              have hbw := bel_of_grown hg
              have n0_ := Aside0.mk (HST.out.below hbw)
              have n1_ := Aside0.mk (Nat.le_trans HZ.out hbw.size)
              have mHF33_ := Aside0.mk (Kd.R_below HF33.out hbw)
              have n2_ := Aside0.mk ho
              clear HST HZ HF33
              have HST := n0_
              have HZ := n1_
              have HF33 := mHF33_
              have HF41 := n2_
              clear n0_ n1_ n2_ ho hb hg hnew hbw mHF33_
              obtain ⟨A41, c41, e41⟩ := Kd.R_slice HF41.out
              subst e41
              refine hK.out _ _ (held_ HST.out HA1.out HA2.out) (fun hHeld => ?_)
              clear hK K
              refine norm_ (a' := ?_) ?_ ?_
              rotate_left
              · show Act.put _ (some 41) _ = _
                simp only [Act.put, List.setIfInBounds_toArray, List.set_cons_zero, List.set_cons_succ, i64_w, i32_w]
                rfl
              refine one_ (i := 7) (N := some 34) #[true, true, true, true, true, true, true, true, true, true, true, true, true, true, true, false, false, false, false, false] rfl rfl (by kernel_rfl) (by decide) (fun K hK => ?_)
              refine Kd.R_append_rows_step (Kd.int .i64) (w0 := w) w.heap.size (by rfl) (.tmp 28) (.tmp 33) 22 2 (.int .i64 0) 8 rfl Try.underlying22 info2 rfl (by decide) (by omega) (.slice AH Hl.length cH) Hl [(rd hs x)] A33 1 c33 (fun _ => True) (fun _ => False) rfl rfl HST.out.rH (Kd.R_reads' HF33.out).2.2 (fun _ _ h => h) (fun _ h => h.elim) (fun _ _ => trivial) HST.out.bel HST.out.bel.size (by have := HLN.out; omega) ?_
              intro v34 w34 ho hb hg hat
              obtain ⟨A34, c34, e34⟩ := Kd.R_slice ho
              subst e34
              have n0_ := Aside0.mk (HST.out.appH ho hb hg hat)
              have n1_ := Aside0.mk (Nat.le_trans HZ.out hg.size)
              have mHF41_ := Aside0.mk (Kd.R_grown HF41.out hg (fun k_ hk_ e_ => Nat.not_lt.2 hk_ (HBH.out k_ e_.symm)))
              clear HST HZ HF33 HF41
              have HST := n0_
              have HZ := n1_
              have HF41 := mHF41_
              clear n0_ n1_ ho hb hg hat mHF41_
              refine hK.out _ _ (held_ HST.out HA1.out HA2.out) (fun hHeld => ?_)
              clear hK K
              refine norm_ (a' := ?_) ?_ ?_
              rotate_left
              · show Act.put _ (some 34) _ = _
                simp only [Act.put, List.setIfInBounds_toArray, List.set_cons_zero, List.set_cons_succ, i64_w, i32_w]
                rfl
              refine pure_ (i := 16) (N := some 43) (v := ?_) (a' := ?_) #[true, true, true, true, true, true, true, true, true, true, true, true, true, true, true, false, true, false, false, false] rfl rfl (by kernel_rfl) (fun _ _ _ h => h) (Or.inl ⟨by rfl, ?_⟩) ?_ ?_
              rotate_left
              · intro w'
                go_simp
                with_reducible rfl
              rotate_left
              · simp only [Act.put, List.setIfInBounds_toArray, List.set_cons_zero, List.set_cons_succ, i64_w, i32_w]
                rfl
              refine one_ (i := 15) (N := some 42) #[true, true, true, true, true, true, true, true, true, true, true, true, true, true, true, true, true, false, false, false] rfl rfl (by kernel_rfl) (by decide) (fun K hK => ?_)
              refine Kd.R_append_rows_step (Kd.int .i64) (w0 := w) w.heap.size (by rfl) (.tmp 36) (.tmp 41) 22 2 (.int .i64 0) 8 rfl Try.underlying22 info2 rfl (by decide) (by omega) (.slice AS Sl.length cS) Sl [(rd ss x)] A41 1 c41 (fun _ => True) (fun _ => False) rfl rfl HST.out.rS (Kd.R_reads' HF41.out).2.2 (fun _ _ h => h) (fun _ h => h.elim) (fun _ _ => trivial) HST.out.bel HST.out.bel.size (by have := HLN.out; omega) ?_
              intro v42 w42 ho hb hg hat
              obtain ⟨A42, c42, e42⟩ := Kd.R_slice ho
              subst e42
              have n0_ := Aside0.mk (HST.out.swap_ ho hb hg hat)
              have n1_ := Aside0.mk (Nat.le_trans HZ.out hg.size)
              clear HST HZ HF41
              have HST := n0_
              have HZ := n1_
              clear n0_ n1_ ho hb hg hat 
              refine hK.out _ _ (held_ HST.out HA1.out HA2.out) (fun hHeld => ?_)
              clear hK K
              refine norm_ (a' := ?_) ?_ ?_
              rotate_left
              · show Act.put _ (some 42) _ = _
                simp only [Act.put, List.setIfInBounds_toArray, List.set_cons_zero, List.set_cons_succ, i64_w, i32_w]
                rfl
              exact norm_ (by simp only [putAll, Act.put, List.setIfInBounds_toArray, List.set_cons_zero, List.set_cons_succ]) (hCont (.slice A33 [rd hs x].length c33, .slice A41 [rd ss x].length c41, (A34, c34), (A42, c42)) _ HST.out)
          · skip
            refine Kd.R_lit_step (Kd.int .i64) w.heap.size 2 (w0 := w) (by rfl) (N := 41) rfl (xs := [(rd ss x)]) (inner := [.int .i64 (rd ss x)]) (ok := fun k_ => B0 ≤ k_) (okp := fun _ => False) ?hr (repsI (rd ss x)) (fun _ h => h.elim) HZ.out HST.out.bel HST.out.bel.size (by simp) ?_
            case hr => first | (go_simp; done) | (go_simp; rfl)
            intro v41 w41 ho hb hg hnew
            have hbw := bel_of_grown hg
            have n0_ := Aside0.mk (HST.out.below hbw)
            have n1_ := Aside0.mk (Nat.le_trans HZ.out hbw.size)
            have n2_ := Aside0.mk ho
            clear HST HZ 
            have HST := n0_
            have HZ := n1_
            have HF41 := n2_
            clear n0_ n1_ n2_ ho hb hg hnew hbw 
            obtain ⟨A41, c41, e41⟩ := Kd.R_slice HF41.out
            subst e41
            refine hK.out _ _ (held_ HST.out HA1.out HA2.out) (fun hHeld => ?_)
            clear hK K
            refine norm_ (a' := ?_) ?_ ?_
            rotate_left
            · show Act.put _ (some 41) _ = _
              simp only [Act.put, List.setIfInBounds_toArray, List.set_cons_zero, List.set_cons_succ, i64_w, i32_w]
              rfl
            refine one_ (i := 6) (N := some 33) #[true, true, true, true, true, true, true, false, true, true, true, true, true, true, true, false, false, false, false, false] rfl rfl (by kernel_rfl) (by decide) (fun K hK => ?_)
            refine Kd.R_lit_step (Kd.int .i64) w.heap.size 2 (w0 := w) (by rfl) (N := 33) rfl (xs := [(rd hs x)]) (inner := [.int .i64 (rd hs x)]) (ok := fun k_ => B0 ≤ k_) (okp := fun _ => False) ?hr (repsI (rd hs x)) (fun _ h => h.elim) HZ.out HST.out.bel HST.out.bel.size (by simp) ?_
            case hr => first | (go_simp; done) | (go_simp; rfl)
            intro v33 w33 ho hb hg hnew
            have hbw := bel_of_grown hg
            have n0_ := Aside0.mk (HST.out.below hbw)
            have n1_ := Aside0.mk (Nat.le_trans HZ.out hbw.size)
            have mHF41_ := Aside0.mk (Kd.R_below HF41.out hbw)
            have n2_ := Aside0.mk ho
            clear HST HZ HF41
            have HST := n0_
            have HZ := n1_
            have HF41 := mHF41_
            have HF33 := n2_
            clear n0_ n1_ n2_ ho hb hg hnew hbw mHF41_
            obtain ⟨A33, c33, e33⟩ := Kd.R_slice HF33.out
            subst e33
            refine hK.out _ _ (held_ HST.out HA1.out HA2.out) (fun hHeld => ?_)
            clear hK K
            refine norm_ (a' := ?_) ?_ ?_
            rotate_left
            · show Act.put _ (some 33) _ = _
              simp only [Act.put, List.setIfInBounds_toArray, List.set_cons_zero, List.set_cons_succ, i64_w, i32_w]
              rfl
            refine one_ (i := 7) (N := some 34) #[true, true, true, true, true, true, true, true, true, true, true, true, true, true, true, false, false, false, false, false] rfl rfl (by kernel_rfl) (by decide) (fun K hK => ?_)
            refine Kd.R_append_rows_step (Kd.int .i64) (w0 := w) w.heap.size (by rfl) (.tmp 28) (.tmp 33) 22 2 (.int .i64 0) 8 rfl Try.underlying22 info2 rfl (by decide) (by omega) (.slice AH Hl.length cH) Hl [(rd hs x)] A33 1 c33 (fun _ => True) (fun _ => False) rfl rfl HST.out.rH (Kd.R_reads' HF33.out).2.2 (fun _ _ h => h) (fun _ h => h.elim) (fun _ _ => trivial) HST.out.bel HST.out.bel.size (by have := HLN.out; omega) ?_
            intro v34 w34 ho hb hg hat
            obtain ⟨A34, c34, e34⟩ := Kd.R_slice ho
            subst e34
            have n0_ := Aside0.mk (HST.out.appH ho hb hg hat)
            have n1_ := Aside0.mk (Nat.le_trans HZ.out hg.size)
            have mHF41_ := Aside0.mk (Kd.R_grown HF41.out hg (fun k_ hk_ e_ => Nat.not_lt.2 hk_ (HBH.out k_ e_.symm)))
            clear HST HZ HF33 HF41
            have HST := n0_
            have HZ := n1_
            have HF41 := mHF41_
            clear n0_ n1_ ho hb hg hat mHF41_
            refine hK.out _ _ (held_ HST.out HA1.out HA2.out) (fun hHeld => ?_)
            clear hK K
            refine norm_ (a' := ?_) ?_ ?_
            rotate_left
            · show Act.put _ (some 34) _ = _
              simp only [Act.put, List.setIfInBounds_toArray, List.set_cons_zero, List.set_cons_succ, i64_w, i32_w]
              rfl
            refine pure_ (i := 16) (N := some 43) (v := ?_) (a' := ?_) #[true, true, true, true, true, true, true, true, true, true, true, true, true, true, true, false, true, false, false, false] rfl rfl (by kernel_rfl) (fun _ _ _ h => h) (Or.inl ⟨by rfl, ?_⟩) ?_ ?_
            rotate_left
            · intro w'
              go_simp
              with_reducible rfl
            rotate_left
            · simp only [Act.put, List.setIfInBounds_toArray, List.set_cons_zero, List.set_cons_succ, i64_w, i32_w]
              rfl
            refine one_ (i := 15) (N := some 42) #[true, true, true, true, true, true, true, true, true, true, true, true, true, true, true, true, true, false, false, false] rfl rfl (by kernel_rfl) (by decide) (fun K hK => ?_)
            refine Kd.R_append_rows_step (Kd.int .i64) (w0 := w) w.heap.size (by rfl) (.tmp 36) (.tmp 41) 22 2 (.int .i64 0) 8 rfl Try.underlying22 info2 rfl (by decide) (by omega) (.slice AS Sl.length cS) Sl [(rd ss x)] A41 1 c41 (fun _ => True) (fun _ => False) rfl rfl HST.out.rS (Kd.R_reads' HF41.out).2.2 (fun _ _ h => h) (fun _ h => h.elim) (fun _ _ => trivial) HST.out.bel HST.out.bel.size (by have := HLN.out; omega) ?_
            intro v42 w42 ho hb hg hat
            obtain ⟨A42, c42, e42⟩ := Kd.R_slice ho
            subst e42
            have n0_ := Aside0.mk (HST.out.swap_ ho hb hg hat)
            have n1_ := Aside0.mk (Nat.le_trans HZ.out hg.size)
            clear HST HZ HF41
            have HST := n0_
            have HZ := n1_
            clear n0_ n1_ ho hb hg hat 
            refine hK.out _ _ (held_ HST.out HA1.out HA2.out) (fun hHeld => ?_)
            clear hK K
            refine norm_ (a' := ?_) ?_ ?_
            rotate_left
            · show Act.put _ (some 42) _ = _
              simp only [Act.put, List.setIfInBounds_toArray, List.set_cons_zero, List.set_cons_succ, i64_w, i32_w]
              rfl
            exact norm_ (by simp only [putAll, Act.put, List.setIfInBounds_toArray, List.set_cons_zero, List.set_cons_succ]) (hCont (.slice A33 [rd hs x].length c33, .slice A41 [rd ss x].length c41, (A34, c34), (A42, c42)) _ HST.out)
        rintro ⟨v33, v41, ⟨A34, c34⟩, ⟨A42, c42⟩⟩ w5 h5
        have h5' : RenSt w w5 w1.heap.size (w1.heap.size + 1) w.heap.size (.slice A7 (normalL l).length c7) (.slice AH Hl.length cH) (.slice AS Sl.length cS) (.slice A34 (Hl ++ [rd hs x]).length c34) (.slice A42 (Sl ++ [rd ss x]).length c42) (normalL l) (Hl ++ [rd hs x]) (Sl ++ [rd ss x]) s (seenOf met) := h5
        have HST5 := Aside0.mk h5'
        clear h5 h5' HST HZ HBH HBS hHeld
        have hc0 : w5.cell? ⟨w1.heap.size + 1, 0, none⟩ = some (.slice A7 (normalL l).length c7) := (blk_cell HST5.out.blk 0).trans rfl
        have hc1 : w5.cell? ⟨w1.heap.size + 1, 1, none⟩ = some (.slice AH Hl.length cH) := (blk_cell HST5.out.blk 1).trans rfl
        have hc2 : w5.cell? ⟨w1.heap.size + 1, 2, none⟩ = some (.slice AS Sl.length cS) := (blk_cell HST5.out.blk 2).trans rfl
        have hf1 := blk_frozen HST5.out.blk 1
        have hf2 := blk_frozen HST5.out.blk 2
        refine norm_ (a' := ?_) ?_ ?_
        rotate_left
        · simp only [putAll, Act.put, List.setIfInBounds_toArray, List.set_cons_zero, List.set_cons_succ]
          rfl
        obtain ⟨nH, hnH⟩ : ∃ n_, n_ = (Hl ++ [rd hs x]).length := ⟨_, rfl⟩
        obtain ⟨nS, hnS⟩ : ∃ n_, n_ = (Sl ++ [rd ss x]).length := ⟨_, rfl⟩
        rw [← hnH, ← hnS] at HST5 ⊢
        have HNH := Aside0.mk hnH
        have HNS := Aside0.mk hnS
        clear hnH hnS
        refine last_ (i := 17) (N := none) #[true, true, true, true, true, true, true, true, true, true, true, true, true, true, true, true, true, true, false, false] rfl rfl (by kernel_rfl) (by decide) (fun K hK => ?_)
        refine skip_ (w1 := ?_) (by rfl) rfl ?_ ?_
        rotate_left
        · go_simp
          rfl
        refine hK.out _ _ ?_
        clear hK K
        refine pure_ (i := 18) (N := some 44) (v := ?_) (a' := ?_) #[true, true, true, true, true, true, true, true, true, true, true, true, true, true, true, true, true, true, true, false] rfl rfl (by kernel_rfl) (fun _ _ _ h => h) (Or.inl ⟨by rfl, ?_⟩) ?_ ?_
        rotate_left
        · intro w'
          go_simp
          with_reducible rfl
        rotate_left
        · simp only [Act.put, List.setIfInBounds_toArray, List.set_cons_zero, List.set_cons_succ, i64_w, i32_w]
          rfl
        refine last_ (i := 19) (N := none) #[true, true, true, true, true, true, true, true, true, true, true, true, true, true, true, true, true, true, true, true] rfl rfl (by kernel_rfl) (by decide) (fun K hK => ?_)
        refine skip_ (w1 := ?_) (by rfl) rfl ?_ ?_
        rotate_left
        · go_simp
          rfl
        refine hK.out _ _ ?_
        clear hK K
        refine done_ (by kernel_rfl) ?_
        have HST6 := Aside0.mk HST5.out.puts
        clear hc0 hc1 hc2 hf1 hf2 HST5
        -- END OF REGION 7
        go_wp2_with (first
          | (at_mapUpdate; refine mapStore rfl rfl law_i64 law_map_bool HST6.out.map (by have := HS.out; omega) rfl (.int .i64 x) (.bool true) (.int .i64 x) rfl rfl HK.out trivial ?_; intro w3 hM3 hg3; obtain ⟨s2, hs2, hM4⟩ : ∃ s2, s2 ≤ s + 1 ∧ MapV w3 Try.prog 2 w1.heap.size s2 (seenOf (met ++ [x])) := ⟨_, by split <;> omega, hM3.congr (fun kl _ => seenOf_snoc _ x kl)⟩; have HST7 := Aside0.mk (HST6.out.stored hM4 hg3); have HS2 := Aside0.mk hs2; clear HST6 hM3 hM4 hg3 hs2))
        go_roundw
        case rel =>
          refine ⟨k + 1, by omega, by omega, rfl, ⟨s2, A34, c34, A42, c42, by have := HS.out; have := HS2.out; omega, ?_⟩⟩
          rw [HN1.out, HN2.out, HMS.out]
          have h7 := HST7.out
          rw [HNH.out, HNS.out] at h7
          exact h7
        case measure => simp [intOf]; omega
    · obtain rfl : k = l.length := by omega
      have e1 : l.take ((l.length : Int)).toNat = l := by rw [show ((l.length : Int)).toNat = l.length by omega, List.take_length]
      rw [e1] at HST
      have hb1 := HST.out.blk
      have hb2 := HST.out.res
      have hne := HST.out.ne
      have hc0 : wr.cell? ⟨w1.heap.size + 1, 0, none⟩ = some (.slice A7 (normalL l).length c7) := (blk_cell hb1 0).trans rfl
      have hc1 : wr.cell? ⟨w1.heap.size + 1, 1, none⟩ = some (.slice AH (firsts l hs).length cH) := (blk_cell hb1 1).trans rfl
      have hc2 : wr.cell? ⟨w1.heap.size + 1, 2, none⟩ = some (.slice AS (firsts l ss).length cS) := (blk_cell hb1 2).trans rfl
      have hd0 : wr.cell? ⟨w.heap.size, 0, none⟩ = some (.slice none 0 0) := (blk_cell hb2 0).trans rfl
      have hd1 : wr.cell? ⟨w.heap.size, 1, none⟩ = some (.slice none 0 0) := (blk_cell hb2 1).trans rfl
      have hd2 : wr.cell? ⟨w.heap.size, 2, none⟩ = some (.slice none 0 0) := (blk_cell hb2 2).trans rfl
      have hf0 := blk_frozen hb2 0
      have hf1 := blk_frozen hb2 1
      have hf2 := blk_frozen hb2 2
      have HB1 := Aside0.mk hb1
      have HB2 := Aside0.mk hb2
      clear hb1 hb2
      go_wp2
      refine bodyPost_ret (results_cell_row rfl _ _ w.heap.size 34 #[.slice A7 (normalL l).length c7, .slice AH (firsts l hs).length cH, .slice AS (firsts l ss).length cS] (0, 0) _ rfl (blk_put (cs := #[.slice A7 (normalL l).length c7, .slice AH (firsts l hs).length cH, .slice none 0 0]) (blk_put (cs := #[.slice A7 (normalL l).length c7, .slice none 0 0, .slice none 0 0]) (blk_put HB2.out 0 _ rfl) 1 _ rfl) 2 _ rfl) Try.underlying34 rfl (by kernel_rfl)) rfl ?_
      have row : ∀ {v : Value} {l_ : List Int}, RI wr w.heap.size (fun _ => True) v l_ → some w.heap.size ≠ v.ownBlock → ∀ u0 u1 u2, RI (((wr.setCell ⟨w.heap.size, 0, none⟩ u0).setCell ⟨w.heap.size, 1, none⟩ u1).setCell ⟨w.heap.size, 2, none⟩ u2) w.heap.size (fun _ => True) v l_ := fun {v l_} hv hne u0 u1 u2 =>
        Kd.R_mono (Kd.R_far (Kd.R_far (Kd.R_far (Kd.R_far1 hv rfl hne) (p := ⟨w.heap.size, 0, none⟩) (fun _ hk => hk.2) u0) (p := ⟨w.heap.size, 1, none⟩) (fun _ hk => hk.2) u1) (p := ⟨w.heap.size, 2, none⟩) (fun _ hk => hk.2) u2) (fun _ _ => trivial)
      exact ⟨_, _, _, rfl, row HST.out.r7 (HST.out.blk_ne HST.out.r7).2 _ _ _, row HST.out.rH (HST.out.blk_ne HST.out.rH).2 _ _ _, row HST.out.rS (HST.out.blk_ne HST.out.rS).2 _ _ _, HST.out.s7H, HST.out.s7S, HST.out.sHS, HST.out.sSH, below_set (below_set (below_set HST.out.bel (Nat.le_refl _)) (Nat.le_refl _)) (Nat.le_refl _)⟩

def impl_renumbered.f (l0 l1 l2 : List Int) : Option (List Int × List Int × List Int) := if l0.length < 1099511627776 ∧ Ok64 l0 ∧ (∀ x ∈ l0, 0 ≤ x ∧ x < l1.length ∧ x < l2.length) then some (normalL l0, firsts l0 l1, firsts l0 l2) else none
theorem impl_renumbered.calls (A0 : Option Addr) (c0 : Nat) (l0 : List Int) (A1 : Option Addr) (c1 : Nat) (l1 : List Int) (A2 : Option Addr) (c2 : Nat) (l2 : List Int) (r1 : List Int) (r2 : List Int) (r3 : List Int) (w : World) (hr0 : Kd.C (Kd.int .i64) w A0 l0.length l0) (hc0 : l0.length ≤ c0) (hr1 : Kd.C (Kd.int .i64) w A1 l1.length l1) (hc1 : l1.length ≤ c1) (hr2 : Kd.C (Kd.int .i64) w A2 l2.length l2) (hc2 : l2.length ≤ c2) (h : impl_renumbered.f l0 l1 l2 = some (r1, r2, r3)) :
    Calls Try.prog 71 #[.slice A0 l0.length c0, .slice A1 l1.length c1, .slice A2 l2.length c2] w fun e w' => ∃ v0_ v1_ v2_ : Value, e = .returned (.agg #[v0_, v1_, v2_]) ∧ Kd.R (Kd.int .i64) 2 w' w.heap.size (fun k_ => some k_ ≠ (v1_ : Value).ownBlock ∧ some k_ ≠ (v2_ : Value).ownBlock) v0_ r1 ∧ Kd.R (Kd.int .i64) 2 w' w.heap.size (fun k_ => some k_ ≠ (v0_ : Value).ownBlock ∧ some k_ ≠ (v2_ : Value).ownBlock) v1_ r2 ∧ Kd.R (Kd.int .i64) 2 w' w.heap.size (fun k_ => some k_ ≠ (v0_ : Value).ownBlock ∧ some k_ ≠ (v1_ : Value).ownBlock) v2_ r3 ∧ Below w.heap.size w w' := by
  unfold impl_renumbered.f at h
  split at h
  case isFalse => cases h
  rename_i hh
  simp only [Option.some.injEq, Prod.mk.injEq] at h
  obtain ⟨rfl, rfl, rfl⟩ := h
  refine (c_renumbered A0 A1 A2 c0 c1 c2 l0 l1 l2 w hh.1 hh.2.1 hr0 hr1 hr2 hh.2.2).mono ?_
  rintro e w' ⟨v0, v1, v2, rfl, h0, h1, h2, s10, s20, s12, s21, hb⟩
  have sep : ∀ {u v : Value} {lu : List Int}, Kd.R (Kd.int .i64) 2 w' w.heap.size (fun _ => True) u lu → ∀ k, u.ownBlock = some k → k < w'.heap.size := fun hu k hk => Kd.R_lt hu k hk
  refine ⟨v0, v1, v2, rfl, ?_, ?_, ?_, hb⟩
  · exact ⟨fun k hk => ⟨fun e => s10 k e.symm hk.symm, fun e => s20 k e.symm hk.symm⟩, h0.2⟩
  · exact ⟨fun k hk => ⟨s10 k hk, s12 k hk⟩, h1.2⟩
  · exact ⟨fun k hk => ⟨s20 k hk, s21 k hk⟩, h2.2⟩
end Go.Proofs.Ytihfncjpfgdhoaa.K
end -- KRenum

section -- PEx0
namespace Go.Proofs.Ytihfncjpfgdhoaa.PE
open Go.RowKit Go.Proofs.YtihfncjpfgdhoaaW.PrintWords Go.Proofs.YtihfncjpfgdhoaaW.PrintLast Go.Proofs.YtihfncjpfgdhoaaW.PrintMore
attribute [local go_sem] max2_int min2_int max_two min_two max_three min_three max_four min_four   -- for this text's walks alone
open Go.Proofs.Ytihfncjpfgdhoaa.K Go.Proofs.Ytihfncjpfgdhoaa.PA
set_option linter.unusedVariables false
set_option linter.unusedSimpArgs false



def errW : Option Int → Value
  | none => .nilIface
  | some c => .iface 0 (.int .i64 c)
theorem errW_none : errW none = .nilIface := rfl
theorem errW_some (c : Int) : errW (some c) = .iface 0 (.int .i64 c) := rfl

-- the values' own types
def rd_L1 (xs : List (List Int)) (i : Int) : (List Int) := xs.getD i.toNat ([] : List Int)
theorem at_L1 {w : World} {A : Option Addr} {n : Nat} {xs : List (List Int)} (h : Kd.C (Kd.slice 2 (Kd.int .i64)) w A n xs) (i : Int) (h0 : 0 ≤ i) (h1 : i < n) : ∃ ad A0 c0, A = some ad ∧ w.cell? (ad.add i.toNat) = some (.slice A0 (rd_L1 xs i).length c0) ∧ (rd_L1 xs i).length ≤ c0 ∧ (Kd.int .i64).C w A0 (rd_L1 xs i).length (rd_L1 xs i) := by
  obtain ⟨ad, c, e, _, hK, hc0⟩ := Kd.C_get h ([] : List Int) i h0 h1
  have hc : ∀ j u, c[j]? = some u → w.cell? (ad.add (i.toNat * 1 + j)) = some u := hc0
  obtain ⟨A0, c0, rfl, l0, g0⟩ := hK
  exact ⟨ad, A0, c0, e, by have hq := hc 0 _ rfl; rwa [Nat.mul_one, Nat.add_zero] at hq, l0, g0⟩

end Go.Proofs.Ytihfncjpfgdhoaa.PE
end -- PEx0

section -- PEx2
namespace Go.Proofs.Ytihfncjpfgdhoaa.PE
open Go.RowKit Go.Proofs.YtihfncjpfgdhoaaW.PrintWords Go.Proofs.YtihfncjpfgdhoaaW.PrintLast Go.Proofs.YtihfncjpfgdhoaaW.PrintMore
attribute [local go_sem] max2_int min2_int max_two min_two max_three min_three max_four min_four   -- for this text's walks alone
open Go.Proofs.Ytihfncjpfgdhoaa.K Go.Proofs.Ytihfncjpfgdhoaa.PA
set_option linter.unusedVariables false
set_option linter.unusedSimpArgs false

/-! ### impl_IsGauss: function 58 -/
def impl_IsGauss.j0 : Nat → Bool → List Int → List Int → List Int → Option (Bool)
  | 0, _, _, _, _ => none
  | k + 1, x25, x102000, x102001, x102002 => if x25 = true then (some false) else ((anyNoHead.f x102001).bind fun t105 => (if t105 = true then (some false) else ((anyNoSign.f x102002).bind fun t106 => (some (!t106)))))
def impl_IsGauss.f (k : Nat) (l0_0 : List Int) (l0_1 : List Int) (l0_2 : List Int) : Option (Bool) := (impl_IsWord.f k l0_0).bind fun t102 => (if t102 = true then ((impl_chords.f l0_0).bind fun t103 => (if (l0_1.length : Int) = t103 then ((impl_chords.f l0_0).bind fun t104 => (impl_IsGauss.j0 k ((l0_2.length : Int) != t104) l0_0 l0_1 l0_2)) else (impl_IsGauss.j0 k true l0_0 l0_1 l0_2))) else (impl_IsGauss.j0 k true l0_0 l0_1 l0_2))
theorem impl_IsGauss.mono_l : ∀ k, (∀ y0 y1 y2 y3, LeO (impl_IsGauss.j0 k y0 y1 y2 y3) (impl_IsGauss.j0 (k + 1) y0 y1 y2 y3))
  | 0 => fun _ _ _ _ r h => by simp [impl_IsGauss.j0] at h
  | k + 1 => by
    have ih0 := impl_IsGauss.mono_l k
    · intro y0 y1 y2 y3
      unfold impl_IsGauss.j0
      repeat' first
      | (with_reducible exact ih0 _ _ _ _)
      | (with_reducible exact impl_IsWord.mono _ _)
      | (with_reducible exact LeO.refl _)
      | (with_reducible exact LeO.none _)
      | (with_reducible refine LeO.ite ?_ ?_)
      | (with_reducible refine LeO.bind ?_ (fun _ => ?_))
      | exact ih0 _ _ _ _
      | exact impl_IsWord.mono _ _
      | exact LeO.none _
      | refine LeO.ite ?_ ?_
      | refine LeO.bind ?_ (fun _ => ?_)
theorem impl_IsGauss.mono : ∀ a0 a1 a2 k, LeO (impl_IsGauss.f k a0 a1 a2) (impl_IsGauss.f (k + 1) a0 a1 a2) := by
  intro a0 a1 a2 k
  have ih0 := impl_IsGauss.mono_l k
  unfold impl_IsGauss.f
  repeat' first
      | (with_reducible exact ih0 _ _ _ _)
      | (with_reducible exact impl_IsWord.mono _ _)
      | (with_reducible exact LeO.refl _)
      | (with_reducible exact LeO.none _)
      | (with_reducible refine LeO.ite ?_ ?_)
      | (with_reducible refine LeO.bind ?_ (fun _ => ?_))
      | exact ih0 _ _ _ _
      | exact impl_IsWord.mono _ _
      | exact LeO.none _
      | refine LeO.ite ?_ ?_
      | refine LeO.bind ?_ (fun _ => ?_)
def impl_IsGauss.T1 : Bool × List (List Nat × List Nat) := (true, [([], []), ([0], [0]), ([1], [1]), ([2], [2]), ([3, 2], [3]), ([4], [4]), ([5, 4], [4, 5]), ([6, 4], [4, 6]), ([4], [4]), ([8, 4], [4, 8]), ([9, 4, 4], [4, 9]), ([7, 10, 4], [4, 7, 10]), ([4, 11], [4, 11]), ([12, 10], [12]), ([13], [13]), ([14, 13], [13, 14]), ([15, 13], [13, 15]), ([13], [13]), ([17, 13], [13, 17]), ([18, 13, 13], [13, 18]), ([16, 19, 13], [13, 16, 19]), ([13, 20], [13, 20])])
def impl_IsGauss.B1 : List Nat := [0, 1, 3, 7, 15, 31, 63, 127, 31, 287, 799, 2047, 4095, 8191, 16383, 32767, 65535, 16383, 147455, 409599, 1048575, 2097151]
theorem impl_IsGauss.tab1 : rtab .any (opsOf Try.f58 1) = impl_IsGauss.T1 := by kernel_rfl
theorem impl_IsGauss.bits1 : waitsOk impl_IsGauss.T1.2 impl_IsGauss.B1 = true := by kernel_rfl
set_option maxHeartbeats 8000000 in
set_option maxRecDepth 100000 in
theorem impl_IsGauss.calls (k : Nat) (A0_0 : Option Addr) (c0_0 : Nat) (l0_0 : List Int) (A0_1 : Option Addr) (c0_1 : Nat) (l0_1 : List Int) (A0_2 : Option Addr) (c0_2 : Nat) (l0_2 : List Int) (r : Bool) (w : World) (hr0_0 : Kd.C (Kd.int .i64) w A0_0 l0_0.length l0_0) (hc0_0 : l0_0.length ≤ c0_0) (hr0_1 : Kd.C (Kd.int .i64) w A0_1 l0_1.length l0_1) (hc0_1 : l0_1.length ≤ c0_1) (hr0_2 : Kd.C (Kd.int .i64) w A0_2 l0_2.length l0_2) (hc0_2 : l0_2.length ≤ c0_2) (h : impl_IsGauss.f k l0_0 l0_1 l0_2 = some r) :
    Calls Try.prog 58 #[.agg #[.slice A0_0 l0_0.length c0_0, .slice A0_1 l0_1.length c0_1, .slice A0_2 l0_2.length c0_2]] w fun e w' => e = .returned (.bool r) ∧ Below w.heap.size w w' := by
  have hu34 := Try.underlying34
  have HR0_0 := Aside0.mk hr0_0
  have HC0_0 := Aside0.mk hc0_0
  clear hr0_0 hc0_0
  have HR0_1 := Aside0.mk hr0_1
  have HC0_1 := Aside0.mk hc0_1
  clear hr0_1 hc0_1
  have HR0_2 := Aside0.mk hr0_2
  have HC0_2 := Aside0.mk hc0_2
  clear hr0_2 hc0_2
  have HB := Aside0.mk (Below.refl w.heap.size w)
  have H : ((impl_IsWord.f k l0_0).bind fun t102 => (if t102 = true then ((impl_chords.f l0_0).bind fun t103 => (if (l0_1.length : Int) = t103 then ((impl_chords.f l0_0).bind fun t104 => (impl_IsGauss.j0 k ((l0_2.length : Int) != t104) l0_0 l0_1 l0_2)) else (impl_IsGauss.j0 k true l0_0 l0_1 l0_2))) else (impl_IsGauss.j0 k true l0_0 l0_1 l0_2))) = some r := h
  clear h
  have HC2 := Aside0.mk H
  clear H
  go_enter Try.func58, Try.ntmps58
  go_upto_region 1 with (first | ((with_reducible refine gate_dst (N := 1) rfl ?_); (try (refine gate_guard (by rfl) ?_; dsimp only)); refine box_event ?hg (N := 1) ?hd (cs := #[.slice A0_0 l0_0.length c0_0, .slice A0_1 l0_1.length c0_1, .slice A0_2 l0_2.length c0_2]) (t := 34) ?hr ?_; (case hd => rfl); (case hg => rfl); (case hr => first | (go_simp; done) | (go_simp; rfl)); intro gb101 hg w3 hbox hb; have n0_ := Aside0.mk (below_step (by repeat (first | (with_reducible first | exact HB.out | apply below_alloc | apply pw_below_drewN | apply below_drew1) | exact HB.out)) hb); have n1_ := Aside0.mk (hbox); have n2_ := Aside0.mk ((by rw [hg]; exact (below_size (by repeat (first | (with_reducible first | exact HB.out | apply below_alloc | apply pw_below_drewN | apply below_drew1) | exact HB.out))) : w.heap.size ≤ gb101)); have n3_ := Aside0.mk ((by rw [hg]; exact (below_size (by repeat (first | (with_reducible first | exact HB.out | apply below_alloc | apply pw_below_drewN | apply below_drew1) | exact HB.out))) : w.heap.size ≤ gb101)); clear HB; have HB := n0_; have BK101 := n1_; have GW101 := n2_; have GE101 := n3_; clear n0_ n1_ n2_ n3_; clear hb hbox hg))
  (try simp only [Act.put, List.setIfInBounds_toArray, List.set_cons_zero, List.set_cons_succ])
  go_cut [25] (fun v25 wc => ∃ (kq : Nat) (x25_1 : Bool), v25 = .bool x25_1 ∧ Aside0 (impl_IsGauss.j0 kq x25_1 l0_0 l0_1 l0_2 = some r) ∧ Aside0 (kq ≤ k) ∧ Aside0 (wc.heap[gb101]? = some (.cells #[(.slice A0_0 l0_0.length c0_0), (.slice A0_1 l0_1.length c0_1), (.slice A0_2 l0_2.length c0_2)] 34 (0, 0))) ∧ Aside0 (Below w.heap.size w wc))
  case first =>
    have H := HC2.out
    clear HC2
    replace H := Option.bind_eq_some_iff.mp H
    obtain ⟨t102, A40, H⟩ := H
    replace H : (if t102 = true then ((impl_chords.f l0_0).bind fun t103 => (if (l0_1.length : Int) = t103 then ((impl_chords.f l0_0).bind fun t104 => (impl_IsGauss.j0 k ((l0_2.length : Int) != t104) l0_0 l0_1 l0_2)) else (impl_IsGauss.j0 k true l0_0 l0_1 l0_2))) else (impl_IsGauss.j0 k true l0_0 l0_1 l0_2)) = some r := H
    have A4 := Aside0.mk A40
    clear A40
    by_cases c5 : t102 = true
    · subst c5
      have H1 : ((impl_chords.f l0_0).bind fun t103 => (if (l0_1.length : Int) = t103 then ((impl_chords.f l0_0).bind fun t104 => (impl_IsGauss.j0 k ((l0_2.length : Int) != t104) l0_0 l0_1 l0_2)) else (impl_IsGauss.j0 k true l0_0 l0_1 l0_2))) = some r := by rw [if_pos rfl] at H; exact H
      clear H
      have H := H1
      clear H1
      replace H := Option.bind_eq_some_iff.mp H
      obtain ⟨t103, A60, H⟩ := H
      replace H : (if (l0_1.length : Int) = t103 then ((impl_chords.f l0_0).bind fun t104 => (impl_IsGauss.j0 k ((l0_2.length : Int) != t104) l0_0 l0_1 l0_2)) else (impl_IsGauss.j0 k true l0_0 l0_1 l0_2)) = some r := H
      have A6 := Aside0.mk A60
      clear A60
      by_cases c7 : (l0_1.length : Int) = t103
      · rw [if_pos c7] at H
        have c7b0 : ((l0_1.length : Int) == t103) = true := beq_iff_eq.mpr c7
        have c7b1 : ((l0_1.length : Int) != t103) = false := bne_eq_false_iff_eq.mpr c7
        clear c7
        (first | rw [c7b0] | (simp only [i64_w, i32_w]; rw [c7b0]) | skip)
        replace H := Option.bind_eq_some_iff.mp H
        obtain ⟨t104, A80, H⟩ := H
        replace H : (impl_IsGauss.j0 k ((l0_2.length : Int) != t104) l0_0 l0_1 l0_2) = some r := H
        have A8 := Aside0.mk A80
        clear A80
        have H' := Aside0.mk H
        clear H
        try go_wp2
        have n0_ := Aside0.mk (blk_drew BK101.out)
        have n1_ := Aside0.mk (below_drew1 HB.out)
        clear BK101
        clear HB
        have BK101 := n0_
        have HB := n1_
        clear n0_ n1_
        refine start_ (n := 22) (S := fun w' => w'.cell? ⟨gb101, 0, none⟩ = some (.slice A0_0 l0_0.length c0_0) ∧ w'.cell? ⟨gb101, 1, none⟩ = some (.slice A0_1 l0_1.length c0_1) ∧ w'.cell? ⟨gb101, 2, none⟩ = some (.slice A0_2 l0_2.length c0_2)) (ds := []) #[false, false, false, false, false, false, false, false, false, false, false, false, false, false, false, false, false, false, false, false, false, false] (by kernel_rfl) rfl rfl ⟨(blk_cell BK101.out 0).trans rfl, (blk_cell BK101.out 1).trans rfl, (blk_cell BK101.out 2).trans rfl⟩ (fun hHeld => ?_); refine with_tabW impl_IsGauss.tab1 impl_IsGauss.bits1 (fun HT_ HW_ => ?_)
        generalize w3.drew = w9 at BK101 HB hHeld ⊢
        refine pure_ (i := 0) (N := some 4) (v := ?_) (a' := ?_) #[true, false, false, false, false, false, false, false, false, false, false, false, false, false, false, false, false, false, false, false, false, false] rfl rfl (any_of HT_.out (by kernel_rfl)) (fun _ _ _ h => h) (Or.inl ⟨by rfl, ?_⟩) ?_ ?_
        rotate_left
        · intro w'
          go_simp
          with_reducible rfl
        rotate_left
        · simp only [Act.put, List.setIfInBounds_toArray, List.set_cons_zero, List.set_cons_succ, i64_w, i32_w]
          rfl
        refine take_ (i := 1) (N := some 5) (v := ?_) (a' := ?_) #[true, true, false, false, false, false, false, false, false, false, false, false, false, false, false, false, false, false, false, false, false, false] rfl rfl (take_ofW HT_.out HW_.out (by kernel_rfl)) (fun _ _ _ h => h) (Or.inl ⟨by rfl, ?_⟩) hHeld ?_ ?_
        rotate_left
        · rintro w' ⟨s0, s1, s2⟩
          go_simp
          with_reducible rfl
        rotate_left
        · simp only [Act.put, List.setIfInBounds_toArray, List.set_cons_zero, List.set_cons_succ, i64_w, i32_w]
          rfl
        refine one_ (i := 2) (N := some 6) #[true, true, true, false, false, false, false, false, false, false, false, false, false, false, false, false, false, false, false, false, false, false] rfl rfl (one_of HT_.out (by kernel_rfl)) (by decide) (fun K hK => ?_)
        refine goes_ Try.func51 (by kernel_rfl) rfl #[.slice A0_0 l0_0.length c0_0] (by rfl) rfl rfl (by (try simp only [List.map_toArray, List.map_cons, List.map_nil]); first | done | rfl | (simp only [List.length_drop, List.length_take]; rfl)) ?_
        with_reducible refine (impl_IsWord.calls k _ _ l0_0 true _ ?side1 ?side2 A4.out).mono ?_
        (case side1 => exact (Kd.C_below HR0_0.out HB.out))
        (case side2 => exact HC0_0.out)
        rintro e w10 ⟨rfl, hb⟩
        refine ⟨_, rfl, ?_⟩
        have n0_ := Aside0.mk (blk_below (g := gb101) (o := .cells #[.slice A0_0 l0_0.length c0_0, .slice A0_1 l0_1.length c0_1, .slice A0_2 l0_2.length c0_2] 34 (0, 0)) (by (with_reducible repeat (first | refine blk_drewN ?_ _ | refine blk_drew ?_ | refine blk_alloc ?_ _)); exact BK101.out) hb)
        have n1_ := Aside0.mk (below_step (by repeat (first | (with_reducible first | exact HB.out | apply below_alloc | apply pw_below_drewN | apply below_drew1 | refine below_set ?_ GE101.out) | exact HB.out)) hb)
        clear BK101
        clear HB
        have BK101 := n0_
        have HB := n1_
        clear n0_ n1_
        (try clear hb)
        (try clear hb2)
        (try clear hk)
        (try clear hi)
        refine hK.out _ _ ⟨(blk_cell BK101.out 0).trans rfl, (blk_cell BK101.out 1).trans rfl, (blk_cell BK101.out 2).trans rfl⟩ (fun hHeld => ?_)
        clear hK K
        refine norm_ (a' := ?_) ?_ ?_
        rotate_left
        · show Act.put _ (some 6) _ = _
          simp only [Act.put, List.setIfInBounds_toArray, List.set_cons_zero, List.set_cons_succ, i64_w, i32_w]
          rfl
        refine pure_ (i := 3) (N := some 7) (v := ?_) (a' := ?_) #[true, true, true, true, false, false, false, false, false, false, false, false, false, false, false, false, false, false, false, false, false, false] rfl rfl (any_of HT_.out (by kernel_rfl)) (fun _ _ _ h => h) (Or.inl ⟨by rfl, ?_⟩) ?_ ?_
        rotate_left
        · intro w'
          go_simp
          with_reducible rfl
        rotate_left
        · simp only [Act.put, List.setIfInBounds_toArray, List.set_cons_zero, List.set_cons_succ, i64_w, i32_w]
          rfl
        refine pure_ (i := 4) (N := some 8) (v := ?_) (a' := ?_) #[true, true, true, true, true, false, false, false, false, false, false, false, false, false, false, false, false, false, false, false, false, false] rfl rfl (any_of HT_.out (by kernel_rfl)) (fun _ _ _ h => h) (Or.inl ⟨by rfl, ?_⟩) ?_ ?_
        rotate_left
        · intro w'
          go_simp
          with_reducible rfl
        rotate_left
        · simp only [Act.put, List.setIfInBounds_toArray, List.set_cons_zero, List.set_cons_succ, i64_w, i32_w]
          rfl
        refine pure_ (i := 5) (N := some 9) (v := ?_) (a' := ?_) #[true, true, true, true, true, true, false, false, false, false, false, false, false, false, false, false, false, false, false, false, false, false] rfl rfl (any_of HT_.out (by kernel_rfl)) (fun _ _ _ h => h) (Or.inl ⟨by rfl, ?_⟩) ?_ ?_
        rotate_left
        · intro w'
          go_simp
          with_reducible rfl
        rotate_left
        · simp only [Act.put, List.setIfInBounds_toArray, List.set_cons_zero, List.set_cons_succ, i64_w, i32_w]
          rfl
        refine pure_ (i := 8) (N := some 12) (v := ?_) (a' := ?_) #[true, true, true, true, true, true, false, false, true, false, false, false, false, false, false, false, false, false, false, false, false, false] rfl rfl (any_of HT_.out (by kernel_rfl)) (fun _ _ _ h => h) (Or.inl ⟨by rfl, ?_⟩) ?_ ?_
        rotate_left
        · intro w'
          go_simp
          with_reducible rfl
        rotate_left
        · simp only [Act.put, List.setIfInBounds_toArray, List.set_cons_zero, List.set_cons_succ, i64_w, i32_w]
          rfl
        refine take_ (i := 6) (N := some 10) (v := ?_) (a' := ?_) #[true, true, true, true, true, true, true, false, true, false, false, false, false, false, false, false, false, false, false, false, false, false] rfl rfl (take_ofW HT_.out HW_.out (by kernel_rfl)) (fun _ _ _ h => h) (Or.inl ⟨by rfl, ?_⟩) hHeld ?_ ?_
        rotate_left
        · rintro w' ⟨s0, s1, s2⟩
          go_simp
          with_reducible rfl
        rotate_left
        · simp only [Act.put, List.setIfInBounds_toArray, List.set_cons_zero, List.set_cons_succ, i64_w, i32_w]
          rfl
        refine pure_ (i := 7) (N := some 11) (v := ?_) (a' := ?_) #[true, true, true, true, true, true, true, true, true, false, false, false, false, false, false, false, false, false, false, false, false, false] rfl rfl (any_of HT_.out (by kernel_rfl)) (fun _ _ _ h => h) (Or.inl ⟨by rfl, ?_⟩) ?_ ?_
        rotate_left
        · intro w'
          go_simp
          with_reducible rfl
        rotate_left
        · simp only [Act.put, List.setIfInBounds_toArray, List.set_cons_zero, List.set_cons_succ, i64_w, i32_w]
          rfl
        refine take_ (i := 9) (N := some 13) (v := ?_) (a' := ?_) #[true, true, true, true, true, true, true, true, true, true, false, false, false, false, false, false, false, false, false, false, false, false] rfl rfl (take_ofW HT_.out HW_.out (by kernel_rfl)) (fun _ _ _ h => h) (Or.inl ⟨by rfl, ?_⟩) hHeld ?_ ?_
        rotate_left
        · rintro w' ⟨s0, s1, s2⟩
          go_simp
          with_reducible rfl
        rotate_left
        · simp only [Act.put, List.setIfInBounds_toArray, List.set_cons_zero, List.set_cons_succ, i64_w, i32_w]
          rfl
        refine one_ (i := 10) (N := some 14) #[true, true, true, true, true, true, true, true, true, true, true, false, false, false, false, false, false, false, false, false, false, false] rfl rfl (one_of HT_.out (by kernel_rfl)) (by decide) (fun K hK => ?_)
        refine goes_ Try.func53 (by kernel_rfl) rfl #[.slice A0_0 l0_0.length c0_0] (by rfl) rfl rfl (by (try simp only [List.map_toArray, List.map_cons, List.map_nil]); first | done | rfl | (simp only [List.length_drop, List.length_take]; rfl)) ?_
        with_reducible refine (impl_chords.calls _ _ l0_0 t103 _ ?side1 ?side2 A6.out).mono ?_
        (case side1 => exact (Kd.C_below HR0_0.out HB.out))
        (case side2 => exact HC0_0.out)
        rintro e w' ⟨rfl, ⟨nd, rfl⟩⟩
        refine ⟨_, rfl, ?_⟩
        refine hK.out _ _ ⟨(blk_cell BK101.out 0).trans rfl, (blk_cell BK101.out 1).trans rfl, (blk_cell BK101.out 2).trans rfl⟩ (fun hHeld => ?_)
        clear hK K
        refine norm_ (a' := ?_) ?_ ?_
        rotate_left
        · show Act.put _ (some 14) _ = _
          simp only [Act.put, List.setIfInBounds_toArray, List.set_cons_zero, List.set_cons_succ, i64_w, i32_w]
          rfl
        refine pure_ (i := 11) (N := some 15) (v := ?_) (a' := ?_) #[true, true, true, true, true, true, true, true, true, true, true, true, false, false, false, false, false, false, false, false, false, false] rfl rfl (any_of HT_.out (by kernel_rfl)) (fun _ _ _ h => h) (Or.inl ⟨by rfl, ?_⟩) ?_ ?_
        rotate_left
        · intro w'
          go_simp
          with_reducible rfl
        rotate_left
        · simp only [Act.put, List.setIfInBounds_toArray, List.set_cons_zero, List.set_cons_succ, i64_w, i32_w]
          rfl
        refine pure_ (i := 12) (N := some 16) (v := ?_) (a' := ?_) #[true, true, true, true, true, true, true, true, true, true, true, true, true, false, false, false, false, false, false, false, false, false] rfl rfl (any_of HT_.out (by kernel_rfl)) (fun _ _ _ h => h) (Or.inl ⟨by rfl, ?_⟩) ?_ ?_
        rotate_left
        · intro w'
          go_simp
          with_reducible rfl
        rotate_left
        · simp only [Act.put, List.setIfInBounds_toArray, List.set_cons_zero, List.set_cons_succ, i64_w, i32_w]
          rfl
        refine pure_ (i := 13) (N := some 17) (v := ?_) (a' := ?_) #[true, true, true, true, true, true, true, true, true, true, true, true, true, true, false, false, false, false, false, false, false, false] rfl rfl (any_of HT_.out (by kernel_rfl)) (fun _ _ _ h => h) (Or.inl ⟨by rfl, ?_⟩) ?_ ?_
        rotate_left
        · intro w'
          go_simp
          with_reducible rfl
        rotate_left
        · simp only [Act.put, List.setIfInBounds_toArray, List.set_cons_zero, List.set_cons_succ, i64_w, i32_w]
          rfl
        refine pure_ (i := 14) (N := some 18) (v := ?_) (a' := ?_) #[true, true, true, true, true, true, true, true, true, true, true, true, true, true, true, false, false, false, false, false, false, false] rfl rfl (any_of HT_.out (by kernel_rfl)) (fun _ _ _ h => h) (Or.inl ⟨by rfl, ?_⟩) ?_ ?_
        rotate_left
        · intro w'
          go_simp
          with_reducible rfl
        rotate_left
        · simp only [Act.put, List.setIfInBounds_toArray, List.set_cons_zero, List.set_cons_succ, i64_w, i32_w]
          rfl
        refine pure_ (i := 17) (N := some 21) (v := ?_) (a' := ?_) #[true, true, true, true, true, true, true, true, true, true, true, true, true, true, true, false, false, true, false, false, false, false] rfl rfl (any_of HT_.out (by kernel_rfl)) (fun _ _ _ h => h) (Or.inl ⟨by rfl, ?_⟩) ?_ ?_
        rotate_left
        · intro w'
          go_simp
          with_reducible rfl
        rotate_left
        · simp only [Act.put, List.setIfInBounds_toArray, List.set_cons_zero, List.set_cons_succ, i64_w, i32_w]
          rfl
        refine take_ (i := 15) (N := some 19) (v := ?_) (a' := ?_) #[true, true, true, true, true, true, true, true, true, true, true, true, true, true, true, true, false, true, false, false, false, false] rfl rfl (take_ofW HT_.out HW_.out (by kernel_rfl)) (fun _ _ _ h => h) (Or.inl ⟨by rfl, ?_⟩) hHeld ?_ ?_
        rotate_left
        · rintro w' ⟨s0, s1, s2⟩
          go_simp
          with_reducible rfl
        rotate_left
        · simp only [Act.put, List.setIfInBounds_toArray, List.set_cons_zero, List.set_cons_succ, i64_w, i32_w]
          rfl
        refine pure_ (i := 16) (N := some 20) (v := ?_) (a' := ?_) #[true, true, true, true, true, true, true, true, true, true, true, true, true, true, true, true, true, true, false, false, false, false] rfl rfl (any_of HT_.out (by kernel_rfl)) (fun _ _ _ h => h) (Or.inl ⟨by rfl, ?_⟩) ?_ ?_
        rotate_left
        · intro w'
          go_simp
          with_reducible rfl
        rotate_left
        · simp only [Act.put, List.setIfInBounds_toArray, List.set_cons_zero, List.set_cons_succ, i64_w, i32_w]
          rfl
        refine take_ (i := 18) (N := some 22) (v := ?_) (a' := ?_) #[true, true, true, true, true, true, true, true, true, true, true, true, true, true, true, true, true, true, true, false, false, false] rfl rfl (take_ofW HT_.out HW_.out (by kernel_rfl)) (fun _ _ _ h => h) (Or.inl ⟨by rfl, ?_⟩) hHeld ?_ ?_
        rotate_left
        · rintro w' ⟨s0, s1, s2⟩
          go_simp
          with_reducible rfl
        rotate_left
        · simp only [Act.put, List.setIfInBounds_toArray, List.set_cons_zero, List.set_cons_succ, i64_w, i32_w]
          rfl
        refine one_ (i := 19) (N := some 23) #[true, true, true, true, true, true, true, true, true, true, true, true, true, true, true, true, true, true, true, true, false, false] rfl rfl (one_of HT_.out (by kernel_rfl)) (by decide) (fun K hK => ?_)
        refine goes_ Try.func53 (by kernel_rfl) rfl #[.slice A0_0 l0_0.length c0_0] (by rfl) rfl rfl (by (try simp only [List.map_toArray, List.map_cons, List.map_nil]); first | done | rfl | (simp only [List.length_drop, List.length_take]; rfl)) ?_
        with_reducible refine (impl_chords.calls _ _ l0_0 t104 _ ?side1 ?side2 A8.out).mono ?_
        (case side1 => repeat (first | exact (Kd.C_below HR0_0.out (by repeat (first | (with_reducible first | exact HB.out | apply below_alloc | apply pw_below_drewN | apply below_drew1 | refine below_set ?_ GE101.out) | exact HB.out))) | (with_reducible refine Kd.C_alloc ?_ _) | (with_reducible refine Kd.C_drewN ?_ _) | (with_reducible refine Kd.C_drew ?_)))
        (case side2 => exact HC0_0.out)
        rintro e w' ⟨rfl, ⟨nd, rfl⟩⟩
        refine ⟨_, rfl, ?_⟩
        refine hK.out _ _ ⟨(blk_cell BK101.out 0).trans rfl, (blk_cell BK101.out 1).trans rfl, (blk_cell BK101.out 2).trans rfl⟩ (fun hHeld => ?_)
        clear hK K
        refine norm_ (a' := ?_) ?_ ?_
        rotate_left
        · show Act.put _ (some 23) _ = _
          simp only [Act.put, List.setIfInBounds_toArray, List.set_cons_zero, List.set_cons_succ, i64_w, i32_w]
          rfl
        refine pure_ (i := 20) (N := some 24) (v := ?_) (a' := ?_) #[true, true, true, true, true, true, true, true, true, true, true, true, true, true, true, true, true, true, true, true, true, false] rfl rfl (any_of HT_.out (by kernel_rfl)) (fun _ _ _ h => h) (Or.inl ⟨by rfl, ?_⟩) ?_ ?_
        rotate_left
        · intro w'
          go_simp
          with_reducible rfl
        rotate_left
        · simp only [Act.put, List.setIfInBounds_toArray, List.set_cons_zero, List.set_cons_succ, i64_w, i32_w]
          rfl
        refine pure_ (i := 21) (N := some 25) (v := ?_) (a' := ?_) #[true, true, true, true, true, true, true, true, true, true, true, true, true, true, true, true, true, true, true, true, true, true] rfl rfl (any_of HT_.out (by kernel_rfl)) (fun _ _ _ h => h) (Or.inl ⟨by rfl, ?_⟩) ?_ ?_
        rotate_left
        · intro w'
          go_simp
          with_reducible rfl
        rotate_left
        · simp only [Act.put, List.setIfInBounds_toArray, List.set_cons_zero, List.set_cons_succ, i64_w, i32_w]
          rfl
        refine done_ (done_of HT_.out (by kernel_rfl)) ?_
        try go_wp2
        go_meet
        case rel => exact ⟨_, (((l0_2.length : Int) != t104)), (by first | rfl | (simp; done) | (simp [*]; done)), H', ⟨by first | omega | exact Nat.le_refl _⟩, ⟨by (with_reducible repeat (first | refine blk_drewN ?_ _ | refine blk_drew ?_ | refine blk_alloc ?_ _)); exact BK101.out⟩, ⟨by repeat (first | (with_reducible first | exact HB.out | apply below_alloc | apply pw_below_drewN | apply below_drew1 | refine below_set ?_ GE101.out) | exact HB.out)⟩⟩
      · rw [if_neg c7] at H
        have c7b0 : ((l0_1.length : Int) == t103) = false := beq_eq_false_iff_ne.mpr c7
        have c7b1 : ((l0_1.length : Int) != t103) = true := bne_iff_ne.mpr c7
        (first | rw [c7b0] | (simp only [i64_w, i32_w]; rw [c7b0]) | skip)
        have H' := Aside0.mk H
        clear H
        try go_wp2
        have n0_ := Aside0.mk (blk_drew BK101.out)
        have n1_ := Aside0.mk (below_drew1 HB.out)
        clear BK101
        clear HB
        have BK101 := n0_
        have HB := n1_
        clear n0_ n1_
        refine start_ (n := 22) (S := fun w' => w'.cell? ⟨gb101, 0, none⟩ = some (.slice A0_0 l0_0.length c0_0) ∧ w'.cell? ⟨gb101, 1, none⟩ = some (.slice A0_1 l0_1.length c0_1) ∧ w'.cell? ⟨gb101, 2, none⟩ = some (.slice A0_2 l0_2.length c0_2)) (ds := []) #[false, false, false, false, false, false, false, false, false, false, false, false, false, false, false, false, false, false, false, false, false, false] (by kernel_rfl) rfl rfl ⟨(blk_cell BK101.out 0).trans rfl, (blk_cell BK101.out 1).trans rfl, (blk_cell BK101.out 2).trans rfl⟩ (fun hHeld => ?_); refine with_tabW impl_IsGauss.tab1 impl_IsGauss.bits1 (fun HT_ HW_ => ?_)
        generalize w3.drew = w11 at BK101 HB hHeld ⊢
        refine pure_ (i := 0) (N := some 4) (v := ?_) (a' := ?_) #[true, false, false, false, false, false, false, false, false, false, false, false, false, false, false, false, false, false, false, false, false, false] rfl rfl (any_of HT_.out (by kernel_rfl)) (fun _ _ _ h => h) (Or.inl ⟨by rfl, ?_⟩) ?_ ?_
        rotate_left
        · intro w'
          go_simp
          with_reducible rfl
        rotate_left
        · simp only [Act.put, List.setIfInBounds_toArray, List.set_cons_zero, List.set_cons_succ, i64_w, i32_w]
          rfl
        refine take_ (i := 1) (N := some 5) (v := ?_) (a' := ?_) #[true, true, false, false, false, false, false, false, false, false, false, false, false, false, false, false, false, false, false, false, false, false] rfl rfl (take_ofW HT_.out HW_.out (by kernel_rfl)) (fun _ _ _ h => h) (Or.inl ⟨by rfl, ?_⟩) hHeld ?_ ?_
        rotate_left
        · rintro w' ⟨s0, s1, s2⟩
          go_simp
          with_reducible rfl
        rotate_left
        · simp only [Act.put, List.setIfInBounds_toArray, List.set_cons_zero, List.set_cons_succ, i64_w, i32_w]
          rfl
        refine one_ (i := 2) (N := some 6) #[true, true, true, false, false, false, false, false, false, false, false, false, false, false, false, false, false, false, false, false, false, false] rfl rfl (one_of HT_.out (by kernel_rfl)) (by decide) (fun K hK => ?_)
        refine goes_ Try.func51 (by kernel_rfl) rfl #[.slice A0_0 l0_0.length c0_0] (by rfl) rfl rfl (by (try simp only [List.map_toArray, List.map_cons, List.map_nil]); first | done | rfl | (simp only [List.length_drop, List.length_take]; rfl)) ?_
        with_reducible refine (impl_IsWord.calls k _ _ l0_0 true _ ?side1 ?side2 A4.out).mono ?_
        (case side1 => exact (Kd.C_below HR0_0.out HB.out))
        (case side2 => exact HC0_0.out)
        rintro e w12 ⟨rfl, hb⟩
        refine ⟨_, rfl, ?_⟩
        have n0_ := Aside0.mk (blk_below (g := gb101) (o := .cells #[.slice A0_0 l0_0.length c0_0, .slice A0_1 l0_1.length c0_1, .slice A0_2 l0_2.length c0_2] 34 (0, 0)) (by (with_reducible repeat (first | refine blk_drewN ?_ _ | refine blk_drew ?_ | refine blk_alloc ?_ _)); exact BK101.out) hb)
        have n1_ := Aside0.mk (below_step (by repeat (first | (with_reducible first | exact HB.out | apply below_alloc | apply pw_below_drewN | apply below_drew1 | refine below_set ?_ GE101.out) | exact HB.out)) hb)
        clear BK101
        clear HB
        have BK101 := n0_
        have HB := n1_
        clear n0_ n1_
        (try clear hb)
        (try clear hb2)
        (try clear hk)
        (try clear hi)
        refine hK.out _ _ ⟨(blk_cell BK101.out 0).trans rfl, (blk_cell BK101.out 1).trans rfl, (blk_cell BK101.out 2).trans rfl⟩ (fun hHeld => ?_)
        clear hK K
        refine norm_ (a' := ?_) ?_ ?_
        rotate_left
        · show Act.put _ (some 6) _ = _
          simp only [Act.put, List.setIfInBounds_toArray, List.set_cons_zero, List.set_cons_succ, i64_w, i32_w]
          rfl
        refine pure_ (i := 3) (N := some 7) (v := ?_) (a' := ?_) #[true, true, true, true, false, false, false, false, false, false, false, false, false, false, false, false, false, false, false, false, false, false] rfl rfl (any_of HT_.out (by kernel_rfl)) (fun _ _ _ h => h) (Or.inl ⟨by rfl, ?_⟩) ?_ ?_
        rotate_left
        · intro w'
          go_simp
          with_reducible rfl
        rotate_left
        · simp only [Act.put, List.setIfInBounds_toArray, List.set_cons_zero, List.set_cons_succ, i64_w, i32_w]
          rfl
        refine pure_ (i := 4) (N := some 8) (v := ?_) (a' := ?_) #[true, true, true, true, true, false, false, false, false, false, false, false, false, false, false, false, false, false, false, false, false, false] rfl rfl (any_of HT_.out (by kernel_rfl)) (fun _ _ _ h => h) (Or.inl ⟨by rfl, ?_⟩) ?_ ?_
        rotate_left
        · intro w'
          go_simp
          with_reducible rfl
        rotate_left
        · simp only [Act.put, List.setIfInBounds_toArray, List.set_cons_zero, List.set_cons_succ, i64_w, i32_w]
          rfl
        refine pure_ (i := 5) (N := some 9) (v := ?_) (a' := ?_) #[true, true, true, true, true, true, false, false, false, false, false, false, false, false, false, false, false, false, false, false, false, false] rfl rfl (any_of HT_.out (by kernel_rfl)) (fun _ _ _ h => h) (Or.inl ⟨by rfl, ?_⟩) ?_ ?_
        rotate_left
        · intro w'
          go_simp
          with_reducible rfl
        rotate_left
        · simp only [Act.put, List.setIfInBounds_toArray, List.set_cons_zero, List.set_cons_succ, i64_w, i32_w]
          rfl
        refine pure_ (i := 8) (N := some 12) (v := ?_) (a' := ?_) #[true, true, true, true, true, true, false, false, true, false, false, false, false, false, false, false, false, false, false, false, false, false] rfl rfl (any_of HT_.out (by kernel_rfl)) (fun _ _ _ h => h) (Or.inl ⟨by rfl, ?_⟩) ?_ ?_
        rotate_left
        · intro w'
          go_simp
          with_reducible rfl
        rotate_left
        · simp only [Act.put, List.setIfInBounds_toArray, List.set_cons_zero, List.set_cons_succ, i64_w, i32_w]
          rfl
        refine take_ (i := 6) (N := some 10) (v := ?_) (a' := ?_) #[true, true, true, true, true, true, true, false, true, false, false, false, false, false, false, false, false, false, false, false, false, false] rfl rfl (take_ofW HT_.out HW_.out (by kernel_rfl)) (fun _ _ _ h => h) (Or.inl ⟨by rfl, ?_⟩) hHeld ?_ ?_
        rotate_left
        · rintro w' ⟨s0, s1, s2⟩
          go_simp
          with_reducible rfl
        rotate_left
        · simp only [Act.put, List.setIfInBounds_toArray, List.set_cons_zero, List.set_cons_succ, i64_w, i32_w]
          rfl
        refine pure_ (i := 7) (N := some 11) (v := ?_) (a' := ?_) #[true, true, true, true, true, true, true, true, true, false, false, false, false, false, false, false, false, false, false, false, false, false] rfl rfl (any_of HT_.out (by kernel_rfl)) (fun _ _ _ h => h) (Or.inl ⟨by rfl, ?_⟩) ?_ ?_
        rotate_left
        · intro w'
          go_simp
          with_reducible rfl
        rotate_left
        · simp only [Act.put, List.setIfInBounds_toArray, List.set_cons_zero, List.set_cons_succ, i64_w, i32_w]
          rfl
        refine take_ (i := 9) (N := some 13) (v := ?_) (a' := ?_) #[true, true, true, true, true, true, true, true, true, true, false, false, false, false, false, false, false, false, false, false, false, false] rfl rfl (take_ofW HT_.out HW_.out (by kernel_rfl)) (fun _ _ _ h => h) (Or.inl ⟨by rfl, ?_⟩) hHeld ?_ ?_
        rotate_left
        · rintro w' ⟨s0, s1, s2⟩
          go_simp
          with_reducible rfl
        rotate_left
        · simp only [Act.put, List.setIfInBounds_toArray, List.set_cons_zero, List.set_cons_succ, i64_w, i32_w]
          rfl
        refine one_ (i := 10) (N := some 14) #[true, true, true, true, true, true, true, true, true, true, true, false, false, false, false, false, false, false, false, false, false, false] rfl rfl (one_of HT_.out (by kernel_rfl)) (by decide) (fun K hK => ?_)
        refine goes_ Try.func53 (by kernel_rfl) rfl #[.slice A0_0 l0_0.length c0_0] (by rfl) rfl rfl (by (try simp only [List.map_toArray, List.map_cons, List.map_nil]); first | done | rfl | (simp only [List.length_drop, List.length_take]; rfl)) ?_
        with_reducible refine (impl_chords.calls _ _ l0_0 t103 _ ?side1 ?side2 A6.out).mono ?_
        (case side1 => exact (Kd.C_below HR0_0.out HB.out))
        (case side2 => exact HC0_0.out)
        rintro e w' ⟨rfl, ⟨nd, rfl⟩⟩
        refine ⟨_, rfl, ?_⟩
        refine hK.out _ _ ⟨(blk_cell BK101.out 0).trans rfl, (blk_cell BK101.out 1).trans rfl, (blk_cell BK101.out 2).trans rfl⟩ (fun hHeld => ?_)
        clear hK K
        refine norm_ (a' := ?_) ?_ ?_
        rotate_left
        · show Act.put _ (some 14) _ = _
          simp only [Act.put, List.setIfInBounds_toArray, List.set_cons_zero, List.set_cons_succ, i64_w, i32_w]
          rfl
        refine pure_ (i := 11) (N := some 15) (v := ?_) (a' := ?_) #[true, true, true, true, true, true, true, true, true, true, true, true, false, false, false, false, false, false, false, false, false, false] rfl rfl (any_of HT_.out (by kernel_rfl)) (fun _ _ _ h => h) (Or.inl ⟨by rfl, ?_⟩) ?_ ?_
        rotate_left
        · intro w'
          go_simp
          with_reducible rfl
        rotate_left
        · simp only [Act.put, List.setIfInBounds_toArray, List.set_cons_zero, List.set_cons_succ, i64_w, i32_w]
          rfl
        refine pure_ (i := 12) (N := some 16) (v := ?_) (a' := ?_) #[true, true, true, true, true, true, true, true, true, true, true, true, true, false, false, false, false, false, false, false, false, false] rfl rfl (any_of HT_.out (by kernel_rfl)) (fun _ _ _ h => h) (Or.inl ⟨by rfl, ?_⟩) ?_ ?_
        rotate_left
        · intro w'
          go_simp
          with_reducible rfl
        rotate_left
        · simp only [Act.put, List.setIfInBounds_toArray, List.set_cons_zero, List.set_cons_succ, i64_w, i32_w]
          rfl
        refine pure_ (i := 13) (N := some 17) (v := ?_) (a' := ?_) #[true, true, true, true, true, true, true, true, true, true, true, true, true, true, false, false, false, false, false, false, false, false] rfl rfl (any_of HT_.out (by kernel_rfl)) (fun _ _ _ h => h) (Or.inl ⟨by rfl, ?_⟩) ?_ ?_
        rotate_left
        · intro w'
          go_simp
          with_reducible rfl
        rotate_left
        · simp only [Act.put, List.setIfInBounds_toArray, List.set_cons_zero, List.set_cons_succ, i64_w, i32_w]
          rfl
        refine pure_ (i := 14) (N := some 18) (v := undef) (a' := ?_) #[true, true, true, true, true, true, true, true, true, true, true, true, true, true, true, false, false, false, false, false, false, false] rfl rfl (any_of HT_.out (by kernel_rfl)) (fun _ _ _ h => h) (Or.inr ⟨by rfl, rfl⟩) ?_ ?_
        rotate_left
        · simp only [Act.put, List.setIfInBounds_toArray, List.set_cons_zero, List.set_cons_succ, i64_w, i32_w]
          rfl
        refine pure_ (i := 15) (N := some 19) (v := undef) (a' := ?_) #[true, true, true, true, true, true, true, true, true, true, true, true, true, true, true, true, false, false, false, false, false, false] rfl rfl (any_of HT_.out (by kernel_rfl)) (fun _ _ _ h => h) (Or.inr ⟨by rfl, rfl⟩) ?_ ?_
        rotate_left
        · simp only [Act.put, List.setIfInBounds_toArray, List.set_cons_zero, List.set_cons_succ, i64_w, i32_w]
          rfl
        refine pure_ (i := 16) (N := some 20) (v := undef) (a' := ?_) #[true, true, true, true, true, true, true, true, true, true, true, true, true, true, true, true, true, false, false, false, false, false] rfl rfl (any_of HT_.out (by kernel_rfl)) (fun _ _ _ h => h) (Or.inr ⟨by rfl, rfl⟩) ?_ ?_
        rotate_left
        · simp only [Act.put, List.setIfInBounds_toArray, List.set_cons_zero, List.set_cons_succ, i64_w, i32_w]
          rfl
        refine pure_ (i := 17) (N := some 21) (v := undef) (a' := ?_) #[true, true, true, true, true, true, true, true, true, true, true, true, true, true, true, true, true, true, false, false, false, false] rfl rfl (any_of HT_.out (by kernel_rfl)) (fun _ _ _ h => h) (Or.inr ⟨by rfl, rfl⟩) ?_ ?_
        rotate_left
        · simp only [Act.put, List.setIfInBounds_toArray, List.set_cons_zero, List.set_cons_succ, i64_w, i32_w]
          rfl
        refine pure_ (i := 18) (N := some 22) (v := undef) (a' := ?_) #[true, true, true, true, true, true, true, true, true, true, true, true, true, true, true, true, true, true, true, false, false, false] rfl rfl (any_of HT_.out (by kernel_rfl)) (fun _ _ _ h => h) (Or.inr ⟨by rfl, rfl⟩) ?_ ?_
        rotate_left
        · simp only [Act.put, List.setIfInBounds_toArray, List.set_cons_zero, List.set_cons_succ, i64_w, i32_w]
          rfl
        refine pure_ (i := 19) (N := some 23) (v := undef) (a' := ?_) #[true, true, true, true, true, true, true, true, true, true, true, true, true, true, true, true, true, true, true, true, false, false] rfl rfl (any_of HT_.out (by kernel_rfl)) (fun _ _ _ h => h) (Or.inr ⟨by rfl, rfl⟩) ?_ ?_
        rotate_left
        · simp only [Act.put, List.setIfInBounds_toArray, List.set_cons_zero, List.set_cons_succ, i64_w, i32_w]
          rfl
        refine pure_ (i := 20) (N := some 24) (v := undef) (a' := ?_) #[true, true, true, true, true, true, true, true, true, true, true, true, true, true, true, true, true, true, true, true, true, false] rfl rfl (any_of HT_.out (by kernel_rfl)) (fun _ _ _ h => h) (Or.inr ⟨by rfl, rfl⟩) ?_ ?_
        rotate_left
        · simp only [Act.put, List.setIfInBounds_toArray, List.set_cons_zero, List.set_cons_succ, i64_w, i32_w]
          rfl
        refine pure_ (i := 21) (N := some 25) (v := ?_) (a' := ?_) #[true, true, true, true, true, true, true, true, true, true, true, true, true, true, true, true, true, true, true, true, true, true] rfl rfl (any_of HT_.out (by kernel_rfl)) (fun _ _ _ h => h) (Or.inl ⟨by rfl, ?_⟩) ?_ ?_
        rotate_left
        · intro w'
          go_simp
          with_reducible rfl
        rotate_left
        · simp only [Act.put, List.setIfInBounds_toArray, List.set_cons_zero, List.set_cons_succ, i64_w, i32_w]
          rfl
        refine done_ (done_of HT_.out (by kernel_rfl)) ?_
        try go_wp2
        go_meet
        case rel => exact ⟨_, (true), (by first | rfl | (simp; done) | (simp [*]; done)), H', ⟨by first | omega | exact Nat.le_refl _⟩, ⟨by (with_reducible repeat (first | refine blk_drewN ?_ _ | refine blk_drew ?_ | refine blk_alloc ?_ _)); exact BK101.out⟩, ⟨by repeat (first | (with_reducible first | exact HB.out | apply below_alloc | apply pw_below_drewN | apply below_drew1 | refine below_set ?_ GE101.out) | exact HB.out)⟩⟩
    · replace c5 := Bool.eq_false_iff.mpr c5
      subst c5
      have H1 : (impl_IsGauss.j0 k true l0_0 l0_1 l0_2) = some r := by rw [if_neg (show ¬ (false = true) by decide)] at H; exact H
      clear H
      have H := H1
      clear H1
      have H' := Aside0.mk H
      clear H
      try go_wp2
      have n0_ := Aside0.mk (blk_drew BK101.out)
      have n1_ := Aside0.mk (below_drew1 HB.out)
      clear BK101
      clear HB
      have BK101 := n0_
      have HB := n1_
      clear n0_ n1_
      refine start_ (n := 22) (S := fun w' => w'.cell? ⟨gb101, 0, none⟩ = some (.slice A0_0 l0_0.length c0_0) ∧ w'.cell? ⟨gb101, 1, none⟩ = some (.slice A0_1 l0_1.length c0_1) ∧ w'.cell? ⟨gb101, 2, none⟩ = some (.slice A0_2 l0_2.length c0_2)) (ds := []) #[false, false, false, false, false, false, false, false, false, false, false, false, false, false, false, false, false, false, false, false, false, false] (by kernel_rfl) rfl rfl ⟨(blk_cell BK101.out 0).trans rfl, (blk_cell BK101.out 1).trans rfl, (blk_cell BK101.out 2).trans rfl⟩ (fun hHeld => ?_); refine with_tabW impl_IsGauss.tab1 impl_IsGauss.bits1 (fun HT_ HW_ => ?_)
      generalize w3.drew = w13 at BK101 HB hHeld ⊢
      refine pure_ (i := 0) (N := some 4) (v := ?_) (a' := ?_) #[true, false, false, false, false, false, false, false, false, false, false, false, false, false, false, false, false, false, false, false, false, false] rfl rfl (any_of HT_.out (by kernel_rfl)) (fun _ _ _ h => h) (Or.inl ⟨by rfl, ?_⟩) ?_ ?_
      rotate_left
      · intro w'
        go_simp
        with_reducible rfl
      rotate_left
      · simp only [Act.put, List.setIfInBounds_toArray, List.set_cons_zero, List.set_cons_succ, i64_w, i32_w]
        rfl
      refine take_ (i := 1) (N := some 5) (v := ?_) (a' := ?_) #[true, true, false, false, false, false, false, false, false, false, false, false, false, false, false, false, false, false, false, false, false, false] rfl rfl (take_ofW HT_.out HW_.out (by kernel_rfl)) (fun _ _ _ h => h) (Or.inl ⟨by rfl, ?_⟩) hHeld ?_ ?_
      rotate_left
      · rintro w' ⟨s0, s1, s2⟩
        go_simp
        with_reducible rfl
      rotate_left
      · simp only [Act.put, List.setIfInBounds_toArray, List.set_cons_zero, List.set_cons_succ, i64_w, i32_w]
        rfl
      refine one_ (i := 2) (N := some 6) #[true, true, true, false, false, false, false, false, false, false, false, false, false, false, false, false, false, false, false, false, false, false] rfl rfl (one_of HT_.out (by kernel_rfl)) (by decide) (fun K hK => ?_)
      refine goes_ Try.func51 (by kernel_rfl) rfl #[.slice A0_0 l0_0.length c0_0] (by rfl) rfl rfl (by (try simp only [List.map_toArray, List.map_cons, List.map_nil]); first | done | rfl | (simp only [List.length_drop, List.length_take]; rfl)) ?_
      with_reducible refine (impl_IsWord.calls k _ _ l0_0 false _ ?side1 ?side2 A4.out).mono ?_
      (case side1 => exact (Kd.C_below HR0_0.out HB.out))
      (case side2 => exact HC0_0.out)
      rintro e w14 ⟨rfl, hb⟩
      refine ⟨_, rfl, ?_⟩
      have n0_ := Aside0.mk (blk_below (g := gb101) (o := .cells #[.slice A0_0 l0_0.length c0_0, .slice A0_1 l0_1.length c0_1, .slice A0_2 l0_2.length c0_2] 34 (0, 0)) (by (with_reducible repeat (first | refine blk_drewN ?_ _ | refine blk_drew ?_ | refine blk_alloc ?_ _)); exact BK101.out) hb)
      have n1_ := Aside0.mk (below_step (by repeat (first | (with_reducible first | exact HB.out | apply below_alloc | apply pw_below_drewN | apply below_drew1 | refine below_set ?_ GE101.out) | exact HB.out)) hb)
      clear BK101
      clear HB
      have BK101 := n0_
      have HB := n1_
      clear n0_ n1_
      (try clear hb)
      (try clear hb2)
      (try clear hk)
      (try clear hi)
      refine hK.out _ _ ⟨(blk_cell BK101.out 0).trans rfl, (blk_cell BK101.out 1).trans rfl, (blk_cell BK101.out 2).trans rfl⟩ (fun hHeld => ?_)
      clear hK K
      refine norm_ (a' := ?_) ?_ ?_
      rotate_left
      · show Act.put _ (some 6) _ = _
        simp only [Act.put, List.setIfInBounds_toArray, List.set_cons_zero, List.set_cons_succ, i64_w, i32_w]
        rfl
      refine pure_ (i := 3) (N := some 7) (v := ?_) (a' := ?_) #[true, true, true, true, false, false, false, false, false, false, false, false, false, false, false, false, false, false, false, false, false, false] rfl rfl (any_of HT_.out (by kernel_rfl)) (fun _ _ _ h => h) (Or.inl ⟨by rfl, ?_⟩) ?_ ?_
      rotate_left
      · intro w'
        go_simp
        with_reducible rfl
      rotate_left
      · simp only [Act.put, List.setIfInBounds_toArray, List.set_cons_zero, List.set_cons_succ, i64_w, i32_w]
        rfl
      refine pure_ (i := 4) (N := some 8) (v := ?_) (a' := ?_) #[true, true, true, true, true, false, false, false, false, false, false, false, false, false, false, false, false, false, false, false, false, false] rfl rfl (any_of HT_.out (by kernel_rfl)) (fun _ _ _ h => h) (Or.inl ⟨by rfl, ?_⟩) ?_ ?_
      rotate_left
      · intro w'
        go_simp
        with_reducible rfl
      rotate_left
      · simp only [Act.put, List.setIfInBounds_toArray, List.set_cons_zero, List.set_cons_succ, i64_w, i32_w]
        rfl
      refine pure_ (i := 5) (N := some 9) (v := undef) (a' := ?_) #[true, true, true, true, true, true, false, false, false, false, false, false, false, false, false, false, false, false, false, false, false, false] rfl rfl (any_of HT_.out (by kernel_rfl)) (fun _ _ _ h => h) (Or.inr ⟨by rfl, rfl⟩) ?_ ?_
      rotate_left
      · simp only [Act.put, List.setIfInBounds_toArray, List.set_cons_zero, List.set_cons_succ, i64_w, i32_w]
        rfl
      refine pure_ (i := 6) (N := some 10) (v := undef) (a' := ?_) #[true, true, true, true, true, true, true, false, false, false, false, false, false, false, false, false, false, false, false, false, false, false] rfl rfl (any_of HT_.out (by kernel_rfl)) (fun _ _ _ h => h) (Or.inr ⟨by rfl, rfl⟩) ?_ ?_
      rotate_left
      · simp only [Act.put, List.setIfInBounds_toArray, List.set_cons_zero, List.set_cons_succ, i64_w, i32_w]
        rfl
      refine pure_ (i := 7) (N := some 11) (v := undef) (a' := ?_) #[true, true, true, true, true, true, true, true, false, false, false, false, false, false, false, false, false, false, false, false, false, false] rfl rfl (any_of HT_.out (by kernel_rfl)) (fun _ _ _ h => h) (Or.inr ⟨by rfl, rfl⟩) ?_ ?_
      rotate_left
      · simp only [Act.put, List.setIfInBounds_toArray, List.set_cons_zero, List.set_cons_succ, i64_w, i32_w]
        rfl
      refine pure_ (i := 8) (N := some 12) (v := undef) (a' := ?_) #[true, true, true, true, true, true, true, true, true, false, false, false, false, false, false, false, false, false, false, false, false, false] rfl rfl (any_of HT_.out (by kernel_rfl)) (fun _ _ _ h => h) (Or.inr ⟨by rfl, rfl⟩) ?_ ?_
      rotate_left
      · simp only [Act.put, List.setIfInBounds_toArray, List.set_cons_zero, List.set_cons_succ, i64_w, i32_w]
        rfl
      refine pure_ (i := 9) (N := some 13) (v := undef) (a' := ?_) #[true, true, true, true, true, true, true, true, true, true, false, false, false, false, false, false, false, false, false, false, false, false] rfl rfl (any_of HT_.out (by kernel_rfl)) (fun _ _ _ h => h) (Or.inr ⟨by rfl, rfl⟩) ?_ ?_
      rotate_left
      · simp only [Act.put, List.setIfInBounds_toArray, List.set_cons_zero, List.set_cons_succ, i64_w, i32_w]
        rfl
      refine pure_ (i := 10) (N := some 14) (v := undef) (a' := ?_) #[true, true, true, true, true, true, true, true, true, true, true, false, false, false, false, false, false, false, false, false, false, false] rfl rfl (any_of HT_.out (by kernel_rfl)) (fun _ _ _ h => h) (Or.inr ⟨by rfl, rfl⟩) ?_ ?_
      rotate_left
      · simp only [Act.put, List.setIfInBounds_toArray, List.set_cons_zero, List.set_cons_succ, i64_w, i32_w]
        rfl
      refine pure_ (i := 11) (N := some 15) (v := undef) (a' := ?_) #[true, true, true, true, true, true, true, true, true, true, true, true, false, false, false, false, false, false, false, false, false, false] rfl rfl (any_of HT_.out (by kernel_rfl)) (fun _ _ _ h => h) (Or.inr ⟨by rfl, rfl⟩) ?_ ?_
      rotate_left
      · simp only [Act.put, List.setIfInBounds_toArray, List.set_cons_zero, List.set_cons_succ, i64_w, i32_w]
        rfl
      refine pure_ (i := 12) (N := some 16) (v := ?_) (a' := ?_) #[true, true, true, true, true, true, true, true, true, true, true, true, true, false, false, false, false, false, false, false, false, false] rfl rfl (any_of HT_.out (by kernel_rfl)) (fun _ _ _ h => h) (Or.inl ⟨by rfl, ?_⟩) ?_ ?_
      rotate_left
      · intro w'
        go_simp
        with_reducible rfl
      rotate_left
      · simp only [Act.put, List.setIfInBounds_toArray, List.set_cons_zero, List.set_cons_succ, i64_w, i32_w]
        rfl
      refine pure_ (i := 13) (N := some 17) (v := ?_) (a' := ?_) #[true, true, true, true, true, true, true, true, true, true, true, true, true, true, false, false, false, false, false, false, false, false] rfl rfl (any_of HT_.out (by kernel_rfl)) (fun _ _ _ h => h) (Or.inl ⟨by rfl, ?_⟩) ?_ ?_
      rotate_left
      · intro w'
        go_simp
        with_reducible rfl
      rotate_left
      · simp only [Act.put, List.setIfInBounds_toArray, List.set_cons_zero, List.set_cons_succ, i64_w, i32_w]
        rfl
      refine pure_ (i := 14) (N := some 18) (v := undef) (a' := ?_) #[true, true, true, true, true, true, true, true, true, true, true, true, true, true, true, false, false, false, false, false, false, false] rfl rfl (any_of HT_.out (by kernel_rfl)) (fun _ _ _ h => h) (Or.inr ⟨by rfl, rfl⟩) ?_ ?_
      rotate_left
      · simp only [Act.put, List.setIfInBounds_toArray, List.set_cons_zero, List.set_cons_succ, i64_w, i32_w]
        rfl
      refine pure_ (i := 15) (N := some 19) (v := undef) (a' := ?_) #[true, true, true, true, true, true, true, true, true, true, true, true, true, true, true, true, false, false, false, false, false, false] rfl rfl (any_of HT_.out (by kernel_rfl)) (fun _ _ _ h => h) (Or.inr ⟨by rfl, rfl⟩) ?_ ?_
      rotate_left
      · simp only [Act.put, List.setIfInBounds_toArray, List.set_cons_zero, List.set_cons_succ, i64_w, i32_w]
        rfl
      refine pure_ (i := 16) (N := some 20) (v := undef) (a' := ?_) #[true, true, true, true, true, true, true, true, true, true, true, true, true, true, true, true, true, false, false, false, false, false] rfl rfl (any_of HT_.out (by kernel_rfl)) (fun _ _ _ h => h) (Or.inr ⟨by rfl, rfl⟩) ?_ ?_
      rotate_left
      · simp only [Act.put, List.setIfInBounds_toArray, List.set_cons_zero, List.set_cons_succ, i64_w, i32_w]
        rfl
      refine pure_ (i := 17) (N := some 21) (v := undef) (a' := ?_) #[true, true, true, true, true, true, true, true, true, true, true, true, true, true, true, true, true, true, false, false, false, false] rfl rfl (any_of HT_.out (by kernel_rfl)) (fun _ _ _ h => h) (Or.inr ⟨by rfl, rfl⟩) ?_ ?_
      rotate_left
      · simp only [Act.put, List.setIfInBounds_toArray, List.set_cons_zero, List.set_cons_succ, i64_w, i32_w]
        rfl
      refine pure_ (i := 18) (N := some 22) (v := undef) (a' := ?_) #[true, true, true, true, true, true, true, true, true, true, true, true, true, true, true, true, true, true, true, false, false, false] rfl rfl (any_of HT_.out (by kernel_rfl)) (fun _ _ _ h => h) (Or.inr ⟨by rfl, rfl⟩) ?_ ?_
      rotate_left
      · simp only [Act.put, List.setIfInBounds_toArray, List.set_cons_zero, List.set_cons_succ, i64_w, i32_w]
        rfl
      refine pure_ (i := 19) (N := some 23) (v := undef) (a' := ?_) #[true, true, true, true, true, true, true, true, true, true, true, true, true, true, true, true, true, true, true, true, false, false] rfl rfl (any_of HT_.out (by kernel_rfl)) (fun _ _ _ h => h) (Or.inr ⟨by rfl, rfl⟩) ?_ ?_
      rotate_left
      · simp only [Act.put, List.setIfInBounds_toArray, List.set_cons_zero, List.set_cons_succ, i64_w, i32_w]
        rfl
      refine pure_ (i := 20) (N := some 24) (v := undef) (a' := ?_) #[true, true, true, true, true, true, true, true, true, true, true, true, true, true, true, true, true, true, true, true, true, false] rfl rfl (any_of HT_.out (by kernel_rfl)) (fun _ _ _ h => h) (Or.inr ⟨by rfl, rfl⟩) ?_ ?_
      rotate_left
      · simp only [Act.put, List.setIfInBounds_toArray, List.set_cons_zero, List.set_cons_succ, i64_w, i32_w]
        rfl
      refine pure_ (i := 21) (N := some 25) (v := ?_) (a' := ?_) #[true, true, true, true, true, true, true, true, true, true, true, true, true, true, true, true, true, true, true, true, true, true] rfl rfl (any_of HT_.out (by kernel_rfl)) (fun _ _ _ h => h) (Or.inl ⟨by rfl, ?_⟩) ?_ ?_
      rotate_left
      · intro w'
        go_simp
        with_reducible rfl
      rotate_left
      · simp only [Act.put, List.setIfInBounds_toArray, List.set_cons_zero, List.set_cons_succ, i64_w, i32_w]
        rfl
      refine done_ (done_of HT_.out (by kernel_rfl)) ?_
      try go_wp2
      go_meet
      case rel => exact ⟨_, (true), (by first | rfl | (simp; done) | (simp [*]; done)), H', ⟨by first | omega | exact Nat.le_refl _⟩, ⟨by (with_reducible repeat (first | refine blk_drewN ?_ _ | refine blk_drew ?_ | refine blk_alloc ?_ _)); exact BK101.out⟩, ⟨by repeat (first | (with_reducible first | exact HB.out | apply below_alloc | apply pw_below_drewN | apply below_drew1 | refine below_set ?_ GE101.out) | exact HB.out)⟩⟩
  case rest =>
    clear HC2
    try clear p2
    try clear c5
    try clear c7
    try clear c7b0
    try clear c7b1
    obtain ⟨kq, x25_1, rfl, HA, HJ1, BK101, HB⟩ := hcut
    cases kq with
    | zero => exact absurd HA.out (by simp [impl_IsGauss.j0])
    | succ kj1 =>
      have H := HA.out
      clear HA
      simp only [impl_IsGauss.j0] at H
      by_cases c15 : x25_1 = true
      · subst c15
        have H1 : (some false) = some r := by rw [if_pos rfl] at H; exact H
        clear H
        have H := H1
        clear H1
        obtain rfl := Option.some.inj H
        go_wp2
        go_ret
        exact ⟨by first | rfl | (simp [errW_none, errW_some] <;> rfl) | (simp [*, errW_none, errW_some] <;> rfl), by repeat (first | (with_reducible first | exact HB.out | apply below_alloc | apply pw_below_drewN | apply below_drew1 | refine below_set ?_ GE101.out) | exact HB.out)⟩
      · replace c15 := Bool.eq_false_iff.mpr c15
        subst c15
        have H1 : ((anyNoHead.f l0_1).bind fun t105 => (if t105 = true then (some false) else ((anyNoSign.f l0_2).bind fun t106 => (some (!t106))))) = some r := by rw [if_neg (show ¬ (false = true) by decide)] at H; exact H
        clear H
        have H := H1
        clear H1
        replace H := Option.bind_eq_some_iff.mp H
        obtain ⟨t105, A160, H⟩ := H
        replace H : (if t105 = true then (some false) else ((anyNoSign.f l0_2).bind fun t106 => (some (!t106)))) = some r := H
        have A16 := Aside0.mk A160
        clear A160
        by_cases c17 : t105 = true
        · subst c17
          have H1 : (some false) = some r := by rw [if_pos rfl] at H; exact H
          clear H
          have H := H1
          clear H1
          obtain rfl := Option.some.inj H
          have hcz18_0 : wc.cell? ⟨gb101, 0, none⟩ = some (.slice A0_0 l0_0.length c0_0) := (blk_cell BK101.out 0).trans rfl
          have hcz18_1 : wc.cell? ⟨gb101, 1, none⟩ = some (.slice A0_1 l0_1.length c0_1) := (blk_cell BK101.out 1).trans rfl
          have hcz18_2 : wc.cell? ⟨gb101, 2, none⟩ = some (.slice A0_2 l0_2.length c0_2) := (blk_cell BK101.out 2).trans rfl
          have hfz18_0 := blk_frozen BK101.out 0
          have hfz18_1 := blk_frozen BK101.out 1
          have hfz18_2 := blk_frozen BK101.out 2
          go_wp2_with (first | ((with_reducible refine gate_callee (f := 96) rfl ?_); refine goesL_ (some 28) rfl rfl Try.func96 (by kernel_rfl) rfl #[.slice A0_1 l0_1.length c0_1, .func (.func 97) #[] #[]] rfl (by (try simp only [List.map_toArray, List.map_cons, List.map_nil]); first | done | rfl | (simp only [List.length_drop, List.length_take]; rfl)) ?_; (with_reducible refine (anyNoHead.calls _ _ l0_1 true _ ?side1 ?side2 A16.out).mono ?_); (case side1 => exact (Kd.C_below HR0_1.out HB.out)); (case side2 => exact HC0_1.out); rintro e w' ⟨rfl, ⟨nd, rfl⟩⟩; refine ⟨_, rfl, ?_⟩))
          go_ret
          exact ⟨by first | rfl | (simp [errW_none, errW_some] <;> rfl) | (simp [*, errW_none, errW_some] <;> rfl), by repeat (first | (with_reducible first | exact HB.out | apply below_alloc | apply pw_below_drewN | apply below_drew1 | refine below_set ?_ GE101.out) | exact HB.out)⟩
        · replace c17 := Bool.eq_false_iff.mpr c17
          subst c17
          have H1 : ((anyNoSign.f l0_2).bind fun t106 => (some (!t106))) = some r := by rw [if_neg (show ¬ (false = true) by decide)] at H; exact H
          clear H
          have H := H1
          clear H1
          replace H := Option.bind_eq_some_iff.mp H
          obtain ⟨t106, A190, H⟩ := H
          replace H : (some (!t106)) = some r := H
          have A19 := Aside0.mk A190
          clear A190
          obtain rfl := Option.some.inj H
          have hcz20_0 : wc.cell? ⟨gb101, 0, none⟩ = some (.slice A0_0 l0_0.length c0_0) := (blk_cell BK101.out 0).trans rfl
          have hcz20_1 : wc.cell? ⟨gb101, 1, none⟩ = some (.slice A0_1 l0_1.length c0_1) := (blk_cell BK101.out 1).trans rfl
          have hcz20_2 : wc.cell? ⟨gb101, 2, none⟩ = some (.slice A0_2 l0_2.length c0_2) := (blk_cell BK101.out 2).trans rfl
          have hfz20_0 := blk_frozen BK101.out 0
          have hfz20_1 := blk_frozen BK101.out 1
          have hfz20_2 := blk_frozen BK101.out 2
          go_wp2_with (first | ((with_reducible refine gate_callee (f := 96) rfl ?_); refine goesL_ (some 28) rfl rfl Try.func96 (by kernel_rfl) rfl #[.slice A0_1 l0_1.length c0_1, .func (.func 97) #[] #[]] rfl (by (try simp only [List.map_toArray, List.map_cons, List.map_nil]); first | done | rfl | (simp only [List.length_drop, List.length_take]; rfl)) ?_; (with_reducible refine (anyNoHead.calls _ _ l0_1 false _ ?side1 ?side2 A16.out).mono ?_); (case side1 => exact (Kd.C_below HR0_1.out HB.out)); (case side2 => exact HC0_1.out); rintro e w' ⟨rfl, ⟨nd, rfl⟩⟩; refine ⟨_, rfl, ?_⟩) | (go_at_call 96; (with_reducible refine (anyNoSign.calls _ _ l0_2 t106 _ ?side1 ?side2 A19.out).mono ?_); (case side1 => repeat (first | exact (Kd.C_below HR0_2.out (by repeat (first | (with_reducible first | exact HB.out | apply below_alloc | apply pw_below_drewN | apply below_drew1 | refine below_set ?_ GE101.out) | exact HB.out))) | (with_reducible refine Kd.C_alloc ?_ _) | (with_reducible refine Kd.C_drewN ?_ _) | (with_reducible refine Kd.C_drew ?_))); (case side2 => exact HC0_2.out); rintro e w' ⟨rfl, ⟨nd, rfl⟩⟩))
          go_ret
          exact ⟨by first | rfl | (simp [errW_none, errW_some] <;> rfl) | (simp [*, errW_none, errW_some] <;> rfl), by repeat (first | (with_reducible first | exact HB.out | apply below_alloc | apply pw_below_drewN | apply below_drew1 | refine below_set ?_ GE101.out) | exact HB.out)⟩

end Go.Proofs.Ytihfncjpfgdhoaa.PE
end -- PEx2

section -- PKx0
namespace Go.Proofs.Ytihfncjpfgdhoaa.PK
open Go.RowKit Go.Proofs.YtihfncjpfgdhoaaW.PrintWords Go.Proofs.YtihfncjpfgdhoaaW.PrintLast Go.Proofs.YtihfncjpfgdhoaaW.PrintMore
attribute [local go_sem] max2_int min2_int max_two min_two max_three min_three max_four min_four   -- for this text's walks alone
open Go.Proofs.Ytihfncjpfgdhoaa.K Go.Proofs.Ytihfncjpfgdhoaa.PA Go.Proofs.Ytihfncjpfgdhoaa.PE
set_option linter.unusedVariables false
set_option linter.unusedSimpArgs false



def errW : Option Int → Value
  | none => .nilIface
  | some c => .iface 0 (.int .i64 c)
theorem errW_none : errW none = .nilIface := rfl
theorem errW_some (c : Int) : errW (some c) = .iface 0 (.int .i64 c) := rfl

-- the values' own types
def rd_L1 (xs : List (List Int)) (i : Int) : (List Int) := xs.getD i.toNat ([] : List Int)
theorem at_L1 {w : World} {A : Option Addr} {n : Nat} {xs : List (List Int)} (h : Kd.C (Kd.slice 2 (Kd.int .i64)) w A n xs) (i : Int) (h0 : 0 ≤ i) (h1 : i < n) : ∃ ad A0 c0, A = some ad ∧ w.cell? (ad.add i.toNat) = some (.slice A0 (rd_L1 xs i).length c0) ∧ (rd_L1 xs i).length ≤ c0 ∧ (Kd.int .i64).C w A0 (rd_L1 xs i).length (rd_L1 xs i) := by
  obtain ⟨ad, c, e, _, hK, hc0⟩ := Kd.C_get h ([] : List Int) i h0 h1
  have hc : ∀ j u, c[j]? = some u → w.cell? (ad.add (i.toNat * 1 + j)) = some u := hc0
  obtain ⟨A0, c0, rfl, l0, g0⟩ := hK
  exact ⟨ad, A0, c0, e, by have hq := hc 0 _ rfl; rwa [Nat.mul_one, Nat.add_zero] at hq, l0, g0⟩

/-! #### struct type 30 -/
structure S30 where
  f0 : (List Int)
  f1 : (List Int)
  f2 : (List Int)
def z30 : S30 := ⟨([] : List Int), ([] : List Int), ([] : List Int)⟩
def k30 : Kd S30 := Kd.iso (Kd.pair (Kd.slice 2 (Kd.int .i64)) (Kd.pair (Kd.slice 2 (Kd.int .i64)) (Kd.slice 2 (Kd.int .i64)))) (fun x : S30 => (x.f0, x.f1, x.f2))
theorem k30_open {w : World} {x : S30} {cs : List Value} (h : k30.K w x cs) : ∃ A0 c0 A1 c1 A2 c2, cs = [.slice A0 x.f0.length c0, .slice A1 x.f1.length c1, .slice A2 x.f2.length c2] ∧ x.f0.length ≤ c0 ∧ (Kd.int .i64).C w A0 x.f0.length x.f0 ∧ x.f1.length ≤ c1 ∧ (Kd.int .i64).C w A1 x.f1.length x.f1 ∧ x.f2.length ≤ c2 ∧ (Kd.int .i64).C w A2 x.f2.length x.f2 := by
  obtain ⟨_, _, rfl, ⟨A0, c0, rfl, l0, g0⟩, ⟨_, _, rfl, ⟨A1, c1, rfl, l1, g1⟩, ⟨A2, c2, rfl, l2, g2⟩⟩⟩ := h
  exact ⟨A0, c0, A1, c1, A2, c2, rfl, l0, g0, l1, g1, l2, g2⟩
theorem k30_openM {w : World} {base : Nat} {ok : Nat → Prop} {x : S30} {cs : List Value} (h : k30.M w base ok x cs) : ∃ v0 v1 v2, cs = [v0, v1, v2] ∧ (Kd.int .i64).R 2 w base ok v0 x.f0 ∧ (Kd.int .i64).R 2 w base ok v1 x.f1 ∧ (Kd.int .i64).R 2 w base ok v2 x.f2 := by
  obtain ⟨_, _, rfl, ⟨v0, rfl, g0⟩, ⟨_, _, rfl, ⟨v1, rfl, g1⟩, ⟨v2, rfl, g2⟩⟩⟩ := h
  exact ⟨v0, v1, v2, rfl, g0, g1, g2⟩
theorem k30_mk (w : World) (x : S30) {A0 : Option Addr} {c0 : Nat} (l0 : x.f0.length ≤ c0) (g0 : (Kd.int .i64).C w A0 x.f0.length x.f0) {A1 : Option Addr} {c1 : Nat} (l1 : x.f1.length ≤ c1) (g1 : (Kd.int .i64).C w A1 x.f1.length x.f1) {A2 : Option Addr} {c2 : Nat} (l2 : x.f2.length ≤ c2) (g2 : (Kd.int .i64).C w A2 x.f2.length x.f2) : k30.K w x [.slice A0 x.f0.length c0, .slice A1 x.f1.length c1, .slice A2 x.f2.length c2] := ⟨[.slice A0 x.f0.length c0], [.slice A1 x.f1.length c1, .slice A2 x.f2.length c2], rfl, ⟨A0, c0, rfl, l0, g0⟩, ⟨[.slice A1 x.f1.length c1], [.slice A2 x.f2.length c2], rfl, ⟨A1, c1, rfl, l1, g1⟩, ⟨A2, c2, rfl, l2, g2⟩⟩⟩
theorem k30_mkM (w : World) (base : Nat) (ok : Nat → Prop) (x : S30) {v0 : Value} (g0 : (Kd.int .i64).R 2 w base ok v0 x.f0) {v1 : Value} (g1 : (Kd.int .i64).R 2 w base ok v1 x.f1) {v2 : Value} (g2 : (Kd.int .i64).R 2 w base ok v2 x.f2) : k30.M w base ok x [v0, v1, v2] := ⟨[v0], [v1, v2], rfl, ⟨v0, rfl, g0⟩, ⟨[v1], [v2], rfl, ⟨v1, rfl, g1⟩, ⟨v2, rfl, g2⟩⟩⟩
def rd_T30 (xs : List S30) (i : Int) : S30 := xs.getD i.toNat z30
theorem at_T30 {w : World} {A : Option Addr} {n : Nat} {xs : List S30} (h : Kd.C k30 w A n xs) (i : Int) (h0 : 0 ≤ i) (h1 : i < n) : ∃ ad A0 c0 A1 c1 A2 c2, A = some ad ∧ w.cell? (ad.add (i.toNat * 3)) = some (.slice A0 (rd_T30 xs i).f0.length c0) ∧ w.cell? ⟨(ad.add (i.toNat * 3)).block, (ad.add (i.toNat * 3)).off + 1, none⟩ = some (.slice A1 (rd_T30 xs i).f1.length c1) ∧ w.cell? ⟨(ad.add (i.toNat * 3)).block, (ad.add (i.toNat * 3)).off + 2, none⟩ = some (.slice A2 (rd_T30 xs i).f2.length c2) ∧ (rd_T30 xs i).f0.length ≤ c0 ∧ (Kd.int .i64).C w A0 (rd_T30 xs i).f0.length (rd_T30 xs i).f0 ∧ (rd_T30 xs i).f1.length ≤ c1 ∧ (Kd.int .i64).C w A1 (rd_T30 xs i).f1.length (rd_T30 xs i).f1 ∧ (rd_T30 xs i).f2.length ≤ c2 ∧ (Kd.int .i64).C w A2 (rd_T30 xs i).f2.length (rd_T30 xs i).f2 := by
  obtain ⟨ad, c, e, _, hK, hc0⟩ := Kd.C_get h z30 i h0 h1
  have hc : ∀ j u, c[j]? = some u → w.cell? (ad.add (i.toNat * 3 + j)) = some u := hc0
  obtain ⟨A0, c0, A1, c1, A2, c2, rfl, l0, g0, l1, g1, l2, g2⟩ := k30_open hK
  exact ⟨ad, A0, c0, A1, c1, A2, c2, e, hc 0 _ rfl, by rw [← add_field _ _ 1 (by omega)]; exact hc 1 _ rfl, by rw [← add_field _ _ 2 (by omega)]; exact hc 2 _ rfl, l0, g0, l1, g1, l2, g2⟩

/-! #### struct type 34 -/
structure S34 where
  f0 : (List Int)
  f1 : (List Int)
  f2 : (List Int)
def z34 : S34 := ⟨([] : List Int), ([] : List Int), ([] : List Int)⟩
def k34 : Kd S34 := Kd.iso (Kd.pair (Kd.slice 2 (Kd.int .i64)) (Kd.pair (Kd.slice 2 (Kd.int .i64)) (Kd.slice 2 (Kd.int .i64)))) (fun x : S34 => (x.f0, x.f1, x.f2))
theorem k34_open {w : World} {x : S34} {cs : List Value} (h : k34.K w x cs) : ∃ A0 c0 A1 c1 A2 c2, cs = [.slice A0 x.f0.length c0, .slice A1 x.f1.length c1, .slice A2 x.f2.length c2] ∧ x.f0.length ≤ c0 ∧ (Kd.int .i64).C w A0 x.f0.length x.f0 ∧ x.f1.length ≤ c1 ∧ (Kd.int .i64).C w A1 x.f1.length x.f1 ∧ x.f2.length ≤ c2 ∧ (Kd.int .i64).C w A2 x.f2.length x.f2 := by
  obtain ⟨_, _, rfl, ⟨A0, c0, rfl, l0, g0⟩, ⟨_, _, rfl, ⟨A1, c1, rfl, l1, g1⟩, ⟨A2, c2, rfl, l2, g2⟩⟩⟩ := h
  exact ⟨A0, c0, A1, c1, A2, c2, rfl, l0, g0, l1, g1, l2, g2⟩
theorem k34_openM {w : World} {base : Nat} {ok : Nat → Prop} {x : S34} {cs : List Value} (h : k34.M w base ok x cs) : ∃ v0 v1 v2, cs = [v0, v1, v2] ∧ (Kd.int .i64).R 2 w base ok v0 x.f0 ∧ (Kd.int .i64).R 2 w base ok v1 x.f1 ∧ (Kd.int .i64).R 2 w base ok v2 x.f2 := by
  obtain ⟨_, _, rfl, ⟨v0, rfl, g0⟩, ⟨_, _, rfl, ⟨v1, rfl, g1⟩, ⟨v2, rfl, g2⟩⟩⟩ := h
  exact ⟨v0, v1, v2, rfl, g0, g1, g2⟩
theorem k34_mk (w : World) (x : S34) {A0 : Option Addr} {c0 : Nat} (l0 : x.f0.length ≤ c0) (g0 : (Kd.int .i64).C w A0 x.f0.length x.f0) {A1 : Option Addr} {c1 : Nat} (l1 : x.f1.length ≤ c1) (g1 : (Kd.int .i64).C w A1 x.f1.length x.f1) {A2 : Option Addr} {c2 : Nat} (l2 : x.f2.length ≤ c2) (g2 : (Kd.int .i64).C w A2 x.f2.length x.f2) : k34.K w x [.slice A0 x.f0.length c0, .slice A1 x.f1.length c1, .slice A2 x.f2.length c2] := ⟨[.slice A0 x.f0.length c0], [.slice A1 x.f1.length c1, .slice A2 x.f2.length c2], rfl, ⟨A0, c0, rfl, l0, g0⟩, ⟨[.slice A1 x.f1.length c1], [.slice A2 x.f2.length c2], rfl, ⟨A1, c1, rfl, l1, g1⟩, ⟨A2, c2, rfl, l2, g2⟩⟩⟩
theorem k34_mkM (w : World) (base : Nat) (ok : Nat → Prop) (x : S34) {v0 : Value} (g0 : (Kd.int .i64).R 2 w base ok v0 x.f0) {v1 : Value} (g1 : (Kd.int .i64).R 2 w base ok v1 x.f1) {v2 : Value} (g2 : (Kd.int .i64).R 2 w base ok v2 x.f2) : k34.M w base ok x [v0, v1, v2] := ⟨[v0], [v1, v2], rfl, ⟨v0, rfl, g0⟩, ⟨[v1], [v2], rfl, ⟨v1, rfl, g1⟩, ⟨v2, rfl, g2⟩⟩⟩
def rd_T34 (xs : List S34) (i : Int) : S34 := xs.getD i.toNat z34
theorem at_T34 {w : World} {A : Option Addr} {n : Nat} {xs : List S34} (h : Kd.C k34 w A n xs) (i : Int) (h0 : 0 ≤ i) (h1 : i < n) : ∃ ad A0 c0 A1 c1 A2 c2, A = some ad ∧ w.cell? (ad.add (i.toNat * 3)) = some (.slice A0 (rd_T34 xs i).f0.length c0) ∧ w.cell? ⟨(ad.add (i.toNat * 3)).block, (ad.add (i.toNat * 3)).off + 1, none⟩ = some (.slice A1 (rd_T34 xs i).f1.length c1) ∧ w.cell? ⟨(ad.add (i.toNat * 3)).block, (ad.add (i.toNat * 3)).off + 2, none⟩ = some (.slice A2 (rd_T34 xs i).f2.length c2) ∧ (rd_T34 xs i).f0.length ≤ c0 ∧ (Kd.int .i64).C w A0 (rd_T34 xs i).f0.length (rd_T34 xs i).f0 ∧ (rd_T34 xs i).f1.length ≤ c1 ∧ (Kd.int .i64).C w A1 (rd_T34 xs i).f1.length (rd_T34 xs i).f1 ∧ (rd_T34 xs i).f2.length ≤ c2 ∧ (Kd.int .i64).C w A2 (rd_T34 xs i).f2.length (rd_T34 xs i).f2 := by
  obtain ⟨ad, c, e, _, hK, hc0⟩ := Kd.C_get h z34 i h0 h1
  have hc : ∀ j u, c[j]? = some u → w.cell? (ad.add (i.toNat * 3 + j)) = some u := hc0
  obtain ⟨A0, c0, A1, c1, A2, c2, rfl, l0, g0, l1, g1, l2, g2⟩ := k34_open hK
  exact ⟨ad, A0, c0, A1, c1, A2, c2, e, hc 0 _ rfl, by rw [← add_field _ _ 1 (by omega)]; exact hc 1 _ rfl, by rw [← add_field _ _ 2 (by omega)]; exact hc 2 _ rfl, l0, g0, l1, g1, l2, g2⟩

end Go.Proofs.Ytihfncjpfgdhoaa.PK
end -- PKx0

section -- KGaussLaw
set_option linter.unusedVariables false
set_option linter.unusedSimpArgs false
namespace Go.Proofs.Ytihfncjpfgdhoaa.K
open Go.RowKit Go.Proofs.YtihfncjpfgdhoaaW.PrintWords Go.Proofs.YtihfncjpfgdhoaaW.PrintLast Go.Proofs.YtihfncjpfgdhoaaW.PrintMore Go.Proofs.Ytihfncjpfgdhoaa.PA Go.Proofs.Ytihfncjpfgdhoaa.PE Go.Proofs.Ytihfncjpfgdhoaa.PK

/-! ### Gauss words -/
def isGaussL (w h s : List Int) : Bool := isWordL w && (decide (h.length = w.length / 2) && (decide (s.length = w.length / 2) && (h.all isHeadB && s.all isSignB)))
theorem inB_l01In (x a b : Int) : spec_l01In.f x a b = some (inB x a b) := by
  unfold spec_l01In.f inB
  by_cases h : x ≥ a
  · rw [if_pos h]; simp [show a ≤ x from h]
  · rw [if_neg h]; simp [show ¬ a ≤ x from h]
theorem specGauss_l0 (w h s : List Int) (n : Nat) (hh : h.length = n) (hs : s.length = n) (hn : n ≤ 4096) (d : Nat) : ∀ i : Nat, n - i = d → i ≤ n → ∃ k, spec_l07Is.l0 k n i w h s = some ((h.drop i).all isHeadB && (s.drop i).all isSignB) := by
  induction d with
  | zero =>
    intro i hd hi
    refine ⟨1, ?_⟩
    simp only [spec_l07Is.l0]
    rw [if_neg (by omega), List.drop_of_length_le (by omega), List.drop_of_length_le (by omega)]
    rfl
  | succ d ih =>
    intro i hd hi
    obtain ⟨k, hk⟩ := ih (i + 1) (by omega) (by omega)
    refine ⟨k + 1, ?_⟩
    simp only [spec_l07Is.l0]
    rw [if_pos (by omega), if_pos (by omega), if_pos (by omega), inB_l01In, drop_at h i (by omega), drop_at s i (by omega), List.all_cons, List.all_cons, wrap_id (by omega) (by omega)]
    simp only [Option.bind_some]
    by_cases h1 : inB (rd h i) 0 1 = true
    · have h1' : isHeadB (rd h i) = true := h1
      rw [if_pos h1, if_pos (by omega), h1']
      by_cases h2 : rd s i = 1
      · have h2' : isSignB (rd s i) = true := by unfold isSignB; rw [h2]; rfl
        rw [if_pos h2, h2', show ((i : Int) + 1) = ((i + 1 : Nat) : Int) by omega, hk]
        simp
      · rw [if_neg h2]
        by_cases h3 : rd s i = -1
        · have h2' : isSignB (rd s i) = true := by unfold isSignB; rw [h3]; rfl
          rw [if_pos h3, h2', show ((i : Int) + 1) = ((i + 1 : Nat) : Int) by omega, hk]
          simp
        · have h2' : isSignB (rd s i) = false := by unfold isSignB; simp [h2, h3]
          rw [if_neg h3, h2']
          simp
    · have h1' : isHeadB (rd h i) = false := Bool.eq_false_iff.mpr h1
      rw [if_neg h1, h1']
      simp
theorem ev_specGauss (w h s : List Int) (hhl : h.length ≤ 281474976710656) (hsl : s.length ≤ 281474976710656) : Ev (fun k => spec_l07Is.f k w h s) (isGaussL w h s) := by
  unfold spec_l07Is.f isGaussL
  refine Ev.bind (ev_specIs w) ?_
  have hno : ∀ (x3 : Int), Ev (fun k => spec_l07Is.j0 k x3 true w h s) false := fun x3 => Ev.step (fun n => by rw [spec_l07Is.j0]) (ev_pos rfl (ev_some _))
  refine ev_if (fun hw => ?_) (fun hw => ?_)
  · have h12 : w.length ≤ 12 := by
      unfold isWordL at hw
      simp only [Bool.and_eq_true, decide_eq_true_eq] at hw
      exact hw.1
    have hc : ((w.length : Int) / 2) = ((w.length / 2 : Nat) : Int) := by omega
    rw [hw, Bool.true_and, hc, wrap_id (by omega) (by omega)]
    refine ev_if (fun h1 => ?_) (fun h1 => ?_)
    · rw [show decide (h.length = w.length / 2) = true from decide_eq_true (by omega), Bool.true_and]
      refine Ev.step (fun n => by rw [spec_l07Is.j0]) ?_
      refine ev_if (fun h2 => ?_) (fun h2 => ?_)
      · have : (s.length : Int) ≠ ((w.length / 2 : Nat) : Int) := by simpa using h2
        rw [show decide (s.length = w.length / 2) = false from decide_eq_false (by omega)]
        exact ev_some _
      · have : (s.length : Int) = ((w.length / 2 : Nat) : Int) := by simpa using h2
        rw [show decide (s.length = w.length / 2) = true from decide_eq_true (by omega), Bool.true_and]
        obtain ⟨k, hk⟩ := specGauss_l0 w h s (w.length / 2) (by omega) (by omega) (by omega) (w.length / 2) 0 (by omega) (by omega)
        exact ev_of (fun k => (spec_l07Is.mono_l k).2 _ _ _ _ _) ⟨k, by simpa using hk⟩
    · rw [show decide (h.length = w.length / 2) = false from decide_eq_false (by omega), Bool.false_and]
      exact hno _
  · rw [Bool.eq_false_iff.mpr hw, Bool.false_and]
    exact hno _
theorem all_not_any (l : List Int) (p : Int → Bool) : (!l.any fun x => !p x) = l.all p := by
  induction l with
  | nil => rfl
  | cons x r ih => simp only [List.any_cons, List.all_cons, Bool.not_or, Bool.not_not, ih]
theorem ev_isGauss (w h s : List Int) (h64 : Ok64 w) : Ev (fun k => impl_IsGauss.f k w h s) (isGaussL w h s) := by
  unfold impl_IsGauss.f isGaussL
  refine Ev.bind (ev_isWord w h64) ?_
  have hno : Ev (fun k => impl_IsGauss.j0 k true w h s) false := Ev.step (fun n => by rw [impl_IsGauss.j0]) (ev_pos rfl (ev_some _))
  refine ev_if (fun hw => ?_) (fun hw => ?_)
  · have h12 : w.length ≤ 12 := by
      unfold isWordL at hw
      simp only [Bool.and_eq_true, decide_eq_true_eq] at hw
      exact hw.1
    have hc : ((w.length : Int) / 2) = ((w.length / 2 : Nat) : Int) := by omega
    have hch : impl_chords.f w = some ((w.length / 2 : Nat) : Int) := by
      unfold impl_chords.f
      rw [hc, wrap_id (by omega) (by omega)]
    rw [hw, Bool.true_and]
    refine ev_const hch ?_
    refine ev_if (fun h1 => ?_) (fun h1 => ?_)
    · rw [show decide (h.length = w.length / 2) = true from decide_eq_true (by omega), Bool.true_and]
      refine ev_const hch ?_
      refine Ev.step (fun n => by rw [impl_IsGauss.j0]) ?_
      refine ev_if (fun h2 => ?_) (fun h2 => ?_)
      · have : (s.length : Int) ≠ ((w.length / 2 : Nat) : Int) := by simpa using h2
        rw [show decide (s.length = w.length / 2) = false from decide_eq_false (by omega)]
        exact ev_some _
      · have : (s.length : Int) = ((w.length / 2 : Nat) : Int) := by simpa using h2
        rw [show decide (s.length = w.length / 2) = true from decide_eq_true (by omega), Bool.true_and, ← all_not_any h, ← all_not_any s]
        refine ev_const (show anyNoHead.f h = some _ from rfl) ?_
        refine ev_if (fun h3 => ?_) (fun h3 => ?_)
        · rw [h3]; exact ev_some _
        · rw [Bool.eq_false_iff.mpr h3]
          exact ev_const (show anyNoSign.f s = some _ from rfl) (ev_some _)
    · rw [show decide (h.length = w.length / 2) = false from decide_eq_false (by omega), Bool.false_and]
      exact hno
  · rw [Bool.eq_false_iff.mpr hw, Bool.false_and]
    exact hno

/-! ### the order of the numbers met, the renumbering -/
theorem order_l1 (l met : List Int) (i : Nat) (hi : i < l.length) (hl : l.length ≤ 4096) (hm : met.length ≤ l.length) (r : List Int)
    (h1 : rd l i ∈ met → ∃ n, spec_l07Order.l0 n l met ((i : Int) + 1) = some r) (h2 : rd l i ∉ met → ∃ n, spec_l07Order.l0 n l (met ++ [rd l i]) ((i : Int) + 1) = some r) (d : Nat) :
    ∀ j : Nat, met.length - j = d → j ≤ met.length → ∃ n, spec_l07Order.l1 n l met i (decide (rd l i ∈ met.take j)) j = some r := by
  induction d with
  | zero =>
    intro j hd hj
    rw [List.take_of_length_le (by omega)]
    by_cases h : rd l i ∈ met
    · obtain ⟨n, hn⟩ := h1 h
      refine ⟨n + 1, ?_⟩
      simp only [spec_l07Order.l1]
      rw [if_neg (by omega), if_pos (decide_eq_true h), wrap_id (by omega) (by omega)]
      exact hn
    · obtain ⟨n, hn⟩ := h2 h
      refine ⟨n + 1, ?_⟩
      simp only [spec_l07Order.l1]
      rw [if_neg (by omega), if_neg (by simpa using h), if_pos (by omega), if_pos (by omega), if_pos (by omega), wrap_id (by omega) (by omega)]
      exact hn
  | succ d ih =>
    intro j hd hj
    obtain ⟨n, hn⟩ := ih (j + 1) (by omega) (by omega)
    refine ⟨n + 1, ?_⟩
    rw [take_snoc met j (by omega)] at hn
    simp only [spec_l07Order.l1]
    rw [if_pos (by omega), wrap_id (by omega) (by omega)]
    by_cases h : rd l i ∈ met.take j
    · rw [if_pos (decide_eq_true h), show ((j : Int) + 1) = ((j + 1 : Nat) : Int) by omega, ← hn]
      congr 1
      simp [h]
    · rw [if_neg (by simpa using h), if_pos (by omega), if_pos (by omega), if_pos (by omega), show ((j : Int) + 1) = ((j + 1 : Nat) : Int) by omega, ← hn]
      congr 1
      by_cases e : rd met j = rd l i
      · rw [e]; simp
      · have e2 : ¬ rd l i = rd met j := fun h => e h.symm
        simp [e, e2, h]
theorem order_l0 (l : List Int) (hl : l.length ≤ 4096) (d : Nat) : ∀ (met : List Int) (i : Nat), l.length - i = d → i ≤ l.length → met.length ≤ i → ∃ n, spec_l07Order.l0 n l met i = some (metBy met (l.drop i)) := by
  induction d with
  | zero =>
    intro met i hd hi hm
    refine ⟨1, ?_⟩
    simp only [spec_l07Order.l0]
    rw [if_neg (by omega), List.drop_of_length_le (by omega)]
    rfl
  | succ d ih =>
    intro met i hd hi hm
    have hlt : i < l.length := by omega
    have e : metBy met (l.drop i) = metBy (if rd l i ∈ met then met else met ++ [rd l i]) (l.drop (i + 1)) := by
      rw [drop_at l i hlt, ← List.singleton_append, metBy_append, metBy_one]
    obtain ⟨n, hn⟩ := order_l1 l met i hlt hl (by omega) (metBy met (l.drop i)) (fun h => by
        rw [e, if_pos h]
        exact ih met (i + 1) (by omega) (by omega) (by omega)) (fun h => by
        rw [e, if_neg h]
        exact ih (met ++ [rd l i]) (i + 1) (by omega) (by omega) (by simp; omega)) met.length 0 (by omega) (by omega)
    refine ⟨n + 1, ?_⟩
    simp only [spec_l07Order.l0]
    rw [if_pos (by omega)]
    simpa using hn
theorem ev_order (l : List Int) (hl : l.length ≤ 4096) : Ev (fun k => spec_l07Order.f k l) (metBy [] l) := by
  refine ev_of (fun k => spec_l07Order.mono _ _) ?_
  obtain ⟨n, hn⟩ := order_l0 l hl l.length [] 0 (by omega) (by omega) (by simp)
  exact ⟨n, by simpa [spec_l07Order.f] using hn⟩
theorem metBy_mem (l : List Int) : ∀ met, ∀ x ∈ metBy met l, x ∈ met ∨ x ∈ l := by
  induction l with
  | nil => intro met x hx; exact Or.inl hx
  | cons y r ih =>
    intro met x hx
    rw [← List.singleton_append, metBy_append, metBy_one] at hx
    rcases ih _ x hx with h | h
    · split at h
      · exact Or.inl h
      · rcases List.mem_append.mp h with h | h
        · exact Or.inl h
        · exact Or.inr (by simp at h; simp [h])
    · exact Or.inr (List.mem_cons_of_mem _ h)
theorem l07Normal_l0 (hs ss ord N : List Int) (hlen : ord.length ≤ 4096) (hin : ∀ x ∈ ord, 0 ≤ x ∧ x < hs.length ∧ x < ss.length) (d : Nat) : ∀ (i : Nat) (H S : List Int), ord.length - i = d → i ≤ ord.length → H.length = i → S.length = i →
    ∃ n, spec_l07Normal.l0 n hs ss ord i N H S = some (N, H ++ (ord.drop i).map (fun x => rd hs x), S ++ (ord.drop i).map (fun x => rd ss x)) := by
  induction d with
  | zero =>
    intro i H S hd hi hH hS
    refine ⟨1, ?_⟩
    simp only [spec_l07Normal.l0]
    rw [if_neg (by omega), List.drop_of_length_le (by omega)]
    simp
  | succ d ih =>
    intro i H S hd hi hH hS
    have hlt : i < ord.length := by omega
    obtain ⟨h0, h1, h2⟩ := hin _ (rd_mem ord i hlt)
    obtain ⟨n, hn⟩ := ih (i + 1) (H ++ [rd hs (rd ord i)]) (S ++ [rd ss (rd ord i)]) (by omega) (by omega) (by simp; omega) (by simp; omega)
    refine ⟨n + 1, ?_⟩
    simp only [spec_l07Normal.l0]
    rw [if_pos (by omega), if_pos (by omega), if_pos h0, if_pos h1, if_pos (by omega), if_pos h2, if_pos (by omega), wrap_id (by omega) (by omega), drop_at ord i hlt]
    simpa using hn
theorem ev_l07Normal (l hs ss : List Int) (hl : l.length ≤ 4096) (hin : ∀ x ∈ l, 0 ≤ x ∧ x < hs.length ∧ x < ss.length) : Ev (fun k => spec_l07Normal.f k l hs ss) (normalL l, firsts l hs, firsts l ss) := by
  unfold spec_l07Normal.f
  refine Ev.bind (ev_order l hl) (Ev.bind (ev_specNormal l hl) ?_)
  have hml := metBy_length l []
  obtain ⟨n, hn⟩ := l07Normal_l0 hs ss (metBy [] l) (normalL l) (by simp at hml; omega) (fun x hx => hin x (by
    rcases metBy_mem l [] x hx with h | h
    · simp at h
    · exact h)) (metBy [] l).length 0 [] [] (by omega) (by omega) rfl rfl
  refine ev_of (fun k => spec_l07Normal.mono_l k _ _ _ _ _ _ _) ⟨n, ?_⟩
  simpa [firsts] using hn

/-! ### ranges -/
theorem gauss_parts {w h s : List Int} (hg : isGaussL w h s = true) : isWordL w = true ∧ h.length = w.length / 2 ∧ s.length = w.length / 2 := by
  unfold isGaussL at hg
  simp only [Bool.and_eq_true, decide_eq_true_eq] at hg
  exact ⟨hg.1, hg.2.1, hg.2.2.1⟩
theorem word_range {w : List Int} (hw : isWordL w = true) : w.length ≤ 12 ∧ ∀ x ∈ w, 0 ≤ x ∧ x < ((w.length / 2 : Nat) : Int) := by
  unfold isWordL at hw
  simp only [Bool.and_eq_true, decide_eq_true_eq] at hw
  obtain ⟨h12, ht, hn⟩ := hw
  have hN : normFrom [] w = w := hn
  have hr : ∀ y ∈ w, 0 ≤ y ∧ y < ((metBy [] w).length : Int) := by
    intro y hy
    exact normFrom_range w [] y (by rw [hN]; exact hy)
  have hc : ∀ i : Nat, i < (metBy [] w).length → w.count (i : Int) = 2 := by
    intro i hi
    have h5 := normFrom_onto w [] i (by simp) hi
    rw [hN] at h5
    have := List.all_eq_true.mp ht _ h5
    simpa using this
  have := length_of_counts _ w hr hc
  refine ⟨h12, fun x hx => ?_⟩
  have := hr x hx
  omega
theorem firsts_length_le (l hs : List Int) : (firsts l hs).length ≤ l.length := by
  unfold firsts
  rw [List.length_map]
  simpa using metBy_length l []
end Go.Proofs.Ytihfncjpfgdhoaa.K
end -- KGaussLaw

section -- KPlaces
set_option linter.unusedVariables false
set_option linter.unusedSectionVars false
set_option linter.unusedSimpArgs false
namespace Go.Proofs.Ytihfncjpfgdhoaa.K
open Go.RowKit Go.Proofs.YtihfncjpfgdhoaaW.PrintWords Go.Proofs.YtihfncjpfgdhoaaW.PrintLast Go.Proofs.YtihfncjpfgdhoaaW.PrintMore Go.Proofs.Ytihfncjpfgdhoaa.PA

/-- a and b are the places of x. -/
structure Two (l : List Int) (x : Int) (a b : Nat) : Prop where
  ab : a < b
  bl : b < l.length
  ra : rd l a = x
  rb : rd l b = x
  only : ∀ j, j < l.length → rd l j = x → j = a ∨ j = b
theorem rd_append_left (s t : List Int) (j : Nat) (h : j < s.length) : rd (s ++ t) j = rd s j := by
  unfold rd
  rw [Int.toNat_natCast, List.getD_eq_getElem?_getD, List.getD_eq_getElem?_getD, List.getElem?_append_left h]
theorem rd_append_right (s t : List Int) (j : Nat) : rd (s ++ t) ((s.length + j : Nat) : Int) = rd t j := by
  unfold rd
  rw [Int.toNat_natCast, Int.toNat_natCast, List.getD_eq_getElem?_getD, List.getD_eq_getElem?_getD, List.getElem?_append_right (by omega), Nat.add_sub_cancel_left]
theorem rd_cons_zero (x : Int) (t : List Int) : rd (x :: t) ((0 : Nat) : Int) = x := rfl
theorem rd_cons_succ (x : Int) (t : List Int) (j : Nat) : rd (x :: t) ((j + 1 : Nat) : Int) = rd t j := by
  unfold rd
  rw [Int.toNat_natCast, Int.toNat_natCast, List.getD_cons_succ]
theorem rd_not_mem (s : List Int) (x : Int) (h : x ∉ s) (j : Nat) (hj : j < s.length) : rd s j ≠ x := fun e => h (e ▸ rd_mem s j hj)
theorem two_of_count (l : List Int) (x : Int) (h : l.count x = 2) : ∃ a b, Two l x a b := by
  obtain ⟨s, t, rfl, hs⟩ := List.eq_append_cons_of_mem (List.count_pos_iff.mp (show 0 < l.count x by omega))
  have h0 : s.count x = 0 := List.count_eq_zero.mpr hs
  rw [List.count_append, List.count_cons_self, h0] at h
  obtain ⟨s2, t2, rfl, hs2⟩ := List.eq_append_cons_of_mem (List.count_pos_iff.mp (show 0 < t.count x by omega))
  have h1 : s2.count x = 0 := List.count_eq_zero.mpr hs2
  rw [List.count_append, List.count_cons_self, h1] at h
  have ht2 : x ∉ t2 := List.count_eq_zero.mp (by omega)
  refine ⟨s.length, s.length + (s2.length + 1), by omega, by simp, ?_, ?_, fun j hj e => ?_⟩
  · have := rd_append_right s (x :: (s2 ++ x :: t2)) 0
    rw [Nat.add_zero] at this
    rw [this, rd_cons_zero]
  · rw [rd_append_right, rd_cons_succ]
    have := rd_append_right s2 (x :: t2) 0
    rw [Nat.add_zero] at this
    rw [this, rd_cons_zero]
  · rcases Nat.lt_or_ge j s.length with h1 | h1
    · rw [rd_append_left _ _ _ h1] at e
      exact absurd e (rd_not_mem s x hs j h1)
    · obtain ⟨k, rfl⟩ : ∃ k, j = s.length + k := ⟨j - s.length, by omega⟩
      rw [rd_append_right] at e
      match k with
      | 0 => exact Or.inl rfl
      | k + 1 =>
        rw [rd_cons_succ] at e
        right
        rcases Nat.lt_or_ge k s2.length with h2 | h2
        · rw [rd_append_left _ _ _ h2] at e
          exact absurd e (rd_not_mem s2 x hs2 k h2)
        · obtain ⟨u, rfl⟩ : ∃ u, k = s2.length + u := ⟨k - s2.length, by omega⟩
          rw [rd_append_right] at e
          match u with
          | 0 => omega
          | u + 1 =>
            rw [rd_cons_succ] at e
            simp only [List.length_append, List.length_cons] at hj
            exact absurd e (rd_not_mem t2 x ht2 u (by omega))

/-! ### mates -/
section
variable {l : List Int} {n : Nat} (hw : Word l n)
include hw
end

/-! ### places -/
theorem index_l0 (l : List Int) (x : Int) (p : Nat) (hp : p < l.length) (hx : rd l p = x) (hmin : ∀ j, j < p → rd l j ≠ x) (hl : l.length ≤ 4096) (d : Nat) : ∀ i : Nat, p - i = d → i ≤ p → ∃ n, slices_Index_int64_int64.l0 n l x l.length i = some (p : Int) := by
  induction d with
  | zero =>
    intro i hd hi
    obtain rfl : i = p := by omega
    refine ⟨1, ?_⟩
    simp only [slices_Index_int64_int64.l0]
    rw [if_pos (by omega), if_pos (by omega), if_pos (by omega), if_pos hx.symm]
  | succ d ih =>
    intro i hd hi
    obtain ⟨n, hn⟩ := ih (i + 1) (by omega) (by omega)
    refine ⟨n + 1, ?_⟩
    simp only [slices_Index_int64_int64.l0]
    rw [if_pos (by omega), if_pos (by omega), if_pos (by omega), if_neg (fun e => hmin i (by omega) e.symm), wrap_id (by omega) (by omega)]
    exact hn
theorem ev_index (l : List Int) (x : Int) (p : Nat) (hp : p < l.length) (hx : rd l p = x) (hmin : ∀ j, j < p → rd l j ≠ x) (hl : l.length ≤ 4096) : Ev (fun k => slices_Index_int64_int64.f k l x) (p : Int) := by
  refine ev_of (fun k => slices_Index_int64_int64.mono _ _ _) ?_
  obtain ⟨n, hn⟩ := index_l0 l x p hp hx hmin hl p 0 (by omega) (by omega)
  exact ⟨n, by simpa [slices_Index_int64_int64.f] using hn⟩
theorem rd_drop (l : List Int) (a j : Nat) : rd (l.drop a) j = rd l ((a + j : Nat) : Int) := by
  unfold rd
  rw [Int.toNat_natCast, Int.toNat_natCast, List.getD_eq_getElem?_getD, List.getD_eq_getElem?_getD, List.getElem?_drop]
theorem ev_places (l : List Int) (x : Int) (a b : Nat) (ht : Two l x a b) (hl : l.length ≤ 4096) : Ev (fun k => impl_places.f k l x) ((a : Int), (b : Int)) := by
  have hab := ht.ab
  have hbl := ht.bl
  unfold impl_places.f
  refine Ev.bind (ev_index l x a (by omega) ht.ra (fun j hj e => by
    rcases ht.only j (by omega) e with h | h <;> omega) hl) ?_
  rw [wrap_id (x := (a : Int) + 1) (by omega) (by omega)]
  refine ev_pos (by omega) (ev_pos (by omega) ?_)
  rw [show ((a : Int) + 1).toNat = a + 1 by omega]
  refine Ev.bind (ev_index (l.drop (a + 1)) x (b - a - 1) (by rw [List.length_drop]; omega) (by rw [rd_drop, show a + 1 + (b - a - 1) = b by omega, ht.rb]) (fun j hj e => by
    rw [rd_drop] at e
    rcases ht.only (a + 1 + j) (by omega) e with h | h <;> omega) (by rw [List.length_drop]; omega)) ?_
  rw [wrap_id (by omega) (by omega), show ((a : Int) + 1 + ((b - a - 1 : Nat) : Int)) = (b : Int) by omega]
  exact ev_some _
/-! ### the reference's places -/
theorem specPlaces_l0 (l : List Int) (x : Int) (a b : Nat) (ht : Two l x a b) (hl : l.length ≤ 4096) (d : Nat) : ∀ (j : Nat) (x6 x7 : Int), l.length - j = d → j ≤ l.length →
    ((j ≤ a ∧ x6 = -1 ∧ x7 = -1) ∨ (a < j ∧ j ≤ b ∧ x6 = a) ∨ (b < j ∧ x6 = a ∧ x7 = b)) → ∃ n, spec_l01Places.l0 n l x x6 x7 j = some ((a : Int), (b : Int)) := by
  have hab := ht.ab
  have hbl := ht.bl
  induction d with
  | zero =>
    intro j x6 x7 hd hj h
    refine ⟨1, ?_⟩
    simp only [spec_l01Places.l0]
    rw [if_neg (by omega)]
    rcases h with ⟨h, _⟩ | ⟨_, h, _⟩ | ⟨_, h6, h7⟩
    · omega
    · omega
    · rw [h6, h7]
  | succ d ih =>
    intro j x6 x7 hd hj h
    have hlt : j < l.length := by clear h; omega
    have hd1 : l.length - (j + 1) = d := by clear h; omega
    by_cases e : rd l j = x
    · rcases ht.only j hlt e with e2 | e2
      · obtain ⟨n, hn⟩ := ih (j + 1) j j hd1 hlt (Or.inr (Or.inl ⟨by omega, by omega, by omega⟩))
        refine ⟨n + 1, ?_⟩
        simp only [spec_l01Places.l0]
        rw [if_pos (by clear h; omega), if_pos (by clear h; omega), if_pos e, if_pos (by rcases h with ⟨_, h, _⟩ | ⟨h, _⟩ | ⟨h, _⟩ <;> omega), wrap_id (by clear h; omega) (by clear h; omega)]
        exact hn
      · obtain ⟨n, hn⟩ := ih (j + 1) a j hd1 hlt (Or.inr (Or.inr ⟨by omega, rfl, by omega⟩))
        have h6 : x6 = a := by rcases h with ⟨h, _⟩ | ⟨_, _, h⟩ | ⟨h, _⟩ <;> omega
        refine ⟨n + 1, ?_⟩
        simp only [spec_l01Places.l0]
        rw [if_pos (by clear h; omega), if_pos (by clear h; omega), if_pos e, if_neg (by clear h; omega), wrap_id (by clear h; omega) (by clear h; omega), h6]
        exact hn
    · have hja : j ≠ a := fun e2 => e (by rw [e2, ht.ra])
      have hjb : j ≠ b := fun e2 => e (by rw [e2, ht.rb])
      obtain ⟨n, hn⟩ := ih (j + 1) x6 x7 hd1 hlt (by
        rcases h with ⟨h, h6, h7⟩ | ⟨h1, h2, h6⟩ | ⟨h, h6, h7⟩
        · exact Or.inl ⟨by omega, h6, h7⟩
        · exact Or.inr (Or.inl ⟨by omega, by omega, h6⟩)
        · exact Or.inr (Or.inr ⟨by omega, h6, h7⟩))
      refine ⟨n + 1, ?_⟩
      simp only [spec_l01Places.l0]
      rw [if_pos (by clear h; omega), if_pos (by clear h; omega), if_neg e, wrap_id (by clear h; omega) (by clear h; omega)]
      exact hn
theorem ev_specPlaces (l : List Int) (x : Int) (a b : Nat) (ht : Two l x a b) (hl : l.length ≤ 4096) : Ev (fun k => spec_l01Places.f k l x) ((a : Int), (b : Int)) := by
  refine ev_of (fun k => spec_l01Places.mono _ _ _) ?_
  obtain ⟨n, hn⟩ := specPlaces_l0 l x a b ht hl l.length 0 (-1) (-1) (by omega) (by omega) (Or.inl ⟨by omega, rfl, rfl⟩)
  exact ⟨n, by simpa [spec_l01Places.f] using hn⟩

end Go.Proofs.Ytihfncjpfgdhoaa.K
end -- KPlaces

section -- KWithout
set_option linter.unusedVariables false
set_option linter.unusedSimpArgs false
namespace Go.Proofs.Ytihfncjpfgdhoaa.K
open Go.RowKit Go.Proofs.YtihfncjpfgdhoaaW.PrintWords Go.Proofs.YtihfncjpfgdhoaaW.PrintLast Go.Proofs.YtihfncjpfgdhoaaW.PrintMore Go.Proofs.Ytihfncjpfgdhoaa.PA Go.Proofs.Ytihfncjpfgdhoaa.PE Go.Proofs.Ytihfncjpfgdhoaa.PK

theorem without_l1 (w h s cs out : List Int) (i : Nat) (hi : i < w.length) (hl : w.length ≤ 4096) (ho : out.length ≤ i) (hcs : cs.length ≤ 4096) (r : List Int × List Int × List Int)
    (hyes : rd w i ∈ cs → Ev (fun k => spec_l07Without.l0 k cs out ((i : Int) + 1) w h s) r)
    (hno : rd w i ∉ cs → Ev (fun k => spec_l07Without.l0 k cs (out ++ [rd w i]) ((i : Int) + 1) w h s) r) (d : Nat) :
    ∀ (j : Nat) (b : Bool), cs.length - j = d → j ≤ cs.length → (b = true ↔ rd w i ∈ cs.take j) → Ev (fun k => spec_l07Without.l1 k cs out i b j w h s) r := by
  induction d with
  | zero =>
    intro j b hd hj hb
    rw [List.take_of_length_le (by omega)] at hb
    refine Ev.step (fun k => by rw [spec_l07Without.l1]) (ev_neg (by omega) ?_)
    by_cases h : rd w i ∈ cs
    · refine ev_pos (hb.mpr h) ?_
      rw [wrap_id (by omega) (by omega)]
      exact hyes h
    · refine ev_neg (fun e => h (hb.mp e)) (ev_pos (by omega) (ev_pos (by omega) (ev_pos (by omega) ?_)))
      rw [wrap_id (by omega) (by omega)]
      exact hno h
  | succ d ih =>
    intro j b hd hj hb
    have hlt : j < cs.length := by omega
    have ht := take_snoc cs j hlt
    refine Ev.step (fun k => by rw [spec_l07Without.l1]) (ev_pos (by omega) ?_)
    rw [wrap_id (x := (j : Int) + 1) (by omega) (by omega)]
    by_cases hbt : b = true
    · refine ev_pos hbt (ih (j + 1) true (by omega) (by omega) ?_)
      rw [ht]
      simp [hb.mp hbt]
    · refine ev_neg hbt (ev_pos (by omega) (ev_pos (by omega) (ev_pos (by omega) (ih (j + 1) _ (by omega) (by omega) ?_))))
      rw [ht]
      have : rd w i ∉ cs.take j := fun e => hbt (hb.mpr e)
      simp [this]
theorem without_l0 (w h s cs : List Int) (hl : w.length ≤ 4096) (hcs : cs.length ≤ 4096) (hin : ∀ x ∈ w, 0 ≤ x ∧ x < h.length ∧ x < s.length) (d : Nat) : ∀ (i : Nat) (out : List Int), w.length - i = d → i ≤ w.length → out = (w.take i).filter (fun x => !decide (x ∈ cs)) →
    Ev (fun k => spec_l07Without.l0 k cs out i w h s) (normalL (w.filter fun x => !decide (x ∈ cs)), firsts (w.filter fun x => !decide (x ∈ cs)) h, firsts (w.filter fun x => !decide (x ∈ cs)) s) := by
  induction d with
  | zero =>
    intro i out hd hi ho
    rw [List.take_of_length_le (by omega)] at ho
    subst ho
    refine Ev.step (fun k => by rw [spec_l07Without.l0]) (ev_neg (by omega) ?_)
    refine Ev.bind (ev_l07Normal _ h s (Nat.le_trans (List.length_filter_le _ _) hl) (fun x hx => hin x (List.mem_filter.mp hx).1)) (ev_some _)
  | succ d ih =>
    intro i out hd hi ho
    have hlt : i < w.length := by omega
    have ht := take_snoc w i hlt
    have hol : out.length ≤ i := by rw [ho]; exact Nat.le_trans (List.length_filter_le _ _) (List.length_take_le _ _)
    refine Ev.step (fun k => by rw [spec_l07Without.l0]) (ev_pos (by omega) ?_)
    refine without_l1 w h s cs out i hlt hl hol hcs _ (fun h1 => ?_) (fun h1 => ?_) cs.length 0 false (by omega) (by omega) (by simp)
    · exact ih (i + 1) out (by omega) (by omega) (by rw [ht, List.filter_append, ho]; simp [h1])
    · exact ih (i + 1) _ (by omega) (by omega) (by rw [ht, List.filter_append, ho]; simp [h1])
theorem ev_without (w h s cs : List Int) (hl : w.length ≤ 4096) (hcs : cs.length ≤ 4096) (hin : ∀ x ∈ w, 0 ≤ x ∧ x < h.length ∧ x < s.length) :
    Ev (fun k => spec_l07Without.f k w h s cs) (normalL (w.filter fun x => !decide (x ∈ cs)), firsts (w.filter fun x => !decide (x ∈ cs)) h, firsts (w.filter fun x => !decide (x ∈ cs)) s) := by
  unfold spec_l07Without.f
  exact without_l0 w h s cs hl hcs hin w.length 0 [] (by omega) (by omega) (by simp)
theorem chord_l0 (w h s cs : List Int) (hs : s.length ≤ 4096) (hcs : cs.length ≤ 4096) (d : Nat) : ∀ j : Nat, cs.length - j = d → j ≤ cs.length →
    Ev (fun k => spec_l07Chord.l0 k cs j w h s) (if (cs.drop j).all (fun i => inB i 0 ((s.length : Int) - 1)) then 0 else 2) := by
  induction d with
  | zero =>
    intro j hd hj
    rw [List.drop_of_length_le (by omega)]
    refine Ev.step (fun k => by rw [spec_l07Chord.l0]) ?_
    exact ev_neg (by omega) (ev_some _)
  | succ d ih =>
    intro j hd hj
    have hlt : j < cs.length := by omega
    rw [drop_at cs j hlt]
    refine Ev.step (fun k => by rw [spec_l07Chord.l0]) (ev_pos (by omega) (ev_pos (by omega) ?_))
    rw [wrap_id (x := (s.length : Int) - 1) (by omega) (by omega), wrap_id (x := (j : Int) + 1) (by omega) (by omega)]
    refine ev_const (inB_l01In _ _ _) ?_
    rw [List.all_cons]
    refine ev_if (fun h1 => ?_) (fun h1 => ?_)
    · rw [h1, Bool.true_and]; exact ih (j + 1) (by omega) (by omega)
    · rw [Bool.eq_false_iff.mpr h1, Bool.false_and]; exact ev_some _
theorem ev_chord (w h s cs : List Int) (hhl : h.length ≤ 1048576) (hsl : s.length ≤ 1048576) (hcs : cs.length ≤ 4096) :
    Ev (fun k => spec_l07Chord.f k w h s cs) (if isGaussL w h s then (if cs.all (fun i => inB i 0 ((s.length : Int) - 1)) then 0 else 2) else 1) := by
  unfold spec_l07Chord.f
  refine Ev.bind (ev_specGauss w h s (by omega) (by omega)) ?_
  cases hg : isGaussL w h s with
  | false => exact ev_neg (by simp) (ev_some _)
  | true =>
    obtain ⟨hw, hh, hs⟩ := gauss_parts hg
    obtain ⟨h12, hr⟩ := word_range hw
    refine ev_pos rfl ?_
    have := chord_l0 w h s cs (by omega) hcs cs.length 0 (by omega) (by omega)
    simpa using this
/-- isChord of the program. -/
theorem isChord_some (w : List Int) (i : Int) (hl : w.length ≤ 1048576) : impl_isChord.f w i = some (inB i 0 (((w.length / 2 : Nat) : Int) - 1)) := by
  unfold impl_isChord.f impl_chords.f
  have h2 : (w.length : Int) / 2 = ((w.length / 2 : Nat) : Int) := by omega
  simp only [Option.bind_some]
  rw [wrap_id (x := (w.length : Int) / 2) (by omega) (by omega), wrap_id (by omega) (by omega), h2]
  unfold impl_in.f inB
  by_cases h : i ≥ 0
  · rw [if_pos h, decide_eq_true (show (0 : Int) ≤ i from h)]; simp
  · rw [if_neg h, decide_eq_false (show ¬ (0 : Int) ≤ i from h)]; simp
/-- The places of a chord of a Gauss word. -/
theorem gauss_two {w h s : List Int} (hg : isGaussL w h s = true) {i : Int} (hi : inB i 0 (((w.length / 2 : Nat) : Int) - 1) = true) : ∃ a b, Two w i a b := by
  obtain ⟨hw, hh, hs⟩ := gauss_parts hg
  obtain ⟨n, hn⟩ := word_of w hw
  have hlen := hn.len
  unfold inB at hi
  simp only [Bool.and_eq_true, decide_eq_true_eq] at hi
  obtain ⟨j, rfl⟩ : ∃ j : Nat, i = j := ⟨i.toNat, by omega⟩
  exact two_of_count w j (hn.two j (by omega))
end Go.Proofs.Ytihfncjpfgdhoaa.K
end -- KWithout

section -- KDelete
set_option linter.unusedVariables false
set_option linter.unusedSimpArgs false
namespace Go.Proofs.Ytihfncjpfgdhoaa.K
open Go.RowKit Go.Proofs.YtihfncjpfgdhoaaW.PrintWords Go.Proofs.YtihfncjpfgdhoaaW.PrintLast Go.Proofs.YtihfncjpfgdhoaaW.PrintMore

theorem zero_i64' (w : World) : (zeroValue 2).run Try.prog w = .ok (.int .i64 0) w := by kernel_rfl
/-- Noughts laid over the tail: what stands ahead of it stays. -/
theorem cleared {base g cap n : Nat} {ok : Nat → Prop} (m : Nat) : ∀ (i : Nat) (W : World) (cur : List Int), RI W base ok (.slice (some ⟨g, 0, none⟩) n cap) cur → cur.length = n → i + m = n →
    ∃ cur', RI (W.setCells g i (List.replicate m (.int .i64 0))) base ok (.slice (some ⟨g, 0, none⟩) n cap) cur' ∧ cur'.length = n ∧ cur'.take i = cur.take i ∧ W.grownBy (W.setCells g i (List.replicate m (.int .i64 0))) (some g) := by
  induction m with
  | zero => intro i W cur h hl _; exact ⟨cur, h, hl, rfl, World.grownBy.refl _ _⟩
  | succ m ih =>
    intro i W cur h hl him
    obtain ⟨h2, hg⟩ := Kd.R_putg h (i : Int) (0 : Int)
    rw [Int.toNat_natCast] at h2 hg
    obtain ⟨cur', h3, h4, h5, h6⟩ := ih (i + 1) _ _ h2 (by simpa using hl) (by omega)
    refine ⟨cur', h3, h4, ?_, hg.trans h6⟩
    have := congrArg (List.take i) h5
    rw [List.take_take, List.take_take, Nat.min_eq_left (Nat.le_succ i), List.take_set_of_le (Nat.le_refl _)] at this
    exact this
theorem filter_take_snoc (p : Int → Bool) (l : List Int) (j : Nat) (h : j < l.length) : (l.take (j + 1)).filter p = (l.take j).filter p ++ (if p (rd l j) then [rd l j] else []) := by
  have e : rd l j = l[j] := by unfold rd; rw [Int.toNat_natCast, List.getD_eq_getElem?_getD, List.getElem?_eq_getElem h]; rfl
  rw [List.take_succ_eq_append_getElem h, List.filter_append, e]
  congr 1
  cases hp : p l[j] <;> simp [hp]
theorem rd_set_ne (l : List Int) (i j : Nat) (v : Int) (h : i ≠ j) : rd (l.set i v) j = rd l j := by
  unfold rd
  rw [Int.toNat_natCast, List.getD_eq_getElem?_getD, List.getElem?_set, if_neg h, List.getD_eq_getElem?_getD]
/-- What the loop holds: i kept, j looked at. -/
structure Del (W0 W : World) (base g cap n : Nat) (ok : Nat → Prop) (p : Int → Bool) (l cur : List Int) (i j : Nat) : Prop where
  row : RI W base ok (.slice (some ⟨g, 0, none⟩) n cap) cur
  len : cur.length = n
  ij : i < j
  jn : j ≤ n
  kept : cur.take i = (l.take j).filter fun x => !p x
  rest : ∀ t, j ≤ t → t < n → rd cur t = rd l t
  grown : W0.grownBy W (some g)
  cnt : i = ((l.take j).filter fun x => !p x).length
theorem Del.miss {W0 W W2 : World} {base g cap n : Nat} {ok : Nat → Prop} {p : Int → Bool} {l cur : List Int} {i j : Nat} (h : Del W0 W base g cap n ok p l cur i j) (hj : j < n) (hn : l.length = n) (hp : p (rd l j) = true) (hb : Below W.heap.size W W2) : Del W0 W2 base g cap n ok p l cur i (j + 1) := by
  have e := filter_take_snoc (fun x => !p x) l j (by omega)
  rw [hp] at e
  simp only [Bool.not_true, Bool.false_eq_true, if_false, List.append_nil] at e
  exact ⟨Kd.R_below h.row hb, h.len, by have := h.ij; omega, by omega, by rw [e]; exact h.kept, fun t h1 h2 => h.rest t (by omega) h2, h.grown.trans (grown_of_below hb _), by rw [e]; exact h.cnt⟩
theorem Del.hit {W0 W W2 W3 : World} {base g cap n : Nat} {ok : Nat → Prop} {p : Int → Bool} {l cur : List Int} {i j : Nat} (h : Del W0 W base g cap n ok p l cur i j) (hj : j < n) (hn : l.length = n) (hp : p (rd l j) = false) (hb : Below W.heap.size W W2)
    (hr : RI W3 base ok (.slice (some ⟨g, 0, none⟩) n cap) (cur.set i (rd l j))) (hg : W2.grownBy W3 (some g)) : Del W0 W3 base g cap n ok p l (cur.set i (rd l j)) (i + 1) (j + 1) := by
  have e := filter_take_snoc (fun x => !p x) l j (by omega)
  rw [hp] at e
  simp only [Bool.not_false, if_true] at e
  have hij := h.ij
  refine ⟨hr, by simpa using h.len, by omega, by omega, ?_, fun t h1 h2 => ?_, (h.grown.trans (grown_of_below hb _)).trans hg, by rw [e, List.length_append, ← h.cnt]; rfl⟩
  · rw [e, ← h.kept, List.take_succ_eq_append_getElem (by simp [h.len]; omega), List.take_set_of_le (Nat.le_refl _)]
    simp
  · rw [rd_set_ne _ _ _ _ (by omega)]
    exact h.rest t (by omega) h2

set_option maxHeartbeats 2000000 in
set_option maxRecDepth 100000 in
theorem c_deleteFunc (w : World) (base g cap : Nat) (ok : Nat → Prop) (l : List Int) (fv : Value) (p : Int → Bool) (hO : RI w base ok (.slice (some ⟨g, 0, none⟩) l.length cap) l) (hl : l.length < 1099511627776) (hcap : l.length ≤ cap)
    (hp : ∀ x ∈ l, ∀ w1, w.grownBy w1 (some g) → Runs Try.prog fv #[.int .i64 x] w1 fun e w2 => e = .returned (.bool (p x)) ∧ Below w1.heap.size w1 w2) :
    Calls Try.prog 101 #[.slice (some ⟨g, 0, none⟩) l.length cap, fv] w fun e w' => ∃ n, e = .returned (.slice (some ⟨g, 0, none⟩) n cap) ∧ RI w' base ok (.slice (some ⟨g, 0, none⟩) n cap) (l.filter fun x => !p x) ∧ w.grownBy w' (some g) := by
  have HO := Aside0.mk hO
  have HP := Aside0.mk hp
  have HX := Aside0.mk (indexFunc step_bel (some ⟨g, 0, none⟩) cap l fv p w (Kd.R_reads' hO).2.2 (fun x hx w1 hw1 => (hp x hx w1 (grown_of_below hw1.out _)).mono fun e w2 hh => ⟨hh.1, ⟨hh.2⟩⟩))
  clear hO hp
  cases hk : l.findIdx? p with
  | none =>
    have hi : idxFrom p l 0 = -1 := by unfold idxFrom; rw [hk]
    have HF : Aside0 (l.filter (fun x => !p x) = l) := ⟨by
      rw [List.findIdx?_eq_none_iff] at hk
      rw [List.filter_eq_self]
      intro x hx
      simp [hk x hx]⟩
    rw [hi] at HX
    clear hi hk
    go_enter Try.func101, Try.ntmps101
    go_wp2_with (first | (go_at_call 122; refine HX.out.mono ?_; rintro e w1 ⟨rfl, hb1⟩; have HB := Aside0.mk hb1; clear hb1))
    go_ret
    exact ⟨_, rfl, by rw [HF.out]; exact Kd.R_below HO.out HB.out.out, grown_of_below HB.out.out _⟩
  | some k0 =>
    have hi : idxFrom p l 0 = (k0 : Int) := by unfold idxFrom; rw [hk]; simp
    rw [List.findIdx?_eq_some_iff_getElem] at hk
    obtain ⟨hk1, hk2, hk3⟩ := hk
    have HD0 : Aside0 (∀ W, Below w.heap.size w W → Del w W base g cap l.length ok p l l k0 (k0 + 1)) := ⟨fun W hb => by
      have hf : (l.take k0).filter (fun x => !p x) = l.take k0 := by
        rw [List.filter_eq_self]
        intro x hx
        obtain ⟨t, ht, rfl⟩ := List.getElem_of_mem hx
        have ht2 : t < k0 := by rw [List.length_take] at ht; omega
        rw [List.getElem_take]
        have := hk3 t ht2
        simpa using this
      have e : rd l k0 = l[k0] := by unfold rd; rw [Int.toNat_natCast, List.getD_eq_getElem?_getD, List.getElem?_eq_getElem hk1]; rfl
      have e2 := filter_take_snoc (fun x => !p x) l k0 hk1
      rw [e, hk2, hf] at e2
      simp only [Bool.not_true, Bool.false_eq_true, if_false, List.append_nil] at e2
      exact ⟨Kd.R_below HO.out hb, rfl, by omega, by omega, by rw [e2], fun _ _ _ => rfl, grown_of_below hb _, by rw [e2, List.length_take]; omega⟩⟩
    rw [hi] at HX
    clear hi hk2 hk3
    go_enter Try.func101, Try.ntmps101
    go_wp2_with (first | (go_at_call 122; refine HX.out.mono ?_; rintro e w1 ⟨rfl, hb1⟩; have HB := Aside0.mk hb1; clear hb1))
    go_loopw [5, 6] (fun i j wr => ∃ (iN jN : Nat), iN < jN ∧ jN ≤ l.length ∧ i = .int .i64 (iN : Int) ∧ j = .int .i64 (jN : Int) ∧ Aside0 (∃ cur, Del w wr base g cap l.length ok p l cur iN jN)) (fun _ j _ => l.length - (intOf j).toNat)
    case atStart => exact ⟨k0, k0 + 1, by omega, by omega, rfl, by go_num, ⟨l, HD0.out _ HB.out.out⟩⟩
    case round =>
      clear HB HD0 HX HO hk1
      obtain ⟨i, j, hij, hjn, rfl, rfl, ⟨cur, hd⟩⟩ := hrel
      have HD := Aside0.mk hd
      clear hd
      by_cases hlt : j < l.length
      · have hlen := HD.out.len
        obtain ⟨ad, hA, hc⟩ := Kd.at_int (Kd.R_reads' HD.out.row).2.2 j (by omega) (by omega)
        obtain rfl := Option.some.inj hA
        rw [add_plain, HD.out.rest j (Nat.le_refl _) hlt, Int.toNat_natCast] at hc
        obtain ⟨x, hx⟩ : ∃ x, x = rd l j := ⟨_, rfl⟩
        have hrun := Aside0.mk (HP.out x (by rw [hx]; exact rd_mem l j hlt) wr HD.out.grown)
        rw [← hx] at hc
        have HXX := Aside0.mk hx
        clear hx
        cases hpx : p x with
        | true =>
          rw [hpx] at hrun
          have HPX := Aside0.mk hpx
          clear hpx
          go_wp2_with (first
            | ((with_reducible refine gate_dst (N := 28) rfl ?_); refine goesV (some 28) rfl rfl rfl (fv := fv) rfl #[.int .i64 x] (by (try simp only [List.map_toArray, List.map_cons, List.map_nil]); rfl) ?_; refine hrun.out.mono ?_; rintro e w2 ⟨rfl, h2⟩; refine ⟨_, rfl, ?_⟩; have HD2 := Aside0.mk (HD.out.miss hlt rfl (by rw [← HXX.out]; exact HPX.out) h2); clear h2))
          go_roundw
          case rel => exact ⟨i, j + 1, by omega, by omega, rfl, by go_num, ⟨_, HD2.out⟩⟩
          case measure => simp [intOf]; omega
        | false =>
          rw [hpx] at hrun
          have HPX := Aside0.mk hpx
          clear hpx
          go_wp2_with (first
            | ((with_reducible refine gate_dst (N := 28) rfl ?_); refine goesV (some 28) rfl rfl rfl (fv := fv) rfl #[.int .i64 x] (by (try simp only [List.map_toArray, List.map_cons, List.map_nil]); rfl) ?_; refine hrun.out.mono ?_; rintro e w2 ⟨rfl, h2⟩; refine ⟨_, rfl, ?_⟩; have HB2 := Aside0.mk h2; clear h2)
            | ((with_reducible refine gate_store (t := 2) (p := 33) rfl ?_); refine putI (w0 := _) (base := base) rfl rfl rfl (i : Int) cur x rfl (by rw [Int.toNat_natCast]) rfl (Kd.R_below HD.out.row HB2.out) (by omega) (by omega) (Below.refl _ _) ?_; intro w3 ho3 hb3 hg3; rw [Int.toNat_natCast, HXX.out] at ho3; have HD3 := Aside0.mk (HD.out.hit hlt rfl (by rw [← HXX.out]; exact HPX.out) HB2.out ho3 hg3); clear ho3 hb3 hg3))
          go_roundw
          case rel => exact ⟨i + 1, j + 1, by omega, by omega, by go_num, by go_num, ⟨_, HD3.out⟩⟩
          case measure => simp [intOf]; omega
      · obtain rfl : j = l.length := by omega
        have HCL : Aside0 (∀ ty, (Builtin.clear_ #[22] ty #[.slice (some ⟨g, i, none⟩) (l.length - i) (cap - i)]).run Try.prog wr = .ok (.tuple #[]) (wr.setCells g i (List.replicate (l.length - i) (.int .i64 0)))) := ⟨fun ty => by
          have hcells : ∀ t, t < l.length - i → wr.cell? ⟨g, i + t, none⟩ = some (.int .i64 (rd cur ((i + t : Nat) : Int))) := fun t ht => by
            have hlen := HD.out.len
            obtain ⟨ad, hA, hc⟩ := Kd.at_int (Kd.R_reads' HD.out.row).2.2 ((i + t : Nat) : Int) (by omega) (by omega)
            obtain rfl := Option.some.inj hA
            rw [add_plain, Int.toNat_natCast] at hc
            exact hc
          obtain ⟨cells, hblk⟩ := Kd.R_typed HD.out.row g (by simp [Value.ownBlock])
          exact Go.Lib.run_clear_slice wr _ _ ty _ Try.underlying22 (fun w => zero_i64' w) rfl rfl g i _ _ (by omega) (fun t ht => by rw [hcells t ht]; rfl) (fun t ht => by simp [World.frozen?, hblk])⟩
        obtain ⟨cur', hc1, hc2, hc3, hc4⟩ := cleared (l.length - i) i wr cur HD.out.row HD.out.len (by omega)
        have HQ := Aside0.mk (And.intro hc1 (And.intro hc2 (And.intro hc3 hc4)))
        clear hc1 hc2 hc3 hc4
        have hcl := HCL.out
        have b1 : (i : Int) ≤ (l.length : Int) := by omega
        have b2 : (0 : Int) ≤ (i : Int) := by omega
        go_wp2
        go_ret
        obtain ⟨hc1, hc2, hc3, hc4⟩ := HQ.out
        refine ⟨i, rfl, ?_, HD.out.grown.trans hc4⟩
        have hk := HD.out.kept
        rw [List.take_length] at hk
        rw [← hk, ← hc3]
        exact Kd.R_take hc1 (by omega)

set_option maxRecDepth 100000 in
/-- An empty row: it comes back. -/
theorem c_deleteEmpty (w : World) (A : Option Addr) (cap : Nat) (fv : Value) :
    Calls Try.prog 101 #[.slice A 0 cap, fv] w fun e w' => e = .returned (.slice A 0 cap) ∧ Below w.heap.size w w' := by
  have HX := Aside0.mk (indexFunc step_bel A cap [] fv (fun _ => false) w ⟨rfl, by simp, fun h => absurd h (by simp)⟩ (fun x hx => by simp at hx))
  go_enter Try.func101, Try.ntmps101
  go_wp2_with (first | (go_at_call 122; refine HX.out.mono ?_; rintro e w1 ⟨rfl, hb1⟩; have HB := Aside0.mk hb1; clear hb1))
  go_ret
  exact ⟨rfl, HB.out.out⟩
/-- slices.DeleteFunc at whatever row of the call's own. -/
theorem c_deleteAny (w : World) (base : Nat) (ok : Nat → Prop) (A : Option Addr) (cap : Nat) (l : List Int) (fv : Value) (p : Int → Bool) (hO : RI w base ok (.slice A l.length cap) l) (hl : l.length < 1099511627776)
    (hp : ∀ x ∈ l, ∀ w1, w.grownBy w1 (Value.slice A l.length cap).ownBlock → Runs Try.prog fv #[.int .i64 x] w1 fun e w2 => e = .returned (.bool (p x)) ∧ Below w1.heap.size w1 w2) :
    Calls Try.prog 101 #[.slice A l.length cap, fv] w fun e w' => ∃ n, e = .returned (.slice A n cap) ∧ RI w' base ok (.slice A n cap) (l.filter fun x => !p x) ∧ w.grownBy w' (Value.slice A l.length cap).ownBlock := by
  rcases Nat.eq_zero_or_pos l.length with h0 | h0
  · obtain rfl := List.eq_nil_of_length_eq_zero h0
    refine (c_deleteEmpty w A cap fv).mono ?_
    rintro e w' ⟨rfl, hb⟩
    exact ⟨0, rfl, Kd.R_below hO hb, grown_of_below hb _⟩
  · obtain ⟨g, cap', e, _, _, _⟩ := Kd.R_form hO h0
    injection e with ea _ ec
    subst ea ec
    have hob : (Value.slice (some ⟨g, 0, none⟩) l.length cap).ownBlock = some g := by simp [Value.ownBlock]
    rw [hob] at hp ⊢
    have hcap := (Kd.R_reads' hO).2.1
    exact c_deleteFunc w base g cap ok l fv p hO hl hcap hp
end Go.Proofs.Ytihfncjpfgdhoaa.K
end -- KDelete

section -- KClone
set_option linter.unusedVariables false
set_option linter.unusedSimpArgs false
namespace Go.Proofs.Ytihfncjpfgdhoaa.K
open Go.RowKit Go.Proofs.YtihfncjpfgdhoaaW.PrintWords Go.Proofs.YtihfncjpfgdhoaaW.PrintLast Go.Proofs.YtihfncjpfgdhoaaW.PrintMore

def slices_Clone_int64_int64.f (l0 : List Int) : Option (List Int) := if l0.length < 17592186044416 then some l0 else none
set_option maxHeartbeats 1000000 in
set_option maxRecDepth 100000 in
theorem slices_Clone_int64_int64.calls (A0 : Option Addr) (c0 : Nat) (l0 : List Int) (r : List Int) (w : World) (hr0 : Kd.C (Kd.int .i64) w A0 l0.length l0) (hc0 : l0.length ≤ c0) (h : slices_Clone_int64_int64.f l0 = some r) :
    Calls Try.prog 80 #[.slice A0 l0.length c0] w fun e w' => ∃ v0_ : Value, e = .returned (v0_) ∧ Kd.R (Kd.int .i64) 2 w' w.heap.size (fun _ => True) v0_ r ∧ Below w.heap.size w w' := by
  unfold slices_Clone_int64_int64.f at h
  split at h
  case isFalse => cases h
  rename_i hl
  obtain rfl := Option.some.inj h
  have HR := Aside0.mk hr0
  clear hr0 h
  have q22 : ∀ (w : World) (a : Option Addr) (n c n' c' : Nat), (binOp .eql 22 (.slice a n c) (.slice none n' c')).run Try.prog w = .ok (.bool a.isNone) w := fun w a n c n' c' => Go.Lib.run_eql_slice_nil w _ _ a n c n' c' Try.underlying22
  cases A0 with
  | none =>
    have h0 : l0 = [] := by
      rcases Nat.eq_zero_or_pos l0.length with h0 | h0
      · exact List.eq_nil_of_length_eq_zero h0
      · obtain ⟨ad, h, _⟩ := HR.out.2.2 h0
        cases h
    subst h0
    go_enter Try.func80, Try.ntmps80
    go_wp2
    go_ret
    exact ⟨_, rfl, Kd.R_nil _ _ _ _ _, Below.refl _ _⟩
  | some ad =>
    go_enter Try.func80, Try.ntmps80
    go_wp2_with (first
      | ((with_reducible refine gate_dst (N := 5) rfl ?_); refine lit0 (w0 := w) w.heap.size (ok := fun _ => True) rfl rfl rfl trivial (Below.refl _ _) (Nat.le_refl _) ?_; intro v2 w2 hv hb2 hgr hnew; have HO := Aside0.mk hv; have HB := Aside0.mk hb2; clear hv hb2 hgr hnew)
      | ((with_reducible refine gate_builtin (b := .append) (xs := #[.tmp 5, .tmp 6]) rfl ?_); at_builtin; refine Kd.R_append_rows (Kd.int .i64) (w0 := w) w.heap.size rfl (.tmp 5) (.tmp 6) 22 2 (.int .i64 0) 8 rfl Try.underlying22 info2 rfl (by decide) (by omega) v2 [] l0 _ _ _ (fun _ => True) (fun _ => False) rfl rfl HO.out (Kd.C_below HR.out HB.out) (fun _ _ h => h) (fun _ h => h.elim) (fun _ _ => trivial) HB.out HB.out.size (by simp; omega) ?_; intro v3 w3 ho hb hg hat; have HO3 := Aside0.mk ho; have HB3 := Aside0.mk hb; clear ho hb hg hat HB HO))
    go_ret
    exact ⟨_, rfl, HO3.out, HB3.out⟩
end Go.Proofs.Ytihfncjpfgdhoaa.K
end -- KClone

section -- KLeft
set_option linter.unusedVariables false
set_option linter.unusedSimpArgs false
namespace Go.Proofs.Ytihfncjpfgdhoaa.K
open Go.RowKit Go.Proofs.YtihfncjpfgdhoaaW.PrintWords Go.Proofs.YtihfncjpfgdhoaaW.PrintLast Go.Proofs.YtihfncjpfgdhoaaW.PrintMore

theorem r_left1 (x : Int) (b : Nat) (fv : Value) (r : Bool) (w : World) (hc : w.cell? ⟨b, 0, none⟩ = some fv) (hrun : Runs Try.prog fv #[.int .i64 x] w fun e w' => e = .returned (.bool r) ∧ Below w.heap.size w w') :
    Runs Try.prog (.func (.func 102) #[] #[.pointer (some ⟨b, 0, none⟩)]) #[.int .i64 x] w fun e w' => e = .returned (.bool (!r)) ∧ Below w.heap.size w w' := by
  have HR := Aside0.mk hrun
  clear hrun
  refine ⟨102, _, _, _, rfl, Try.func102, by kernel_rfl, rfl, ?_⟩
  show Calls _ _ #[.int .i64 x, .pointer (some ⟨b, 0, none⟩)] _ _
  go_enter Try.func102, Try.ntmps102
  go_wp2_with (first
    | ((with_reducible refine gate_dst (N := 6) rfl ?_); refine goesV (some 6) rfl rfl rfl (fv := fv) rfl #[.int .i64 x] (by (try simp only [List.map_toArray, List.map_cons, List.map_nil]); rfl) ?_; refine HR.out.mono ?_; rintro e w2 ⟨rfl, h2⟩; refine ⟨_, rfl, ?_⟩; have HB := Aside0.mk h2; clear h2))
  go_ret
  exact ⟨rfl, HB.out⟩
/-- The chord i is not this one. -/
theorem r_RK1 (x i : Int) (b : Nat) (w : World) (hc : w.cell? ⟨b, 0, none⟩ = some (.int .i64 i)) :
    Runs Try.prog (.func (.func 66) #[] #[.pointer (some ⟨b, 0, none⟩)]) #[.int .i64 x] w fun e w' => e = .returned (.bool (x != i)) ∧ Below w.heap.size w w' := by
  refine ⟨66, _, _, _, rfl, Try.func66, by kernel_rfl, rfl, ?_⟩
  show Calls _ _ #[.int .i64 x, .pointer (some ⟨b, 0, none⟩)] _ _
  go_enter Try.func66, Try.ntmps66
  go_wp2
  go_ret
  exact ⟨rfl, Below.refl _ _⟩

set_option maxHeartbeats 2000000 in
set_option maxRecDepth 100000 in
theorem c_left (A0 A1 A2 : Option Addr) (c0 c1 c2 : Nat) (l0 l1 l2 : List Int) (fv : Value) (p : Int → Bool) (w : World) (hl : l0.length < 1099511627776) (h64 : Ok64 l0) (hr0 : CI w A0 l0.length l0) (hc0 : l0.length ≤ c0) (hr1 : CI w A1 l1.length l1) (hr2 : CI w A2 l2.length l2)
    (hin : ∀ x ∈ l0, 0 ≤ x ∧ x < l1.length ∧ x < l2.length) (hfn : fv.oneCell' = true)
    (hp : ∀ x ∈ l0, ∀ w1, Below w.heap.size w w1 → Runs Try.prog fv #[.int .i64 x] w1 fun e w2 => e = .returned (.bool (p x)) ∧ Below w1.heap.size w1 w2) :
    Calls Try.prog 65 #[.agg #[.slice A0 l0.length c0, .slice A1 l1.length c1, .slice A2 l2.length c2], fv] w fun e w' => ∃ v0_ v1_ v2_ : Value, e = .returned (.agg #[v0_, v1_, v2_]) ∧
      RI w' w.heap.size (fun _ => True) v0_ (normalL (l0.filter p)) ∧ RI w' w.heap.size (fun _ => True) v1_ (firsts (l0.filter p) l1) ∧ RI w' w.heap.size (fun _ => True) v2_ (firsts (l0.filter p) l2) ∧ Sep v1_ v0_ ∧ Sep v2_ v0_ ∧ Sep v1_ v2_ ∧ Sep v2_ v1_ ∧ Below w.heap.size w w' := by
  have HC0 := Aside0.mk hc0
  have HL := Aside0.mk hl
  have HCL : Aside0 (slices_Clone_int64_int64.f l0 = some l0) := ⟨by unfold slices_Clone_int64_int64.f; rw [if_pos (by omega)]⟩
  have HLF : Aside0 ((l0.filter p).length < 1099511627776) := ⟨Nat.lt_of_le_of_lt (List.length_filter_le _ _) hl⟩
  have H64 : Aside0 (Ok64 (l0.filter p)) := ⟨fun x hx => h64 x (List.mem_filter.mp hx).1⟩
  have HIN : Aside0 (∀ x ∈ l0.filter p, 0 ≤ x ∧ x < l1.length ∧ x < l2.length) := ⟨fun x hx => hin x (List.mem_filter.mp hx).1⟩
  have NN : (l0.filter fun x => !(fun x => !p x) x) = l0.filter p := by simp
  have BASE : ∀ (W : World) (b : Nat) {v : Value} {l : List Int}, RI W b (fun _ => True) v l → ∀ k, v.ownBlock = some k → b ≤ k := fun W b v l h k hk => by
    rcases Kd.R_base2 h with e | ⟨k2, e, hle⟩
    · rw [e] at hk; cases hk
    · rw [e] at hk; injection hk with hk; omega
  obtain ⟨gb, hgb⟩ : ∃ gb, gb = w.heap.size := ⟨_, rfl⟩
  obtain ⟨gf, hgf⟩ : ∃ gf, gf = w.heap.size + 1 := ⟨_, rfl⟩
  obtain ⟨gr, hgr⟩ : ∃ gr, gr = w.heap.size + 1 + 1 := ⟨_, rfl⟩
  obtain ⟨wb, hwb⟩ : ∃ wb, wb = ((w.alloc (.cells #[.slice A0 l0.length c0, .slice A1 l1.length c1, .slice A2 l2.length c2] 34)).alloc (.cells #[fv] 51)).alloc (.cells #[.slice none 0 0, .slice none 0 0, .slice none 0 0] 34) := ⟨_, rfl⟩
  have HB0 : Below w.heap.size w wb := by rw [hwb]; exact below_alloc (below_alloc (below_alloc (Below.refl _ _) _) _) _
  have s1 : (w.alloc (.cells #[.slice A0 l0.length c0, .slice A1 l1.length c1, .slice A2 l2.length c2] 34)).heap.size = w.heap.size + 1 := by simp
  have s2 : ((w.alloc (.cells #[.slice A0 l0.length c0, .slice A1 l1.length c1, .slice A2 l2.length c2] 34)).alloc (.cells #[fv] 51)).heap.size = w.heap.size + 1 + 1 := by simp
  have b1 : wb.heap[gb]? = some (.cells #[.slice A0 l0.length c0, .slice A1 l1.length c1, .slice A2 l2.length c2] 34 (0, 0)) := by
    have h : Below (w.alloc (.cells #[.slice A0 l0.length c0, .slice A1 l1.length c1, .slice A2 l2.length c2] 34)).heap.size (w.alloc (.cells #[.slice A0 l0.length c0, .slice A1 l1.length c1, .slice A2 l2.length c2] 34)) wb := by rw [hwb]; exact below_alloc (below_alloc (Below.refl _ _) _) _
    rw [h.block gb (by rw [s1, hgb]; omega), hgb]
    exact heap_alloc_new _ _
  have b2 : wb.heap[gf]? = some (.cells #[fv] 51 (0, 0)) := by
    have h : Below ((w.alloc (.cells #[.slice A0 l0.length c0, .slice A1 l1.length c1, .slice A2 l2.length c2] 34)).alloc (.cells #[fv] 51)).heap.size ((w.alloc (.cells #[.slice A0 l0.length c0, .slice A1 l1.length c1, .slice A2 l2.length c2] 34)).alloc (.cells #[fv] 51)) wb := by rw [hwb]; exact below_alloc (Below.refl _ _) _
    rw [h.block gf (by rw [s2, hgf]; omega), hgf, ← s1]
    exact heap_alloc_new _ _
  have b3 : wb.heap[gr]? = some (.cells #[.slice none 0 0, .slice none 0 0, .slice none 0 0] 34 (0, 0)) := by
    rw [hwb, hgr, ← s2]
    exact heap_alloc_new _ _
  have HELD : ∀ W, Below wb.heap.size wb W → W.cell? ⟨gb, 0, none⟩ = some (.slice A0 l0.length c0) ∧ W.cell? ⟨gb, 1, none⟩ = some (.slice A1 l1.length c1) ∧ W.cell? ⟨gb, 2, none⟩ = some (.slice A2 l2.length c2) := fun W h => by
    have hh := blk_below b1 h
    exact ⟨(blk_cell hh 0).trans rfl, (blk_cell hh 1).trans rfl, (blk_cell hh 2).trans rfl⟩
  have BLKR : ∀ W, Below wb.heap.size wb W → W.heap[gr]? = some (.cells #[.slice none 0 0, .slice none 0 0, .slice none 0 0] 34 (0, 0)) := fun W h => blk_below b3 h
  have RD0 : ∀ W, Below wb.heap.size wb W → CI W A0 l0.length l0 := fun W h => Kd.C_below hr0 (below_then HB0 HB0.size h)
  have RD1 : ∀ W, Below wb.heap.size wb W → CI W A1 l1.length l1 := fun W h => Kd.C_below hr1 (below_then HB0 HB0.size h)
  have RD2 : ∀ W, Below wb.heap.size wb W → CI W A2 l2.length l2 := fun W h => Kd.C_below hr2 (below_then HB0 HB0.size h)
  have TEST : ∀ x ∈ l0, ∀ W, Below wb.heap.size wb W → Runs Try.prog (.func (.func 102) #[] #[.pointer (some ⟨gf, 0, none⟩)]) #[.int .i64 x] W fun e w2 => e = .returned (.bool (!p x)) ∧ Below W.heap.size W w2 := fun x hx W h =>
    r_left1 x gf fv (p x) W ((blk_cell (blk_below b2 h) 0).trans rfl) (hp x hx W (below_then HB0 HB0.size h))
  go_enter Try.func65, Try.ntmps65
  go_wp2_with fail
  rw [← hwb, ← hgr, ← hgf, ← hgb]
  have GR := Aside0.mk (show w.heap.size ≤ gr by omega)
  clear hr0 hr1 hr2 hp hc0 h64 hin hwb b1 b2 b3 s1 s2 hgb hgf hgr
  -- REGION 1: laid by gen_left.py
  refine start_ (n := 11) (S := fun w' => w'.cell? ⟨gb, 0, none⟩ = some (.slice A0 l0.length c0) ∧ w'.cell? ⟨gb, 1, none⟩ = some (.slice A1 l1.length c1) ∧ w'.cell? ⟨gb, 2, none⟩ = some (.slice A2 l2.length c2)) (ds := [10]) #[false, false, false, false, false, false, false, false, false, false, false] (by kernel_rfl) rfl rfl (HELD _ (below_drew1 (Below.refl _ _))) (fun hHeld => ?_)
  have HBD := Aside0.mk (below_drew1 (Below.refl wb.heap.size wb))
  generalize wb.drew = wd at HBD hHeld ⊢
  refine pure_ (i := 0) (N := some 5) (v := ?_) (a' := ?_) #[true, false, false, false, false, false, false, false, false, false, false] rfl rfl (by kernel_rfl) (fun _ _ _ h => h) (Or.inl ⟨by rfl, ?_⟩) ?_ ?_
  rotate_left
  · intro w'
    go_simp
    with_reducible rfl
  rotate_left
  · simp only [Act.put, List.setIfInBounds_toArray, List.set_cons_zero, List.set_cons_succ, i64_w, i32_w]
    rfl
  refine pure_ (i := 5) (N := some 10) (v := ?_) (a' := ?_) #[true, false, false, false, false, true, false, false, false, false, false] rfl rfl (by kernel_rfl) (fun _ _ _ h => h) (Or.inl ⟨by rfl, ?_⟩) ?_ ?_
  rotate_left
  · intro w'
    go_simp
    with_reducible rfl
  rotate_left
  · simp only [Act.put, List.setIfInBounds_toArray, List.set_cons_zero, List.set_cons_succ, i64_w, i32_w]
    rfl
  refine pure_ (i := 7) (N := some 12) (v := ?_) (a' := ?_) #[true, false, false, false, false, true, false, true, false, false, false] rfl rfl (by kernel_rfl) (fun _ _ _ h => h) (Or.inl ⟨by rfl, ?_⟩) ?_ ?_
  rotate_left
  · intro w'
    go_simp
    with_reducible rfl
  rotate_left
  · simp only [Act.put, List.setIfInBounds_toArray, List.set_cons_zero, List.set_cons_succ, i64_w, i32_w]
    rfl
  refine pure_ (i := 3) (N := some 8) (v := ?_) (a' := ?_) #[true, false, false, true, false, true, false, true, false, false, false] rfl rfl (by kernel_rfl) (fun _ _ _ h => h) (Or.inl ⟨by rfl, ?_⟩) ?_ ?_
  rotate_left
  · intro w'
    go_simp
    with_reducible rfl
  rotate_left
  · simp only [Act.put, List.setIfInBounds_toArray, List.set_cons_zero, List.set_cons_succ, i64_w, i32_w]
    rfl
  refine take_ (i := 1) (N := some 6) (v := ?_) (a' := ?_) #[true, true, false, true, false, true, false, true, false, false, false] rfl rfl (by kernel_rfl) (fun _ _ _ h => h) (Or.inl ⟨by rfl, ?_⟩) hHeld ?_ ?_
  rotate_left
  · rintro w' ⟨s0, s1, s2⟩
    go_simp
    with_reducible rfl
  rotate_left
  · simp only [Act.put, List.setIfInBounds_toArray, List.set_cons_zero, List.set_cons_succ, i64_w, i32_w]
    rfl
  refine take_ (i := 6) (N := some 11) (v := ?_) (a' := ?_) #[true, true, false, true, false, true, true, true, false, false, false] rfl rfl (by kernel_rfl) (fun _ _ _ h => h) (Or.inl ⟨by rfl, ?_⟩) hHeld ?_ ?_
  rotate_left
  · rintro w' ⟨s0, s1, s2⟩
    go_simp
    with_reducible rfl
  rotate_left
  · simp only [Act.put, List.setIfInBounds_toArray, List.set_cons_zero, List.set_cons_succ, i64_w, i32_w]
    rfl
  refine take_ (i := 8) (N := some 13) (v := ?_) (a' := ?_) #[true, true, false, true, false, true, true, true, true, false, false] rfl rfl (by kernel_rfl) (fun _ _ _ h => h) (Or.inl ⟨by rfl, ?_⟩) hHeld ?_ ?_
  rotate_left
  · rintro w' ⟨s0, s1, s2⟩
    go_simp
    with_reducible rfl
  rotate_left
  · simp only [Act.put, List.setIfInBounds_toArray, List.set_cons_zero, List.set_cons_succ, i64_w, i32_w]
    rfl
  refine one_ (i := 2) (N := some 7) #[true, true, true, true, false, true, true, true, true, false, false] rfl rfl (by kernel_rfl) (by decide) (fun K hK => ?_)
  refine goes_ Try.func80 (by kernel_rfl) rfl #[.slice A0 l0.length c0] (by rfl) rfl rfl (by (try simp only [List.map_toArray, List.map_cons, List.map_nil]); first | done | rfl) ?_
  refine (slices_Clone_int64_int64.calls A0 c0 l0 l0 _ (RD0 _ HBD.out) HC0.out HCL.out).mono ?_
  rintro e w7 ⟨v7, rfl, ho, hb⟩
  refine ⟨_, rfl, ?_⟩
  have HB7 := Aside0.mk (below_then HBD.out HBD.out.size hb)
  have HO7 := Aside0.mk ho
  obtain ⟨A7, c7, e7⟩ := Kd.R_slice ho
  subst e7
  clear ho hb
  refine hK.out _ _ (HELD _ HB7.out) (fun hHeld => ?_)
  clear hK K
  refine norm_ (a' := ?_) ?_ ?_
  rotate_left
  · show Act.put _ (some 7) _ = _
    simp only [Act.put, List.setIfInBounds_toArray, List.set_cons_zero, List.set_cons_succ, i64_w, i32_w]
    rfl
  refine one_ (i := 4) (N := some 9) #[true, true, true, true, true, true, true, true, true, false, false] rfl rfl (by kernel_rfl) (by decide) (fun K hK => ?_)
  refine goes_ Try.func101 (by kernel_rfl) rfl #[.slice A7 l0.length c7, .func (.func 102) #[] #[.pointer (some ⟨gf, 0, none⟩)]] (by rfl) rfl rfl (by (try simp only [List.map_toArray, List.map_cons, List.map_nil]); first | done | rfl) ?_
  refine (c_deleteAny w7 _ _ A7 c7 l0 _ (fun x => !p x) HO7.out HL.out (fun x hx w8 hw8 => TEST x hx w8 (HB7.out.grown hw8 HB7.out.size (fun k hk => Nat.le_trans HBD.out.size (BASE _ _ HO7.out k hk))))).mono ?_
  rintro e w9 ⟨n9, rfl, ho, hg⟩
  refine ⟨_, rfl, ?_⟩
  have HB9 := Aside0.mk (HB7.out.grown hg HB7.out.size (fun k hk => Nat.le_trans HBD.out.size (BASE _ _ HO7.out k hk)))
  have hn9 := (Kd.R_reads' ho).1
  subst hn9
  rw [NN] at ho ⊢
  have HO9 := Aside0.mk ho
  clear ho hg
  refine hK.out _ _ (HELD _ HB9.out) (fun hHeld => ?_)
  clear hK K
  refine norm_ (a' := ?_) ?_ ?_
  rotate_left
  · show Act.put _ (some 9) _ = _
    simp only [Act.put, List.setIfInBounds_toArray, List.set_cons_zero, List.set_cons_succ, i64_w, i32_w]
    rfl
  refine one_ (i := 9) (N := some 14) #[true, true, true, true, true, true, true, true, true, true, false] rfl rfl (by kernel_rfl) (by decide) (fun K hK => ?_)
  refine goes_ Try.func71 (by kernel_rfl) rfl #[.slice A7 (l0.filter p).length c7, .slice A1 l1.length c1, .slice A2 l2.length c2] (by rfl) rfl rfl (by (try simp only [List.map_toArray, List.map_cons, List.map_nil]); first | done | rfl) ?_
  refine (c_renumbered A7 A1 A2 c7 c1 c2 (l0.filter p) l1 l2 w9 HLF.out H64.out (Kd.R_reads' HO9.out).2.2 (RD1 _ HB9.out) (RD2 _ HB9.out) HIN.out).mono ?_
  rintro e w14 ⟨v0, v1, v2, rfl, q0, q1, q2, q3, q4, q5, q6, hb⟩
  obtain ⟨B0, d0, e0⟩ := Kd.R_slice q0
  obtain ⟨B1, d1, e1⟩ := Kd.R_slice q1
  obtain ⟨B2, d2, e2⟩ := Kd.R_slice q2
  subst e0 e1 e2
  refine ⟨_, rfl, ?_⟩
  have HQ := Aside0.mk (And.intro q0 (And.intro q1 q2))
  have HS := Aside0.mk (And.intro q3 (And.intro q4 (And.intro q5 q6)))
  have HB14 := Aside0.mk (below_then HB9.out HB9.out.size hb)
  refine hK.out _ _ (HELD _ HB14.out) (fun hHeld => ?_)
  clear hK K
  refine norm_ (a' := ?_) ?_ ?_
  rotate_left
  · show Act.put _ (some 14) _ = _
    simp only [Act.put, List.setIfInBounds_toArray, List.set_cons_zero, List.set_cons_succ, i64_w, i32_w]
    rfl
  clear q0 q1 q2 q3 q4 q5 q6 hb
  have hbr := BLKR _ HB14.out
  have hd0 : w14.cell? ⟨gr, 0, none⟩ = some (.slice none 0 0) := (blk_cell hbr 0).trans rfl
  have hd1 : w14.cell? ⟨gr, 1, none⟩ = some (.slice none 0 0) := (blk_cell hbr 1).trans rfl
  have hd2 : w14.cell? ⟨gr, 2, none⟩ = some (.slice none 0 0) := (blk_cell hbr 2).trans rfl
  have hf0 := blk_frozen hbr 0
  have hf1 := blk_frozen hbr 1
  have hf2 := blk_frozen hbr 2
  have HBR := Aside0.mk hbr
  clear hbr
  refine last_ (i := 10) (N := none) #[true, true, true, true, true, true, true, true, true, true, true] rfl rfl (by kernel_rfl) (by decide) (fun K hK => ?_)
  refine skip_ (w1 := ?_) (by rfl) rfl ?_ ?_
  rotate_left
  · go_simp
    rfl
  refine hK.out _ _ ?_
  clear hK K
  refine done_ (by kernel_rfl) ?_
  -- END OF REGION 1
  clear hd0 hd1 hd2 hf0 hf1 hf2
  go_wp2
  refine bodyPost_ret (results_cell_row rfl _ _ gr 34 #[.slice B0 (normalL (l0.filter p)).length d0, .slice B1 (firsts (l0.filter p) l1).length d1, .slice B2 (firsts (l0.filter p) l2).length d2] (0, 0) _ rfl (blk_put (cs := #[.slice B0 (normalL (l0.filter p)).length d0, .slice B1 (firsts (l0.filter p) l1).length d1, .slice none 0 0]) (blk_put (cs := #[.slice B0 (normalL (l0.filter p)).length d0, .slice none 0 0, .slice none 0 0]) (blk_put HBR.out 0 _ rfl) 1 _ rfl) 2 _ rfl) Try.underlying34 rfl (by kernel_rfl)) rfl ?_
  have hbel : Below w.heap.size w w14 := below_then HB0 HB0.size HB14.out
  have hle : w.heap.size ≤ w9.heap.size := Nat.le_trans HB0.size HB9.out.size
  have row : ∀ {v : Value} {l_ : List Int}, RI w14 w9.heap.size (fun _ => True) v l_ → ∀ u0 u1 u2, RI (((w14.setCell ⟨gr, 0, none⟩ u0).setCell ⟨gr, 1, none⟩ u1).setCell ⟨gr, 2, none⟩ u2) w.heap.size (fun _ => True) v l_ := fun {v l_} hv u0 u1 u2 =>
    Kd.R_lower (Kd.R_mono (Kd.R_far (Kd.R_far (Kd.R_far (Kd.R_far1 hv rfl (Kd.R_ne hv HBR.out (by decide))) (p := ⟨gr, 0, none⟩) (fun _ hk => hk.2) u0) (p := ⟨gr, 1, none⟩) (fun _ hk => hk.2) u1) (p := ⟨gr, 2, none⟩) (fun _ hk => hk.2) u2) (fun _ _ => trivial)) hle
  exact ⟨_, _, _, rfl, row HQ.out.1 _ _ _, row HQ.out.2.1 _ _ _, row HQ.out.2.2 _ _ _, HS.out.1, HS.out.2.1, HS.out.2.2.1, HS.out.2.2.2, below_set (below_set (below_set hbel GR.out) GR.out) GR.out⟩
end Go.Proofs.Ytihfncjpfgdhoaa.K
end -- KLeft

section -- KLeftUse
set_option linter.unusedVariables false
set_option linter.unusedSimpArgs false
namespace Go.Proofs.Ytihfncjpfgdhoaa.K
open Go.RowKit Go.Proofs.YtihfncjpfgdhoaaW.PrintWords Go.Proofs.YtihfncjpfgdhoaaW.PrintLast Go.Proofs.YtihfncjpfgdhoaaW.PrintMore

/-- What left gives, at any test. -/
def leftF (p : Int → Bool) (l0 l1 l2 : List Int) : Option (List Int × List Int × List Int) := if l0.length < 1099511627776 ∧ Ok64 l0 ∧ (∀ x ∈ l0, 0 ≤ x ∧ x < l1.length ∧ x < l2.length) then some (normalL (l0.filter p), firsts (l0.filter p) l1, firsts (l0.filter p) l2) else none
theorem leftP (p : Int → Bool) (fv : Value) (A0 : Option Addr) (c0 : Nat) (l0 : List Int) (A1 : Option Addr) (c1 : Nat) (l1 : List Int) (A2 : Option Addr) (c2 : Nat) (l2 : List Int) (r1 : List Int) (r2 : List Int) (r3 : List Int) (w : World) (hr0 : Kd.C (Kd.int .i64) w A0 l0.length l0) (hc0 : l0.length ≤ c0) (hr1 : Kd.C (Kd.int .i64) w A1 l1.length l1) (hr2 : Kd.C (Kd.int .i64) w A2 l2.length l2) (hfn : fv.oneCell' = true)
    (hp : ∀ x ∈ l0, ∀ w1, Below w.heap.size w w1 → Runs Try.prog fv #[.int .i64 x] w1 fun e w2 => e = .returned (.bool (p x)) ∧ Below w1.heap.size w1 w2) (h : leftF p l0 l1 l2 = some (r1, r2, r3)) :
    Calls Try.prog 65 #[.agg #[.slice A0 l0.length c0, .slice A1 l1.length c1, .slice A2 l2.length c2], fv] w fun e w' => ∃ v0_ v1_ v2_ : Value, e = .returned (.agg #[v0_, v1_, v2_]) ∧ Kd.R (Kd.int .i64) 2 w' w.heap.size (fun k_ => some k_ ≠ (v1_ : Value).ownBlock ∧ some k_ ≠ (v2_ : Value).ownBlock) v0_ r1 ∧ Kd.R (Kd.int .i64) 2 w' w.heap.size (fun k_ => some k_ ≠ (v0_ : Value).ownBlock ∧ some k_ ≠ (v2_ : Value).ownBlock) v1_ r2 ∧ Kd.R (Kd.int .i64) 2 w' w.heap.size (fun k_ => some k_ ≠ (v0_ : Value).ownBlock ∧ some k_ ≠ (v1_ : Value).ownBlock) v2_ r3 ∧ Below w.heap.size w w' := by
  unfold leftF at h
  split at h
  case isFalse => cases h
  rename_i hh
  simp only [Option.some.injEq, Prod.mk.injEq] at h
  obtain ⟨rfl, rfl, rfl⟩ := h
  refine (c_left A0 A1 A2 c0 c1 c2 l0 l1 l2 fv p w hh.1 hh.2.1 hr0 hc0 hr1 hr2 hh.2.2 hfn hp).mono ?_
  rintro e w' ⟨v0, v1, v2, rfl, h0, h1, h2, s10, s20, s12, s21, hb⟩
  refine ⟨v0, v1, v2, rfl, ?_, ?_, ?_, hb⟩
  · exact ⟨fun k hk => ⟨fun e => s10 k e.symm hk.symm, fun e => s20 k e.symm hk.symm⟩, h0.2⟩
  · exact ⟨fun k hk => ⟨s10 k hk, s12 k hk⟩, h1.2⟩
  · exact ⟨fun k hk => ⟨s20 k hk, s21 k hk⟩, h2.2⟩
theorem blk1_cell {w w1 : World} {g t : Nat} {v : Value} (h : w.heap[g]? = some (.cells #[v] t (0, 0))) (hb : Below w.heap.size w w1) : w1.cell? ⟨g, 0, none⟩ = some v := (blk_cell (blk_below h hb) 0).trans rfl

def leftRK.f (l0 l1 l2 : List Int) (i : Int) : Option (List Int × List Int × List Int) := leftF (fun x => x != i) l0 l1 l2
theorem leftRK.calls (A0 : Option Addr) (c0 : Nat) (l0 : List Int) (A1 : Option Addr) (c1 : Nat) (l1 : List Int) (A2 : Option Addr) (c2 : Nat) (l2 : List Int) (gi : Nat) (i : Int) (r1 : List Int) (r2 : List Int) (r3 : List Int) (w : World) (hr0 : Kd.C (Kd.int .i64) w A0 l0.length l0) (hc0 : l0.length ≤ c0) (hr1 : Kd.C (Kd.int .i64) w A1 l1.length l1) (hc1 : l1.length ≤ c1) (hr2 : Kd.C (Kd.int .i64) w A2 l2.length l2) (hc2 : l2.length ≤ c2) (hbi : w.heap[gi]? = some (.cells #[.int .i64 i] 2 (0, 0))) (h : leftRK.f l0 l1 l2 i = some (r1, r2, r3)) :
    Calls Try.prog 65 #[.agg #[.slice A0 l0.length c0, .slice A1 l1.length c1, .slice A2 l2.length c2], .func (.func 66) #[] #[.pointer (some ⟨gi, 0, none⟩)]] w fun e w' => ∃ v0_ v1_ v2_ : Value, e = .returned (.agg #[v0_, v1_, v2_]) ∧ Kd.R (Kd.int .i64) 2 w' w.heap.size (fun k_ => some k_ ≠ (v1_ : Value).ownBlock ∧ some k_ ≠ (v2_ : Value).ownBlock) v0_ r1 ∧ Kd.R (Kd.int .i64) 2 w' w.heap.size (fun k_ => some k_ ≠ (v0_ : Value).ownBlock ∧ some k_ ≠ (v2_ : Value).ownBlock) v1_ r2 ∧ Kd.R (Kd.int .i64) 2 w' w.heap.size (fun k_ => some k_ ≠ (v0_ : Value).ownBlock ∧ some k_ ≠ (v1_ : Value).ownBlock) v2_ r3 ∧ Below w.heap.size w w' :=
  leftP _ _ A0 c0 l0 A1 c1 l1 A2 c2 l2 r1 r2 r3 w hr0 hc0 hr1 hr2 rfl (fun x _ w1 hw => r_RK1 x i gi w1 (blk1_cell hbi hw)) h

/-- The chord is none of two. -/
theorem r_RP1 (x i k : Int) (b c : Nat) (w : World) (hb : w.cell? ⟨b, 0, none⟩ = some (.int .i64 i)) (hc : w.cell? ⟨c, 0, none⟩ = some (.int .i64 k)) :
    Runs Try.prog (.func (.func 74) #[] #[.pointer (some ⟨b, 0, none⟩), .pointer (some ⟨c, 0, none⟩)]) #[.int .i64 x] w fun e w' => e = .returned (.bool (x != i && x != k)) ∧ Below w.heap.size w w' := by
  refine ⟨74, _, _, _, rfl, Try.func74, by kernel_rfl, rfl, ?_⟩
  show Calls _ _ #[.int .i64 x, .pointer (some ⟨b, 0, none⟩), .pointer (some ⟨c, 0, none⟩)] _ _
  cases h1 : (x != i) with
  | true =>
    go_enter Try.func74, Try.ntmps74
    go_wp2
    go_ret
    exact ⟨rfl, Below.refl _ _⟩
  | false =>
    go_enter Try.func74, Try.ntmps74
    go_wp2
    go_ret
    exact ⟨rfl, Below.refl _ _⟩
def leftRP.f (l0 l1 l2 : List Int) (i k : Int) : Option (List Int × List Int × List Int) := leftF (fun x => x != i && x != k) l0 l1 l2
theorem leftRP.calls (A0 : Option Addr) (c0 : Nat) (l0 : List Int) (A1 : Option Addr) (c1 : Nat) (l1 : List Int) (A2 : Option Addr) (c2 : Nat) (l2 : List Int) (gi gk : Nat) (i k : Int) (r1 : List Int) (r2 : List Int) (r3 : List Int) (w : World) (hr0 : Kd.C (Kd.int .i64) w A0 l0.length l0) (hc0 : l0.length ≤ c0) (hr1 : Kd.C (Kd.int .i64) w A1 l1.length l1) (hc1 : l1.length ≤ c1) (hr2 : Kd.C (Kd.int .i64) w A2 l2.length l2) (hc2 : l2.length ≤ c2) (hbi : w.heap[gi]? = some (.cells #[.int .i64 i] 2 (0, 0))) (hbk : w.heap[gk]? = some (.cells #[.int .i64 k] 2 (0, 0))) (h : leftRP.f l0 l1 l2 i k = some (r1, r2, r3)) :
    Calls Try.prog 65 #[.agg #[.slice A0 l0.length c0, .slice A1 l1.length c1, .slice A2 l2.length c2], .func (.func 74) #[] #[.pointer (some ⟨gi, 0, none⟩), .pointer (some ⟨gk, 0, none⟩)]] w fun e w' => ∃ v0_ v1_ v2_ : Value, e = .returned (.agg #[v0_, v1_, v2_]) ∧ Kd.R (Kd.int .i64) 2 w' w.heap.size (fun k_ => some k_ ≠ (v1_ : Value).ownBlock ∧ some k_ ≠ (v2_ : Value).ownBlock) v0_ r1 ∧ Kd.R (Kd.int .i64) 2 w' w.heap.size (fun k_ => some k_ ≠ (v0_ : Value).ownBlock ∧ some k_ ≠ (v2_ : Value).ownBlock) v1_ r2 ∧ Kd.R (Kd.int .i64) 2 w' w.heap.size (fun k_ => some k_ ≠ (v0_ : Value).ownBlock ∧ some k_ ≠ (v1_ : Value).ownBlock) v2_ r3 ∧ Below w.heap.size w w' :=
  leftP _ _ A0 c0 l0 A1 c1 l1 A2 c2 l2 r1 r2 r3 w hr0 hc0 hr1 hr2 rfl (fun x _ w1 hw => r_RP1 x i k gi gk w1 (blk1_cell hbi hw) (blk1_cell hbk hw)) h
end Go.Proofs.Ytihfncjpfgdhoaa.K
end -- KLeftUse
