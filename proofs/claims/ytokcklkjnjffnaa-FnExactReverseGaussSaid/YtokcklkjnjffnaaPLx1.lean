/- Laid by this session's myprint.py over the kit's printer: contracts of functions of the program. Conditions: in each. -/
import Derived.Test.YtokcklkjnjffnaaPLx0
import Derived.Test.YtokcklkjnjffnaaKShort
import Derived.Test.YtokcklkjnjffnaaPEx0
import Derived.Test.YtokcklkjnjffnaaPEx2
import Derived.Test.YtokcklkjnjffnaaPAx0
import Derived.Test.YtokcklkjnjffnaaPAx1
import Derived.Test.YtokcklkjnjffnaaPAx11
import Derived.Test.YtokcklkjnjffnaaPAx12
import Derived.Test.YtokcklkjnjffnaaPAx8
import Derived.Test.YtokcklkjnjffnaaPAx9
namespace Go.Proofs.Ytokcklkjnjffnaa.PE
open Go.RowKit Go.Proofs.YtokcklkjnjffnaaW.PrintWords Go.Proofs.YtokcklkjnjffnaaW.PrintLast Go.Proofs.YtokcklkjnjffnaaW.PrintMore
attribute [local go_sem] max2_int min2_int max_two min_two max_three min_three max_four min_four   -- for this text's walks alone
open Go.Proofs.Ytokcklkjnjffnaa.K Go.Proofs.Ytokcklkjnjffnaa.PA
set_option linter.unusedVariables false
set_option linter.unusedSimpArgs false

set_option maxHeartbeats 8000000 in
set_option maxRecDepth 100000 in
theorem laws_FnExactReverseGauss.calls (k : Nat) (A0_0 : Option Addr) (c0_0 : Nat) (l0_0 : List Int) (A0_1 : Option Addr) (c0_1 : Nat) (l0_1 : List Int) (A0_2 : Option Addr) (c0_2 : Nat) (l0_2 : List Int) (r : Bool) (w : World) (hr0_0 : Kd.C (Kd.int .i64) w A0_0 l0_0.length l0_0) (hc0_0 : l0_0.length ≤ c0_0) (hr0_1 : Kd.C (Kd.int .i64) w A0_1 l0_1.length l0_1) (hc0_1 : l0_1.length ≤ c0_1) (hr0_2 : Kd.C (Kd.int .i64) w A0_2 l0_2.length l0_2) (hc0_2 : l0_2.length ≤ c0_2) (h : laws_FnExactReverseGauss.f k l0_0 l0_1 l0_2 = some r) :
    Calls Try.prog 9 #[.agg #[.slice A0_0 l0_0.length c0_0, .slice A0_1 l0_1.length c0_1, .slice A0_2 l0_2.length c0_2]] w fun e w' => e = .returned (.bool r) ∧ Below w.heap.size w w' := by
  have hu39 := Try.underlying39
  have hu41 := Try.underlying41
  have HR0_0 := Aside0.mk hr0_0
  have HC0_0 := Aside0.mk hc0_0
  clear hr0_0 hc0_0
  have HR0_1 := Aside0.mk hr0_1
  have HC0_1 := Aside0.mk hc0_1
  clear hr0_1 hc0_1
  have HR0_2 := Aside0.mk hr0_2
  have HC0_2 := Aside0.mk hc0_2
  clear hr0_2 hc0_2
  have HB := mk0 (Below.refl w.heap.size w)
  have H : ((laws_szGauss.f l0_0 l0_1 l0_2 1048576).bind fun t130 => (if t130 < 0 then (some true) else ((laws_toGauss.f k l0_0 l0_1 l0_2).bind fun bt131 => ((spec_ReverseGauss.f k bt131.1 bt131.2.1 bt131.2.2).bind fun bt140 => ((laws_toGauss.f k l0_0 l0_1 l0_2).bind fun bt151 => ((impl_ReverseGauss.f k bt151.1 bt151.2.1 bt151.2.2).bind fun bt161 => ((laws_eqGauss.f k bt161.1 bt161.2.1 bt161.2.2.1 bt140.1 bt140.2.1 bt140.2.2.1).bind fun t172 => (if t172 = true then (laws_FnExactReverseGauss.j0 k bt140.2.2.2 bt161.2.2.2 (bt161.2.2.2 != bt140.2.2.2) l0_0 l0_1 l0_2 bt140.1 bt140.2.1 bt140.2.2.1 bt151.1 bt151.2.1 bt151.2.2 bt161.1 bt161.2.1 bt161.2.2.1) else (laws_FnExactReverseGauss.j0 k bt140.2.2.2 bt161.2.2.2 true l0_0 l0_1 l0_2 bt140.1 bt140.2.1 bt140.2.2.1 bt151.1 bt151.2.1 bt151.2.2 bt161.1 bt161.2.1 bt161.2.2.1))))))))) = some r := h
  clear h
  replace H := Option.bind_eq_some_iff.mp H
  obtain ⟨t130, A20, H⟩ := H
  replace H : (if t130 < 0 then (some true) else ((laws_toGauss.f k l0_0 l0_1 l0_2).bind fun bt131 => ((spec_ReverseGauss.f k bt131.1 bt131.2.1 bt131.2.2).bind fun bt140 => ((laws_toGauss.f k l0_0 l0_1 l0_2).bind fun bt151 => ((impl_ReverseGauss.f k bt151.1 bt151.2.1 bt151.2.2).bind fun bt161 => ((laws_eqGauss.f k bt161.1 bt161.2.1 bt161.2.2.1 bt140.1 bt140.2.1 bt140.2.2.1).bind fun t172 => (if t172 = true then (laws_FnExactReverseGauss.j0 k bt140.2.2.2 bt161.2.2.2 (bt161.2.2.2 != bt140.2.2.2) l0_0 l0_1 l0_2 bt140.1 bt140.2.1 bt140.2.2.1 bt151.1 bt151.2.1 bt151.2.2 bt161.1 bt161.2.1 bt161.2.2.1) else (laws_FnExactReverseGauss.j0 k bt140.2.2.2 bt161.2.2.2 true l0_0 l0_1 l0_2 bt140.1 bt140.2.1 bt140.2.2.1 bt151.1 bt151.2.1 bt151.2.2 bt161.1 bt161.2.1 bt161.2.2.1)))))))) = some r := H
  have A2 := Aside0.mk A20
  clear A20
  by_cases c3 : t130 < 0
  · rw [if_pos c3] at H
    have c3b0 : decide (t130 < 0) = true := decide_eq_true c3
    clear c3
    obtain rfl := Option.some.inj H
    go_enter Try.func9, Try.ntmps9
    go_wp2_with (first | ((with_reducible refine gate_dst (N := 1) rfl ?_); refine box_event ?hg (N := 1) ?hd (cs := #[.slice A0_0 l0_0.length c0_0, .slice A0_1 l0_1.length c0_1, .slice A0_2 l0_2.length c0_2]) (t := 39) ?hr ?_; (case hd => rfl); (case hg => rfl); (case hr => first | (go_simp; done) | (go_simp; rfl)); intro gb129 hg w4 hbox hb; have n0_ := mk0 (below_step HB.out hb); have n1_ := mk0 (hbox); have n2_ := mk0 ((by rw [hg]; exact (below_size HB.out) : w.heap.size ≤ gb129)); have n3_ := mk0 ((by rw [hg]; exact (below_size HB.out) : w.heap.size ≤ gb129)); clear HB; have HB := n0_; have BK129 := n1_; have GW129 := n2_; have GE129 := n3_; clear n0_ n1_ n2_ n3_; clear hb hbox hg; have hcz5_0 : w4.cell? ⟨gb129, 0, none⟩ = some (.slice A0_0 l0_0.length c0_0) := (blk_cell BK129.out 0).trans rfl; have hcz5_1 : w4.cell? ⟨gb129, 1, none⟩ = some (.slice A0_1 l0_1.length c0_1) := (blk_cell BK129.out 1).trans rfl; have hcz5_2 : w4.cell? ⟨gb129, 2, none⟩ = some (.slice A0_2 l0_2.length c0_2) := (blk_cell BK129.out 2).trans rfl; have hfz5_0 := blk_frozen BK129.out 0; have hfz5_1 := blk_frozen BK129.out 1; have hfz5_2 := blk_frozen BK129.out 2) | ((with_reducible refine gate_callee (f := 32) rfl ?_); refine goesL_ (some 16) rfl rfl Try.func32 (by kernel_rfl) rfl #[.agg #[.slice A0_0 l0_0.length c0_0, .slice A0_1 l0_1.length c0_1, .slice A0_2 l0_2.length c0_2], .int .i64 1048576] rfl (by (try simp only [List.map_toArray, List.map_cons, List.map_nil]); rfl) ?_; (with_reducible refine (laws_szGauss.calls _ _ l0_0 _ _ l0_1 _ _ l0_2 1048576 t130 _ ?side1 ?side2 ?side3 ?side4 ?side5 ?side6 A2.out).mono ?_); (case side1 => exact (Kd.C_below HR0_0.out HB.out)); (case side2 => exact HC0_0.out); (case side3 => exact (Kd.C_below HR0_1.out HB.out)); (case side4 => exact HC0_1.out); (case side5 => exact (Kd.C_below HR0_2.out HB.out)); (case side6 => exact HC0_2.out); rintro e w6 ⟨rfl, hb⟩; refine ⟨_, rfl, ?_⟩; have n0_ := mk0 (blk_below BK129.out hb); have n1_ := mk0 (below_step (by repeat (first | (with_reducible first | exact HB.out | apply below_alloc | apply pw_below_drewN | apply below_drew1 | refine below_set ?_ GE129.out) | exact HB.out)) hb); clear BK129; clear HB; have BK129 := n0_; have HB := n1_; clear n0_ n1_; (try clear hb); (try clear hb2); (try clear hk); (try clear hi)))
    go_ret
    exact ⟨by first | rfl | (simp [errW_none, errW_some] <;> rfl) | (simp [*, errW_none, errW_some] <;> rfl), by repeat (first | (with_reducible first | exact HB.out | apply below_alloc | apply pw_below_drewN | apply below_drew1 | refine below_set ?_ GE129.out) | exact HB.out)⟩
  · rw [if_neg c3] at H
    have c3b0 : decide (t130 < 0) = false := decide_eq_false c3
    clear c3
    replace H := Option.bind_eq_some_iff.mp H
    obtain ⟨⟨t131, t134, t137⟩, A70, H⟩ := H
    replace H : ((spec_ReverseGauss.f k t131 t134 t137).bind fun bt140 => ((laws_toGauss.f k l0_0 l0_1 l0_2).bind fun bt151 => ((impl_ReverseGauss.f k bt151.1 bt151.2.1 bt151.2.2).bind fun bt161 => ((laws_eqGauss.f k bt161.1 bt161.2.1 bt161.2.2.1 bt140.1 bt140.2.1 bt140.2.2.1).bind fun t172 => (if t172 = true then (laws_FnExactReverseGauss.j0 k bt140.2.2.2 bt161.2.2.2 (bt161.2.2.2 != bt140.2.2.2) l0_0 l0_1 l0_2 bt140.1 bt140.2.1 bt140.2.2.1 bt151.1 bt151.2.1 bt151.2.2 bt161.1 bt161.2.1 bt161.2.2.1) else (laws_FnExactReverseGauss.j0 k bt140.2.2.2 bt161.2.2.2 true l0_0 l0_1 l0_2 bt140.1 bt140.2.1 bt140.2.2.1 bt151.1 bt151.2.1 bt151.2.2 bt161.1 bt161.2.1 bt161.2.2.1)))))) = some r := H
    have A7 := Aside0.mk A70
    clear A70
    replace H := Option.bind_eq_some_iff.mp H
    obtain ⟨⟨t140, t143, t146, t149⟩, A80, H⟩ := H
    replace H : ((laws_toGauss.f k l0_0 l0_1 l0_2).bind fun bt151 => ((impl_ReverseGauss.f k bt151.1 bt151.2.1 bt151.2.2).bind fun bt161 => ((laws_eqGauss.f k bt161.1 bt161.2.1 bt161.2.2.1 t140 t143 t146).bind fun t172 => (if t172 = true then (laws_FnExactReverseGauss.j0 k t149 bt161.2.2.2 (bt161.2.2.2 != t149) l0_0 l0_1 l0_2 t140 t143 t146 bt151.1 bt151.2.1 bt151.2.2 bt161.1 bt161.2.1 bt161.2.2.1) else (laws_FnExactReverseGauss.j0 k t149 bt161.2.2.2 true l0_0 l0_1 l0_2 t140 t143 t146 bt151.1 bt151.2.1 bt151.2.2 bt161.1 bt161.2.1 bt161.2.2.1))))) = some r := H
    have A8 := Aside0.mk A80
    clear A80
    replace H := Option.bind_eq_some_iff.mp H
    obtain ⟨⟨t151, t154, t157⟩, A90, H⟩ := H
    replace H : ((impl_ReverseGauss.f k t151 t154 t157).bind fun bt161 => ((laws_eqGauss.f k bt161.1 bt161.2.1 bt161.2.2.1 t140 t143 t146).bind fun t172 => (if t172 = true then (laws_FnExactReverseGauss.j0 k t149 bt161.2.2.2 (bt161.2.2.2 != t149) l0_0 l0_1 l0_2 t140 t143 t146 t151 t154 t157 bt161.1 bt161.2.1 bt161.2.2.1) else (laws_FnExactReverseGauss.j0 k t149 bt161.2.2.2 true l0_0 l0_1 l0_2 t140 t143 t146 t151 t154 t157 bt161.1 bt161.2.1 bt161.2.2.1)))) = some r := H
    have A9 := Aside0.mk A90
    clear A90
    replace H := Option.bind_eq_some_iff.mp H
    obtain ⟨⟨t161, t164, t167, t170⟩, A100, H⟩ := H
    replace H : ((laws_eqGauss.f k t161 t164 t167 t140 t143 t146).bind fun t172 => (if t172 = true then (laws_FnExactReverseGauss.j0 k t149 t170 (t170 != t149) l0_0 l0_1 l0_2 t140 t143 t146 t151 t154 t157 t161 t164 t167) else (laws_FnExactReverseGauss.j0 k t149 t170 true l0_0 l0_1 l0_2 t140 t143 t146 t151 t154 t157 t161 t164 t167))) = some r := H
    have A10 := Aside0.mk A100
    clear A100
    have HC11 := Aside0.mk H
    clear H
    go_enter Try.func9, Try.ntmps9
    go_upto_region 8 with (first | ((with_reducible refine gate_dst (N := 1) rfl ?_); refine box_event ?hg (N := 1) ?hd (cs := #[.slice A0_0 l0_0.length c0_0, .slice A0_1 l0_1.length c0_1, .slice A0_2 l0_2.length c0_2]) (t := 39) ?hr ?_; (case hd => rfl); (case hg => rfl); (case hr => first | (go_simp; done) | (go_simp; rfl)); intro gb129 hg w12 hbox hb; have n0_ := mk0 (below_step HB.out hb); have n1_ := mk0 (hbox); have n2_ := mk0 ((by rw [hg]; exact (below_size HB.out) : w.heap.size ≤ gb129)); have n3_ := mk0 ((by rw [hg]; exact (below_size HB.out) : w.heap.size ≤ gb129)); clear HB; have HB := n0_; have BK129 := n1_; have GW129 := n2_; have GE129 := n3_; clear n0_ n1_ n2_ n3_; clear hb hbox hg; have hcz13_0 : w12.cell? ⟨gb129, 0, none⟩ = some (.slice A0_0 l0_0.length c0_0) := (blk_cell BK129.out 0).trans rfl; have hcz13_1 : w12.cell? ⟨gb129, 1, none⟩ = some (.slice A0_1 l0_1.length c0_1) := (blk_cell BK129.out 1).trans rfl; have hcz13_2 : w12.cell? ⟨gb129, 2, none⟩ = some (.slice A0_2 l0_2.length c0_2) := (blk_cell BK129.out 2).trans rfl; have hfz13_0 := blk_frozen BK129.out 0; have hfz13_1 := blk_frozen BK129.out 1; have hfz13_2 := blk_frozen BK129.out 2) | ((with_reducible refine gate_callee (f := 32) rfl ?_); refine goesL_ (some 16) rfl rfl Try.func32 (by kernel_rfl) rfl #[.agg #[.slice A0_0 l0_0.length c0_0, .slice A0_1 l0_1.length c0_1, .slice A0_2 l0_2.length c0_2], .int .i64 1048576] rfl (by (try simp only [List.map_toArray, List.map_cons, List.map_nil]); rfl) ?_; (with_reducible refine (laws_szGauss.calls _ _ l0_0 _ _ l0_1 _ _ l0_2 1048576 t130 _ ?side1 ?side2 ?side3 ?side4 ?side5 ?side6 A2.out).mono ?_); (case side1 => exact (Kd.C_below HR0_0.out HB.out)); (case side2 => exact HC0_0.out); (case side3 => exact (Kd.C_below HR0_1.out HB.out)); (case side4 => exact HC0_1.out); (case side5 => exact (Kd.C_below HR0_2.out HB.out)); (case side6 => exact HC0_2.out); rintro e w14 ⟨rfl, hb⟩; refine ⟨_, rfl, ?_⟩; have n0_ := mk0 (blk_below BK129.out hb); have n1_ := mk0 (below_step (by repeat (first | (with_reducible first | exact HB.out | apply below_alloc | apply pw_below_drewN | apply below_drew1 | refine below_set ?_ GE129.out) | exact HB.out)) hb); clear BK129; clear HB; have BK129 := n0_; have HB := n1_; clear n0_ n1_; (try clear hb); (try clear hb2); (try clear hk); (try clear hi); have hcz15_0 : w14.cell? ⟨gb129, 0, none⟩ = some (.slice A0_0 l0_0.length c0_0) := (blk_cell BK129.out 0).trans rfl; have hcz15_1 : w14.cell? ⟨gb129, 1, none⟩ = some (.slice A0_1 l0_1.length c0_1) := (blk_cell BK129.out 1).trans rfl; have hcz15_2 : w14.cell? ⟨gb129, 2, none⟩ = some (.slice A0_2 l0_2.length c0_2) := (blk_cell BK129.out 2).trans rfl; have hfz15_0 := blk_frozen BK129.out 0; have hfz15_1 := blk_frozen BK129.out 1; have hfz15_2 := blk_frozen BK129.out 2) | ((with_reducible refine gate_callee (f := 34) rfl ?_); refine goesL_ (some 21) rfl rfl Try.func34 (by kernel_rfl) rfl #[.agg #[.slice A0_0 l0_0.length c0_0, .slice A0_1 l0_1.length c0_1, .slice A0_2 l0_2.length c0_2]] rfl (by (try simp only [List.map_toArray, List.map_cons, List.map_nil]); rfl) ?_; (with_reducible refine (laws_toGauss.calls k _ _ l0_0 _ _ l0_1 _ _ l0_2 t131 t134 t137 _ ?side1 ?side2 ?side3 ?side4 ?side5 ?side6 A7.out).mono ?_); (case side1 => exact (Kd.C_below HR0_0.out HB.out)); (case side2 => exact HC0_0.out); (case side3 => exact (Kd.C_below HR0_1.out HB.out)); (case side4 => exact HC0_1.out); (case side5 => exact (Kd.C_below HR0_2.out HB.out)); (case side6 => exact HC0_2.out); rintro e w16 ⟨v132, v135, v138, rfl, ho0, ho1, ho2, hb⟩; refine ⟨_, rfl, ?_⟩; have n0_ := mk0 (Kd.R_lower ho0 (below_size (by repeat (first | (with_reducible first | exact HB.out | apply below_alloc | apply pw_below_drewN | apply below_drew1 | refine below_set ?_ GE129.out) | exact HB.out)))); have n1_ := mk0 (Kd.R_lower ho1 (below_size (by repeat (first | (with_reducible first | exact HB.out | apply below_alloc | apply pw_below_drewN | apply below_drew1 | refine below_set ?_ GE129.out) | exact HB.out)))); have n2_ := mk0 (Kd.R_lower ho2 (below_size (by repeat (first | (with_reducible first | exact HB.out | apply below_alloc | apply pw_below_drewN | apply below_drew1 | refine below_set ?_ GE129.out) | exact HB.out)))); have n3_ := mk0 (blk_below BK129.out hb); have n4_ := mk0 (below_step (by repeat (first | (with_reducible first | exact HB.out | apply below_alloc | apply pw_below_drewN | apply below_drew1 | refine below_set ?_ GE129.out) | exact HB.out)) hb); clear BK129; clear HB; have HO133 := n0_; have HO136 := n1_; have HO139 := n2_; have BK129 := n3_; have HB := n4_; clear n0_ n1_ n2_ n3_ n4_; (try clear hb); (try clear hb2); (try clear hk); (try clear hi); (try clear ho0); (try clear ho1); (try clear ho2); obtain ⟨Ao17, co17, eo17⟩ := Kd.R_slice HO133.out; subst eo17; obtain ⟨Ao18, co18, eo18⟩ := Kd.R_slice HO136.out; subst eo18; obtain ⟨Ao19, co19, eo19⟩ := Kd.R_slice HO139.out; subst eo19) | ((with_reducible refine gate_callee (f := 33) rfl ?_); refine goesL_ (some 22) rfl rfl Try.func33 (by kernel_rfl) rfl #[.agg #[.slice Ao17 t131.length co17, .slice Ao18 t134.length co18, .slice Ao19 t137.length co19]] rfl (by (try simp only [List.map_toArray, List.map_cons, List.map_nil]); rfl) ?_; (with_reducible refine (spec_ReverseGauss.calls k _ _ t131 _ _ t134 _ _ t137 t140 t143 t146 t149 _ ?side1 ?side2 ?side3 ?side4 ?side5 ?side6 A8.out).mono ?_); (case side1 => exact (Kd.R_reads' HO133.out).2.2); (case side2 => exact (Kd.R_reads' HO133.out).2.1); (case side3 => exact (Kd.R_reads' HO136.out).2.2); (case side4 => exact (Kd.R_reads' HO136.out).2.1); (case side5 => exact (Kd.R_reads' HO139.out).2.2); (case side6 => exact (Kd.R_reads' HO139.out).2.1); rintro e w20 ⟨v141, v144, v147, rfl, ho0, ho1, ho2, hb⟩; refine ⟨_, rfl, ?_⟩; have n0_ := mk0 (Kd.R_mono (Kd.R_told (Kd.R_told (Kd.R_told (Kd.R_old HO133.out hb) (Kd.R_base ho0)) (Kd.R_base ho1)) (Kd.R_base ho2)) (fun _ h_ => h_.1)); have n1_ := mk0 (Kd.R_mono (Kd.R_told (Kd.R_told (Kd.R_told (Kd.R_old HO136.out hb) (Kd.R_base ho0)) (Kd.R_base ho1)) (Kd.R_base ho2)) (fun _ h_ => h_.1)); have n2_ := mk0 (Kd.R_mono (Kd.R_told (Kd.R_told (Kd.R_told (Kd.R_old HO139.out hb) (Kd.R_base ho0)) (Kd.R_base ho1)) (Kd.R_base ho2)) (fun _ h_ => h_.1)); have n3_ := mk0 (Kd.R_lower (Kd.R_new' (Kd.R_new' (Kd.R_new' ho0 (Kd.R_lt HO133.out)) (Kd.R_lt HO136.out)) (Kd.R_lt HO139.out)) (below_size (by repeat (first | (with_reducible first | exact HB.out | apply below_alloc | apply pw_below_drewN | apply below_drew1 | refine below_set ?_ GE129.out) | exact HB.out)))); have n4_ := mk0 (Kd.R_lower (Kd.R_new' (Kd.R_new' (Kd.R_new' ho1 (Kd.R_lt HO133.out)) (Kd.R_lt HO136.out)) (Kd.R_lt HO139.out)) (below_size (by repeat (first | (with_reducible first | exact HB.out | apply below_alloc | apply pw_below_drewN | apply below_drew1 | refine below_set ?_ GE129.out) | exact HB.out)))); have n5_ := mk0 (Kd.R_lower (Kd.R_new' (Kd.R_new' (Kd.R_new' ho2 (Kd.R_lt HO133.out)) (Kd.R_lt HO136.out)) (Kd.R_lt HO139.out)) (below_size (by repeat (first | (with_reducible first | exact HB.out | apply below_alloc | apply pw_below_drewN | apply below_drew1 | refine below_set ?_ GE129.out) | exact HB.out)))); have n6_ := mk0 (blk_below BK129.out hb); have n7_ := mk0 (below_step (by repeat (first | (with_reducible first | exact HB.out | apply below_alloc | apply pw_below_drewN | apply below_drew1 | refine below_set ?_ GE129.out) | exact HB.out)) hb); clear HO133; clear HO136; clear HO139; clear BK129; clear HB; have HO133 := n0_; have HO136 := n1_; have HO139 := n2_; have HO142 := n3_; have HO145 := n4_; have HO148 := n5_; have BK129 := n6_; have HB := n7_; clear n0_ n1_ n2_ n3_ n4_ n5_ n6_ n7_; (try clear hb); (try clear hb2); (try clear hk); (try clear hi); (try clear ho0); (try clear ho1); (try clear ho2)) | ((with_reducible refine gate_dst (N := 4) rfl ?_); refine box_event ?hg (N := 4) ?hd (cs := #[.slice none 0 0, .slice none 0 0, .slice none 0 0]) (t := 41) ?hr ?_; (case hd => rfl); (case hg => rfl); (case hr => first | (go_simp; done) | (go_simp; rfl)); intro gb150 hg w21 hbox hb; have n0_ := mk0 (Kd.R_below HO133.out hb); have n1_ := mk0 (Kd.R_below HO136.out hb); have n2_ := mk0 (Kd.R_below HO139.out hb); have n3_ := mk0 (Kd.R_below HO142.out hb); have n4_ := mk0 (Kd.R_below HO145.out hb); have n5_ := mk0 (Kd.R_below HO148.out hb); have n6_ := mk0 (blk_below BK129.out hb); have n7_ := mk0 (below_step (by repeat (first | (with_reducible first | exact HB.out | apply below_alloc | apply pw_below_drewN | apply below_drew1 | refine below_set ?_ GE129.out) | exact HB.out)) hb); have n8_ := mk0 (hbox); have n9_ := mk0 ((by rw [hg]; exact (below_size (by repeat (first | (with_reducible first | exact HB.out | apply below_alloc | apply pw_below_drewN | apply below_drew1 | refine below_set ?_ GE129.out) | exact HB.out))) : w.heap.size ≤ gb150)); have n10_ := mk0 ((by rw [hg]; exact (below_size (by repeat (first | (with_reducible first | exact HB.out | apply below_alloc | apply pw_below_drewN | apply below_drew1 | refine below_set ?_ GE129.out) | exact HB.out))) : w.heap.size ≤ gb150)); have n11_ := mk0 ((by rw [hg]; exact Nat.ne_of_lt (blk_lt (g := gb129) (o := .cells #[.slice A0_0 l0_0.length c0_0, .slice A0_1 l0_1.length c0_1, .slice A0_2 l0_2.length c0_2] 39 (0, 0)) (by exact BK129.out)) : gb129 ≠ gb150)); have n12_ := mk0 ((by rw [hg]; exact Nat.ne_of_gt (blk_lt (g := gb129) (o := .cells #[.slice A0_0 l0_0.length c0_0, .slice A0_1 l0_1.length c0_1, .slice A0_2 l0_2.length c0_2] 39 (0, 0)) (by exact BK129.out)) : gb150 ≠ gb129)); clear HO133; clear HO136; clear HO139; clear HO142; clear HO145; clear HO148; clear BK129; clear HB; have HO133 := n0_; have HO136 := n1_; have HO139 := n2_; have HO142 := n3_; have HO145 := n4_; have HO148 := n5_; have BK129 := n6_; have HB := n7_; have BK150 := n8_; have GW150 := n9_; have GE150 := n10_; have NB129_150 := n11_; have NB150_129 := n12_; clear n0_ n1_ n2_ n3_ n4_ n5_ n6_ n7_ n8_ n9_ n10_ n11_ n12_; clear hb hbox hg; obtain ⟨Ao22, co22, eo22⟩ := Kd.R_slice HO142.out; subst eo22; have hnb23 := NB150_129.out; have hnc23 := NB129_150.out; have hcz24_0 : w21.cell? ⟨gb150, 0, none⟩ = some (.slice none 0 0) := (blk_cell BK150.out 0).trans rfl; have hcz24_1 : w21.cell? ⟨gb150, 1, none⟩ = some (.slice none 0 0) := (blk_cell BK150.out 1).trans rfl; have hcz24_2 : w21.cell? ⟨gb150, 2, none⟩ = some (.slice none 0 0) := (blk_cell BK150.out 2).trans rfl; have hfz24_0 := blk_frozen BK150.out 0; have hfz24_1 := blk_frozen BK150.out 1; have hfz24_2 := blk_frozen BK150.out 2; obtain ⟨Ao25, co25, eo25⟩ := Kd.R_slice HO145.out; subst eo25; obtain ⟨Ao26, co26, eo26⟩ := Kd.R_slice HO148.out; subst eo26; have hcz27_0 : w21.cell? ⟨gb129, 0, none⟩ = some (.slice A0_0 l0_0.length c0_0) := (blk_cell BK129.out 0).trans rfl; have hcz27_1 : w21.cell? ⟨gb129, 1, none⟩ = some (.slice A0_1 l0_1.length c0_1) := (blk_cell BK129.out 1).trans rfl; have hcz27_2 : w21.cell? ⟨gb129, 2, none⟩ = some (.slice A0_2 l0_2.length c0_2) := (blk_cell BK129.out 2).trans rfl; have hfz27_0 := blk_frozen BK129.out 0; have hfz27_1 := blk_frozen BK129.out 1; have hfz27_2 := blk_frozen BK129.out 2) | ((with_reducible refine gate_callee (f := 34) rfl ?_); refine goesL_ (some 26) rfl rfl Try.func34 (by kernel_rfl) rfl #[.agg #[.slice A0_0 l0_0.length c0_0, .slice A0_1 l0_1.length c0_1, .slice A0_2 l0_2.length c0_2]] rfl (by (try simp only [List.map_toArray, List.map_cons, List.map_nil]); rfl) ?_; (with_reducible refine (laws_toGauss.calls k _ _ l0_0 _ _ l0_1 _ _ l0_2 t151 t154 t157 _ ?side1 ?side2 ?side3 ?side4 ?side5 ?side6 A9.out).mono ?_); (case side1 => exact Kd.C_below HR0_0.out (by repeat (first | (with_reducible first | exact HB.out | apply below_alloc | apply pw_below_drewN | apply below_drew1 | refine below_set ?_ GE129.out | refine below_set ?_ GE150.out) | exact HB.out))); (case side2 => exact HC0_0.out); (case side3 => exact Kd.C_below HR0_1.out (by repeat (first | (with_reducible first | exact HB.out | apply below_alloc | apply pw_below_drewN | apply below_drew1 | refine below_set ?_ GE129.out | refine below_set ?_ GE150.out) | exact HB.out))); (case side4 => exact HC0_1.out); (case side5 => exact Kd.C_below HR0_2.out (by repeat (first | (with_reducible first | exact HB.out | apply below_alloc | apply pw_below_drewN | apply below_drew1 | refine below_set ?_ GE129.out | refine below_set ?_ GE150.out) | exact HB.out))); (case side6 => exact HC0_2.out); rintro e w28 ⟨v152, v155, v158, rfl, ho0, ho1, ho2, hb⟩; refine ⟨_, rfl, ?_⟩; have n0_ := mk0 (Kd.R_mono (Kd.R_told (Kd.R_told (Kd.R_told (Kd.R_old (by exact fa HO133.out BK150.out) hb) (Kd.R_base ho0)) (Kd.R_base ho1)) (Kd.R_base ho2)) (fun _ h_ => h_.1)); have n1_ := mk0 (Kd.R_mono (Kd.R_told (Kd.R_told (Kd.R_told (Kd.R_old (by exact fa HO136.out BK150.out) hb) (Kd.R_base ho0)) (Kd.R_base ho1)) (Kd.R_base ho2)) (fun _ h_ => h_.1)); have n2_ := mk0 (Kd.R_mono (Kd.R_told (Kd.R_told (Kd.R_told (Kd.R_old (by exact fa HO139.out BK150.out) hb) (Kd.R_base ho0)) (Kd.R_base ho1)) (Kd.R_base ho2)) (fun _ h_ => h_.1)); have n3_ := mk0 (Kd.R_mono (Kd.R_told (Kd.R_told (Kd.R_told (Kd.R_old (by exact fa HO142.out BK150.out) hb) (Kd.R_base ho0)) (Kd.R_base ho1)) (Kd.R_base ho2)) (fun _ h_ => h_.1)); have n4_ := mk0 (Kd.R_mono (Kd.R_told (Kd.R_told (Kd.R_told (Kd.R_old (by exact fa HO145.out BK150.out) hb) (Kd.R_base ho0)) (Kd.R_base ho1)) (Kd.R_base ho2)) (fun _ h_ => h_.1)); have n5_ := mk0 (Kd.R_mono (Kd.R_told (Kd.R_told (Kd.R_told (Kd.R_old (by exact fa HO148.out BK150.out) hb) (Kd.R_base ho0)) (Kd.R_base ho1)) (Kd.R_base ho2)) (fun _ h_ => h_.1)); have n6_ := mk0 (Kd.R_lower (Kd.R_new' (Kd.R_new' (Kd.R_new' (Kd.R_new' (Kd.R_new' (Kd.R_new' ho0 (Kd.R_lt (by exact fa HO133.out BK150.out))) (Kd.R_lt (by exact fa HO136.out BK150.out))) (Kd.R_lt (by exact fa HO139.out BK150.out))) (Kd.R_lt (by exact fa HO142.out BK150.out))) (Kd.R_lt (by exact fa HO145.out BK150.out))) (Kd.R_lt (by exact fa HO148.out BK150.out))) (below_size (by repeat (first | (with_reducible first | exact HB.out | apply below_alloc | apply pw_below_drewN | apply below_drew1 | refine below_set ?_ GE129.out | refine below_set ?_ GE150.out) | exact HB.out)))); have n7_ := mk0 (Kd.R_lower (Kd.R_new' (Kd.R_new' (Kd.R_new' (Kd.R_new' (Kd.R_new' (Kd.R_new' ho1 (Kd.R_lt (by exact fa HO133.out BK150.out))) (Kd.R_lt (by exact fa HO136.out BK150.out))) (Kd.R_lt (by exact fa HO139.out BK150.out))) (Kd.R_lt (by exact fa HO142.out BK150.out))) (Kd.R_lt (by exact fa HO145.out BK150.out))) (Kd.R_lt (by exact fa HO148.out BK150.out))) (below_size (by repeat (first | (with_reducible first | exact HB.out | apply below_alloc | apply pw_below_drewN | apply below_drew1 | refine below_set ?_ GE129.out | refine below_set ?_ GE150.out) | exact HB.out)))); have n8_ := mk0 (Kd.R_lower (Kd.R_new' (Kd.R_new' (Kd.R_new' (Kd.R_new' (Kd.R_new' (Kd.R_new' ho2 (Kd.R_lt (by exact fa HO133.out BK150.out))) (Kd.R_lt (by exact fa HO136.out BK150.out))) (Kd.R_lt (by exact fa HO139.out BK150.out))) (Kd.R_lt (by exact fa HO142.out BK150.out))) (Kd.R_lt (by exact fa HO145.out BK150.out))) (Kd.R_lt (by exact fa HO148.out BK150.out))) (below_size (by repeat (first | (with_reducible first | exact HB.out | apply below_alloc | apply pw_below_drewN | apply below_drew1 | refine below_set ?_ GE129.out | refine below_set ?_ GE150.out) | exact HB.out)))); have n9_ := mk0 (blk_below (g := gb129) (o := .cells #[.slice A0_0 l0_0.length c0_0, .slice A0_1 l0_1.length c0_1, .slice A0_2 l0_2.length c0_2] 39 (0, 0)) (by refine blk_far ?_ NB129_150.out _; refine blk_far ?_ NB129_150.out _; refine blk_far ?_ NB129_150.out _; exact BK129.out) hb); have n10_ := mk0 (blk_below (g := gb150) (o := .cells #[.slice Ao22 t140.length co22, .slice Ao25 t143.length co25, .slice Ao26 t146.length co26] 41 (0, 0)) (by refine blk_put (cs := #[.slice Ao22 t140.length co22, .slice Ao25 t143.length co25, .slice none 0 0]) ?_ 2 _ rfl; refine blk_put (cs := #[.slice Ao22 t140.length co22, .slice none 0 0, .slice none 0 0]) ?_ 1 _ rfl; refine blk_put (cs := #[.slice none 0 0, .slice none 0 0, .slice none 0 0]) ?_ 0 _ rfl; exact BK150.out) hb); have n11_ := mk0 (below_step (by repeat (first | (with_reducible first | exact HB.out | apply below_alloc | apply pw_below_drewN | apply below_drew1 | refine below_set ?_ GE129.out | refine below_set ?_ GE150.out) | exact HB.out)) hb); clear HO133; clear HO136; clear HO139; clear HO142; clear HO145; clear HO148; clear BK129; clear BK150; clear HB; have HO133 := n0_; have HO136 := n1_; have HO139 := n2_; have HO142 := n3_; have HO145 := n4_; have HO148 := n5_; have HO153 := n6_; have HO156 := n7_; have HO159 := n8_; have BK129 := n9_; have BK150 := n10_; have HB := n11_; clear n0_ n1_ n2_ n3_ n4_ n5_ n6_ n7_ n8_ n9_ n10_ n11_; (try clear hb); (try clear hb2); (try clear hk); (try clear hi); (try clear ho0); (try clear ho1); (try clear ho2)) | ((with_reducible refine gate_dst (N := 6) rfl ?_); refine box_event ?hg (N := 6) ?hd (cs := #[.slice none 0 0, .slice none 0 0, .slice none 0 0]) (t := 41) ?hr ?_; (case hd => rfl); (case hg => rfl); (case hr => first | (go_simp; done) | (go_simp; rfl)); intro gb160 hg w29 hbox hb; have n0_ := mk0 (Kd.R_below HO133.out hb); have n1_ := mk0 (Kd.R_below HO136.out hb); have n2_ := mk0 (Kd.R_below HO139.out hb); have n3_ := mk0 (Kd.R_below HO142.out hb); have n4_ := mk0 (Kd.R_below HO145.out hb); have n5_ := mk0 (Kd.R_below HO148.out hb); have n6_ := mk0 (Kd.R_below HO153.out hb); have n7_ := mk0 (Kd.R_below HO156.out hb); have n8_ := mk0 (Kd.R_below HO159.out hb); have n9_ := mk0 (blk_below BK129.out hb); have n10_ := mk0 (blk_below BK150.out hb); have n11_ := mk0 (below_step (by repeat (first | (with_reducible first | exact HB.out | apply below_alloc | apply pw_below_drewN | apply below_drew1 | refine below_set ?_ GE129.out | refine below_set ?_ GE150.out) | exact HB.out)) hb); have n12_ := mk0 (hbox); have n13_ := mk0 ((by rw [hg]; exact (below_size (by repeat (first | (with_reducible first | exact HB.out | apply below_alloc | apply pw_below_drewN | apply below_drew1 | refine below_set ?_ GE129.out | refine below_set ?_ GE150.out) | exact HB.out))) : w.heap.size ≤ gb160)); have n14_ := mk0 ((by rw [hg]; exact (below_size (by repeat (first | (with_reducible first | exact HB.out | apply below_alloc | apply pw_below_drewN | apply below_drew1 | refine below_set ?_ GE129.out | refine below_set ?_ GE150.out) | exact HB.out))) : w.heap.size ≤ gb160)); have n15_ := mk0 ((by rw [hg]; exact Nat.ne_of_lt (blk_lt (g := gb129) (o := .cells #[.slice A0_0 l0_0.length c0_0, .slice A0_1 l0_1.length c0_1, .slice A0_2 l0_2.length c0_2] 39 (0, 0)) (by exact BK129.out)) : gb129 ≠ gb160)); have n16_ := mk0 ((by rw [hg]; exact Nat.ne_of_gt (blk_lt (g := gb129) (o := .cells #[.slice A0_0 l0_0.length c0_0, .slice A0_1 l0_1.length c0_1, .slice A0_2 l0_2.length c0_2] 39 (0, 0)) (by exact BK129.out)) : gb160 ≠ gb129)); have n17_ := mk0 ((by rw [hg]; exact Nat.ne_of_lt (blk_lt (g := gb150) (o := .cells #[.slice Ao22 t140.length co22, .slice Ao25 t143.length co25, .slice Ao26 t146.length co26] 41 (0, 0)) (by exact BK150.out)) : gb150 ≠ gb160)); have n18_ := mk0 ((by rw [hg]; exact Nat.ne_of_gt (blk_lt (g := gb150) (o := .cells #[.slice Ao22 t140.length co22, .slice Ao25 t143.length co25, .slice Ao26 t146.length co26] 41 (0, 0)) (by exact BK150.out)) : gb160 ≠ gb150)); clear HO133; clear HO136; clear HO139; clear HO142; clear HO145; clear HO148; clear HO153; clear HO156; clear HO159; clear BK129; clear BK150; clear HB; have HO133 := n0_; have HO136 := n1_; have HO139 := n2_; have HO142 := n3_; have HO145 := n4_; have HO148 := n5_; have HO153 := n6_; have HO156 := n7_; have HO159 := n8_; have BK129 := n9_; have BK150 := n10_; have HB := n11_; have BK160 := n12_; have GW160 := n13_; have GE160 := n14_; have NB129_160 := n15_; have NB160_129 := n16_; have NB150_160 := n17_; have NB160_150 := n18_; clear n0_ n1_ n2_ n3_ n4_ n5_ n6_ n7_ n8_ n9_ n10_ n11_ n12_ n13_ n14_ n15_ n16_ n17_ n18_; clear hb hbox hg; obtain ⟨Ao30, co30, eo30⟩ := Kd.R_slice HO153.out; subst eo30; have hnb31 := NB160_129.out; have hnc31 := NB129_160.out; have hnb32 := NB160_150.out; have hnc32 := NB150_160.out; have hcz33_0 : w29.cell? ⟨gb160, 0, none⟩ = some (.slice none 0 0) := (blk_cell BK160.out 0).trans rfl; have hcz33_1 : w29.cell? ⟨gb160, 1, none⟩ = some (.slice none 0 0) := (blk_cell BK160.out 1).trans rfl; have hcz33_2 : w29.cell? ⟨gb160, 2, none⟩ = some (.slice none 0 0) := (blk_cell BK160.out 2).trans rfl; have hfz33_0 := blk_frozen BK160.out 0; have hfz33_1 := blk_frozen BK160.out 1; have hfz33_2 := blk_frozen BK160.out 2; obtain ⟨Ao34, co34, eo34⟩ := Kd.R_slice HO156.out; subst eo34; obtain ⟨Ao35, co35, eo35⟩ := Kd.R_slice HO159.out; subst eo35) | ((with_reducible refine gate_callee (f := 35) rfl ?_); refine goesL_ (some 29) rfl rfl Try.func35 (by kernel_rfl) rfl #[.agg #[.slice Ao30 t151.length co30, .slice Ao34 t154.length co34, .slice Ao35 t157.length co35]] rfl (by (try simp only [List.map_toArray, List.map_cons, List.map_nil]); rfl) ?_; (with_reducible refine (impl_ReverseGauss.calls k _ _ t151 _ _ t154 _ _ t157 t161 t164 t167 t170 _ ?side1 ?side2 ?side3 ?side4 ?side5 ?side6 A10.out).mono ?_); (case side1 => refine (Kd.R_reads' (e := 2) (base := w.heap.size) (ok := fun k_ => (((((((nb k_ Ao34 t154 co34 ∧ nb k_ Ao35 t157 co35) ∧ nb k_ Ao17 t131 co17) ∧ nb k_ Ao18 t134 co18) ∧ nb k_ Ao19 t137 co19) ∧ nb k_ Ao22 t140 co22) ∧ nb k_ Ao25 t143 co25) ∧ nb k_ Ao26 t146 co26)) (n := t151.length) (c := co30) ?_).2.2; exact (by exact fa HO153.out BK160.out)); (case side2 => exact (Kd.R_reads' HO153.out).2.1); (case side3 => refine (Kd.R_reads' (e := 2) (base := w.heap.size) (ok := fun k_ => (((((((nb k_ Ao30 t151 co30 ∧ nb k_ Ao35 t157 co35) ∧ nb k_ Ao17 t131 co17) ∧ nb k_ Ao18 t134 co18) ∧ nb k_ Ao19 t137 co19) ∧ nb k_ Ao22 t140 co22) ∧ nb k_ Ao25 t143 co25) ∧ nb k_ Ao26 t146 co26)) (n := t154.length) (c := co34) ?_).2.2; exact (by exact fa HO156.out BK160.out)); (case side4 => exact (Kd.R_reads' HO156.out).2.1); (case side5 => refine (Kd.R_reads' (e := 2) (base := w.heap.size) (ok := fun k_ => (((((((nb k_ Ao30 t151 co30 ∧ nb k_ Ao34 t154 co34) ∧ nb k_ Ao17 t131 co17) ∧ nb k_ Ao18 t134 co18) ∧ nb k_ Ao19 t137 co19) ∧ nb k_ Ao22 t140 co22) ∧ nb k_ Ao25 t143 co25) ∧ nb k_ Ao26 t146 co26)) (n := t157.length) (c := co35) ?_).2.2; exact (by exact fa HO159.out BK160.out)); (case side6 => exact (Kd.R_reads' HO159.out).2.1); rintro e w36 ⟨v162, v165, v168, rfl, ho0, ho1, ho2, hb⟩; refine ⟨_, rfl, ?_⟩; have n0_ := mk0 (Kd.R_mono (Kd.R_told (Kd.R_told (Kd.R_told (Kd.R_old (by exact fa HO133.out BK160.out) hb) (Kd.R_base ho0)) (Kd.R_base ho1)) (Kd.R_base ho2)) (fun _ h_ => h_.1)); have n1_ := mk0 (Kd.R_mono (Kd.R_told (Kd.R_told (Kd.R_told (Kd.R_old (by exact fa HO136.out BK160.out) hb) (Kd.R_base ho0)) (Kd.R_base ho1)) (Kd.R_base ho2)) (fun _ h_ => h_.1)); have n2_ := mk0 (Kd.R_mono (Kd.R_told (Kd.R_told (Kd.R_told (Kd.R_old (by exact fa HO139.out BK160.out) hb) (Kd.R_base ho0)) (Kd.R_base ho1)) (Kd.R_base ho2)) (fun _ h_ => h_.1)); have n3_ := mk0 (Kd.R_mono (Kd.R_told (Kd.R_told (Kd.R_told (Kd.R_old (by exact fa HO142.out BK160.out) hb) (Kd.R_base ho0)) (Kd.R_base ho1)) (Kd.R_base ho2)) (fun _ h_ => h_.1)); have n4_ := mk0 (Kd.R_mono (Kd.R_told (Kd.R_told (Kd.R_told (Kd.R_old (by exact fa HO145.out BK160.out) hb) (Kd.R_base ho0)) (Kd.R_base ho1)) (Kd.R_base ho2)) (fun _ h_ => h_.1)); have n5_ := mk0 (Kd.R_mono (Kd.R_told (Kd.R_told (Kd.R_told (Kd.R_old (by exact fa HO148.out BK160.out) hb) (Kd.R_base ho0)) (Kd.R_base ho1)) (Kd.R_base ho2)) (fun _ h_ => h_.1)); have n6_ := mk0 (Kd.R_mono (Kd.R_told (Kd.R_told (Kd.R_told (Kd.R_old (by exact fa HO153.out BK160.out) hb) (Kd.R_base ho0)) (Kd.R_base ho1)) (Kd.R_base ho2)) (fun _ h_ => h_.1)); have n7_ := mk0 (Kd.R_mono (Kd.R_told (Kd.R_told (Kd.R_told (Kd.R_old (by exact fa HO156.out BK160.out) hb) (Kd.R_base ho0)) (Kd.R_base ho1)) (Kd.R_base ho2)) (fun _ h_ => h_.1)); have n8_ := mk0 (Kd.R_mono (Kd.R_told (Kd.R_told (Kd.R_told (Kd.R_old (by exact fa HO159.out BK160.out) hb) (Kd.R_base ho0)) (Kd.R_base ho1)) (Kd.R_base ho2)) (fun _ h_ => h_.1)); have n9_ := mk0 (Kd.R_lower (Kd.R_new' (Kd.R_new' (Kd.R_new' (Kd.R_new' (Kd.R_new' (Kd.R_new' (Kd.R_new' (Kd.R_new' (Kd.R_new' ho0 (Kd.R_lt (by exact fa HO133.out BK160.out))) (Kd.R_lt (by exact fa HO136.out BK160.out))) (Kd.R_lt (by exact fa HO139.out BK160.out))) (Kd.R_lt (by exact fa HO142.out BK160.out))) (Kd.R_lt (by exact fa HO145.out BK160.out))) (Kd.R_lt (by exact fa HO148.out BK160.out))) (Kd.R_lt (by exact fa HO153.out BK160.out))) (Kd.R_lt (by exact fa HO156.out BK160.out))) (Kd.R_lt (by exact fa HO159.out BK160.out))) (below_size (by repeat (first | (with_reducible first | exact HB.out | apply below_alloc | apply pw_below_drewN | apply below_drew1 | refine below_set ?_ GE129.out | refine below_set ?_ GE150.out | refine below_set ?_ GE160.out) | exact HB.out)))); have n10_ := mk0 (Kd.R_lower (Kd.R_new' (Kd.R_new' (Kd.R_new' (Kd.R_new' (Kd.R_new' (Kd.R_new' (Kd.R_new' (Kd.R_new' (Kd.R_new' ho1 (Kd.R_lt (by exact fa HO133.out BK160.out))) (Kd.R_lt (by exact fa HO136.out BK160.out))) (Kd.R_lt (by exact fa HO139.out BK160.out))) (Kd.R_lt (by exact fa HO142.out BK160.out))) (Kd.R_lt (by exact fa HO145.out BK160.out))) (Kd.R_lt (by exact fa HO148.out BK160.out))) (Kd.R_lt (by exact fa HO153.out BK160.out))) (Kd.R_lt (by exact fa HO156.out BK160.out))) (Kd.R_lt (by exact fa HO159.out BK160.out))) (below_size (by repeat (first | (with_reducible first | exact HB.out | apply below_alloc | apply pw_below_drewN | apply below_drew1 | refine below_set ?_ GE129.out | refine below_set ?_ GE150.out | refine below_set ?_ GE160.out) | exact HB.out)))); have n11_ := mk0 (Kd.R_lower (Kd.R_new' (Kd.R_new' (Kd.R_new' (Kd.R_new' (Kd.R_new' (Kd.R_new' (Kd.R_new' (Kd.R_new' (Kd.R_new' ho2 (Kd.R_lt (by exact fa HO133.out BK160.out))) (Kd.R_lt (by exact fa HO136.out BK160.out))) (Kd.R_lt (by exact fa HO139.out BK160.out))) (Kd.R_lt (by exact fa HO142.out BK160.out))) (Kd.R_lt (by exact fa HO145.out BK160.out))) (Kd.R_lt (by exact fa HO148.out BK160.out))) (Kd.R_lt (by exact fa HO153.out BK160.out))) (Kd.R_lt (by exact fa HO156.out BK160.out))) (Kd.R_lt (by exact fa HO159.out BK160.out))) (below_size (by repeat (first | (with_reducible first | exact HB.out | apply below_alloc | apply pw_below_drewN | apply below_drew1 | refine below_set ?_ GE129.out | refine below_set ?_ GE150.out | refine below_set ?_ GE160.out) | exact HB.out)))); have n12_ := mk0 (blk_below (g := gb129) (o := .cells #[.slice A0_0 l0_0.length c0_0, .slice A0_1 l0_1.length c0_1, .slice A0_2 l0_2.length c0_2] 39 (0, 0)) (by refine blk_far ?_ NB129_160.out _; refine blk_far ?_ NB129_160.out _; refine blk_far ?_ NB129_160.out _; exact BK129.out) hb); have n13_ := mk0 (blk_below (g := gb150) (o := .cells #[.slice Ao22 t140.length co22, .slice Ao25 t143.length co25, .slice Ao26 t146.length co26] 41 (0, 0)) (by refine blk_far ?_ NB150_160.out _; refine blk_far ?_ NB150_160.out _; refine blk_far ?_ NB150_160.out _; exact BK150.out) hb); have n14_ := mk0 (blk_below (g := gb160) (o := .cells #[.slice Ao30 t151.length co30, .slice Ao34 t154.length co34, .slice Ao35 t157.length co35] 41 (0, 0)) (by refine blk_put (cs := #[.slice Ao30 t151.length co30, .slice Ao34 t154.length co34, .slice none 0 0]) ?_ 2 _ rfl; refine blk_put (cs := #[.slice Ao30 t151.length co30, .slice none 0 0, .slice none 0 0]) ?_ 1 _ rfl; refine blk_put (cs := #[.slice none 0 0, .slice none 0 0, .slice none 0 0]) ?_ 0 _ rfl; exact BK160.out) hb); have n15_ := mk0 (below_step (by repeat (first | (with_reducible first | exact HB.out | apply below_alloc | apply pw_below_drewN | apply below_drew1 | refine below_set ?_ GE129.out | refine below_set ?_ GE150.out | refine below_set ?_ GE160.out) | exact HB.out)) hb); clear HO133; clear HO136; clear HO139; clear HO142; clear HO145; clear HO148; clear HO153; clear HO156; clear HO159; clear BK129; clear BK150; clear BK160; clear HB; have HO133 := n0_; have HO136 := n1_; have HO139 := n2_; have HO142 := n3_; have HO145 := n4_; have HO148 := n5_; have HO153 := n6_; have HO156 := n7_; have HO159 := n8_; have HO163 := n9_; have HO166 := n10_; have HO169 := n11_; have BK129 := n12_; have BK150 := n13_; have BK160 := n14_; have HB := n15_; clear n0_ n1_ n2_ n3_ n4_ n5_ n6_ n7_ n8_ n9_ n10_ n11_ n12_ n13_ n14_ n15_; (try clear hb); (try clear hb2); (try clear hk); (try clear hi); (try clear ho0); (try clear ho1); (try clear ho2)) | ((with_reducible refine gate_dst (N := 7) rfl ?_); refine box_event ?hg (N := 7) ?hd (cs := #[.slice none 0 0, .slice none 0 0, .slice none 0 0]) (t := 41) ?hr ?_; (case hd => rfl); (case hg => rfl); (case hr => first | (go_simp; done) | (go_simp; rfl)); intro gb171 hg w37 hbox hb; have n0_ := mk0 (Kd.R_below HO133.out hb); have n1_ := mk0 (Kd.R_below HO136.out hb); have n2_ := mk0 (Kd.R_below HO139.out hb); have n3_ := mk0 (Kd.R_below HO142.out hb); have n4_ := mk0 (Kd.R_below HO145.out hb); have n5_ := mk0 (Kd.R_below HO148.out hb); have n6_ := mk0 (Kd.R_below HO153.out hb); have n7_ := mk0 (Kd.R_below HO156.out hb); have n8_ := mk0 (Kd.R_below HO159.out hb); have n9_ := mk0 (Kd.R_below HO163.out hb); have n10_ := mk0 (Kd.R_below HO166.out hb); have n11_ := mk0 (Kd.R_below HO169.out hb); have n12_ := mk0 (blk_below BK129.out hb); have n13_ := mk0 (blk_below BK150.out hb); have n14_ := mk0 (blk_below BK160.out hb); have n15_ := mk0 (below_step (by repeat (first | (with_reducible first | exact HB.out | apply below_alloc | apply pw_below_drewN | apply below_drew1 | refine below_set ?_ GE129.out | refine below_set ?_ GE150.out | refine below_set ?_ GE160.out) | exact HB.out)) hb); have n16_ := mk0 (hbox); have n17_ := mk0 ((by rw [hg]; exact (below_size (by repeat (first | (with_reducible first | exact HB.out | apply below_alloc | apply pw_below_drewN | apply below_drew1 | refine below_set ?_ GE129.out | refine below_set ?_ GE150.out | refine below_set ?_ GE160.out) | exact HB.out))) : w.heap.size ≤ gb171)); have n18_ := mk0 ((by rw [hg]; exact (below_size (by repeat (first | (with_reducible first | exact HB.out | apply below_alloc | apply pw_below_drewN | apply below_drew1 | refine below_set ?_ GE129.out | refine below_set ?_ GE150.out | refine below_set ?_ GE160.out) | exact HB.out))) : w.heap.size ≤ gb171)); have n19_ := mk0 ((by rw [hg]; exact Nat.ne_of_lt (blk_lt (g := gb129) (o := .cells #[.slice A0_0 l0_0.length c0_0, .slice A0_1 l0_1.length c0_1, .slice A0_2 l0_2.length c0_2] 39 (0, 0)) (by exact BK129.out)) : gb129 ≠ gb171)); have n20_ := mk0 ((by rw [hg]; exact Nat.ne_of_gt (blk_lt (g := gb129) (o := .cells #[.slice A0_0 l0_0.length c0_0, .slice A0_1 l0_1.length c0_1, .slice A0_2 l0_2.length c0_2] 39 (0, 0)) (by exact BK129.out)) : gb171 ≠ gb129)); have n21_ := mk0 ((by rw [hg]; exact Nat.ne_of_lt (blk_lt (g := gb150) (o := .cells #[.slice Ao22 t140.length co22, .slice Ao25 t143.length co25, .slice Ao26 t146.length co26] 41 (0, 0)) (by exact BK150.out)) : gb150 ≠ gb171)); have n22_ := mk0 ((by rw [hg]; exact Nat.ne_of_gt (blk_lt (g := gb150) (o := .cells #[.slice Ao22 t140.length co22, .slice Ao25 t143.length co25, .slice Ao26 t146.length co26] 41 (0, 0)) (by exact BK150.out)) : gb171 ≠ gb150)); have n23_ := mk0 ((by rw [hg]; exact Nat.ne_of_lt (blk_lt (g := gb160) (o := .cells #[.slice Ao30 t151.length co30, .slice Ao34 t154.length co34, .slice Ao35 t157.length co35] 41 (0, 0)) (by exact BK160.out)) : gb160 ≠ gb171)); have n24_ := mk0 ((by rw [hg]; exact Nat.ne_of_gt (blk_lt (g := gb160) (o := .cells #[.slice Ao30 t151.length co30, .slice Ao34 t154.length co34, .slice Ao35 t157.length co35] 41 (0, 0)) (by exact BK160.out)) : gb171 ≠ gb160)); clear HO133; clear HO136; clear HO139; clear HO142; clear HO145; clear HO148; clear HO153; clear HO156; clear HO159; clear HO163; clear HO166; clear HO169; clear BK129; clear BK150; clear BK160; clear HB; have HO133 := n0_; have HO136 := n1_; have HO139 := n2_; have HO142 := n3_; have HO145 := n4_; have HO148 := n5_; have HO153 := n6_; have HO156 := n7_; have HO159 := n8_; have HO163 := n9_; have HO166 := n10_; have HO169 := n11_; have BK129 := n12_; have BK150 := n13_; have BK160 := n14_; have HB := n15_; have BK171 := n16_; have GW171 := n17_; have GE171 := n18_; have NB129_171 := n19_; have NB171_129 := n20_; have NB150_171 := n21_; have NB171_150 := n22_; have NB160_171 := n23_; have NB171_160 := n24_; clear n0_ n1_ n2_ n3_ n4_ n5_ n6_ n7_ n8_ n9_ n10_ n11_ n12_ n13_ n14_ n15_ n16_ n17_ n18_ n19_ n20_ n21_ n22_ n23_ n24_; clear hb hbox hg; obtain ⟨Ao38, co38, eo38⟩ := Kd.R_slice HO163.out; subst eo38; have hnb39 := NB171_129.out; have hnc39 := NB129_171.out; have hnb40 := NB171_150.out; have hnc40 := NB150_171.out; have hnb41 := NB171_160.out; have hnc41 := NB160_171.out; have hcz42_0 : w37.cell? ⟨gb171, 0, none⟩ = some (.slice none 0 0) := (blk_cell BK171.out 0).trans rfl; have hcz42_1 : w37.cell? ⟨gb171, 1, none⟩ = some (.slice none 0 0) := (blk_cell BK171.out 1).trans rfl; have hcz42_2 : w37.cell? ⟨gb171, 2, none⟩ = some (.slice none 0 0) := (blk_cell BK171.out 2).trans rfl; have hfz42_0 := blk_frozen BK171.out 0; have hfz42_1 := blk_frozen BK171.out 1; have hfz42_2 := blk_frozen BK171.out 2; obtain ⟨Ao43, co43, eo43⟩ := Kd.R_slice HO166.out; subst eo43; obtain ⟨Ao44, co44, eo44⟩ := Kd.R_slice HO169.out; subst eo44))
    (try simp only [Act.put, List.setIfInBounds_toArray, List.set_cons_zero, List.set_cons_succ])
    go_cut [40] (fun v40 wc => ∃ (kq : Nat) (x40_10 : Bool), v40 = .bool x40_10 ∧ Aside0 (laws_FnExactReverseGauss.j0 kq t149 t170 x40_10 l0_0 l0_1 l0_2 t140 t143 t146 t151 t154 t157 t161 t164 t167 = some r) ∧ Aside0 (kq ≤ k) ∧ Aside0 (Kd.R (Kd.int .i64) 2 wc w.heap.size (fun k_ => some k_ ≠ ((.slice Ao25 t143.length co25) : Value).ownBlock ∧ some k_ ≠ ((.slice Ao26 t146.length co26) : Value).ownBlock ∧ some k_ ≠ ((.slice Ao30 t151.length co30) : Value).ownBlock ∧ some k_ ≠ ((.slice Ao34 t154.length co34) : Value).ownBlock ∧ some k_ ≠ ((.slice Ao35 t157.length co35) : Value).ownBlock ∧ some k_ ≠ ((.slice Ao38 t161.length co38) : Value).ownBlock ∧ some k_ ≠ ((.slice Ao43 t164.length co43) : Value).ownBlock ∧ some k_ ≠ ((.slice Ao44 t167.length co44) : Value).ownBlock) (.slice Ao22 t140.length co22) t140) ∧ Aside0 (Kd.R (Kd.int .i64) 2 wc w.heap.size (fun k_ => some k_ ≠ ((.slice Ao22 t140.length co22) : Value).ownBlock ∧ some k_ ≠ ((.slice Ao26 t146.length co26) : Value).ownBlock ∧ some k_ ≠ ((.slice Ao30 t151.length co30) : Value).ownBlock ∧ some k_ ≠ ((.slice Ao34 t154.length co34) : Value).ownBlock ∧ some k_ ≠ ((.slice Ao35 t157.length co35) : Value).ownBlock ∧ some k_ ≠ ((.slice Ao38 t161.length co38) : Value).ownBlock ∧ some k_ ≠ ((.slice Ao43 t164.length co43) : Value).ownBlock ∧ some k_ ≠ ((.slice Ao44 t167.length co44) : Value).ownBlock) (.slice Ao25 t143.length co25) t143) ∧ Aside0 (Kd.R (Kd.int .i64) 2 wc w.heap.size (fun k_ => some k_ ≠ ((.slice Ao22 t140.length co22) : Value).ownBlock ∧ some k_ ≠ ((.slice Ao25 t143.length co25) : Value).ownBlock ∧ some k_ ≠ ((.slice Ao30 t151.length co30) : Value).ownBlock ∧ some k_ ≠ ((.slice Ao34 t154.length co34) : Value).ownBlock ∧ some k_ ≠ ((.slice Ao35 t157.length co35) : Value).ownBlock ∧ some k_ ≠ ((.slice Ao38 t161.length co38) : Value).ownBlock ∧ some k_ ≠ ((.slice Ao43 t164.length co43) : Value).ownBlock ∧ some k_ ≠ ((.slice Ao44 t167.length co44) : Value).ownBlock) (.slice Ao26 t146.length co26) t146) ∧ Aside0 (Kd.R (Kd.int .i64) 2 wc w.heap.size (fun k_ => some k_ ≠ ((.slice Ao22 t140.length co22) : Value).ownBlock ∧ some k_ ≠ ((.slice Ao25 t143.length co25) : Value).ownBlock ∧ some k_ ≠ ((.slice Ao26 t146.length co26) : Value).ownBlock ∧ some k_ ≠ ((.slice Ao34 t154.length co34) : Value).ownBlock ∧ some k_ ≠ ((.slice Ao35 t157.length co35) : Value).ownBlock ∧ some k_ ≠ ((.slice Ao38 t161.length co38) : Value).ownBlock ∧ some k_ ≠ ((.slice Ao43 t164.length co43) : Value).ownBlock ∧ some k_ ≠ ((.slice Ao44 t167.length co44) : Value).ownBlock) (.slice Ao30 t151.length co30) t151) ∧ Aside0 (Kd.R (Kd.int .i64) 2 wc w.heap.size (fun k_ => some k_ ≠ ((.slice Ao22 t140.length co22) : Value).ownBlock ∧ some k_ ≠ ((.slice Ao25 t143.length co25) : Value).ownBlock ∧ some k_ ≠ ((.slice Ao26 t146.length co26) : Value).ownBlock ∧ some k_ ≠ ((.slice Ao30 t151.length co30) : Value).ownBlock ∧ some k_ ≠ ((.slice Ao35 t157.length co35) : Value).ownBlock ∧ some k_ ≠ ((.slice Ao38 t161.length co38) : Value).ownBlock ∧ some k_ ≠ ((.slice Ao43 t164.length co43) : Value).ownBlock ∧ some k_ ≠ ((.slice Ao44 t167.length co44) : Value).ownBlock) (.slice Ao34 t154.length co34) t154) ∧ Aside0 (Kd.R (Kd.int .i64) 2 wc w.heap.size (fun k_ => some k_ ≠ ((.slice Ao22 t140.length co22) : Value).ownBlock ∧ some k_ ≠ ((.slice Ao25 t143.length co25) : Value).ownBlock ∧ some k_ ≠ ((.slice Ao26 t146.length co26) : Value).ownBlock ∧ some k_ ≠ ((.slice Ao30 t151.length co30) : Value).ownBlock ∧ some k_ ≠ ((.slice Ao34 t154.length co34) : Value).ownBlock ∧ some k_ ≠ ((.slice Ao38 t161.length co38) : Value).ownBlock ∧ some k_ ≠ ((.slice Ao43 t164.length co43) : Value).ownBlock ∧ some k_ ≠ ((.slice Ao44 t167.length co44) : Value).ownBlock) (.slice Ao35 t157.length co35) t157) ∧ Aside0 (Kd.R (Kd.int .i64) 2 wc w.heap.size (fun k_ => some k_ ≠ ((.slice Ao22 t140.length co22) : Value).ownBlock ∧ some k_ ≠ ((.slice Ao25 t143.length co25) : Value).ownBlock ∧ some k_ ≠ ((.slice Ao26 t146.length co26) : Value).ownBlock ∧ some k_ ≠ ((.slice Ao30 t151.length co30) : Value).ownBlock ∧ some k_ ≠ ((.slice Ao34 t154.length co34) : Value).ownBlock ∧ some k_ ≠ ((.slice Ao35 t157.length co35) : Value).ownBlock ∧ some k_ ≠ ((.slice Ao43 t164.length co43) : Value).ownBlock ∧ some k_ ≠ ((.slice Ao44 t167.length co44) : Value).ownBlock) (.slice Ao38 t161.length co38) t161) ∧ Aside0 (Kd.R (Kd.int .i64) 2 wc w.heap.size (fun k_ => some k_ ≠ ((.slice Ao22 t140.length co22) : Value).ownBlock ∧ some k_ ≠ ((.slice Ao25 t143.length co25) : Value).ownBlock ∧ some k_ ≠ ((.slice Ao26 t146.length co26) : Value).ownBlock ∧ some k_ ≠ ((.slice Ao30 t151.length co30) : Value).ownBlock ∧ some k_ ≠ ((.slice Ao34 t154.length co34) : Value).ownBlock ∧ some k_ ≠ ((.slice Ao35 t157.length co35) : Value).ownBlock ∧ some k_ ≠ ((.slice Ao38 t161.length co38) : Value).ownBlock ∧ some k_ ≠ ((.slice Ao44 t167.length co44) : Value).ownBlock) (.slice Ao43 t164.length co43) t164) ∧ Aside0 (Kd.R (Kd.int .i64) 2 wc w.heap.size (fun k_ => some k_ ≠ ((.slice Ao22 t140.length co22) : Value).ownBlock ∧ some k_ ≠ ((.slice Ao25 t143.length co25) : Value).ownBlock ∧ some k_ ≠ ((.slice Ao26 t146.length co26) : Value).ownBlock ∧ some k_ ≠ ((.slice Ao30 t151.length co30) : Value).ownBlock ∧ some k_ ≠ ((.slice Ao34 t154.length co34) : Value).ownBlock ∧ some k_ ≠ ((.slice Ao35 t157.length co35) : Value).ownBlock ∧ some k_ ≠ ((.slice Ao38 t161.length co38) : Value).ownBlock ∧ some k_ ≠ ((.slice Ao43 t164.length co43) : Value).ownBlock) (.slice Ao44 t167.length co44) t167) ∧ Aside0 (wc.heap[gb129]? = some (.cells #[(.slice A0_0 l0_0.length c0_0), (.slice A0_1 l0_1.length c0_1), (.slice A0_2 l0_2.length c0_2)] 39 (0, 0))) ∧ Aside0 (wc.heap[gb150]? = some (.cells #[(.slice Ao22 t140.length co22), (.slice Ao25 t143.length co25), (.slice Ao26 t146.length co26)] 41 (0, 0))) ∧ Aside0 (wc.heap[gb160]? = some (.cells #[(.slice Ao30 t151.length co30), (.slice Ao34 t154.length co34), (.slice Ao35 t157.length co35)] 41 (0, 0))) ∧ Aside0 (wc.heap[gb171]? = some (.cells #[(.slice Ao38 t161.length co38), (.slice Ao43 t164.length co43), (.slice Ao44 t167.length co44)] 41 (0, 0))) ∧ Aside0 (Below w.heap.size w wc))
    case first =>
      have H := HC11.out
      clear HC11
      replace H := Option.bind_eq_some_iff.mp H
      obtain ⟨t172, A450, H⟩ := H
      replace H : (if t172 = true then (laws_FnExactReverseGauss.j0 k t149 t170 (t170 != t149) l0_0 l0_1 l0_2 t140 t143 t146 t151 t154 t157 t161 t164 t167) else (laws_FnExactReverseGauss.j0 k t149 t170 true l0_0 l0_1 l0_2 t140 t143 t146 t151 t154 t157 t161 t164 t167)) = some r := H
      have A45 := Aside0.mk A450
      clear A450
      by_cases c46 : t172 = true
      · subst c46
        have H1 : (laws_FnExactReverseGauss.j0 k t149 t170 (t170 != t149) l0_0 l0_1 l0_2 t140 t143 t146 t151 t154 t157 t161 t164 t167) = some r := by rw [if_pos rfl] at H; exact H
        clear H
        have H := H1
        clear H1
        have H' := Aside0.mk H
        clear H
        have hnb47 := NB171_129.out
        have hnc47 := NB129_171.out
        have hnb48 := NB171_150.out
        have hnc48 := NB150_171.out
        have hnb49 := NB171_160.out
        have hnc49 := NB160_171.out
        have hcz50_0 : w37.cell? ⟨gb171, 0, none⟩ = some (.slice none 0 0) := (blk_cell BK171.out 0).trans rfl
        have hcz50_1 : w37.cell? ⟨gb171, 1, none⟩ = some (.slice none 0 0) := (blk_cell BK171.out 1).trans rfl
        have hcz50_2 : w37.cell? ⟨gb171, 2, none⟩ = some (.slice none 0 0) := (blk_cell BK171.out 2).trans rfl
        have hfz50_0 := blk_frozen BK171.out 0
        have hfz50_1 := blk_frozen BK171.out 1
        have hfz50_2 := blk_frozen BK171.out 2
        have hnb51 := NB150_129.out
        have hnc51 := NB129_150.out
        have hnb52 := NB150_160.out
        have hnc52 := NB160_150.out
        have hcz53_0 : w37.cell? ⟨gb150, 0, none⟩ = some (.slice Ao22 t140.length co22) := (blk_cell BK150.out 0).trans rfl
        have hcz53_1 : w37.cell? ⟨gb150, 1, none⟩ = some (.slice Ao25 t143.length co25) := (blk_cell BK150.out 1).trans rfl
        have hcz53_2 : w37.cell? ⟨gb150, 2, none⟩ = some (.slice Ao26 t146.length co26) := (blk_cell BK150.out 2).trans rfl
        have hfz53_0 := blk_frozen BK150.out 0
        have hfz53_1 := blk_frozen BK150.out 1
        have hfz53_2 := blk_frozen BK150.out 2
        go_wp2_with (first | ((with_reducible refine gate_callee (f := 36) rfl ?_); refine goesL_ (some 34) rfl rfl Try.func36 (by kernel_rfl) rfl #[.agg #[.slice Ao38 t161.length co38, .slice Ao43 t164.length co43, .slice Ao44 t167.length co44], .agg #[.slice Ao22 t140.length co22, .slice Ao25 t143.length co25, .slice Ao26 t146.length co26]] rfl (by (try simp only [List.map_toArray, List.map_cons, List.map_nil]); rfl) ?_; (with_reducible refine (laws_eqGauss.calls k _ _ t161 _ _ t164 _ _ t167 _ _ t140 _ _ t143 _ _ t146 true _ ?side1 ?side2 ?side3 ?side4 ?side5 ?side6 ?side7 ?side8 ?side9 ?side10 ?side11 ?side12 A45.out).mono ?_); (case side1 => refine (Kd.R_reads' (e := 2) (base := w.heap.size) (ok := fun k_ => ((((((((((nb k_ Ao43 t164 co43 ∧ nb k_ Ao44 t167 co44) ∧ nb k_ Ao17 t131 co17) ∧ nb k_ Ao18 t134 co18) ∧ nb k_ Ao19 t137 co19) ∧ nb k_ Ao22 t140 co22) ∧ nb k_ Ao25 t143 co25) ∧ nb k_ Ao26 t146 co26) ∧ nb k_ Ao30 t151 co30) ∧ nb k_ Ao34 t154 co34) ∧ nb k_ Ao35 t157 co35)) (n := t161.length) (c := co38) ?_).2.2; exact (by exact fa HO163.out BK171.out)); (case side2 => exact (Kd.R_reads' HO163.out).2.1); (case side3 => refine (Kd.R_reads' (e := 2) (base := w.heap.size) (ok := fun k_ => ((((((((((nb k_ Ao38 t161 co38 ∧ nb k_ Ao44 t167 co44) ∧ nb k_ Ao17 t131 co17) ∧ nb k_ Ao18 t134 co18) ∧ nb k_ Ao19 t137 co19) ∧ nb k_ Ao22 t140 co22) ∧ nb k_ Ao25 t143 co25) ∧ nb k_ Ao26 t146 co26) ∧ nb k_ Ao30 t151 co30) ∧ nb k_ Ao34 t154 co34) ∧ nb k_ Ao35 t157 co35)) (n := t164.length) (c := co43) ?_).2.2; exact (by exact fa HO166.out BK171.out)); (case side4 => exact (Kd.R_reads' HO166.out).2.1); (case side5 => refine (Kd.R_reads' (e := 2) (base := w.heap.size) (ok := fun k_ => ((((((((((nb k_ Ao38 t161 co38 ∧ nb k_ Ao43 t164 co43) ∧ nb k_ Ao17 t131 co17) ∧ nb k_ Ao18 t134 co18) ∧ nb k_ Ao19 t137 co19) ∧ nb k_ Ao22 t140 co22) ∧ nb k_ Ao25 t143 co25) ∧ nb k_ Ao26 t146 co26) ∧ nb k_ Ao30 t151 co30) ∧ nb k_ Ao34 t154 co34) ∧ nb k_ Ao35 t157 co35)) (n := t167.length) (c := co44) ?_).2.2; exact (by exact fa HO169.out BK171.out)); (case side6 => exact (Kd.R_reads' HO169.out).2.1); (case side7 => refine (Kd.R_reads' (e := 2) (base := w.heap.size) (ok := fun k_ => ((((((((((nb k_ Ao25 t143 co25 ∧ nb k_ Ao26 t146 co26) ∧ nb k_ Ao17 t131 co17) ∧ nb k_ Ao18 t134 co18) ∧ nb k_ Ao19 t137 co19) ∧ nb k_ Ao30 t151 co30) ∧ nb k_ Ao34 t154 co34) ∧ nb k_ Ao35 t157 co35) ∧ nb k_ Ao38 t161 co38) ∧ nb k_ Ao43 t164 co43) ∧ nb k_ Ao44 t167 co44)) (n := t140.length) (c := co22) ?_).2.2; exact (by exact fa HO142.out BK171.out)); (case side8 => exact (Kd.R_reads' HO142.out).2.1); (case side9 => refine (Kd.R_reads' (e := 2) (base := w.heap.size) (ok := fun k_ => ((((((((((nb k_ Ao22 t140 co22 ∧ nb k_ Ao26 t146 co26) ∧ nb k_ Ao17 t131 co17) ∧ nb k_ Ao18 t134 co18) ∧ nb k_ Ao19 t137 co19) ∧ nb k_ Ao30 t151 co30) ∧ nb k_ Ao34 t154 co34) ∧ nb k_ Ao35 t157 co35) ∧ nb k_ Ao38 t161 co38) ∧ nb k_ Ao43 t164 co43) ∧ nb k_ Ao44 t167 co44)) (n := t143.length) (c := co25) ?_).2.2; exact (by exact fa HO145.out BK171.out)); (case side10 => exact (Kd.R_reads' HO145.out).2.1); (case side11 => refine (Kd.R_reads' (e := 2) (base := w.heap.size) (ok := fun k_ => ((((((((((nb k_ Ao22 t140 co22 ∧ nb k_ Ao25 t143 co25) ∧ nb k_ Ao17 t131 co17) ∧ nb k_ Ao18 t134 co18) ∧ nb k_ Ao19 t137 co19) ∧ nb k_ Ao30 t151 co30) ∧ nb k_ Ao34 t154 co34) ∧ nb k_ Ao35 t157 co35) ∧ nb k_ Ao38 t161 co38) ∧ nb k_ Ao43 t164 co43) ∧ nb k_ Ao44 t167 co44)) (n := t146.length) (c := co26) ?_).2.2; exact (by exact fa HO148.out BK171.out)); (case side12 => exact (Kd.R_reads' HO148.out).2.1); rintro e w54 ⟨rfl, hb⟩; refine ⟨_, rfl, ?_⟩; have n0_ := mk0 (Kd.R_below (by exact fa HO133.out BK171.out) hb); have n1_ := mk0 (Kd.R_below (by exact fa HO136.out BK171.out) hb); have n2_ := mk0 (Kd.R_below (by exact fa HO139.out BK171.out) hb); have n3_ := mk0 (Kd.R_below (by exact fa HO142.out BK171.out) hb); have n4_ := mk0 (Kd.R_below (by exact fa HO145.out BK171.out) hb); have n5_ := mk0 (Kd.R_below (by exact fa HO148.out BK171.out) hb); have n6_ := mk0 (Kd.R_below (by exact fa HO153.out BK171.out) hb); have n7_ := mk0 (Kd.R_below (by exact fa HO156.out BK171.out) hb); have n8_ := mk0 (Kd.R_below (by exact fa HO159.out BK171.out) hb); have n9_ := mk0 (Kd.R_below (by exact fa HO163.out BK171.out) hb); have n10_ := mk0 (Kd.R_below (by exact fa HO166.out BK171.out) hb); have n11_ := mk0 (Kd.R_below (by exact fa HO169.out BK171.out) hb); have n12_ := mk0 (blk_below (g := gb129) (o := .cells #[.slice A0_0 l0_0.length c0_0, .slice A0_1 l0_1.length c0_1, .slice A0_2 l0_2.length c0_2] 39 (0, 0)) (by refine blk_far ?_ NB129_171.out _; refine blk_far ?_ NB129_171.out _; refine blk_far ?_ NB129_171.out _; exact BK129.out) hb); have n13_ := mk0 (blk_below (g := gb150) (o := .cells #[.slice Ao22 t140.length co22, .slice Ao25 t143.length co25, .slice Ao26 t146.length co26] 41 (0, 0)) (by refine blk_far ?_ NB150_171.out _; refine blk_far ?_ NB150_171.out _; refine blk_far ?_ NB150_171.out _; exact BK150.out) hb); have n14_ := mk0 (blk_below (g := gb160) (o := .cells #[.slice Ao30 t151.length co30, .slice Ao34 t154.length co34, .slice Ao35 t157.length co35] 41 (0, 0)) (by refine blk_far ?_ NB160_171.out _; refine blk_far ?_ NB160_171.out _; refine blk_far ?_ NB160_171.out _; exact BK160.out) hb); have n15_ := mk0 (blk_below (g := gb171) (o := .cells #[.slice Ao38 t161.length co38, .slice Ao43 t164.length co43, .slice Ao44 t167.length co44] 41 (0, 0)) (by refine blk_put (cs := #[.slice Ao38 t161.length co38, .slice Ao43 t164.length co43, .slice none 0 0]) ?_ 2 _ rfl; refine blk_put (cs := #[.slice Ao38 t161.length co38, .slice none 0 0, .slice none 0 0]) ?_ 1 _ rfl; refine blk_put (cs := #[.slice none 0 0, .slice none 0 0, .slice none 0 0]) ?_ 0 _ rfl; exact BK171.out) hb); have n16_ := mk0 (below_step (by repeat (first | (with_reducible first | exact HB.out | apply below_alloc | apply pw_below_drewN | apply below_drew1 | refine below_set ?_ GE129.out | refine below_set ?_ GE150.out | refine below_set ?_ GE160.out | refine below_set ?_ GE171.out) | exact HB.out)) hb); clear HO133; clear HO136; clear HO139; clear HO142; clear HO145; clear HO148; clear HO153; clear HO156; clear HO159; clear HO163; clear HO166; clear HO169; clear BK129; clear BK150; clear BK160; clear BK171; clear HB; have HO133 := n0_; have HO136 := n1_; have HO139 := n2_; have HO142 := n3_; have HO145 := n4_; have HO148 := n5_; have HO153 := n6_; have HO156 := n7_; have HO159 := n8_; have HO163 := n9_; have HO166 := n10_; have HO169 := n11_; have BK129 := n12_; have BK150 := n13_; have BK160 := n14_; have BK171 := n15_; have HB := n16_; clear n0_ n1_ n2_ n3_ n4_ n5_ n6_ n7_ n8_ n9_ n10_ n11_ n12_ n13_ n14_ n15_ n16_; (try clear hb); (try clear hb2); (try clear hk); (try clear hi)))
        go_meet
        case rel => exact ⟨_, ((t170 != t149)), (by first | rfl | (simp; done) | (simp [*]; done)), H', ⟨by first | omega | exact Nat.le_refl _⟩, ⟨by exact Kd.R_mono HO142.out (fun _ hk => ⟨hk.1.1.1.1.1.1.1.1.1.1, ⟨hk.1.1.1.1.1.1.1.1.1.2, ⟨hk.1.1.1.1.1.2, ⟨hk.1.1.1.1.2, ⟨hk.1.1.1.2, ⟨hk.1.1.2, ⟨hk.1.2, hk.2⟩⟩⟩⟩⟩⟩⟩)⟩, ⟨by exact Kd.R_mono HO145.out (fun _ hk => ⟨hk.1.1.1.1.1.1.1.1.1.1, ⟨hk.1.1.1.1.1.1.1.1.1.2, ⟨hk.1.1.1.1.1.2, ⟨hk.1.1.1.1.2, ⟨hk.1.1.1.2, ⟨hk.1.1.2, ⟨hk.1.2, hk.2⟩⟩⟩⟩⟩⟩⟩)⟩, ⟨by exact Kd.R_mono HO148.out (fun _ hk => ⟨hk.1.1.1.1.1.1.1.1.1.1, ⟨hk.1.1.1.1.1.1.1.1.1.2, ⟨hk.1.1.1.1.1.2, ⟨hk.1.1.1.1.2, ⟨hk.1.1.1.2, ⟨hk.1.1.2, ⟨hk.1.2, hk.2⟩⟩⟩⟩⟩⟩⟩)⟩, ⟨by exact Kd.R_mono HO153.out (fun _ hk => ⟨hk.1.1.1.1.1.2, ⟨hk.1.1.1.1.2, ⟨hk.1.1.1.2, ⟨hk.1.1.1.1.1.1.1.1.1.1, ⟨hk.1.1.1.1.1.1.1.1.1.2, ⟨hk.1.1.2, ⟨hk.1.2, hk.2⟩⟩⟩⟩⟩⟩⟩)⟩, ⟨by exact Kd.R_mono HO156.out (fun _ hk => ⟨hk.1.1.1.1.1.2, ⟨hk.1.1.1.1.2, ⟨hk.1.1.1.2, ⟨hk.1.1.1.1.1.1.1.1.1.1, ⟨hk.1.1.1.1.1.1.1.1.1.2, ⟨hk.1.1.2, ⟨hk.1.2, hk.2⟩⟩⟩⟩⟩⟩⟩)⟩, ⟨by exact Kd.R_mono HO159.out (fun _ hk => ⟨hk.1.1.1.1.1.2, ⟨hk.1.1.1.1.2, ⟨hk.1.1.1.2, ⟨hk.1.1.1.1.1.1.1.1.1.1, ⟨hk.1.1.1.1.1.1.1.1.1.2, ⟨hk.1.1.2, ⟨hk.1.2, hk.2⟩⟩⟩⟩⟩⟩⟩)⟩, ⟨by exact Kd.R_mono HO163.out (fun _ hk => ⟨hk.1.1.1.1.1.2, ⟨hk.1.1.1.1.2, ⟨hk.1.1.1.2, ⟨hk.1.1.2, ⟨hk.1.2, ⟨hk.2, ⟨hk.1.1.1.1.1.1.1.1.1.1, hk.1.1.1.1.1.1.1.1.1.2⟩⟩⟩⟩⟩⟩⟩)⟩, ⟨by exact Kd.R_mono HO166.out (fun _ hk => ⟨hk.1.1.1.1.1.2, ⟨hk.1.1.1.1.2, ⟨hk.1.1.1.2, ⟨hk.1.1.2, ⟨hk.1.2, ⟨hk.2, ⟨hk.1.1.1.1.1.1.1.1.1.1, hk.1.1.1.1.1.1.1.1.1.2⟩⟩⟩⟩⟩⟩⟩)⟩, ⟨by exact Kd.R_mono HO169.out (fun _ hk => ⟨hk.1.1.1.1.1.2, ⟨hk.1.1.1.1.2, ⟨hk.1.1.1.2, ⟨hk.1.1.2, ⟨hk.1.2, ⟨hk.2, ⟨hk.1.1.1.1.1.1.1.1.1.1, hk.1.1.1.1.1.1.1.1.1.2⟩⟩⟩⟩⟩⟩⟩)⟩, ⟨by exact BK129.out⟩, ⟨by exact BK150.out⟩, ⟨by exact BK160.out⟩, ⟨by exact BK171.out⟩, ⟨by repeat (first | (with_reducible first | exact HB.out | apply below_alloc | apply pw_below_drewN | apply below_drew1 | refine below_set ?_ GE129.out | refine below_set ?_ GE150.out | refine below_set ?_ GE160.out | refine below_set ?_ GE171.out) | exact HB.out)⟩⟩
      · replace c46 := Bool.eq_false_iff.mpr c46
        subst c46
        have H1 : (laws_FnExactReverseGauss.j0 k t149 t170 true l0_0 l0_1 l0_2 t140 t143 t146 t151 t154 t157 t161 t164 t167) = some r := by rw [if_neg (show ¬ (false = true) by decide)] at H; exact H
        clear H
        have H := H1
        clear H1
        have H' := Aside0.mk H
        clear H
        have hnb55 := NB171_129.out
        have hnc55 := NB129_171.out
        have hnb56 := NB171_150.out
        have hnc56 := NB150_171.out
        have hnb57 := NB171_160.out
        have hnc57 := NB160_171.out
        have hcz58_0 : w37.cell? ⟨gb171, 0, none⟩ = some (.slice none 0 0) := (blk_cell BK171.out 0).trans rfl
        have hcz58_1 : w37.cell? ⟨gb171, 1, none⟩ = some (.slice none 0 0) := (blk_cell BK171.out 1).trans rfl
        have hcz58_2 : w37.cell? ⟨gb171, 2, none⟩ = some (.slice none 0 0) := (blk_cell BK171.out 2).trans rfl
        have hfz58_0 := blk_frozen BK171.out 0
        have hfz58_1 := blk_frozen BK171.out 1
        have hfz58_2 := blk_frozen BK171.out 2
        have hnb59 := NB150_129.out
        have hnc59 := NB129_150.out
        have hnb60 := NB150_160.out
        have hnc60 := NB160_150.out
        have hcz61_0 : w37.cell? ⟨gb150, 0, none⟩ = some (.slice Ao22 t140.length co22) := (blk_cell BK150.out 0).trans rfl
        have hcz61_1 : w37.cell? ⟨gb150, 1, none⟩ = some (.slice Ao25 t143.length co25) := (blk_cell BK150.out 1).trans rfl
        have hcz61_2 : w37.cell? ⟨gb150, 2, none⟩ = some (.slice Ao26 t146.length co26) := (blk_cell BK150.out 2).trans rfl
        have hfz61_0 := blk_frozen BK150.out 0
        have hfz61_1 := blk_frozen BK150.out 1
        have hfz61_2 := blk_frozen BK150.out 2
        go_wp2_with (first | ((with_reducible refine gate_callee (f := 36) rfl ?_); refine goesL_ (some 34) rfl rfl Try.func36 (by kernel_rfl) rfl #[.agg #[.slice Ao38 t161.length co38, .slice Ao43 t164.length co43, .slice Ao44 t167.length co44], .agg #[.slice Ao22 t140.length co22, .slice Ao25 t143.length co25, .slice Ao26 t146.length co26]] rfl (by (try simp only [List.map_toArray, List.map_cons, List.map_nil]); rfl) ?_; (with_reducible refine (laws_eqGauss.calls k _ _ t161 _ _ t164 _ _ t167 _ _ t140 _ _ t143 _ _ t146 false _ ?side1 ?side2 ?side3 ?side4 ?side5 ?side6 ?side7 ?side8 ?side9 ?side10 ?side11 ?side12 A45.out).mono ?_); (case side1 => refine (Kd.R_reads' (e := 2) (base := w.heap.size) (ok := fun k_ => ((((((((((nb k_ Ao43 t164 co43 ∧ nb k_ Ao44 t167 co44) ∧ nb k_ Ao17 t131 co17) ∧ nb k_ Ao18 t134 co18) ∧ nb k_ Ao19 t137 co19) ∧ nb k_ Ao22 t140 co22) ∧ nb k_ Ao25 t143 co25) ∧ nb k_ Ao26 t146 co26) ∧ nb k_ Ao30 t151 co30) ∧ nb k_ Ao34 t154 co34) ∧ nb k_ Ao35 t157 co35)) (n := t161.length) (c := co38) ?_).2.2; exact (by exact fa HO163.out BK171.out)); (case side2 => exact (Kd.R_reads' HO163.out).2.1); (case side3 => refine (Kd.R_reads' (e := 2) (base := w.heap.size) (ok := fun k_ => ((((((((((nb k_ Ao38 t161 co38 ∧ nb k_ Ao44 t167 co44) ∧ nb k_ Ao17 t131 co17) ∧ nb k_ Ao18 t134 co18) ∧ nb k_ Ao19 t137 co19) ∧ nb k_ Ao22 t140 co22) ∧ nb k_ Ao25 t143 co25) ∧ nb k_ Ao26 t146 co26) ∧ nb k_ Ao30 t151 co30) ∧ nb k_ Ao34 t154 co34) ∧ nb k_ Ao35 t157 co35)) (n := t164.length) (c := co43) ?_).2.2; exact (by exact fa HO166.out BK171.out)); (case side4 => exact (Kd.R_reads' HO166.out).2.1); (case side5 => refine (Kd.R_reads' (e := 2) (base := w.heap.size) (ok := fun k_ => ((((((((((nb k_ Ao38 t161 co38 ∧ nb k_ Ao43 t164 co43) ∧ nb k_ Ao17 t131 co17) ∧ nb k_ Ao18 t134 co18) ∧ nb k_ Ao19 t137 co19) ∧ nb k_ Ao22 t140 co22) ∧ nb k_ Ao25 t143 co25) ∧ nb k_ Ao26 t146 co26) ∧ nb k_ Ao30 t151 co30) ∧ nb k_ Ao34 t154 co34) ∧ nb k_ Ao35 t157 co35)) (n := t167.length) (c := co44) ?_).2.2; exact (by exact fa HO169.out BK171.out)); (case side6 => exact (Kd.R_reads' HO169.out).2.1); (case side7 => refine (Kd.R_reads' (e := 2) (base := w.heap.size) (ok := fun k_ => ((((((((((nb k_ Ao25 t143 co25 ∧ nb k_ Ao26 t146 co26) ∧ nb k_ Ao17 t131 co17) ∧ nb k_ Ao18 t134 co18) ∧ nb k_ Ao19 t137 co19) ∧ nb k_ Ao30 t151 co30) ∧ nb k_ Ao34 t154 co34) ∧ nb k_ Ao35 t157 co35) ∧ nb k_ Ao38 t161 co38) ∧ nb k_ Ao43 t164 co43) ∧ nb k_ Ao44 t167 co44)) (n := t140.length) (c := co22) ?_).2.2; exact (by exact fa HO142.out BK171.out)); (case side8 => exact (Kd.R_reads' HO142.out).2.1); (case side9 => refine (Kd.R_reads' (e := 2) (base := w.heap.size) (ok := fun k_ => ((((((((((nb k_ Ao22 t140 co22 ∧ nb k_ Ao26 t146 co26) ∧ nb k_ Ao17 t131 co17) ∧ nb k_ Ao18 t134 co18) ∧ nb k_ Ao19 t137 co19) ∧ nb k_ Ao30 t151 co30) ∧ nb k_ Ao34 t154 co34) ∧ nb k_ Ao35 t157 co35) ∧ nb k_ Ao38 t161 co38) ∧ nb k_ Ao43 t164 co43) ∧ nb k_ Ao44 t167 co44)) (n := t143.length) (c := co25) ?_).2.2; exact (by exact fa HO145.out BK171.out)); (case side10 => exact (Kd.R_reads' HO145.out).2.1); (case side11 => refine (Kd.R_reads' (e := 2) (base := w.heap.size) (ok := fun k_ => ((((((((((nb k_ Ao22 t140 co22 ∧ nb k_ Ao25 t143 co25) ∧ nb k_ Ao17 t131 co17) ∧ nb k_ Ao18 t134 co18) ∧ nb k_ Ao19 t137 co19) ∧ nb k_ Ao30 t151 co30) ∧ nb k_ Ao34 t154 co34) ∧ nb k_ Ao35 t157 co35) ∧ nb k_ Ao38 t161 co38) ∧ nb k_ Ao43 t164 co43) ∧ nb k_ Ao44 t167 co44)) (n := t146.length) (c := co26) ?_).2.2; exact (by exact fa HO148.out BK171.out)); (case side12 => exact (Kd.R_reads' HO148.out).2.1); rintro e w62 ⟨rfl, hb⟩; refine ⟨_, rfl, ?_⟩; have n0_ := mk0 (Kd.R_below (by exact fa HO133.out BK171.out) hb); have n1_ := mk0 (Kd.R_below (by exact fa HO136.out BK171.out) hb); have n2_ := mk0 (Kd.R_below (by exact fa HO139.out BK171.out) hb); have n3_ := mk0 (Kd.R_below (by exact fa HO142.out BK171.out) hb); have n4_ := mk0 (Kd.R_below (by exact fa HO145.out BK171.out) hb); have n5_ := mk0 (Kd.R_below (by exact fa HO148.out BK171.out) hb); have n6_ := mk0 (Kd.R_below (by exact fa HO153.out BK171.out) hb); have n7_ := mk0 (Kd.R_below (by exact fa HO156.out BK171.out) hb); have n8_ := mk0 (Kd.R_below (by exact fa HO159.out BK171.out) hb); have n9_ := mk0 (Kd.R_below (by exact fa HO163.out BK171.out) hb); have n10_ := mk0 (Kd.R_below (by exact fa HO166.out BK171.out) hb); have n11_ := mk0 (Kd.R_below (by exact fa HO169.out BK171.out) hb); have n12_ := mk0 (blk_below (g := gb129) (o := .cells #[.slice A0_0 l0_0.length c0_0, .slice A0_1 l0_1.length c0_1, .slice A0_2 l0_2.length c0_2] 39 (0, 0)) (by refine blk_far ?_ NB129_171.out _; refine blk_far ?_ NB129_171.out _; refine blk_far ?_ NB129_171.out _; exact BK129.out) hb); have n13_ := mk0 (blk_below (g := gb150) (o := .cells #[.slice Ao22 t140.length co22, .slice Ao25 t143.length co25, .slice Ao26 t146.length co26] 41 (0, 0)) (by refine blk_far ?_ NB150_171.out _; refine blk_far ?_ NB150_171.out _; refine blk_far ?_ NB150_171.out _; exact BK150.out) hb); have n14_ := mk0 (blk_below (g := gb160) (o := .cells #[.slice Ao30 t151.length co30, .slice Ao34 t154.length co34, .slice Ao35 t157.length co35] 41 (0, 0)) (by refine blk_far ?_ NB160_171.out _; refine blk_far ?_ NB160_171.out _; refine blk_far ?_ NB160_171.out _; exact BK160.out) hb); have n15_ := mk0 (blk_below (g := gb171) (o := .cells #[.slice Ao38 t161.length co38, .slice Ao43 t164.length co43, .slice Ao44 t167.length co44] 41 (0, 0)) (by refine blk_put (cs := #[.slice Ao38 t161.length co38, .slice Ao43 t164.length co43, .slice none 0 0]) ?_ 2 _ rfl; refine blk_put (cs := #[.slice Ao38 t161.length co38, .slice none 0 0, .slice none 0 0]) ?_ 1 _ rfl; refine blk_put (cs := #[.slice none 0 0, .slice none 0 0, .slice none 0 0]) ?_ 0 _ rfl; exact BK171.out) hb); have n16_ := mk0 (below_step (by repeat (first | (with_reducible first | exact HB.out | apply below_alloc | apply pw_below_drewN | apply below_drew1 | refine below_set ?_ GE129.out | refine below_set ?_ GE150.out | refine below_set ?_ GE160.out | refine below_set ?_ GE171.out) | exact HB.out)) hb); clear HO133; clear HO136; clear HO139; clear HO142; clear HO145; clear HO148; clear HO153; clear HO156; clear HO159; clear HO163; clear HO166; clear HO169; clear BK129; clear BK150; clear BK160; clear BK171; clear HB; have HO133 := n0_; have HO136 := n1_; have HO139 := n2_; have HO142 := n3_; have HO145 := n4_; have HO148 := n5_; have HO153 := n6_; have HO156 := n7_; have HO159 := n8_; have HO163 := n9_; have HO166 := n10_; have HO169 := n11_; have BK129 := n12_; have BK150 := n13_; have BK160 := n14_; have BK171 := n15_; have HB := n16_; clear n0_ n1_ n2_ n3_ n4_ n5_ n6_ n7_ n8_ n9_ n10_ n11_ n12_ n13_ n14_ n15_ n16_; (try clear hb); (try clear hb2); (try clear hk); (try clear hi)))
        go_meet
        case rel => exact ⟨_, (true), (by first | rfl | (simp; done) | (simp [*]; done)), H', ⟨by first | omega | exact Nat.le_refl _⟩, ⟨by exact Kd.R_mono HO142.out (fun _ hk => ⟨hk.1.1.1.1.1.1.1.1.1.1, ⟨hk.1.1.1.1.1.1.1.1.1.2, ⟨hk.1.1.1.1.1.2, ⟨hk.1.1.1.1.2, ⟨hk.1.1.1.2, ⟨hk.1.1.2, ⟨hk.1.2, hk.2⟩⟩⟩⟩⟩⟩⟩)⟩, ⟨by exact Kd.R_mono HO145.out (fun _ hk => ⟨hk.1.1.1.1.1.1.1.1.1.1, ⟨hk.1.1.1.1.1.1.1.1.1.2, ⟨hk.1.1.1.1.1.2, ⟨hk.1.1.1.1.2, ⟨hk.1.1.1.2, ⟨hk.1.1.2, ⟨hk.1.2, hk.2⟩⟩⟩⟩⟩⟩⟩)⟩, ⟨by exact Kd.R_mono HO148.out (fun _ hk => ⟨hk.1.1.1.1.1.1.1.1.1.1, ⟨hk.1.1.1.1.1.1.1.1.1.2, ⟨hk.1.1.1.1.1.2, ⟨hk.1.1.1.1.2, ⟨hk.1.1.1.2, ⟨hk.1.1.2, ⟨hk.1.2, hk.2⟩⟩⟩⟩⟩⟩⟩)⟩, ⟨by exact Kd.R_mono HO153.out (fun _ hk => ⟨hk.1.1.1.1.1.2, ⟨hk.1.1.1.1.2, ⟨hk.1.1.1.2, ⟨hk.1.1.1.1.1.1.1.1.1.1, ⟨hk.1.1.1.1.1.1.1.1.1.2, ⟨hk.1.1.2, ⟨hk.1.2, hk.2⟩⟩⟩⟩⟩⟩⟩)⟩, ⟨by exact Kd.R_mono HO156.out (fun _ hk => ⟨hk.1.1.1.1.1.2, ⟨hk.1.1.1.1.2, ⟨hk.1.1.1.2, ⟨hk.1.1.1.1.1.1.1.1.1.1, ⟨hk.1.1.1.1.1.1.1.1.1.2, ⟨hk.1.1.2, ⟨hk.1.2, hk.2⟩⟩⟩⟩⟩⟩⟩)⟩, ⟨by exact Kd.R_mono HO159.out (fun _ hk => ⟨hk.1.1.1.1.1.2, ⟨hk.1.1.1.1.2, ⟨hk.1.1.1.2, ⟨hk.1.1.1.1.1.1.1.1.1.1, ⟨hk.1.1.1.1.1.1.1.1.1.2, ⟨hk.1.1.2, ⟨hk.1.2, hk.2⟩⟩⟩⟩⟩⟩⟩)⟩, ⟨by exact Kd.R_mono HO163.out (fun _ hk => ⟨hk.1.1.1.1.1.2, ⟨hk.1.1.1.1.2, ⟨hk.1.1.1.2, ⟨hk.1.1.2, ⟨hk.1.2, ⟨hk.2, ⟨hk.1.1.1.1.1.1.1.1.1.1, hk.1.1.1.1.1.1.1.1.1.2⟩⟩⟩⟩⟩⟩⟩)⟩, ⟨by exact Kd.R_mono HO166.out (fun _ hk => ⟨hk.1.1.1.1.1.2, ⟨hk.1.1.1.1.2, ⟨hk.1.1.1.2, ⟨hk.1.1.2, ⟨hk.1.2, ⟨hk.2, ⟨hk.1.1.1.1.1.1.1.1.1.1, hk.1.1.1.1.1.1.1.1.1.2⟩⟩⟩⟩⟩⟩⟩)⟩, ⟨by exact Kd.R_mono HO169.out (fun _ hk => ⟨hk.1.1.1.1.1.2, ⟨hk.1.1.1.1.2, ⟨hk.1.1.1.2, ⟨hk.1.1.2, ⟨hk.1.2, ⟨hk.2, ⟨hk.1.1.1.1.1.1.1.1.1.1, hk.1.1.1.1.1.1.1.1.1.2⟩⟩⟩⟩⟩⟩⟩)⟩, ⟨by exact BK129.out⟩, ⟨by exact BK150.out⟩, ⟨by exact BK160.out⟩, ⟨by exact BK171.out⟩, ⟨by repeat (first | (with_reducible first | exact HB.out | apply below_alloc | apply pw_below_drewN | apply below_drew1 | refine below_set ?_ GE129.out | refine below_set ?_ GE150.out | refine below_set ?_ GE160.out | refine below_set ?_ GE171.out) | exact HB.out)⟩⟩
    case rest =>
      clear HC11
      try clear c2
      try clear p2
      try clear c3
      try clear c3b0
      try clear c4
      try clear c5
      try clear c6
      try clear c9
      try clear c23
      try clear c31
      try clear c32
      try clear c33
      try clear c34
      try clear c35
      try clear c36
      try clear c39
      try clear c40
      try clear c41
      try clear c46
      try clear c47
      try clear c48
      try clear c49
      try clear c51
      try clear c52
      try clear c55
      try clear c56
      try clear c57
      try clear c59
      try clear c60
      try clear hcz13_0
      try clear hcz13_1
      try clear hcz13_2
      try clear hcz15_0
      try clear hcz15_1
      try clear hcz15_2
      try clear hcz24_0
      try clear hcz24_1
      try clear hcz24_2
      try clear hcz27_0
      try clear hcz27_1
      try clear hcz27_2
      try clear hcz33_0
      try clear hcz33_1
      try clear hcz33_2
      try clear hcz42_0
      try clear hcz42_1
      try clear hcz42_2
      try clear hcz50_0
      try clear hcz50_1
      try clear hcz50_2
      try clear hcz53_0
      try clear hcz53_1
      try clear hcz53_2
      try clear hcz58_0
      try clear hcz58_1
      try clear hcz58_2
      try clear hcz5_0
      try clear hcz5_1
      try clear hcz5_2
      try clear hcz61_0
      try clear hcz61_1
      try clear hcz61_2
      try clear hfz13_0
      try clear hfz13_1
      try clear hfz13_2
      try clear hfz15_0
      try clear hfz15_1
      try clear hfz15_2
      try clear hfz24_0
      try clear hfz24_1
      try clear hfz24_2
      try clear hfz27_0
      try clear hfz27_1
      try clear hfz27_2
      try clear hfz33_0
      try clear hfz33_1
      try clear hfz33_2
      try clear hfz42_0
      try clear hfz42_1
      try clear hfz42_2
      try clear hfz50_0
      try clear hfz50_1
      try clear hfz50_2
      try clear hfz53_0
      try clear hfz53_1
      try clear hfz53_2
      try clear hfz58_0
      try clear hfz58_1
      try clear hfz58_2
      try clear hfz5_0
      try clear hfz5_1
      try clear hfz5_2
      try clear hfz61_0
      try clear hfz61_1
      try clear hfz61_2
      obtain ⟨kq, x40_10, rfl, HA, HJ10, HO_151000, HO_151001, HO_151002, HO_161000, HO_161001, HO_161002, HO_172000, HO_172001, HO_172002, BK129, BK150, BK160, BK171, HB⟩ := hcut
      cases kq with
      | zero => exact absurd HA.out (by simp [laws_FnExactReverseGauss.j0])
      | succ kj10 =>
        have H := HA.out
        clear HA
        simp only [laws_FnExactReverseGauss.j0] at H
        by_cases c63 : x40_10 = true
        · subst c63
          have H1 : (some false) = some r := by rw [if_pos rfl] at H; exact H
          clear H
          have H := H1
          clear H1
          obtain rfl := Option.some.inj H
          go_wp2
          go_ret
          exact ⟨by first | rfl | (simp [errW_none, errW_some] <;> rfl) | (simp [*, errW_none, errW_some] <;> rfl), by repeat (first | (with_reducible first | exact HB.out | apply below_alloc | apply pw_below_drewN | apply below_drew1 | refine below_set ?_ GE129.out | refine below_set ?_ GE150.out | refine below_set ?_ GE160.out | refine below_set ?_ GE171.out) | exact HB.out)⟩
        · replace c63 := Bool.eq_false_iff.mpr c63
          subst c63
          have H1 : ((laws_toGauss.f kj10 l0_0 l0_1 l0_2).bind fun bt173 => ((laws_eqGauss.f kj10 t151 t154 t157 bt173.1 bt173.2.1 bt173.2.2).bind fun t182 => (if t182 = true then ((laws_markGauss.f kj10 t151 t154 t157 1).bind fun bt183 => (if bt183.1 < 0 then (laws_FnExactReverseGauss.j1 kj10 t149 true l0_0 l0_1 l0_2 t140 t143 t146 t161 t164 t167) else ((laws_eqGauss.f kj10 t161 t164 t167 t140 t143 t146).bind fun t187 => (if t187 = true then (laws_FnExactReverseGauss.j1 kj10 t149 (t170 != t149) l0_0 l0_1 l0_2 t140 t143 t146 t161 t164 t167) else (laws_FnExactReverseGauss.j1 kj10 t149 true l0_0 l0_1 l0_2 t140 t143 t146 t161 t164 t167))))) else (some false)))) = some r := by rw [if_neg (show ¬ (false = true) by decide)] at H; exact H
          clear H
          have H := H1
          clear H1
          replace H := Option.bind_eq_some_iff.mp H
          obtain ⟨⟨t173, t176, t179⟩, A640, H⟩ := H
          replace H : ((laws_eqGauss.f kj10 t151 t154 t157 t173 t176 t179).bind fun t182 => (if t182 = true then ((laws_markGauss.f kj10 t151 t154 t157 1).bind fun bt183 => (if bt183.1 < 0 then (laws_FnExactReverseGauss.j1 kj10 t149 true l0_0 l0_1 l0_2 t140 t143 t146 t161 t164 t167) else ((laws_eqGauss.f kj10 t161 t164 t167 t140 t143 t146).bind fun t187 => (if t187 = true then (laws_FnExactReverseGauss.j1 kj10 t149 (t170 != t149) l0_0 l0_1 l0_2 t140 t143 t146 t161 t164 t167) else (laws_FnExactReverseGauss.j1 kj10 t149 true l0_0 l0_1 l0_2 t140 t143 t146 t161 t164 t167))))) else (some false))) = some r := H
          have A64 := Aside0.mk A640
          clear A640
          replace H := Option.bind_eq_some_iff.mp H
          obtain ⟨t182, A650, H⟩ := H
          replace H : (if t182 = true then ((laws_markGauss.f kj10 t151 t154 t157 1).bind fun bt183 => (if bt183.1 < 0 then (laws_FnExactReverseGauss.j1 kj10 t149 true l0_0 l0_1 l0_2 t140 t143 t146 t161 t164 t167) else ((laws_eqGauss.f kj10 t161 t164 t167 t140 t143 t146).bind fun t187 => (if t187 = true then (laws_FnExactReverseGauss.j1 kj10 t149 (t170 != t149) l0_0 l0_1 l0_2 t140 t143 t146 t161 t164 t167) else (laws_FnExactReverseGauss.j1 kj10 t149 true l0_0 l0_1 l0_2 t140 t143 t146 t161 t164 t167))))) else (some false)) = some r := H
          have A65 := Aside0.mk A650
          clear A650
          by_cases c66 : t182 = true
          · subst c66
            have H1 : ((laws_markGauss.f kj10 t151 t154 t157 1).bind fun bt183 => (if bt183.1 < 0 then (laws_FnExactReverseGauss.j1 kj10 t149 true l0_0 l0_1 l0_2 t140 t143 t146 t161 t164 t167) else ((laws_eqGauss.f kj10 t161 t164 t167 t140 t143 t146).bind fun t187 => (if t187 = true then (laws_FnExactReverseGauss.j1 kj10 t149 (t170 != t149) l0_0 l0_1 l0_2 t140 t143 t146 t161 t164 t167) else (laws_FnExactReverseGauss.j1 kj10 t149 true l0_0 l0_1 l0_2 t140 t143 t146 t161 t164 t167))))) = some r := by rw [if_pos rfl] at H; exact H
            clear H
            have H := H1
            clear H1
            replace H := Option.bind_eq_some_iff.mp H
            obtain ⟨⟨t183, t184, t185, t186⟩, A670, H⟩ := H
            replace H : (if t183 < 0 then (laws_FnExactReverseGauss.j1 kj10 t149 true l0_0 l0_1 l0_2 t140 t143 t146 t161 t164 t167) else ((laws_eqGauss.f kj10 t161 t164 t167 t140 t143 t146).bind fun t187 => (if t187 = true then (laws_FnExactReverseGauss.j1 kj10 t149 (t170 != t149) l0_0 l0_1 l0_2 t140 t143 t146 t161 t164 t167) else (laws_FnExactReverseGauss.j1 kj10 t149 true l0_0 l0_1 l0_2 t140 t143 t146 t161 t164 t167)))) = some r := H
            have A67 := Aside0.mk A670
            clear A670
            have HC68 := Aside0.mk H
            clear H
            try go_wp2
            have n0_ := mk0 (Kd.R_drew HO_151000.out)
            have n1_ := mk0 (Kd.R_drew HO_151001.out)
            have n2_ := mk0 (Kd.R_drew HO_151002.out)
            have n3_ := mk0 (Kd.R_drew HO_161000.out)
            have n4_ := mk0 (Kd.R_drew HO_161001.out)
            have n5_ := mk0 (Kd.R_drew HO_161002.out)
            have n6_ := mk0 (Kd.R_drew HO_172000.out)
            have n7_ := mk0 (Kd.R_drew HO_172001.out)
            have n8_ := mk0 (Kd.R_drew HO_172002.out)
            have n9_ := mk0 (blk_drew BK129.out)
            have n10_ := mk0 (blk_drew BK150.out)
            have n11_ := mk0 (blk_drew BK160.out)
            have n12_ := mk0 (blk_drew BK171.out)
            have n13_ := mk0 (below_drew1 HB.out)
            clear HO_151000
            clear HO_151001
            clear HO_151002
            clear HO_161000
            clear HO_161001
            clear HO_161002
            clear HO_172000
            clear HO_172001
            clear HO_172002
            clear BK129
            clear BK150
            clear BK160
            clear BK171
            clear HB
            have HO_151000 := n0_
            have HO_151001 := n1_
            have HO_151002 := n2_
            have HO_161000 := n3_
            have HO_161001 := n4_
            have HO_161002 := n5_
            have HO_172000 := n6_
            have HO_172001 := n7_
            have HO_172002 := n8_
            have BK129 := n9_
            have BK150 := n10_
            have BK160 := n11_
            have BK171 := n12_
            have HB := n13_
            clear n0_ n1_ n2_ n3_ n4_ n5_ n6_ n7_ n8_ n9_ n10_ n11_ n12_ n13_
            refine start_ (n := 5) (S := fun w' => w'.cell? ⟨gb160, 0, none⟩ = some (.slice Ao30 t151.length co30) ∧ w'.cell? ⟨gb160, 1, none⟩ = some (.slice Ao34 t154.length co34) ∧ w'.cell? ⟨gb160, 2, none⟩ = some (.slice Ao35 t157.length co35) ∧ w'.cell? ⟨gb129, 0, none⟩ = some (.slice A0_0 l0_0.length c0_0) ∧ w'.cell? ⟨gb129, 1, none⟩ = some (.slice A0_1 l0_1.length c0_1) ∧ w'.cell? ⟨gb129, 2, none⟩ = some (.slice A0_2 l0_2.length c0_2)) (ds := []) #[false, false, false, false, false] (by kernel_rfl) rfl rfl ⟨(blk_cell BK160.out 0).trans rfl, (blk_cell BK160.out 1).trans rfl, (blk_cell BK160.out 2).trans rfl, (blk_cell BK129.out 0).trans rfl, (blk_cell BK129.out 1).trans rfl, (blk_cell BK129.out 2).trans rfl⟩ (fun hHeld => ?_)
            generalize wc.drew = w69 at HO_151000 HO_151001 HO_151002 HO_161000 HO_161001 HO_161002 HO_172000 HO_172001 HO_172002 BK129 BK150 BK160 BK171 HB hHeld ⊢
            refine take_ (i := 0) (N := some 41) (v := ?_) (a' := ?_) #[true, false, false, false, false] rfl rfl (by kernel_rfl) (fun _ _ _ h => h) (Or.inl ⟨by rfl, ?_⟩) hHeld ?_ ?_
            rotate_left
            · rintro w' ⟨s0, s1, s2, s3, s4, s5⟩
              go_simp
              with_reducible rfl
            rotate_left
            · simp only [Act.put, List.setIfInBounds_toArray, List.set_cons_zero, List.set_cons_succ, i64_w, i32_w]
              rfl
            refine take_ (i := 1) (N := some 42) (v := ?_) (a' := ?_) #[true, true, false, false, false] rfl rfl (by kernel_rfl) (fun _ _ _ h => h) (Or.inl ⟨by rfl, ?_⟩) hHeld ?_ ?_
            rotate_left
            · rintro w' ⟨s0, s1, s2, s3, s4, s5⟩
              go_simp
              with_reducible rfl
            rotate_left
            · simp only [Act.put, List.setIfInBounds_toArray, List.set_cons_zero, List.set_cons_succ, i64_w, i32_w]
              rfl
            refine one_ (i := 2) (N := some 43) #[true, true, true, false, false] rfl rfl (by kernel_rfl) (by decide) (fun K hK => ?_)
            refine goes_ Try.func34 (by kernel_rfl) rfl #[.agg #[.slice A0_0 l0_0.length c0_0, .slice A0_1 l0_1.length c0_1, .slice A0_2 l0_2.length c0_2]] (by rfl) rfl rfl (by (try simp only [List.map_toArray, List.map_cons, List.map_nil]); rfl) ?_
            with_reducible refine (laws_toGauss.calls kj10 _ _ l0_0 _ _ l0_1 _ _ l0_2 t173 t176 t179 _ ?side1 ?side2 ?side3 ?side4 ?side5 ?side6 A64.out).mono ?_
            (case side1 => exact (Kd.C_below HR0_0.out HB.out))
            (case side2 => exact HC0_0.out)
            (case side3 => exact (Kd.C_below HR0_1.out HB.out))
            (case side4 => exact HC0_1.out)
            (case side5 => exact (Kd.C_below HR0_2.out HB.out))
            (case side6 => exact HC0_2.out)
            rintro e w70 ⟨v174, v177, v180, rfl, ho0, ho1, ho2, hb⟩
            refine ⟨_, rfl, ?_⟩
            have n0_ := mk0 (Kd.R_mono (Kd.R_told (Kd.R_told (Kd.R_told (Kd.R_old HO_151000.out hb) (Kd.R_base ho0)) (Kd.R_base ho1)) (Kd.R_base ho2)) (fun _ h_ => h_.1))
            have n1_ := mk0 (Kd.R_mono (Kd.R_told (Kd.R_told (Kd.R_told (Kd.R_old HO_151001.out hb) (Kd.R_base ho0)) (Kd.R_base ho1)) (Kd.R_base ho2)) (fun _ h_ => h_.1))
            have n2_ := mk0 (Kd.R_mono (Kd.R_told (Kd.R_told (Kd.R_told (Kd.R_old HO_151002.out hb) (Kd.R_base ho0)) (Kd.R_base ho1)) (Kd.R_base ho2)) (fun _ h_ => h_.1))
            have n3_ := mk0 (Kd.R_mono (Kd.R_told (Kd.R_told (Kd.R_told (Kd.R_old HO_161000.out hb) (Kd.R_base ho0)) (Kd.R_base ho1)) (Kd.R_base ho2)) (fun _ h_ => h_.1))
            have n4_ := mk0 (Kd.R_mono (Kd.R_told (Kd.R_told (Kd.R_told (Kd.R_old HO_161001.out hb) (Kd.R_base ho0)) (Kd.R_base ho1)) (Kd.R_base ho2)) (fun _ h_ => h_.1))
            have n5_ := mk0 (Kd.R_mono (Kd.R_told (Kd.R_told (Kd.R_told (Kd.R_old HO_161002.out hb) (Kd.R_base ho0)) (Kd.R_base ho1)) (Kd.R_base ho2)) (fun _ h_ => h_.1))
            have n6_ := mk0 (Kd.R_mono (Kd.R_told (Kd.R_told (Kd.R_told (Kd.R_old HO_172000.out hb) (Kd.R_base ho0)) (Kd.R_base ho1)) (Kd.R_base ho2)) (fun _ h_ => h_.1))
            have n7_ := mk0 (Kd.R_mono (Kd.R_told (Kd.R_told (Kd.R_told (Kd.R_old HO_172001.out hb) (Kd.R_base ho0)) (Kd.R_base ho1)) (Kd.R_base ho2)) (fun _ h_ => h_.1))
            have n8_ := mk0 (Kd.R_mono (Kd.R_told (Kd.R_told (Kd.R_told (Kd.R_old HO_172002.out hb) (Kd.R_base ho0)) (Kd.R_base ho1)) (Kd.R_base ho2)) (fun _ h_ => h_.1))
            have n9_ := mk0 (Kd.R_lower (Kd.R_new' (Kd.R_new' (Kd.R_new' (Kd.R_new' (Kd.R_new' (Kd.R_new' (Kd.R_new' (Kd.R_new' (Kd.R_new' ho0 (Kd.R_lt HO_151000.out)) (Kd.R_lt HO_151001.out)) (Kd.R_lt HO_151002.out)) (Kd.R_lt HO_161000.out)) (Kd.R_lt HO_161001.out)) (Kd.R_lt HO_161002.out)) (Kd.R_lt HO_172000.out)) (Kd.R_lt HO_172001.out)) (Kd.R_lt HO_172002.out)) (below_size (by repeat (first | (with_reducible first | exact HB.out | apply below_alloc | apply pw_below_drewN | apply below_drew1 | refine below_set ?_ GE129.out | refine below_set ?_ GE150.out | refine below_set ?_ GE160.out | refine below_set ?_ GE171.out) | exact HB.out))))
            have n10_ := mk0 (Kd.R_lower (Kd.R_new' (Kd.R_new' (Kd.R_new' (Kd.R_new' (Kd.R_new' (Kd.R_new' (Kd.R_new' (Kd.R_new' (Kd.R_new' ho1 (Kd.R_lt HO_151000.out)) (Kd.R_lt HO_151001.out)) (Kd.R_lt HO_151002.out)) (Kd.R_lt HO_161000.out)) (Kd.R_lt HO_161001.out)) (Kd.R_lt HO_161002.out)) (Kd.R_lt HO_172000.out)) (Kd.R_lt HO_172001.out)) (Kd.R_lt HO_172002.out)) (below_size (by repeat (first | (with_reducible first | exact HB.out | apply below_alloc | apply pw_below_drewN | apply below_drew1 | refine below_set ?_ GE129.out | refine below_set ?_ GE150.out | refine below_set ?_ GE160.out | refine below_set ?_ GE171.out) | exact HB.out))))
            have n11_ := mk0 (Kd.R_lower (Kd.R_new' (Kd.R_new' (Kd.R_new' (Kd.R_new' (Kd.R_new' (Kd.R_new' (Kd.R_new' (Kd.R_new' (Kd.R_new' ho2 (Kd.R_lt HO_151000.out)) (Kd.R_lt HO_151001.out)) (Kd.R_lt HO_151002.out)) (Kd.R_lt HO_161000.out)) (Kd.R_lt HO_161001.out)) (Kd.R_lt HO_161002.out)) (Kd.R_lt HO_172000.out)) (Kd.R_lt HO_172001.out)) (Kd.R_lt HO_172002.out)) (below_size (by repeat (first | (with_reducible first | exact HB.out | apply below_alloc | apply pw_below_drewN | apply below_drew1 | refine below_set ?_ GE129.out | refine below_set ?_ GE150.out | refine below_set ?_ GE160.out | refine below_set ?_ GE171.out) | exact HB.out))))
            have n12_ := mk0 (blk_below BK129.out hb)
            have n13_ := mk0 (blk_below BK150.out hb)
            have n14_ := mk0 (blk_below BK160.out hb)
            have n15_ := mk0 (blk_below BK171.out hb)
            have n16_ := mk0 (below_step (by repeat (first | (with_reducible first | exact HB.out | apply below_alloc | apply pw_below_drewN | apply below_drew1 | refine below_set ?_ GE129.out | refine below_set ?_ GE150.out | refine below_set ?_ GE160.out | refine below_set ?_ GE171.out) | exact HB.out)) hb)
            clear HO_151000
            clear HO_151001
            clear HO_151002
            clear HO_161000
            clear HO_161001
            clear HO_161002
            clear HO_172000
            clear HO_172001
            clear HO_172002
            clear BK129
            clear BK150
            clear BK160
            clear BK171
            clear HB
            have HO_151000 := n0_
            have HO_151001 := n1_
            have HO_151002 := n2_
            have HO_161000 := n3_
            have HO_161001 := n4_
            have HO_161002 := n5_
            have HO_172000 := n6_
            have HO_172001 := n7_
            have HO_172002 := n8_
            have HO175 := n9_
            have HO178 := n10_
            have HO181 := n11_
            have BK129 := n12_
            have BK150 := n13_
            have BK160 := n14_
            have BK171 := n15_
            have HB := n16_
            clear n0_ n1_ n2_ n3_ n4_ n5_ n6_ n7_ n8_ n9_ n10_ n11_ n12_ n13_ n14_ n15_ n16_
            (try clear hb)
            (try clear hb2)
            (try clear hk)
            (try clear hi)
            (try clear ho0)
            (try clear ho1)
            (try clear ho2)
            obtain ⟨Ao71, co71, eo71⟩ := Kd.R_slice HO175.out
            (first | subst eo71 | (injection eo71 with f1_ f2_ f3_; have f4_ := f1_.symm; have f5_ := f3_.symm; clear f1_ f2_ f3_; subst f4_; subst f5_))
            obtain ⟨Ao72, co72, eo72⟩ := Kd.R_slice HO178.out
            (first | subst eo72 | (injection eo72 with f1_ f2_ f3_; have f4_ := f1_.symm; have f5_ := f3_.symm; clear f1_ f2_ f3_; subst f4_; subst f5_))
            obtain ⟨Ao73, co73, eo73⟩ := Kd.R_slice HO181.out
            (first | subst eo73 | (injection eo73 with f1_ f2_ f3_; have f4_ := f1_.symm; have f5_ := f3_.symm; clear f1_ f2_ f3_; subst f4_; subst f5_))
            refine hK.out _ _ ⟨(blk_cell BK160.out 0).trans rfl, (blk_cell BK160.out 1).trans rfl, (blk_cell BK160.out 2).trans rfl, (blk_cell BK129.out 0).trans rfl, (blk_cell BK129.out 1).trans rfl, (blk_cell BK129.out 2).trans rfl⟩ (fun hHeld => ?_)
            clear hK K
            refine norm_ (a' := ?_) ?_ ?_
            rotate_left
            · show Act.put _ (some 43) _ = _
              simp only [Act.put, List.setIfInBounds_toArray, List.set_cons_zero, List.set_cons_succ, i64_w, i32_w]
              rfl
            refine one_ (i := 3) (N := some 44) #[true, true, true, true, false] rfl rfl (by kernel_rfl) (by decide) (fun K hK => ?_)
            refine goes_ Try.func36 (by kernel_rfl) rfl #[.agg #[.slice Ao30 t151.length co30, .slice Ao34 t154.length co34, .slice Ao35 t157.length co35], .agg #[.slice Ao71 t173.length co71, .slice Ao72 t176.length co72, .slice Ao73 t179.length co73]] (by rfl) rfl rfl (by (try simp only [List.map_toArray, List.map_cons, List.map_nil]); rfl) ?_
            with_reducible refine (laws_eqGauss.calls kj10 _ _ t151 _ _ t154 _ _ t157 _ _ t173 _ _ t176 _ _ t179 true _ ?side1 ?side2 ?side3 ?side4 ?side5 ?side6 ?side7 ?side8 ?side9 ?side10 ?side11 ?side12 A65.out).mono ?_
            (case side1 => exact (Kd.R_reads' HO_161000.out).2.2)
            (case side2 => exact (Kd.R_reads' HO_161000.out).2.1)
            (case side3 => exact (Kd.R_reads' HO_161001.out).2.2)
            (case side4 => exact (Kd.R_reads' HO_161001.out).2.1)
            (case side5 => exact (Kd.R_reads' HO_161002.out).2.2)
            (case side6 => exact (Kd.R_reads' HO_161002.out).2.1)
            (case side7 => exact (Kd.R_reads' HO175.out).2.2)
            (case side8 => exact (Kd.R_reads' HO175.out).2.1)
            (case side9 => exact (Kd.R_reads' HO178.out).2.2)
            (case side10 => exact (Kd.R_reads' HO178.out).2.1)
            (case side11 => exact (Kd.R_reads' HO181.out).2.2)
            (case side12 => exact (Kd.R_reads' HO181.out).2.1)
            rintro e w74 ⟨rfl, hb⟩
            refine ⟨_, rfl, ?_⟩
            have n0_ := mk0 (Kd.R_below HO_151000.out hb)
            have n1_ := mk0 (Kd.R_below HO_151001.out hb)
            have n2_ := mk0 (Kd.R_below HO_151002.out hb)
            have n3_ := mk0 (Kd.R_below HO_161000.out hb)
            have n4_ := mk0 (Kd.R_below HO_161001.out hb)
            have n5_ := mk0 (Kd.R_below HO_161002.out hb)
            have n6_ := mk0 (Kd.R_below HO_172000.out hb)
            have n7_ := mk0 (Kd.R_below HO_172001.out hb)
            have n8_ := mk0 (Kd.R_below HO_172002.out hb)
            have n9_ := mk0 (Kd.R_below HO175.out hb)
            have n10_ := mk0 (Kd.R_below HO178.out hb)
            have n11_ := mk0 (Kd.R_below HO181.out hb)
            have n12_ := mk0 (blk_below BK129.out hb)
            have n13_ := mk0 (blk_below BK150.out hb)
            have n14_ := mk0 (blk_below BK160.out hb)
            have n15_ := mk0 (blk_below BK171.out hb)
            have n16_ := mk0 (below_step (by repeat (first | (with_reducible first | exact HB.out | apply below_alloc | apply pw_below_drewN | apply below_drew1 | refine below_set ?_ GE129.out | refine below_set ?_ GE150.out | refine below_set ?_ GE160.out | refine below_set ?_ GE171.out) | exact HB.out)) hb)
            clear HO_151000
            clear HO_151001
            clear HO_151002
            clear HO_161000
            clear HO_161001
            clear HO_161002
            clear HO_172000
            clear HO_172001
            clear HO_172002
            clear HO175
            clear HO178
            clear HO181
            clear BK129
            clear BK150
            clear BK160
            clear BK171
            clear HB
            have HO_151000 := n0_
            have HO_151001 := n1_
            have HO_151002 := n2_
            have HO_161000 := n3_
            have HO_161001 := n4_
            have HO_161002 := n5_
            have HO_172000 := n6_
            have HO_172001 := n7_
            have HO_172002 := n8_
            have HO175 := n9_
            have HO178 := n10_
            have HO181 := n11_
            have BK129 := n12_
            have BK150 := n13_
            have BK160 := n14_
            have BK171 := n15_
            have HB := n16_
            clear n0_ n1_ n2_ n3_ n4_ n5_ n6_ n7_ n8_ n9_ n10_ n11_ n12_ n13_ n14_ n15_ n16_
            (try clear hb)
            (try clear hb2)
            (try clear hk)
            (try clear hi)
            refine hK.out _ _ ⟨(blk_cell BK160.out 0).trans rfl, (blk_cell BK160.out 1).trans rfl, (blk_cell BK160.out 2).trans rfl, (blk_cell BK129.out 0).trans rfl, (blk_cell BK129.out 1).trans rfl, (blk_cell BK129.out 2).trans rfl⟩ (fun hHeld => ?_)
            clear hK K
            refine norm_ (a' := ?_) ?_ ?_
            rotate_left
            · show Act.put _ (some 44) _ = _
              simp only [Act.put, List.setIfInBounds_toArray, List.set_cons_zero, List.set_cons_succ, i64_w, i32_w]
              rfl
            refine pure_ (i := 4) (N := some 45) (v := ?_) (a' := ?_) #[true, true, true, true, true] rfl rfl (by kernel_rfl) (fun _ _ _ h => h) (Or.inl ⟨by rfl, ?_⟩) ?_ ?_
            rotate_left
            · intro w'
              go_simp
              with_reducible rfl
            rotate_left
            · simp only [Act.put, List.setIfInBounds_toArray, List.set_cons_zero, List.set_cons_succ, i64_w, i32_w]
              rfl
            refine done_ (by kernel_rfl) ?_
            have hnb75 := NB160_129.out
            have hnc75 := NB129_160.out
            have hnb76 := NB160_150.out
            have hnc76 := NB150_160.out
            have hnb77 := NB160_171.out
            have hnc77 := NB171_160.out
            have hcz78_0 : w74.cell? ⟨gb160, 0, none⟩ = some (.slice Ao30 t151.length co30) := (blk_cell BK160.out 0).trans rfl
            have hcz78_1 : w74.cell? ⟨gb160, 1, none⟩ = some (.slice Ao34 t154.length co34) := (blk_cell BK160.out 1).trans rfl
            have hcz78_2 : w74.cell? ⟨gb160, 2, none⟩ = some (.slice Ao35 t157.length co35) := (blk_cell BK160.out 2).trans rfl
            have hfz78_0 := blk_frozen BK160.out 0
            have hfz78_1 := blk_frozen BK160.out 1
            have hfz78_2 := blk_frozen BK160.out 2
            go_upto_region 14 with (first | ((with_reducible refine gate_callee (f := 37) rfl ?_); refine goesL_ (some 48) rfl rfl Try.func37 (by kernel_rfl) rfl #[.agg #[.slice Ao30 t151.length co30, .slice Ao34 t154.length co34, .slice Ao35 t157.length co35], .int .i64 1] rfl (by (try simp only [List.map_toArray, List.map_cons, List.map_nil]); rfl) ?_; (with_reducible refine (laws_markGauss.calls kj10 (fun k_ => some k_ = (.slice Ao30 t151.length co30 : Value).ownBlock) (.slice Ao30 t151.length co30) t151 (fun k_ => some k_ = (.slice Ao34 t154.length co34 : Value).ownBlock) (.slice Ao34 t154.length co34) t154 (fun k_ => some k_ = (.slice Ao35 t157.length co35 : Value).ownBlock) (.slice Ao35 t157.length co35) t157 1 t183 t184 t185 t186 w _ ?side1 ?side2 ?side3 ?side4 ?side5 ?side6 ?side7 ?side8 ?side9 ?side10 A67.out).mono ?_); (case side1 => repeat (first | (with_reducible first | exact HB.out | apply below_alloc | apply pw_below_drewN | apply below_drew1 | refine below_set ?_ GE129.out | refine below_set ?_ GE150.out | refine below_set ?_ GE160.out | refine below_set ?_ GE171.out) | exact HB.out)); (case side2 => exact Kd.R_tight rfl HO_161000.out); (case side3 => exact fun k_ e_ => (HO_161000.out.1 k_ e_.symm).1.1.1.2.2.2.1); (case side4 => exact fun k_ e_ => (HO_161000.out.1 k_ e_.symm).1.1.1.2.2.2.2.1); (case side5 => exact Kd.R_tight rfl HO_161001.out); (case side6 => exact fun k_ e_ => (HO_161001.out.1 k_ e_.symm).1.1.1.2.2.2.1); (case side7 => exact fun k_ e_ => (HO_161001.out.1 k_ e_.symm).1.1.1.2.2.2.2.1); (case side8 => exact Kd.R_tight rfl HO_161002.out); (case side9 => exact fun k_ e_ => (HO_161002.out.1 k_ e_.symm).1.1.1.2.2.2.1); (case side10 => exact fun k_ e_ => (HO_161002.out.1 k_ e_.symm).1.1.1.2.2.2.2.1); rintro e w79 ⟨rfl, hy0, hy1, hy2, hb, hkp⟩; refine ⟨_, rfl, ?_⟩; have n0_ := mk0 (Kd.R_mono (ok' := fun k_ => nb k_ Ao25 t143 co25 ∧ nb k_ Ao26 t146 co26 ∧ nb k_ Ao30 t151 co30 ∧ nb k_ Ao34 t154 co34 ∧ nb k_ Ao35 t157 co35 ∧ nb k_ Ao38 t161 co38 ∧ nb k_ Ao43 t164 co43 ∧ nb k_ Ao44 t167 co44 ∧ nb k_ Ao71 t173 co71 ∧ nb k_ Ao72 t176 co72 ∧ nb k_ Ao73 t179 co73) (Kd.R_keptB (HO_151000.out) hkp (fun k_ hk_ hs_ => Or.elim hs_ (fun e_ => (hk_.1.1.1.2.2.1) e_) (fun e_ => Or.elim e_ (fun e_ => (hk_.1.1.1.2.2.2.1) e_) (fun e_ => (hk_.1.1.1.2.2.2.2.1) e_)))) (fun k_ hk_ => ⟨hk_.1.1.1.1.1, hk_.1.1.1.1.2.1, hk_.1.1.1.1.2.2.1, hk_.1.1.1.1.2.2.2.1, hk_.1.1.1.1.2.2.2.2.1, hk_.1.1.1.1.2.2.2.2.2.1, hk_.1.1.1.1.2.2.2.2.2.2.1, hk_.1.1.1.1.2.2.2.2.2.2.2, hk_.1.1.1.2, hk_.1.1.2, hk_.1.2⟩)); have n1_ := mk0 (Kd.R_mono (ok' := fun k_ => nb k_ Ao22 t140 co22 ∧ nb k_ Ao26 t146 co26 ∧ nb k_ Ao30 t151 co30 ∧ nb k_ Ao34 t154 co34 ∧ nb k_ Ao35 t157 co35 ∧ nb k_ Ao38 t161 co38 ∧ nb k_ Ao43 t164 co43 ∧ nb k_ Ao44 t167 co44 ∧ nb k_ Ao71 t173 co71 ∧ nb k_ Ao72 t176 co72 ∧ nb k_ Ao73 t179 co73) (Kd.R_keptB (HO_151001.out) hkp (fun k_ hk_ hs_ => Or.elim hs_ (fun e_ => (hk_.1.1.1.2.2.1) e_) (fun e_ => Or.elim e_ (fun e_ => (hk_.1.1.1.2.2.2.1) e_) (fun e_ => (hk_.1.1.1.2.2.2.2.1) e_)))) (fun k_ hk_ => ⟨hk_.1.1.1.1.1, hk_.1.1.1.1.2.1, hk_.1.1.1.1.2.2.1, hk_.1.1.1.1.2.2.2.1, hk_.1.1.1.1.2.2.2.2.1, hk_.1.1.1.1.2.2.2.2.2.1, hk_.1.1.1.1.2.2.2.2.2.2.1, hk_.1.1.1.1.2.2.2.2.2.2.2, hk_.1.1.1.2, hk_.1.1.2, hk_.1.2⟩)); have n2_ := mk0 (Kd.R_mono (ok' := fun k_ => nb k_ Ao22 t140 co22 ∧ nb k_ Ao25 t143 co25 ∧ nb k_ Ao30 t151 co30 ∧ nb k_ Ao34 t154 co34 ∧ nb k_ Ao35 t157 co35 ∧ nb k_ Ao38 t161 co38 ∧ nb k_ Ao43 t164 co43 ∧ nb k_ Ao44 t167 co44 ∧ nb k_ Ao71 t173 co71 ∧ nb k_ Ao72 t176 co72 ∧ nb k_ Ao73 t179 co73) (Kd.R_keptB (HO_151002.out) hkp (fun k_ hk_ hs_ => Or.elim hs_ (fun e_ => (hk_.1.1.1.2.2.1) e_) (fun e_ => Or.elim e_ (fun e_ => (hk_.1.1.1.2.2.2.1) e_) (fun e_ => (hk_.1.1.1.2.2.2.2.1) e_)))) (fun k_ hk_ => ⟨hk_.1.1.1.1.1, hk_.1.1.1.1.2.1, hk_.1.1.1.1.2.2.1, hk_.1.1.1.1.2.2.2.1, hk_.1.1.1.1.2.2.2.2.1, hk_.1.1.1.1.2.2.2.2.2.1, hk_.1.1.1.1.2.2.2.2.2.2.1, hk_.1.1.1.1.2.2.2.2.2.2.2, hk_.1.1.1.2, hk_.1.1.2, hk_.1.2⟩)); have n3_ := mk0 (Kd.R_reok rfl hy0 (fun k_ e_ => HO_161000.out.1 k_ e_)); have n4_ := mk0 (Kd.R_reok rfl hy1 (fun k_ e_ => HO_161001.out.1 k_ e_)); have n5_ := mk0 (Kd.R_reok rfl hy2 (fun k_ e_ => HO_161002.out.1 k_ e_)); have n6_ := mk0 (Kd.R_mono (ok' := fun k_ => nb k_ Ao22 t140 co22 ∧ nb k_ Ao25 t143 co25 ∧ nb k_ Ao26 t146 co26 ∧ nb k_ Ao30 t151 co30 ∧ nb k_ Ao34 t154 co34 ∧ nb k_ Ao35 t157 co35 ∧ nb k_ Ao43 t164 co43 ∧ nb k_ Ao44 t167 co44 ∧ nb k_ Ao71 t173 co71 ∧ nb k_ Ao72 t176 co72 ∧ nb k_ Ao73 t179 co73) (Kd.R_keptB (HO_172000.out) hkp (fun k_ hk_ hs_ => Or.elim hs_ (fun e_ => (hk_.1.1.1.2.2.2.1) e_) (fun e_ => Or.elim e_ (fun e_ => (hk_.1.1.1.2.2.2.2.1) e_) (fun e_ => (hk_.1.1.1.2.2.2.2.2.1) e_)))) (fun k_ hk_ => ⟨hk_.1.1.1.1.1, hk_.1.1.1.1.2.1, hk_.1.1.1.1.2.2.1, hk_.1.1.1.1.2.2.2.1, hk_.1.1.1.1.2.2.2.2.1, hk_.1.1.1.1.2.2.2.2.2.1, hk_.1.1.1.1.2.2.2.2.2.2.1, hk_.1.1.1.1.2.2.2.2.2.2.2, hk_.1.1.1.2, hk_.1.1.2, hk_.1.2⟩)); have n7_ := mk0 (Kd.R_mono (ok' := fun k_ => nb k_ Ao22 t140 co22 ∧ nb k_ Ao25 t143 co25 ∧ nb k_ Ao26 t146 co26 ∧ nb k_ Ao30 t151 co30 ∧ nb k_ Ao34 t154 co34 ∧ nb k_ Ao35 t157 co35 ∧ nb k_ Ao38 t161 co38 ∧ nb k_ Ao44 t167 co44 ∧ nb k_ Ao71 t173 co71 ∧ nb k_ Ao72 t176 co72 ∧ nb k_ Ao73 t179 co73) (Kd.R_keptB (HO_172001.out) hkp (fun k_ hk_ hs_ => Or.elim hs_ (fun e_ => (hk_.1.1.1.2.2.2.1) e_) (fun e_ => Or.elim e_ (fun e_ => (hk_.1.1.1.2.2.2.2.1) e_) (fun e_ => (hk_.1.1.1.2.2.2.2.2.1) e_)))) (fun k_ hk_ => ⟨hk_.1.1.1.1.1, hk_.1.1.1.1.2.1, hk_.1.1.1.1.2.2.1, hk_.1.1.1.1.2.2.2.1, hk_.1.1.1.1.2.2.2.2.1, hk_.1.1.1.1.2.2.2.2.2.1, hk_.1.1.1.1.2.2.2.2.2.2.1, hk_.1.1.1.1.2.2.2.2.2.2.2, hk_.1.1.1.2, hk_.1.1.2, hk_.1.2⟩)); have n8_ := mk0 (Kd.R_mono (ok' := fun k_ => nb k_ Ao22 t140 co22 ∧ nb k_ Ao25 t143 co25 ∧ nb k_ Ao26 t146 co26 ∧ nb k_ Ao30 t151 co30 ∧ nb k_ Ao34 t154 co34 ∧ nb k_ Ao35 t157 co35 ∧ nb k_ Ao38 t161 co38 ∧ nb k_ Ao43 t164 co43 ∧ nb k_ Ao71 t173 co71 ∧ nb k_ Ao72 t176 co72 ∧ nb k_ Ao73 t179 co73) (Kd.R_keptB (HO_172002.out) hkp (fun k_ hk_ hs_ => Or.elim hs_ (fun e_ => (hk_.1.1.1.2.2.2.1) e_) (fun e_ => Or.elim e_ (fun e_ => (hk_.1.1.1.2.2.2.2.1) e_) (fun e_ => (hk_.1.1.1.2.2.2.2.2.1) e_)))) (fun k_ hk_ => ⟨hk_.1.1.1.1.1, hk_.1.1.1.1.2.1, hk_.1.1.1.1.2.2.1, hk_.1.1.1.1.2.2.2.1, hk_.1.1.1.1.2.2.2.2.1, hk_.1.1.1.1.2.2.2.2.2.1, hk_.1.1.1.1.2.2.2.2.2.2.1, hk_.1.1.1.1.2.2.2.2.2.2.2, hk_.1.1.1.2, hk_.1.1.2, hk_.1.2⟩)); have n9_ := mk0 (blk_kept (by exact BK129.out) hkp (fun hs_ => Or.elim hs_ (fun e_ => (fun e_ => (Kd.R_ne HO_161000.out BK129.out (by decide)) e_) e_) (fun e_ => Or.elim e_ (fun e_ => (fun e_ => (Kd.R_ne HO_161001.out BK129.out (by decide)) e_) e_) (fun e_ => (fun e_ => (Kd.R_ne HO_161002.out BK129.out (by decide)) e_) e_)))); have n10_ := mk0 (blk_kept (by exact BK150.out) hkp (fun hs_ => Or.elim hs_ (fun e_ => (fun e_ => (Kd.R_ne HO_161000.out BK150.out (by decide)) e_) e_) (fun e_ => Or.elim e_ (fun e_ => (fun e_ => (Kd.R_ne HO_161001.out BK150.out (by decide)) e_) e_) (fun e_ => (fun e_ => (Kd.R_ne HO_161002.out BK150.out (by decide)) e_) e_)))); have n11_ := mk0 (blk_kept (by exact BK160.out) hkp (fun hs_ => Or.elim hs_ (fun e_ => (fun e_ => (Kd.R_ne HO_161000.out BK160.out (by decide)) e_) e_) (fun e_ => Or.elim e_ (fun e_ => (fun e_ => (Kd.R_ne HO_161001.out BK160.out (by decide)) e_) e_) (fun e_ => (fun e_ => (Kd.R_ne HO_161002.out BK160.out (by decide)) e_) e_)))); have n12_ := mk0 (blk_kept (by exact BK171.out) hkp (fun hs_ => Or.elim hs_ (fun e_ => (fun e_ => (Kd.R_ne HO_161000.out BK171.out (by decide)) e_) e_) (fun e_ => Or.elim e_ (fun e_ => (fun e_ => (Kd.R_ne HO_161001.out BK171.out (by decide)) e_) e_) (fun e_ => (fun e_ => (Kd.R_ne HO_161002.out BK171.out (by decide)) e_) e_)))); have n13_ := mk0 (Kd.R_mono (ok' := fun k_ => nb k_ Ao22 t140 co22 ∧ nb k_ Ao25 t143 co25 ∧ nb k_ Ao26 t146 co26 ∧ nb k_ Ao30 t151 co30 ∧ nb k_ Ao34 t154 co34 ∧ nb k_ Ao35 t157 co35 ∧ nb k_ Ao38 t161 co38 ∧ nb k_ Ao43 t164 co43 ∧ nb k_ Ao44 t167 co44 ∧ nb k_ Ao72 t176 co72 ∧ nb k_ Ao73 t179 co73) (Kd.R_keptB (HO175.out) hkp (fun k_ hk_ hs_ => Or.elim hs_ (fun e_ => (hk_.1.1.1.1.1.2) e_) (fun e_ => Or.elim e_ (fun e_ => (hk_.1.1.1.1.2) e_) (fun e_ => (hk_.1.1.1.2) e_)))) (fun k_ hk_ => ⟨hk_.1.1.1.1.1.1.1.1.1.2, hk_.1.1.1.1.1.1.1.1.2, hk_.1.1.1.1.1.1.1.2, hk_.1.1.1.1.1.1.2, hk_.1.1.1.1.1.2, hk_.1.1.1.1.2, hk_.1.1.1.2, hk_.1.1.2, hk_.1.2, hk_.1.1.1.1.1.1.1.1.1.1.1, hk_.1.1.1.1.1.1.1.1.1.1.2⟩)); have n14_ := mk0 (Kd.R_mono (ok' := fun k_ => nb k_ Ao22 t140 co22 ∧ nb k_ Ao25 t143 co25 ∧ nb k_ Ao26 t146 co26 ∧ nb k_ Ao30 t151 co30 ∧ nb k_ Ao34 t154 co34 ∧ nb k_ Ao35 t157 co35 ∧ nb k_ Ao38 t161 co38 ∧ nb k_ Ao43 t164 co43 ∧ nb k_ Ao44 t167 co44 ∧ nb k_ Ao71 t173 co71 ∧ nb k_ Ao73 t179 co73) (Kd.R_keptB (HO178.out) hkp (fun k_ hk_ hs_ => Or.elim hs_ (fun e_ => (hk_.1.1.1.1.1.2) e_) (fun e_ => Or.elim e_ (fun e_ => (hk_.1.1.1.1.2) e_) (fun e_ => (hk_.1.1.1.2) e_)))) (fun k_ hk_ => ⟨hk_.1.1.1.1.1.1.1.1.1.2, hk_.1.1.1.1.1.1.1.1.2, hk_.1.1.1.1.1.1.1.2, hk_.1.1.1.1.1.1.2, hk_.1.1.1.1.1.2, hk_.1.1.1.1.2, hk_.1.1.1.2, hk_.1.1.2, hk_.1.2, hk_.1.1.1.1.1.1.1.1.1.1.1, hk_.1.1.1.1.1.1.1.1.1.1.2⟩)); have n15_ := mk0 (Kd.R_mono (ok' := fun k_ => nb k_ Ao22 t140 co22 ∧ nb k_ Ao25 t143 co25 ∧ nb k_ Ao26 t146 co26 ∧ nb k_ Ao30 t151 co30 ∧ nb k_ Ao34 t154 co34 ∧ nb k_ Ao35 t157 co35 ∧ nb k_ Ao38 t161 co38 ∧ nb k_ Ao43 t164 co43 ∧ nb k_ Ao44 t167 co44 ∧ nb k_ Ao71 t173 co71 ∧ nb k_ Ao72 t176 co72) (Kd.R_keptB (HO181.out) hkp (fun k_ hk_ hs_ => Or.elim hs_ (fun e_ => (hk_.1.1.1.1.1.2) e_) (fun e_ => Or.elim e_ (fun e_ => (hk_.1.1.1.1.2) e_) (fun e_ => (hk_.1.1.1.2) e_)))) (fun k_ hk_ => ⟨hk_.1.1.1.1.1.1.1.1.1.2, hk_.1.1.1.1.1.1.1.1.2, hk_.1.1.1.1.1.1.1.2, hk_.1.1.1.1.1.1.2, hk_.1.1.1.1.1.2, hk_.1.1.1.1.2, hk_.1.1.1.2, hk_.1.1.2, hk_.1.2, hk_.1.1.1.1.1.1.1.1.1.1.1, hk_.1.1.1.1.1.1.1.1.1.1.2⟩)); have n16_ := mk0 (hb); clear HO_151000; clear HO_151001; clear HO_151002; clear HO_161000; clear HO_161001; clear HO_161002; clear HO_172000; clear HO_172001; clear HO_172002; clear BK129; clear BK150; clear BK160; clear BK171; clear HO175; clear HO178; clear HO181; clear HB; have HO_151000 := n0_; have HO_151001 := n1_; have HO_151002 := n2_; have HO_161000 := n3_; have HO_161001 := n4_; have HO_161002 := n5_; have HO_172000 := n6_; have HO_172001 := n7_; have HO_172002 := n8_; have BK129 := n9_; have BK150 := n10_; have BK160 := n11_; have BK171 := n12_; have HO175 := n13_; have HO178 := n14_; have HO181 := n15_; have HB := n16_; clear n0_ n1_ n2_ n3_ n4_ n5_ n6_ n7_ n8_ n9_ n10_ n11_ n12_ n13_ n14_ n15_ n16_; (try clear hb); (try clear hkp); (try clear hy0); (try clear hy1); (try clear hy2)))
            (try simp only [Act.put, List.setIfInBounds_toArray, List.set_cons_zero, List.set_cons_succ])
            go_cut [61] (fun v61 wc => ∃ (kq : Nat) (x61_67 : Bool), v61 = .bool x61_67 ∧ Aside0 (laws_FnExactReverseGauss.j1 kq t149 x61_67 l0_0 l0_1 l0_2 t140 t143 t146 t161 t164 t167 = some r) ∧ Aside0 (kq ≤ kj10) ∧ Aside0 (Kd.R (Kd.int .i64) 2 wc w.heap.size (fun k_ => some k_ ≠ ((.slice Ao25 t143.length co25) : Value).ownBlock ∧ some k_ ≠ ((.slice Ao26 t146.length co26) : Value).ownBlock ∧ some k_ ≠ ((.slice Ao30 t151.length co30) : Value).ownBlock ∧ some k_ ≠ ((.slice Ao34 t154.length co34) : Value).ownBlock ∧ some k_ ≠ ((.slice Ao35 t157.length co35) : Value).ownBlock ∧ some k_ ≠ ((.slice Ao38 t161.length co38) : Value).ownBlock ∧ some k_ ≠ ((.slice Ao43 t164.length co43) : Value).ownBlock ∧ some k_ ≠ ((.slice Ao44 t167.length co44) : Value).ownBlock) (.slice Ao22 t140.length co22) t140) ∧ Aside0 (Kd.R (Kd.int .i64) 2 wc w.heap.size (fun k_ => some k_ ≠ ((.slice Ao22 t140.length co22) : Value).ownBlock ∧ some k_ ≠ ((.slice Ao26 t146.length co26) : Value).ownBlock ∧ some k_ ≠ ((.slice Ao30 t151.length co30) : Value).ownBlock ∧ some k_ ≠ ((.slice Ao34 t154.length co34) : Value).ownBlock ∧ some k_ ≠ ((.slice Ao35 t157.length co35) : Value).ownBlock ∧ some k_ ≠ ((.slice Ao38 t161.length co38) : Value).ownBlock ∧ some k_ ≠ ((.slice Ao43 t164.length co43) : Value).ownBlock ∧ some k_ ≠ ((.slice Ao44 t167.length co44) : Value).ownBlock) (.slice Ao25 t143.length co25) t143) ∧ Aside0 (Kd.R (Kd.int .i64) 2 wc w.heap.size (fun k_ => some k_ ≠ ((.slice Ao22 t140.length co22) : Value).ownBlock ∧ some k_ ≠ ((.slice Ao25 t143.length co25) : Value).ownBlock ∧ some k_ ≠ ((.slice Ao30 t151.length co30) : Value).ownBlock ∧ some k_ ≠ ((.slice Ao34 t154.length co34) : Value).ownBlock ∧ some k_ ≠ ((.slice Ao35 t157.length co35) : Value).ownBlock ∧ some k_ ≠ ((.slice Ao38 t161.length co38) : Value).ownBlock ∧ some k_ ≠ ((.slice Ao43 t164.length co43) : Value).ownBlock ∧ some k_ ≠ ((.slice Ao44 t167.length co44) : Value).ownBlock) (.slice Ao26 t146.length co26) t146) ∧ Aside0 (Kd.R (Kd.int .i64) 2 wc w.heap.size (fun k_ => some k_ ≠ ((.slice Ao22 t140.length co22) : Value).ownBlock ∧ some k_ ≠ ((.slice Ao25 t143.length co25) : Value).ownBlock ∧ some k_ ≠ ((.slice Ao26 t146.length co26) : Value).ownBlock ∧ some k_ ≠ ((.slice Ao34 t154.length co34) : Value).ownBlock ∧ some k_ ≠ ((.slice Ao35 t157.length co35) : Value).ownBlock ∧ some k_ ≠ ((.slice Ao38 t161.length co38) : Value).ownBlock ∧ some k_ ≠ ((.slice Ao43 t164.length co43) : Value).ownBlock ∧ some k_ ≠ ((.slice Ao44 t167.length co44) : Value).ownBlock) (.slice Ao30 t151.length co30) t184) ∧ Aside0 (Kd.R (Kd.int .i64) 2 wc w.heap.size (fun k_ => some k_ ≠ ((.slice Ao22 t140.length co22) : Value).ownBlock ∧ some k_ ≠ ((.slice Ao25 t143.length co25) : Value).ownBlock ∧ some k_ ≠ ((.slice Ao26 t146.length co26) : Value).ownBlock ∧ some k_ ≠ ((.slice Ao30 t151.length co30) : Value).ownBlock ∧ some k_ ≠ ((.slice Ao35 t157.length co35) : Value).ownBlock ∧ some k_ ≠ ((.slice Ao38 t161.length co38) : Value).ownBlock ∧ some k_ ≠ ((.slice Ao43 t164.length co43) : Value).ownBlock ∧ some k_ ≠ ((.slice Ao44 t167.length co44) : Value).ownBlock) (.slice Ao34 t154.length co34) t185) ∧ Aside0 (Kd.R (Kd.int .i64) 2 wc w.heap.size (fun k_ => some k_ ≠ ((.slice Ao22 t140.length co22) : Value).ownBlock ∧ some k_ ≠ ((.slice Ao25 t143.length co25) : Value).ownBlock ∧ some k_ ≠ ((.slice Ao26 t146.length co26) : Value).ownBlock ∧ some k_ ≠ ((.slice Ao30 t151.length co30) : Value).ownBlock ∧ some k_ ≠ ((.slice Ao34 t154.length co34) : Value).ownBlock ∧ some k_ ≠ ((.slice Ao38 t161.length co38) : Value).ownBlock ∧ some k_ ≠ ((.slice Ao43 t164.length co43) : Value).ownBlock ∧ some k_ ≠ ((.slice Ao44 t167.length co44) : Value).ownBlock) (.slice Ao35 t157.length co35) t186) ∧ Aside0 (Kd.R (Kd.int .i64) 2 wc w.heap.size (fun k_ => some k_ ≠ ((.slice Ao22 t140.length co22) : Value).ownBlock ∧ some k_ ≠ ((.slice Ao25 t143.length co25) : Value).ownBlock ∧ some k_ ≠ ((.slice Ao26 t146.length co26) : Value).ownBlock ∧ some k_ ≠ ((.slice Ao30 t151.length co30) : Value).ownBlock ∧ some k_ ≠ ((.slice Ao34 t154.length co34) : Value).ownBlock ∧ some k_ ≠ ((.slice Ao35 t157.length co35) : Value).ownBlock ∧ some k_ ≠ ((.slice Ao43 t164.length co43) : Value).ownBlock ∧ some k_ ≠ ((.slice Ao44 t167.length co44) : Value).ownBlock) (.slice Ao38 t161.length co38) t161) ∧ Aside0 (Kd.R (Kd.int .i64) 2 wc w.heap.size (fun k_ => some k_ ≠ ((.slice Ao22 t140.length co22) : Value).ownBlock ∧ some k_ ≠ ((.slice Ao25 t143.length co25) : Value).ownBlock ∧ some k_ ≠ ((.slice Ao26 t146.length co26) : Value).ownBlock ∧ some k_ ≠ ((.slice Ao30 t151.length co30) : Value).ownBlock ∧ some k_ ≠ ((.slice Ao34 t154.length co34) : Value).ownBlock ∧ some k_ ≠ ((.slice Ao35 t157.length co35) : Value).ownBlock ∧ some k_ ≠ ((.slice Ao38 t161.length co38) : Value).ownBlock ∧ some k_ ≠ ((.slice Ao44 t167.length co44) : Value).ownBlock) (.slice Ao43 t164.length co43) t164) ∧ Aside0 (Kd.R (Kd.int .i64) 2 wc w.heap.size (fun k_ => some k_ ≠ ((.slice Ao22 t140.length co22) : Value).ownBlock ∧ some k_ ≠ ((.slice Ao25 t143.length co25) : Value).ownBlock ∧ some k_ ≠ ((.slice Ao26 t146.length co26) : Value).ownBlock ∧ some k_ ≠ ((.slice Ao30 t151.length co30) : Value).ownBlock ∧ some k_ ≠ ((.slice Ao34 t154.length co34) : Value).ownBlock ∧ some k_ ≠ ((.slice Ao35 t157.length co35) : Value).ownBlock ∧ some k_ ≠ ((.slice Ao38 t161.length co38) : Value).ownBlock ∧ some k_ ≠ ((.slice Ao43 t164.length co43) : Value).ownBlock) (.slice Ao44 t167.length co44) t167) ∧ Aside0 (wc.heap[gb129]? = some (.cells #[(.slice A0_0 l0_0.length c0_0), (.slice A0_1 l0_1.length c0_1), (.slice A0_2 l0_2.length c0_2)] 39 (0, 0))) ∧ Aside0 (wc.heap[gb150]? = some (.cells #[(.slice Ao22 t140.length co22), (.slice Ao25 t143.length co25), (.slice Ao26 t146.length co26)] 41 (0, 0))) ∧ Aside0 (wc.heap[gb160]? = some (.cells #[(.slice Ao30 t151.length co30), (.slice Ao34 t154.length co34), (.slice Ao35 t157.length co35)] 41 (0, 0))) ∧ Aside0 (wc.heap[gb171]? = some (.cells #[(.slice Ao38 t161.length co38), (.slice Ao43 t164.length co43), (.slice Ao44 t167.length co44)] 41 (0, 0))) ∧ Aside0 (Below w.heap.size w wc))
            case first =>
              have H := HC68.out
              clear HC68
              by_cases c80 : t183 < 0
              · rw [if_pos c80] at H
                have c80b0 : decide (t183 < 0) = true := decide_eq_true c80
                clear c80
                (first | rw [c80b0] | (simp only [i64_w, i32_w]; rw [c80b0]) | skip)
                have H' := Aside0.mk H
                clear H
                go_wp2
                go_meet
                case rel => exact ⟨_, (true), (by first | rfl | (simp; done) | (simp [*]; done)), H', ⟨by have := HJ10.out; first | omega | exact Nat.le_refl _⟩, ⟨by exact Kd.R_mono HO_151000.out (fun _ hk => ⟨hk.1, ⟨hk.2.1, ⟨hk.2.2.1, ⟨hk.2.2.2.1, ⟨hk.2.2.2.2.1, ⟨hk.2.2.2.2.2.1, ⟨hk.2.2.2.2.2.2.1, hk.2.2.2.2.2.2.2.1⟩⟩⟩⟩⟩⟩⟩)⟩, ⟨by exact Kd.R_mono HO_151001.out (fun _ hk => ⟨hk.1, ⟨hk.2.1, ⟨hk.2.2.1, ⟨hk.2.2.2.1, ⟨hk.2.2.2.2.1, ⟨hk.2.2.2.2.2.1, ⟨hk.2.2.2.2.2.2.1, hk.2.2.2.2.2.2.2.1⟩⟩⟩⟩⟩⟩⟩)⟩, ⟨by exact Kd.R_mono HO_151002.out (fun _ hk => ⟨hk.1, ⟨hk.2.1, ⟨hk.2.2.1, ⟨hk.2.2.2.1, ⟨hk.2.2.2.2.1, ⟨hk.2.2.2.2.2.1, ⟨hk.2.2.2.2.2.2.1, hk.2.2.2.2.2.2.2.1⟩⟩⟩⟩⟩⟩⟩)⟩, ⟨by exact Kd.R_mono HO_161000.out (fun _ hk => ⟨hk.1.1.1.1, ⟨hk.1.1.1.2.1, ⟨hk.1.1.1.2.2.1, ⟨hk.1.1.1.2.2.2.1, ⟨hk.1.1.1.2.2.2.2.1, ⟨hk.1.1.1.2.2.2.2.2.1, ⟨hk.1.1.1.2.2.2.2.2.2.1, hk.1.1.1.2.2.2.2.2.2.2⟩⟩⟩⟩⟩⟩⟩)⟩, ⟨by exact Kd.R_mono HO_161001.out (fun _ hk => ⟨hk.1.1.1.1, ⟨hk.1.1.1.2.1, ⟨hk.1.1.1.2.2.1, ⟨hk.1.1.1.2.2.2.1, ⟨hk.1.1.1.2.2.2.2.1, ⟨hk.1.1.1.2.2.2.2.2.1, ⟨hk.1.1.1.2.2.2.2.2.2.1, hk.1.1.1.2.2.2.2.2.2.2⟩⟩⟩⟩⟩⟩⟩)⟩, ⟨by exact Kd.R_mono HO_161002.out (fun _ hk => ⟨hk.1.1.1.1, ⟨hk.1.1.1.2.1, ⟨hk.1.1.1.2.2.1, ⟨hk.1.1.1.2.2.2.1, ⟨hk.1.1.1.2.2.2.2.1, ⟨hk.1.1.1.2.2.2.2.2.1, ⟨hk.1.1.1.2.2.2.2.2.2.1, hk.1.1.1.2.2.2.2.2.2.2⟩⟩⟩⟩⟩⟩⟩)⟩, ⟨by exact Kd.R_mono HO_172000.out (fun _ hk => ⟨hk.1, ⟨hk.2.1, ⟨hk.2.2.1, ⟨hk.2.2.2.1, ⟨hk.2.2.2.2.1, ⟨hk.2.2.2.2.2.1, ⟨hk.2.2.2.2.2.2.1, hk.2.2.2.2.2.2.2.1⟩⟩⟩⟩⟩⟩⟩)⟩, ⟨by exact Kd.R_mono HO_172001.out (fun _ hk => ⟨hk.1, ⟨hk.2.1, ⟨hk.2.2.1, ⟨hk.2.2.2.1, ⟨hk.2.2.2.2.1, ⟨hk.2.2.2.2.2.1, ⟨hk.2.2.2.2.2.2.1, hk.2.2.2.2.2.2.2.1⟩⟩⟩⟩⟩⟩⟩)⟩, ⟨by exact Kd.R_mono HO_172002.out (fun _ hk => ⟨hk.1, ⟨hk.2.1, ⟨hk.2.2.1, ⟨hk.2.2.2.1, ⟨hk.2.2.2.2.1, ⟨hk.2.2.2.2.2.1, ⟨hk.2.2.2.2.2.2.1, hk.2.2.2.2.2.2.2.1⟩⟩⟩⟩⟩⟩⟩)⟩, ⟨by exact BK129.out⟩, ⟨by exact BK150.out⟩, ⟨by exact BK160.out⟩, ⟨by exact BK171.out⟩, ⟨by repeat (first | (with_reducible first | exact HB.out | apply below_alloc | apply pw_below_drewN | apply below_drew1 | refine below_set ?_ GE129.out | refine below_set ?_ GE150.out | refine below_set ?_ GE160.out | refine below_set ?_ GE171.out) | exact HB.out)⟩⟩
              · rw [if_neg c80] at H
                have c80b0 : decide (t183 < 0) = false := decide_eq_false c80
                clear c80
                (first | rw [c80b0] | (simp only [i64_w, i32_w]; rw [c80b0]) | skip)
                replace H := Option.bind_eq_some_iff.mp H
                obtain ⟨t187, A810, H⟩ := H
                replace H : (if t187 = true then (laws_FnExactReverseGauss.j1 kj10 t149 (t170 != t149) l0_0 l0_1 l0_2 t140 t143 t146 t161 t164 t167) else (laws_FnExactReverseGauss.j1 kj10 t149 true l0_0 l0_1 l0_2 t140 t143 t146 t161 t164 t167)) = some r := H
                have A81 := Aside0.mk A810
                clear A810
                by_cases c82 : t187 = true
                · subst c82
                  have H1 : (laws_FnExactReverseGauss.j1 kj10 t149 (t170 != t149) l0_0 l0_1 l0_2 t140 t143 t146 t161 t164 t167) = some r := by rw [if_pos rfl] at H; exact H
                  clear H
                  have H := H1
                  clear H1
                  have H' := Aside0.mk H
                  clear H
                  have hnb83 := NB171_129.out
                  have hnc83 := NB129_171.out
                  have hnb84 := NB171_150.out
                  have hnc84 := NB150_171.out
                  have hnb85 := NB171_160.out
                  have hnc85 := NB160_171.out
                  have hcz86_0 : w79.cell? ⟨gb171, 0, none⟩ = some (.slice Ao38 t161.length co38) := (blk_cell BK171.out 0).trans rfl
                  have hcz86_1 : w79.cell? ⟨gb171, 1, none⟩ = some (.slice Ao43 t164.length co43) := (blk_cell BK171.out 1).trans rfl
                  have hcz86_2 : w79.cell? ⟨gb171, 2, none⟩ = some (.slice Ao44 t167.length co44) := (blk_cell BK171.out 2).trans rfl
                  have hfz86_0 := blk_frozen BK171.out 0
                  have hfz86_1 := blk_frozen BK171.out 1
                  have hfz86_2 := blk_frozen BK171.out 2
                  have hnb87 := NB150_129.out
                  have hnc87 := NB129_150.out
                  have hnb88 := NB150_160.out
                  have hnc88 := NB160_150.out
                  have hcz89_0 : w79.cell? ⟨gb150, 0, none⟩ = some (.slice Ao22 t140.length co22) := (blk_cell BK150.out 0).trans rfl
                  have hcz89_1 : w79.cell? ⟨gb150, 1, none⟩ = some (.slice Ao25 t143.length co25) := (blk_cell BK150.out 1).trans rfl
                  have hcz89_2 : w79.cell? ⟨gb150, 2, none⟩ = some (.slice Ao26 t146.length co26) := (blk_cell BK150.out 2).trans rfl
                  have hfz89_0 := blk_frozen BK150.out 0
                  have hfz89_1 := blk_frozen BK150.out 1
                  have hfz89_2 := blk_frozen BK150.out 2
                  go_wp2_with (first | (go_at_call 36; (with_reducible refine (laws_eqGauss.calls kj10 _ _ t161 _ _ t164 _ _ t167 _ _ t140 _ _ t143 _ _ t146 true _ ?side1 ?side2 ?side3 ?side4 ?side5 ?side6 ?side7 ?side8 ?side9 ?side10 ?side11 ?side12 A81.out).mono ?_); (case side1 => exact (Kd.R_reads' HO_172000.out).2.2); (case side2 => exact (Kd.R_reads' HO_172000.out).2.1); (case side3 => exact (Kd.R_reads' HO_172001.out).2.2); (case side4 => exact (Kd.R_reads' HO_172001.out).2.1); (case side5 => exact (Kd.R_reads' HO_172002.out).2.2); (case side6 => exact (Kd.R_reads' HO_172002.out).2.1); (case side7 => exact (Kd.R_reads' HO_151000.out).2.2); (case side8 => exact (Kd.R_reads' HO_151000.out).2.1); (case side9 => exact (Kd.R_reads' HO_151001.out).2.2); (case side10 => exact (Kd.R_reads' HO_151001.out).2.1); (case side11 => exact (Kd.R_reads' HO_151002.out).2.2); (case side12 => exact (Kd.R_reads' HO_151002.out).2.1); rintro e w90 ⟨rfl, hb⟩; have n0_ := mk0 (Kd.R_below HO_151000.out hb); have n1_ := mk0 (Kd.R_below HO_151001.out hb); have n2_ := mk0 (Kd.R_below HO_151002.out hb); have n3_ := mk0 (Kd.R_below HO_161000.out hb); have n4_ := mk0 (Kd.R_below HO_161001.out hb); have n5_ := mk0 (Kd.R_below HO_161002.out hb); have n6_ := mk0 (Kd.R_below HO_172000.out hb); have n7_ := mk0 (Kd.R_below HO_172001.out hb); have n8_ := mk0 (Kd.R_below HO_172002.out hb); have n9_ := mk0 (Kd.R_below HO175.out hb); have n10_ := mk0 (Kd.R_below HO178.out hb); have n11_ := mk0 (Kd.R_below HO181.out hb); have n12_ := mk0 (blk_below BK129.out hb); have n13_ := mk0 (blk_below BK150.out hb); have n14_ := mk0 (blk_below BK160.out hb); have n15_ := mk0 (blk_below BK171.out hb); have n16_ := mk0 (below_step (by repeat (first | (with_reducible first | exact HB.out | apply below_alloc | apply pw_below_drewN | apply below_drew1 | refine below_set ?_ GE129.out | refine below_set ?_ GE150.out | refine below_set ?_ GE160.out | refine below_set ?_ GE171.out) | exact HB.out)) hb); clear HO_151000; clear HO_151001; clear HO_151002; clear HO_161000; clear HO_161001; clear HO_161002; clear HO_172000; clear HO_172001; clear HO_172002; clear HO175; clear HO178; clear HO181; clear BK129; clear BK150; clear BK160; clear BK171; clear HB; have HO_151000 := n0_; have HO_151001 := n1_; have HO_151002 := n2_; have HO_161000 := n3_; have HO_161001 := n4_; have HO_161002 := n5_; have HO_172000 := n6_; have HO_172001 := n7_; have HO_172002 := n8_; have HO175 := n9_; have HO178 := n10_; have HO181 := n11_; have BK129 := n12_; have BK150 := n13_; have BK160 := n14_; have BK171 := n15_; have HB := n16_; clear n0_ n1_ n2_ n3_ n4_ n5_ n6_ n7_ n8_ n9_ n10_ n11_ n12_ n13_ n14_ n15_ n16_; (try clear hb); (try clear hb2); (try clear hk); (try clear hi)))
                  go_meet
                  case rel => exact ⟨_, ((t170 != t149)), (by first | rfl | (simp; done) | (simp [*]; done)), H', ⟨by have := HJ10.out; first | omega | exact Nat.le_refl _⟩, ⟨by exact Kd.R_mono HO_151000.out (fun _ hk => ⟨hk.1, ⟨hk.2.1, ⟨hk.2.2.1, ⟨hk.2.2.2.1, ⟨hk.2.2.2.2.1, ⟨hk.2.2.2.2.2.1, ⟨hk.2.2.2.2.2.2.1, hk.2.2.2.2.2.2.2.1⟩⟩⟩⟩⟩⟩⟩)⟩, ⟨by exact Kd.R_mono HO_151001.out (fun _ hk => ⟨hk.1, ⟨hk.2.1, ⟨hk.2.2.1, ⟨hk.2.2.2.1, ⟨hk.2.2.2.2.1, ⟨hk.2.2.2.2.2.1, ⟨hk.2.2.2.2.2.2.1, hk.2.2.2.2.2.2.2.1⟩⟩⟩⟩⟩⟩⟩)⟩, ⟨by exact Kd.R_mono HO_151002.out (fun _ hk => ⟨hk.1, ⟨hk.2.1, ⟨hk.2.2.1, ⟨hk.2.2.2.1, ⟨hk.2.2.2.2.1, ⟨hk.2.2.2.2.2.1, ⟨hk.2.2.2.2.2.2.1, hk.2.2.2.2.2.2.2.1⟩⟩⟩⟩⟩⟩⟩)⟩, ⟨by exact Kd.R_mono HO_161000.out (fun _ hk => ⟨hk.1.1.1.1, ⟨hk.1.1.1.2.1, ⟨hk.1.1.1.2.2.1, ⟨hk.1.1.1.2.2.2.1, ⟨hk.1.1.1.2.2.2.2.1, ⟨hk.1.1.1.2.2.2.2.2.1, ⟨hk.1.1.1.2.2.2.2.2.2.1, hk.1.1.1.2.2.2.2.2.2.2⟩⟩⟩⟩⟩⟩⟩)⟩, ⟨by exact Kd.R_mono HO_161001.out (fun _ hk => ⟨hk.1.1.1.1, ⟨hk.1.1.1.2.1, ⟨hk.1.1.1.2.2.1, ⟨hk.1.1.1.2.2.2.1, ⟨hk.1.1.1.2.2.2.2.1, ⟨hk.1.1.1.2.2.2.2.2.1, ⟨hk.1.1.1.2.2.2.2.2.2.1, hk.1.1.1.2.2.2.2.2.2.2⟩⟩⟩⟩⟩⟩⟩)⟩, ⟨by exact Kd.R_mono HO_161002.out (fun _ hk => ⟨hk.1.1.1.1, ⟨hk.1.1.1.2.1, ⟨hk.1.1.1.2.2.1, ⟨hk.1.1.1.2.2.2.1, ⟨hk.1.1.1.2.2.2.2.1, ⟨hk.1.1.1.2.2.2.2.2.1, ⟨hk.1.1.1.2.2.2.2.2.2.1, hk.1.1.1.2.2.2.2.2.2.2⟩⟩⟩⟩⟩⟩⟩)⟩, ⟨by exact Kd.R_mono HO_172000.out (fun _ hk => ⟨hk.1, ⟨hk.2.1, ⟨hk.2.2.1, ⟨hk.2.2.2.1, ⟨hk.2.2.2.2.1, ⟨hk.2.2.2.2.2.1, ⟨hk.2.2.2.2.2.2.1, hk.2.2.2.2.2.2.2.1⟩⟩⟩⟩⟩⟩⟩)⟩, ⟨by exact Kd.R_mono HO_172001.out (fun _ hk => ⟨hk.1, ⟨hk.2.1, ⟨hk.2.2.1, ⟨hk.2.2.2.1, ⟨hk.2.2.2.2.1, ⟨hk.2.2.2.2.2.1, ⟨hk.2.2.2.2.2.2.1, hk.2.2.2.2.2.2.2.1⟩⟩⟩⟩⟩⟩⟩)⟩, ⟨by exact Kd.R_mono HO_172002.out (fun _ hk => ⟨hk.1, ⟨hk.2.1, ⟨hk.2.2.1, ⟨hk.2.2.2.1, ⟨hk.2.2.2.2.1, ⟨hk.2.2.2.2.2.1, ⟨hk.2.2.2.2.2.2.1, hk.2.2.2.2.2.2.2.1⟩⟩⟩⟩⟩⟩⟩)⟩, ⟨by exact BK129.out⟩, ⟨by exact BK150.out⟩, ⟨by exact BK160.out⟩, ⟨by exact BK171.out⟩, ⟨by repeat (first | (with_reducible first | exact HB.out | apply below_alloc | apply pw_below_drewN | apply below_drew1 | refine below_set ?_ GE129.out | refine below_set ?_ GE150.out | refine below_set ?_ GE160.out | refine below_set ?_ GE171.out) | exact HB.out)⟩⟩
                · replace c82 := Bool.eq_false_iff.mpr c82
                  subst c82
                  have H1 : (laws_FnExactReverseGauss.j1 kj10 t149 true l0_0 l0_1 l0_2 t140 t143 t146 t161 t164 t167) = some r := by rw [if_neg (show ¬ (false = true) by decide)] at H; exact H
                  clear H
                  have H := H1
                  clear H1
                  have H' := Aside0.mk H
                  clear H
                  have hnb91 := NB171_129.out
                  have hnc91 := NB129_171.out
                  have hnb92 := NB171_150.out
                  have hnc92 := NB150_171.out
                  have hnb93 := NB171_160.out
                  have hnc93 := NB160_171.out
                  have hcz94_0 : w79.cell? ⟨gb171, 0, none⟩ = some (.slice Ao38 t161.length co38) := (blk_cell BK171.out 0).trans rfl
                  have hcz94_1 : w79.cell? ⟨gb171, 1, none⟩ = some (.slice Ao43 t164.length co43) := (blk_cell BK171.out 1).trans rfl
                  have hcz94_2 : w79.cell? ⟨gb171, 2, none⟩ = some (.slice Ao44 t167.length co44) := (blk_cell BK171.out 2).trans rfl
                  have hfz94_0 := blk_frozen BK171.out 0
                  have hfz94_1 := blk_frozen BK171.out 1
                  have hfz94_2 := blk_frozen BK171.out 2
                  have hnb95 := NB150_129.out
                  have hnc95 := NB129_150.out
                  have hnb96 := NB150_160.out
                  have hnc96 := NB160_150.out
                  have hcz97_0 : w79.cell? ⟨gb150, 0, none⟩ = some (.slice Ao22 t140.length co22) := (blk_cell BK150.out 0).trans rfl
                  have hcz97_1 : w79.cell? ⟨gb150, 1, none⟩ = some (.slice Ao25 t143.length co25) := (blk_cell BK150.out 1).trans rfl
                  have hcz97_2 : w79.cell? ⟨gb150, 2, none⟩ = some (.slice Ao26 t146.length co26) := (blk_cell BK150.out 2).trans rfl
                  have hfz97_0 := blk_frozen BK150.out 0
                  have hfz97_1 := blk_frozen BK150.out 1
                  have hfz97_2 := blk_frozen BK150.out 2
                  go_wp2_with (first | (go_at_call 36; (with_reducible refine (laws_eqGauss.calls kj10 _ _ t161 _ _ t164 _ _ t167 _ _ t140 _ _ t143 _ _ t146 false _ ?side1 ?side2 ?side3 ?side4 ?side5 ?side6 ?side7 ?side8 ?side9 ?side10 ?side11 ?side12 A81.out).mono ?_); (case side1 => exact (Kd.R_reads' HO_172000.out).2.2); (case side2 => exact (Kd.R_reads' HO_172000.out).2.1); (case side3 => exact (Kd.R_reads' HO_172001.out).2.2); (case side4 => exact (Kd.R_reads' HO_172001.out).2.1); (case side5 => exact (Kd.R_reads' HO_172002.out).2.2); (case side6 => exact (Kd.R_reads' HO_172002.out).2.1); (case side7 => exact (Kd.R_reads' HO_151000.out).2.2); (case side8 => exact (Kd.R_reads' HO_151000.out).2.1); (case side9 => exact (Kd.R_reads' HO_151001.out).2.2); (case side10 => exact (Kd.R_reads' HO_151001.out).2.1); (case side11 => exact (Kd.R_reads' HO_151002.out).2.2); (case side12 => exact (Kd.R_reads' HO_151002.out).2.1); rintro e w98 ⟨rfl, hb⟩; have n0_ := mk0 (Kd.R_below HO_151000.out hb); have n1_ := mk0 (Kd.R_below HO_151001.out hb); have n2_ := mk0 (Kd.R_below HO_151002.out hb); have n3_ := mk0 (Kd.R_below HO_161000.out hb); have n4_ := mk0 (Kd.R_below HO_161001.out hb); have n5_ := mk0 (Kd.R_below HO_161002.out hb); have n6_ := mk0 (Kd.R_below HO_172000.out hb); have n7_ := mk0 (Kd.R_below HO_172001.out hb); have n8_ := mk0 (Kd.R_below HO_172002.out hb); have n9_ := mk0 (Kd.R_below HO175.out hb); have n10_ := mk0 (Kd.R_below HO178.out hb); have n11_ := mk0 (Kd.R_below HO181.out hb); have n12_ := mk0 (blk_below BK129.out hb); have n13_ := mk0 (blk_below BK150.out hb); have n14_ := mk0 (blk_below BK160.out hb); have n15_ := mk0 (blk_below BK171.out hb); have n16_ := mk0 (below_step (by repeat (first | (with_reducible first | exact HB.out | apply below_alloc | apply pw_below_drewN | apply below_drew1 | refine below_set ?_ GE129.out | refine below_set ?_ GE150.out | refine below_set ?_ GE160.out | refine below_set ?_ GE171.out) | exact HB.out)) hb); clear HO_151000; clear HO_151001; clear HO_151002; clear HO_161000; clear HO_161001; clear HO_161002; clear HO_172000; clear HO_172001; clear HO_172002; clear HO175; clear HO178; clear HO181; clear BK129; clear BK150; clear BK160; clear BK171; clear HB; have HO_151000 := n0_; have HO_151001 := n1_; have HO_151002 := n2_; have HO_161000 := n3_; have HO_161001 := n4_; have HO_161002 := n5_; have HO_172000 := n6_; have HO_172001 := n7_; have HO_172002 := n8_; have HO175 := n9_; have HO178 := n10_; have HO181 := n11_; have BK129 := n12_; have BK150 := n13_; have BK160 := n14_; have BK171 := n15_; have HB := n16_; clear n0_ n1_ n2_ n3_ n4_ n5_ n6_ n7_ n8_ n9_ n10_ n11_ n12_ n13_ n14_ n15_ n16_; (try clear hb); (try clear hb2); (try clear hk); (try clear hi)))
                  go_meet
                  case rel => exact ⟨_, (true), (by first | rfl | (simp; done) | (simp [*]; done)), H', ⟨by have := HJ10.out; first | omega | exact Nat.le_refl _⟩, ⟨by exact Kd.R_mono HO_151000.out (fun _ hk => ⟨hk.1, ⟨hk.2.1, ⟨hk.2.2.1, ⟨hk.2.2.2.1, ⟨hk.2.2.2.2.1, ⟨hk.2.2.2.2.2.1, ⟨hk.2.2.2.2.2.2.1, hk.2.2.2.2.2.2.2.1⟩⟩⟩⟩⟩⟩⟩)⟩, ⟨by exact Kd.R_mono HO_151001.out (fun _ hk => ⟨hk.1, ⟨hk.2.1, ⟨hk.2.2.1, ⟨hk.2.2.2.1, ⟨hk.2.2.2.2.1, ⟨hk.2.2.2.2.2.1, ⟨hk.2.2.2.2.2.2.1, hk.2.2.2.2.2.2.2.1⟩⟩⟩⟩⟩⟩⟩)⟩, ⟨by exact Kd.R_mono HO_151002.out (fun _ hk => ⟨hk.1, ⟨hk.2.1, ⟨hk.2.2.1, ⟨hk.2.2.2.1, ⟨hk.2.2.2.2.1, ⟨hk.2.2.2.2.2.1, ⟨hk.2.2.2.2.2.2.1, hk.2.2.2.2.2.2.2.1⟩⟩⟩⟩⟩⟩⟩)⟩, ⟨by exact Kd.R_mono HO_161000.out (fun _ hk => ⟨hk.1.1.1.1, ⟨hk.1.1.1.2.1, ⟨hk.1.1.1.2.2.1, ⟨hk.1.1.1.2.2.2.1, ⟨hk.1.1.1.2.2.2.2.1, ⟨hk.1.1.1.2.2.2.2.2.1, ⟨hk.1.1.1.2.2.2.2.2.2.1, hk.1.1.1.2.2.2.2.2.2.2⟩⟩⟩⟩⟩⟩⟩)⟩, ⟨by exact Kd.R_mono HO_161001.out (fun _ hk => ⟨hk.1.1.1.1, ⟨hk.1.1.1.2.1, ⟨hk.1.1.1.2.2.1, ⟨hk.1.1.1.2.2.2.1, ⟨hk.1.1.1.2.2.2.2.1, ⟨hk.1.1.1.2.2.2.2.2.1, ⟨hk.1.1.1.2.2.2.2.2.2.1, hk.1.1.1.2.2.2.2.2.2.2⟩⟩⟩⟩⟩⟩⟩)⟩, ⟨by exact Kd.R_mono HO_161002.out (fun _ hk => ⟨hk.1.1.1.1, ⟨hk.1.1.1.2.1, ⟨hk.1.1.1.2.2.1, ⟨hk.1.1.1.2.2.2.1, ⟨hk.1.1.1.2.2.2.2.1, ⟨hk.1.1.1.2.2.2.2.2.1, ⟨hk.1.1.1.2.2.2.2.2.2.1, hk.1.1.1.2.2.2.2.2.2.2⟩⟩⟩⟩⟩⟩⟩)⟩, ⟨by exact Kd.R_mono HO_172000.out (fun _ hk => ⟨hk.1, ⟨hk.2.1, ⟨hk.2.2.1, ⟨hk.2.2.2.1, ⟨hk.2.2.2.2.1, ⟨hk.2.2.2.2.2.1, ⟨hk.2.2.2.2.2.2.1, hk.2.2.2.2.2.2.2.1⟩⟩⟩⟩⟩⟩⟩)⟩, ⟨by exact Kd.R_mono HO_172001.out (fun _ hk => ⟨hk.1, ⟨hk.2.1, ⟨hk.2.2.1, ⟨hk.2.2.2.1, ⟨hk.2.2.2.2.1, ⟨hk.2.2.2.2.2.1, ⟨hk.2.2.2.2.2.2.1, hk.2.2.2.2.2.2.2.1⟩⟩⟩⟩⟩⟩⟩)⟩, ⟨by exact Kd.R_mono HO_172002.out (fun _ hk => ⟨hk.1, ⟨hk.2.1, ⟨hk.2.2.1, ⟨hk.2.2.2.1, ⟨hk.2.2.2.2.1, ⟨hk.2.2.2.2.2.1, ⟨hk.2.2.2.2.2.2.1, hk.2.2.2.2.2.2.2.1⟩⟩⟩⟩⟩⟩⟩)⟩, ⟨by exact BK129.out⟩, ⟨by exact BK150.out⟩, ⟨by exact BK160.out⟩, ⟨by exact BK171.out⟩, ⟨by repeat (first | (with_reducible first | exact HB.out | apply below_alloc | apply pw_below_drewN | apply below_drew1 | refine below_set ?_ GE129.out | refine below_set ?_ GE150.out | refine below_set ?_ GE160.out | refine below_set ?_ GE171.out) | exact HB.out)⟩⟩
            case rest =>
              clear HC68
              try clear c2
              try clear p2
              try clear c3
              try clear c3b0
              try clear c4
              try clear c5
              try clear c6
              try clear c7
              try clear c8
              try clear c9
              try clear c23
              try clear c31
              try clear c32
              try clear c33
              try clear c34
              try clear c35
              try clear c36
              try clear c37
              try clear c39
              try clear c40
              try clear c41
              try clear c46
              try clear c47
              try clear c48
              try clear c49
              try clear c51
              try clear c52
              try clear c55
              try clear c56
              try clear c57
              try clear c59
              try clear c60
              try clear c63
              try clear c66
              try clear c75
              try clear c76
              try clear c77
              try clear c80
              try clear c80b0
              try clear c82
              try clear c83
              try clear c84
              try clear c85
              try clear c87
              try clear c88
              try clear c91
              try clear c92
              try clear c93
              try clear c95
              try clear c96
              try clear hcz13_0
              try clear hcz13_1
              try clear hcz13_2
              try clear hcz15_0
              try clear hcz15_1
              try clear hcz15_2
              try clear hcz24_0
              try clear hcz24_1
              try clear hcz24_2
              try clear hcz27_0
              try clear hcz27_1
              try clear hcz27_2
              try clear hcz33_0
              try clear hcz33_1
              try clear hcz33_2
              try clear hcz42_0
              try clear hcz42_1
              try clear hcz42_2
              try clear hcz50_0
              try clear hcz50_1
              try clear hcz50_2
              try clear hcz53_0
              try clear hcz53_1
              try clear hcz53_2
              try clear hcz58_0
              try clear hcz58_1
              try clear hcz58_2
              try clear hcz5_0
              try clear hcz5_1
              try clear hcz5_2
              try clear hcz61_0
              try clear hcz61_1
              try clear hcz61_2
              try clear hcz78_0
              try clear hcz78_1
              try clear hcz78_2
              try clear hcz86_0
              try clear hcz86_1
              try clear hcz86_2
              try clear hcz89_0
              try clear hcz89_1
              try clear hcz89_2
              try clear hcz94_0
              try clear hcz94_1
              try clear hcz94_2
              try clear hcz97_0
              try clear hcz97_1
              try clear hcz97_2
              try clear hfz13_0
              try clear hfz13_1
              try clear hfz13_2
              try clear hfz15_0
              try clear hfz15_1
              try clear hfz15_2
              try clear hfz24_0
              try clear hfz24_1
              try clear hfz24_2
              try clear hfz27_0
              try clear hfz27_1
              try clear hfz27_2
              try clear hfz33_0
              try clear hfz33_1
              try clear hfz33_2
              try clear hfz42_0
              try clear hfz42_1
              try clear hfz42_2
              try clear hfz50_0
              try clear hfz50_1
              try clear hfz50_2
              try clear hfz53_0
              try clear hfz53_1
              try clear hfz53_2
              try clear hfz58_0
              try clear hfz58_1
              try clear hfz58_2
              try clear hfz5_0
              try clear hfz5_1
              try clear hfz5_2
              try clear hfz61_0
              try clear hfz61_1
              try clear hfz61_2
              try clear hfz78_0
              try clear hfz78_1
              try clear hfz78_2
              try clear hfz86_0
              try clear hfz86_1
              try clear hfz86_2
              try clear hfz89_0
              try clear hfz89_1
              try clear hfz89_2
              try clear hfz94_0
              try clear hfz94_1
              try clear hfz94_2
              try clear hfz97_0
              try clear hfz97_1
              try clear hfz97_2
              try clear p2
              obtain ⟨kq, x61_67, rfl, HA, HJ67, HO_151000, HO_151001, HO_151002, HO_161000, HO_161001, HO_161002, HO_172000, HO_172001, HO_172002, BK129, BK150, BK160, BK171, HB⟩ := hcut
              have hl161000_67 := (Kd.R_reads' HO_161000.out).1
              rw [hl161000_67] at HO_161000
              (try simp only [hl161000_67])
              (try simp only [hl161000_67] at BK129)
              (try simp only [hl161000_67] at BK150)
              (try simp only [hl161000_67] at BK160)
              (try simp only [hl161000_67] at BK171)
              (try simp only [hl161000_67] at HO_151000)
              (try simp only [hl161000_67] at HO_151001)
              (try simp only [hl161000_67] at HO_151002)
              (try simp only [hl161000_67] at HO_161001)
              (try simp only [hl161000_67] at HO_161002)
              (try simp only [hl161000_67] at HO_172000)
              (try simp only [hl161000_67] at HO_172001)
              (try simp only [hl161000_67] at HO_172002)
              have hl161001_67 := (Kd.R_reads' HO_161001.out).1
              rw [hl161001_67] at HO_161001
              (try simp only [hl161001_67])
              (try simp only [hl161001_67] at BK129)
              (try simp only [hl161001_67] at BK150)
              (try simp only [hl161001_67] at BK160)
              (try simp only [hl161001_67] at BK171)
              (try simp only [hl161001_67] at HO_151000)
              (try simp only [hl161001_67] at HO_151001)
              (try simp only [hl161001_67] at HO_151002)
              (try simp only [hl161001_67] at HO_161000)
              (try simp only [hl161001_67] at HO_161002)
              (try simp only [hl161001_67] at HO_172000)
              (try simp only [hl161001_67] at HO_172001)
              (try simp only [hl161001_67] at HO_172002)
              have hl161002_67 := (Kd.R_reads' HO_161002.out).1
              rw [hl161002_67] at HO_161002
              (try simp only [hl161002_67])
              (try simp only [hl161002_67] at BK129)
              (try simp only [hl161002_67] at BK150)
              (try simp only [hl161002_67] at BK160)
              (try simp only [hl161002_67] at BK171)
              (try simp only [hl161002_67] at HO_151000)
              (try simp only [hl161002_67] at HO_151001)
              (try simp only [hl161002_67] at HO_151002)
              (try simp only [hl161002_67] at HO_161000)
              (try simp only [hl161002_67] at HO_161001)
              (try simp only [hl161002_67] at HO_172000)
              (try simp only [hl161002_67] at HO_172001)
              (try simp only [hl161002_67] at HO_172002)
              cases kq with
              | zero => exact absurd HA.out (by simp [laws_FnExactReverseGauss.j1])
              | succ kj67 =>
                have H := HA.out
                clear HA
                simp only [laws_FnExactReverseGauss.j1] at H
                by_cases c99 : x61_67 = true
                · subst c99
                  have H1 : (some false) = some r := by rw [if_pos rfl] at H; exact H
                  clear H
                  have H := H1
                  clear H1
                  obtain rfl := Option.some.inj H
                  go_wp2
                  go_ret
                  exact ⟨by first | rfl | (simp [errW_none, errW_some] <;> rfl) | (simp [*, errW_none, errW_some] <;> rfl), by repeat (first | (with_reducible first | exact HB.out | apply below_alloc | apply pw_below_drewN | apply below_drew1 | refine below_set ?_ GE129.out | refine below_set ?_ GE150.out | refine below_set ?_ GE160.out | refine below_set ?_ GE171.out) | exact HB.out)⟩
                · replace c99 := Bool.eq_false_iff.mpr c99
                  subst c99
                  have H1 : ((laws_markGauss.f kj67 t161 t164 t167 1).bind fun bt188 => ((laws_heldGauss.f kj67 bt188.2.1 bt188.2.2.1 bt188.2.2.2 1).bind fun t192 => (if t192 < 0 then (some false) else (if t192 = bt188.1 then ((laws_toGauss.f kj67 l0_0 l0_1 l0_2).bind fun bt193 => ((impl_ReverseGauss.f kj67 bt193.1 bt193.2.1 bt193.2.2).bind fun bt202 => ((laws_eqGauss.f kj67 bt202.1 bt202.2.1 bt202.2.2.1 t140 t143 t146).bind fun t213 => (if t213 = true then (laws_FnExactReverseGauss.j2 kj67 bt188.1 (bt202.2.2.2 != t149) bt188.2.1 bt188.2.2.1 bt188.2.2.2) else (laws_FnExactReverseGauss.j2 kj67 bt188.1 true bt188.2.1 bt188.2.2.1 bt188.2.2.2))))) else (some false))))) = some r := by rw [if_neg (show ¬ (false = true) by decide)] at H; exact H
                  clear H
                  have H := H1
                  clear H1
                  replace H := Option.bind_eq_some_iff.mp H
                  obtain ⟨⟨t188, t189, t190, t191⟩, A1000, H⟩ := H
                  replace H : ((laws_heldGauss.f kj67 t189 t190 t191 1).bind fun t192 => (if t192 < 0 then (some false) else (if t192 = t188 then ((laws_toGauss.f kj67 l0_0 l0_1 l0_2).bind fun bt193 => ((impl_ReverseGauss.f kj67 bt193.1 bt193.2.1 bt193.2.2).bind fun bt202 => ((laws_eqGauss.f kj67 bt202.1 bt202.2.1 bt202.2.2.1 t140 t143 t146).bind fun t213 => (if t213 = true then (laws_FnExactReverseGauss.j2 kj67 t188 (bt202.2.2.2 != t149) t189 t190 t191) else (laws_FnExactReverseGauss.j2 kj67 t188 true t189 t190 t191))))) else (some false)))) = some r := H
                  have A100 := Aside0.mk A1000
                  clear A1000
                  replace H := Option.bind_eq_some_iff.mp H
                  obtain ⟨t192, A1010, H⟩ := H
                  replace H : (if t192 < 0 then (some false) else (if t192 = t188 then ((laws_toGauss.f kj67 l0_0 l0_1 l0_2).bind fun bt193 => ((impl_ReverseGauss.f kj67 bt193.1 bt193.2.1 bt193.2.2).bind fun bt202 => ((laws_eqGauss.f kj67 bt202.1 bt202.2.1 bt202.2.2.1 t140 t143 t146).bind fun t213 => (if t213 = true then (laws_FnExactReverseGauss.j2 kj67 t188 (bt202.2.2.2 != t149) t189 t190 t191) else (laws_FnExactReverseGauss.j2 kj67 t188 true t189 t190 t191))))) else (some false))) = some r := H
                  have A101 := Aside0.mk A1010
                  clear A1010
                  by_cases c102 : t192 < 0
                  · rw [if_pos c102] at H
                    have c102b0 : decide (t192 < 0) = true := decide_eq_true c102
                    clear c102
                    obtain rfl := Option.some.inj H
                    have hnb103 := NB171_129.out
                    have hnc103 := NB129_171.out
                    have hnb104 := NB171_150.out
                    have hnc104 := NB150_171.out
                    have hnb105 := NB171_160.out
                    have hnc105 := NB160_171.out
                    have hcz106_0 : wc.cell? ⟨gb171, 0, none⟩ = some (.slice Ao38 t161.length co38) := (blk_cell BK171.out 0).trans rfl
                    have hcz106_1 : wc.cell? ⟨gb171, 1, none⟩ = some (.slice Ao43 t164.length co43) := (blk_cell BK171.out 1).trans rfl
                    have hcz106_2 : wc.cell? ⟨gb171, 2, none⟩ = some (.slice Ao44 t167.length co44) := (blk_cell BK171.out 2).trans rfl
                    have hfz106_0 := blk_frozen BK171.out 0
                    have hfz106_1 := blk_frozen BK171.out 1
                    have hfz106_2 := blk_frozen BK171.out 2
                    go_wp2_with (first | ((with_reducible refine gate_callee (f := 37) rfl ?_); refine goesL_ (some 64) rfl rfl Try.func37 (by kernel_rfl) rfl #[.agg #[.slice Ao38 t161.length co38, .slice Ao43 t164.length co43, .slice Ao44 t167.length co44], .int .i64 1] rfl (by (try simp only [List.map_toArray, List.map_cons, List.map_nil]); rfl) ?_; (with_reducible refine (laws_markGauss.calls kj67 (fun k_ => some k_ = (.slice Ao38 t161.length co38 : Value).ownBlock) (.slice Ao38 t161.length co38) t161 (fun k_ => some k_ = (.slice Ao43 t164.length co43 : Value).ownBlock) (.slice Ao43 t164.length co43) t164 (fun k_ => some k_ = (.slice Ao44 t167.length co44 : Value).ownBlock) (.slice Ao44 t167.length co44) t167 1 t188 t189 t190 t191 w _ ?side1 ?side2 ?side3 ?side4 ?side5 ?side6 ?side7 ?side8 ?side9 ?side10 A100.out).mono ?_); (case side1 => repeat (first | (with_reducible first | exact HB.out | apply below_alloc | apply pw_below_drewN | apply below_drew1 | refine below_set ?_ GE129.out | refine below_set ?_ GE150.out | refine below_set ?_ GE160.out | refine below_set ?_ GE171.out) | exact HB.out)); (case side2 => exact Kd.R_tight rfl HO_172000.out); (case side3 => exact fun k_ e_ => (HO_172000.out.1 k_ e_.symm).2.2.2.2.2.2.1); (case side4 => exact fun k_ e_ => (HO_172000.out.1 k_ e_.symm).2.2.2.2.2.2.2); (case side5 => exact Kd.R_tight rfl HO_172001.out); (case side6 => exact fun k_ e_ => (HO_172001.out.1 k_ e_.symm).2.2.2.2.2.2.1); (case side7 => exact fun k_ e_ => (HO_172001.out.1 k_ e_.symm).2.2.2.2.2.2.2); (case side8 => exact Kd.R_tight rfl HO_172002.out); (case side9 => exact fun k_ e_ => (HO_172002.out.1 k_ e_.symm).2.2.2.2.2.2.1); (case side10 => exact fun k_ e_ => (HO_172002.out.1 k_ e_.symm).2.2.2.2.2.2.2); rintro e w107 ⟨rfl, hy0, hy1, hy2, hb, hkp⟩; refine ⟨_, rfl, ?_⟩; have n0_ := mk0 (Kd.R_mono (ok' := fun k_ => nb k_ Ao25 t143 co25 ∧ nb k_ Ao26 t146 co26 ∧ nb k_ Ao30 t184 co30 ∧ nb k_ Ao34 t185 co34 ∧ nb k_ Ao35 t186 co35 ∧ nb k_ Ao38 t161 co38 ∧ nb k_ Ao43 t164 co43 ∧ nb k_ Ao44 t167 co44) (Kd.R_keptB (HO_151000.out) hkp (fun k_ hk_ hs_ => Or.elim hs_ (fun e_ => (hk_.2.2.2.2.2.1) e_) (fun e_ => Or.elim e_ (fun e_ => (hk_.2.2.2.2.2.2.1) e_) (fun e_ => (hk_.2.2.2.2.2.2.2) e_)))) (fun k_ hk_ => ⟨hk_.1.1, hk_.1.2.1, hk_.1.2.2.1, hk_.1.2.2.2.1, hk_.1.2.2.2.2.1, hk_.1.2.2.2.2.2.1, hk_.1.2.2.2.2.2.2.1, hk_.1.2.2.2.2.2.2.2⟩)); have n1_ := mk0 (Kd.R_mono (ok' := fun k_ => nb k_ Ao22 t140 co22 ∧ nb k_ Ao26 t146 co26 ∧ nb k_ Ao30 t184 co30 ∧ nb k_ Ao34 t185 co34 ∧ nb k_ Ao35 t186 co35 ∧ nb k_ Ao38 t161 co38 ∧ nb k_ Ao43 t164 co43 ∧ nb k_ Ao44 t167 co44) (Kd.R_keptB (HO_151001.out) hkp (fun k_ hk_ hs_ => Or.elim hs_ (fun e_ => (hk_.2.2.2.2.2.1) e_) (fun e_ => Or.elim e_ (fun e_ => (hk_.2.2.2.2.2.2.1) e_) (fun e_ => (hk_.2.2.2.2.2.2.2) e_)))) (fun k_ hk_ => ⟨hk_.1.1, hk_.1.2.1, hk_.1.2.2.1, hk_.1.2.2.2.1, hk_.1.2.2.2.2.1, hk_.1.2.2.2.2.2.1, hk_.1.2.2.2.2.2.2.1, hk_.1.2.2.2.2.2.2.2⟩)); have n2_ := mk0 (Kd.R_mono (ok' := fun k_ => nb k_ Ao22 t140 co22 ∧ nb k_ Ao25 t143 co25 ∧ nb k_ Ao30 t184 co30 ∧ nb k_ Ao34 t185 co34 ∧ nb k_ Ao35 t186 co35 ∧ nb k_ Ao38 t161 co38 ∧ nb k_ Ao43 t164 co43 ∧ nb k_ Ao44 t167 co44) (Kd.R_keptB (HO_151002.out) hkp (fun k_ hk_ hs_ => Or.elim hs_ (fun e_ => (hk_.2.2.2.2.2.1) e_) (fun e_ => Or.elim e_ (fun e_ => (hk_.2.2.2.2.2.2.1) e_) (fun e_ => (hk_.2.2.2.2.2.2.2) e_)))) (fun k_ hk_ => ⟨hk_.1.1, hk_.1.2.1, hk_.1.2.2.1, hk_.1.2.2.2.1, hk_.1.2.2.2.2.1, hk_.1.2.2.2.2.2.1, hk_.1.2.2.2.2.2.2.1, hk_.1.2.2.2.2.2.2.2⟩)); have n3_ := mk0 (Kd.R_mono (ok' := fun k_ => nb k_ Ao22 t140 co22 ∧ nb k_ Ao25 t143 co25 ∧ nb k_ Ao26 t146 co26 ∧ nb k_ Ao34 t185 co34 ∧ nb k_ Ao35 t186 co35 ∧ nb k_ Ao38 t161 co38 ∧ nb k_ Ao43 t164 co43 ∧ nb k_ Ao44 t167 co44) (Kd.R_keptB (HO_161000.out) hkp (fun k_ hk_ hs_ => Or.elim hs_ (fun e_ => (hk_.2.2.2.2.2.1) e_) (fun e_ => Or.elim e_ (fun e_ => (hk_.2.2.2.2.2.2.1) e_) (fun e_ => (hk_.2.2.2.2.2.2.2) e_)))) (fun k_ hk_ => ⟨hk_.1.1, hk_.1.2.1, hk_.1.2.2.1, hk_.1.2.2.2.1, hk_.1.2.2.2.2.1, hk_.1.2.2.2.2.2.1, hk_.1.2.2.2.2.2.2.1, hk_.1.2.2.2.2.2.2.2⟩)); have n4_ := mk0 (Kd.R_mono (ok' := fun k_ => nb k_ Ao22 t140 co22 ∧ nb k_ Ao25 t143 co25 ∧ nb k_ Ao26 t146 co26 ∧ nb k_ Ao30 t184 co30 ∧ nb k_ Ao35 t186 co35 ∧ nb k_ Ao38 t161 co38 ∧ nb k_ Ao43 t164 co43 ∧ nb k_ Ao44 t167 co44) (Kd.R_keptB (HO_161001.out) hkp (fun k_ hk_ hs_ => Or.elim hs_ (fun e_ => (hk_.2.2.2.2.2.1) e_) (fun e_ => Or.elim e_ (fun e_ => (hk_.2.2.2.2.2.2.1) e_) (fun e_ => (hk_.2.2.2.2.2.2.2) e_)))) (fun k_ hk_ => ⟨hk_.1.1, hk_.1.2.1, hk_.1.2.2.1, hk_.1.2.2.2.1, hk_.1.2.2.2.2.1, hk_.1.2.2.2.2.2.1, hk_.1.2.2.2.2.2.2.1, hk_.1.2.2.2.2.2.2.2⟩)); have n5_ := mk0 (Kd.R_mono (ok' := fun k_ => nb k_ Ao22 t140 co22 ∧ nb k_ Ao25 t143 co25 ∧ nb k_ Ao26 t146 co26 ∧ nb k_ Ao30 t184 co30 ∧ nb k_ Ao34 t185 co34 ∧ nb k_ Ao38 t161 co38 ∧ nb k_ Ao43 t164 co43 ∧ nb k_ Ao44 t167 co44) (Kd.R_keptB (HO_161002.out) hkp (fun k_ hk_ hs_ => Or.elim hs_ (fun e_ => (hk_.2.2.2.2.2.1) e_) (fun e_ => Or.elim e_ (fun e_ => (hk_.2.2.2.2.2.2.1) e_) (fun e_ => (hk_.2.2.2.2.2.2.2) e_)))) (fun k_ hk_ => ⟨hk_.1.1, hk_.1.2.1, hk_.1.2.2.1, hk_.1.2.2.2.1, hk_.1.2.2.2.2.1, hk_.1.2.2.2.2.2.1, hk_.1.2.2.2.2.2.2.1, hk_.1.2.2.2.2.2.2.2⟩)); have n6_ := mk0 (Kd.R_reok rfl hy0 (fun k_ e_ => HO_172000.out.1 k_ e_)); have n7_ := mk0 (Kd.R_reok rfl hy1 (fun k_ e_ => HO_172001.out.1 k_ e_)); have n8_ := mk0 (Kd.R_reok rfl hy2 (fun k_ e_ => HO_172002.out.1 k_ e_)); have n9_ := mk0 (blk_kept (by exact BK129.out) hkp (fun hs_ => Or.elim hs_ (fun e_ => (fun e_ => (Kd.R_ne HO_172000.out BK129.out (by decide)) e_) e_) (fun e_ => Or.elim e_ (fun e_ => (fun e_ => (Kd.R_ne HO_172001.out BK129.out (by decide)) e_) e_) (fun e_ => (fun e_ => (Kd.R_ne HO_172002.out BK129.out (by decide)) e_) e_)))); have n10_ := mk0 (blk_kept (by exact BK150.out) hkp (fun hs_ => Or.elim hs_ (fun e_ => (fun e_ => (Kd.R_ne HO_172000.out BK150.out (by decide)) e_) e_) (fun e_ => Or.elim e_ (fun e_ => (fun e_ => (Kd.R_ne HO_172001.out BK150.out (by decide)) e_) e_) (fun e_ => (fun e_ => (Kd.R_ne HO_172002.out BK150.out (by decide)) e_) e_)))); have n11_ := mk0 (blk_kept (by exact BK160.out) hkp (fun hs_ => Or.elim hs_ (fun e_ => (fun e_ => (Kd.R_ne HO_172000.out BK160.out (by decide)) e_) e_) (fun e_ => Or.elim e_ (fun e_ => (fun e_ => (Kd.R_ne HO_172001.out BK160.out (by decide)) e_) e_) (fun e_ => (fun e_ => (Kd.R_ne HO_172002.out BK160.out (by decide)) e_) e_)))); have n12_ := mk0 (blk_kept (by exact BK171.out) hkp (fun hs_ => Or.elim hs_ (fun e_ => (fun e_ => (Kd.R_ne HO_172000.out BK171.out (by decide)) e_) e_) (fun e_ => Or.elim e_ (fun e_ => (fun e_ => (Kd.R_ne HO_172001.out BK171.out (by decide)) e_) e_) (fun e_ => (fun e_ => (Kd.R_ne HO_172002.out BK171.out (by decide)) e_) e_)))); have n13_ := mk0 (hb); clear HO_151000; clear HO_151001; clear HO_151002; clear HO_161000; clear HO_161001; clear HO_161002; clear HO_172000; clear HO_172001; clear HO_172002; clear BK129; clear BK150; clear BK160; clear BK171; clear HB; have HO_151000 := n0_; have HO_151001 := n1_; have HO_151002 := n2_; have HO_161000 := n3_; have HO_161001 := n4_; have HO_161002 := n5_; have HO_172000 := n6_; have HO_172001 := n7_; have HO_172002 := n8_; have BK129 := n9_; have BK150 := n10_; have BK160 := n11_; have BK171 := n12_; have HB := n13_; clear n0_ n1_ n2_ n3_ n4_ n5_ n6_ n7_ n8_ n9_ n10_ n11_ n12_ n13_; (try clear hb); (try clear hkp); (try clear hy0); (try clear hy1); (try clear hy2); have hcz108_0 : w107.cell? ⟨gb171, 0, none⟩ = some (.slice Ao38 t161.length co38) := (blk_cell BK171.out 0).trans rfl; have hcz108_1 : w107.cell? ⟨gb171, 1, none⟩ = some (.slice Ao43 t164.length co43) := (blk_cell BK171.out 1).trans rfl; have hcz108_2 : w107.cell? ⟨gb171, 2, none⟩ = some (.slice Ao44 t167.length co44) := (blk_cell BK171.out 2).trans rfl; have hfz108_0 := blk_frozen BK171.out 0; have hfz108_1 := blk_frozen BK171.out 1; have hfz108_2 := blk_frozen BK171.out 2) | ((with_reducible refine gate_callee (f := 38) rfl ?_); refine goesL_ (some 67) rfl rfl Try.func38 (by kernel_rfl) rfl #[.agg #[.slice Ao38 t189.length co38, .slice Ao43 t190.length co43, .slice Ao44 t191.length co44], .int .i64 1] rfl (by (try simp only [List.map_toArray, List.map_cons, List.map_nil]); first | done | (rw [show t189.length = t161.length from (Kd.R_reads' HO_172000.out).1.symm, show t190.length = t164.length from (Kd.R_reads' HO_172001.out).1.symm, show t191.length = t167.length from (Kd.R_reads' HO_172002.out).1.symm] <;> rfl) | rfl | (simp only [List.length_drop, List.length_take]; rfl)) ?_; (with_reducible refine (laws_heldGauss.calls kj67 _ _ t189 _ _ t190 _ _ t191 1 t192 _ ?side1 ?side2 ?side3 ?side4 ?side5 ?side6 A101.out).mono ?_); (case side1 => exact (Kd.R_reads' HO_172000.out).2.2); (case side2 => rw [show t189.length = t161.length from (Kd.R_reads' HO_172000.out).1.symm]; exact (Kd.R_reads' HO_172000.out).2.1); (case side3 => exact (Kd.R_reads' HO_172001.out).2.2); (case side4 => rw [show t190.length = t164.length from (Kd.R_reads' HO_172001.out).1.symm]; exact (Kd.R_reads' HO_172001.out).2.1); (case side5 => exact (Kd.R_reads' HO_172002.out).2.2); (case side6 => rw [show t191.length = t167.length from (Kd.R_reads' HO_172002.out).1.symm]; exact (Kd.R_reads' HO_172002.out).2.1); rintro e w109 ⟨rfl, hb⟩; refine ⟨_, rfl, ?_⟩; have n0_ := mk0 (Kd.R_below HO_151000.out hb); have n1_ := mk0 (Kd.R_below HO_151001.out hb); have n2_ := mk0 (Kd.R_below HO_151002.out hb); have n3_ := mk0 (Kd.R_below HO_161000.out hb); have n4_ := mk0 (Kd.R_below HO_161001.out hb); have n5_ := mk0 (Kd.R_below HO_161002.out hb); have n6_ := mk0 (Kd.R_below HO_172000.out hb); have n7_ := mk0 (Kd.R_below HO_172001.out hb); have n8_ := mk0 (Kd.R_below HO_172002.out hb); have n9_ := mk0 (blk_below BK129.out hb); have n10_ := mk0 (blk_below BK150.out hb); have n11_ := mk0 (blk_below BK160.out hb); have n12_ := mk0 (blk_below BK171.out hb); have n13_ := mk0 (below_step (by repeat (first | (with_reducible first | exact HB.out | apply below_alloc | apply pw_below_drewN | apply below_drew1 | refine below_set ?_ GE129.out | refine below_set ?_ GE150.out | refine below_set ?_ GE160.out | refine below_set ?_ GE171.out) | exact HB.out)) hb); clear HO_151000; clear HO_151001; clear HO_151002; clear HO_161000; clear HO_161001; clear HO_161002; clear HO_172000; clear HO_172001; clear HO_172002; clear BK129; clear BK150; clear BK160; clear BK171; clear HB; have HO_151000 := n0_; have HO_151001 := n1_; have HO_151002 := n2_; have HO_161000 := n3_; have HO_161001 := n4_; have HO_161002 := n5_; have HO_172000 := n6_; have HO_172001 := n7_; have HO_172002 := n8_; have BK129 := n9_; have BK150 := n10_; have BK160 := n11_; have BK171 := n12_; have HB := n13_; clear n0_ n1_ n2_ n3_ n4_ n5_ n6_ n7_ n8_ n9_ n10_ n11_ n12_ n13_; (try clear hb); (try clear hb2); (try clear hk); (try clear hi)))
                    go_ret
                    exact ⟨by first | rfl | (simp [errW_none, errW_some] <;> rfl) | (simp [*, errW_none, errW_some] <;> rfl), by repeat (first | (with_reducible first | exact HB.out | apply below_alloc | apply pw_below_drewN | apply below_drew1 | refine below_set ?_ GE129.out | refine below_set ?_ GE150.out | refine below_set ?_ GE160.out | refine below_set ?_ GE171.out) | exact HB.out)⟩
                  · rw [if_neg c102] at H
                    have c102b0 : decide (t192 < 0) = false := decide_eq_false c102
                    clear c102
                    by_cases c110 : t192 = t188
                    · rw [if_pos c110] at H
                      have c110b0 : (t192 == t188) = true := beq_iff_eq.mpr c110
                      have c110b1 : (t192 != t188) = false := bne_eq_false_iff_eq.mpr c110
                      clear c110
                      replace H := Option.bind_eq_some_iff.mp H
                      obtain ⟨⟨t193, t196, t199⟩, A1110, H⟩ := H
                      replace H : ((impl_ReverseGauss.f kj67 t193 t196 t199).bind fun bt202 => ((laws_eqGauss.f kj67 bt202.1 bt202.2.1 bt202.2.2.1 t140 t143 t146).bind fun t213 => (if t213 = true then (laws_FnExactReverseGauss.j2 kj67 t188 (bt202.2.2.2 != t149) t189 t190 t191) else (laws_FnExactReverseGauss.j2 kj67 t188 true t189 t190 t191)))) = some r := H
                      have A111 := Aside0.mk A1110
                      clear A1110
                      replace H := Option.bind_eq_some_iff.mp H
                      obtain ⟨⟨t202, t205, t208, t211⟩, A1120, H⟩ := H
                      replace H : ((laws_eqGauss.f kj67 t202 t205 t208 t140 t143 t146).bind fun t213 => (if t213 = true then (laws_FnExactReverseGauss.j2 kj67 t188 (t211 != t149) t189 t190 t191) else (laws_FnExactReverseGauss.j2 kj67 t188 true t189 t190 t191))) = some r := H
                      have A112 := Aside0.mk A1120
                      clear A1120
                      have HC113 := Aside0.mk H
                      clear H
                      have hnb114 := NB171_129.out
                      have hnc114 := NB129_171.out
                      have hnb115 := NB171_150.out
                      have hnc115 := NB150_171.out
                      have hnb116 := NB171_160.out
                      have hnc116 := NB160_171.out
                      have hcz117_0 : wc.cell? ⟨gb171, 0, none⟩ = some (.slice Ao38 t161.length co38) := (blk_cell BK171.out 0).trans rfl
                      have hcz117_1 : wc.cell? ⟨gb171, 1, none⟩ = some (.slice Ao43 t164.length co43) := (blk_cell BK171.out 1).trans rfl
                      have hcz117_2 : wc.cell? ⟨gb171, 2, none⟩ = some (.slice Ao44 t167.length co44) := (blk_cell BK171.out 2).trans rfl
                      have hfz117_0 := blk_frozen BK171.out 0
                      have hfz117_1 := blk_frozen BK171.out 1
                      have hfz117_2 := blk_frozen BK171.out 2
                      go_upto_region 25 with (first | ((with_reducible refine gate_callee (f := 37) rfl ?_); refine goesL_ (some 64) rfl rfl Try.func37 (by kernel_rfl) rfl #[.agg #[.slice Ao38 t161.length co38, .slice Ao43 t164.length co43, .slice Ao44 t167.length co44], .int .i64 1] rfl (by (try simp only [List.map_toArray, List.map_cons, List.map_nil]); rfl) ?_; (with_reducible refine (laws_markGauss.calls kj67 (fun k_ => some k_ = (.slice Ao38 t161.length co38 : Value).ownBlock) (.slice Ao38 t161.length co38) t161 (fun k_ => some k_ = (.slice Ao43 t164.length co43 : Value).ownBlock) (.slice Ao43 t164.length co43) t164 (fun k_ => some k_ = (.slice Ao44 t167.length co44 : Value).ownBlock) (.slice Ao44 t167.length co44) t167 1 t188 t189 t190 t191 w _ ?side1 ?side2 ?side3 ?side4 ?side5 ?side6 ?side7 ?side8 ?side9 ?side10 A100.out).mono ?_); (case side1 => repeat (first | (with_reducible first | exact HB.out | apply below_alloc | apply pw_below_drewN | apply below_drew1 | refine below_set ?_ GE129.out | refine below_set ?_ GE150.out | refine below_set ?_ GE160.out | refine below_set ?_ GE171.out) | exact HB.out)); (case side2 => exact Kd.R_tight rfl HO_172000.out); (case side3 => exact fun k_ e_ => (HO_172000.out.1 k_ e_.symm).2.2.2.2.2.2.1); (case side4 => exact fun k_ e_ => (HO_172000.out.1 k_ e_.symm).2.2.2.2.2.2.2); (case side5 => exact Kd.R_tight rfl HO_172001.out); (case side6 => exact fun k_ e_ => (HO_172001.out.1 k_ e_.symm).2.2.2.2.2.2.1); (case side7 => exact fun k_ e_ => (HO_172001.out.1 k_ e_.symm).2.2.2.2.2.2.2); (case side8 => exact Kd.R_tight rfl HO_172002.out); (case side9 => exact fun k_ e_ => (HO_172002.out.1 k_ e_.symm).2.2.2.2.2.2.1); (case side10 => exact fun k_ e_ => (HO_172002.out.1 k_ e_.symm).2.2.2.2.2.2.2); rintro e w118 ⟨rfl, hy0, hy1, hy2, hb, hkp⟩; refine ⟨_, rfl, ?_⟩; have n0_ := mk0 (Kd.R_mono (ok' := fun k_ => nb k_ Ao25 t143 co25 ∧ nb k_ Ao26 t146 co26 ∧ nb k_ Ao30 t184 co30 ∧ nb k_ Ao34 t185 co34 ∧ nb k_ Ao35 t186 co35 ∧ nb k_ Ao38 t161 co38 ∧ nb k_ Ao43 t164 co43 ∧ nb k_ Ao44 t167 co44) (Kd.R_keptB (HO_151000.out) hkp (fun k_ hk_ hs_ => Or.elim hs_ (fun e_ => (hk_.2.2.2.2.2.1) e_) (fun e_ => Or.elim e_ (fun e_ => (hk_.2.2.2.2.2.2.1) e_) (fun e_ => (hk_.2.2.2.2.2.2.2) e_)))) (fun k_ hk_ => ⟨hk_.1.1, hk_.1.2.1, hk_.1.2.2.1, hk_.1.2.2.2.1, hk_.1.2.2.2.2.1, hk_.1.2.2.2.2.2.1, hk_.1.2.2.2.2.2.2.1, hk_.1.2.2.2.2.2.2.2⟩)); have n1_ := mk0 (Kd.R_mono (ok' := fun k_ => nb k_ Ao22 t140 co22 ∧ nb k_ Ao26 t146 co26 ∧ nb k_ Ao30 t184 co30 ∧ nb k_ Ao34 t185 co34 ∧ nb k_ Ao35 t186 co35 ∧ nb k_ Ao38 t161 co38 ∧ nb k_ Ao43 t164 co43 ∧ nb k_ Ao44 t167 co44) (Kd.R_keptB (HO_151001.out) hkp (fun k_ hk_ hs_ => Or.elim hs_ (fun e_ => (hk_.2.2.2.2.2.1) e_) (fun e_ => Or.elim e_ (fun e_ => (hk_.2.2.2.2.2.2.1) e_) (fun e_ => (hk_.2.2.2.2.2.2.2) e_)))) (fun k_ hk_ => ⟨hk_.1.1, hk_.1.2.1, hk_.1.2.2.1, hk_.1.2.2.2.1, hk_.1.2.2.2.2.1, hk_.1.2.2.2.2.2.1, hk_.1.2.2.2.2.2.2.1, hk_.1.2.2.2.2.2.2.2⟩)); have n2_ := mk0 (Kd.R_mono (ok' := fun k_ => nb k_ Ao22 t140 co22 ∧ nb k_ Ao25 t143 co25 ∧ nb k_ Ao30 t184 co30 ∧ nb k_ Ao34 t185 co34 ∧ nb k_ Ao35 t186 co35 ∧ nb k_ Ao38 t161 co38 ∧ nb k_ Ao43 t164 co43 ∧ nb k_ Ao44 t167 co44) (Kd.R_keptB (HO_151002.out) hkp (fun k_ hk_ hs_ => Or.elim hs_ (fun e_ => (hk_.2.2.2.2.2.1) e_) (fun e_ => Or.elim e_ (fun e_ => (hk_.2.2.2.2.2.2.1) e_) (fun e_ => (hk_.2.2.2.2.2.2.2) e_)))) (fun k_ hk_ => ⟨hk_.1.1, hk_.1.2.1, hk_.1.2.2.1, hk_.1.2.2.2.1, hk_.1.2.2.2.2.1, hk_.1.2.2.2.2.2.1, hk_.1.2.2.2.2.2.2.1, hk_.1.2.2.2.2.2.2.2⟩)); have n3_ := mk0 (Kd.R_mono (ok' := fun k_ => nb k_ Ao22 t140 co22 ∧ nb k_ Ao25 t143 co25 ∧ nb k_ Ao26 t146 co26 ∧ nb k_ Ao34 t185 co34 ∧ nb k_ Ao35 t186 co35 ∧ nb k_ Ao38 t161 co38 ∧ nb k_ Ao43 t164 co43 ∧ nb k_ Ao44 t167 co44) (Kd.R_keptB (HO_161000.out) hkp (fun k_ hk_ hs_ => Or.elim hs_ (fun e_ => (hk_.2.2.2.2.2.1) e_) (fun e_ => Or.elim e_ (fun e_ => (hk_.2.2.2.2.2.2.1) e_) (fun e_ => (hk_.2.2.2.2.2.2.2) e_)))) (fun k_ hk_ => ⟨hk_.1.1, hk_.1.2.1, hk_.1.2.2.1, hk_.1.2.2.2.1, hk_.1.2.2.2.2.1, hk_.1.2.2.2.2.2.1, hk_.1.2.2.2.2.2.2.1, hk_.1.2.2.2.2.2.2.2⟩)); have n4_ := mk0 (Kd.R_mono (ok' := fun k_ => nb k_ Ao22 t140 co22 ∧ nb k_ Ao25 t143 co25 ∧ nb k_ Ao26 t146 co26 ∧ nb k_ Ao30 t184 co30 ∧ nb k_ Ao35 t186 co35 ∧ nb k_ Ao38 t161 co38 ∧ nb k_ Ao43 t164 co43 ∧ nb k_ Ao44 t167 co44) (Kd.R_keptB (HO_161001.out) hkp (fun k_ hk_ hs_ => Or.elim hs_ (fun e_ => (hk_.2.2.2.2.2.1) e_) (fun e_ => Or.elim e_ (fun e_ => (hk_.2.2.2.2.2.2.1) e_) (fun e_ => (hk_.2.2.2.2.2.2.2) e_)))) (fun k_ hk_ => ⟨hk_.1.1, hk_.1.2.1, hk_.1.2.2.1, hk_.1.2.2.2.1, hk_.1.2.2.2.2.1, hk_.1.2.2.2.2.2.1, hk_.1.2.2.2.2.2.2.1, hk_.1.2.2.2.2.2.2.2⟩)); have n5_ := mk0 (Kd.R_mono (ok' := fun k_ => nb k_ Ao22 t140 co22 ∧ nb k_ Ao25 t143 co25 ∧ nb k_ Ao26 t146 co26 ∧ nb k_ Ao30 t184 co30 ∧ nb k_ Ao34 t185 co34 ∧ nb k_ Ao38 t161 co38 ∧ nb k_ Ao43 t164 co43 ∧ nb k_ Ao44 t167 co44) (Kd.R_keptB (HO_161002.out) hkp (fun k_ hk_ hs_ => Or.elim hs_ (fun e_ => (hk_.2.2.2.2.2.1) e_) (fun e_ => Or.elim e_ (fun e_ => (hk_.2.2.2.2.2.2.1) e_) (fun e_ => (hk_.2.2.2.2.2.2.2) e_)))) (fun k_ hk_ => ⟨hk_.1.1, hk_.1.2.1, hk_.1.2.2.1, hk_.1.2.2.2.1, hk_.1.2.2.2.2.1, hk_.1.2.2.2.2.2.1, hk_.1.2.2.2.2.2.2.1, hk_.1.2.2.2.2.2.2.2⟩)); have n6_ := mk0 (Kd.R_reok rfl hy0 (fun k_ e_ => HO_172000.out.1 k_ e_)); have n7_ := mk0 (Kd.R_reok rfl hy1 (fun k_ e_ => HO_172001.out.1 k_ e_)); have n8_ := mk0 (Kd.R_reok rfl hy2 (fun k_ e_ => HO_172002.out.1 k_ e_)); have n9_ := mk0 (blk_kept (by exact BK129.out) hkp (fun hs_ => Or.elim hs_ (fun e_ => (fun e_ => (Kd.R_ne HO_172000.out BK129.out (by decide)) e_) e_) (fun e_ => Or.elim e_ (fun e_ => (fun e_ => (Kd.R_ne HO_172001.out BK129.out (by decide)) e_) e_) (fun e_ => (fun e_ => (Kd.R_ne HO_172002.out BK129.out (by decide)) e_) e_)))); have n10_ := mk0 (blk_kept (by exact BK150.out) hkp (fun hs_ => Or.elim hs_ (fun e_ => (fun e_ => (Kd.R_ne HO_172000.out BK150.out (by decide)) e_) e_) (fun e_ => Or.elim e_ (fun e_ => (fun e_ => (Kd.R_ne HO_172001.out BK150.out (by decide)) e_) e_) (fun e_ => (fun e_ => (Kd.R_ne HO_172002.out BK150.out (by decide)) e_) e_)))); have n11_ := mk0 (blk_kept (by exact BK160.out) hkp (fun hs_ => Or.elim hs_ (fun e_ => (fun e_ => (Kd.R_ne HO_172000.out BK160.out (by decide)) e_) e_) (fun e_ => Or.elim e_ (fun e_ => (fun e_ => (Kd.R_ne HO_172001.out BK160.out (by decide)) e_) e_) (fun e_ => (fun e_ => (Kd.R_ne HO_172002.out BK160.out (by decide)) e_) e_)))); have n12_ := mk0 (blk_kept (by exact BK171.out) hkp (fun hs_ => Or.elim hs_ (fun e_ => (fun e_ => (Kd.R_ne HO_172000.out BK171.out (by decide)) e_) e_) (fun e_ => Or.elim e_ (fun e_ => (fun e_ => (Kd.R_ne HO_172001.out BK171.out (by decide)) e_) e_) (fun e_ => (fun e_ => (Kd.R_ne HO_172002.out BK171.out (by decide)) e_) e_)))); have n13_ := mk0 (hb); clear HO_151000; clear HO_151001; clear HO_151002; clear HO_161000; clear HO_161001; clear HO_161002; clear HO_172000; clear HO_172001; clear HO_172002; clear BK129; clear BK150; clear BK160; clear BK171; clear HB; have HO_151000 := n0_; have HO_151001 := n1_; have HO_151002 := n2_; have HO_161000 := n3_; have HO_161001 := n4_; have HO_161002 := n5_; have HO_172000 := n6_; have HO_172001 := n7_; have HO_172002 := n8_; have BK129 := n9_; have BK150 := n10_; have BK160 := n11_; have BK171 := n12_; have HB := n13_; clear n0_ n1_ n2_ n3_ n4_ n5_ n6_ n7_ n8_ n9_ n10_ n11_ n12_ n13_; (try clear hb); (try clear hkp); (try clear hy0); (try clear hy1); (try clear hy2); have hcz119_0 : w118.cell? ⟨gb171, 0, none⟩ = some (.slice Ao38 t161.length co38) := (blk_cell BK171.out 0).trans rfl; have hcz119_1 : w118.cell? ⟨gb171, 1, none⟩ = some (.slice Ao43 t164.length co43) := (blk_cell BK171.out 1).trans rfl; have hcz119_2 : w118.cell? ⟨gb171, 2, none⟩ = some (.slice Ao44 t167.length co44) := (blk_cell BK171.out 2).trans rfl; have hfz119_0 := blk_frozen BK171.out 0; have hfz119_1 := blk_frozen BK171.out 1; have hfz119_2 := blk_frozen BK171.out 2) | ((with_reducible refine gate_callee (f := 38) rfl ?_); refine goesL_ (some 67) rfl rfl Try.func38 (by kernel_rfl) rfl #[.agg #[.slice Ao38 t189.length co38, .slice Ao43 t190.length co43, .slice Ao44 t191.length co44], .int .i64 1] rfl (by (try simp only [List.map_toArray, List.map_cons, List.map_nil]); first | done | (rw [show t189.length = t161.length from (Kd.R_reads' HO_172000.out).1.symm, show t190.length = t164.length from (Kd.R_reads' HO_172001.out).1.symm, show t191.length = t167.length from (Kd.R_reads' HO_172002.out).1.symm] <;> rfl) | rfl | (simp only [List.length_drop, List.length_take]; rfl)) ?_; (with_reducible refine (laws_heldGauss.calls kj67 _ _ t189 _ _ t190 _ _ t191 1 t192 _ ?side1 ?side2 ?side3 ?side4 ?side5 ?side6 A101.out).mono ?_); (case side1 => exact (Kd.R_reads' HO_172000.out).2.2); (case side2 => rw [show t189.length = t161.length from (Kd.R_reads' HO_172000.out).1.symm]; exact (Kd.R_reads' HO_172000.out).2.1); (case side3 => exact (Kd.R_reads' HO_172001.out).2.2); (case side4 => rw [show t190.length = t164.length from (Kd.R_reads' HO_172001.out).1.symm]; exact (Kd.R_reads' HO_172001.out).2.1); (case side5 => exact (Kd.R_reads' HO_172002.out).2.2); (case side6 => rw [show t191.length = t167.length from (Kd.R_reads' HO_172002.out).1.symm]; exact (Kd.R_reads' HO_172002.out).2.1); rintro e w120 ⟨rfl, hb⟩; refine ⟨_, rfl, ?_⟩; have n0_ := mk0 (Kd.R_below HO_151000.out hb); have n1_ := mk0 (Kd.R_below HO_151001.out hb); have n2_ := mk0 (Kd.R_below HO_151002.out hb); have n3_ := mk0 (Kd.R_below HO_161000.out hb); have n4_ := mk0 (Kd.R_below HO_161001.out hb); have n5_ := mk0 (Kd.R_below HO_161002.out hb); have n6_ := mk0 (Kd.R_below HO_172000.out hb); have n7_ := mk0 (Kd.R_below HO_172001.out hb); have n8_ := mk0 (Kd.R_below HO_172002.out hb); have n9_ := mk0 (blk_below BK129.out hb); have n10_ := mk0 (blk_below BK150.out hb); have n11_ := mk0 (blk_below BK160.out hb); have n12_ := mk0 (blk_below BK171.out hb); have n13_ := mk0 (below_step (by repeat (first | (with_reducible first | exact HB.out | apply below_alloc | apply pw_below_drewN | apply below_drew1 | refine below_set ?_ GE129.out | refine below_set ?_ GE150.out | refine below_set ?_ GE160.out | refine below_set ?_ GE171.out) | exact HB.out)) hb); clear HO_151000; clear HO_151001; clear HO_151002; clear HO_161000; clear HO_161001; clear HO_161002; clear HO_172000; clear HO_172001; clear HO_172002; clear BK129; clear BK150; clear BK160; clear BK171; clear HB; have HO_151000 := n0_; have HO_151001 := n1_; have HO_151002 := n2_; have HO_161000 := n3_; have HO_161001 := n4_; have HO_161002 := n5_; have HO_172000 := n6_; have HO_172001 := n7_; have HO_172002 := n8_; have BK129 := n9_; have BK150 := n10_; have BK160 := n11_; have BK171 := n12_; have HB := n13_; clear n0_ n1_ n2_ n3_ n4_ n5_ n6_ n7_ n8_ n9_ n10_ n11_ n12_ n13_; (try clear hb); (try clear hb2); (try clear hk); (try clear hi); have hnb121 := NB129_150.out; have hnc121 := NB150_129.out; have hnb122 := NB129_160.out; have hnc122 := NB160_129.out; have hcz123_0 : w120.cell? ⟨gb129, 0, none⟩ = some (.slice A0_0 l0_0.length c0_0) := (blk_cell BK129.out 0).trans rfl; have hcz123_1 : w120.cell? ⟨gb129, 1, none⟩ = some (.slice A0_1 l0_1.length c0_1) := (blk_cell BK129.out 1).trans rfl; have hcz123_2 : w120.cell? ⟨gb129, 2, none⟩ = some (.slice A0_2 l0_2.length c0_2) := (blk_cell BK129.out 2).trans rfl; have hfz123_0 := blk_frozen BK129.out 0; have hfz123_1 := blk_frozen BK129.out 1; have hfz123_2 := blk_frozen BK129.out 2) | ((with_reducible refine gate_callee (f := 34) rfl ?_); refine goesL_ (some 75) rfl rfl Try.func34 (by kernel_rfl) rfl #[.agg #[.slice A0_0 l0_0.length c0_0, .slice A0_1 l0_1.length c0_1, .slice A0_2 l0_2.length c0_2]] rfl (by (try simp only [List.map_toArray, List.map_cons, List.map_nil]); rfl) ?_; (with_reducible refine (laws_toGauss.calls kj67 _ _ l0_0 _ _ l0_1 _ _ l0_2 t193 t196 t199 _ ?side1 ?side2 ?side3 ?side4 ?side5 ?side6 A111.out).mono ?_); (case side1 => exact (Kd.C_below HR0_0.out HB.out)); (case side2 => exact HC0_0.out); (case side3 => exact (Kd.C_below HR0_1.out HB.out)); (case side4 => exact HC0_1.out); (case side5 => exact (Kd.C_below HR0_2.out HB.out)); (case side6 => exact HC0_2.out); rintro e w124 ⟨v194, v197, v200, rfl, ho0, ho1, ho2, hb⟩; refine ⟨_, rfl, ?_⟩; have n0_ := mk0 (Kd.R_mono (Kd.R_told (Kd.R_told (Kd.R_told (Kd.R_old HO_151000.out hb) (Kd.R_base ho0)) (Kd.R_base ho1)) (Kd.R_base ho2)) (fun _ h_ => h_.1)); have n1_ := mk0 (Kd.R_mono (Kd.R_told (Kd.R_told (Kd.R_told (Kd.R_old HO_151001.out hb) (Kd.R_base ho0)) (Kd.R_base ho1)) (Kd.R_base ho2)) (fun _ h_ => h_.1)); have n2_ := mk0 (Kd.R_mono (Kd.R_told (Kd.R_told (Kd.R_told (Kd.R_old HO_151002.out hb) (Kd.R_base ho0)) (Kd.R_base ho1)) (Kd.R_base ho2)) (fun _ h_ => h_.1)); have n3_ := mk0 (Kd.R_mono (Kd.R_told (Kd.R_told (Kd.R_told (Kd.R_old HO_161000.out hb) (Kd.R_base ho0)) (Kd.R_base ho1)) (Kd.R_base ho2)) (fun _ h_ => h_.1)); have n4_ := mk0 (Kd.R_mono (Kd.R_told (Kd.R_told (Kd.R_told (Kd.R_old HO_161001.out hb) (Kd.R_base ho0)) (Kd.R_base ho1)) (Kd.R_base ho2)) (fun _ h_ => h_.1)); have n5_ := mk0 (Kd.R_mono (Kd.R_told (Kd.R_told (Kd.R_told (Kd.R_old HO_161002.out hb) (Kd.R_base ho0)) (Kd.R_base ho1)) (Kd.R_base ho2)) (fun _ h_ => h_.1)); have n6_ := mk0 (Kd.R_mono (Kd.R_told (Kd.R_told (Kd.R_told (Kd.R_old HO_172000.out hb) (Kd.R_base ho0)) (Kd.R_base ho1)) (Kd.R_base ho2)) (fun _ h_ => h_.1)); have n7_ := mk0 (Kd.R_mono (Kd.R_told (Kd.R_told (Kd.R_told (Kd.R_old HO_172001.out hb) (Kd.R_base ho0)) (Kd.R_base ho1)) (Kd.R_base ho2)) (fun _ h_ => h_.1)); have n8_ := mk0 (Kd.R_mono (Kd.R_told (Kd.R_told (Kd.R_told (Kd.R_old HO_172002.out hb) (Kd.R_base ho0)) (Kd.R_base ho1)) (Kd.R_base ho2)) (fun _ h_ => h_.1)); have n9_ := mk0 (Kd.R_lower (Kd.R_new' (Kd.R_new' (Kd.R_new' (Kd.R_new' (Kd.R_new' (Kd.R_new' (Kd.R_new' (Kd.R_new' (Kd.R_new' ho0 (Kd.R_lt HO_151000.out)) (Kd.R_lt HO_151001.out)) (Kd.R_lt HO_151002.out)) (Kd.R_lt HO_161000.out)) (Kd.R_lt HO_161001.out)) (Kd.R_lt HO_161002.out)) (Kd.R_lt HO_172000.out)) (Kd.R_lt HO_172001.out)) (Kd.R_lt HO_172002.out)) (below_size (by repeat (first | (with_reducible first | exact HB.out | apply below_alloc | apply pw_below_drewN | apply below_drew1 | refine below_set ?_ GE129.out | refine below_set ?_ GE150.out | refine below_set ?_ GE160.out | refine below_set ?_ GE171.out) | exact HB.out)))); have n10_ := mk0 (Kd.R_lower (Kd.R_new' (Kd.R_new' (Kd.R_new' (Kd.R_new' (Kd.R_new' (Kd.R_new' (Kd.R_new' (Kd.R_new' (Kd.R_new' ho1 (Kd.R_lt HO_151000.out)) (Kd.R_lt HO_151001.out)) (Kd.R_lt HO_151002.out)) (Kd.R_lt HO_161000.out)) (Kd.R_lt HO_161001.out)) (Kd.R_lt HO_161002.out)) (Kd.R_lt HO_172000.out)) (Kd.R_lt HO_172001.out)) (Kd.R_lt HO_172002.out)) (below_size (by repeat (first | (with_reducible first | exact HB.out | apply below_alloc | apply pw_below_drewN | apply below_drew1 | refine below_set ?_ GE129.out | refine below_set ?_ GE150.out | refine below_set ?_ GE160.out | refine below_set ?_ GE171.out) | exact HB.out)))); have n11_ := mk0 (Kd.R_lower (Kd.R_new' (Kd.R_new' (Kd.R_new' (Kd.R_new' (Kd.R_new' (Kd.R_new' (Kd.R_new' (Kd.R_new' (Kd.R_new' ho2 (Kd.R_lt HO_151000.out)) (Kd.R_lt HO_151001.out)) (Kd.R_lt HO_151002.out)) (Kd.R_lt HO_161000.out)) (Kd.R_lt HO_161001.out)) (Kd.R_lt HO_161002.out)) (Kd.R_lt HO_172000.out)) (Kd.R_lt HO_172001.out)) (Kd.R_lt HO_172002.out)) (below_size (by repeat (first | (with_reducible first | exact HB.out | apply below_alloc | apply pw_below_drewN | apply below_drew1 | refine below_set ?_ GE129.out | refine below_set ?_ GE150.out | refine below_set ?_ GE160.out | refine below_set ?_ GE171.out) | exact HB.out)))); have n12_ := mk0 (blk_below BK129.out hb); have n13_ := mk0 (blk_below BK150.out hb); have n14_ := mk0 (blk_below BK160.out hb); have n15_ := mk0 (blk_below BK171.out hb); have n16_ := mk0 (below_step (by repeat (first | (with_reducible first | exact HB.out | apply below_alloc | apply pw_below_drewN | apply below_drew1 | refine below_set ?_ GE129.out | refine below_set ?_ GE150.out | refine below_set ?_ GE160.out | refine below_set ?_ GE171.out) | exact HB.out)) hb); clear HO_151000; clear HO_151001; clear HO_151002; clear HO_161000; clear HO_161001; clear HO_161002; clear HO_172000; clear HO_172001; clear HO_172002; clear BK129; clear BK150; clear BK160; clear BK171; clear HB; have HO_151000 := n0_; have HO_151001 := n1_; have HO_151002 := n2_; have HO_161000 := n3_; have HO_161001 := n4_; have HO_161002 := n5_; have HO_172000 := n6_; have HO_172001 := n7_; have HO_172002 := n8_; have HO195 := n9_; have HO198 := n10_; have HO201 := n11_; have BK129 := n12_; have BK150 := n13_; have BK160 := n14_; have BK171 := n15_; have HB := n16_; clear n0_ n1_ n2_ n3_ n4_ n5_ n6_ n7_ n8_ n9_ n10_ n11_ n12_ n13_ n14_ n15_ n16_; (try clear hb); (try clear hb2); (try clear hk); (try clear hi); (try clear ho0); (try clear ho1); (try clear ho2); obtain ⟨Ao125, co125, eo125⟩ := Kd.R_slice HO195.out; subst eo125; obtain ⟨Ao126, co126, eo126⟩ := Kd.R_slice HO198.out; subst eo126; obtain ⟨Ao127, co127, eo127⟩ := Kd.R_slice HO201.out; subst eo127) | ((with_reducible refine gate_callee (f := 35) rfl ?_); refine goesL_ (some 76) rfl rfl Try.func35 (by kernel_rfl) rfl #[.agg #[.slice Ao125 t193.length co125, .slice Ao126 t196.length co126, .slice Ao127 t199.length co127]] rfl (by (try simp only [List.map_toArray, List.map_cons, List.map_nil]); rfl) ?_; (with_reducible refine (impl_ReverseGauss.calls kj67 _ _ t193 _ _ t196 _ _ t199 t202 t205 t208 t211 _ ?side1 ?side2 ?side3 ?side4 ?side5 ?side6 A112.out).mono ?_); (case side1 => exact (Kd.R_reads' HO195.out).2.2); (case side2 => exact (Kd.R_reads' HO195.out).2.1); (case side3 => exact (Kd.R_reads' HO198.out).2.2); (case side4 => exact (Kd.R_reads' HO198.out).2.1); (case side5 => exact (Kd.R_reads' HO201.out).2.2); (case side6 => exact (Kd.R_reads' HO201.out).2.1); rintro e w128 ⟨v203, v206, v209, rfl, ho0, ho1, ho2, hb⟩; refine ⟨_, rfl, ?_⟩; have n0_ := mk0 (Kd.R_mono (Kd.R_told (Kd.R_told (Kd.R_told (Kd.R_old HO_151000.out hb) (Kd.R_base ho0)) (Kd.R_base ho1)) (Kd.R_base ho2)) (fun _ h_ => h_.1)); have n1_ := mk0 (Kd.R_mono (Kd.R_told (Kd.R_told (Kd.R_told (Kd.R_old HO_151001.out hb) (Kd.R_base ho0)) (Kd.R_base ho1)) (Kd.R_base ho2)) (fun _ h_ => h_.1)); have n2_ := mk0 (Kd.R_mono (Kd.R_told (Kd.R_told (Kd.R_told (Kd.R_old HO_151002.out hb) (Kd.R_base ho0)) (Kd.R_base ho1)) (Kd.R_base ho2)) (fun _ h_ => h_.1)); have n3_ := mk0 (Kd.R_mono (Kd.R_told (Kd.R_told (Kd.R_told (Kd.R_old HO_161000.out hb) (Kd.R_base ho0)) (Kd.R_base ho1)) (Kd.R_base ho2)) (fun _ h_ => h_.1)); have n4_ := mk0 (Kd.R_mono (Kd.R_told (Kd.R_told (Kd.R_told (Kd.R_old HO_161001.out hb) (Kd.R_base ho0)) (Kd.R_base ho1)) (Kd.R_base ho2)) (fun _ h_ => h_.1)); have n5_ := mk0 (Kd.R_mono (Kd.R_told (Kd.R_told (Kd.R_told (Kd.R_old HO_161002.out hb) (Kd.R_base ho0)) (Kd.R_base ho1)) (Kd.R_base ho2)) (fun _ h_ => h_.1)); have n6_ := mk0 (Kd.R_mono (Kd.R_told (Kd.R_told (Kd.R_told (Kd.R_old HO_172000.out hb) (Kd.R_base ho0)) (Kd.R_base ho1)) (Kd.R_base ho2)) (fun _ h_ => h_.1)); have n7_ := mk0 (Kd.R_mono (Kd.R_told (Kd.R_told (Kd.R_told (Kd.R_old HO_172001.out hb) (Kd.R_base ho0)) (Kd.R_base ho1)) (Kd.R_base ho2)) (fun _ h_ => h_.1)); have n8_ := mk0 (Kd.R_mono (Kd.R_told (Kd.R_told (Kd.R_told (Kd.R_old HO_172002.out hb) (Kd.R_base ho0)) (Kd.R_base ho1)) (Kd.R_base ho2)) (fun _ h_ => h_.1)); have n9_ := mk0 (Kd.R_mono (Kd.R_told (Kd.R_told (Kd.R_told (Kd.R_old HO195.out hb) (Kd.R_base ho0)) (Kd.R_base ho1)) (Kd.R_base ho2)) (fun _ h_ => h_.1)); have n10_ := mk0 (Kd.R_mono (Kd.R_told (Kd.R_told (Kd.R_told (Kd.R_old HO198.out hb) (Kd.R_base ho0)) (Kd.R_base ho1)) (Kd.R_base ho2)) (fun _ h_ => h_.1)); have n11_ := mk0 (Kd.R_mono (Kd.R_told (Kd.R_told (Kd.R_told (Kd.R_old HO201.out hb) (Kd.R_base ho0)) (Kd.R_base ho1)) (Kd.R_base ho2)) (fun _ h_ => h_.1)); have n12_ := mk0 (Kd.R_lower (Kd.R_new' (Kd.R_new' (Kd.R_new' (Kd.R_new' (Kd.R_new' (Kd.R_new' (Kd.R_new' (Kd.R_new' (Kd.R_new' (Kd.R_new' (Kd.R_new' (Kd.R_new' ho0 (Kd.R_lt HO_151000.out)) (Kd.R_lt HO_151001.out)) (Kd.R_lt HO_151002.out)) (Kd.R_lt HO_161000.out)) (Kd.R_lt HO_161001.out)) (Kd.R_lt HO_161002.out)) (Kd.R_lt HO_172000.out)) (Kd.R_lt HO_172001.out)) (Kd.R_lt HO_172002.out)) (Kd.R_lt HO195.out)) (Kd.R_lt HO198.out)) (Kd.R_lt HO201.out)) (below_size (by repeat (first | (with_reducible first | exact HB.out | apply below_alloc | apply pw_below_drewN | apply below_drew1 | refine below_set ?_ GE129.out | refine below_set ?_ GE150.out | refine below_set ?_ GE160.out | refine below_set ?_ GE171.out) | exact HB.out)))); have n13_ := mk0 (Kd.R_lower (Kd.R_new' (Kd.R_new' (Kd.R_new' (Kd.R_new' (Kd.R_new' (Kd.R_new' (Kd.R_new' (Kd.R_new' (Kd.R_new' (Kd.R_new' (Kd.R_new' (Kd.R_new' ho1 (Kd.R_lt HO_151000.out)) (Kd.R_lt HO_151001.out)) (Kd.R_lt HO_151002.out)) (Kd.R_lt HO_161000.out)) (Kd.R_lt HO_161001.out)) (Kd.R_lt HO_161002.out)) (Kd.R_lt HO_172000.out)) (Kd.R_lt HO_172001.out)) (Kd.R_lt HO_172002.out)) (Kd.R_lt HO195.out)) (Kd.R_lt HO198.out)) (Kd.R_lt HO201.out)) (below_size (by repeat (first | (with_reducible first | exact HB.out | apply below_alloc | apply pw_below_drewN | apply below_drew1 | refine below_set ?_ GE129.out | refine below_set ?_ GE150.out | refine below_set ?_ GE160.out | refine below_set ?_ GE171.out) | exact HB.out)))); have n14_ := mk0 (Kd.R_lower (Kd.R_new' (Kd.R_new' (Kd.R_new' (Kd.R_new' (Kd.R_new' (Kd.R_new' (Kd.R_new' (Kd.R_new' (Kd.R_new' (Kd.R_new' (Kd.R_new' (Kd.R_new' ho2 (Kd.R_lt HO_151000.out)) (Kd.R_lt HO_151001.out)) (Kd.R_lt HO_151002.out)) (Kd.R_lt HO_161000.out)) (Kd.R_lt HO_161001.out)) (Kd.R_lt HO_161002.out)) (Kd.R_lt HO_172000.out)) (Kd.R_lt HO_172001.out)) (Kd.R_lt HO_172002.out)) (Kd.R_lt HO195.out)) (Kd.R_lt HO198.out)) (Kd.R_lt HO201.out)) (below_size (by repeat (first | (with_reducible first | exact HB.out | apply below_alloc | apply pw_below_drewN | apply below_drew1 | refine below_set ?_ GE129.out | refine below_set ?_ GE150.out | refine below_set ?_ GE160.out | refine below_set ?_ GE171.out) | exact HB.out)))); have n15_ := mk0 (blk_below BK129.out hb); have n16_ := mk0 (blk_below BK150.out hb); have n17_ := mk0 (blk_below BK160.out hb); have n18_ := mk0 (blk_below BK171.out hb); have n19_ := mk0 (below_step (by repeat (first | (with_reducible first | exact HB.out | apply below_alloc | apply pw_below_drewN | apply below_drew1 | refine below_set ?_ GE129.out | refine below_set ?_ GE150.out | refine below_set ?_ GE160.out | refine below_set ?_ GE171.out) | exact HB.out)) hb); clear HO_151000; clear HO_151001; clear HO_151002; clear HO_161000; clear HO_161001; clear HO_161002; clear HO_172000; clear HO_172001; clear HO_172002; clear HO195; clear HO198; clear HO201; clear BK129; clear BK150; clear BK160; clear BK171; clear HB; have HO_151000 := n0_; have HO_151001 := n1_; have HO_151002 := n2_; have HO_161000 := n3_; have HO_161001 := n4_; have HO_161002 := n5_; have HO_172000 := n6_; have HO_172001 := n7_; have HO_172002 := n8_; have HO195 := n9_; have HO198 := n10_; have HO201 := n11_; have HO204 := n12_; have HO207 := n13_; have HO210 := n14_; have BK129 := n15_; have BK150 := n16_; have BK160 := n17_; have BK171 := n18_; have HB := n19_; clear n0_ n1_ n2_ n3_ n4_ n5_ n6_ n7_ n8_ n9_ n10_ n11_ n12_ n13_ n14_ n15_ n16_ n17_ n18_ n19_; (try clear hb); (try clear hb2); (try clear hk); (try clear hi); (try clear ho0); (try clear ho1); (try clear ho2)) | ((with_reducible refine gate_dst (N := 12) rfl ?_); refine box_event ?hg (N := 12) ?hd (cs := #[.slice none 0 0, .slice none 0 0, .slice none 0 0]) (t := 41) ?hr ?_; (case hd => rfl); (case hg => rfl); (case hr => first | (go_simp; done) | (go_simp; rfl)); intro gb212 hg w129 hbox hb; have n0_ := mk0 (Kd.R_below HO_151000.out hb); have n1_ := mk0 (Kd.R_below HO_151001.out hb); have n2_ := mk0 (Kd.R_below HO_151002.out hb); have n3_ := mk0 (Kd.R_below HO_161000.out hb); have n4_ := mk0 (Kd.R_below HO_161001.out hb); have n5_ := mk0 (Kd.R_below HO_161002.out hb); have n6_ := mk0 (Kd.R_below HO_172000.out hb); have n7_ := mk0 (Kd.R_below HO_172001.out hb); have n8_ := mk0 (Kd.R_below HO_172002.out hb); have n9_ := mk0 (Kd.R_below HO195.out hb); have n10_ := mk0 (Kd.R_below HO198.out hb); have n11_ := mk0 (Kd.R_below HO201.out hb); have n12_ := mk0 (Kd.R_below HO204.out hb); have n13_ := mk0 (Kd.R_below HO207.out hb); have n14_ := mk0 (Kd.R_below HO210.out hb); have n15_ := mk0 (blk_below BK129.out hb); have n16_ := mk0 (blk_below BK150.out hb); have n17_ := mk0 (blk_below BK160.out hb); have n18_ := mk0 (blk_below BK171.out hb); have n19_ := mk0 (below_step (by repeat (first | (with_reducible first | exact HB.out | apply below_alloc | apply pw_below_drewN | apply below_drew1 | refine below_set ?_ GE129.out | refine below_set ?_ GE150.out | refine below_set ?_ GE160.out | refine below_set ?_ GE171.out) | exact HB.out)) hb); have n20_ := mk0 (hbox); have n21_ := mk0 ((by rw [hg]; exact (below_size (by repeat (first | (with_reducible first | exact HB.out | apply below_alloc | apply pw_below_drewN | apply below_drew1 | refine below_set ?_ GE129.out | refine below_set ?_ GE150.out | refine below_set ?_ GE160.out | refine below_set ?_ GE171.out) | exact HB.out))) : w.heap.size ≤ gb212)); have n22_ := mk0 ((by rw [hg]; exact (below_size (by repeat (first | (with_reducible first | exact HB.out | apply below_alloc | apply pw_below_drewN | apply below_drew1 | refine below_set ?_ GE129.out | refine below_set ?_ GE150.out | refine below_set ?_ GE160.out | refine below_set ?_ GE171.out) | exact HB.out))) : w.heap.size ≤ gb212)); have n23_ := mk0 ((by rw [hg]; exact Nat.ne_of_lt (blk_lt (g := gb129) (o := .cells #[.slice A0_0 l0_0.length c0_0, .slice A0_1 l0_1.length c0_1, .slice A0_2 l0_2.length c0_2] 39 (0, 0)) (by exact BK129.out)) : gb129 ≠ gb212)); have n24_ := mk0 ((by rw [hg]; exact Nat.ne_of_gt (blk_lt (g := gb129) (o := .cells #[.slice A0_0 l0_0.length c0_0, .slice A0_1 l0_1.length c0_1, .slice A0_2 l0_2.length c0_2] 39 (0, 0)) (by exact BK129.out)) : gb212 ≠ gb129)); have n25_ := mk0 ((by rw [hg]; exact Nat.ne_of_lt (blk_lt (g := gb150) (o := .cells #[.slice Ao22 t140.length co22, .slice Ao25 t143.length co25, .slice Ao26 t146.length co26] 41 (0, 0)) (by exact BK150.out)) : gb150 ≠ gb212)); have n26_ := mk0 ((by rw [hg]; exact Nat.ne_of_gt (blk_lt (g := gb150) (o := .cells #[.slice Ao22 t140.length co22, .slice Ao25 t143.length co25, .slice Ao26 t146.length co26] 41 (0, 0)) (by exact BK150.out)) : gb212 ≠ gb150)); have n27_ := mk0 ((by rw [hg]; exact Nat.ne_of_lt (blk_lt (g := gb160) (o := .cells #[.slice Ao30 t184.length co30, .slice Ao34 t185.length co34, .slice Ao35 t186.length co35] 41 (0, 0)) (by exact BK160.out)) : gb160 ≠ gb212)); have n28_ := mk0 ((by rw [hg]; exact Nat.ne_of_gt (blk_lt (g := gb160) (o := .cells #[.slice Ao30 t184.length co30, .slice Ao34 t185.length co34, .slice Ao35 t186.length co35] 41 (0, 0)) (by exact BK160.out)) : gb212 ≠ gb160)); have n29_ := mk0 ((by rw [hg]; exact Nat.ne_of_lt (blk_lt (g := gb171) (o := .cells #[.slice Ao38 t161.length co38, .slice Ao43 t164.length co43, .slice Ao44 t167.length co44] 41 (0, 0)) (by exact BK171.out)) : gb171 ≠ gb212)); have n30_ := mk0 ((by rw [hg]; exact Nat.ne_of_gt (blk_lt (g := gb171) (o := .cells #[.slice Ao38 t161.length co38, .slice Ao43 t164.length co43, .slice Ao44 t167.length co44] 41 (0, 0)) (by exact BK171.out)) : gb212 ≠ gb171)); clear HO_151000; clear HO_151001; clear HO_151002; clear HO_161000; clear HO_161001; clear HO_161002; clear HO_172000; clear HO_172001; clear HO_172002; clear HO195; clear HO198; clear HO201; clear HO204; clear HO207; clear HO210; clear BK129; clear BK150; clear BK160; clear BK171; clear HB; have HO_151000 := n0_; have HO_151001 := n1_; have HO_151002 := n2_; have HO_161000 := n3_; have HO_161001 := n4_; have HO_161002 := n5_; have HO_172000 := n6_; have HO_172001 := n7_; have HO_172002 := n8_; have HO195 := n9_; have HO198 := n10_; have HO201 := n11_; have HO204 := n12_; have HO207 := n13_; have HO210 := n14_; have BK129 := n15_; have BK150 := n16_; have BK160 := n17_; have BK171 := n18_; have HB := n19_; have BK212 := n20_; have GW212 := n21_; have GE212 := n22_; have NB129_212 := n23_; have NB212_129 := n24_; have NB150_212 := n25_; have NB212_150 := n26_; have NB160_212 := n27_; have NB212_160 := n28_; have NB171_212 := n29_; have NB212_171 := n30_; clear n0_ n1_ n2_ n3_ n4_ n5_ n6_ n7_ n8_ n9_ n10_ n11_ n12_ n13_ n14_ n15_ n16_ n17_ n18_ n19_ n20_ n21_ n22_ n23_ n24_ n25_ n26_ n27_ n28_ n29_ n30_; clear hb hbox hg; obtain ⟨Ao130, co130, eo130⟩ := Kd.R_slice HO204.out; subst eo130; have hnb131 := NB212_129.out; have hnc131 := NB129_212.out; have hnb132 := NB212_150.out; have hnc132 := NB150_212.out; have hnb133 := NB212_160.out; have hnc133 := NB160_212.out; have hnb134 := NB212_171.out; have hnc134 := NB171_212.out; have hcz135_0 : w129.cell? ⟨gb212, 0, none⟩ = some (.slice none 0 0) := (blk_cell BK212.out 0).trans rfl; have hcz135_1 : w129.cell? ⟨gb212, 1, none⟩ = some (.slice none 0 0) := (blk_cell BK212.out 1).trans rfl; have hcz135_2 : w129.cell? ⟨gb212, 2, none⟩ = some (.slice none 0 0) := (blk_cell BK212.out 2).trans rfl; have hfz135_0 := blk_frozen BK212.out 0; have hfz135_1 := blk_frozen BK212.out 1; have hfz135_2 := blk_frozen BK212.out 2; obtain ⟨Ao136, co136, eo136⟩ := Kd.R_slice HO207.out; subst eo136; obtain ⟨Ao137, co137, eo137⟩ := Kd.R_slice HO210.out; subst eo137))
                      (try simp only [Act.put, List.setIfInBounds_toArray, List.set_cons_zero, List.set_cons_succ])
                      go_cut [87] (fun v87 wc => ∃ (kq : Nat) (x87_112 : Bool), v87 = .bool x87_112 ∧ Aside0 (laws_FnExactReverseGauss.j2 kq t188 x87_112 t189 t190 t191 = some r) ∧ Aside0 (kq ≤ kj67) ∧ Aside0 (Kd.R (Kd.int .i64) 2 wc w.heap.size (fun k_ => some k_ ≠ ((.slice Ao25 t143.length co25) : Value).ownBlock ∧ some k_ ≠ ((.slice Ao26 t146.length co26) : Value).ownBlock ∧ some k_ ≠ ((.slice Ao30 t184.length co30) : Value).ownBlock ∧ some k_ ≠ ((.slice Ao34 t185.length co34) : Value).ownBlock ∧ some k_ ≠ ((.slice Ao35 t186.length co35) : Value).ownBlock ∧ some k_ ≠ ((.slice Ao38 t161.length co38) : Value).ownBlock ∧ some k_ ≠ ((.slice Ao43 t164.length co43) : Value).ownBlock ∧ some k_ ≠ ((.slice Ao44 t167.length co44) : Value).ownBlock ∧ some k_ ≠ ((.slice Ao130 t202.length co130) : Value).ownBlock ∧ some k_ ≠ ((.slice Ao136 t205.length co136) : Value).ownBlock ∧ some k_ ≠ ((.slice Ao137 t208.length co137) : Value).ownBlock) (.slice Ao22 t140.length co22) t140) ∧ Aside0 (Kd.R (Kd.int .i64) 2 wc w.heap.size (fun k_ => some k_ ≠ ((.slice Ao22 t140.length co22) : Value).ownBlock ∧ some k_ ≠ ((.slice Ao26 t146.length co26) : Value).ownBlock ∧ some k_ ≠ ((.slice Ao30 t184.length co30) : Value).ownBlock ∧ some k_ ≠ ((.slice Ao34 t185.length co34) : Value).ownBlock ∧ some k_ ≠ ((.slice Ao35 t186.length co35) : Value).ownBlock ∧ some k_ ≠ ((.slice Ao38 t161.length co38) : Value).ownBlock ∧ some k_ ≠ ((.slice Ao43 t164.length co43) : Value).ownBlock ∧ some k_ ≠ ((.slice Ao44 t167.length co44) : Value).ownBlock ∧ some k_ ≠ ((.slice Ao130 t202.length co130) : Value).ownBlock ∧ some k_ ≠ ((.slice Ao136 t205.length co136) : Value).ownBlock ∧ some k_ ≠ ((.slice Ao137 t208.length co137) : Value).ownBlock) (.slice Ao25 t143.length co25) t143) ∧ Aside0 (Kd.R (Kd.int .i64) 2 wc w.heap.size (fun k_ => some k_ ≠ ((.slice Ao22 t140.length co22) : Value).ownBlock ∧ some k_ ≠ ((.slice Ao25 t143.length co25) : Value).ownBlock ∧ some k_ ≠ ((.slice Ao30 t184.length co30) : Value).ownBlock ∧ some k_ ≠ ((.slice Ao34 t185.length co34) : Value).ownBlock ∧ some k_ ≠ ((.slice Ao35 t186.length co35) : Value).ownBlock ∧ some k_ ≠ ((.slice Ao38 t161.length co38) : Value).ownBlock ∧ some k_ ≠ ((.slice Ao43 t164.length co43) : Value).ownBlock ∧ some k_ ≠ ((.slice Ao44 t167.length co44) : Value).ownBlock ∧ some k_ ≠ ((.slice Ao130 t202.length co130) : Value).ownBlock ∧ some k_ ≠ ((.slice Ao136 t205.length co136) : Value).ownBlock ∧ some k_ ≠ ((.slice Ao137 t208.length co137) : Value).ownBlock) (.slice Ao26 t146.length co26) t146) ∧ Aside0 (Kd.R (Kd.int .i64) 2 wc w.heap.size (fun k_ => some k_ ≠ ((.slice Ao22 t140.length co22) : Value).ownBlock ∧ some k_ ≠ ((.slice Ao25 t143.length co25) : Value).ownBlock ∧ some k_ ≠ ((.slice Ao26 t146.length co26) : Value).ownBlock ∧ some k_ ≠ ((.slice Ao34 t185.length co34) : Value).ownBlock ∧ some k_ ≠ ((.slice Ao35 t186.length co35) : Value).ownBlock ∧ some k_ ≠ ((.slice Ao38 t161.length co38) : Value).ownBlock ∧ some k_ ≠ ((.slice Ao43 t164.length co43) : Value).ownBlock ∧ some k_ ≠ ((.slice Ao44 t167.length co44) : Value).ownBlock ∧ some k_ ≠ ((.slice Ao130 t202.length co130) : Value).ownBlock ∧ some k_ ≠ ((.slice Ao136 t205.length co136) : Value).ownBlock ∧ some k_ ≠ ((.slice Ao137 t208.length co137) : Value).ownBlock) (.slice Ao30 t184.length co30) t184) ∧ Aside0 (Kd.R (Kd.int .i64) 2 wc w.heap.size (fun k_ => some k_ ≠ ((.slice Ao22 t140.length co22) : Value).ownBlock ∧ some k_ ≠ ((.slice Ao25 t143.length co25) : Value).ownBlock ∧ some k_ ≠ ((.slice Ao26 t146.length co26) : Value).ownBlock ∧ some k_ ≠ ((.slice Ao30 t184.length co30) : Value).ownBlock ∧ some k_ ≠ ((.slice Ao35 t186.length co35) : Value).ownBlock ∧ some k_ ≠ ((.slice Ao38 t161.length co38) : Value).ownBlock ∧ some k_ ≠ ((.slice Ao43 t164.length co43) : Value).ownBlock ∧ some k_ ≠ ((.slice Ao44 t167.length co44) : Value).ownBlock ∧ some k_ ≠ ((.slice Ao130 t202.length co130) : Value).ownBlock ∧ some k_ ≠ ((.slice Ao136 t205.length co136) : Value).ownBlock ∧ some k_ ≠ ((.slice Ao137 t208.length co137) : Value).ownBlock) (.slice Ao34 t185.length co34) t185) ∧ Aside0 (Kd.R (Kd.int .i64) 2 wc w.heap.size (fun k_ => some k_ ≠ ((.slice Ao22 t140.length co22) : Value).ownBlock ∧ some k_ ≠ ((.slice Ao25 t143.length co25) : Value).ownBlock ∧ some k_ ≠ ((.slice Ao26 t146.length co26) : Value).ownBlock ∧ some k_ ≠ ((.slice Ao30 t184.length co30) : Value).ownBlock ∧ some k_ ≠ ((.slice Ao34 t185.length co34) : Value).ownBlock ∧ some k_ ≠ ((.slice Ao38 t161.length co38) : Value).ownBlock ∧ some k_ ≠ ((.slice Ao43 t164.length co43) : Value).ownBlock ∧ some k_ ≠ ((.slice Ao44 t167.length co44) : Value).ownBlock ∧ some k_ ≠ ((.slice Ao130 t202.length co130) : Value).ownBlock ∧ some k_ ≠ ((.slice Ao136 t205.length co136) : Value).ownBlock ∧ some k_ ≠ ((.slice Ao137 t208.length co137) : Value).ownBlock) (.slice Ao35 t186.length co35) t186) ∧ Aside0 (Kd.R (Kd.int .i64) 2 wc w.heap.size (fun k_ => some k_ ≠ ((.slice Ao22 t140.length co22) : Value).ownBlock ∧ some k_ ≠ ((.slice Ao25 t143.length co25) : Value).ownBlock ∧ some k_ ≠ ((.slice Ao26 t146.length co26) : Value).ownBlock ∧ some k_ ≠ ((.slice Ao30 t184.length co30) : Value).ownBlock ∧ some k_ ≠ ((.slice Ao34 t185.length co34) : Value).ownBlock ∧ some k_ ≠ ((.slice Ao35 t186.length co35) : Value).ownBlock ∧ some k_ ≠ ((.slice Ao43 t164.length co43) : Value).ownBlock ∧ some k_ ≠ ((.slice Ao44 t167.length co44) : Value).ownBlock ∧ some k_ ≠ ((.slice Ao130 t202.length co130) : Value).ownBlock ∧ some k_ ≠ ((.slice Ao136 t205.length co136) : Value).ownBlock ∧ some k_ ≠ ((.slice Ao137 t208.length co137) : Value).ownBlock) (.slice Ao38 t161.length co38) t189) ∧ Aside0 (Kd.R (Kd.int .i64) 2 wc w.heap.size (fun k_ => some k_ ≠ ((.slice Ao22 t140.length co22) : Value).ownBlock ∧ some k_ ≠ ((.slice Ao25 t143.length co25) : Value).ownBlock ∧ some k_ ≠ ((.slice Ao26 t146.length co26) : Value).ownBlock ∧ some k_ ≠ ((.slice Ao30 t184.length co30) : Value).ownBlock ∧ some k_ ≠ ((.slice Ao34 t185.length co34) : Value).ownBlock ∧ some k_ ≠ ((.slice Ao35 t186.length co35) : Value).ownBlock ∧ some k_ ≠ ((.slice Ao38 t161.length co38) : Value).ownBlock ∧ some k_ ≠ ((.slice Ao44 t167.length co44) : Value).ownBlock ∧ some k_ ≠ ((.slice Ao130 t202.length co130) : Value).ownBlock ∧ some k_ ≠ ((.slice Ao136 t205.length co136) : Value).ownBlock ∧ some k_ ≠ ((.slice Ao137 t208.length co137) : Value).ownBlock) (.slice Ao43 t164.length co43) t190) ∧ Aside0 (Kd.R (Kd.int .i64) 2 wc w.heap.size (fun k_ => some k_ ≠ ((.slice Ao22 t140.length co22) : Value).ownBlock ∧ some k_ ≠ ((.slice Ao25 t143.length co25) : Value).ownBlock ∧ some k_ ≠ ((.slice Ao26 t146.length co26) : Value).ownBlock ∧ some k_ ≠ ((.slice Ao30 t184.length co30) : Value).ownBlock ∧ some k_ ≠ ((.slice Ao34 t185.length co34) : Value).ownBlock ∧ some k_ ≠ ((.slice Ao35 t186.length co35) : Value).ownBlock ∧ some k_ ≠ ((.slice Ao38 t161.length co38) : Value).ownBlock ∧ some k_ ≠ ((.slice Ao43 t164.length co43) : Value).ownBlock ∧ some k_ ≠ ((.slice Ao130 t202.length co130) : Value).ownBlock ∧ some k_ ≠ ((.slice Ao136 t205.length co136) : Value).ownBlock ∧ some k_ ≠ ((.slice Ao137 t208.length co137) : Value).ownBlock) (.slice Ao44 t167.length co44) t191) ∧ Aside0 (Kd.R (Kd.int .i64) 2 wc w.heap.size (fun k_ => some k_ ≠ ((.slice Ao22 t140.length co22) : Value).ownBlock ∧ some k_ ≠ ((.slice Ao25 t143.length co25) : Value).ownBlock ∧ some k_ ≠ ((.slice Ao26 t146.length co26) : Value).ownBlock ∧ some k_ ≠ ((.slice Ao30 t184.length co30) : Value).ownBlock ∧ some k_ ≠ ((.slice Ao34 t185.length co34) : Value).ownBlock ∧ some k_ ≠ ((.slice Ao35 t186.length co35) : Value).ownBlock ∧ some k_ ≠ ((.slice Ao38 t161.length co38) : Value).ownBlock ∧ some k_ ≠ ((.slice Ao43 t164.length co43) : Value).ownBlock ∧ some k_ ≠ ((.slice Ao44 t167.length co44) : Value).ownBlock ∧ some k_ ≠ ((.slice Ao136 t205.length co136) : Value).ownBlock ∧ some k_ ≠ ((.slice Ao137 t208.length co137) : Value).ownBlock) (.slice Ao130 t202.length co130) t202) ∧ Aside0 (Kd.R (Kd.int .i64) 2 wc w.heap.size (fun k_ => some k_ ≠ ((.slice Ao22 t140.length co22) : Value).ownBlock ∧ some k_ ≠ ((.slice Ao25 t143.length co25) : Value).ownBlock ∧ some k_ ≠ ((.slice Ao26 t146.length co26) : Value).ownBlock ∧ some k_ ≠ ((.slice Ao30 t184.length co30) : Value).ownBlock ∧ some k_ ≠ ((.slice Ao34 t185.length co34) : Value).ownBlock ∧ some k_ ≠ ((.slice Ao35 t186.length co35) : Value).ownBlock ∧ some k_ ≠ ((.slice Ao38 t161.length co38) : Value).ownBlock ∧ some k_ ≠ ((.slice Ao43 t164.length co43) : Value).ownBlock ∧ some k_ ≠ ((.slice Ao44 t167.length co44) : Value).ownBlock ∧ some k_ ≠ ((.slice Ao130 t202.length co130) : Value).ownBlock ∧ some k_ ≠ ((.slice Ao137 t208.length co137) : Value).ownBlock) (.slice Ao136 t205.length co136) t205) ∧ Aside0 (Kd.R (Kd.int .i64) 2 wc w.heap.size (fun k_ => some k_ ≠ ((.slice Ao22 t140.length co22) : Value).ownBlock ∧ some k_ ≠ ((.slice Ao25 t143.length co25) : Value).ownBlock ∧ some k_ ≠ ((.slice Ao26 t146.length co26) : Value).ownBlock ∧ some k_ ≠ ((.slice Ao30 t184.length co30) : Value).ownBlock ∧ some k_ ≠ ((.slice Ao34 t185.length co34) : Value).ownBlock ∧ some k_ ≠ ((.slice Ao35 t186.length co35) : Value).ownBlock ∧ some k_ ≠ ((.slice Ao38 t161.length co38) : Value).ownBlock ∧ some k_ ≠ ((.slice Ao43 t164.length co43) : Value).ownBlock ∧ some k_ ≠ ((.slice Ao44 t167.length co44) : Value).ownBlock ∧ some k_ ≠ ((.slice Ao130 t202.length co130) : Value).ownBlock ∧ some k_ ≠ ((.slice Ao136 t205.length co136) : Value).ownBlock) (.slice Ao137 t208.length co137) t208) ∧ Aside0 (wc.heap[gb129]? = some (.cells #[(.slice A0_0 l0_0.length c0_0), (.slice A0_1 l0_1.length c0_1), (.slice A0_2 l0_2.length c0_2)] 39 (0, 0))) ∧ Aside0 (wc.heap[gb150]? = some (.cells #[(.slice Ao22 t140.length co22), (.slice Ao25 t143.length co25), (.slice Ao26 t146.length co26)] 41 (0, 0))) ∧ Aside0 (wc.heap[gb160]? = some (.cells #[(.slice Ao30 t184.length co30), (.slice Ao34 t185.length co34), (.slice Ao35 t186.length co35)] 41 (0, 0))) ∧ Aside0 (wc.heap[gb171]? = some (.cells #[(.slice Ao38 t161.length co38), (.slice Ao43 t164.length co43), (.slice Ao44 t167.length co44)] 41 (0, 0))) ∧ Aside0 (wc.heap[gb212]? = some (.cells #[(.slice Ao130 t202.length co130), (.slice Ao136 t205.length co136), (.slice Ao137 t208.length co137)] 41 (0, 0))) ∧ Aside0 (Below w.heap.size w wc))
                      case first =>
                        have H := HC113.out
                        clear HC113
                        replace H := Option.bind_eq_some_iff.mp H
                        obtain ⟨t213, A1380, H⟩ := H
                        replace H : (if t213 = true then (laws_FnExactReverseGauss.j2 kj67 t188 (t211 != t149) t189 t190 t191) else (laws_FnExactReverseGauss.j2 kj67 t188 true t189 t190 t191)) = some r := H
                        have A138 := Aside0.mk A1380
                        clear A1380
                        by_cases c139 : t213 = true
                        · subst c139
                          have H1 : (laws_FnExactReverseGauss.j2 kj67 t188 (t211 != t149) t189 t190 t191) = some r := by rw [if_pos rfl] at H; exact H
                          clear H
                          have H := H1
                          clear H1
                          have H' := Aside0.mk H
                          clear H
                          have hnb140 := NB212_129.out
                          have hnc140 := NB129_212.out
                          have hnb141 := NB212_150.out
                          have hnc141 := NB150_212.out
                          have hnb142 := NB212_160.out
                          have hnc142 := NB160_212.out
                          have hnb143 := NB212_171.out
                          have hnc143 := NB171_212.out
                          have hcz144_0 : w129.cell? ⟨gb212, 0, none⟩ = some (.slice none 0 0) := (blk_cell BK212.out 0).trans rfl
                          have hcz144_1 : w129.cell? ⟨gb212, 1, none⟩ = some (.slice none 0 0) := (blk_cell BK212.out 1).trans rfl
                          have hcz144_2 : w129.cell? ⟨gb212, 2, none⟩ = some (.slice none 0 0) := (blk_cell BK212.out 2).trans rfl
                          have hfz144_0 := blk_frozen BK212.out 0
                          have hfz144_1 := blk_frozen BK212.out 1
                          have hfz144_2 := blk_frozen BK212.out 2
                          have hnb145 := NB150_129.out
                          have hnc145 := NB129_150.out
                          have hnb146 := NB150_160.out
                          have hnc146 := NB160_150.out
                          have hnb147 := NB150_171.out
                          have hnc147 := NB171_150.out
                          have hcz148_0 : w129.cell? ⟨gb150, 0, none⟩ = some (.slice Ao22 t140.length co22) := (blk_cell BK150.out 0).trans rfl
                          have hcz148_1 : w129.cell? ⟨gb150, 1, none⟩ = some (.slice Ao25 t143.length co25) := (blk_cell BK150.out 1).trans rfl
                          have hcz148_2 : w129.cell? ⟨gb150, 2, none⟩ = some (.slice Ao26 t146.length co26) := (blk_cell BK150.out 2).trans rfl
                          have hfz148_0 := blk_frozen BK150.out 0
                          have hfz148_1 := blk_frozen BK150.out 1
                          have hfz148_2 := blk_frozen BK150.out 2
                          go_wp2_with (first | ((with_reducible refine gate_callee (f := 36) rfl ?_); refine goesL_ (some 81) rfl rfl Try.func36 (by kernel_rfl) rfl #[.agg #[.slice Ao130 t202.length co130, .slice Ao136 t205.length co136, .slice Ao137 t208.length co137], .agg #[.slice Ao22 t140.length co22, .slice Ao25 t143.length co25, .slice Ao26 t146.length co26]] rfl (by (try simp only [List.map_toArray, List.map_cons, List.map_nil]); rfl) ?_; (with_reducible refine (laws_eqGauss.calls kj67 _ _ t202 _ _ t205 _ _ t208 _ _ t140 _ _ t143 _ _ t146 true _ ?side1 ?side2 ?side3 ?side4 ?side5 ?side6 ?side7 ?side8 ?side9 ?side10 ?side11 ?side12 A138.out).mono ?_); (case side1 => refine (Kd.R_reads' (e := 2) (base := w.heap.size) (ok := fun k_ => (((((((((((((nb k_ Ao136 t205 co136 ∧ nb k_ Ao137 t208 co137) ∧ nb k_ Ao22 t140 co22) ∧ nb k_ Ao25 t143 co25) ∧ nb k_ Ao26 t146 co26) ∧ nb k_ Ao30 t184 co30) ∧ nb k_ Ao34 t185 co34) ∧ nb k_ Ao35 t186 co35) ∧ nb k_ Ao38 t161 co38) ∧ nb k_ Ao43 t164 co43) ∧ nb k_ Ao44 t167 co44) ∧ nb k_ Ao125 t193 co125) ∧ nb k_ Ao126 t196 co126) ∧ nb k_ Ao127 t199 co127)) (n := t202.length) (c := co130) ?_).2.2; exact (by exact fa HO204.out BK212.out)); (case side2 => exact (Kd.R_reads' HO204.out).2.1); (case side3 => refine (Kd.R_reads' (e := 2) (base := w.heap.size) (ok := fun k_ => (((((((((((((nb k_ Ao130 t202 co130 ∧ nb k_ Ao137 t208 co137) ∧ nb k_ Ao22 t140 co22) ∧ nb k_ Ao25 t143 co25) ∧ nb k_ Ao26 t146 co26) ∧ nb k_ Ao30 t184 co30) ∧ nb k_ Ao34 t185 co34) ∧ nb k_ Ao35 t186 co35) ∧ nb k_ Ao38 t161 co38) ∧ nb k_ Ao43 t164 co43) ∧ nb k_ Ao44 t167 co44) ∧ nb k_ Ao125 t193 co125) ∧ nb k_ Ao126 t196 co126) ∧ nb k_ Ao127 t199 co127)) (n := t205.length) (c := co136) ?_).2.2; exact (by exact fa HO207.out BK212.out)); (case side4 => exact (Kd.R_reads' HO207.out).2.1); (case side5 => refine (Kd.R_reads' (e := 2) (base := w.heap.size) (ok := fun k_ => (((((((((((((nb k_ Ao130 t202 co130 ∧ nb k_ Ao136 t205 co136) ∧ nb k_ Ao22 t140 co22) ∧ nb k_ Ao25 t143 co25) ∧ nb k_ Ao26 t146 co26) ∧ nb k_ Ao30 t184 co30) ∧ nb k_ Ao34 t185 co34) ∧ nb k_ Ao35 t186 co35) ∧ nb k_ Ao38 t161 co38) ∧ nb k_ Ao43 t164 co43) ∧ nb k_ Ao44 t167 co44) ∧ nb k_ Ao125 t193 co125) ∧ nb k_ Ao126 t196 co126) ∧ nb k_ Ao127 t199 co127)) (n := t208.length) (c := co137) ?_).2.2; exact (by exact fa HO210.out BK212.out)); (case side6 => exact (Kd.R_reads' HO210.out).2.1); (case side7 => refine (Kd.R_reads' (e := 2) (base := w.heap.size) (ok := fun k_ => (((((((nb k_ Ao25 t143 co25 ∧ (nb k_ Ao26 t146 co26 ∧ (nb k_ Ao30 t184 co30 ∧ (nb k_ Ao34 t185 co34 ∧ (nb k_ Ao35 t186 co35 ∧ (nb k_ Ao38 t161 co38 ∧ (nb k_ Ao43 t164 co43 ∧ nb k_ Ao44 t167 co44))))))) ∧ nb k_ Ao125 t193 co125) ∧ nb k_ Ao126 t196 co126) ∧ nb k_ Ao127 t199 co127) ∧ nb k_ Ao130 t202 co130) ∧ nb k_ Ao136 t205 co136) ∧ nb k_ Ao137 t208 co137)) (n := t140.length) (c := co22) ?_).2.2; exact (by exact fa HO_151000.out BK212.out)); (case side8 => exact (Kd.R_reads' HO_151000.out).2.1); (case side9 => refine (Kd.R_reads' (e := 2) (base := w.heap.size) (ok := fun k_ => (((((((nb k_ Ao22 t140 co22 ∧ (nb k_ Ao26 t146 co26 ∧ (nb k_ Ao30 t184 co30 ∧ (nb k_ Ao34 t185 co34 ∧ (nb k_ Ao35 t186 co35 ∧ (nb k_ Ao38 t161 co38 ∧ (nb k_ Ao43 t164 co43 ∧ nb k_ Ao44 t167 co44))))))) ∧ nb k_ Ao125 t193 co125) ∧ nb k_ Ao126 t196 co126) ∧ nb k_ Ao127 t199 co127) ∧ nb k_ Ao130 t202 co130) ∧ nb k_ Ao136 t205 co136) ∧ nb k_ Ao137 t208 co137)) (n := t143.length) (c := co25) ?_).2.2; exact (by exact fa HO_151001.out BK212.out)); (case side10 => exact (Kd.R_reads' HO_151001.out).2.1); (case side11 => refine (Kd.R_reads' (e := 2) (base := w.heap.size) (ok := fun k_ => (((((((nb k_ Ao22 t140 co22 ∧ (nb k_ Ao25 t143 co25 ∧ (nb k_ Ao30 t184 co30 ∧ (nb k_ Ao34 t185 co34 ∧ (nb k_ Ao35 t186 co35 ∧ (nb k_ Ao38 t161 co38 ∧ (nb k_ Ao43 t164 co43 ∧ nb k_ Ao44 t167 co44))))))) ∧ nb k_ Ao125 t193 co125) ∧ nb k_ Ao126 t196 co126) ∧ nb k_ Ao127 t199 co127) ∧ nb k_ Ao130 t202 co130) ∧ nb k_ Ao136 t205 co136) ∧ nb k_ Ao137 t208 co137)) (n := t146.length) (c := co26) ?_).2.2; exact (by exact fa HO_151002.out BK212.out)); (case side12 => exact (Kd.R_reads' HO_151002.out).2.1); rintro e w149 ⟨rfl, hb⟩; refine ⟨_, rfl, ?_⟩; have n0_ := mk0 (Kd.R_below (by exact fa HO_151000.out BK212.out) hb); have n1_ := mk0 (Kd.R_below (by exact fa HO_151001.out BK212.out) hb); have n2_ := mk0 (Kd.R_below (by exact fa HO_151002.out BK212.out) hb); have n3_ := mk0 (Kd.R_below (by exact fa HO_161000.out BK212.out) hb); have n4_ := mk0 (Kd.R_below (by exact fa HO_161001.out BK212.out) hb); have n5_ := mk0 (Kd.R_below (by exact fa HO_161002.out BK212.out) hb); have n6_ := mk0 (Kd.R_below (by exact fa HO_172000.out BK212.out) hb); have n7_ := mk0 (Kd.R_below (by exact fa HO_172001.out BK212.out) hb); have n8_ := mk0 (Kd.R_below (by exact fa HO_172002.out BK212.out) hb); have n9_ := mk0 (Kd.R_below (by exact fa HO195.out BK212.out) hb); have n10_ := mk0 (Kd.R_below (by exact fa HO198.out BK212.out) hb); have n11_ := mk0 (Kd.R_below (by exact fa HO201.out BK212.out) hb); have n12_ := mk0 (Kd.R_below (by exact fa HO204.out BK212.out) hb); have n13_ := mk0 (Kd.R_below (by exact fa HO207.out BK212.out) hb); have n14_ := mk0 (Kd.R_below (by exact fa HO210.out BK212.out) hb); have n15_ := mk0 (blk_below (g := gb129) (o := .cells #[.slice A0_0 l0_0.length c0_0, .slice A0_1 l0_1.length c0_1, .slice A0_2 l0_2.length c0_2] 39 (0, 0)) (by refine blk_far ?_ NB129_212.out _; refine blk_far ?_ NB129_212.out _; refine blk_far ?_ NB129_212.out _; exact BK129.out) hb); have n16_ := mk0 (blk_below (g := gb150) (o := .cells #[.slice Ao22 t140.length co22, .slice Ao25 t143.length co25, .slice Ao26 t146.length co26] 41 (0, 0)) (by refine blk_far ?_ NB150_212.out _; refine blk_far ?_ NB150_212.out _; refine blk_far ?_ NB150_212.out _; exact BK150.out) hb); have n17_ := mk0 (blk_below (g := gb160) (o := .cells #[.slice Ao30 t184.length co30, .slice Ao34 t185.length co34, .slice Ao35 t186.length co35] 41 (0, 0)) (by refine blk_far ?_ NB160_212.out _; refine blk_far ?_ NB160_212.out _; refine blk_far ?_ NB160_212.out _; exact BK160.out) hb); have n18_ := mk0 (blk_below (g := gb171) (o := .cells #[.slice Ao38 t161.length co38, .slice Ao43 t164.length co43, .slice Ao44 t167.length co44] 41 (0, 0)) (by refine blk_far ?_ NB171_212.out _; refine blk_far ?_ NB171_212.out _; refine blk_far ?_ NB171_212.out _; exact BK171.out) hb); have n19_ := mk0 (blk_below (g := gb212) (o := .cells #[.slice Ao130 t202.length co130, .slice Ao136 t205.length co136, .slice Ao137 t208.length co137] 41 (0, 0)) (by refine blk_put (cs := #[.slice Ao130 t202.length co130, .slice Ao136 t205.length co136, .slice none 0 0]) ?_ 2 _ rfl; refine blk_put (cs := #[.slice Ao130 t202.length co130, .slice none 0 0, .slice none 0 0]) ?_ 1 _ rfl; refine blk_put (cs := #[.slice none 0 0, .slice none 0 0, .slice none 0 0]) ?_ 0 _ rfl; exact BK212.out) hb); have n20_ := mk0 (below_step (by repeat (first | (with_reducible first | exact HB.out | apply below_alloc | apply pw_below_drewN | apply below_drew1 | refine below_set ?_ GE129.out | refine below_set ?_ GE150.out | refine below_set ?_ GE160.out | refine below_set ?_ GE171.out | refine below_set ?_ GE212.out) | exact HB.out)) hb); clear HO_151000; clear HO_151001; clear HO_151002; clear HO_161000; clear HO_161001; clear HO_161002; clear HO_172000; clear HO_172001; clear HO_172002; clear HO195; clear HO198; clear HO201; clear HO204; clear HO207; clear HO210; clear BK129; clear BK150; clear BK160; clear BK171; clear BK212; clear HB; have HO_151000 := n0_; have HO_151001 := n1_; have HO_151002 := n2_; have HO_161000 := n3_; have HO_161001 := n4_; have HO_161002 := n5_; have HO_172000 := n6_; have HO_172001 := n7_; have HO_172002 := n8_; have HO195 := n9_; have HO198 := n10_; have HO201 := n11_; have HO204 := n12_; have HO207 := n13_; have HO210 := n14_; have BK129 := n15_; have BK150 := n16_; have BK160 := n17_; have BK171 := n18_; have BK212 := n19_; have HB := n20_; clear n0_ n1_ n2_ n3_ n4_ n5_ n6_ n7_ n8_ n9_ n10_ n11_ n12_ n13_ n14_ n15_ n16_ n17_ n18_ n19_ n20_; (try clear hb); (try clear hb2); (try clear hk); (try clear hi)))
                          go_meet
                          case rel => exact ⟨_, ((t211 != t149)), (by first | rfl | (simp; done) | (simp [*]; done)), H', ⟨by have := HJ10.out; have := HJ67.out; first | omega | exact Nat.le_refl _⟩, ⟨by (try simp only [hl161000_67]); (try simp only [hl161001_67]); (try simp only [hl161002_67]); exact Kd.R_mono HO_151000.out (fun _ hk => ⟨hk.1.1.1.1.1.1.1, ⟨hk.1.1.1.1.1.1.2.1, ⟨hk.1.1.1.1.1.1.2.2.1, ⟨hk.1.1.1.1.1.1.2.2.2.1, ⟨hk.1.1.1.1.1.1.2.2.2.2.1, ⟨hk.1.1.1.1.1.1.2.2.2.2.2.1, ⟨hk.1.1.1.1.1.1.2.2.2.2.2.2.1, ⟨hk.1.1.1.1.1.1.2.2.2.2.2.2.2, ⟨hk.1.1.2, ⟨hk.1.2, hk.2⟩⟩⟩⟩⟩⟩⟩⟩⟩⟩)⟩, ⟨by (try simp only [hl161000_67]); (try simp only [hl161001_67]); (try simp only [hl161002_67]); exact Kd.R_mono HO_151001.out (fun _ hk => ⟨hk.1.1.1.1.1.1.1, ⟨hk.1.1.1.1.1.1.2.1, ⟨hk.1.1.1.1.1.1.2.2.1, ⟨hk.1.1.1.1.1.1.2.2.2.1, ⟨hk.1.1.1.1.1.1.2.2.2.2.1, ⟨hk.1.1.1.1.1.1.2.2.2.2.2.1, ⟨hk.1.1.1.1.1.1.2.2.2.2.2.2.1, ⟨hk.1.1.1.1.1.1.2.2.2.2.2.2.2, ⟨hk.1.1.2, ⟨hk.1.2, hk.2⟩⟩⟩⟩⟩⟩⟩⟩⟩⟩)⟩, ⟨by (try simp only [hl161000_67]); (try simp only [hl161001_67]); (try simp only [hl161002_67]); exact Kd.R_mono HO_151002.out (fun _ hk => ⟨hk.1.1.1.1.1.1.1, ⟨hk.1.1.1.1.1.1.2.1, ⟨hk.1.1.1.1.1.1.2.2.1, ⟨hk.1.1.1.1.1.1.2.2.2.1, ⟨hk.1.1.1.1.1.1.2.2.2.2.1, ⟨hk.1.1.1.1.1.1.2.2.2.2.2.1, ⟨hk.1.1.1.1.1.1.2.2.2.2.2.2.1, ⟨hk.1.1.1.1.1.1.2.2.2.2.2.2.2, ⟨hk.1.1.2, ⟨hk.1.2, hk.2⟩⟩⟩⟩⟩⟩⟩⟩⟩⟩)⟩, ⟨by (try simp only [hl161000_67]); (try simp only [hl161001_67]); (try simp only [hl161002_67]); exact Kd.R_mono HO_161000.out (fun _ hk => ⟨hk.1.1.1.1.1.1.1, ⟨hk.1.1.1.1.1.1.2.1, ⟨hk.1.1.1.1.1.1.2.2.1, ⟨hk.1.1.1.1.1.1.2.2.2.1, ⟨hk.1.1.1.1.1.1.2.2.2.2.1, ⟨hk.1.1.1.1.1.1.2.2.2.2.2.1, ⟨hk.1.1.1.1.1.1.2.2.2.2.2.2.1, ⟨hk.1.1.1.1.1.1.2.2.2.2.2.2.2, ⟨hk.1.1.2, ⟨hk.1.2, hk.2⟩⟩⟩⟩⟩⟩⟩⟩⟩⟩)⟩, ⟨by (try simp only [hl161000_67]); (try simp only [hl161001_67]); (try simp only [hl161002_67]); exact Kd.R_mono HO_161001.out (fun _ hk => ⟨hk.1.1.1.1.1.1.1, ⟨hk.1.1.1.1.1.1.2.1, ⟨hk.1.1.1.1.1.1.2.2.1, ⟨hk.1.1.1.1.1.1.2.2.2.1, ⟨hk.1.1.1.1.1.1.2.2.2.2.1, ⟨hk.1.1.1.1.1.1.2.2.2.2.2.1, ⟨hk.1.1.1.1.1.1.2.2.2.2.2.2.1, ⟨hk.1.1.1.1.1.1.2.2.2.2.2.2.2, ⟨hk.1.1.2, ⟨hk.1.2, hk.2⟩⟩⟩⟩⟩⟩⟩⟩⟩⟩)⟩, ⟨by (try simp only [hl161000_67]); (try simp only [hl161001_67]); (try simp only [hl161002_67]); exact Kd.R_mono HO_161002.out (fun _ hk => ⟨hk.1.1.1.1.1.1.1, ⟨hk.1.1.1.1.1.1.2.1, ⟨hk.1.1.1.1.1.1.2.2.1, ⟨hk.1.1.1.1.1.1.2.2.2.1, ⟨hk.1.1.1.1.1.1.2.2.2.2.1, ⟨hk.1.1.1.1.1.1.2.2.2.2.2.1, ⟨hk.1.1.1.1.1.1.2.2.2.2.2.2.1, ⟨hk.1.1.1.1.1.1.2.2.2.2.2.2.2, ⟨hk.1.1.2, ⟨hk.1.2, hk.2⟩⟩⟩⟩⟩⟩⟩⟩⟩⟩)⟩, ⟨by (try simp only [hl161000_67]); (try simp only [hl161001_67]); (try simp only [hl161002_67]); exact Kd.R_mono HO_172000.out (fun _ hk => ⟨hk.1.1.1.1.1.1.1, ⟨hk.1.1.1.1.1.1.2.1, ⟨hk.1.1.1.1.1.1.2.2.1, ⟨hk.1.1.1.1.1.1.2.2.2.1, ⟨hk.1.1.1.1.1.1.2.2.2.2.1, ⟨hk.1.1.1.1.1.1.2.2.2.2.2.1, ⟨hk.1.1.1.1.1.1.2.2.2.2.2.2.1, ⟨hk.1.1.1.1.1.1.2.2.2.2.2.2.2, ⟨hk.1.1.2, ⟨hk.1.2, hk.2⟩⟩⟩⟩⟩⟩⟩⟩⟩⟩)⟩, ⟨by (try simp only [hl161000_67]); (try simp only [hl161001_67]); (try simp only [hl161002_67]); exact Kd.R_mono HO_172001.out (fun _ hk => ⟨hk.1.1.1.1.1.1.1, ⟨hk.1.1.1.1.1.1.2.1, ⟨hk.1.1.1.1.1.1.2.2.1, ⟨hk.1.1.1.1.1.1.2.2.2.1, ⟨hk.1.1.1.1.1.1.2.2.2.2.1, ⟨hk.1.1.1.1.1.1.2.2.2.2.2.1, ⟨hk.1.1.1.1.1.1.2.2.2.2.2.2.1, ⟨hk.1.1.1.1.1.1.2.2.2.2.2.2.2, ⟨hk.1.1.2, ⟨hk.1.2, hk.2⟩⟩⟩⟩⟩⟩⟩⟩⟩⟩)⟩, ⟨by (try simp only [hl161000_67]); (try simp only [hl161001_67]); (try simp only [hl161002_67]); exact Kd.R_mono HO_172002.out (fun _ hk => ⟨hk.1.1.1.1.1.1.1, ⟨hk.1.1.1.1.1.1.2.1, ⟨hk.1.1.1.1.1.1.2.2.1, ⟨hk.1.1.1.1.1.1.2.2.2.1, ⟨hk.1.1.1.1.1.1.2.2.2.2.1, ⟨hk.1.1.1.1.1.1.2.2.2.2.2.1, ⟨hk.1.1.1.1.1.1.2.2.2.2.2.2.1, ⟨hk.1.1.1.1.1.1.2.2.2.2.2.2.2, ⟨hk.1.1.2, ⟨hk.1.2, hk.2⟩⟩⟩⟩⟩⟩⟩⟩⟩⟩)⟩, ⟨by (try simp only [hl161000_67]); (try simp only [hl161001_67]); (try simp only [hl161002_67]); exact Kd.R_mono HO204.out (fun _ hk => ⟨hk.1.1.1.1.1.1.1.1.1.1.1.2, ⟨hk.1.1.1.1.1.1.1.1.1.1.2, ⟨hk.1.1.1.1.1.1.1.1.1.2, ⟨hk.1.1.1.1.1.1.1.1.2, ⟨hk.1.1.1.1.1.1.1.2, ⟨hk.1.1.1.1.1.1.2, ⟨hk.1.1.1.1.1.2, ⟨hk.1.1.1.1.2, ⟨hk.1.1.1.2, ⟨hk.1.1.1.1.1.1.1.1.1.1.1.1.1, hk.1.1.1.1.1.1.1.1.1.1.1.1.2⟩⟩⟩⟩⟩⟩⟩⟩⟩⟩)⟩, ⟨by (try simp only [hl161000_67]); (try simp only [hl161001_67]); (try simp only [hl161002_67]); exact Kd.R_mono HO207.out (fun _ hk => ⟨hk.1.1.1.1.1.1.1.1.1.1.1.2, ⟨hk.1.1.1.1.1.1.1.1.1.1.2, ⟨hk.1.1.1.1.1.1.1.1.1.2, ⟨hk.1.1.1.1.1.1.1.1.2, ⟨hk.1.1.1.1.1.1.1.2, ⟨hk.1.1.1.1.1.1.2, ⟨hk.1.1.1.1.1.2, ⟨hk.1.1.1.1.2, ⟨hk.1.1.1.2, ⟨hk.1.1.1.1.1.1.1.1.1.1.1.1.1, hk.1.1.1.1.1.1.1.1.1.1.1.1.2⟩⟩⟩⟩⟩⟩⟩⟩⟩⟩)⟩, ⟨by (try simp only [hl161000_67]); (try simp only [hl161001_67]); (try simp only [hl161002_67]); exact Kd.R_mono HO210.out (fun _ hk => ⟨hk.1.1.1.1.1.1.1.1.1.1.1.2, ⟨hk.1.1.1.1.1.1.1.1.1.1.2, ⟨hk.1.1.1.1.1.1.1.1.1.2, ⟨hk.1.1.1.1.1.1.1.1.2, ⟨hk.1.1.1.1.1.1.1.2, ⟨hk.1.1.1.1.1.1.2, ⟨hk.1.1.1.1.1.2, ⟨hk.1.1.1.1.2, ⟨hk.1.1.1.2, ⟨hk.1.1.1.1.1.1.1.1.1.1.1.1.1, hk.1.1.1.1.1.1.1.1.1.1.1.1.2⟩⟩⟩⟩⟩⟩⟩⟩⟩⟩)⟩, ⟨by (try simp only [hl161000_67]); (try simp only [hl161001_67]); (try simp only [hl161002_67]); exact BK129.out⟩, ⟨by (try simp only [hl161000_67]); (try simp only [hl161001_67]); (try simp only [hl161002_67]); exact BK150.out⟩, ⟨by (try simp only [hl161000_67]); (try simp only [hl161001_67]); (try simp only [hl161002_67]); exact BK160.out⟩, ⟨by (try simp only [hl161000_67]); (try simp only [hl161001_67]); (try simp only [hl161002_67]); exact BK171.out⟩, ⟨by (try simp only [hl161000_67]); (try simp only [hl161001_67]); (try simp only [hl161002_67]); exact BK212.out⟩, ⟨by repeat (first | (with_reducible first | exact HB.out | apply below_alloc | apply pw_below_drewN | apply below_drew1 | refine below_set ?_ GE129.out | refine below_set ?_ GE150.out | refine below_set ?_ GE160.out | refine below_set ?_ GE171.out | refine below_set ?_ GE212.out) | exact HB.out)⟩⟩
                        · replace c139 := Bool.eq_false_iff.mpr c139
                          subst c139
                          have H1 : (laws_FnExactReverseGauss.j2 kj67 t188 true t189 t190 t191) = some r := by rw [if_neg (show ¬ (false = true) by decide)] at H; exact H
                          clear H
                          have H := H1
                          clear H1
                          have H' := Aside0.mk H
                          clear H
                          have hnb150 := NB212_129.out
                          have hnc150 := NB129_212.out
                          have hnb151 := NB212_150.out
                          have hnc151 := NB150_212.out
                          have hnb152 := NB212_160.out
                          have hnc152 := NB160_212.out
                          have hnb153 := NB212_171.out
                          have hnc153 := NB171_212.out
                          have hcz154_0 : w129.cell? ⟨gb212, 0, none⟩ = some (.slice none 0 0) := (blk_cell BK212.out 0).trans rfl
                          have hcz154_1 : w129.cell? ⟨gb212, 1, none⟩ = some (.slice none 0 0) := (blk_cell BK212.out 1).trans rfl
                          have hcz154_2 : w129.cell? ⟨gb212, 2, none⟩ = some (.slice none 0 0) := (blk_cell BK212.out 2).trans rfl
                          have hfz154_0 := blk_frozen BK212.out 0
                          have hfz154_1 := blk_frozen BK212.out 1
                          have hfz154_2 := blk_frozen BK212.out 2
                          have hnb155 := NB150_129.out
                          have hnc155 := NB129_150.out
                          have hnb156 := NB150_160.out
                          have hnc156 := NB160_150.out
                          have hnb157 := NB150_171.out
                          have hnc157 := NB171_150.out
                          have hcz158_0 : w129.cell? ⟨gb150, 0, none⟩ = some (.slice Ao22 t140.length co22) := (blk_cell BK150.out 0).trans rfl
                          have hcz158_1 : w129.cell? ⟨gb150, 1, none⟩ = some (.slice Ao25 t143.length co25) := (blk_cell BK150.out 1).trans rfl
                          have hcz158_2 : w129.cell? ⟨gb150, 2, none⟩ = some (.slice Ao26 t146.length co26) := (blk_cell BK150.out 2).trans rfl
                          have hfz158_0 := blk_frozen BK150.out 0
                          have hfz158_1 := blk_frozen BK150.out 1
                          have hfz158_2 := blk_frozen BK150.out 2
                          go_wp2_with (first | ((with_reducible refine gate_callee (f := 36) rfl ?_); refine goesL_ (some 81) rfl rfl Try.func36 (by kernel_rfl) rfl #[.agg #[.slice Ao130 t202.length co130, .slice Ao136 t205.length co136, .slice Ao137 t208.length co137], .agg #[.slice Ao22 t140.length co22, .slice Ao25 t143.length co25, .slice Ao26 t146.length co26]] rfl (by (try simp only [List.map_toArray, List.map_cons, List.map_nil]); rfl) ?_; (with_reducible refine (laws_eqGauss.calls kj67 _ _ t202 _ _ t205 _ _ t208 _ _ t140 _ _ t143 _ _ t146 false _ ?side1 ?side2 ?side3 ?side4 ?side5 ?side6 ?side7 ?side8 ?side9 ?side10 ?side11 ?side12 A138.out).mono ?_); (case side1 => refine (Kd.R_reads' (e := 2) (base := w.heap.size) (ok := fun k_ => (((((((((((((nb k_ Ao136 t205 co136 ∧ nb k_ Ao137 t208 co137) ∧ nb k_ Ao22 t140 co22) ∧ nb k_ Ao25 t143 co25) ∧ nb k_ Ao26 t146 co26) ∧ nb k_ Ao30 t184 co30) ∧ nb k_ Ao34 t185 co34) ∧ nb k_ Ao35 t186 co35) ∧ nb k_ Ao38 t161 co38) ∧ nb k_ Ao43 t164 co43) ∧ nb k_ Ao44 t167 co44) ∧ nb k_ Ao125 t193 co125) ∧ nb k_ Ao126 t196 co126) ∧ nb k_ Ao127 t199 co127)) (n := t202.length) (c := co130) ?_).2.2; exact (by exact fa HO204.out BK212.out)); (case side2 => exact (Kd.R_reads' HO204.out).2.1); (case side3 => refine (Kd.R_reads' (e := 2) (base := w.heap.size) (ok := fun k_ => (((((((((((((nb k_ Ao130 t202 co130 ∧ nb k_ Ao137 t208 co137) ∧ nb k_ Ao22 t140 co22) ∧ nb k_ Ao25 t143 co25) ∧ nb k_ Ao26 t146 co26) ∧ nb k_ Ao30 t184 co30) ∧ nb k_ Ao34 t185 co34) ∧ nb k_ Ao35 t186 co35) ∧ nb k_ Ao38 t161 co38) ∧ nb k_ Ao43 t164 co43) ∧ nb k_ Ao44 t167 co44) ∧ nb k_ Ao125 t193 co125) ∧ nb k_ Ao126 t196 co126) ∧ nb k_ Ao127 t199 co127)) (n := t205.length) (c := co136) ?_).2.2; exact (by exact fa HO207.out BK212.out)); (case side4 => exact (Kd.R_reads' HO207.out).2.1); (case side5 => refine (Kd.R_reads' (e := 2) (base := w.heap.size) (ok := fun k_ => (((((((((((((nb k_ Ao130 t202 co130 ∧ nb k_ Ao136 t205 co136) ∧ nb k_ Ao22 t140 co22) ∧ nb k_ Ao25 t143 co25) ∧ nb k_ Ao26 t146 co26) ∧ nb k_ Ao30 t184 co30) ∧ nb k_ Ao34 t185 co34) ∧ nb k_ Ao35 t186 co35) ∧ nb k_ Ao38 t161 co38) ∧ nb k_ Ao43 t164 co43) ∧ nb k_ Ao44 t167 co44) ∧ nb k_ Ao125 t193 co125) ∧ nb k_ Ao126 t196 co126) ∧ nb k_ Ao127 t199 co127)) (n := t208.length) (c := co137) ?_).2.2; exact (by exact fa HO210.out BK212.out)); (case side6 => exact (Kd.R_reads' HO210.out).2.1); (case side7 => refine (Kd.R_reads' (e := 2) (base := w.heap.size) (ok := fun k_ => (((((((nb k_ Ao25 t143 co25 ∧ (nb k_ Ao26 t146 co26 ∧ (nb k_ Ao30 t184 co30 ∧ (nb k_ Ao34 t185 co34 ∧ (nb k_ Ao35 t186 co35 ∧ (nb k_ Ao38 t161 co38 ∧ (nb k_ Ao43 t164 co43 ∧ nb k_ Ao44 t167 co44))))))) ∧ nb k_ Ao125 t193 co125) ∧ nb k_ Ao126 t196 co126) ∧ nb k_ Ao127 t199 co127) ∧ nb k_ Ao130 t202 co130) ∧ nb k_ Ao136 t205 co136) ∧ nb k_ Ao137 t208 co137)) (n := t140.length) (c := co22) ?_).2.2; exact (by exact fa HO_151000.out BK212.out)); (case side8 => exact (Kd.R_reads' HO_151000.out).2.1); (case side9 => refine (Kd.R_reads' (e := 2) (base := w.heap.size) (ok := fun k_ => (((((((nb k_ Ao22 t140 co22 ∧ (nb k_ Ao26 t146 co26 ∧ (nb k_ Ao30 t184 co30 ∧ (nb k_ Ao34 t185 co34 ∧ (nb k_ Ao35 t186 co35 ∧ (nb k_ Ao38 t161 co38 ∧ (nb k_ Ao43 t164 co43 ∧ nb k_ Ao44 t167 co44))))))) ∧ nb k_ Ao125 t193 co125) ∧ nb k_ Ao126 t196 co126) ∧ nb k_ Ao127 t199 co127) ∧ nb k_ Ao130 t202 co130) ∧ nb k_ Ao136 t205 co136) ∧ nb k_ Ao137 t208 co137)) (n := t143.length) (c := co25) ?_).2.2; exact (by exact fa HO_151001.out BK212.out)); (case side10 => exact (Kd.R_reads' HO_151001.out).2.1); (case side11 => refine (Kd.R_reads' (e := 2) (base := w.heap.size) (ok := fun k_ => (((((((nb k_ Ao22 t140 co22 ∧ (nb k_ Ao25 t143 co25 ∧ (nb k_ Ao30 t184 co30 ∧ (nb k_ Ao34 t185 co34 ∧ (nb k_ Ao35 t186 co35 ∧ (nb k_ Ao38 t161 co38 ∧ (nb k_ Ao43 t164 co43 ∧ nb k_ Ao44 t167 co44))))))) ∧ nb k_ Ao125 t193 co125) ∧ nb k_ Ao126 t196 co126) ∧ nb k_ Ao127 t199 co127) ∧ nb k_ Ao130 t202 co130) ∧ nb k_ Ao136 t205 co136) ∧ nb k_ Ao137 t208 co137)) (n := t146.length) (c := co26) ?_).2.2; exact (by exact fa HO_151002.out BK212.out)); (case side12 => exact (Kd.R_reads' HO_151002.out).2.1); rintro e w159 ⟨rfl, hb⟩; refine ⟨_, rfl, ?_⟩; have n0_ := mk0 (Kd.R_below (by exact fa HO_151000.out BK212.out) hb); have n1_ := mk0 (Kd.R_below (by exact fa HO_151001.out BK212.out) hb); have n2_ := mk0 (Kd.R_below (by exact fa HO_151002.out BK212.out) hb); have n3_ := mk0 (Kd.R_below (by exact fa HO_161000.out BK212.out) hb); have n4_ := mk0 (Kd.R_below (by exact fa HO_161001.out BK212.out) hb); have n5_ := mk0 (Kd.R_below (by exact fa HO_161002.out BK212.out) hb); have n6_ := mk0 (Kd.R_below (by exact fa HO_172000.out BK212.out) hb); have n7_ := mk0 (Kd.R_below (by exact fa HO_172001.out BK212.out) hb); have n8_ := mk0 (Kd.R_below (by exact fa HO_172002.out BK212.out) hb); have n9_ := mk0 (Kd.R_below (by exact fa HO195.out BK212.out) hb); have n10_ := mk0 (Kd.R_below (by exact fa HO198.out BK212.out) hb); have n11_ := mk0 (Kd.R_below (by exact fa HO201.out BK212.out) hb); have n12_ := mk0 (Kd.R_below (by exact fa HO204.out BK212.out) hb); have n13_ := mk0 (Kd.R_below (by exact fa HO207.out BK212.out) hb); have n14_ := mk0 (Kd.R_below (by exact fa HO210.out BK212.out) hb); have n15_ := mk0 (blk_below (g := gb129) (o := .cells #[.slice A0_0 l0_0.length c0_0, .slice A0_1 l0_1.length c0_1, .slice A0_2 l0_2.length c0_2] 39 (0, 0)) (by refine blk_far ?_ NB129_212.out _; refine blk_far ?_ NB129_212.out _; refine blk_far ?_ NB129_212.out _; exact BK129.out) hb); have n16_ := mk0 (blk_below (g := gb150) (o := .cells #[.slice Ao22 t140.length co22, .slice Ao25 t143.length co25, .slice Ao26 t146.length co26] 41 (0, 0)) (by refine blk_far ?_ NB150_212.out _; refine blk_far ?_ NB150_212.out _; refine blk_far ?_ NB150_212.out _; exact BK150.out) hb); have n17_ := mk0 (blk_below (g := gb160) (o := .cells #[.slice Ao30 t184.length co30, .slice Ao34 t185.length co34, .slice Ao35 t186.length co35] 41 (0, 0)) (by refine blk_far ?_ NB160_212.out _; refine blk_far ?_ NB160_212.out _; refine blk_far ?_ NB160_212.out _; exact BK160.out) hb); have n18_ := mk0 (blk_below (g := gb171) (o := .cells #[.slice Ao38 t161.length co38, .slice Ao43 t164.length co43, .slice Ao44 t167.length co44] 41 (0, 0)) (by refine blk_far ?_ NB171_212.out _; refine blk_far ?_ NB171_212.out _; refine blk_far ?_ NB171_212.out _; exact BK171.out) hb); have n19_ := mk0 (blk_below (g := gb212) (o := .cells #[.slice Ao130 t202.length co130, .slice Ao136 t205.length co136, .slice Ao137 t208.length co137] 41 (0, 0)) (by refine blk_put (cs := #[.slice Ao130 t202.length co130, .slice Ao136 t205.length co136, .slice none 0 0]) ?_ 2 _ rfl; refine blk_put (cs := #[.slice Ao130 t202.length co130, .slice none 0 0, .slice none 0 0]) ?_ 1 _ rfl; refine blk_put (cs := #[.slice none 0 0, .slice none 0 0, .slice none 0 0]) ?_ 0 _ rfl; exact BK212.out) hb); have n20_ := mk0 (below_step (by repeat (first | (with_reducible first | exact HB.out | apply below_alloc | apply pw_below_drewN | apply below_drew1 | refine below_set ?_ GE129.out | refine below_set ?_ GE150.out | refine below_set ?_ GE160.out | refine below_set ?_ GE171.out | refine below_set ?_ GE212.out) | exact HB.out)) hb); clear HO_151000; clear HO_151001; clear HO_151002; clear HO_161000; clear HO_161001; clear HO_161002; clear HO_172000; clear HO_172001; clear HO_172002; clear HO195; clear HO198; clear HO201; clear HO204; clear HO207; clear HO210; clear BK129; clear BK150; clear BK160; clear BK171; clear BK212; clear HB; have HO_151000 := n0_; have HO_151001 := n1_; have HO_151002 := n2_; have HO_161000 := n3_; have HO_161001 := n4_; have HO_161002 := n5_; have HO_172000 := n6_; have HO_172001 := n7_; have HO_172002 := n8_; have HO195 := n9_; have HO198 := n10_; have HO201 := n11_; have HO204 := n12_; have HO207 := n13_; have HO210 := n14_; have BK129 := n15_; have BK150 := n16_; have BK160 := n17_; have BK171 := n18_; have BK212 := n19_; have HB := n20_; clear n0_ n1_ n2_ n3_ n4_ n5_ n6_ n7_ n8_ n9_ n10_ n11_ n12_ n13_ n14_ n15_ n16_ n17_ n18_ n19_ n20_; (try clear hb); (try clear hb2); (try clear hk); (try clear hi)))
                          go_meet
                          case rel => exact ⟨_, (true), (by first | rfl | (simp; done) | (simp [*]; done)), H', ⟨by have := HJ10.out; have := HJ67.out; first | omega | exact Nat.le_refl _⟩, ⟨by (try simp only [hl161000_67]); (try simp only [hl161001_67]); (try simp only [hl161002_67]); exact Kd.R_mono HO_151000.out (fun _ hk => ⟨hk.1.1.1.1.1.1.1, ⟨hk.1.1.1.1.1.1.2.1, ⟨hk.1.1.1.1.1.1.2.2.1, ⟨hk.1.1.1.1.1.1.2.2.2.1, ⟨hk.1.1.1.1.1.1.2.2.2.2.1, ⟨hk.1.1.1.1.1.1.2.2.2.2.2.1, ⟨hk.1.1.1.1.1.1.2.2.2.2.2.2.1, ⟨hk.1.1.1.1.1.1.2.2.2.2.2.2.2, ⟨hk.1.1.2, ⟨hk.1.2, hk.2⟩⟩⟩⟩⟩⟩⟩⟩⟩⟩)⟩, ⟨by (try simp only [hl161000_67]); (try simp only [hl161001_67]); (try simp only [hl161002_67]); exact Kd.R_mono HO_151001.out (fun _ hk => ⟨hk.1.1.1.1.1.1.1, ⟨hk.1.1.1.1.1.1.2.1, ⟨hk.1.1.1.1.1.1.2.2.1, ⟨hk.1.1.1.1.1.1.2.2.2.1, ⟨hk.1.1.1.1.1.1.2.2.2.2.1, ⟨hk.1.1.1.1.1.1.2.2.2.2.2.1, ⟨hk.1.1.1.1.1.1.2.2.2.2.2.2.1, ⟨hk.1.1.1.1.1.1.2.2.2.2.2.2.2, ⟨hk.1.1.2, ⟨hk.1.2, hk.2⟩⟩⟩⟩⟩⟩⟩⟩⟩⟩)⟩, ⟨by (try simp only [hl161000_67]); (try simp only [hl161001_67]); (try simp only [hl161002_67]); exact Kd.R_mono HO_151002.out (fun _ hk => ⟨hk.1.1.1.1.1.1.1, ⟨hk.1.1.1.1.1.1.2.1, ⟨hk.1.1.1.1.1.1.2.2.1, ⟨hk.1.1.1.1.1.1.2.2.2.1, ⟨hk.1.1.1.1.1.1.2.2.2.2.1, ⟨hk.1.1.1.1.1.1.2.2.2.2.2.1, ⟨hk.1.1.1.1.1.1.2.2.2.2.2.2.1, ⟨hk.1.1.1.1.1.1.2.2.2.2.2.2.2, ⟨hk.1.1.2, ⟨hk.1.2, hk.2⟩⟩⟩⟩⟩⟩⟩⟩⟩⟩)⟩, ⟨by (try simp only [hl161000_67]); (try simp only [hl161001_67]); (try simp only [hl161002_67]); exact Kd.R_mono HO_161000.out (fun _ hk => ⟨hk.1.1.1.1.1.1.1, ⟨hk.1.1.1.1.1.1.2.1, ⟨hk.1.1.1.1.1.1.2.2.1, ⟨hk.1.1.1.1.1.1.2.2.2.1, ⟨hk.1.1.1.1.1.1.2.2.2.2.1, ⟨hk.1.1.1.1.1.1.2.2.2.2.2.1, ⟨hk.1.1.1.1.1.1.2.2.2.2.2.2.1, ⟨hk.1.1.1.1.1.1.2.2.2.2.2.2.2, ⟨hk.1.1.2, ⟨hk.1.2, hk.2⟩⟩⟩⟩⟩⟩⟩⟩⟩⟩)⟩, ⟨by (try simp only [hl161000_67]); (try simp only [hl161001_67]); (try simp only [hl161002_67]); exact Kd.R_mono HO_161001.out (fun _ hk => ⟨hk.1.1.1.1.1.1.1, ⟨hk.1.1.1.1.1.1.2.1, ⟨hk.1.1.1.1.1.1.2.2.1, ⟨hk.1.1.1.1.1.1.2.2.2.1, ⟨hk.1.1.1.1.1.1.2.2.2.2.1, ⟨hk.1.1.1.1.1.1.2.2.2.2.2.1, ⟨hk.1.1.1.1.1.1.2.2.2.2.2.2.1, ⟨hk.1.1.1.1.1.1.2.2.2.2.2.2.2, ⟨hk.1.1.2, ⟨hk.1.2, hk.2⟩⟩⟩⟩⟩⟩⟩⟩⟩⟩)⟩, ⟨by (try simp only [hl161000_67]); (try simp only [hl161001_67]); (try simp only [hl161002_67]); exact Kd.R_mono HO_161002.out (fun _ hk => ⟨hk.1.1.1.1.1.1.1, ⟨hk.1.1.1.1.1.1.2.1, ⟨hk.1.1.1.1.1.1.2.2.1, ⟨hk.1.1.1.1.1.1.2.2.2.1, ⟨hk.1.1.1.1.1.1.2.2.2.2.1, ⟨hk.1.1.1.1.1.1.2.2.2.2.2.1, ⟨hk.1.1.1.1.1.1.2.2.2.2.2.2.1, ⟨hk.1.1.1.1.1.1.2.2.2.2.2.2.2, ⟨hk.1.1.2, ⟨hk.1.2, hk.2⟩⟩⟩⟩⟩⟩⟩⟩⟩⟩)⟩, ⟨by (try simp only [hl161000_67]); (try simp only [hl161001_67]); (try simp only [hl161002_67]); exact Kd.R_mono HO_172000.out (fun _ hk => ⟨hk.1.1.1.1.1.1.1, ⟨hk.1.1.1.1.1.1.2.1, ⟨hk.1.1.1.1.1.1.2.2.1, ⟨hk.1.1.1.1.1.1.2.2.2.1, ⟨hk.1.1.1.1.1.1.2.2.2.2.1, ⟨hk.1.1.1.1.1.1.2.2.2.2.2.1, ⟨hk.1.1.1.1.1.1.2.2.2.2.2.2.1, ⟨hk.1.1.1.1.1.1.2.2.2.2.2.2.2, ⟨hk.1.1.2, ⟨hk.1.2, hk.2⟩⟩⟩⟩⟩⟩⟩⟩⟩⟩)⟩, ⟨by (try simp only [hl161000_67]); (try simp only [hl161001_67]); (try simp only [hl161002_67]); exact Kd.R_mono HO_172001.out (fun _ hk => ⟨hk.1.1.1.1.1.1.1, ⟨hk.1.1.1.1.1.1.2.1, ⟨hk.1.1.1.1.1.1.2.2.1, ⟨hk.1.1.1.1.1.1.2.2.2.1, ⟨hk.1.1.1.1.1.1.2.2.2.2.1, ⟨hk.1.1.1.1.1.1.2.2.2.2.2.1, ⟨hk.1.1.1.1.1.1.2.2.2.2.2.2.1, ⟨hk.1.1.1.1.1.1.2.2.2.2.2.2.2, ⟨hk.1.1.2, ⟨hk.1.2, hk.2⟩⟩⟩⟩⟩⟩⟩⟩⟩⟩)⟩, ⟨by (try simp only [hl161000_67]); (try simp only [hl161001_67]); (try simp only [hl161002_67]); exact Kd.R_mono HO_172002.out (fun _ hk => ⟨hk.1.1.1.1.1.1.1, ⟨hk.1.1.1.1.1.1.2.1, ⟨hk.1.1.1.1.1.1.2.2.1, ⟨hk.1.1.1.1.1.1.2.2.2.1, ⟨hk.1.1.1.1.1.1.2.2.2.2.1, ⟨hk.1.1.1.1.1.1.2.2.2.2.2.1, ⟨hk.1.1.1.1.1.1.2.2.2.2.2.2.1, ⟨hk.1.1.1.1.1.1.2.2.2.2.2.2.2, ⟨hk.1.1.2, ⟨hk.1.2, hk.2⟩⟩⟩⟩⟩⟩⟩⟩⟩⟩)⟩, ⟨by (try simp only [hl161000_67]); (try simp only [hl161001_67]); (try simp only [hl161002_67]); exact Kd.R_mono HO204.out (fun _ hk => ⟨hk.1.1.1.1.1.1.1.1.1.1.1.2, ⟨hk.1.1.1.1.1.1.1.1.1.1.2, ⟨hk.1.1.1.1.1.1.1.1.1.2, ⟨hk.1.1.1.1.1.1.1.1.2, ⟨hk.1.1.1.1.1.1.1.2, ⟨hk.1.1.1.1.1.1.2, ⟨hk.1.1.1.1.1.2, ⟨hk.1.1.1.1.2, ⟨hk.1.1.1.2, ⟨hk.1.1.1.1.1.1.1.1.1.1.1.1.1, hk.1.1.1.1.1.1.1.1.1.1.1.1.2⟩⟩⟩⟩⟩⟩⟩⟩⟩⟩)⟩, ⟨by (try simp only [hl161000_67]); (try simp only [hl161001_67]); (try simp only [hl161002_67]); exact Kd.R_mono HO207.out (fun _ hk => ⟨hk.1.1.1.1.1.1.1.1.1.1.1.2, ⟨hk.1.1.1.1.1.1.1.1.1.1.2, ⟨hk.1.1.1.1.1.1.1.1.1.2, ⟨hk.1.1.1.1.1.1.1.1.2, ⟨hk.1.1.1.1.1.1.1.2, ⟨hk.1.1.1.1.1.1.2, ⟨hk.1.1.1.1.1.2, ⟨hk.1.1.1.1.2, ⟨hk.1.1.1.2, ⟨hk.1.1.1.1.1.1.1.1.1.1.1.1.1, hk.1.1.1.1.1.1.1.1.1.1.1.1.2⟩⟩⟩⟩⟩⟩⟩⟩⟩⟩)⟩, ⟨by (try simp only [hl161000_67]); (try simp only [hl161001_67]); (try simp only [hl161002_67]); exact Kd.R_mono HO210.out (fun _ hk => ⟨hk.1.1.1.1.1.1.1.1.1.1.1.2, ⟨hk.1.1.1.1.1.1.1.1.1.1.2, ⟨hk.1.1.1.1.1.1.1.1.1.2, ⟨hk.1.1.1.1.1.1.1.1.2, ⟨hk.1.1.1.1.1.1.1.2, ⟨hk.1.1.1.1.1.1.2, ⟨hk.1.1.1.1.1.2, ⟨hk.1.1.1.1.2, ⟨hk.1.1.1.2, ⟨hk.1.1.1.1.1.1.1.1.1.1.1.1.1, hk.1.1.1.1.1.1.1.1.1.1.1.1.2⟩⟩⟩⟩⟩⟩⟩⟩⟩⟩)⟩, ⟨by (try simp only [hl161000_67]); (try simp only [hl161001_67]); (try simp only [hl161002_67]); exact BK129.out⟩, ⟨by (try simp only [hl161000_67]); (try simp only [hl161001_67]); (try simp only [hl161002_67]); exact BK150.out⟩, ⟨by (try simp only [hl161000_67]); (try simp only [hl161001_67]); (try simp only [hl161002_67]); exact BK160.out⟩, ⟨by (try simp only [hl161000_67]); (try simp only [hl161001_67]); (try simp only [hl161002_67]); exact BK171.out⟩, ⟨by (try simp only [hl161000_67]); (try simp only [hl161001_67]); (try simp only [hl161002_67]); exact BK212.out⟩, ⟨by repeat (first | (with_reducible first | exact HB.out | apply below_alloc | apply pw_below_drewN | apply below_drew1 | refine below_set ?_ GE129.out | refine below_set ?_ GE150.out | refine below_set ?_ GE160.out | refine below_set ?_ GE171.out | refine below_set ?_ GE212.out) | exact HB.out)⟩⟩
                      case rest =>
                        clear HC113
                        try clear c1
                        try clear c2
                        try clear p2
                        try clear c3
                        try clear c3b0
                        try clear c4
                        try clear c5
                        try clear c6
                        try clear c7
                        try clear c8
                        try clear c9
                        try clear c10
                        try clear c11
                        try clear c12
                        try clear c13
                        try clear c14
                        try clear c15
                        try clear c23
                        try clear c31
                        try clear c32
                        try clear c33
                        try clear c34
                        try clear c35
                        try clear c36
                        try clear c37
                        try clear c38
                        try clear c39
                        try clear c40
                        try clear c41
                        try clear c46
                        try clear c47
                        try clear c48
                        try clear c49
                        try clear c51
                        try clear c52
                        try clear c55
                        try clear c56
                        try clear c57
                        try clear c59
                        try clear c60
                        try clear c63
                        try clear c66
                        try clear c75
                        try clear c76
                        try clear c77
                        try clear c80
                        try clear c80b0
                        try clear c82
                        try clear c83
                        try clear c84
                        try clear c85
                        try clear c87
                        try clear c88
                        try clear c91
                        try clear c92
                        try clear c93
                        try clear c95
                        try clear c96
                        try clear c99
                        try clear c102
                        try clear c102b0
                        try clear c103
                        try clear c104
                        try clear c105
                        try clear c110
                        try clear c110b0
                        try clear c110b1
                        try clear c114
                        try clear c115
                        try clear c116
                        try clear c121
                        try clear c122
                        try clear c131
                        try clear c132
                        try clear c133
                        try clear c134
                        try clear c139
                        try clear c140
                        try clear c141
                        try clear c142
                        try clear c143
                        try clear c145
                        try clear c146
                        try clear c147
                        try clear c150
                        try clear c151
                        try clear c152
                        try clear c153
                        try clear c155
                        try clear c156
                        try clear c157
                        try clear hcz106_0
                        try clear hcz106_1
                        try clear hcz106_2
                        try clear hcz108_0
                        try clear hcz108_1
                        try clear hcz108_2
                        try clear hcz117_0
                        try clear hcz117_1
                        try clear hcz117_2
                        try clear hcz119_0
                        try clear hcz119_1
                        try clear hcz119_2
                        try clear hcz123_0
                        try clear hcz123_1
                        try clear hcz123_2
                        try clear hcz135_0
                        try clear hcz135_1
                        try clear hcz135_2
                        try clear hcz13_0
                        try clear hcz13_1
                        try clear hcz13_2
                        try clear hcz144_0
                        try clear hcz144_1
                        try clear hcz144_2
                        try clear hcz148_0
                        try clear hcz148_1
                        try clear hcz148_2
                        try clear hcz154_0
                        try clear hcz154_1
                        try clear hcz154_2
                        try clear hcz158_0
                        try clear hcz158_1
                        try clear hcz158_2
                        try clear hcz15_0
                        try clear hcz15_1
                        try clear hcz15_2
                        try clear hcz24_0
                        try clear hcz24_1
                        try clear hcz24_2
                        try clear hcz27_0
                        try clear hcz27_1
                        try clear hcz27_2
                        try clear hcz33_0
                        try clear hcz33_1
                        try clear hcz33_2
                        try clear hcz42_0
                        try clear hcz42_1
                        try clear hcz42_2
                        try clear hcz50_0
                        try clear hcz50_1
                        try clear hcz50_2
                        try clear hcz53_0
                        try clear hcz53_1
                        try clear hcz53_2
                        try clear hcz58_0
                        try clear hcz58_1
                        try clear hcz58_2
                        try clear hcz5_0
                        try clear hcz5_1
                        try clear hcz5_2
                        try clear hcz61_0
                        try clear hcz61_1
                        try clear hcz61_2
                        try clear hcz78_0
                        try clear hcz78_1
                        try clear hcz78_2
                        try clear hcz86_0
                        try clear hcz86_1
                        try clear hcz86_2
                        try clear hcz89_0
                        try clear hcz89_1
                        try clear hcz89_2
                        try clear hcz94_0
                        try clear hcz94_1
                        try clear hcz94_2
                        try clear hcz97_0
                        try clear hcz97_1
                        try clear hcz97_2
                        try clear hfz106_0
                        try clear hfz106_1
                        try clear hfz106_2
                        try clear hfz108_0
                        try clear hfz108_1
                        try clear hfz108_2
                        try clear hfz117_0
                        try clear hfz117_1
                        try clear hfz117_2
                        try clear hfz119_0
                        try clear hfz119_1
                        try clear hfz119_2
                        try clear hfz123_0
                        try clear hfz123_1
                        try clear hfz123_2
                        try clear hfz135_0
                        try clear hfz135_1
                        try clear hfz135_2
                        try clear hfz13_0
                        try clear hfz13_1
                        try clear hfz13_2
                        try clear hfz144_0
                        try clear hfz144_1
                        try clear hfz144_2
                        try clear hfz148_0
                        try clear hfz148_1
                        try clear hfz148_2
                        try clear hfz154_0
                        try clear hfz154_1
                        try clear hfz154_2
                        try clear hfz158_0
                        try clear hfz158_1
                        try clear hfz158_2
                        try clear hfz15_0
                        try clear hfz15_1
                        try clear hfz15_2
                        try clear hfz24_0
                        try clear hfz24_1
                        try clear hfz24_2
                        try clear hfz27_0
                        try clear hfz27_1
                        try clear hfz27_2
                        try clear hfz33_0
                        try clear hfz33_1
                        try clear hfz33_2
                        try clear hfz42_0
                        try clear hfz42_1
                        try clear hfz42_2
                        try clear hfz50_0
                        try clear hfz50_1
                        try clear hfz50_2
                        try clear hfz53_0
                        try clear hfz53_1
                        try clear hfz53_2
                        try clear hfz58_0
                        try clear hfz58_1
                        try clear hfz58_2
                        try clear hfz5_0
                        try clear hfz5_1
                        try clear hfz5_2
                        try clear hfz61_0
                        try clear hfz61_1
                        try clear hfz61_2
                        try clear hfz78_0
                        try clear hfz78_1
                        try clear hfz78_2
                        try clear hfz86_0
                        try clear hfz86_1
                        try clear hfz86_2
                        try clear hfz89_0
                        try clear hfz89_1
                        try clear hfz89_2
                        try clear hfz94_0
                        try clear hfz94_1
                        try clear hfz94_2
                        try clear hfz97_0
                        try clear hfz97_1
                        try clear hfz97_2
                        try clear p2
                        obtain ⟨kq, x87_112, rfl, HA, HJ112, HO_151000, HO_151001, HO_151002, HO_161000, HO_161001, HO_161002, HO_172000, HO_172001, HO_172002, HO_213000, HO_213001, HO_213002, BK129, BK150, BK160, BK171, BK212, HB⟩ := hcut
                        have hl172000_112 := (Kd.R_reads' HO_172000.out).1
                        rw [hl172000_112] at HO_172000
                        (try simp only [hl172000_112])
                        (try simp only [hl172000_112] at BK129)
                        (try simp only [hl172000_112] at BK150)
                        (try simp only [hl172000_112] at BK160)
                        (try simp only [hl172000_112] at BK171)
                        (try simp only [hl172000_112] at BK212)
                        (try simp only [hl172000_112] at HO_151000)
                        (try simp only [hl172000_112] at HO_151001)
                        (try simp only [hl172000_112] at HO_151002)
                        (try simp only [hl172000_112] at HO_161000)
                        (try simp only [hl172000_112] at HO_161001)
                        (try simp only [hl172000_112] at HO_161002)
                        (try simp only [hl172000_112] at HO_172001)
                        (try simp only [hl172000_112] at HO_172002)
                        (try simp only [hl172000_112] at HO_213000)
                        (try simp only [hl172000_112] at HO_213001)
                        (try simp only [hl172000_112] at HO_213002)
                        have hl172001_112 := (Kd.R_reads' HO_172001.out).1
                        rw [hl172001_112] at HO_172001
                        (try simp only [hl172001_112])
                        (try simp only [hl172001_112] at BK129)
                        (try simp only [hl172001_112] at BK150)
                        (try simp only [hl172001_112] at BK160)
                        (try simp only [hl172001_112] at BK171)
                        (try simp only [hl172001_112] at BK212)
                        (try simp only [hl172001_112] at HO_151000)
                        (try simp only [hl172001_112] at HO_151001)
                        (try simp only [hl172001_112] at HO_151002)
                        (try simp only [hl172001_112] at HO_161000)
                        (try simp only [hl172001_112] at HO_161001)
                        (try simp only [hl172001_112] at HO_161002)
                        (try simp only [hl172001_112] at HO_172000)
                        (try simp only [hl172001_112] at HO_172002)
                        (try simp only [hl172001_112] at HO_213000)
                        (try simp only [hl172001_112] at HO_213001)
                        (try simp only [hl172001_112] at HO_213002)
                        have hl172002_112 := (Kd.R_reads' HO_172002.out).1
                        rw [hl172002_112] at HO_172002
                        (try simp only [hl172002_112])
                        (try simp only [hl172002_112] at BK129)
                        (try simp only [hl172002_112] at BK150)
                        (try simp only [hl172002_112] at BK160)
                        (try simp only [hl172002_112] at BK171)
                        (try simp only [hl172002_112] at BK212)
                        (try simp only [hl172002_112] at HO_151000)
                        (try simp only [hl172002_112] at HO_151001)
                        (try simp only [hl172002_112] at HO_151002)
                        (try simp only [hl172002_112] at HO_161000)
                        (try simp only [hl172002_112] at HO_161001)
                        (try simp only [hl172002_112] at HO_161002)
                        (try simp only [hl172002_112] at HO_172000)
                        (try simp only [hl172002_112] at HO_172001)
                        (try simp only [hl172002_112] at HO_213000)
                        (try simp only [hl172002_112] at HO_213001)
                        (try simp only [hl172002_112] at HO_213002)
                        cases kq with
                        | zero => exact absurd HA.out (by simp [laws_FnExactReverseGauss.j2])
                        | succ kj112 =>
                          have H := HA.out
                          clear HA
                          simp only [laws_FnExactReverseGauss.j2] at H
                          by_cases c160 : x87_112 = true
                          · subst c160
                            have H1 : (some false) = some r := by rw [if_pos rfl] at H; exact H
                            clear H
                            have H := H1
                            clear H1
                            obtain rfl := Option.some.inj H
                            go_wp2
                            go_ret
                            exact ⟨by first | rfl | (simp [errW_none, errW_some] <;> rfl) | (simp [*, errW_none, errW_some] <;> rfl), by repeat (first | (with_reducible first | exact HB.out | apply below_alloc | apply pw_below_drewN | apply below_drew1 | refine below_set ?_ GE129.out | refine below_set ?_ GE150.out | refine below_set ?_ GE160.out | refine below_set ?_ GE171.out | refine below_set ?_ GE212.out) | exact HB.out)⟩
                          · replace c160 := Bool.eq_false_iff.mpr c160
                            subst c160
                            have H1 : ((laws_heldGauss.f kj112 t189 t190 t191 1).bind fun t214 => (if t214 < 0 then (some false) else (if t214 = t188 then (some true) else (some false)))) = some r := by rw [if_neg (show ¬ (false = true) by decide)] at H; exact H
                            clear H
                            have H := H1
                            clear H1
                            replace H := Option.bind_eq_some_iff.mp H
                            obtain ⟨t214, A1610, H⟩ := H
                            replace H : (if t214 < 0 then (some false) else (if t214 = t188 then (some true) else (some false))) = some r := H
                            have A161 := Aside0.mk A1610
                            clear A1610
                            by_cases c162 : t214 < 0
                            · rw [if_pos c162] at H
                              have c162b0 : decide (t214 < 0) = true := decide_eq_true c162
                              clear c162
                              obtain rfl := Option.some.inj H
                              have hnb163 := NB171_129.out
                              have hnc163 := NB129_171.out
                              have hnb164 := NB171_150.out
                              have hnc164 := NB150_171.out
                              have hnb165 := NB171_160.out
                              have hnc165 := NB160_171.out
                              have hnb166 := NB171_212.out
                              have hnc166 := NB212_171.out
                              have hcz167_0 : wc.cell? ⟨gb171, 0, none⟩ = some (.slice Ao38 t189.length co38) := (blk_cell BK171.out 0).trans rfl
                              have hcz167_1 : wc.cell? ⟨gb171, 1, none⟩ = some (.slice Ao43 t190.length co43) := (blk_cell BK171.out 1).trans rfl
                              have hcz167_2 : wc.cell? ⟨gb171, 2, none⟩ = some (.slice Ao44 t191.length co44) := (blk_cell BK171.out 2).trans rfl
                              have hfz167_0 := blk_frozen BK171.out 0
                              have hfz167_1 := blk_frozen BK171.out 1
                              have hfz167_2 := blk_frozen BK171.out 2
                              go_wp2_with (first | ((with_reducible refine gate_callee (f := 38) rfl ?_); refine goesL_ (some 90) rfl rfl Try.func38 (by kernel_rfl) rfl #[.agg #[.slice Ao38 t189.length co38, .slice Ao43 t190.length co43, .slice Ao44 t191.length co44], .int .i64 1] rfl (by (try simp only [List.map_toArray, List.map_cons, List.map_nil]); rfl) ?_; (with_reducible refine (laws_heldGauss.calls kj112 _ _ t189 _ _ t190 _ _ t191 1 t214 _ ?side1 ?side2 ?side3 ?side4 ?side5 ?side6 A161.out).mono ?_); (case side1 => exact (Kd.R_reads' HO_172000.out).2.2); (case side2 => exact (Kd.R_reads' HO_172000.out).2.1); (case side3 => exact (Kd.R_reads' HO_172001.out).2.2); (case side4 => exact (Kd.R_reads' HO_172001.out).2.1); (case side5 => exact (Kd.R_reads' HO_172002.out).2.2); (case side6 => exact (Kd.R_reads' HO_172002.out).2.1); rintro e w168 ⟨rfl, hb⟩; refine ⟨_, rfl, ?_⟩; have n0_ := mk0 (Kd.R_below HO_151000.out hb); have n1_ := mk0 (Kd.R_below HO_151001.out hb); have n2_ := mk0 (Kd.R_below HO_151002.out hb); have n3_ := mk0 (Kd.R_below HO_161000.out hb); have n4_ := mk0 (Kd.R_below HO_161001.out hb); have n5_ := mk0 (Kd.R_below HO_161002.out hb); have n6_ := mk0 (Kd.R_below HO_172000.out hb); have n7_ := mk0 (Kd.R_below HO_172001.out hb); have n8_ := mk0 (Kd.R_below HO_172002.out hb); have n9_ := mk0 (Kd.R_below HO_213000.out hb); have n10_ := mk0 (Kd.R_below HO_213001.out hb); have n11_ := mk0 (Kd.R_below HO_213002.out hb); have n12_ := mk0 (blk_below BK129.out hb); have n13_ := mk0 (blk_below BK150.out hb); have n14_ := mk0 (blk_below BK160.out hb); have n15_ := mk0 (blk_below BK171.out hb); have n16_ := mk0 (blk_below BK212.out hb); have n17_ := mk0 (below_step (by repeat (first | (with_reducible first | exact HB.out | apply below_alloc | apply pw_below_drewN | apply below_drew1 | refine below_set ?_ GE129.out | refine below_set ?_ GE150.out | refine below_set ?_ GE160.out | refine below_set ?_ GE171.out | refine below_set ?_ GE212.out) | exact HB.out)) hb); clear HO_151000; clear HO_151001; clear HO_151002; clear HO_161000; clear HO_161001; clear HO_161002; clear HO_172000; clear HO_172001; clear HO_172002; clear HO_213000; clear HO_213001; clear HO_213002; clear BK129; clear BK150; clear BK160; clear BK171; clear BK212; clear HB; have HO_151000 := n0_; have HO_151001 := n1_; have HO_151002 := n2_; have HO_161000 := n3_; have HO_161001 := n4_; have HO_161002 := n5_; have HO_172000 := n6_; have HO_172001 := n7_; have HO_172002 := n8_; have HO_213000 := n9_; have HO_213001 := n10_; have HO_213002 := n11_; have BK129 := n12_; have BK150 := n13_; have BK160 := n14_; have BK171 := n15_; have BK212 := n16_; have HB := n17_; clear n0_ n1_ n2_ n3_ n4_ n5_ n6_ n7_ n8_ n9_ n10_ n11_ n12_ n13_ n14_ n15_ n16_ n17_; (try clear hb); (try clear hb2); (try clear hk); (try clear hi)))
                              go_ret
                              exact ⟨by first | rfl | (simp [errW_none, errW_some] <;> rfl) | (simp [*, errW_none, errW_some] <;> rfl), by repeat (first | (with_reducible first | exact HB.out | apply below_alloc | apply pw_below_drewN | apply below_drew1 | refine below_set ?_ GE129.out | refine below_set ?_ GE150.out | refine below_set ?_ GE160.out | refine below_set ?_ GE171.out | refine below_set ?_ GE212.out) | exact HB.out)⟩
                            · rw [if_neg c162] at H
                              have c162b0 : decide (t214 < 0) = false := decide_eq_false c162
                              clear c162
                              by_cases c169 : t214 = t188
                              · rw [if_pos c169] at H
                                have c169b0 : (t214 == t188) = true := beq_iff_eq.mpr c169
                                have c169b1 : (t214 != t188) = false := bne_eq_false_iff_eq.mpr c169
                                clear c169
                                obtain rfl := Option.some.inj H
                                have hnb170 := NB171_129.out
                                have hnc170 := NB129_171.out
                                have hnb171 := NB171_150.out
                                have hnc171 := NB150_171.out
                                have hnb172 := NB171_160.out
                                have hnc172 := NB160_171.out
                                have hnb173 := NB171_212.out
                                have hnc173 := NB212_171.out
                                have hcz174_0 : wc.cell? ⟨gb171, 0, none⟩ = some (.slice Ao38 t189.length co38) := (blk_cell BK171.out 0).trans rfl
                                have hcz174_1 : wc.cell? ⟨gb171, 1, none⟩ = some (.slice Ao43 t190.length co43) := (blk_cell BK171.out 1).trans rfl
                                have hcz174_2 : wc.cell? ⟨gb171, 2, none⟩ = some (.slice Ao44 t191.length co44) := (blk_cell BK171.out 2).trans rfl
                                have hfz174_0 := blk_frozen BK171.out 0
                                have hfz174_1 := blk_frozen BK171.out 1
                                have hfz174_2 := blk_frozen BK171.out 2
                                go_wp2_with (first | ((with_reducible refine gate_callee (f := 38) rfl ?_); refine goesL_ (some 90) rfl rfl Try.func38 (by kernel_rfl) rfl #[.agg #[.slice Ao38 t189.length co38, .slice Ao43 t190.length co43, .slice Ao44 t191.length co44], .int .i64 1] rfl (by (try simp only [List.map_toArray, List.map_cons, List.map_nil]); rfl) ?_; (with_reducible refine (laws_heldGauss.calls kj112 _ _ t189 _ _ t190 _ _ t191 1 t214 _ ?side1 ?side2 ?side3 ?side4 ?side5 ?side6 A161.out).mono ?_); (case side1 => exact (Kd.R_reads' HO_172000.out).2.2); (case side2 => exact (Kd.R_reads' HO_172000.out).2.1); (case side3 => exact (Kd.R_reads' HO_172001.out).2.2); (case side4 => exact (Kd.R_reads' HO_172001.out).2.1); (case side5 => exact (Kd.R_reads' HO_172002.out).2.2); (case side6 => exact (Kd.R_reads' HO_172002.out).2.1); rintro e w175 ⟨rfl, hb⟩; refine ⟨_, rfl, ?_⟩; have n0_ := mk0 (Kd.R_below HO_151000.out hb); have n1_ := mk0 (Kd.R_below HO_151001.out hb); have n2_ := mk0 (Kd.R_below HO_151002.out hb); have n3_ := mk0 (Kd.R_below HO_161000.out hb); have n4_ := mk0 (Kd.R_below HO_161001.out hb); have n5_ := mk0 (Kd.R_below HO_161002.out hb); have n6_ := mk0 (Kd.R_below HO_172000.out hb); have n7_ := mk0 (Kd.R_below HO_172001.out hb); have n8_ := mk0 (Kd.R_below HO_172002.out hb); have n9_ := mk0 (Kd.R_below HO_213000.out hb); have n10_ := mk0 (Kd.R_below HO_213001.out hb); have n11_ := mk0 (Kd.R_below HO_213002.out hb); have n12_ := mk0 (blk_below BK129.out hb); have n13_ := mk0 (blk_below BK150.out hb); have n14_ := mk0 (blk_below BK160.out hb); have n15_ := mk0 (blk_below BK171.out hb); have n16_ := mk0 (blk_below BK212.out hb); have n17_ := mk0 (below_step (by repeat (first | (with_reducible first | exact HB.out | apply below_alloc | apply pw_below_drewN | apply below_drew1 | refine below_set ?_ GE129.out | refine below_set ?_ GE150.out | refine below_set ?_ GE160.out | refine below_set ?_ GE171.out | refine below_set ?_ GE212.out) | exact HB.out)) hb); clear HO_151000; clear HO_151001; clear HO_151002; clear HO_161000; clear HO_161001; clear HO_161002; clear HO_172000; clear HO_172001; clear HO_172002; clear HO_213000; clear HO_213001; clear HO_213002; clear BK129; clear BK150; clear BK160; clear BK171; clear BK212; clear HB; have HO_151000 := n0_; have HO_151001 := n1_; have HO_151002 := n2_; have HO_161000 := n3_; have HO_161001 := n4_; have HO_161002 := n5_; have HO_172000 := n6_; have HO_172001 := n7_; have HO_172002 := n8_; have HO_213000 := n9_; have HO_213001 := n10_; have HO_213002 := n11_; have BK129 := n12_; have BK150 := n13_; have BK160 := n14_; have BK171 := n15_; have BK212 := n16_; have HB := n17_; clear n0_ n1_ n2_ n3_ n4_ n5_ n6_ n7_ n8_ n9_ n10_ n11_ n12_ n13_ n14_ n15_ n16_ n17_; (try clear hb); (try clear hb2); (try clear hk); (try clear hi)))
                                go_ret
                                exact ⟨by first | rfl | (simp [errW_none, errW_some] <;> rfl) | (simp [*, errW_none, errW_some] <;> rfl), by repeat (first | (with_reducible first | exact HB.out | apply below_alloc | apply pw_below_drewN | apply below_drew1 | refine below_set ?_ GE129.out | refine below_set ?_ GE150.out | refine below_set ?_ GE160.out | refine below_set ?_ GE171.out | refine below_set ?_ GE212.out) | exact HB.out)⟩
                              · rw [if_neg c169] at H
                                have c169b0 : (t214 == t188) = false := beq_eq_false_iff_ne.mpr c169
                                have c169b1 : (t214 != t188) = true := bne_iff_ne.mpr c169
                                obtain rfl := Option.some.inj H
                                have hnb176 := NB171_129.out
                                have hnc176 := NB129_171.out
                                have hnb177 := NB171_150.out
                                have hnc177 := NB150_171.out
                                have hnb178 := NB171_160.out
                                have hnc178 := NB160_171.out
                                have hnb179 := NB171_212.out
                                have hnc179 := NB212_171.out
                                have hcz180_0 : wc.cell? ⟨gb171, 0, none⟩ = some (.slice Ao38 t189.length co38) := (blk_cell BK171.out 0).trans rfl
                                have hcz180_1 : wc.cell? ⟨gb171, 1, none⟩ = some (.slice Ao43 t190.length co43) := (blk_cell BK171.out 1).trans rfl
                                have hcz180_2 : wc.cell? ⟨gb171, 2, none⟩ = some (.slice Ao44 t191.length co44) := (blk_cell BK171.out 2).trans rfl
                                have hfz180_0 := blk_frozen BK171.out 0
                                have hfz180_1 := blk_frozen BK171.out 1
                                have hfz180_2 := blk_frozen BK171.out 2
                                go_wp2_with (first | ((with_reducible refine gate_callee (f := 38) rfl ?_); refine goesL_ (some 90) rfl rfl Try.func38 (by kernel_rfl) rfl #[.agg #[.slice Ao38 t189.length co38, .slice Ao43 t190.length co43, .slice Ao44 t191.length co44], .int .i64 1] rfl (by (try simp only [List.map_toArray, List.map_cons, List.map_nil]); rfl) ?_; (with_reducible refine (laws_heldGauss.calls kj112 _ _ t189 _ _ t190 _ _ t191 1 t214 _ ?side1 ?side2 ?side3 ?side4 ?side5 ?side6 A161.out).mono ?_); (case side1 => exact (Kd.R_reads' HO_172000.out).2.2); (case side2 => exact (Kd.R_reads' HO_172000.out).2.1); (case side3 => exact (Kd.R_reads' HO_172001.out).2.2); (case side4 => exact (Kd.R_reads' HO_172001.out).2.1); (case side5 => exact (Kd.R_reads' HO_172002.out).2.2); (case side6 => exact (Kd.R_reads' HO_172002.out).2.1); rintro e w181 ⟨rfl, hb⟩; refine ⟨_, rfl, ?_⟩; have n0_ := mk0 (Kd.R_below HO_151000.out hb); have n1_ := mk0 (Kd.R_below HO_151001.out hb); have n2_ := mk0 (Kd.R_below HO_151002.out hb); have n3_ := mk0 (Kd.R_below HO_161000.out hb); have n4_ := mk0 (Kd.R_below HO_161001.out hb); have n5_ := mk0 (Kd.R_below HO_161002.out hb); have n6_ := mk0 (Kd.R_below HO_172000.out hb); have n7_ := mk0 (Kd.R_below HO_172001.out hb); have n8_ := mk0 (Kd.R_below HO_172002.out hb); have n9_ := mk0 (Kd.R_below HO_213000.out hb); have n10_ := mk0 (Kd.R_below HO_213001.out hb); have n11_ := mk0 (Kd.R_below HO_213002.out hb); have n12_ := mk0 (blk_below BK129.out hb); have n13_ := mk0 (blk_below BK150.out hb); have n14_ := mk0 (blk_below BK160.out hb); have n15_ := mk0 (blk_below BK171.out hb); have n16_ := mk0 (blk_below BK212.out hb); have n17_ := mk0 (below_step (by repeat (first | (with_reducible first | exact HB.out | apply below_alloc | apply pw_below_drewN | apply below_drew1 | refine below_set ?_ GE129.out | refine below_set ?_ GE150.out | refine below_set ?_ GE160.out | refine below_set ?_ GE171.out | refine below_set ?_ GE212.out) | exact HB.out)) hb); clear HO_151000; clear HO_151001; clear HO_151002; clear HO_161000; clear HO_161001; clear HO_161002; clear HO_172000; clear HO_172001; clear HO_172002; clear HO_213000; clear HO_213001; clear HO_213002; clear BK129; clear BK150; clear BK160; clear BK171; clear BK212; clear HB; have HO_151000 := n0_; have HO_151001 := n1_; have HO_151002 := n2_; have HO_161000 := n3_; have HO_161001 := n4_; have HO_161002 := n5_; have HO_172000 := n6_; have HO_172001 := n7_; have HO_172002 := n8_; have HO_213000 := n9_; have HO_213001 := n10_; have HO_213002 := n11_; have BK129 := n12_; have BK150 := n13_; have BK160 := n14_; have BK171 := n15_; have BK212 := n16_; have HB := n17_; clear n0_ n1_ n2_ n3_ n4_ n5_ n6_ n7_ n8_ n9_ n10_ n11_ n12_ n13_ n14_ n15_ n16_ n17_; (try clear hb); (try clear hb2); (try clear hk); (try clear hi)))
                                go_ret
                                exact ⟨by first | rfl | (simp [errW_none, errW_some] <;> rfl) | (simp [*, errW_none, errW_some] <;> rfl), by repeat (first | (with_reducible first | exact HB.out | apply below_alloc | apply pw_below_drewN | apply below_drew1 | refine below_set ?_ GE129.out | refine below_set ?_ GE150.out | refine below_set ?_ GE160.out | refine below_set ?_ GE171.out | refine below_set ?_ GE212.out) | exact HB.out)⟩
                    · rw [if_neg c110] at H
                      have c110b0 : (t192 == t188) = false := beq_eq_false_iff_ne.mpr c110
                      have c110b1 : (t192 != t188) = true := bne_iff_ne.mpr c110
                      obtain rfl := Option.some.inj H
                      have hnb182 := NB171_129.out
                      have hnc182 := NB129_171.out
                      have hnb183 := NB171_150.out
                      have hnc183 := NB150_171.out
                      have hnb184 := NB171_160.out
                      have hnc184 := NB160_171.out
                      have hcz185_0 : wc.cell? ⟨gb171, 0, none⟩ = some (.slice Ao38 t161.length co38) := (blk_cell BK171.out 0).trans rfl
                      have hcz185_1 : wc.cell? ⟨gb171, 1, none⟩ = some (.slice Ao43 t164.length co43) := (blk_cell BK171.out 1).trans rfl
                      have hcz185_2 : wc.cell? ⟨gb171, 2, none⟩ = some (.slice Ao44 t167.length co44) := (blk_cell BK171.out 2).trans rfl
                      have hfz185_0 := blk_frozen BK171.out 0
                      have hfz185_1 := blk_frozen BK171.out 1
                      have hfz185_2 := blk_frozen BK171.out 2
                      go_wp2_with (first | ((with_reducible refine gate_callee (f := 37) rfl ?_); refine goesL_ (some 64) rfl rfl Try.func37 (by kernel_rfl) rfl #[.agg #[.slice Ao38 t161.length co38, .slice Ao43 t164.length co43, .slice Ao44 t167.length co44], .int .i64 1] rfl (by (try simp only [List.map_toArray, List.map_cons, List.map_nil]); rfl) ?_; (with_reducible refine (laws_markGauss.calls kj67 (fun k_ => some k_ = (.slice Ao38 t161.length co38 : Value).ownBlock) (.slice Ao38 t161.length co38) t161 (fun k_ => some k_ = (.slice Ao43 t164.length co43 : Value).ownBlock) (.slice Ao43 t164.length co43) t164 (fun k_ => some k_ = (.slice Ao44 t167.length co44 : Value).ownBlock) (.slice Ao44 t167.length co44) t167 1 t188 t189 t190 t191 w _ ?side1 ?side2 ?side3 ?side4 ?side5 ?side6 ?side7 ?side8 ?side9 ?side10 A100.out).mono ?_); (case side1 => repeat (first | (with_reducible first | exact HB.out | apply below_alloc | apply pw_below_drewN | apply below_drew1 | refine below_set ?_ GE129.out | refine below_set ?_ GE150.out | refine below_set ?_ GE160.out | refine below_set ?_ GE171.out) | exact HB.out)); (case side2 => exact Kd.R_tight rfl HO_172000.out); (case side3 => exact fun k_ e_ => (HO_172000.out.1 k_ e_.symm).2.2.2.2.2.2.1); (case side4 => exact fun k_ e_ => (HO_172000.out.1 k_ e_.symm).2.2.2.2.2.2.2); (case side5 => exact Kd.R_tight rfl HO_172001.out); (case side6 => exact fun k_ e_ => (HO_172001.out.1 k_ e_.symm).2.2.2.2.2.2.1); (case side7 => exact fun k_ e_ => (HO_172001.out.1 k_ e_.symm).2.2.2.2.2.2.2); (case side8 => exact Kd.R_tight rfl HO_172002.out); (case side9 => exact fun k_ e_ => (HO_172002.out.1 k_ e_.symm).2.2.2.2.2.2.1); (case side10 => exact fun k_ e_ => (HO_172002.out.1 k_ e_.symm).2.2.2.2.2.2.2); rintro e w186 ⟨rfl, hy0, hy1, hy2, hb, hkp⟩; refine ⟨_, rfl, ?_⟩; have n0_ := mk0 (Kd.R_mono (ok' := fun k_ => nb k_ Ao25 t143 co25 ∧ nb k_ Ao26 t146 co26 ∧ nb k_ Ao30 t184 co30 ∧ nb k_ Ao34 t185 co34 ∧ nb k_ Ao35 t186 co35 ∧ nb k_ Ao38 t161 co38 ∧ nb k_ Ao43 t164 co43 ∧ nb k_ Ao44 t167 co44) (Kd.R_keptB (HO_151000.out) hkp (fun k_ hk_ hs_ => Or.elim hs_ (fun e_ => (hk_.2.2.2.2.2.1) e_) (fun e_ => Or.elim e_ (fun e_ => (hk_.2.2.2.2.2.2.1) e_) (fun e_ => (hk_.2.2.2.2.2.2.2) e_)))) (fun k_ hk_ => ⟨hk_.1.1, hk_.1.2.1, hk_.1.2.2.1, hk_.1.2.2.2.1, hk_.1.2.2.2.2.1, hk_.1.2.2.2.2.2.1, hk_.1.2.2.2.2.2.2.1, hk_.1.2.2.2.2.2.2.2⟩)); have n1_ := mk0 (Kd.R_mono (ok' := fun k_ => nb k_ Ao22 t140 co22 ∧ nb k_ Ao26 t146 co26 ∧ nb k_ Ao30 t184 co30 ∧ nb k_ Ao34 t185 co34 ∧ nb k_ Ao35 t186 co35 ∧ nb k_ Ao38 t161 co38 ∧ nb k_ Ao43 t164 co43 ∧ nb k_ Ao44 t167 co44) (Kd.R_keptB (HO_151001.out) hkp (fun k_ hk_ hs_ => Or.elim hs_ (fun e_ => (hk_.2.2.2.2.2.1) e_) (fun e_ => Or.elim e_ (fun e_ => (hk_.2.2.2.2.2.2.1) e_) (fun e_ => (hk_.2.2.2.2.2.2.2) e_)))) (fun k_ hk_ => ⟨hk_.1.1, hk_.1.2.1, hk_.1.2.2.1, hk_.1.2.2.2.1, hk_.1.2.2.2.2.1, hk_.1.2.2.2.2.2.1, hk_.1.2.2.2.2.2.2.1, hk_.1.2.2.2.2.2.2.2⟩)); have n2_ := mk0 (Kd.R_mono (ok' := fun k_ => nb k_ Ao22 t140 co22 ∧ nb k_ Ao25 t143 co25 ∧ nb k_ Ao30 t184 co30 ∧ nb k_ Ao34 t185 co34 ∧ nb k_ Ao35 t186 co35 ∧ nb k_ Ao38 t161 co38 ∧ nb k_ Ao43 t164 co43 ∧ nb k_ Ao44 t167 co44) (Kd.R_keptB (HO_151002.out) hkp (fun k_ hk_ hs_ => Or.elim hs_ (fun e_ => (hk_.2.2.2.2.2.1) e_) (fun e_ => Or.elim e_ (fun e_ => (hk_.2.2.2.2.2.2.1) e_) (fun e_ => (hk_.2.2.2.2.2.2.2) e_)))) (fun k_ hk_ => ⟨hk_.1.1, hk_.1.2.1, hk_.1.2.2.1, hk_.1.2.2.2.1, hk_.1.2.2.2.2.1, hk_.1.2.2.2.2.2.1, hk_.1.2.2.2.2.2.2.1, hk_.1.2.2.2.2.2.2.2⟩)); have n3_ := mk0 (Kd.R_mono (ok' := fun k_ => nb k_ Ao22 t140 co22 ∧ nb k_ Ao25 t143 co25 ∧ nb k_ Ao26 t146 co26 ∧ nb k_ Ao34 t185 co34 ∧ nb k_ Ao35 t186 co35 ∧ nb k_ Ao38 t161 co38 ∧ nb k_ Ao43 t164 co43 ∧ nb k_ Ao44 t167 co44) (Kd.R_keptB (HO_161000.out) hkp (fun k_ hk_ hs_ => Or.elim hs_ (fun e_ => (hk_.2.2.2.2.2.1) e_) (fun e_ => Or.elim e_ (fun e_ => (hk_.2.2.2.2.2.2.1) e_) (fun e_ => (hk_.2.2.2.2.2.2.2) e_)))) (fun k_ hk_ => ⟨hk_.1.1, hk_.1.2.1, hk_.1.2.2.1, hk_.1.2.2.2.1, hk_.1.2.2.2.2.1, hk_.1.2.2.2.2.2.1, hk_.1.2.2.2.2.2.2.1, hk_.1.2.2.2.2.2.2.2⟩)); have n4_ := mk0 (Kd.R_mono (ok' := fun k_ => nb k_ Ao22 t140 co22 ∧ nb k_ Ao25 t143 co25 ∧ nb k_ Ao26 t146 co26 ∧ nb k_ Ao30 t184 co30 ∧ nb k_ Ao35 t186 co35 ∧ nb k_ Ao38 t161 co38 ∧ nb k_ Ao43 t164 co43 ∧ nb k_ Ao44 t167 co44) (Kd.R_keptB (HO_161001.out) hkp (fun k_ hk_ hs_ => Or.elim hs_ (fun e_ => (hk_.2.2.2.2.2.1) e_) (fun e_ => Or.elim e_ (fun e_ => (hk_.2.2.2.2.2.2.1) e_) (fun e_ => (hk_.2.2.2.2.2.2.2) e_)))) (fun k_ hk_ => ⟨hk_.1.1, hk_.1.2.1, hk_.1.2.2.1, hk_.1.2.2.2.1, hk_.1.2.2.2.2.1, hk_.1.2.2.2.2.2.1, hk_.1.2.2.2.2.2.2.1, hk_.1.2.2.2.2.2.2.2⟩)); have n5_ := mk0 (Kd.R_mono (ok' := fun k_ => nb k_ Ao22 t140 co22 ∧ nb k_ Ao25 t143 co25 ∧ nb k_ Ao26 t146 co26 ∧ nb k_ Ao30 t184 co30 ∧ nb k_ Ao34 t185 co34 ∧ nb k_ Ao38 t161 co38 ∧ nb k_ Ao43 t164 co43 ∧ nb k_ Ao44 t167 co44) (Kd.R_keptB (HO_161002.out) hkp (fun k_ hk_ hs_ => Or.elim hs_ (fun e_ => (hk_.2.2.2.2.2.1) e_) (fun e_ => Or.elim e_ (fun e_ => (hk_.2.2.2.2.2.2.1) e_) (fun e_ => (hk_.2.2.2.2.2.2.2) e_)))) (fun k_ hk_ => ⟨hk_.1.1, hk_.1.2.1, hk_.1.2.2.1, hk_.1.2.2.2.1, hk_.1.2.2.2.2.1, hk_.1.2.2.2.2.2.1, hk_.1.2.2.2.2.2.2.1, hk_.1.2.2.2.2.2.2.2⟩)); have n6_ := mk0 (Kd.R_reok rfl hy0 (fun k_ e_ => HO_172000.out.1 k_ e_)); have n7_ := mk0 (Kd.R_reok rfl hy1 (fun k_ e_ => HO_172001.out.1 k_ e_)); have n8_ := mk0 (Kd.R_reok rfl hy2 (fun k_ e_ => HO_172002.out.1 k_ e_)); have n9_ := mk0 (blk_kept (by exact BK129.out) hkp (fun hs_ => Or.elim hs_ (fun e_ => (fun e_ => (Kd.R_ne HO_172000.out BK129.out (by decide)) e_) e_) (fun e_ => Or.elim e_ (fun e_ => (fun e_ => (Kd.R_ne HO_172001.out BK129.out (by decide)) e_) e_) (fun e_ => (fun e_ => (Kd.R_ne HO_172002.out BK129.out (by decide)) e_) e_)))); have n10_ := mk0 (blk_kept (by exact BK150.out) hkp (fun hs_ => Or.elim hs_ (fun e_ => (fun e_ => (Kd.R_ne HO_172000.out BK150.out (by decide)) e_) e_) (fun e_ => Or.elim e_ (fun e_ => (fun e_ => (Kd.R_ne HO_172001.out BK150.out (by decide)) e_) e_) (fun e_ => (fun e_ => (Kd.R_ne HO_172002.out BK150.out (by decide)) e_) e_)))); have n11_ := mk0 (blk_kept (by exact BK160.out) hkp (fun hs_ => Or.elim hs_ (fun e_ => (fun e_ => (Kd.R_ne HO_172000.out BK160.out (by decide)) e_) e_) (fun e_ => Or.elim e_ (fun e_ => (fun e_ => (Kd.R_ne HO_172001.out BK160.out (by decide)) e_) e_) (fun e_ => (fun e_ => (Kd.R_ne HO_172002.out BK160.out (by decide)) e_) e_)))); have n12_ := mk0 (blk_kept (by exact BK171.out) hkp (fun hs_ => Or.elim hs_ (fun e_ => (fun e_ => (Kd.R_ne HO_172000.out BK171.out (by decide)) e_) e_) (fun e_ => Or.elim e_ (fun e_ => (fun e_ => (Kd.R_ne HO_172001.out BK171.out (by decide)) e_) e_) (fun e_ => (fun e_ => (Kd.R_ne HO_172002.out BK171.out (by decide)) e_) e_)))); have n13_ := mk0 (hb); clear HO_151000; clear HO_151001; clear HO_151002; clear HO_161000; clear HO_161001; clear HO_161002; clear HO_172000; clear HO_172001; clear HO_172002; clear BK129; clear BK150; clear BK160; clear BK171; clear HB; have HO_151000 := n0_; have HO_151001 := n1_; have HO_151002 := n2_; have HO_161000 := n3_; have HO_161001 := n4_; have HO_161002 := n5_; have HO_172000 := n6_; have HO_172001 := n7_; have HO_172002 := n8_; have BK129 := n9_; have BK150 := n10_; have BK160 := n11_; have BK171 := n12_; have HB := n13_; clear n0_ n1_ n2_ n3_ n4_ n5_ n6_ n7_ n8_ n9_ n10_ n11_ n12_ n13_; (try clear hb); (try clear hkp); (try clear hy0); (try clear hy1); (try clear hy2); have hcz187_0 : w186.cell? ⟨gb171, 0, none⟩ = some (.slice Ao38 t161.length co38) := (blk_cell BK171.out 0).trans rfl; have hcz187_1 : w186.cell? ⟨gb171, 1, none⟩ = some (.slice Ao43 t164.length co43) := (blk_cell BK171.out 1).trans rfl; have hcz187_2 : w186.cell? ⟨gb171, 2, none⟩ = some (.slice Ao44 t167.length co44) := (blk_cell BK171.out 2).trans rfl; have hfz187_0 := blk_frozen BK171.out 0; have hfz187_1 := blk_frozen BK171.out 1; have hfz187_2 := blk_frozen BK171.out 2) | ((with_reducible refine gate_callee (f := 38) rfl ?_); refine goesL_ (some 67) rfl rfl Try.func38 (by kernel_rfl) rfl #[.agg #[.slice Ao38 t189.length co38, .slice Ao43 t190.length co43, .slice Ao44 t191.length co44], .int .i64 1] rfl (by (try simp only [List.map_toArray, List.map_cons, List.map_nil]); first | done | (rw [show t189.length = t161.length from (Kd.R_reads' HO_172000.out).1.symm, show t190.length = t164.length from (Kd.R_reads' HO_172001.out).1.symm, show t191.length = t167.length from (Kd.R_reads' HO_172002.out).1.symm] <;> rfl) | rfl | (simp only [List.length_drop, List.length_take]; rfl)) ?_; (with_reducible refine (laws_heldGauss.calls kj67 _ _ t189 _ _ t190 _ _ t191 1 t192 _ ?side1 ?side2 ?side3 ?side4 ?side5 ?side6 A101.out).mono ?_); (case side1 => exact (Kd.R_reads' HO_172000.out).2.2); (case side2 => rw [show t189.length = t161.length from (Kd.R_reads' HO_172000.out).1.symm]; exact (Kd.R_reads' HO_172000.out).2.1); (case side3 => exact (Kd.R_reads' HO_172001.out).2.2); (case side4 => rw [show t190.length = t164.length from (Kd.R_reads' HO_172001.out).1.symm]; exact (Kd.R_reads' HO_172001.out).2.1); (case side5 => exact (Kd.R_reads' HO_172002.out).2.2); (case side6 => rw [show t191.length = t167.length from (Kd.R_reads' HO_172002.out).1.symm]; exact (Kd.R_reads' HO_172002.out).2.1); rintro e w188 ⟨rfl, hb⟩; refine ⟨_, rfl, ?_⟩; have n0_ := mk0 (Kd.R_below HO_151000.out hb); have n1_ := mk0 (Kd.R_below HO_151001.out hb); have n2_ := mk0 (Kd.R_below HO_151002.out hb); have n3_ := mk0 (Kd.R_below HO_161000.out hb); have n4_ := mk0 (Kd.R_below HO_161001.out hb); have n5_ := mk0 (Kd.R_below HO_161002.out hb); have n6_ := mk0 (Kd.R_below HO_172000.out hb); have n7_ := mk0 (Kd.R_below HO_172001.out hb); have n8_ := mk0 (Kd.R_below HO_172002.out hb); have n9_ := mk0 (blk_below BK129.out hb); have n10_ := mk0 (blk_below BK150.out hb); have n11_ := mk0 (blk_below BK160.out hb); have n12_ := mk0 (blk_below BK171.out hb); have n13_ := mk0 (below_step (by repeat (first | (with_reducible first | exact HB.out | apply below_alloc | apply pw_below_drewN | apply below_drew1 | refine below_set ?_ GE129.out | refine below_set ?_ GE150.out | refine below_set ?_ GE160.out | refine below_set ?_ GE171.out) | exact HB.out)) hb); clear HO_151000; clear HO_151001; clear HO_151002; clear HO_161000; clear HO_161001; clear HO_161002; clear HO_172000; clear HO_172001; clear HO_172002; clear BK129; clear BK150; clear BK160; clear BK171; clear HB; have HO_151000 := n0_; have HO_151001 := n1_; have HO_151002 := n2_; have HO_161000 := n3_; have HO_161001 := n4_; have HO_161002 := n5_; have HO_172000 := n6_; have HO_172001 := n7_; have HO_172002 := n8_; have BK129 := n9_; have BK150 := n10_; have BK160 := n11_; have BK171 := n12_; have HB := n13_; clear n0_ n1_ n2_ n3_ n4_ n5_ n6_ n7_ n8_ n9_ n10_ n11_ n12_ n13_; (try clear hb); (try clear hb2); (try clear hk); (try clear hi)))
                      go_ret
                      exact ⟨by first | rfl | (simp [errW_none, errW_some] <;> rfl) | (simp [*, errW_none, errW_some] <;> rfl), by repeat (first | (with_reducible first | exact HB.out | apply below_alloc | apply pw_below_drewN | apply below_drew1 | refine below_set ?_ GE129.out | refine below_set ?_ GE150.out | refine below_set ?_ GE160.out | refine below_set ?_ GE171.out) | exact HB.out)⟩
          · replace c66 := Bool.eq_false_iff.mpr c66
            subst c66
            have H1 : (some false) = some r := by rw [if_neg (show ¬ (false = true) by decide)] at H; exact H
            clear H
            have H := H1
            clear H1
            obtain rfl := Option.some.inj H
            try go_wp2
            have n0_ := mk0 (Kd.R_drew HO_151000.out)
            have n1_ := mk0 (Kd.R_drew HO_151001.out)
            have n2_ := mk0 (Kd.R_drew HO_151002.out)
            have n3_ := mk0 (Kd.R_drew HO_161000.out)
            have n4_ := mk0 (Kd.R_drew HO_161001.out)
            have n5_ := mk0 (Kd.R_drew HO_161002.out)
            have n6_ := mk0 (Kd.R_drew HO_172000.out)
            have n7_ := mk0 (Kd.R_drew HO_172001.out)
            have n8_ := mk0 (Kd.R_drew HO_172002.out)
            have n9_ := mk0 (blk_drew BK129.out)
            have n10_ := mk0 (blk_drew BK150.out)
            have n11_ := mk0 (blk_drew BK160.out)
            have n12_ := mk0 (blk_drew BK171.out)
            have n13_ := mk0 (below_drew1 HB.out)
            clear HO_151000
            clear HO_151001
            clear HO_151002
            clear HO_161000
            clear HO_161001
            clear HO_161002
            clear HO_172000
            clear HO_172001
            clear HO_172002
            clear BK129
            clear BK150
            clear BK160
            clear BK171
            clear HB
            have HO_151000 := n0_
            have HO_151001 := n1_
            have HO_151002 := n2_
            have HO_161000 := n3_
            have HO_161001 := n4_
            have HO_161002 := n5_
            have HO_172000 := n6_
            have HO_172001 := n7_
            have HO_172002 := n8_
            have BK129 := n9_
            have BK150 := n10_
            have BK160 := n11_
            have BK171 := n12_
            have HB := n13_
            clear n0_ n1_ n2_ n3_ n4_ n5_ n6_ n7_ n8_ n9_ n10_ n11_ n12_ n13_
            refine start_ (n := 5) (S := fun w' => w'.cell? ⟨gb160, 0, none⟩ = some (.slice Ao30 t151.length co30) ∧ w'.cell? ⟨gb160, 1, none⟩ = some (.slice Ao34 t154.length co34) ∧ w'.cell? ⟨gb160, 2, none⟩ = some (.slice Ao35 t157.length co35) ∧ w'.cell? ⟨gb129, 0, none⟩ = some (.slice A0_0 l0_0.length c0_0) ∧ w'.cell? ⟨gb129, 1, none⟩ = some (.slice A0_1 l0_1.length c0_1) ∧ w'.cell? ⟨gb129, 2, none⟩ = some (.slice A0_2 l0_2.length c0_2)) (ds := []) #[false, false, false, false, false] (by kernel_rfl) rfl rfl ⟨(blk_cell BK160.out 0).trans rfl, (blk_cell BK160.out 1).trans rfl, (blk_cell BK160.out 2).trans rfl, (blk_cell BK129.out 0).trans rfl, (blk_cell BK129.out 1).trans rfl, (blk_cell BK129.out 2).trans rfl⟩ (fun hHeld => ?_)
            generalize wc.drew = w189 at HO_151000 HO_151001 HO_151002 HO_161000 HO_161001 HO_161002 HO_172000 HO_172001 HO_172002 BK129 BK150 BK160 BK171 HB hHeld ⊢
            refine take_ (i := 0) (N := some 41) (v := ?_) (a' := ?_) #[true, false, false, false, false] rfl rfl (by kernel_rfl) (fun _ _ _ h => h) (Or.inl ⟨by rfl, ?_⟩) hHeld ?_ ?_
            rotate_left
            · rintro w' ⟨s0, s1, s2, s3, s4, s5⟩
              go_simp
              with_reducible rfl
            rotate_left
            · simp only [Act.put, List.setIfInBounds_toArray, List.set_cons_zero, List.set_cons_succ, i64_w, i32_w]
              rfl
            refine take_ (i := 1) (N := some 42) (v := ?_) (a' := ?_) #[true, true, false, false, false] rfl rfl (by kernel_rfl) (fun _ _ _ h => h) (Or.inl ⟨by rfl, ?_⟩) hHeld ?_ ?_
            rotate_left
            · rintro w' ⟨s0, s1, s2, s3, s4, s5⟩
              go_simp
              with_reducible rfl
            rotate_left
            · simp only [Act.put, List.setIfInBounds_toArray, List.set_cons_zero, List.set_cons_succ, i64_w, i32_w]
              rfl
            refine one_ (i := 2) (N := some 43) #[true, true, true, false, false] rfl rfl (by kernel_rfl) (by decide) (fun K hK => ?_)
            refine goes_ Try.func34 (by kernel_rfl) rfl #[.agg #[.slice A0_0 l0_0.length c0_0, .slice A0_1 l0_1.length c0_1, .slice A0_2 l0_2.length c0_2]] (by rfl) rfl rfl (by (try simp only [List.map_toArray, List.map_cons, List.map_nil]); rfl) ?_
            with_reducible refine (laws_toGauss.calls kj10 _ _ l0_0 _ _ l0_1 _ _ l0_2 t173 t176 t179 _ ?side1 ?side2 ?side3 ?side4 ?side5 ?side6 A64.out).mono ?_
            (case side1 => exact (Kd.C_below HR0_0.out HB.out))
            (case side2 => exact HC0_0.out)
            (case side3 => exact (Kd.C_below HR0_1.out HB.out))
            (case side4 => exact HC0_1.out)
            (case side5 => exact (Kd.C_below HR0_2.out HB.out))
            (case side6 => exact HC0_2.out)
            rintro e w190 ⟨v174, v177, v180, rfl, ho0, ho1, ho2, hb⟩
            refine ⟨_, rfl, ?_⟩
            have n0_ := mk0 (Kd.R_mono (Kd.R_told (Kd.R_told (Kd.R_told (Kd.R_old HO_151000.out hb) (Kd.R_base ho0)) (Kd.R_base ho1)) (Kd.R_base ho2)) (fun _ h_ => h_.1))
            have n1_ := mk0 (Kd.R_mono (Kd.R_told (Kd.R_told (Kd.R_told (Kd.R_old HO_151001.out hb) (Kd.R_base ho0)) (Kd.R_base ho1)) (Kd.R_base ho2)) (fun _ h_ => h_.1))
            have n2_ := mk0 (Kd.R_mono (Kd.R_told (Kd.R_told (Kd.R_told (Kd.R_old HO_151002.out hb) (Kd.R_base ho0)) (Kd.R_base ho1)) (Kd.R_base ho2)) (fun _ h_ => h_.1))
            have n3_ := mk0 (Kd.R_mono (Kd.R_told (Kd.R_told (Kd.R_told (Kd.R_old HO_161000.out hb) (Kd.R_base ho0)) (Kd.R_base ho1)) (Kd.R_base ho2)) (fun _ h_ => h_.1))
            have n4_ := mk0 (Kd.R_mono (Kd.R_told (Kd.R_told (Kd.R_told (Kd.R_old HO_161001.out hb) (Kd.R_base ho0)) (Kd.R_base ho1)) (Kd.R_base ho2)) (fun _ h_ => h_.1))
            have n5_ := mk0 (Kd.R_mono (Kd.R_told (Kd.R_told (Kd.R_told (Kd.R_old HO_161002.out hb) (Kd.R_base ho0)) (Kd.R_base ho1)) (Kd.R_base ho2)) (fun _ h_ => h_.1))
            have n6_ := mk0 (Kd.R_mono (Kd.R_told (Kd.R_told (Kd.R_told (Kd.R_old HO_172000.out hb) (Kd.R_base ho0)) (Kd.R_base ho1)) (Kd.R_base ho2)) (fun _ h_ => h_.1))
            have n7_ := mk0 (Kd.R_mono (Kd.R_told (Kd.R_told (Kd.R_told (Kd.R_old HO_172001.out hb) (Kd.R_base ho0)) (Kd.R_base ho1)) (Kd.R_base ho2)) (fun _ h_ => h_.1))
            have n8_ := mk0 (Kd.R_mono (Kd.R_told (Kd.R_told (Kd.R_told (Kd.R_old HO_172002.out hb) (Kd.R_base ho0)) (Kd.R_base ho1)) (Kd.R_base ho2)) (fun _ h_ => h_.1))
            have n9_ := mk0 (Kd.R_lower (Kd.R_new' (Kd.R_new' (Kd.R_new' (Kd.R_new' (Kd.R_new' (Kd.R_new' (Kd.R_new' (Kd.R_new' (Kd.R_new' ho0 (Kd.R_lt HO_151000.out)) (Kd.R_lt HO_151001.out)) (Kd.R_lt HO_151002.out)) (Kd.R_lt HO_161000.out)) (Kd.R_lt HO_161001.out)) (Kd.R_lt HO_161002.out)) (Kd.R_lt HO_172000.out)) (Kd.R_lt HO_172001.out)) (Kd.R_lt HO_172002.out)) (below_size (by repeat (first | (with_reducible first | exact HB.out | apply below_alloc | apply pw_below_drewN | apply below_drew1 | refine below_set ?_ GE129.out | refine below_set ?_ GE150.out | refine below_set ?_ GE160.out | refine below_set ?_ GE171.out) | exact HB.out))))
            have n10_ := mk0 (Kd.R_lower (Kd.R_new' (Kd.R_new' (Kd.R_new' (Kd.R_new' (Kd.R_new' (Kd.R_new' (Kd.R_new' (Kd.R_new' (Kd.R_new' ho1 (Kd.R_lt HO_151000.out)) (Kd.R_lt HO_151001.out)) (Kd.R_lt HO_151002.out)) (Kd.R_lt HO_161000.out)) (Kd.R_lt HO_161001.out)) (Kd.R_lt HO_161002.out)) (Kd.R_lt HO_172000.out)) (Kd.R_lt HO_172001.out)) (Kd.R_lt HO_172002.out)) (below_size (by repeat (first | (with_reducible first | exact HB.out | apply below_alloc | apply pw_below_drewN | apply below_drew1 | refine below_set ?_ GE129.out | refine below_set ?_ GE150.out | refine below_set ?_ GE160.out | refine below_set ?_ GE171.out) | exact HB.out))))
            have n11_ := mk0 (Kd.R_lower (Kd.R_new' (Kd.R_new' (Kd.R_new' (Kd.R_new' (Kd.R_new' (Kd.R_new' (Kd.R_new' (Kd.R_new' (Kd.R_new' ho2 (Kd.R_lt HO_151000.out)) (Kd.R_lt HO_151001.out)) (Kd.R_lt HO_151002.out)) (Kd.R_lt HO_161000.out)) (Kd.R_lt HO_161001.out)) (Kd.R_lt HO_161002.out)) (Kd.R_lt HO_172000.out)) (Kd.R_lt HO_172001.out)) (Kd.R_lt HO_172002.out)) (below_size (by repeat (first | (with_reducible first | exact HB.out | apply below_alloc | apply pw_below_drewN | apply below_drew1 | refine below_set ?_ GE129.out | refine below_set ?_ GE150.out | refine below_set ?_ GE160.out | refine below_set ?_ GE171.out) | exact HB.out))))
            have n12_ := mk0 (blk_below BK129.out hb)
            have n13_ := mk0 (blk_below BK150.out hb)
            have n14_ := mk0 (blk_below BK160.out hb)
            have n15_ := mk0 (blk_below BK171.out hb)
            have n16_ := mk0 (below_step (by repeat (first | (with_reducible first | exact HB.out | apply below_alloc | apply pw_below_drewN | apply below_drew1 | refine below_set ?_ GE129.out | refine below_set ?_ GE150.out | refine below_set ?_ GE160.out | refine below_set ?_ GE171.out) | exact HB.out)) hb)
            clear HO_151000
            clear HO_151001
            clear HO_151002
            clear HO_161000
            clear HO_161001
            clear HO_161002
            clear HO_172000
            clear HO_172001
            clear HO_172002
            clear BK129
            clear BK150
            clear BK160
            clear BK171
            clear HB
            have HO_151000 := n0_
            have HO_151001 := n1_
            have HO_151002 := n2_
            have HO_161000 := n3_
            have HO_161001 := n4_
            have HO_161002 := n5_
            have HO_172000 := n6_
            have HO_172001 := n7_
            have HO_172002 := n8_
            have HO175 := n9_
            have HO178 := n10_
            have HO181 := n11_
            have BK129 := n12_
            have BK150 := n13_
            have BK160 := n14_
            have BK171 := n15_
            have HB := n16_
            clear n0_ n1_ n2_ n3_ n4_ n5_ n6_ n7_ n8_ n9_ n10_ n11_ n12_ n13_ n14_ n15_ n16_
            (try clear hb)
            (try clear hb2)
            (try clear hk)
            (try clear hi)
            (try clear ho0)
            (try clear ho1)
            (try clear ho2)
            obtain ⟨Ao191, co191, eo191⟩ := Kd.R_slice HO175.out
            (first | subst eo191 | (injection eo191 with f1_ f2_ f3_; have f4_ := f1_.symm; have f5_ := f3_.symm; clear f1_ f2_ f3_; subst f4_; subst f5_))
            obtain ⟨Ao192, co192, eo192⟩ := Kd.R_slice HO178.out
            (first | subst eo192 | (injection eo192 with f1_ f2_ f3_; have f4_ := f1_.symm; have f5_ := f3_.symm; clear f1_ f2_ f3_; subst f4_; subst f5_))
            obtain ⟨Ao193, co193, eo193⟩ := Kd.R_slice HO181.out
            (first | subst eo193 | (injection eo193 with f1_ f2_ f3_; have f4_ := f1_.symm; have f5_ := f3_.symm; clear f1_ f2_ f3_; subst f4_; subst f5_))
            refine hK.out _ _ ⟨(blk_cell BK160.out 0).trans rfl, (blk_cell BK160.out 1).trans rfl, (blk_cell BK160.out 2).trans rfl, (blk_cell BK129.out 0).trans rfl, (blk_cell BK129.out 1).trans rfl, (blk_cell BK129.out 2).trans rfl⟩ (fun hHeld => ?_)
            clear hK K
            refine norm_ (a' := ?_) ?_ ?_
            rotate_left
            · show Act.put _ (some 43) _ = _
              simp only [Act.put, List.setIfInBounds_toArray, List.set_cons_zero, List.set_cons_succ, i64_w, i32_w]
              rfl
            refine one_ (i := 3) (N := some 44) #[true, true, true, true, false] rfl rfl (by kernel_rfl) (by decide) (fun K hK => ?_)
            refine goes_ Try.func36 (by kernel_rfl) rfl #[.agg #[.slice Ao30 t151.length co30, .slice Ao34 t154.length co34, .slice Ao35 t157.length co35], .agg #[.slice Ao191 t173.length co191, .slice Ao192 t176.length co192, .slice Ao193 t179.length co193]] (by rfl) rfl rfl (by (try simp only [List.map_toArray, List.map_cons, List.map_nil]); rfl) ?_
            with_reducible refine (laws_eqGauss.calls kj10 _ _ t151 _ _ t154 _ _ t157 _ _ t173 _ _ t176 _ _ t179 false _ ?side1 ?side2 ?side3 ?side4 ?side5 ?side6 ?side7 ?side8 ?side9 ?side10 ?side11 ?side12 A65.out).mono ?_
            (case side1 => exact (Kd.R_reads' HO_161000.out).2.2)
            (case side2 => exact (Kd.R_reads' HO_161000.out).2.1)
            (case side3 => exact (Kd.R_reads' HO_161001.out).2.2)
            (case side4 => exact (Kd.R_reads' HO_161001.out).2.1)
            (case side5 => exact (Kd.R_reads' HO_161002.out).2.2)
            (case side6 => exact (Kd.R_reads' HO_161002.out).2.1)
            (case side7 => exact (Kd.R_reads' HO175.out).2.2)
            (case side8 => exact (Kd.R_reads' HO175.out).2.1)
            (case side9 => exact (Kd.R_reads' HO178.out).2.2)
            (case side10 => exact (Kd.R_reads' HO178.out).2.1)
            (case side11 => exact (Kd.R_reads' HO181.out).2.2)
            (case side12 => exact (Kd.R_reads' HO181.out).2.1)
            rintro e w194 ⟨rfl, hb⟩
            refine ⟨_, rfl, ?_⟩
            have n0_ := mk0 (Kd.R_below HO_151000.out hb)
            have n1_ := mk0 (Kd.R_below HO_151001.out hb)
            have n2_ := mk0 (Kd.R_below HO_151002.out hb)
            have n3_ := mk0 (Kd.R_below HO_161000.out hb)
            have n4_ := mk0 (Kd.R_below HO_161001.out hb)
            have n5_ := mk0 (Kd.R_below HO_161002.out hb)
            have n6_ := mk0 (Kd.R_below HO_172000.out hb)
            have n7_ := mk0 (Kd.R_below HO_172001.out hb)
            have n8_ := mk0 (Kd.R_below HO_172002.out hb)
            have n9_ := mk0 (Kd.R_below HO175.out hb)
            have n10_ := mk0 (Kd.R_below HO178.out hb)
            have n11_ := mk0 (Kd.R_below HO181.out hb)
            have n12_ := mk0 (blk_below BK129.out hb)
            have n13_ := mk0 (blk_below BK150.out hb)
            have n14_ := mk0 (blk_below BK160.out hb)
            have n15_ := mk0 (blk_below BK171.out hb)
            have n16_ := mk0 (below_step (by repeat (first | (with_reducible first | exact HB.out | apply below_alloc | apply pw_below_drewN | apply below_drew1 | refine below_set ?_ GE129.out | refine below_set ?_ GE150.out | refine below_set ?_ GE160.out | refine below_set ?_ GE171.out) | exact HB.out)) hb)
            clear HO_151000
            clear HO_151001
            clear HO_151002
            clear HO_161000
            clear HO_161001
            clear HO_161002
            clear HO_172000
            clear HO_172001
            clear HO_172002
            clear HO175
            clear HO178
            clear HO181
            clear BK129
            clear BK150
            clear BK160
            clear BK171
            clear HB
            have HO_151000 := n0_
            have HO_151001 := n1_
            have HO_151002 := n2_
            have HO_161000 := n3_
            have HO_161001 := n4_
            have HO_161002 := n5_
            have HO_172000 := n6_
            have HO_172001 := n7_
            have HO_172002 := n8_
            have HO175 := n9_
            have HO178 := n10_
            have HO181 := n11_
            have BK129 := n12_
            have BK150 := n13_
            have BK160 := n14_
            have BK171 := n15_
            have HB := n16_
            clear n0_ n1_ n2_ n3_ n4_ n5_ n6_ n7_ n8_ n9_ n10_ n11_ n12_ n13_ n14_ n15_ n16_
            (try clear hb)
            (try clear hb2)
            (try clear hk)
            (try clear hi)
            refine hK.out _ _ ⟨(blk_cell BK160.out 0).trans rfl, (blk_cell BK160.out 1).trans rfl, (blk_cell BK160.out 2).trans rfl, (blk_cell BK129.out 0).trans rfl, (blk_cell BK129.out 1).trans rfl, (blk_cell BK129.out 2).trans rfl⟩ (fun hHeld => ?_)
            clear hK K
            refine norm_ (a' := ?_) ?_ ?_
            rotate_left
            · show Act.put _ (some 44) _ = _
              simp only [Act.put, List.setIfInBounds_toArray, List.set_cons_zero, List.set_cons_succ, i64_w, i32_w]
              rfl
            refine pure_ (i := 4) (N := some 45) (v := ?_) (a' := ?_) #[true, true, true, true, true] rfl rfl (by kernel_rfl) (fun _ _ _ h => h) (Or.inl ⟨by rfl, ?_⟩) ?_ ?_
            rotate_left
            · intro w'
              go_simp
              with_reducible rfl
            rotate_left
            · simp only [Act.put, List.setIfInBounds_toArray, List.set_cons_zero, List.set_cons_succ, i64_w, i32_w]
              rfl
            refine done_ (by kernel_rfl) ?_
            try go_wp2
            go_ret
            exact ⟨by first | rfl | (simp [errW_none, errW_some] <;> rfl) | (simp [*, errW_none, errW_some] <;> rfl), by repeat (first | (with_reducible first | exact HB.out | apply below_alloc | apply pw_below_drewN | apply below_drew1 | refine below_set ?_ GE129.out | refine below_set ?_ GE150.out | refine below_set ?_ GE160.out | refine below_set ?_ GE171.out) | exact HB.out)⟩

end Go.Proofs.Ytokcklkjnjffnaa.PE
