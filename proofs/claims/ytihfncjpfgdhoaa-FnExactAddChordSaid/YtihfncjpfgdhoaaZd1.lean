/- Packed texts of this session's: PIx2, KWordLaw, KAddChord, KLaw, PureFnExactAddChord. Conditions: in each. -/
import Derived.Test.YtihfncjpfgdhoaaProg
import Derived.Test.YtihfncjpfgdhoaaZd0
set_option linter.unusedVariables false
set_option linter.unusedSimpArgs false
set_option linter.unusedSectionVars false
section
namespace Go.Proofs.Ytihfncjpfgdhoaa.PI
open Go.RowKit Go.Proofs.YtihfncjpfgdhoaaW.PrintWords Go.Proofs.YtihfncjpfgdhoaaW.PrintLast Go.Proofs.YtihfncjpfgdhoaaW.PrintMore
attribute [local go_sem] max2_int min2_int max_two min_two max_three min_three max_four min_four   -- for this text's walks alone
open Go.Proofs.Ytihfncjpfgdhoaa.K Go.Proofs.Ytihfncjpfgdhoaa.PA Go.Proofs.Ytihfncjpfgdhoaa.PE
/-! ### laws_FnExactAddChord: function 3 -/
mutual
def laws_FnExactAddChord.j0 : Nat → List Int → Int → Int → List Int → Int → List Int → List Int → Int → Bool → Option (Bool)
  | 0, _, _, _, _, _, _, _, _, _ => none
  | k + 1, x0, x1, x2, x7, x8, x9, x10, x11, x45 => if x45 = true then (some false) else ((laws_toInt64S.f k x0).bind fun t152 => ((laws_eqInt64S.f k x9 t152).bind fun t155 => (if t155 = true then ((laws_markInt64S.f k x9 1).bind fun bt156 => (if bt156.1 < 0 then (laws_FnExactAddChord.j1 k x0 x1 x2 x7 x8 x10 true) else ((laws_eqInt64S.f k x10 x7).bind fun t158 => (if t158 = true then (laws_FnExactAddChord.j1 k x0 x1 x2 x7 x8 x10 (x11 != x8)) else (laws_FnExactAddChord.j1 k x0 x1 x2 x7 x8 x10 true))))) else (some false))))
def laws_FnExactAddChord.j1 : Nat → List Int → Int → Int → List Int → Int → List Int → Bool → Option (Bool)
  | 0, _, _, _, _, _, _, _ => none
  | k + 1, x0, x1, x2, x7, x8, x10, x66 => if x66 = true then (some false) else ((laws_markInt64S.f k x10 1).bind fun bt159 => ((laws_heldInt64S.f k bt159.2 1).bind fun t161 => (if t161 < 0 then (some false) else (if t161 = bt159.1 then ((laws_toInt64S.f k x0).bind fun t162 => ((impl_AddChord.f k t162 x1 x2).bind fun bt165 => ((laws_eqInt64S.f k bt165.1 x7).bind fun t169 => (if t169 = true then (laws_FnExactAddChord.j2 k bt159.2 bt159.1 (bt165.2 != x8)) else (laws_FnExactAddChord.j2 k bt159.2 bt159.1 true))))) else (some false)))))
def laws_FnExactAddChord.j2 : Nat → List Int → Int → Bool → Option (Bool)
  | 0, _, _, _ => none
  | k + 1, x10, x13, x94 => if x94 = true then (some false) else ((laws_heldInt64S.f k x10 1).bind fun t170 => (if t170 < 0 then (some false) else (if t170 = x13 then (some true) else (some false))))
end
def laws_FnExactAddChord.f (k : Nat) (l0 : List Int) (a1 : Int) (a2 : Int) : Option (Bool) := if (l0.length : Int) > 1048576 then (some true) else ((laws_toInt64S.f k l0).bind fun t137 => ((spec_AddChord.f k t137 a1 a2).bind fun bt140 => ((laws_toInt64S.f k l0).bind fun t144 => ((impl_AddChord.f k t144 a1 a2).bind fun bt147 => ((laws_eqInt64S.f k bt147.1 bt140.1).bind fun t151 => (if t151 = true then (laws_FnExactAddChord.j0 k l0 a1 a2 bt140.1 bt140.2 t144 bt147.1 bt147.2 (bt147.2 != bt140.2)) else (laws_FnExactAddChord.j0 k l0 a1 a2 bt140.1 bt140.2 t144 bt147.1 bt147.2 true)))))))
theorem laws_FnExactAddChord.mono_l : ∀ k, (∀ y0 y1 y2 y3 y4 y5 y6 y7 y8, LeO (laws_FnExactAddChord.j0 k y0 y1 y2 y3 y4 y5 y6 y7 y8) (laws_FnExactAddChord.j0 (k + 1) y0 y1 y2 y3 y4 y5 y6 y7 y8)) ∧ (∀ y0 y1 y2 y3 y4 y5 y6, LeO (laws_FnExactAddChord.j1 k y0 y1 y2 y3 y4 y5 y6) (laws_FnExactAddChord.j1 (k + 1) y0 y1 y2 y3 y4 y5 y6)) ∧ (∀ y0 y1 y2, LeO (laws_FnExactAddChord.j2 k y0 y1 y2) (laws_FnExactAddChord.j2 (k + 1) y0 y1 y2))
  | 0 => ⟨fun _ _ _ _ _ _ _ _ _ r h => by simp [laws_FnExactAddChord.j0] at h, fun _ _ _ _ _ _ _ r h => by simp [laws_FnExactAddChord.j1] at h, fun _ _ _ r h => by simp [laws_FnExactAddChord.j2] at h⟩
  | k + 1 => by
    obtain ⟨ih0, ih1, ih2⟩ := laws_FnExactAddChord.mono_l k
    refine ⟨?_, ?_, ?_⟩
    · intro y0 y1 y2 y3 y4 y5 y6 y7 y8
      unfold laws_FnExactAddChord.j0
      repeat' first
      | (with_reducible exact ih0 _ _ _ _ _ _ _ _ _)
      | (with_reducible exact ih1 _ _ _ _ _ _ _)
      | (with_reducible exact ih2 _ _ _)
      | (with_reducible exact impl_AddChord.mono _ _ _ _)
      | (with_reducible exact laws_eqInt64S.mono _ _ _)
      | (with_reducible exact laws_heldInt64S.mono _ _ _)
      | (with_reducible exact laws_markInt64S.mono _ _ _)
      | (with_reducible exact laws_toInt64S.mono _ _)
      | (with_reducible exact spec_AddChord.mono _ _ _ _)
      | (with_reducible exact LeO.refl _)
      | (with_reducible exact LeO.none _)
      | (with_reducible refine LeO.ite ?_ ?_)
      | (with_reducible refine LeO.bind ?_ (fun _ => ?_))
      | exact ih0 _ _ _ _ _ _ _ _ _
      | exact ih1 _ _ _ _ _ _ _
      | exact ih2 _ _ _
      | exact impl_AddChord.mono _ _ _ _
      | exact laws_eqInt64S.mono _ _ _
      | exact laws_heldInt64S.mono _ _ _
      | exact laws_markInt64S.mono _ _ _
      | exact laws_toInt64S.mono _ _
      | exact spec_AddChord.mono _ _ _ _
      | exact LeO.none _
      | refine LeO.ite ?_ ?_
      | refine LeO.bind ?_ (fun _ => ?_)
    · intro y0 y1 y2 y3 y4 y5 y6
      unfold laws_FnExactAddChord.j1
      repeat' first
      | (with_reducible exact ih0 _ _ _ _ _ _ _ _ _)
      | (with_reducible exact ih1 _ _ _ _ _ _ _)
      | (with_reducible exact ih2 _ _ _)
      | (with_reducible exact impl_AddChord.mono _ _ _ _)
      | (with_reducible exact laws_eqInt64S.mono _ _ _)
      | (with_reducible exact laws_heldInt64S.mono _ _ _)
      | (with_reducible exact laws_markInt64S.mono _ _ _)
      | (with_reducible exact laws_toInt64S.mono _ _)
      | (with_reducible exact spec_AddChord.mono _ _ _ _)
      | (with_reducible exact LeO.refl _)
      | (with_reducible exact LeO.none _)
      | (with_reducible refine LeO.ite ?_ ?_)
      | (with_reducible refine LeO.bind ?_ (fun _ => ?_))
      | exact ih0 _ _ _ _ _ _ _ _ _
      | exact ih1 _ _ _ _ _ _ _
      | exact ih2 _ _ _
      | exact impl_AddChord.mono _ _ _ _
      | exact laws_eqInt64S.mono _ _ _
      | exact laws_heldInt64S.mono _ _ _
      | exact laws_markInt64S.mono _ _ _
      | exact laws_toInt64S.mono _ _
      | exact spec_AddChord.mono _ _ _ _
      | exact LeO.none _
      | refine LeO.ite ?_ ?_
      | refine LeO.bind ?_ (fun _ => ?_)
    · intro y0 y1 y2
      unfold laws_FnExactAddChord.j2
      repeat' first
      | (with_reducible exact ih0 _ _ _ _ _ _ _ _ _)
      | (with_reducible exact ih1 _ _ _ _ _ _ _)
      | (with_reducible exact ih2 _ _ _)
      | (with_reducible exact impl_AddChord.mono _ _ _ _)
      | (with_reducible exact laws_eqInt64S.mono _ _ _)
      | (with_reducible exact laws_heldInt64S.mono _ _ _)
      | (with_reducible exact laws_markInt64S.mono _ _ _)
      | (with_reducible exact laws_toInt64S.mono _ _)
      | (with_reducible exact spec_AddChord.mono _ _ _ _)
      | (with_reducible exact LeO.refl _)
      | (with_reducible exact LeO.none _)
      | (with_reducible refine LeO.ite ?_ ?_)
      | (with_reducible refine LeO.bind ?_ (fun _ => ?_))
      | exact ih0 _ _ _ _ _ _ _ _ _
      | exact ih1 _ _ _ _ _ _ _
      | exact ih2 _ _ _
      | exact impl_AddChord.mono _ _ _ _
      | exact laws_eqInt64S.mono _ _ _
      | exact laws_heldInt64S.mono _ _ _
      | exact laws_markInt64S.mono _ _ _
      | exact laws_toInt64S.mono _ _
      | exact spec_AddChord.mono _ _ _ _
      | exact LeO.none _
      | refine LeO.ite ?_ ?_
      | refine LeO.bind ?_ (fun _ => ?_)
theorem laws_FnExactAddChord.mono : ∀ a0 a1 a2 k, LeO (laws_FnExactAddChord.f k a0 a1 a2) (laws_FnExactAddChord.f (k + 1) a0 a1 a2) := by
  intro a0 a1 a2 k
  obtain ⟨ih0, ih1, ih2⟩ := laws_FnExactAddChord.mono_l k
  unfold laws_FnExactAddChord.f
  repeat' first
      | (with_reducible exact ih0 _ _ _ _ _ _ _ _ _)
      | (with_reducible exact ih1 _ _ _ _ _ _ _)
      | (with_reducible exact ih2 _ _ _)
      | (with_reducible exact impl_AddChord.mono _ _ _ _)
      | (with_reducible exact laws_eqInt64S.mono _ _ _)
      | (with_reducible exact laws_heldInt64S.mono _ _ _)
      | (with_reducible exact laws_markInt64S.mono _ _ _)
      | (with_reducible exact laws_toInt64S.mono _ _)
      | (with_reducible exact spec_AddChord.mono _ _ _ _)
      | (with_reducible exact LeO.refl _)
      | (with_reducible exact LeO.none _)
      | (with_reducible refine LeO.ite ?_ ?_)
      | (with_reducible refine LeO.bind ?_ (fun _ => ?_))
      | exact ih0 _ _ _ _ _ _ _ _ _
      | exact ih1 _ _ _ _ _ _ _
      | exact ih2 _ _ _
      | exact impl_AddChord.mono _ _ _ _
      | exact laws_eqInt64S.mono _ _ _
      | exact laws_heldInt64S.mono _ _ _
      | exact laws_markInt64S.mono _ _ _
      | exact laws_toInt64S.mono _ _
      | exact spec_AddChord.mono _ _ _ _
      | exact LeO.none _
      | refine LeO.ite ?_ ?_
      | refine LeO.bind ?_ (fun _ => ?_)
set_option maxHeartbeats 8000000 in
set_option maxRecDepth 100000 in
theorem laws_FnExactAddChord.calls (k : Nat) (A0 : Option Addr) (c0 : Nat) (l0 : List Int) (a1 : Int) (a2 : Int) (r : Bool) (w : World) (hr0 : Kd.C (Kd.int .i64) w A0 l0.length l0) (hc0 : l0.length ≤ c0) (h : laws_FnExactAddChord.f k l0 a1 a2 = some r) :
    Calls Try.prog 3 #[.slice A0 l0.length c0, .int .i64 a1, .int .i64 a2] w fun e w' => e = .returned (.bool r) ∧ Below w.heap.size w w' := by
  have HR0 := Aside0.mk hr0
  have HC0 := Aside0.mk hc0
  clear hr0 hc0
  have HB := mk0 (Below.refl w.heap.size w)
  have H : (if (l0.length : Int) > 1048576 then (some true) else ((laws_toInt64S.f k l0).bind fun t137 => ((spec_AddChord.f k t137 a1 a2).bind fun bt140 => ((laws_toInt64S.f k l0).bind fun t144 => ((impl_AddChord.f k t144 a1 a2).bind fun bt147 => ((laws_eqInt64S.f k bt147.1 bt140.1).bind fun t151 => (if t151 = true then (laws_FnExactAddChord.j0 k l0 a1 a2 bt140.1 bt140.2 t144 bt147.1 bt147.2 (bt147.2 != bt140.2)) else (laws_FnExactAddChord.j0 k l0 a1 a2 bt140.1 bt140.2 t144 bt147.1 bt147.2 true)))))))) = some r := h
  clear h
  by_cases c4 : (l0.length : Int) > 1048576
  · rw [if_pos c4] at H
    have c4b0 : decide (1048576 < (l0.length : Int)) = true := decide_eq_true c4
    have c4b1 : decide (1048576 < l0.length) = true := decide_eq_true (by omega)
    clear c4
    obtain rfl := Option.some.inj H
    go_enter Try.func3, Try.ntmps3
    go_wp2
    go_ret
    exact ⟨by first | rfl | (simp [errW_none, errW_some] <;> rfl) | (simp [*, errW_none, errW_some] <;> rfl), by repeat (first | (with_reducible first | exact HB.out | apply below_alloc | apply pw_below_drewN | apply below_drew1) | exact HB.out)⟩
  · rw [if_neg c4] at H
    have c4b0 : decide (1048576 < (l0.length : Int)) = false := decide_eq_false c4
    have c4b1 : decide (1048576 < l0.length) = false := decide_eq_false (by omega)
    clear c4
    replace H := Option.bind_eq_some_iff.mp H
    obtain ⟨t137, A50, H⟩ := H
    replace H : ((spec_AddChord.f k t137 a1 a2).bind fun bt140 => ((laws_toInt64S.f k l0).bind fun t144 => ((impl_AddChord.f k t144 a1 a2).bind fun bt147 => ((laws_eqInt64S.f k bt147.1 bt140.1).bind fun t151 => (if t151 = true then (laws_FnExactAddChord.j0 k l0 a1 a2 bt140.1 bt140.2 t144 bt147.1 bt147.2 (bt147.2 != bt140.2)) else (laws_FnExactAddChord.j0 k l0 a1 a2 bt140.1 bt140.2 t144 bt147.1 bt147.2 true)))))) = some r := H
    have A5 := Aside0.mk A50
    clear A50
    replace H := Option.bind_eq_some_iff.mp H
    obtain ⟨⟨t140, t141⟩, A60, H⟩ := H
    replace H : ((laws_toInt64S.f k l0).bind fun t144 => ((impl_AddChord.f k t144 a1 a2).bind fun bt147 => ((laws_eqInt64S.f k bt147.1 t140).bind fun t151 => (if t151 = true then (laws_FnExactAddChord.j0 k l0 a1 a2 t140 t141 t144 bt147.1 bt147.2 (bt147.2 != t141)) else (laws_FnExactAddChord.j0 k l0 a1 a2 t140 t141 t144 bt147.1 bt147.2 true))))) = some r := H
    have A6 := Aside0.mk A60
    clear A60
    replace H := Option.bind_eq_some_iff.mp H
    obtain ⟨t144, A70, H⟩ := H
    replace H : ((impl_AddChord.f k t144 a1 a2).bind fun bt147 => ((laws_eqInt64S.f k bt147.1 t140).bind fun t151 => (if t151 = true then (laws_FnExactAddChord.j0 k l0 a1 a2 t140 t141 t144 bt147.1 bt147.2 (bt147.2 != t141)) else (laws_FnExactAddChord.j0 k l0 a1 a2 t140 t141 t144 bt147.1 bt147.2 true)))) = some r := H
    have A7 := Aside0.mk A70
    clear A70
    replace H := Option.bind_eq_some_iff.mp H
    obtain ⟨⟨t147, t148⟩, A80, H⟩ := H
    replace H : ((laws_eqInt64S.f k t147 t140).bind fun t151 => (if t151 = true then (laws_FnExactAddChord.j0 k l0 a1 a2 t140 t141 t144 t147 t148 (t148 != t141)) else (laws_FnExactAddChord.j0 k l0 a1 a2 t140 t141 t144 t147 t148 true))) = some r := H
    have A8 := Aside0.mk A80
    clear A80
    have HC9 := Aside0.mk H
    clear H
    go_enter Try.func3, Try.ntmps3
    go_upto_region 6 with (first | ((with_reducible refine gate_callee (f := 16) rfl ?_); refine goesL_ (some 22) rfl rfl Try.func16 (by kernel_rfl) rfl #[.slice A0 l0.length c0] rfl (by (try simp only [List.map_toArray, List.map_cons, List.map_nil]); first | done | rfl | (simp only [List.length_drop, List.length_take]; rfl)) ?_; (with_reducible refine (laws_toInt64S.calls k _ _ l0 t137 _ ?side1 ?side2 A5.out).mono ?_); (case side1 => repeat (first | exact HR0.out | (with_reducible refine Kd.C_alloc ?_ _) | (with_reducible refine Kd.C_drewN ?_ _) | (with_reducible refine Kd.C_drew ?_))); (case side2 => exact HC0.out); rintro e w10 ⟨v138, rfl, ho0, hb⟩; refine ⟨_, rfl, ?_⟩; have n0_ := mk0 (Kd.R_lower ho0 (below_size (by repeat (first | (with_reducible first | exact HB.out | apply below_alloc | apply pw_below_drewN | apply below_drew1) | exact HB.out)))); have n1_ := mk0 (below_step (by repeat (first | (with_reducible first | exact HB.out | apply below_alloc | apply pw_below_drewN | apply below_drew1) | exact HB.out)) hb); clear HB; have HO139 := n0_; have HB := n1_; clear n0_ n1_; (try clear hb); (try clear hb2); (try clear hk); (try clear hi); (try clear ho0); obtain ⟨Ao11, co11, eo11⟩ := Kd.R_slice HO139.out; subst eo11) | ((with_reducible refine gate_callee (f := 15) rfl ?_); refine goesL_ (some 25) rfl rfl Try.func15 (by kernel_rfl) rfl #[.slice Ao11 t137.length co11, .int .i64 a1, .int .i64 a2] rfl (by (try simp only [List.map_toArray, List.map_cons, List.map_nil]); first | done | rfl | (simp only [List.length_drop, List.length_take]; rfl)) ?_; (with_reducible refine (spec_AddChord.calls k _ _ t137 a1 a2 t140 t141 _ ?side1 ?side2 A6.out).mono ?_); (case side1 => repeat (first | exact (Kd.R_reads' HO139.out).2.2 | (with_reducible refine Kd.C_alloc ?_ _) | (with_reducible refine Kd.C_drewN ?_ _) | (with_reducible refine Kd.C_drew ?_))); (case side2 => exact (Kd.R_reads' HO139.out).2.1); rintro e w12 ⟨v142, rfl, ho0, hb⟩; refine ⟨_, rfl, ?_⟩; have n0_ := mk0 (Kd.R_elder' (by (with_reducible repeat (first | apply Kd.R_alloc | apply Kd.R_drewN | apply Kd.R_drew)); exact HO139.out) (Kd.R_base ho0) hb); have n1_ := mk0 (Kd.R_lower (Kd.R_new' ho0 (Kd.R_lt (by (with_reducible repeat (first | apply Kd.R_alloc | apply Kd.R_drewN | apply Kd.R_drew)); exact HO139.out))) (below_size (by repeat (first | (with_reducible first | exact HB.out | apply below_alloc | apply pw_below_drewN | apply below_drew1) | exact HB.out)))); have n2_ := mk0 (below_step (by repeat (first | (with_reducible first | exact HB.out | apply below_alloc | apply pw_below_drewN | apply below_drew1) | exact HB.out)) hb); clear HO139; clear HB; have HO139 := n0_; have HO143 := n1_; have HB := n2_; clear n0_ n1_ n2_; (try clear hb); (try clear hb2); (try clear hk); (try clear hi); (try clear ho0)) | ((with_reducible refine gate_callee (f := 16) rfl ?_); refine goesL_ (some 29) rfl rfl Try.func16 (by kernel_rfl) rfl #[.slice A0 l0.length c0] rfl (by (try simp only [List.map_toArray, List.map_cons, List.map_nil]); first | done | rfl | (simp only [List.length_drop, List.length_take]; rfl)) ?_; (with_reducible refine (laws_toInt64S.calls k _ _ l0 t144 _ ?side1 ?side2 A7.out).mono ?_); (case side1 => repeat (first | exact (Kd.C_below HR0.out HB.out) | (with_reducible refine Kd.C_alloc ?_ _) | (with_reducible refine Kd.C_drewN ?_ _) | (with_reducible refine Kd.C_drew ?_))); (case side2 => exact HC0.out); rintro e w13 ⟨v145, rfl, ho0, hb⟩; refine ⟨_, rfl, ?_⟩; have n0_ := mk0 (Kd.R_elder' (by (with_reducible repeat (first | apply Kd.R_alloc | apply Kd.R_drewN | apply Kd.R_drew)); exact HO139.out) (Kd.R_base ho0) hb); have n1_ := mk0 (Kd.R_elder' (by (with_reducible repeat (first | apply Kd.R_alloc | apply Kd.R_drewN | apply Kd.R_drew)); exact HO143.out) (Kd.R_base ho0) hb); have n2_ := mk0 (Kd.R_lower (Kd.R_new' (Kd.R_new' ho0 (Kd.R_lt (by (with_reducible repeat (first | apply Kd.R_alloc | apply Kd.R_drewN | apply Kd.R_drew)); exact HO139.out))) (Kd.R_lt (by (with_reducible repeat (first | apply Kd.R_alloc | apply Kd.R_drewN | apply Kd.R_drew)); exact HO143.out))) (below_size (by repeat (first | (with_reducible first | exact HB.out | apply below_alloc | apply pw_below_drewN | apply below_drew1) | exact HB.out)))); have n3_ := mk0 (below_step (by repeat (first | (with_reducible first | exact HB.out | apply below_alloc | apply pw_below_drewN | apply below_drew1) | exact HB.out)) hb); clear HO139; clear HO143; clear HB; have HO139 := n0_; have HO143 := n1_; have HO146 := n2_; have HB := n3_; clear n0_ n1_ n2_ n3_; (try clear hb); (try clear hb2); (try clear hk); (try clear hi); (try clear ho0); obtain ⟨Ao14, co14, eo14⟩ := Kd.R_slice HO146.out; subst eo14) | ((with_reducible refine gate_callee (f := 17) rfl ?_); refine goesL_ (some 34) rfl rfl Try.func17 (by kernel_rfl) rfl #[.slice Ao14 t144.length co14, .int .i64 a1, .int .i64 a2] rfl (by (try simp only [List.map_toArray, List.map_cons, List.map_nil]); first | done | rfl | (simp only [List.length_drop, List.length_take]; rfl)) ?_; (with_reducible refine (impl_AddChord.calls k _ _ t144 a1 a2 t147 t148 _ ?side1 ?side2 A8.out).mono ?_); (case side1 => repeat (first | exact (Kd.R_reads' HO146.out).2.2 | (with_reducible refine Kd.C_alloc ?_ _) | (with_reducible refine Kd.C_drewN ?_ _) | (with_reducible refine Kd.C_drew ?_))); (case side2 => exact (Kd.R_reads' HO146.out).2.1); rintro e w15 ⟨v149, rfl, ho0, hb⟩; refine ⟨_, rfl, ?_⟩; have n0_ := mk0 (Kd.R_elder' (by (with_reducible repeat (first | apply Kd.R_alloc | apply Kd.R_drewN | apply Kd.R_drew)); exact HO139.out) (Kd.R_base ho0) hb); have n1_ := mk0 (Kd.R_elder' (by (with_reducible repeat (first | apply Kd.R_alloc | apply Kd.R_drewN | apply Kd.R_drew)); exact HO143.out) (Kd.R_base ho0) hb); have n2_ := mk0 (Kd.R_elder' (by (with_reducible repeat (first | apply Kd.R_alloc | apply Kd.R_drewN | apply Kd.R_drew)); exact HO146.out) (Kd.R_base ho0) hb); have n3_ := mk0 (Kd.R_lower (Kd.R_new' (Kd.R_new' (Kd.R_new' ho0 (Kd.R_lt (by (with_reducible repeat (first | apply Kd.R_alloc | apply Kd.R_drewN | apply Kd.R_drew)); exact HO139.out))) (Kd.R_lt (by (with_reducible repeat (first | apply Kd.R_alloc | apply Kd.R_drewN | apply Kd.R_drew)); exact HO143.out))) (Kd.R_lt (by (with_reducible repeat (first | apply Kd.R_alloc | apply Kd.R_drewN | apply Kd.R_drew)); exact HO146.out))) (below_size (by repeat (first | (with_reducible first | exact HB.out | apply below_alloc | apply pw_below_drewN | apply below_drew1) | exact HB.out)))); have n4_ := mk0 (below_step (by repeat (first | (with_reducible first | exact HB.out | apply below_alloc | apply pw_below_drewN | apply below_drew1) | exact HB.out)) hb); clear HO139; clear HO143; clear HO146; clear HB; have HO139 := n0_; have HO143 := n1_; have HO146 := n2_; have HO150 := n3_; have HB := n4_; clear n0_ n1_ n2_ n3_ n4_; (try clear hb); (try clear hb2); (try clear hk); (try clear hi); (try clear ho0)))
    (try simp only [Act.put, List.setIfInBounds_toArray, List.set_cons_zero, List.set_cons_succ])
    go_cut [45] (fun v45 wc => ∃ (kq : Nat) (x45_8 : Bool), v45 = .bool x45_8 ∧ Aside0 (laws_FnExactAddChord.j0 kq l0 a1 a2 t140 t141 t144 t147 t148 x45_8 = some r) ∧ Aside0 (kq ≤ k) ∧ Aside0 (Kd.R (Kd.int .i64) 2 wc w.heap.size (fun k_ => some k_ ≠ ((.slice Ao14 t144.length co14) : Value).ownBlock ∧ some k_ ≠ (v149 : Value).ownBlock) v142 t140) ∧ Aside0 (Kd.R (Kd.int .i64) 2 wc w.heap.size (fun k_ => some k_ ≠ (v142 : Value).ownBlock ∧ some k_ ≠ (v149 : Value).ownBlock) (.slice Ao14 t144.length co14) t144) ∧ Aside0 (Kd.R (Kd.int .i64) 2 wc w.heap.size (fun k_ => some k_ ≠ (v142 : Value).ownBlock ∧ some k_ ≠ ((.slice Ao14 t144.length co14) : Value).ownBlock) v149 t147) ∧ Aside0 (Below w.heap.size w wc))
    case first =>
      have H := HC9.out
      clear HC9
      replace H := Option.bind_eq_some_iff.mp H
      obtain ⟨t151, A160, H⟩ := H
      replace H : (if t151 = true then (laws_FnExactAddChord.j0 k l0 a1 a2 t140 t141 t144 t147 t148 (t148 != t141)) else (laws_FnExactAddChord.j0 k l0 a1 a2 t140 t141 t144 t147 t148 true)) = some r := H
      have A16 := Aside0.mk A160
      clear A160
      by_cases c17 : t151 = true
      · subst c17
        have H1 : (laws_FnExactAddChord.j0 k l0 a1 a2 t140 t141 t144 t147 t148 (t148 != t141)) = some r := by rw [if_pos rfl] at H; exact H
        clear H
        have H := H1
        clear H1
        have H' := Aside0.mk H
        clear H
        obtain ⟨Ao18, co18, eo18⟩ := Kd.R_slice HO150.out
        subst eo18
        obtain ⟨Ao19, co19, eo19⟩ := Kd.R_slice HO143.out
        subst eo19
        go_wp2_with (first | ((with_reducible refine gate_callee (f := 18) rfl ?_); refine goesL_ (some 39) rfl rfl Try.func18 (by kernel_rfl) rfl #[.slice Ao18 t147.length co18, .slice Ao19 t140.length co19] rfl (by (try simp only [List.map_toArray, List.map_cons, List.map_nil]); first | done | rfl | (simp only [List.length_drop, List.length_take]; rfl)) ?_; (with_reducible refine (laws_eqInt64S.calls k _ _ t147 _ _ t140 true _ ?side1 ?side2 ?side3 ?side4 A16.out).mono ?_); (case side1 => repeat (first | exact (Kd.R_reads' HO150.out).2.2 | (with_reducible refine Kd.C_alloc ?_ _) | (with_reducible refine Kd.C_drewN ?_ _) | (with_reducible refine Kd.C_drew ?_))); (case side2 => exact (Kd.R_reads' HO150.out).2.1); (case side3 => repeat (first | exact (Kd.R_reads' HO143.out).2.2 | (with_reducible refine Kd.C_alloc ?_ _) | (with_reducible refine Kd.C_drewN ?_ _) | (with_reducible refine Kd.C_drew ?_))); (case side4 => exact (Kd.R_reads' HO143.out).2.1); rintro e w' ⟨rfl, ⟨nd, rfl⟩⟩; refine ⟨_, rfl, ?_⟩))
        go_meet
        case rel => exact ⟨_, ((t148 != t141)), (by first | rfl | (simp; done) | (simp [*]; done)), H', ⟨by first | omega | exact Nat.le_refl _⟩, ⟨by (with_reducible repeat (first | apply Kd.R_alloc | apply Kd.R_drewN | apply Kd.R_drew)); exact Kd.R_mono HO143.out (fun _ hk => ⟨hk.1.2, hk.2⟩)⟩, ⟨by (with_reducible repeat (first | apply Kd.R_alloc | apply Kd.R_drewN | apply Kd.R_drew)); exact Kd.R_mono HO146.out (fun _ hk => ⟨hk.1.2, hk.2⟩)⟩, ⟨by (with_reducible repeat (first | apply Kd.R_alloc | apply Kd.R_drewN | apply Kd.R_drew)); exact Kd.R_mono HO150.out (fun _ hk => ⟨hk.1.2, hk.2⟩)⟩, ⟨by repeat (first | (with_reducible first | exact HB.out | apply below_alloc | apply pw_below_drewN | apply below_drew1) | exact HB.out)⟩⟩
      · replace c17 := Bool.eq_false_iff.mpr c17
        subst c17
        have H1 : (laws_FnExactAddChord.j0 k l0 a1 a2 t140 t141 t144 t147 t148 true) = some r := by rw [if_neg (show ¬ (false = true) by decide)] at H; exact H
        clear H
        have H := H1
        clear H1
        have H' := Aside0.mk H
        clear H
        obtain ⟨Ao20, co20, eo20⟩ := Kd.R_slice HO150.out
        subst eo20
        obtain ⟨Ao21, co21, eo21⟩ := Kd.R_slice HO143.out
        subst eo21
        go_wp2_with (first | ((with_reducible refine gate_callee (f := 18) rfl ?_); refine goesL_ (some 39) rfl rfl Try.func18 (by kernel_rfl) rfl #[.slice Ao20 t147.length co20, .slice Ao21 t140.length co21] rfl (by (try simp only [List.map_toArray, List.map_cons, List.map_nil]); first | done | rfl | (simp only [List.length_drop, List.length_take]; rfl)) ?_; (with_reducible refine (laws_eqInt64S.calls k _ _ t147 _ _ t140 false _ ?side1 ?side2 ?side3 ?side4 A16.out).mono ?_); (case side1 => repeat (first | exact (Kd.R_reads' HO150.out).2.2 | (with_reducible refine Kd.C_alloc ?_ _) | (with_reducible refine Kd.C_drewN ?_ _) | (with_reducible refine Kd.C_drew ?_))); (case side2 => exact (Kd.R_reads' HO150.out).2.1); (case side3 => repeat (first | exact (Kd.R_reads' HO143.out).2.2 | (with_reducible refine Kd.C_alloc ?_ _) | (with_reducible refine Kd.C_drewN ?_ _) | (with_reducible refine Kd.C_drew ?_))); (case side4 => exact (Kd.R_reads' HO143.out).2.1); rintro e w' ⟨rfl, ⟨nd, rfl⟩⟩; refine ⟨_, rfl, ?_⟩))
        go_meet
        case rel => exact ⟨_, (true), (by first | rfl | (simp; done) | (simp [*]; done)), H', ⟨by first | omega | exact Nat.le_refl _⟩, ⟨by (with_reducible repeat (first | apply Kd.R_alloc | apply Kd.R_drewN | apply Kd.R_drew)); exact Kd.R_mono HO143.out (fun _ hk => ⟨hk.1.2, hk.2⟩)⟩, ⟨by (with_reducible repeat (first | apply Kd.R_alloc | apply Kd.R_drewN | apply Kd.R_drew)); exact Kd.R_mono HO146.out (fun _ hk => ⟨hk.1.2, hk.2⟩)⟩, ⟨by (with_reducible repeat (first | apply Kd.R_alloc | apply Kd.R_drewN | apply Kd.R_drew)); exact Kd.R_mono HO150.out (fun _ hk => ⟨hk.1.2, hk.2⟩)⟩, ⟨by repeat (first | (with_reducible first | exact HB.out | apply below_alloc | apply pw_below_drewN | apply below_drew1) | exact HB.out)⟩⟩
    case rest =>
      clear HC9
      try clear c1
      try clear p2
      try clear c3
      try clear c4
      try clear c4b0
      try clear c4b1
      try clear c15
      try clear c16
      try clear c17
      try clear c18
      obtain ⟨kq, x45_8, rfl, HA, HJ8, HO_7, HO_9, HO_10, HB⟩ := hcut
      cases kq with
      | zero => exact absurd HA.out (by simp [laws_FnExactAddChord.j0])
      | succ kj8 =>
        have H := HA.out
        clear HA
        simp only [laws_FnExactAddChord.j0] at H
        by_cases c22 : x45_8 = true
        · subst c22
          have H1 : (some false) = some r := by rw [if_pos rfl] at H; exact H
          clear H
          have H := H1
          clear H1
          obtain rfl := Option.some.inj H
          go_wp2
          go_ret
          exact ⟨by first | rfl | (simp [errW_none, errW_some] <;> rfl) | (simp [*, errW_none, errW_some] <;> rfl), by repeat (first | (with_reducible first | exact HB.out | apply below_alloc | apply pw_below_drewN | apply below_drew1) | exact HB.out)⟩
        · replace c22 := Bool.eq_false_iff.mpr c22
          subst c22
          have H1 : ((laws_toInt64S.f kj8 l0).bind fun t152 => ((laws_eqInt64S.f kj8 t144 t152).bind fun t155 => (if t155 = true then ((laws_markInt64S.f kj8 t144 1).bind fun bt156 => (if bt156.1 < 0 then (laws_FnExactAddChord.j1 kj8 l0 a1 a2 t140 t141 t147 true) else ((laws_eqInt64S.f kj8 t147 t140).bind fun t158 => (if t158 = true then (laws_FnExactAddChord.j1 kj8 l0 a1 a2 t140 t141 t147 (t148 != t141)) else (laws_FnExactAddChord.j1 kj8 l0 a1 a2 t140 t141 t147 true))))) else (some false)))) = some r := by rw [if_neg (show ¬ (false = true) by decide)] at H; exact H
          clear H
          have H := H1
          clear H1
          replace H := Option.bind_eq_some_iff.mp H
          obtain ⟨t152, A230, H⟩ := H
          replace H : ((laws_eqInt64S.f kj8 t144 t152).bind fun t155 => (if t155 = true then ((laws_markInt64S.f kj8 t144 1).bind fun bt156 => (if bt156.1 < 0 then (laws_FnExactAddChord.j1 kj8 l0 a1 a2 t140 t141 t147 true) else ((laws_eqInt64S.f kj8 t147 t140).bind fun t158 => (if t158 = true then (laws_FnExactAddChord.j1 kj8 l0 a1 a2 t140 t141 t147 (t148 != t141)) else (laws_FnExactAddChord.j1 kj8 l0 a1 a2 t140 t141 t147 true))))) else (some false))) = some r := H
          have A23 := Aside0.mk A230
          clear A230
          replace H := Option.bind_eq_some_iff.mp H
          obtain ⟨t155, A240, H⟩ := H
          replace H : (if t155 = true then ((laws_markInt64S.f kj8 t144 1).bind fun bt156 => (if bt156.1 < 0 then (laws_FnExactAddChord.j1 kj8 l0 a1 a2 t140 t141 t147 true) else ((laws_eqInt64S.f kj8 t147 t140).bind fun t158 => (if t158 = true then (laws_FnExactAddChord.j1 kj8 l0 a1 a2 t140 t141 t147 (t148 != t141)) else (laws_FnExactAddChord.j1 kj8 l0 a1 a2 t140 t141 t147 true))))) else (some false)) = some r := H
          have A24 := Aside0.mk A240
          clear A240
          by_cases c25 : t155 = true
          · subst c25
            have H1 : ((laws_markInt64S.f kj8 t144 1).bind fun bt156 => (if bt156.1 < 0 then (laws_FnExactAddChord.j1 kj8 l0 a1 a2 t140 t141 t147 true) else ((laws_eqInt64S.f kj8 t147 t140).bind fun t158 => (if t158 = true then (laws_FnExactAddChord.j1 kj8 l0 a1 a2 t140 t141 t147 (t148 != t141)) else (laws_FnExactAddChord.j1 kj8 l0 a1 a2 t140 t141 t147 true))))) = some r := by rw [if_pos rfl] at H; exact H
            clear H
            have H := H1
            clear H1
            replace H := Option.bind_eq_some_iff.mp H
            obtain ⟨⟨t156, t157⟩, A260, H⟩ := H
            replace H : (if t156 < 0 then (laws_FnExactAddChord.j1 kj8 l0 a1 a2 t140 t141 t147 true) else ((laws_eqInt64S.f kj8 t147 t140).bind fun t158 => (if t158 = true then (laws_FnExactAddChord.j1 kj8 l0 a1 a2 t140 t141 t147 (t148 != t141)) else (laws_FnExactAddChord.j1 kj8 l0 a1 a2 t140 t141 t147 true)))) = some r := H
            have A26 := Aside0.mk A260
            clear A260
            have HC27 := Aside0.mk H
            clear H
            go_upto_region 12 with (first | ((with_reducible refine gate_callee (f := 16) rfl ?_); refine goesL_ (some 48) rfl rfl Try.func16 (by kernel_rfl) rfl #[.slice A0 l0.length c0] rfl (by (try simp only [List.map_toArray, List.map_cons, List.map_nil]); first | done | rfl | (simp only [List.length_drop, List.length_take]; rfl)) ?_; (with_reducible refine (laws_toInt64S.calls kj8 _ _ l0 t152 _ ?side1 ?side2 A23.out).mono ?_); (case side1 => repeat (first | exact (Kd.C_below HR0.out HB.out) | (with_reducible refine Kd.C_alloc ?_ _) | (with_reducible refine Kd.C_drewN ?_ _) | (with_reducible refine Kd.C_drew ?_))); (case side2 => exact HC0.out); rintro e w28 ⟨v153, rfl, ho0, hb⟩; refine ⟨_, rfl, ?_⟩; have n0_ := mk0 (Kd.R_elder' (by (with_reducible repeat (first | apply Kd.R_alloc | apply Kd.R_drewN | apply Kd.R_drew)); exact HO_7.out) (Kd.R_base ho0) hb); have n1_ := mk0 (Kd.R_elder' (by (with_reducible repeat (first | apply Kd.R_alloc | apply Kd.R_drewN | apply Kd.R_drew)); exact HO_9.out) (Kd.R_base ho0) hb); have n2_ := mk0 (Kd.R_elder' (by (with_reducible repeat (first | apply Kd.R_alloc | apply Kd.R_drewN | apply Kd.R_drew)); exact HO_10.out) (Kd.R_base ho0) hb); have n3_ := mk0 (Kd.R_lower (Kd.R_new' (Kd.R_new' (Kd.R_new' ho0 (Kd.R_lt (by (with_reducible repeat (first | apply Kd.R_alloc | apply Kd.R_drewN | apply Kd.R_drew)); exact HO_7.out))) (Kd.R_lt (by (with_reducible repeat (first | apply Kd.R_alloc | apply Kd.R_drewN | apply Kd.R_drew)); exact HO_9.out))) (Kd.R_lt (by (with_reducible repeat (first | apply Kd.R_alloc | apply Kd.R_drewN | apply Kd.R_drew)); exact HO_10.out))) (below_size (by repeat (first | (with_reducible first | exact HB.out | apply below_alloc | apply pw_below_drewN | apply below_drew1) | exact HB.out)))); have n4_ := mk0 (below_step (by repeat (first | (with_reducible first | exact HB.out | apply below_alloc | apply pw_below_drewN | apply below_drew1) | exact HB.out)) hb); clear HO_7; clear HO_9; clear HO_10; clear HB; have HO_7 := n0_; have HO_9 := n1_; have HO_10 := n2_; have HO154 := n3_; have HB := n4_; clear n0_ n1_ n2_ n3_ n4_; (try clear hb); (try clear hb2); (try clear hk); (try clear hi); (try clear ho0); obtain ⟨Ao29, co29, eo29⟩ := Kd.R_slice HO154.out; subst eo29) | ((with_reducible refine gate_callee (f := 18) rfl ?_); refine goesL_ (some 49) rfl rfl Try.func18 (by kernel_rfl) rfl #[.slice Ao14 t144.length co14, .slice Ao29 t152.length co29] rfl (by (try simp only [List.map_toArray, List.map_cons, List.map_nil]); first | done | rfl | (simp only [List.length_drop, List.length_take]; rfl)) ?_; (with_reducible refine (laws_eqInt64S.calls kj8 _ _ t144 _ _ t152 true _ ?side1 ?side2 ?side3 ?side4 A24.out).mono ?_); (case side1 => repeat (first | exact (Kd.R_reads' HO_9.out).2.2 | (with_reducible refine Kd.C_alloc ?_ _) | (with_reducible refine Kd.C_drewN ?_ _) | (with_reducible refine Kd.C_drew ?_))); (case side2 => exact (Kd.R_reads' HO_9.out).2.1); (case side3 => repeat (first | exact (Kd.R_reads' HO154.out).2.2 | (with_reducible refine Kd.C_alloc ?_ _) | (with_reducible refine Kd.C_drewN ?_ _) | (with_reducible refine Kd.C_drew ?_))); (case side4 => exact (Kd.R_reads' HO154.out).2.1); rintro e w' ⟨rfl, ⟨nd, rfl⟩⟩; refine ⟨_, rfl, ?_⟩) | ((with_reducible refine gate_callee (f := 19) rfl ?_); refine goesL_ (some 53) rfl rfl Try.func19 (by kernel_rfl) rfl #[.slice Ao14 t144.length co14, .int .i64 1] rfl (by (try simp only [List.map_toArray, List.map_cons, List.map_nil]); first | done | rfl | (simp only [List.length_drop, List.length_take]; rfl)) ?_; (with_reducible refine (laws_markInt64S.calls kj8 (fun k_ => some k_ = (.slice Ao14 t144.length co14 : Value).ownBlock) (.slice Ao14 t144.length co14) t144 1 t156 t157 w _ ?side1 ?side2 A26.out).mono ?_); (case side1 => repeat (first | (with_reducible first | exact HB.out | apply below_alloc | apply pw_below_drewN | apply below_drew1) | exact HB.out)); (case side2 => exact Kd.R_tight rfl HO_9.out); rintro e w30 ⟨rfl, hy0, hb, hkp⟩; refine ⟨_, rfl, ?_⟩; have n0_ := mk0 (Kd.R_mono (ok' := fun k_ => nb k_ Ao14 t144 co14 ∧ some k_ ≠ (v149 : Value).ownBlock ∧ nb k_ Ao29 t152 co29) (Kd.R_keptB (HO_7.out) hkp (fun k_ hk_ hs_ => (hk_.1.1) hs_)) (fun k_ hk_ => ⟨hk_.1.1.1, hk_.1.1.2, hk_.1.2⟩)); have n1_ := mk0 (Kd.R_reok rfl hy0 (fun k_ e_ => HO_9.out.1 k_ e_)); have n2_ := mk0 (Kd.R_mono (ok' := fun k_ => some k_ ≠ (v142 : Value).ownBlock ∧ nb k_ Ao14 t144 co14 ∧ nb k_ Ao29 t152 co29) (Kd.R_keptB (HO_10.out) hkp (fun k_ hk_ hs_ => (hk_.1.2) hs_)) (fun k_ hk_ => ⟨hk_.1.1.1, hk_.1.1.2, hk_.1.2⟩)); have n3_ := mk0 (Kd.R_mono (ok' := fun k_ => some k_ ≠ (v142 : Value).ownBlock ∧ nb k_ Ao14 t144 co14 ∧ some k_ ≠ (v149 : Value).ownBlock) (Kd.R_keptB (HO154.out) hkp (fun k_ hk_ hs_ => (hk_.1.2) hs_)) (fun k_ hk_ => ⟨hk_.1.1.1.2, hk_.1.1.2, hk_.1.2⟩)); have n4_ := mk0 (hb); clear HO_7; clear HO_9; clear HO_10; clear HO154; clear HB; have HO_7 := n0_; have HO_9 := n1_; have HO_10 := n2_; have HO154 := n3_; have HB := n4_; clear n0_ n1_ n2_ n3_ n4_; (try clear hb); (try clear hkp); (try clear hy0)))
            (try simp only [Act.put, List.setIfInBounds_toArray, List.set_cons_zero, List.set_cons_succ])
            go_cut [66] (fun v66 wc => ∃ (kq : Nat) (x66_26 : Bool), v66 = .bool x66_26 ∧ Aside0 (laws_FnExactAddChord.j1 kq l0 a1 a2 t140 t141 t147 x66_26 = some r) ∧ Aside0 (kq ≤ kj8) ∧ Aside0 (Kd.R (Kd.int .i64) 2 wc w.heap.size (fun k_ => some k_ ≠ (v149 : Value).ownBlock) v142 t140) ∧ Aside0 (Kd.R (Kd.int .i64) 2 wc w.heap.size (fun k_ => some k_ ≠ (v142 : Value).ownBlock) v149 t147) ∧ Aside0 (Below w.heap.size w wc))
            case first =>
              have H := HC27.out
              clear HC27
              by_cases c31 : t156 < 0
              · rw [if_pos c31] at H
                have c31b0 : decide (t156 < 0) = true := decide_eq_true c31
                clear c31
                (first | rw [c31b0] | (simp only [i64_w, i32_w]; rw [c31b0]) | skip)
                have H' := Aside0.mk H
                clear H
                go_wp2
                go_meet
                case rel => exact ⟨_, (true), (by first | rfl | (simp; done) | (simp [*]; done)), H', ⟨by have := HJ8.out; first | omega | exact Nat.le_refl _⟩, ⟨by (with_reducible repeat (first | apply Kd.R_alloc | apply Kd.R_drewN | apply Kd.R_drew)); exact Kd.R_mono HO_7.out (fun _ hk => hk.2.1)⟩, ⟨by (with_reducible repeat (first | apply Kd.R_alloc | apply Kd.R_drewN | apply Kd.R_drew)); exact Kd.R_mono HO_10.out (fun _ hk => hk.1)⟩, ⟨by repeat (first | (with_reducible first | exact HB.out | apply below_alloc | apply pw_below_drewN | apply below_drew1) | exact HB.out)⟩⟩
              · rw [if_neg c31] at H
                have c31b0 : decide (t156 < 0) = false := decide_eq_false c31
                clear c31
                (first | rw [c31b0] | (simp only [i64_w, i32_w]; rw [c31b0]) | skip)
                replace H := Option.bind_eq_some_iff.mp H
                obtain ⟨t158, A320, H⟩ := H
                replace H : (if t158 = true then (laws_FnExactAddChord.j1 kj8 l0 a1 a2 t140 t141 t147 (t148 != t141)) else (laws_FnExactAddChord.j1 kj8 l0 a1 a2 t140 t141 t147 true)) = some r := H
                have A32 := Aside0.mk A320
                clear A320
                by_cases c33 : t158 = true
                · subst c33
                  have H1 : (laws_FnExactAddChord.j1 kj8 l0 a1 a2 t140 t141 t147 (t148 != t141)) = some r := by rw [if_pos rfl] at H; exact H
                  clear H
                  have H := H1
                  clear H1
                  have H' := Aside0.mk H
                  clear H
                  obtain ⟨Ao34, co34, eo34⟩ := Kd.R_slice HO_10.out
                  subst eo34
                  obtain ⟨Ao35, co35, eo35⟩ := Kd.R_slice HO_7.out
                  subst eo35
                  go_wp2_with (first | (go_at_call 18; (with_reducible refine (laws_eqInt64S.calls kj8 _ _ t147 _ _ t140 true _ ?side1 ?side2 ?side3 ?side4 A32.out).mono ?_); (case side1 => repeat (first | exact (Kd.R_reads' HO_10.out).2.2 | (with_reducible refine Kd.C_alloc ?_ _) | (with_reducible refine Kd.C_drewN ?_ _) | (with_reducible refine Kd.C_drew ?_))); (case side2 => exact (Kd.R_reads' HO_10.out).2.1); (case side3 => repeat (first | exact (Kd.R_reads' HO_7.out).2.2 | (with_reducible refine Kd.C_alloc ?_ _) | (with_reducible refine Kd.C_drewN ?_ _) | (with_reducible refine Kd.C_drew ?_))); (case side4 => exact (Kd.R_reads' HO_7.out).2.1); rintro e w' ⟨rfl, ⟨nd, rfl⟩⟩))
                  go_meet
                  case rel => exact ⟨_, ((t148 != t141)), (by first | rfl | (simp; done) | (simp [*]; done)), H', ⟨by have := HJ8.out; first | omega | exact Nat.le_refl _⟩, ⟨by (with_reducible repeat (first | apply Kd.R_alloc | apply Kd.R_drewN | apply Kd.R_drew)); exact Kd.R_mono HO_7.out (fun _ hk => hk.2.1)⟩, ⟨by (with_reducible repeat (first | apply Kd.R_alloc | apply Kd.R_drewN | apply Kd.R_drew)); exact Kd.R_mono HO_10.out (fun _ hk => hk.1)⟩, ⟨by repeat (first | (with_reducible first | exact HB.out | apply below_alloc | apply pw_below_drewN | apply below_drew1) | exact HB.out)⟩⟩
                · replace c33 := Bool.eq_false_iff.mpr c33
                  subst c33
                  have H1 : (laws_FnExactAddChord.j1 kj8 l0 a1 a2 t140 t141 t147 true) = some r := by rw [if_neg (show ¬ (false = true) by decide)] at H; exact H
                  clear H
                  have H := H1
                  clear H1
                  have H' := Aside0.mk H
                  clear H
                  obtain ⟨Ao36, co36, eo36⟩ := Kd.R_slice HO_10.out
                  subst eo36
                  obtain ⟨Ao37, co37, eo37⟩ := Kd.R_slice HO_7.out
                  subst eo37
                  go_wp2_with (first | (go_at_call 18; (with_reducible refine (laws_eqInt64S.calls kj8 _ _ t147 _ _ t140 false _ ?side1 ?side2 ?side3 ?side4 A32.out).mono ?_); (case side1 => repeat (first | exact (Kd.R_reads' HO_10.out).2.2 | (with_reducible refine Kd.C_alloc ?_ _) | (with_reducible refine Kd.C_drewN ?_ _) | (with_reducible refine Kd.C_drew ?_))); (case side2 => exact (Kd.R_reads' HO_10.out).2.1); (case side3 => repeat (first | exact (Kd.R_reads' HO_7.out).2.2 | (with_reducible refine Kd.C_alloc ?_ _) | (with_reducible refine Kd.C_drewN ?_ _) | (with_reducible refine Kd.C_drew ?_))); (case side4 => exact (Kd.R_reads' HO_7.out).2.1); rintro e w' ⟨rfl, ⟨nd, rfl⟩⟩))
                  go_meet
                  case rel => exact ⟨_, (true), (by first | rfl | (simp; done) | (simp [*]; done)), H', ⟨by have := HJ8.out; first | omega | exact Nat.le_refl _⟩, ⟨by (with_reducible repeat (first | apply Kd.R_alloc | apply Kd.R_drewN | apply Kd.R_drew)); exact Kd.R_mono HO_7.out (fun _ hk => hk.2.1)⟩, ⟨by (with_reducible repeat (first | apply Kd.R_alloc | apply Kd.R_drewN | apply Kd.R_drew)); exact Kd.R_mono HO_10.out (fun _ hk => hk.1)⟩, ⟨by repeat (first | (with_reducible first | exact HB.out | apply below_alloc | apply pw_below_drewN | apply below_drew1) | exact HB.out)⟩⟩
            case rest =>
              clear HC27
              try clear c1
              try clear c2
              try clear p2
              try clear c3
              try clear c4
              try clear c4b0
              try clear c4b1
              try clear c15
              try clear c16
              try clear c17
              try clear c18
              try clear c19
              try clear c22
              try clear c25
              try clear c31
              try clear c31b0
              try clear c33
              try clear p2
              obtain ⟨kq, x66_26, rfl, HA, HJ26, HO_7, HO_10, HB⟩ := hcut
              cases kq with
              | zero => exact absurd HA.out (by simp [laws_FnExactAddChord.j1])
              | succ kj26 =>
                have H := HA.out
                clear HA
                simp only [laws_FnExactAddChord.j1] at H
                by_cases c38 : x66_26 = true
                · subst c38
                  have H1 : (some false) = some r := by rw [if_pos rfl] at H; exact H
                  clear H
                  have H := H1
                  clear H1
                  obtain rfl := Option.some.inj H
                  go_wp2
                  go_ret
                  exact ⟨by first | rfl | (simp [errW_none, errW_some] <;> rfl) | (simp [*, errW_none, errW_some] <;> rfl), by repeat (first | (with_reducible first | exact HB.out | apply below_alloc | apply pw_below_drewN | apply below_drew1) | exact HB.out)⟩
                · replace c38 := Bool.eq_false_iff.mpr c38
                  subst c38
                  have H1 : ((laws_markInt64S.f kj26 t147 1).bind fun bt159 => ((laws_heldInt64S.f kj26 bt159.2 1).bind fun t161 => (if t161 < 0 then (some false) else (if t161 = bt159.1 then ((laws_toInt64S.f kj26 l0).bind fun t162 => ((impl_AddChord.f kj26 t162 a1 a2).bind fun bt165 => ((laws_eqInt64S.f kj26 bt165.1 t140).bind fun t169 => (if t169 = true then (laws_FnExactAddChord.j2 kj26 bt159.2 bt159.1 (bt165.2 != t141)) else (laws_FnExactAddChord.j2 kj26 bt159.2 bt159.1 true))))) else (some false))))) = some r := by rw [if_neg (show ¬ (false = true) by decide)] at H; exact H
                  clear H
                  have H := H1
                  clear H1
                  replace H := Option.bind_eq_some_iff.mp H
                  obtain ⟨⟨t159, t160⟩, A390, H⟩ := H
                  replace H : ((laws_heldInt64S.f kj26 t160 1).bind fun t161 => (if t161 < 0 then (some false) else (if t161 = t159 then ((laws_toInt64S.f kj26 l0).bind fun t162 => ((impl_AddChord.f kj26 t162 a1 a2).bind fun bt165 => ((laws_eqInt64S.f kj26 bt165.1 t140).bind fun t169 => (if t169 = true then (laws_FnExactAddChord.j2 kj26 t160 t159 (bt165.2 != t141)) else (laws_FnExactAddChord.j2 kj26 t160 t159 true))))) else (some false)))) = some r := H
                  have A39 := Aside0.mk A390
                  clear A390
                  replace H := Option.bind_eq_some_iff.mp H
                  obtain ⟨t161, A400, H⟩ := H
                  replace H : (if t161 < 0 then (some false) else (if t161 = t159 then ((laws_toInt64S.f kj26 l0).bind fun t162 => ((impl_AddChord.f kj26 t162 a1 a2).bind fun bt165 => ((laws_eqInt64S.f kj26 bt165.1 t140).bind fun t169 => (if t169 = true then (laws_FnExactAddChord.j2 kj26 t160 t159 (bt165.2 != t141)) else (laws_FnExactAddChord.j2 kj26 t160 t159 true))))) else (some false))) = some r := H
                  have A40 := Aside0.mk A400
                  clear A400
                  by_cases c41 : t161 < 0
                  · rw [if_pos c41] at H
                    have c41b0 : decide (t161 < 0) = true := decide_eq_true c41
                    clear c41
                    obtain rfl := Option.some.inj H
                    obtain ⟨Ao42, co42, eo42⟩ := Kd.R_slice HO_10.out
                    subst eo42
                    go_wp2_with (first | ((with_reducible refine gate_callee (f := 19) rfl ?_); refine goesL_ (some 69) rfl rfl Try.func19 (by kernel_rfl) rfl #[.slice Ao42 t147.length co42, .int .i64 1] rfl (by (try simp only [List.map_toArray, List.map_cons, List.map_nil]); first | done | rfl | (simp only [List.length_drop, List.length_take]; rfl)) ?_; (with_reducible refine (laws_markInt64S.calls kj26 (fun k_ => some k_ = (.slice Ao42 t147.length co42 : Value).ownBlock) (.slice Ao42 t147.length co42) t147 1 t159 t160 w _ ?side1 ?side2 A39.out).mono ?_); (case side1 => repeat (first | (with_reducible first | exact HB.out | apply below_alloc | apply pw_below_drewN | apply below_drew1) | exact HB.out)); (case side2 => exact Kd.R_tight rfl HO_10.out); rintro e w43 ⟨rfl, hy0, hb, hkp⟩; refine ⟨_, rfl, ?_⟩; have n0_ := mk0 (Kd.R_mono (ok' := fun k_ => nb k_ Ao42 t147 co42) (Kd.R_keptB (HO_7.out) hkp (fun k_ hk_ hs_ => (hk_) hs_)) (fun k_ hk_ => hk_.1)); have n1_ := mk0 (Kd.R_reok rfl hy0 (fun k_ e_ => HO_10.out.1 k_ e_)); have n2_ := mk0 (hb); clear HO_7; clear HO_10; clear HB; have HO_7 := n0_; have HO_10 := n1_; have HB := n2_; clear n0_ n1_ n2_; (try clear hb); (try clear hkp); (try clear hy0)) | ((with_reducible refine gate_callee (f := 20) rfl ?_); refine goesL_ (some 72) rfl rfl Try.func20 (by kernel_rfl) rfl #[.slice Ao42 t160.length co42, .int .i64 1] rfl (by (try simp only [List.map_toArray, List.map_cons, List.map_nil]); first | done | (rw [show t160.length = t147.length from (Kd.R_reads' HO_10.out).1.symm] <;> rfl) | rfl | (simp only [List.length_drop, List.length_take]; rfl)) ?_; (with_reducible refine (laws_heldInt64S.calls kj26 _ _ t160 1 t161 _ ?side1 ?side2 A40.out).mono ?_); (case side1 => repeat (first | exact (Kd.R_reads' HO_10.out).2.2 | (with_reducible refine Kd.C_alloc ?_ _) | (with_reducible refine Kd.C_drewN ?_ _) | (with_reducible refine Kd.C_drew ?_))); (case side2 => rw [show t160.length = t147.length from (Kd.R_reads' HO_10.out).1.symm]; exact (Kd.R_reads' HO_10.out).2.1); rintro e w' ⟨rfl, ⟨nd, rfl⟩⟩; refine ⟨_, rfl, ?_⟩))
                    go_ret
                    exact ⟨by first | rfl | (simp [errW_none, errW_some] <;> rfl) | (simp [*, errW_none, errW_some] <;> rfl), by repeat (first | (with_reducible first | exact HB.out | apply below_alloc | apply pw_below_drewN | apply below_drew1) | exact HB.out)⟩
                  · rw [if_neg c41] at H
                    have c41b0 : decide (t161 < 0) = false := decide_eq_false c41
                    clear c41
                    by_cases c44 : t161 = t159
                    · rw [if_pos c44] at H
                      have c44b0 : (t161 == t159) = true := beq_iff_eq.mpr c44
                      have c44b1 : (t161 != t159) = false := bne_eq_false_iff_eq.mpr c44
                      clear c44
                      replace H := Option.bind_eq_some_iff.mp H
                      obtain ⟨t162, A450, H⟩ := H
                      replace H : ((impl_AddChord.f kj26 t162 a1 a2).bind fun bt165 => ((laws_eqInt64S.f kj26 bt165.1 t140).bind fun t169 => (if t169 = true then (laws_FnExactAddChord.j2 kj26 t160 t159 (bt165.2 != t141)) else (laws_FnExactAddChord.j2 kj26 t160 t159 true)))) = some r := H
                      have A45 := Aside0.mk A450
                      clear A450
                      replace H := Option.bind_eq_some_iff.mp H
                      obtain ⟨⟨t165, t166⟩, A460, H⟩ := H
                      replace H : ((laws_eqInt64S.f kj26 t165 t140).bind fun t169 => (if t169 = true then (laws_FnExactAddChord.j2 kj26 t160 t159 (t166 != t141)) else (laws_FnExactAddChord.j2 kj26 t160 t159 true))) = some r := H
                      have A46 := Aside0.mk A460
                      clear A460
                      have HC47 := Aside0.mk H
                      clear H
                      obtain ⟨Ao48, co48, eo48⟩ := Kd.R_slice HO_10.out
                      subst eo48
                      go_upto_region 23 with (first | ((with_reducible refine gate_callee (f := 19) rfl ?_); refine goesL_ (some 69) rfl rfl Try.func19 (by kernel_rfl) rfl #[.slice Ao48 t147.length co48, .int .i64 1] rfl (by (try simp only [List.map_toArray, List.map_cons, List.map_nil]); first | done | rfl | (simp only [List.length_drop, List.length_take]; rfl)) ?_; (with_reducible refine (laws_markInt64S.calls kj26 (fun k_ => some k_ = (.slice Ao48 t147.length co48 : Value).ownBlock) (.slice Ao48 t147.length co48) t147 1 t159 t160 w _ ?side1 ?side2 A39.out).mono ?_); (case side1 => repeat (first | (with_reducible first | exact HB.out | apply below_alloc | apply pw_below_drewN | apply below_drew1) | exact HB.out)); (case side2 => exact Kd.R_tight rfl HO_10.out); rintro e w49 ⟨rfl, hy0, hb, hkp⟩; refine ⟨_, rfl, ?_⟩; have n0_ := mk0 (Kd.R_mono (ok' := fun k_ => nb k_ Ao48 t147 co48) (Kd.R_keptB (HO_7.out) hkp (fun k_ hk_ hs_ => (hk_) hs_)) (fun k_ hk_ => hk_.1)); have n1_ := mk0 (Kd.R_reok rfl hy0 (fun k_ e_ => HO_10.out.1 k_ e_)); have n2_ := mk0 (hb); clear HO_7; clear HO_10; clear HB; have HO_7 := n0_; have HO_10 := n1_; have HB := n2_; clear n0_ n1_ n2_; (try clear hb); (try clear hkp); (try clear hy0)) | ((with_reducible refine gate_callee (f := 20) rfl ?_); refine goesL_ (some 72) rfl rfl Try.func20 (by kernel_rfl) rfl #[.slice Ao48 t160.length co48, .int .i64 1] rfl (by (try simp only [List.map_toArray, List.map_cons, List.map_nil]); first | done | (rw [show t160.length = t147.length from (Kd.R_reads' HO_10.out).1.symm] <;> rfl) | rfl | (simp only [List.length_drop, List.length_take]; rfl)) ?_; (with_reducible refine (laws_heldInt64S.calls kj26 _ _ t160 1 t161 _ ?side1 ?side2 A40.out).mono ?_); (case side1 => repeat (first | exact (Kd.R_reads' HO_10.out).2.2 | (with_reducible refine Kd.C_alloc ?_ _) | (with_reducible refine Kd.C_drewN ?_ _) | (with_reducible refine Kd.C_drew ?_))); (case side2 => rw [show t160.length = t147.length from (Kd.R_reads' HO_10.out).1.symm]; exact (Kd.R_reads' HO_10.out).2.1); rintro e w' ⟨rfl, ⟨nd, rfl⟩⟩; refine ⟨_, rfl, ?_⟩) | ((with_reducible refine gate_callee (f := 16) rfl ?_); refine goesL_ (some 80) rfl rfl Try.func16 (by kernel_rfl) rfl #[.slice A0 l0.length c0] rfl (by (try simp only [List.map_toArray, List.map_cons, List.map_nil]); first | done | rfl | (simp only [List.length_drop, List.length_take]; rfl)) ?_; (with_reducible refine (laws_toInt64S.calls kj26 _ _ l0 t162 _ ?side1 ?side2 A45.out).mono ?_); (case side1 => repeat (first | exact (Kd.C_below HR0.out (by repeat (first | (with_reducible first | exact HB.out | apply below_alloc | apply pw_below_drewN | apply below_drew1) | exact HB.out))) | (with_reducible refine Kd.C_alloc ?_ _) | (with_reducible refine Kd.C_drewN ?_ _) | (with_reducible refine Kd.C_drew ?_))); (case side2 => exact HC0.out); rintro e w50 ⟨v163, rfl, ho0, hb⟩; refine ⟨_, rfl, ?_⟩; have n0_ := mk0 (Kd.R_elder' (by (with_reducible repeat (first | apply Kd.R_alloc | apply Kd.R_drewN | apply Kd.R_drew)); exact HO_7.out) (Kd.R_base ho0) hb); have n1_ := mk0 (Kd.R_elder' (by (with_reducible repeat (first | apply Kd.R_alloc | apply Kd.R_drewN | apply Kd.R_drew)); exact HO_10.out) (Kd.R_base ho0) hb); have n2_ := mk0 (Kd.R_lower (Kd.R_new' (Kd.R_new' ho0 (Kd.R_lt (by (with_reducible repeat (first | apply Kd.R_alloc | apply Kd.R_drewN | apply Kd.R_drew)); exact HO_7.out))) (Kd.R_lt (by (with_reducible repeat (first | apply Kd.R_alloc | apply Kd.R_drewN | apply Kd.R_drew)); exact HO_10.out))) (below_size (by repeat (first | (with_reducible first | exact HB.out | apply below_alloc | apply pw_below_drewN | apply below_drew1) | exact HB.out)))); have n3_ := mk0 (below_step (by repeat (first | (with_reducible first | exact HB.out | apply below_alloc | apply pw_below_drewN | apply below_drew1) | exact HB.out)) hb); clear HO_7; clear HO_10; clear HB; have HO_7 := n0_; have HO_10 := n1_; have HO164 := n2_; have HB := n3_; clear n0_ n1_ n2_ n3_; (try clear hb); (try clear hb2); (try clear hk); (try clear hi); (try clear ho0); obtain ⟨Ao51, co51, eo51⟩ := Kd.R_slice HO164.out; subst eo51) | ((with_reducible refine gate_callee (f := 17) rfl ?_); refine goesL_ (some 83) rfl rfl Try.func17 (by kernel_rfl) rfl #[.slice Ao51 t162.length co51, .int .i64 a1, .int .i64 a2] rfl (by (try simp only [List.map_toArray, List.map_cons, List.map_nil]); first | done | rfl | (simp only [List.length_drop, List.length_take]; rfl)) ?_; (with_reducible refine (impl_AddChord.calls kj26 _ _ t162 a1 a2 t165 t166 _ ?side1 ?side2 A46.out).mono ?_); (case side1 => repeat (first | exact (Kd.R_reads' HO164.out).2.2 | (with_reducible refine Kd.C_alloc ?_ _) | (with_reducible refine Kd.C_drewN ?_ _) | (with_reducible refine Kd.C_drew ?_))); (case side2 => exact (Kd.R_reads' HO164.out).2.1); rintro e w52 ⟨v167, rfl, ho0, hb⟩; refine ⟨_, rfl, ?_⟩; have n0_ := mk0 (Kd.R_elder' (by (with_reducible repeat (first | apply Kd.R_alloc | apply Kd.R_drewN | apply Kd.R_drew)); exact HO_7.out) (Kd.R_base ho0) hb); have n1_ := mk0 (Kd.R_elder' (by (with_reducible repeat (first | apply Kd.R_alloc | apply Kd.R_drewN | apply Kd.R_drew)); exact HO_10.out) (Kd.R_base ho0) hb); have n2_ := mk0 (Kd.R_elder' (by (with_reducible repeat (first | apply Kd.R_alloc | apply Kd.R_drewN | apply Kd.R_drew)); exact HO164.out) (Kd.R_base ho0) hb); have n3_ := mk0 (Kd.R_lower (Kd.R_new' (Kd.R_new' (Kd.R_new' ho0 (Kd.R_lt (by (with_reducible repeat (first | apply Kd.R_alloc | apply Kd.R_drewN | apply Kd.R_drew)); exact HO_7.out))) (Kd.R_lt (by (with_reducible repeat (first | apply Kd.R_alloc | apply Kd.R_drewN | apply Kd.R_drew)); exact HO_10.out))) (Kd.R_lt (by (with_reducible repeat (first | apply Kd.R_alloc | apply Kd.R_drewN | apply Kd.R_drew)); exact HO164.out))) (below_size (by repeat (first | (with_reducible first | exact HB.out | apply below_alloc | apply pw_below_drewN | apply below_drew1) | exact HB.out)))); have n4_ := mk0 (below_step (by repeat (first | (with_reducible first | exact HB.out | apply below_alloc | apply pw_below_drewN | apply below_drew1) | exact HB.out)) hb); clear HO_7; clear HO_10; clear HO164; clear HB; have HO_7 := n0_; have HO_10 := n1_; have HO164 := n2_; have HO168 := n3_; have HB := n4_; clear n0_ n1_ n2_ n3_ n4_; (try clear hb); (try clear hb2); (try clear hk); (try clear hi); (try clear ho0)))
                      (try simp only [Act.put, List.setIfInBounds_toArray, List.set_cons_zero, List.set_cons_succ])
                      go_cut [94] (fun v94 wc => ∃ (kq : Nat) (x94_46 : Bool), v94 = .bool x94_46 ∧ Aside0 (laws_FnExactAddChord.j2 kq t160 t159 x94_46 = some r) ∧ Aside0 (kq ≤ kj26) ∧ Aside0 (Kd.R (Kd.int .i64) 2 wc w.heap.size (fun _ => True) (.slice Ao48 t147.length co48) t160) ∧ Aside0 (Below w.heap.size w wc))
                      case first =>
                        have H := HC47.out
                        clear HC47
                        replace H := Option.bind_eq_some_iff.mp H
                        obtain ⟨t169, A530, H⟩ := H
                        replace H : (if t169 = true then (laws_FnExactAddChord.j2 kj26 t160 t159 (t166 != t141)) else (laws_FnExactAddChord.j2 kj26 t160 t159 true)) = some r := H
                        have A53 := Aside0.mk A530
                        clear A530
                        by_cases c54 : t169 = true
                        · subst c54
                          have H1 : (laws_FnExactAddChord.j2 kj26 t160 t159 (t166 != t141)) = some r := by rw [if_pos rfl] at H; exact H
                          clear H
                          have H := H1
                          clear H1
                          have H' := Aside0.mk H
                          clear H
                          obtain ⟨Ao55, co55, eo55⟩ := Kd.R_slice HO168.out
                          subst eo55
                          obtain ⟨Ao56, co56, eo56⟩ := Kd.R_slice HO_7.out
                          subst eo56
                          go_wp2_with (first | ((with_reducible refine gate_callee (f := 18) rfl ?_); refine goesL_ (some 88) rfl rfl Try.func18 (by kernel_rfl) rfl #[.slice Ao55 t165.length co55, .slice Ao56 t140.length co56] rfl (by (try simp only [List.map_toArray, List.map_cons, List.map_nil]); first | done | rfl | (simp only [List.length_drop, List.length_take]; rfl)) ?_; (with_reducible refine (laws_eqInt64S.calls kj26 _ _ t165 _ _ t140 true _ ?side1 ?side2 ?side3 ?side4 A53.out).mono ?_); (case side1 => repeat (first | exact (Kd.R_reads' HO168.out).2.2 | (with_reducible refine Kd.C_alloc ?_ _) | (with_reducible refine Kd.C_drewN ?_ _) | (with_reducible refine Kd.C_drew ?_))); (case side2 => exact (Kd.R_reads' HO168.out).2.1); (case side3 => repeat (first | exact (Kd.R_reads' HO_7.out).2.2 | (with_reducible refine Kd.C_alloc ?_ _) | (with_reducible refine Kd.C_drewN ?_ _) | (with_reducible refine Kd.C_drew ?_))); (case side4 => exact (Kd.R_reads' HO_7.out).2.1); rintro e w' ⟨rfl, ⟨nd, rfl⟩⟩; refine ⟨_, rfl, ?_⟩))
                          go_meet
                          case rel => exact ⟨_, ((t166 != t141)), (by first | rfl | (simp; done) | (simp [*]; done)), H', ⟨by have := HJ8.out; have := HJ26.out; first | omega | exact Nat.le_refl _⟩, ⟨by (with_reducible repeat (first | apply Kd.R_alloc | apply Kd.R_drewN | apply Kd.R_drew)); exact Kd.R_mono HO_10.out (fun _ hk => trivial)⟩, ⟨by repeat (first | (with_reducible first | exact HB.out | apply below_alloc | apply pw_below_drewN | apply below_drew1) | exact HB.out)⟩⟩
                        · replace c54 := Bool.eq_false_iff.mpr c54
                          subst c54
                          have H1 : (laws_FnExactAddChord.j2 kj26 t160 t159 true) = some r := by rw [if_neg (show ¬ (false = true) by decide)] at H; exact H
                          clear H
                          have H := H1
                          clear H1
                          have H' := Aside0.mk H
                          clear H
                          obtain ⟨Ao57, co57, eo57⟩ := Kd.R_slice HO168.out
                          subst eo57
                          obtain ⟨Ao58, co58, eo58⟩ := Kd.R_slice HO_7.out
                          subst eo58
                          go_wp2_with (first | ((with_reducible refine gate_callee (f := 18) rfl ?_); refine goesL_ (some 88) rfl rfl Try.func18 (by kernel_rfl) rfl #[.slice Ao57 t165.length co57, .slice Ao58 t140.length co58] rfl (by (try simp only [List.map_toArray, List.map_cons, List.map_nil]); first | done | rfl | (simp only [List.length_drop, List.length_take]; rfl)) ?_; (with_reducible refine (laws_eqInt64S.calls kj26 _ _ t165 _ _ t140 false _ ?side1 ?side2 ?side3 ?side4 A53.out).mono ?_); (case side1 => repeat (first | exact (Kd.R_reads' HO168.out).2.2 | (with_reducible refine Kd.C_alloc ?_ _) | (with_reducible refine Kd.C_drewN ?_ _) | (with_reducible refine Kd.C_drew ?_))); (case side2 => exact (Kd.R_reads' HO168.out).2.1); (case side3 => repeat (first | exact (Kd.R_reads' HO_7.out).2.2 | (with_reducible refine Kd.C_alloc ?_ _) | (with_reducible refine Kd.C_drewN ?_ _) | (with_reducible refine Kd.C_drew ?_))); (case side4 => exact (Kd.R_reads' HO_7.out).2.1); rintro e w' ⟨rfl, ⟨nd, rfl⟩⟩; refine ⟨_, rfl, ?_⟩))
                          go_meet
                          case rel => exact ⟨_, (true), (by first | rfl | (simp; done) | (simp [*]; done)), H', ⟨by have := HJ8.out; have := HJ26.out; first | omega | exact Nat.le_refl _⟩, ⟨by (with_reducible repeat (first | apply Kd.R_alloc | apply Kd.R_drewN | apply Kd.R_drew)); exact Kd.R_mono HO_10.out (fun _ hk => trivial)⟩, ⟨by repeat (first | (with_reducible first | exact HB.out | apply below_alloc | apply pw_below_drewN | apply below_drew1) | exact HB.out)⟩⟩
                      case rest =>
                        clear HC47
                        try clear c1
                        try clear c2
                        try clear p2
                        try clear c3
                        try clear c4
                        try clear c4b0
                        try clear c4b1
                        try clear c5
                        try clear c15
                        try clear c16
                        try clear c17
                        try clear c18
                        try clear c19
                        try clear c20
                        try clear c22
                        try clear c25
                        try clear c31
                        try clear c31b0
                        try clear c33
                        try clear c38
                        try clear c41
                        try clear c41b0
                        try clear c44
                        try clear c44b0
                        try clear c44b1
                        try clear c54
                        try clear p2
                        obtain ⟨kq, x94_46, rfl, HA, HJ46, HO_10, HB⟩ := hcut
                        have hl10_46 := (Kd.R_reads' HO_10.out).1
                        rw [hl10_46] at HO_10
                        (try simp only [hl10_46])
                        cases kq with
                        | zero => exact absurd HA.out (by simp [laws_FnExactAddChord.j2])
                        | succ kj46 =>
                          have H := HA.out
                          clear HA
                          simp only [laws_FnExactAddChord.j2] at H
                          by_cases c59 : x94_46 = true
                          · subst c59
                            have H1 : (some false) = some r := by rw [if_pos rfl] at H; exact H
                            clear H
                            have H := H1
                            clear H1
                            obtain rfl := Option.some.inj H
                            go_wp2
                            go_ret
                            exact ⟨by first | rfl | (simp [errW_none, errW_some] <;> rfl) | (simp [*, errW_none, errW_some] <;> rfl), by repeat (first | (with_reducible first | exact HB.out | apply below_alloc | apply pw_below_drewN | apply below_drew1) | exact HB.out)⟩
                          · replace c59 := Bool.eq_false_iff.mpr c59
                            subst c59
                            have H1 : ((laws_heldInt64S.f kj46 t160 1).bind fun t170 => (if t170 < 0 then (some false) else (if t170 = t159 then (some true) else (some false)))) = some r := by rw [if_neg (show ¬ (false = true) by decide)] at H; exact H
                            clear H
                            have H := H1
                            clear H1
                            replace H := Option.bind_eq_some_iff.mp H
                            obtain ⟨t170, A600, H⟩ := H
                            replace H : (if t170 < 0 then (some false) else (if t170 = t159 then (some true) else (some false))) = some r := H
                            have A60 := Aside0.mk A600
                            clear A600
                            by_cases c61 : t170 < 0
                            · rw [if_pos c61] at H
                              have c61b0 : decide (t170 < 0) = true := decide_eq_true c61
                              clear c61
                              obtain rfl := Option.some.inj H
                              go_wp2_with (first | ((with_reducible refine gate_callee (f := 20) rfl ?_); refine goesL_ (some 97) rfl rfl Try.func20 (by kernel_rfl) rfl #[.slice Ao48 t160.length co48, .int .i64 1] rfl (by (try simp only [List.map_toArray, List.map_cons, List.map_nil]); first | done | rfl | (simp only [List.length_drop, List.length_take]; rfl)) ?_; (with_reducible refine (laws_heldInt64S.calls kj46 _ _ t160 1 t170 _ ?side1 ?side2 A60.out).mono ?_); (case side1 => repeat (first | exact (Kd.R_reads' HO_10.out).2.2 | (with_reducible refine Kd.C_alloc ?_ _) | (with_reducible refine Kd.C_drewN ?_ _) | (with_reducible refine Kd.C_drew ?_))); (case side2 => exact (Kd.R_reads' HO_10.out).2.1); rintro e w' ⟨rfl, ⟨nd, rfl⟩⟩; refine ⟨_, rfl, ?_⟩))
                              go_ret
                              exact ⟨by first | rfl | (simp [errW_none, errW_some] <;> rfl) | (simp [*, errW_none, errW_some] <;> rfl), by repeat (first | (with_reducible first | exact HB.out | apply below_alloc | apply pw_below_drewN | apply below_drew1) | exact HB.out)⟩
                            · rw [if_neg c61] at H
                              have c61b0 : decide (t170 < 0) = false := decide_eq_false c61
                              clear c61
                              by_cases c62 : t170 = t159
                              · rw [if_pos c62] at H
                                have c62b0 : (t170 == t159) = true := beq_iff_eq.mpr c62
                                have c62b1 : (t170 != t159) = false := bne_eq_false_iff_eq.mpr c62
                                clear c62
                                obtain rfl := Option.some.inj H
                                go_wp2_with (first | ((with_reducible refine gate_callee (f := 20) rfl ?_); refine goesL_ (some 97) rfl rfl Try.func20 (by kernel_rfl) rfl #[.slice Ao48 t160.length co48, .int .i64 1] rfl (by (try simp only [List.map_toArray, List.map_cons, List.map_nil]); first | done | rfl | (simp only [List.length_drop, List.length_take]; rfl)) ?_; (with_reducible refine (laws_heldInt64S.calls kj46 _ _ t160 1 t170 _ ?side1 ?side2 A60.out).mono ?_); (case side1 => repeat (first | exact (Kd.R_reads' HO_10.out).2.2 | (with_reducible refine Kd.C_alloc ?_ _) | (with_reducible refine Kd.C_drewN ?_ _) | (with_reducible refine Kd.C_drew ?_))); (case side2 => exact (Kd.R_reads' HO_10.out).2.1); rintro e w' ⟨rfl, ⟨nd, rfl⟩⟩; refine ⟨_, rfl, ?_⟩))
                                go_ret
                                exact ⟨by first | rfl | (simp [errW_none, errW_some] <;> rfl) | (simp [*, errW_none, errW_some] <;> rfl), by repeat (first | (with_reducible first | exact HB.out | apply below_alloc | apply pw_below_drewN | apply below_drew1) | exact HB.out)⟩
                              · rw [if_neg c62] at H
                                have c62b0 : (t170 == t159) = false := beq_eq_false_iff_ne.mpr c62
                                have c62b1 : (t170 != t159) = true := bne_iff_ne.mpr c62
                                obtain rfl := Option.some.inj H
                                go_wp2_with (first | ((with_reducible refine gate_callee (f := 20) rfl ?_); refine goesL_ (some 97) rfl rfl Try.func20 (by kernel_rfl) rfl #[.slice Ao48 t160.length co48, .int .i64 1] rfl (by (try simp only [List.map_toArray, List.map_cons, List.map_nil]); first | done | rfl | (simp only [List.length_drop, List.length_take]; rfl)) ?_; (with_reducible refine (laws_heldInt64S.calls kj46 _ _ t160 1 t170 _ ?side1 ?side2 A60.out).mono ?_); (case side1 => repeat (first | exact (Kd.R_reads' HO_10.out).2.2 | (with_reducible refine Kd.C_alloc ?_ _) | (with_reducible refine Kd.C_drewN ?_ _) | (with_reducible refine Kd.C_drew ?_))); (case side2 => exact (Kd.R_reads' HO_10.out).2.1); rintro e w' ⟨rfl, ⟨nd, rfl⟩⟩; refine ⟨_, rfl, ?_⟩))
                                go_ret
                                exact ⟨by first | rfl | (simp [errW_none, errW_some] <;> rfl) | (simp [*, errW_none, errW_some] <;> rfl), by repeat (first | (with_reducible first | exact HB.out | apply below_alloc | apply pw_below_drewN | apply below_drew1) | exact HB.out)⟩
                    · rw [if_neg c44] at H
                      have c44b0 : (t161 == t159) = false := beq_eq_false_iff_ne.mpr c44
                      have c44b1 : (t161 != t159) = true := bne_iff_ne.mpr c44
                      obtain rfl := Option.some.inj H
                      obtain ⟨Ao63, co63, eo63⟩ := Kd.R_slice HO_10.out
                      subst eo63
                      go_wp2_with (first | ((with_reducible refine gate_callee (f := 19) rfl ?_); refine goesL_ (some 69) rfl rfl Try.func19 (by kernel_rfl) rfl #[.slice Ao63 t147.length co63, .int .i64 1] rfl (by (try simp only [List.map_toArray, List.map_cons, List.map_nil]); first | done | rfl | (simp only [List.length_drop, List.length_take]; rfl)) ?_; (with_reducible refine (laws_markInt64S.calls kj26 (fun k_ => some k_ = (.slice Ao63 t147.length co63 : Value).ownBlock) (.slice Ao63 t147.length co63) t147 1 t159 t160 w _ ?side1 ?side2 A39.out).mono ?_); (case side1 => repeat (first | (with_reducible first | exact HB.out | apply below_alloc | apply pw_below_drewN | apply below_drew1) | exact HB.out)); (case side2 => exact Kd.R_tight rfl HO_10.out); rintro e w64 ⟨rfl, hy0, hb, hkp⟩; refine ⟨_, rfl, ?_⟩; have n0_ := mk0 (Kd.R_mono (ok' := fun k_ => nb k_ Ao63 t147 co63) (Kd.R_keptB (HO_7.out) hkp (fun k_ hk_ hs_ => (hk_) hs_)) (fun k_ hk_ => hk_.1)); have n1_ := mk0 (Kd.R_reok rfl hy0 (fun k_ e_ => HO_10.out.1 k_ e_)); have n2_ := mk0 (hb); clear HO_7; clear HO_10; clear HB; have HO_7 := n0_; have HO_10 := n1_; have HB := n2_; clear n0_ n1_ n2_; (try clear hb); (try clear hkp); (try clear hy0)) | ((with_reducible refine gate_callee (f := 20) rfl ?_); refine goesL_ (some 72) rfl rfl Try.func20 (by kernel_rfl) rfl #[.slice Ao63 t160.length co63, .int .i64 1] rfl (by (try simp only [List.map_toArray, List.map_cons, List.map_nil]); first | done | (rw [show t160.length = t147.length from (Kd.R_reads' HO_10.out).1.symm] <;> rfl) | rfl | (simp only [List.length_drop, List.length_take]; rfl)) ?_; (with_reducible refine (laws_heldInt64S.calls kj26 _ _ t160 1 t161 _ ?side1 ?side2 A40.out).mono ?_); (case side1 => repeat (first | exact (Kd.R_reads' HO_10.out).2.2 | (with_reducible refine Kd.C_alloc ?_ _) | (with_reducible refine Kd.C_drewN ?_ _) | (with_reducible refine Kd.C_drew ?_))); (case side2 => rw [show t160.length = t147.length from (Kd.R_reads' HO_10.out).1.symm]; exact (Kd.R_reads' HO_10.out).2.1); rintro e w' ⟨rfl, ⟨nd, rfl⟩⟩; refine ⟨_, rfl, ?_⟩))
                      go_ret
                      exact ⟨by first | rfl | (simp [errW_none, errW_some] <;> rfl) | (simp [*, errW_none, errW_some] <;> rfl), by repeat (first | (with_reducible first | exact HB.out | apply below_alloc | apply pw_below_drewN | apply below_drew1) | exact HB.out)⟩
          · replace c25 := Bool.eq_false_iff.mpr c25
            subst c25
            have H1 : (some false) = some r := by rw [if_neg (show ¬ (false = true) by decide)] at H; exact H
            clear H
            have H := H1
            clear H1
            obtain rfl := Option.some.inj H
            go_wp2_with (first | ((with_reducible refine gate_callee (f := 16) rfl ?_); refine goesL_ (some 48) rfl rfl Try.func16 (by kernel_rfl) rfl #[.slice A0 l0.length c0] rfl (by (try simp only [List.map_toArray, List.map_cons, List.map_nil]); first | done | rfl | (simp only [List.length_drop, List.length_take]; rfl)) ?_; (with_reducible refine (laws_toInt64S.calls kj8 _ _ l0 t152 _ ?side1 ?side2 A23.out).mono ?_); (case side1 => repeat (first | exact (Kd.C_below HR0.out HB.out) | (with_reducible refine Kd.C_alloc ?_ _) | (with_reducible refine Kd.C_drewN ?_ _) | (with_reducible refine Kd.C_drew ?_))); (case side2 => exact HC0.out); rintro e w65 ⟨v153, rfl, ho0, hb⟩; refine ⟨_, rfl, ?_⟩; have n0_ := mk0 (Kd.R_elder' (by (with_reducible repeat (first | apply Kd.R_alloc | apply Kd.R_drewN | apply Kd.R_drew)); exact HO_7.out) (Kd.R_base ho0) hb); have n1_ := mk0 (Kd.R_elder' (by (with_reducible repeat (first | apply Kd.R_alloc | apply Kd.R_drewN | apply Kd.R_drew)); exact HO_9.out) (Kd.R_base ho0) hb); have n2_ := mk0 (Kd.R_elder' (by (with_reducible repeat (first | apply Kd.R_alloc | apply Kd.R_drewN | apply Kd.R_drew)); exact HO_10.out) (Kd.R_base ho0) hb); have n3_ := mk0 (Kd.R_lower (Kd.R_new' (Kd.R_new' (Kd.R_new' ho0 (Kd.R_lt (by (with_reducible repeat (first | apply Kd.R_alloc | apply Kd.R_drewN | apply Kd.R_drew)); exact HO_7.out))) (Kd.R_lt (by (with_reducible repeat (first | apply Kd.R_alloc | apply Kd.R_drewN | apply Kd.R_drew)); exact HO_9.out))) (Kd.R_lt (by (with_reducible repeat (first | apply Kd.R_alloc | apply Kd.R_drewN | apply Kd.R_drew)); exact HO_10.out))) (below_size (by repeat (first | (with_reducible first | exact HB.out | apply below_alloc | apply pw_below_drewN | apply below_drew1) | exact HB.out)))); have n4_ := mk0 (below_step (by repeat (first | (with_reducible first | exact HB.out | apply below_alloc | apply pw_below_drewN | apply below_drew1) | exact HB.out)) hb); clear HO_7; clear HO_9; clear HO_10; clear HB; have HO_7 := n0_; have HO_9 := n1_; have HO_10 := n2_; have HO154 := n3_; have HB := n4_; clear n0_ n1_ n2_ n3_ n4_; (try clear hb); (try clear hb2); (try clear hk); (try clear hi); (try clear ho0); obtain ⟨Ao66, co66, eo66⟩ := Kd.R_slice HO154.out; subst eo66) | ((with_reducible refine gate_callee (f := 18) rfl ?_); refine goesL_ (some 49) rfl rfl Try.func18 (by kernel_rfl) rfl #[.slice Ao14 t144.length co14, .slice Ao66 t152.length co66] rfl (by (try simp only [List.map_toArray, List.map_cons, List.map_nil]); first | done | rfl | (simp only [List.length_drop, List.length_take]; rfl)) ?_; (with_reducible refine (laws_eqInt64S.calls kj8 _ _ t144 _ _ t152 false _ ?side1 ?side2 ?side3 ?side4 A24.out).mono ?_); (case side1 => repeat (first | exact (Kd.R_reads' HO_9.out).2.2 | (with_reducible refine Kd.C_alloc ?_ _) | (with_reducible refine Kd.C_drewN ?_ _) | (with_reducible refine Kd.C_drew ?_))); (case side2 => exact (Kd.R_reads' HO_9.out).2.1); (case side3 => repeat (first | exact (Kd.R_reads' HO154.out).2.2 | (with_reducible refine Kd.C_alloc ?_ _) | (with_reducible refine Kd.C_drewN ?_ _) | (with_reducible refine Kd.C_drew ?_))); (case side4 => exact (Kd.R_reads' HO154.out).2.1); rintro e w' ⟨rfl, ⟨nd, rfl⟩⟩; refine ⟨_, rfl, ?_⟩))
            go_ret
            exact ⟨by first | rfl | (simp [errW_none, errW_some] <;> rfl) | (simp [*, errW_none, errW_some] <;> rfl), by repeat (first | (with_reducible first | exact HB.out | apply below_alloc | apply pw_below_drewN | apply below_drew1) | exact HB.out)⟩
def laws_FnExactAddChord.Pure : Prop := ∀ (l0 : List Int) (a1 : Int) (a2 : Int), l0.length ≤ maxLen → l0.length * 8 ≤ 140737488351232 → (∀ x ∈ l0, (Lit.int .i64 x).wf = true) → (Lit.int .i64 a1).wf = true → (Lit.int .i64 a2).wf = true → ∃ k, laws_FnExactAddChord.f k l0 a1 a2 = some true
theorem laws_FnExactAddChord.walk (P : laws_FnExactAddChord.Pure) (a0 : Option Addr) (len0 cap0 : Nat) (z0 : List Int) (a1 : Int) (a2 : Int) (w : World) (w0 : (a0 = none ∧ len0 = 0 ∧ cap0 = 0 ∧ z0 = []) ∨ ∃ x, a0 = some x ∧ len0 ≤ cap0 ∧ cap0 ≤ maxLen ∧ z0.length = cap0 ∧ (∀ i, i < z0.length → w.cell? (x.add i) = some (.int .i64 (z0.getD i 0))) ∧ ∀ n ∈ z0, (Lit.int .i64 n).wf = true) (y0 : len0 * 8 ≤ 140737488351232) (w1 : (Lit.int .i64 a1).wf = true) (w2 : (Lit.int .i64 a2).wf = true) :
    Calls Try.prog 3 #[.slice a0 len0 cap0, .int .i64 a1, .int .i64 a2] w fun e w' => e = .returned (.bool true) ∧ Below w.heap.size w w' := by
  obtain ⟨l0, rfl, hr0, hm0, hw0, hc0⟩ := ReadsInt.ofRowC w0
  obtain ⟨k, h⟩ := P l0 a1 a2 hm0 y0 hw0 w1 w2
  refine (laws_FnExactAddChord.calls k _ _ l0 a1 a2 true w (Kd.C_of_reads (d := (0 : Int)) (h1 := fun _ => rfl) hr0) hc0 h).mono ?_
  rintro e w' ⟨rfl, hd⟩
  exact ⟨rfl, hd⟩
end Go.Proofs.Ytihfncjpfgdhoaa.PI
end
section
namespace Go.Proofs.Ytihfncjpfgdhoaa.K
open Go.RowKit Go.Proofs.YtihfncjpfgdhoaaW.PrintWords Go.Proofs.YtihfncjpfgdhoaaW.PrintLast Go.Proofs.YtihfncjpfgdhoaaW.PrintMore Go.Proofs.Ytihfncjpfgdhoaa.PA
def isWordL (l : List Int) : Bool := decide (l.length ≤ 12) && (twiceL l && decide (normalL l = l))
theorem rd_lt (l : List Int) (i : Nat) (h : i < l.length) : rd l i = l[i] := by
  unfold rd
  rw [Int.toNat_natCast, List.getD_eq_getElem?_getD, List.getElem?_eq_getElem h]
  rfl
theorem take_snoc (l : List Int) (i : Nat) (h : i < l.length) : l.take (i + 1) = l.take i ++ [rd l i] := by
  rw [rd_lt l i h, List.take_succ_eq_append_getElem h]
theorem twice_l1 (l : List Int) (hl : l.length ≤ 4096) (i : Nat) (hi : i < l.length) (b : Bool) (hb : l.count (rd l i) = 2 → ∃ n, spec_l01Twice.l0 n l ((i : Int) + 1) = some b) (hb2 : l.count (rd l i) ≠ 2 → b = false) (d : Nat) :
    ∀ (j : Nat) (c : Int), l.length - j = d → j ≤ l.length → c = ((l.take j).count (rd l i) : Int) → ∃ n, spec_l01Twice.l1 n l i c j = some b := by
  induction d with
  | zero =>
    intro j c hd hj hc
    rw [List.take_of_length_le (by omega)] at hc
    by_cases h2 : l.count (rd l i) = 2
    · obtain ⟨n, hn⟩ := hb h2
      refine ⟨n + 1, ?_⟩
      simp only [spec_l01Twice.l1]
      rw [if_neg (by omega), if_pos (by omega), wrap_id (by omega) (by omega)]
      exact hn
    · refine ⟨1, ?_⟩
      simp only [spec_l01Twice.l1]
      rw [if_neg (by omega), if_neg (by omega), hb2 h2]
  | succ d ih =>
    intro j c hd hj hc
    have hlt : j < l.length := by omega
    have hcl : (l.take j).count (rd l i) ≤ 4096 := Nat.le_trans List.count_le_length (by rw [List.length_take]; omega)
    by_cases he : rd l j = rd l i
    · obtain ⟨n, hn⟩ := ih (j + 1) (c + 1) (by omega) (by omega) (by rw [take_snoc l j hlt, List.count_append, he]; simp; omega)
      refine ⟨n + 1, ?_⟩
      simp only [spec_l01Twice.l1]
      rw [if_pos (by omega), if_pos (by omega), if_pos (by omega), if_pos (by omega), if_pos he, wrap_id (by omega) (by omega), wrap_id (by omega) (by omega)]
      exact hn
    · obtain ⟨n, hn⟩ := ih (j + 1) c (by omega) (by omega) (by
        have h0 : List.count (rd l i) [rd l j] = 0 := List.count_eq_zero.mpr (by simpa using fun h => he h.symm)
        rw [take_snoc l j hlt, List.count_append, h0]; omega)
      refine ⟨n + 1, ?_⟩
      simp only [spec_l01Twice.l1]
      rw [if_pos (by omega), if_pos (by omega), if_pos (by omega), if_pos (by omega), if_neg he, wrap_id (by omega) (by omega)]
      exact hn
theorem twice_l0 (l : List Int) (hl : l.length ≤ 4096) (d : Nat) : ∀ (i : Nat), l.length - i = d → i ≤ l.length →
    ∃ n, spec_l01Twice.l0 n l i = some ((l.drop i).all fun x => l.count x == 2) := by
  induction d with
  | zero =>
    intro i hd hi
    refine ⟨1, ?_⟩
    simp only [spec_l01Twice.l0]
    rw [if_neg (by omega), List.drop_of_length_le (by omega)]
    rfl
  | succ d ih =>
    intro i hd hi
    have hlt : i < l.length := by omega
    obtain ⟨n, hn⟩ := twice_l1 l hl i hlt ((l.drop i).all fun x => l.count x == 2) (fun h2 => by
      obtain ⟨n, hn⟩ := ih (i + 1) (by omega) (by omega)
      refine ⟨n, ?_⟩
      rw [drop_at l i hlt, List.all_cons, h2]
      simpa using hn) (fun h2 => by rw [drop_at l i hlt, List.all_cons]; simp [h2]) l.length 0 0 (by omega) (by omega) (by simp)
    refine ⟨n + 1, ?_⟩
    simp only [spec_l01Twice.l0]
    rw [if_pos (by omega)]
    exact hn
theorem ev_specTwice (l : List Int) (hl : l.length ≤ 4096) : Ev (fun k => spec_l01Twice.f k l) (twiceL l) := by
  refine ev_of (fun k => spec_l01Twice.mono _ _) ?_
  obtain ⟨n, hn⟩ := twice_l0 l hl l.length 0 (by omega) (by omega)
  exact ⟨n, by simpa [spec_l01Twice.f, twiceL] using hn⟩
theorem normal_l1 (l : List Int) (met out : List Int) (i : Nat) (hi : i < l.length) (hm : met.length ≤ i) (ho : out.length = i) (hl : l.length ≤ 4096) (hnd : met.Nodup) (r : List Int)
    (h1 : ∀ p, met.idxOf? (rd l i) = some p → ∃ n, spec_l01Normal.l0 n l met (out ++ [(p : Int)]) ((i : Int) + 1) = some r)
    (h2 : met.idxOf? (rd l i) = none → ∃ n, spec_l01Normal.l0 n l (met ++ [rd l i]) (out ++ [(met.length : Int)]) ((i : Int) + 1) = some r) (d : Nat) :
    ∀ (j : Nat) (a : Int), met.length - j = d → j ≤ met.length → (a = -1 ∧ ¬ rd l i ∈ met.take j ∨ ∃ p : Nat, a = p ∧ p < j ∧ met.idxOf? (rd l i) = some p) → ∃ n, spec_l01Normal.l1 n l met out i a j = some r := by
  induction d with
  | zero =>
    intro j a hd hj ha
    rcases ha with ⟨ha, hno⟩ | ⟨p, ha, hp, hidx⟩
    · rw [List.take_of_length_le (by omega)] at hno
      obtain ⟨n, hn⟩ := h2 (by simpa [List.idxOf?_eq_none_iff] using hno)
      refine ⟨n + 1, ?_⟩
      simp only [spec_l01Normal.l1]
      rw [if_neg (by omega), if_pos (by omega), if_pos (by omega), if_pos (by omega), if_pos (by omega), if_pos (by omega), wrap_id (by omega) (by omega)]
      exact hn
    · obtain ⟨n, hn⟩ := h1 p hidx
      refine ⟨n + 1, ?_⟩
      simp only [spec_l01Normal.l1]
      rw [if_neg (by omega), if_neg (by omega), if_pos (by omega), wrap_id (by omega) (by omega), ha]
      exact hn
  | succ d ih =>
    intro j a hd hj ha
    have hlt : j < met.length := by clear ha; omega
    have hd1 : met.length - (j + 1) = d := by clear ha; omega
    have hj1 : j + 1 ≤ met.length := by clear ha; omega
    by_cases he : rd met j = rd l i
    · have hget : met[j] = rd l i := by rw [← rd_lt met j hlt, he]
      obtain ⟨n, hn⟩ := ih (j + 1) j hd1 hj1 (Or.inr ⟨j, rfl, Nat.lt_succ_self j, by
        rw [List.idxOf?, List.findIdx?_eq_some_iff_findIdx_eq]
        refine ⟨hlt, ?_⟩
        rw [List.findIdx_eq hlt]
        refine ⟨by simp [hget], fun q hq => ?_⟩
        have : met[q] ≠ met[j] := (List.pairwise_iff_getElem.mp hnd) q j (by omega) hlt hq
        rw [hget] at this
        simpa using this⟩)
      refine ⟨n + 1, ?_⟩
      simp only [spec_l01Normal.l1]
      rw [if_pos (by omega), if_pos (by omega), if_pos (by omega), if_pos (by omega), if_pos he, wrap_id (by omega) (by omega)]
      exact hn
    · obtain ⟨n, hn⟩ := ih (j + 1) a hd1 hj1 (by
        rcases ha with ⟨ha, hno⟩ | ⟨p, ha, hp, hidx⟩
        · refine Or.inl ⟨ha, ?_⟩
          rw [take_snoc met j hlt]
          simp only [List.mem_append, List.mem_singleton, not_or]
          exact ⟨hno, fun h => he h.symm⟩
        · exact Or.inr ⟨p, ha, by omega, hidx⟩)
      refine ⟨n + 1, ?_⟩
      simp only [spec_l01Normal.l1]
      rw [if_pos (by omega), if_pos (by omega), if_pos (by omega), if_pos (by omega), if_neg he, wrap_id (by omega) (by omega)]
      exact hn
theorem normal_l0 (l : List Int) (hl : l.length ≤ 4096) (d : Nat) : ∀ (met out : List Int) (i : Nat), l.length - i = d → i ≤ l.length → met.length ≤ i → out.length = i → met.Nodup →
    ∃ n, spec_l01Normal.l0 n l met out i = some (out ++ normFrom met (l.drop i)) := by
  induction d with
  | zero =>
    intro met out i hd hi hm ho hnd
    refine ⟨1, ?_⟩
    simp only [spec_l01Normal.l0]
    rw [if_neg (by omega), List.drop_of_length_le (by omega), normFrom, List.append_nil]
  | succ d ih =>
    intro met out i hd hi hm ho hnd
    have hlt : i < l.length := by omega
    obtain ⟨n, hn⟩ := normal_l1 l met out i hlt hm ho hl hnd (out ++ normFrom met (l.drop i)) (fun p hp => by
        obtain ⟨n, hn⟩ := ih met (out ++ [(p : Int)]) (i + 1) (by omega) (by omega) (by omega) (by simp; omega) hnd
        refine ⟨n, ?_⟩
        rw [drop_at l i hlt, normFrom, hp]
        simpa using hn) (fun hp => by
        obtain ⟨n, hn⟩ := ih (met ++ [rd l i]) (out ++ [(met.length : Int)]) (i + 1) (by omega) (by omega) (by simp; omega) (by simp; omega) (by
          rw [List.nodup_append]
          refine ⟨hnd, by simp, ?_⟩
          intro a ha b hb e
          obtain rfl : b = rd l i := by simpa using hb
          subst e
          exact (List.idxOf?_eq_none_iff.mp hp) ha)
        refine ⟨n, ?_⟩
        rw [drop_at l i hlt, normFrom, hp]
        simpa using hn) met.length 0 (-1) (by omega) (by omega) (Or.inl ⟨rfl, by simp⟩)
    refine ⟨n + 1, ?_⟩
    simp only [spec_l01Normal.l0]
    rw [if_pos (by omega)]
    exact hn
theorem ev_specNormal (l : List Int) (hl : l.length ≤ 4096) : Ev (fun k => spec_l01Normal.f k l) (normalL l) := by
  refine ev_of (fun k => spec_l01Normal.mono _ _) ?_
  obtain ⟨n, hn⟩ := normal_l0 l hl l.length [] [] 0 (by omega) (by omega) (by simp) rfl (by simp)
  exact ⟨n, by simpa [spec_l01Normal.f, normalL] using hn⟩
theorem same_l0 (a b : List Int) (hl : a.length < 1099511627776) (hab : a.length = b.length) (d : Nat) : ∀ (i : Nat), a.length - i = d → i ≤ a.length →
    ∃ n, spec_l01Same.l0 n a b i = some (decide (a.drop i = b.drop i)) := by
  induction d with
  | zero =>
    intro i hd hi
    refine ⟨1, ?_⟩
    simp only [spec_l01Same.l0]
    rw [if_neg (by omega), List.drop_of_length_le (by omega), List.drop_of_length_le (by omega)]
    rfl
  | succ d ih =>
    intro i hd hi
    have hlt : i < a.length := by omega
    obtain ⟨n, hn⟩ := ih (i + 1) (by omega) (by omega)
    refine ⟨n + 1, ?_⟩
    simp only [spec_l01Same.l0]
    rw [if_pos (by omega), if_pos (by omega), if_pos (by omega), wrap_id (by omega) (by omega), drop_at a i hlt, drop_at b i (by omega)]
    by_cases h : rd a i = rd b i
    · rw [if_pos h]
      refine (show spec_l01Same.l0 n a b ((i : Int) + 1) = _ from hn).trans ?_
      simp [h]
    · rw [if_neg h]
      simp [h]
theorem ev_specSame (a b : List Int) (hl : a.length < 1099511627776) : Ev (fun k => spec_l01Same.f k a b) (decide (a = b)) := by
  refine ev_of (fun k => spec_l01Same.mono _ _ _) ?_
  by_cases h : a.length = b.length
  · obtain ⟨n, hn⟩ := same_l0 a b hl h a.length 0 (by omega) (by omega)
    refine ⟨n, ?_⟩
    unfold spec_l01Same.f
    rw [if_pos (by omega)]
    exact hn
  · refine ⟨0, ?_⟩
    unfold spec_l01Same.f
    rw [if_neg (by omega)]
    have : ¬ a = b := fun e => h (by rw [e])
    simp [this]
theorem equal_l0 (a b : List Int) (hl : a.length < 1099511627776) (hab : a.length = b.length) (d : Nat) : ∀ (i : Nat), a.length - i = d → i ≤ a.length →
    ∃ n, slices_Equal_int64_int64.l0 n a b a.length i = some (decide (a.drop i = b.drop i)) := by
  induction d with
  | zero =>
    intro i hd hi
    refine ⟨1, ?_⟩
    simp only [slices_Equal_int64_int64.l0]
    rw [if_neg (by omega), List.drop_of_length_le (by omega), List.drop_of_length_le (by omega)]
    rfl
  | succ d ih =>
    intro i hd hi
    have hlt : i < a.length := by omega
    obtain ⟨n, hn⟩ := ih (i + 1) (by omega) (by omega)
    refine ⟨n + 1, ?_⟩
    simp only [slices_Equal_int64_int64.l0]
    rw [if_pos (by omega), if_pos (by omega), if_pos (by omega), if_pos (by omega), wrap_id (by omega) (by omega), drop_at a i hlt, drop_at b i (by omega)]
    by_cases h : rd a i = rd b i
    · rw [if_pos h]
      refine (show slices_Equal_int64_int64.l0 n a b a.length ((i : Int) + 1) = _ from hn).trans ?_
      simp [h]
    · rw [if_neg h]
      simp [h]
theorem ev_equal (a b : List Int) (hl : a.length < 1099511627776) : Ev (fun k => slices_Equal_int64_int64.f k a b) (decide (a = b)) := by
  refine ev_of (fun k => slices_Equal_int64_int64.mono _ _ _) ?_
  by_cases h : a.length = b.length
  · obtain ⟨n, hn⟩ := equal_l0 a b hl h a.length 0 (by omega) (by omega)
    refine ⟨n, ?_⟩
    unfold slices_Equal_int64_int64.f
    rw [if_pos (by omega)]
    exact hn
  · refine ⟨0, ?_⟩
    unfold slices_Equal_int64_int64.f
    rw [if_neg (by omega)]
    have : ¬ a = b := fun e => h (by rw [e])
    simp [this]
theorem ev_specIs (l : List Int) : Ev (fun k => spec_l01Is.f k l) (isWordL l) := by
  unfold spec_l01Is.f isWordL
  refine ev_if (fun h => ?_) (fun h => ?_)
  · rw [show decide (l.length ≤ 12) = true from decide_eq_true (by omega), Bool.true_and]
    refine Ev.bind (ev_specTwice l (by omega)) ?_
    refine ev_if (fun ht => ?_) (fun ht => ?_)
    · rw [ht, Bool.true_and]
      refine Ev.bind (ev_specNormal l (by omega)) (Ev.bind (ev_specSame _ _ (by rw [normalL_length]; omega)) (ev_some _))
    · rw [Bool.eq_false_iff.mpr ht, Bool.false_and]
      exact ev_some _
  · rw [show decide (l.length ≤ 12) = false from decide_eq_false (by omega), Bool.false_and]
    exact ev_some _
theorem ev_isWord (l : List Int) (h64 : Ok64 l) : Ev (fun k => impl_IsWord.f k l) (isWordL l) := by
  unfold impl_IsWord.f isWordL
  refine ev_if (fun h => ?_) (fun h => ?_)
  · rw [show decide (l.length ≤ 12) = true from decide_eq_true (by omega), Bool.true_and]
    refine ev_const (show impl_twice.f l = some (twiceL l) by unfold impl_twice.f; rw [if_pos ⟨by omega, h64⟩]) ?_
    refine ev_if (fun ht => ?_) (fun ht => ?_)
    · rw [ht, Bool.true_and]
      refine ev_const (show impl_normal.f l = some (normalL l) by unfold impl_normal.f; rw [if_pos ⟨by omega, h64⟩]) (Ev.bind (ev_equal _ _ (by rw [normalL_length]; omega)) (ev_some _))
    · rw [Bool.eq_false_iff.mpr ht, Bool.false_and]
      exact ev_some _
  · rw [show decide (l.length ≤ 12) = false from decide_eq_false (by omega), Bool.false_and]
    exact ev_some _
structure Word (l : List Int) (n : Nat) : Prop where
  len : l.length = 2 * n
  small : n ≤ 6
  range : ∀ j, j < l.length → 0 ≤ rd l j ∧ rd l j < n
  two : ∀ i, i < n → l.count (i : Int) = 2
theorem normFrom_range (l : List Int) : ∀ met, ∀ y ∈ normFrom met l, 0 ≤ y ∧ y < ((metBy met l).length : Int) := by
  have hmono : ∀ (l : List Int) (met : List Int), met.length ≤ (metBy met l).length := by
    intro l
    induction l with
    | nil => intro met; exact Nat.le_refl _
    | cons x r ih =>
      intro met
      rw [metBy]
      split
      · exact ih met
      · have := ih (met ++ [x])
        simp at this
        omega
  induction l with
  | nil => intro met y hy; simp [normFrom] at hy
  | cons x r ih =>
    intro met y hy
    rw [normFrom] at hy
    rw [metBy]
    cases h : met.idxOf? x with
    | some j =>
      rw [h] at hy
      simp only at hy ⊢
      rcases List.mem_cons.mp hy with rfl | hy
      · have h1 := idxOf?_lt h
        have h2 := hmono r met
        omega
      · exact ih met y hy
    | none =>
      rw [h] at hy
      simp only at hy ⊢
      rcases List.mem_cons.mp hy with rfl | hy
      · have h2 := hmono r (met ++ [x])
        simp at h2
        omega
      · exact ih (met ++ [x]) y hy
theorem normFrom_onto (l : List Int) : ∀ met (k : Nat), met.length ≤ k → k < (metBy met l).length → (k : Int) ∈ normFrom met l := by
  induction l with
  | nil => intro met k h1 h2; simp [metBy] at h2; omega
  | cons x r ih =>
    intro met k h1 h2
    rw [metBy] at h2
    rw [normFrom]
    cases h : met.idxOf? x with
    | some j =>
      rw [h] at h2
      exact List.mem_cons_of_mem _ (ih met k h1 h2)
    | none =>
      rw [h] at h2
      simp only at h2 ⊢
      by_cases e : k = met.length
      · subst e; exact List.mem_cons_self
      · exact List.mem_cons_of_mem _ (ih (met ++ [x]) k (by simp; omega) h2)
theorem length_of_counts (n : Nat) : ∀ (l : List Int), (∀ y ∈ l, 0 ≤ y ∧ y < (n : Int)) → (∀ i : Nat, i < n → l.count (i : Int) = 2) → l.length = 2 * n := by
  induction n with
  | zero =>
    intro l h _
    cases l with
    | nil => rfl
    | cons y r =>
      have := h y List.mem_cons_self
      omega
  | succ n ih =>
    intro l h h2
    have h3 := ih (l.filter (fun y => y != (n : Int))) (fun y hy => by
      obtain ⟨hy1, hy2⟩ := List.mem_filter.mp hy
      have := h y hy1
      have : y ≠ (n : Int) := by simpa using hy2
      omega) (fun i hi => by
      rw [List.count_filter (by have : (i : Int) ≠ n := by omega
                                simpa using this)]
      exact h2 i (by omega))
    have h4 : l.length = (l.filter (fun y => y != (n : Int))).length + l.count (n : Int) := by
      clear h h2 h3 ih
      induction l with
      | nil => rfl
      | cons y r ihr =>
        by_cases e : y = (n : Int)
        · subst e; simp; omega
        · have h5 : (y != (n : Int)) = true := by simpa using e
          rw [List.filter_cons, if_pos h5, List.count_cons]
          simp [e]
          omega
    have := h2 n (by omega)
    omega
theorem word_of (l : List Int) (h : isWordL l = true) : ∃ n, Word l n := by
  unfold isWordL at h
  simp only [Bool.and_eq_true, decide_eq_true_eq] at h
  obtain ⟨h12, ht, hn⟩ := h
  have hr : ∀ y ∈ l, 0 ≤ y ∧ y < ((metBy [] l).length : Int) := by
    intro y hy
    exact normFrom_range l [] y (by
      have : normFrom [] l = l := hn
      rw [this]; exact hy)
  have hc : ∀ i : Nat, i < (metBy [] l).length → l.count (i : Int) = 2 := by
    intro i hi
    have hm : (i : Int) ∈ l := by
      have h5 := normFrom_onto l [] i (by simp) hi
      have : normFrom [] l = l := hn
      rw [this] at h5
      exact h5
    have := List.all_eq_true.mp ht _ hm
    simpa using this
  have hlen := length_of_counts _ l hr hc
  exact ⟨_, hlen, by omega, fun j hj => hr _ (rd_mem l j hj), hc⟩
end Go.Proofs.Ytihfncjpfgdhoaa.K
end
section
namespace Go.Proofs.Ytihfncjpfgdhoaa.K
open Go.RowKit Go.Proofs.YtihfncjpfgdhoaaW.PrintWords Go.Proofs.YtihfncjpfgdhoaaW.PrintLast Go.Proofs.YtihfncjpfgdhoaaW.PrintMore Go.Proofs.Ytihfncjpfgdhoaa.PA Go.Proofs.Ytihfncjpfgdhoaa.PI
theorem idxOf?_map (f : Int → Int) (x : Int) : ∀ met : List Int, (∀ y ∈ met, f y = f x → y = x) → (met.map f).idxOf? (f x) = met.idxOf? x := by
  intro met
  induction met with
  | nil => intro _; rfl
  | cons y r ih =>
    intro h
    rw [List.map_cons, List.idxOf?_cons, List.idxOf?_cons, ih fun z hz => h z (by simp [hz])]
    have : (f y == f x) = (y == x) := by
      by_cases e : y = x
      · subst e; simp
      · have h2 : f y ≠ f x := fun e2 => e (h y (by simp) e2)
        rw [beq_eq_false_iff_ne.mpr h2, beq_eq_false_iff_ne.mpr e]
    rw [this]
theorem normFrom_map (f : Int → Int) (l : List Int) : ∀ met : List Int, (∀ x ∈ met ++ l, ∀ y ∈ met ++ l, f x = f y → x = y) → normFrom (met.map f) (l.map f) = normFrom met l := by
  induction l with
  | nil => intro met _; rfl
  | cons x r ih =>
    intro met h
    rw [List.map_cons, normFrom, normFrom, idxOf?_map f x met fun y hy => h y (by simp [hy]) x (by simp)]
    cases hx : met.idxOf? x with
    | some j =>
      show (j : Int) :: _ = (j : Int) :: _
      rw [ih met fun a ha b hb => h a (by simp at ha ⊢; rcases ha with ha | ha <;> simp [ha]) b (by simp at hb ⊢; rcases hb with hb | hb <;> simp [hb])]
    | none =>
      have := ih (met ++ [x]) fun a ha b hb => h a (by simpa [or_assoc] using ha) b (by simpa [or_assoc] using hb)
      rw [List.map_append, List.map_cons, List.map_nil] at this
      rw [this, List.length_map]
theorem normal_new (a b c : List Int) (u v : Int) (hu : u ∉ a ++ b ++ c) (hv : v ∉ a ++ b ++ c) : normalL (a ++ [u] ++ b ++ [u] ++ c) = normalL (a ++ [v] ++ b ++ [v] ++ c) := by
  have hmap : ∀ l : List Int, v ∉ l → l.map (fun x => if x = v then u else x) = l := by
    intro l hl
    induction l with
    | nil => rfl
    | cons x r ih =>
      simp only [List.mem_cons, not_or] at hl
      rw [List.map_cons, ih hl.2, if_neg (fun e => hl.1 e.symm)]
  simp only [List.mem_append, not_or] at hu hv
  have e : a ++ [u] ++ b ++ [u] ++ c = (a ++ [v] ++ b ++ [v] ++ c).map (fun x => if x = v then u else x) := by
    simp only [List.map_append, hmap a hv.1.1, hmap b hv.1.2, hmap c hv.2, List.map_cons, List.map_nil, if_true]
  rw [e]
  unfold normalL
  have := normFrom_map (fun x => if x = v then u else x) (a ++ [v] ++ b ++ [v] ++ c) [] (by
    have cls : ∀ z ∈ [] ++ (a ++ [v] ++ b ++ [v] ++ c), z = v ∨ (z ≠ u) := by
      intro z hz
      by_cases ez : z = v
      · exact Or.inl ez
      · refine Or.inr fun e2 => ?_
        subst e2
        simp only [List.nil_append, List.mem_append, List.mem_singleton] at hz
        rcases hz with (((hz | hz) | hz) | hz) | hz
        · exact hu.1.1 hz
        · exact ez hz
        · exact hu.1.2 hz
        · exact ez hz
        · exact hu.2 hz
    intro x hx y hy hxy
    by_cases e1 : x = v <;> by_cases e2 : y = v
    · rw [e1, e2]
    · rw [if_pos e1, if_neg e2] at hxy
      rcases cls y hy with h | h
      · exact absurd h e2
      · exact absurd hxy.symm h
    · rw [if_neg e1, if_pos e2] at hxy
      rcases cls x hx with h | h
      · exact absurd h e1
      · exact absurd hxy h
    · rw [if_neg e1, if_neg e2] at hxy
      exact hxy)
  exact this
theorem ins_twice (w : List Int) (x : Int) (p q : Nat) (hpq : p ≤ q) (hq : q ≤ w.length) : insL (insL w [x] q) [x] p = w.take p ++ [x] ++ (w.take q).drop p ++ [x] ++ w.drop q := by
  unfold insL
  have hl : (w.take q).length = q := by rw [List.length_take]; omega
  have h1 : (w.take q ++ [x] ++ w.drop q).take p = w.take p := by
    rw [List.append_assoc, List.take_append_of_le_length (by omega), List.take_take, Nat.min_eq_left hpq]
  have h2 : (w.take q ++ [x] ++ w.drop q).drop p = (w.take q).drop p ++ [x] ++ w.drop q := by
    rw [List.append_assoc, List.drop_append_of_le_length (by omega), List.append_assoc]
  rw [h1, h2]
  simp [List.append_assoc]
theorem l01In_some (x a b : Int) : spec_l01In.f x a b = some (inB x a b) := by
  unfold spec_l01In.f inB
  by_cases h : x ≥ a
  · rw [if_pos h, decide_eq_true (show a ≤ x from h)]; simp
  · rw [if_neg h, decide_eq_false (show ¬ a ≤ x from h)]; simp
theorem in_some (x a b : Int) : impl_in.f x a b = some (inB x a b) := by
  unfold impl_in.f inB
  by_cases h : x ≥ a
  · rw [if_pos h, decide_eq_true (show a ≤ x from h)]; simp
  · rw [if_neg h, decide_eq_false (show ¬ a ≤ x from h)]; simp
theorem ev_code (w : List Int) (q m : Int) : Ev (fun k => spec_l01Code.f k w q m) (if isWordL w then (if inB q 0 m then 0 else 2) else 1) := by
  unfold spec_l01Code.f
  refine Ev.bind (ev_specIs w) ?_
  cases hw : isWordL w with
  | false => exact ev_neg (by simp) (ev_some _)
  | true =>
    refine ev_pos rfl (ev_const (l01In_some _ _ _) ?_)
    cases hq : inB q 0 m with
    | false => exact ev_neg (by simp) (ev_some _)
    | true => exact ev_pos rfl (ev_some _)
theorem ev_placesOk2 (w : List Int) (p q : Int) (hw : w.length ≤ 1048576) : Ev (fun k => impl_placesOk.f k w [p, q]) (inB p 0 w.length && (inB q 0 w.length && decide (p ≤ q))) := by
  unfold impl_placesOk.f
  have r0 : rd [p, q] 0 = p := rfl
  have r1 : rd [p, q] 1 = q := rfl
  have w1 : wrap64 ((0 : Int) + 1) = 1 := by unfold wrap64; omega
  have w0 : wrap64 ((1 : Int) - 1) = 0 := by unfold wrap64; omega
  have w2 : wrap64 ((1 : Int) + 1) = 2 := by unfold wrap64; omega
  have hl : (([p, q] : List Int).length : Int) = 2 := rfl
  rw [hl]
  refine Ev.step (fun k => by rw [impl_placesOk.l0]) ?_
  rw [hl, r0, w1]
  refine ev_pos (by decide) (ev_pos (by decide) (ev_pos (by decide) (ev_const (in_some _ _ _) ?_)))
  cases hp : inB p 0 w.length with
  | false => exact ev_neg (by simp) (ev_some _)
  | true =>
    refine ev_pos rfl (ev_neg (by decide) ?_)
    refine Ev.step (fun k => by rw [impl_placesOk.l0]) ?_
    rw [hl, r1, w0, w2, r0]
    refine ev_pos (by decide) (ev_pos (by decide) (ev_pos (by decide) (ev_const (in_some _ _ _) ?_)))
    cases hq : inB q 0 w.length with
    | false => exact ev_neg (by simp) (ev_some _)
    | true =>
      refine ev_pos rfl (ev_pos (by decide) (ev_pos (by decide) (ev_pos (by decide) ?_)))
      by_cases hpq : q < p
      · rw [decide_eq_false (by omega)]
        exact ev_pos hpq (ev_some _)
      · rw [decide_eq_true (by omega)]
        refine ev_neg hpq ?_
        refine Ev.step (fun k => by rw [impl_placesOk.l0]) ?_
        exact ev_neg (by decide) (ev_some _)
theorem own_some (l : List Int) (h : l.length ≤ 4096) : spec_l01Own.f l = some l := by
  unfold spec_l01Own.f
  first
    | rfl
    | (simp only [Option.bind_some, List.length_nil, List.nil_append]; rw [if_pos (by omega)])
    | (rw [if_pos (by simp; omega)]; simp)
theorem ev_specAdd (w : List Int) (p q : Nat) (hw : w.length ≤ 4094) (hpq : p ≤ q) (hq : q ≤ w.length) : Ev (fun k => spec_l01Add.f k w (p : Int) (q : Int)) (normalL (w.take p ++ [99] ++ (w.take q).drop p ++ [99] ++ w.drop q)) := by
  unfold spec_l01Add.f
  rw [Int.toNat_natCast, Int.toNat_natCast]
  have l1 : (w.take p).length = p := by rw [List.length_take]; omega
  have l2 : ((w.take q).drop p).length = q - p := by rw [List.length_drop, List.length_take]; omega
  have l3 : (w.drop q).length = w.length - q := by rw [List.length_drop]
  refine ev_pos (by omega) (ev_pos (by omega) (ev_const (own_some _ (by omega)) (ev_pos (by omega) ?_)))
  refine ev_const rfl (ev_pos (by omega) (ev_pos (by omega) (ev_pos (by rw [List.length_append, l1, l2]; simp; omega) ?_)))
  refine ev_const rfl (ev_pos (by rw [List.length_append, List.length_append, l1, l2]; simp; omega) ?_)
  refine ev_const rfl (ev_pos (by omega) (ev_pos (by rw [List.length_append, List.length_append, List.length_append, l1, l2, l3]; simp; omega) ?_))
  refine Ev.bind (ev_specNormal _ (by rw [List.length_append, List.length_append, List.length_append, List.length_append, l1, l2, l3]; simp; omega)) (ev_some _)
theorem addChord_eq (w : List Int) (p q : Int) (h64 : Ok64 w) (hwl : w.length ≤ 1048576) : ∃ (a : List Int) (d : Int), a.length ≤ 1048576 ∧ Ev (fun k => spec_AddChord.f k w p q) (a, d) ∧ Ev (fun k => impl_AddChord.f k w p q) (a, d) := by
  have hc := ev_code w q (w.length : Int)
  have hi := ev_isWord w h64
  have hp := ev_placesOk2 w p q hwl
  cases hw : isWordL w with
  | false =>
    rw [hw] at hc hi
    refine ⟨[], 1, by simp, ?_, ?_⟩
    · unfold spec_AddChord.f; exact Ev.bind hc (ev_neg (by simp) (ev_some _))
    · unfold impl_AddChord.f; exact Ev.bind hi (ev_neg (by simp) (ev_some _))
  | true =>
    rw [hw] at hc hi
    obtain ⟨n, hn⟩ := word_of w hw
    have hlen := hn.len
    have hsm := hn.small
    cases hq : inB q 0 (w.length : Int) with
    | false =>
      rw [hq] at hc hp
      rw [Bool.false_and, Bool.and_false] at hp
      refine ⟨[], 2, by simp, ?_, ?_⟩
      · unfold spec_AddChord.f; exact Ev.bind hc (ev_neg (by simp) (ev_some _))
      · unfold impl_AddChord.f; exact Ev.bind hi (ev_pos rfl (Ev.bind hp (ev_neg (by simp) (ev_some _))))
    | true =>
      have hq2 := hq
      unfold inB at hq2
      simp only [Bool.and_eq_true, decide_eq_true_eq] at hq2
      have hpe : (inB p 0 (w.length : Int) && (true && decide (p ≤ q))) = inB p 0 q := by
        unfold inB
        by_cases h1 : 0 ≤ p <;> by_cases h2 : p ≤ q
        · rw [decide_eq_true h1, decide_eq_true h2, decide_eq_true (by omega)]; rfl
        · rw [decide_eq_false h2]; simp
        · rw [decide_eq_false h1]; simp
        · rw [decide_eq_false h1]; simp
      rw [hq] at hc hp
      rw [hpe] at hp
      cases hb : inB p 0 q with
      | false =>
        rw [hb] at hp
        refine ⟨[], 2, by simp, ?_, ?_⟩
        · unfold spec_AddChord.f; exact Ev.bind hc (ev_pos rfl (ev_const (l01In_some _ _ _) (ev_neg (by simp [hb]) (ev_some _))))
        · unfold impl_AddChord.f; exact Ev.bind hi (ev_pos rfl (Ev.bind hp (ev_neg (by simp) (ev_some _))))
      | true =>
        rw [hb] at hp
        have hb2 := hb
        unfold inB at hb2
        simp only [Bool.and_eq_true, decide_eq_true_eq] at hb2
        have hch : impl_chords.f w = some (n : Int) := by
          unfold impl_chords.f
          rw [wrap_id (by omega) (by omega)]
          congr 1
          omega
        by_cases h6 : n = 6
        · refine ⟨[], 3, by simp, ?_, ?_⟩
          · unfold spec_AddChord.f; exact Ev.bind hc (ev_pos rfl (ev_const (l01In_some _ _ _) (ev_pos hb (ev_pos (by omega) (ev_some _)))))
          · unfold impl_AddChord.f; exact Ev.bind hi (ev_pos rfl (Ev.bind hp (ev_pos rfl (ev_const hch (ev_pos (by omega) (ev_some _))))))
        · obtain ⟨pn, rfl⟩ : ∃ m : Nat, p = m := ⟨p.toNat, by omega⟩
          obtain ⟨qn, rfl⟩ : ∃ m : Nat, q = m := ⟨q.toNat, by omega⟩
          have hadd := ev_specAdd w pn qn (by omega) (by omega) (by omega)
          have hnm : ∀ u : Int, (n : Int) ≤ u → u ∉ w.take pn ++ (w.take qn).drop pn ++ w.drop qn := by
            intro u hu hm
            have hmem : u ∈ w := by
              simp only [List.mem_append] at hm
              rcases hm with (hm | hm) | hm
              · exact List.mem_of_mem_take hm
              · exact List.mem_of_mem_take (List.mem_of_mem_drop hm)
              · exact List.mem_of_mem_drop hm
            obtain ⟨j, hj, hje⟩ := List.getElem_of_mem hmem
            have := hn.range j hj
            rw [rd_lt w j hj, hje] at this
            omega
          have hwc : impl_withChord.f w (pn : Int) (qn : Int) = some (normalL (w.take pn ++ [99] ++ (w.take qn).drop pn ++ [99] ++ w.drop qn)) := by
            unfold impl_withChord.f
            rw [hch]
            simp only [Option.bind_some]
            have i1 : impl_inserted.f w (qn : Int) [(n : Int)] = some (insL w [(n : Int)] qn) := by
              unfold impl_inserted.f
              rw [if_pos ⟨by omega, by omega, by simp, by simp; omega⟩, Int.toNat_natCast]
            have hl1 : (insL w [(n : Int)] qn).length = w.length + 1 := insL_length ..
            have i2 : impl_inserted.f (insL w [(n : Int)] qn) (pn : Int) [(n : Int)] = some (insL (insL w [(n : Int)] qn) [(n : Int)] pn) := by
              unfold impl_inserted.f
              rw [if_pos ⟨by omega, by rw [hl1]; omega, by simp, by rw [hl1]; simp; omega⟩, Int.toNat_natCast]
            rw [i1]
            simp only [Option.bind_some]
            rw [i2]
            simp only [Option.bind_some]
            have hl2 : (insL (insL w [(n : Int)] qn) [(n : Int)] pn).length = w.length + 2 := by rw [insL_length, hl1]; rfl
            have h642 : Ok64 (insL (insL w [(n : Int)] qn) [(n : Int)] pn) := by
              intro x hx
              rw [ins_twice w _ pn qn (by omega) (by omega)] at hx
              simp only [List.mem_append, List.mem_singleton] at hx
              rcases hx with (((hx | hx) | hx) | hx) | hx
              · exact h64 x (List.mem_of_mem_take hx)
              · subst hx; unfold in64; omega
              · exact h64 x (List.mem_of_mem_take (List.mem_of_mem_drop hx))
              · subst hx; unfold in64; omega
              · exact h64 x (List.mem_of_mem_drop hx)
            have i3 : impl_normal.f (insL (insL w [(n : Int)] qn) [(n : Int)] pn) = some (normalL (insL (insL w [(n : Int)] qn) [(n : Int)] pn)) := by
              unfold impl_normal.f
              rw [if_pos ⟨by rw [hl2]; omega, h642⟩]
            rw [i3, ins_twice w _ pn qn (by omega) (by omega), normal_new _ _ _ (n : Int) 99 (hnm _ (by omega)) (hnm _ (by omega))]
            rfl
          refine ⟨normalL (w.take pn ++ [99] ++ (w.take qn).drop pn ++ [99] ++ w.drop qn), 0, ?_, ?_, ?_⟩
          rotate_left
          · unfold spec_AddChord.f; exact Ev.bind hc (ev_pos rfl (ev_const (l01In_some _ _ _) (ev_pos hb (ev_neg (by omega) (Ev.bind hadd (ev_some _))))))
          · unfold impl_AddChord.f; exact Ev.bind hi (ev_pos rfl (Ev.bind hp (ev_pos rfl (ev_const hch (ev_neg (by omega) (ev_const hwc (ev_some _)))))))
          · rw [normalL_length]
            simp only [List.length_append, List.length_take, List.length_drop, List.length_singleton]
            omega
end Go.Proofs.Ytihfncjpfgdhoaa.K
end
section
namespace Go.Proofs.Ytihfncjpfgdhoaa.K
open Go.RowKit Go.Proofs.YtihfncjpfgdhoaaW.PrintWords Go.Proofs.YtihfncjpfgdhoaaW.PrintLast Go.Proofs.YtihfncjpfgdhoaaW.PrintMore Go.Proofs.Ytihfncjpfgdhoaa.PA
theorem toInt_l0 (l : List Int) (hl : l.length < 1099511627776) (d : Nat) : ∀ (out : List Int) (i : Nat), l.length - i = d → out.length = l.length → i ≤ l.length → out.take i = l.take i →
    ∃ n, laws_toInt64S.l0 n l out i = some l := by
  induction d with
  | zero =>
    intro out i hd ho hi ht
    refine ⟨1, ?_⟩
    simp only [laws_toInt64S.l0]
    rw [if_neg (by omega)]
    rw [List.take_of_length_le (by omega), List.take_of_length_le (by omega)] at ht
    rw [ht]
  | succ d ih =>
    intro out i hd ho hi ht
    have hlt : i < l.length := by omega
    obtain ⟨n, hn⟩ := ih (out.set i (rd l i)) (i + 1) (by omega) (by simpa using ho) (by omega) (by
      have e : rd l i = l[i] := by unfold rd; rw [Int.toNat_natCast, List.getD_eq_getElem?_getD, List.getElem?_eq_getElem hlt]; rfl
      have ho2 : i < out.length := by omega
      rw [List.take_succ_eq_append_getElem (by simpa using ho2), List.take_succ_eq_append_getElem hlt, ← ht, List.take_set_of_le (Nat.le_refl _), e]
      simp)
    refine ⟨n + 1, ?_⟩
    simp only [laws_toInt64S.l0]
    rw [if_pos (by omega), if_pos (by omega), if_pos (by omega), wrap_id (by omega) (by omega), Int.toNat_natCast]
    exact hn
theorem ev_toInt (l : List Int) (hl : l.length ≤ 1048576) : Ev (fun k => laws_toInt64S.f k l) l := by
  refine ev_of (fun k => laws_toInt64S.mono _ _) ?_
  obtain ⟨n, hn⟩ := toInt_l0 l (by omega) l.length (List.replicate l.length 0) 0 (by omega) (by simp) (by omega) rfl
  refine ⟨n, ?_⟩
  unfold laws_toInt64S.f
  rw [if_pos (by omega), if_pos (by omega), Int.toNat_natCast]
  exact hn
theorem eqInt_l0 (a b : List Int) (hl : a.length < 1099511627776) (hab : a.length = b.length) (d : Nat) : ∀ (i : Nat), a.length - i = d → i ≤ a.length →
    ∃ n, laws_eqInt64S.l0 n a b i = some (decide (a.drop i = b.drop i)) := by
  induction d with
  | zero =>
    intro i hd hi
    refine ⟨1, ?_⟩
    simp only [laws_eqInt64S.l0]
    rw [if_neg (by omega), List.drop_of_length_le (by omega), List.drop_of_length_le (by omega)]
    rfl
  | succ d ih =>
    intro i hd hi
    have hlt : i < a.length := by omega
    have hlt2 : i < b.length := by omega
    obtain ⟨n, hn⟩ := ih (i + 1) (by omega) (by omega)
    refine ⟨n + 1, ?_⟩
    simp only [laws_eqInt64S.l0]
    rw [if_pos (by omega), if_pos (by omega), if_pos (by omega), wrap_id (by omega) (by omega), drop_at a i hlt, drop_at b i hlt2]
    by_cases h : rd a i = rd b i
    · rw [if_pos h]
      refine (show laws_eqInt64S.l0 n a b ((i : Int) + 1) = _ from hn).trans ?_
      simp [h]
    · rw [if_neg h]
      simp [h]
theorem ev_eqInt (a b : List Int) (hl : a.length < 1099511627776) : Ev (fun k => laws_eqInt64S.f k a b) (decide (a = b)) := by
  refine ev_of (fun k => laws_eqInt64S.mono _ _ _) ?_
  by_cases h : a.length = b.length
  · obtain ⟨n, hn⟩ := eqInt_l0 a b hl h a.length 0 (by omega) (by omega)
    refine ⟨n, ?_⟩
    unfold laws_eqInt64S.f
    rw [if_pos (by omega)]
    exact hn
  · refine ⟨0, ?_⟩
    unfold laws_eqInt64S.f
    rw [if_neg (by omega)]
    have : ¬ a = b := fun e => h (by rw [e])
    simp [this]
def upL : Nat → Int → List Int
  | 0, _ => []
  | n + 1, k => k :: upL n (k + 1)
theorem upL_length (n : Nat) : ∀ k, (upL n k).length = n := by
  induction n with
  | zero => intro k; rfl
  | succ n ih => intro k; simp [upL, ih]
theorem upL_get (n : Nat) : ∀ (k : Int) (i : Nat), i < n → rd (upL n k) i = k + i := by
  induction n with
  | zero => intro k i h; omega
  | succ n ih =>
    intro k i h
    match i with
    | 0 => simp [upL, rd]
    | j + 1 =>
      have := ih (k + 1) j (by omega)
      unfold rd at this ⊢
      simp only [Int.toNat_natCast] at this ⊢
      simp only [upL, List.getD_cons_succ]
      rw [this]
      omega
theorem mark_l0 (m : Nat) (k0 : Int) (h0 : 0 ≤ k0) (h1 : k0 + m < 1099511627776) (d : Nat) : ∀ (l : List Int) (i : Nat), l.length = m → m - i = d → i ≤ m → l.take i = (upL m k0).take i →
    ∃ n, laws_markInt64S.l0 n l (k0 + i) i = some (k0 + m, upL m k0) := by
  induction d with
  | zero =>
    intro l i hl hd hi ht
    refine ⟨1, ?_⟩
    simp only [laws_markInt64S.l0]
    rw [if_neg (by omega)]
    rw [List.take_of_length_le (by omega), List.take_of_length_le (by rw [upL_length]; omega)] at ht
    rw [ht, show i = m by omega]
  | succ d ih =>
    intro l i hl hd hi ht
    obtain ⟨n, hn⟩ := ih (l.set i (k0 + i)) (i + 1) (by simpa using hl) (by omega) (by omega) (by
      have hlt : i < l.length := by omega
      have hlt2 : i < (upL m k0).length := by rw [upL_length]; omega
      have e := upL_get m k0 i (by omega)
      unfold rd at e
      rw [Int.toNat_natCast, List.getD_eq_getElem?_getD, List.getElem?_eq_getElem hlt2] at e
      rw [List.take_succ_eq_append_getElem (by simpa using hlt), List.take_succ_eq_append_getElem hlt2, ← ht, List.take_set_of_le (Nat.le_refl _)]
      simp only [Option.getD_some] at e
      simp [e])
    refine ⟨n + 1, ?_⟩
    simp only [laws_markInt64S.l0]
    rw [if_pos (by omega), if_pos (by omega), wrap_id (by omega) (by omega), wrap_id (by omega) (by omega), Int.toNat_natCast]
    rw [show k0 + (i : Int) + 1 = k0 + ((i + 1 : Nat) : Int) by omega]
    exact hn
theorem ev_mark (l : List Int) (k : Int) (h0 : 0 ≤ k) (h1 : k + l.length < 1099511627776) : Ev (fun n => laws_markInt64S.f n l k) (k + l.length, upL l.length k) := by
  refine ev_of (fun n => laws_markInt64S.mono _ _ _) ?_
  obtain ⟨n, hn⟩ := mark_l0 l.length k h0 h1 l.length l 0 rfl (by omega) (by omega) rfl
  exact ⟨n, by simpa [laws_markInt64S.f] using hn⟩
theorem held_l0 (m : Nat) (k0 : Int) (h0 : 0 ≤ k0) (h1 : k0 + m < 1099511627776) (d : Nat) : ∀ (i : Nat), m - i = d → i ≤ m →
    ∃ n, laws_heldInt64S.l0 n (upL m k0) (k0 + i) i = some (k0 + m) := by
  induction d with
  | zero =>
    intro i hd hi
    refine ⟨1, ?_⟩
    simp only [laws_heldInt64S.l0]
    rw [upL_length, if_neg (by omega), show i = m by omega]
  | succ d ih =>
    intro i hd hi
    obtain ⟨n, hn⟩ := ih (i + 1) (by omega) (by omega)
    refine ⟨n + 1, ?_⟩
    simp only [laws_heldInt64S.l0]
    rw [upL_length, if_pos (by omega), if_pos (by omega), upL_get m k0 i (by omega), if_pos rfl, wrap_id (by omega) (by omega), wrap_id (by omega) (by omega)]
    rw [show k0 + (i : Int) + 1 = k0 + ((i + 1 : Nat) : Int) by omega]
    exact hn
theorem ev_held (m : Nat) (k : Int) (h0 : 0 ≤ k) (h1 : k + m < 1099511627776) : Ev (fun n => laws_heldInt64S.f n (upL m k) k) (k + m) := by
  refine ev_of (fun n => laws_heldInt64S.mono _ _ _) ?_
  obtain ⟨n, hn⟩ := held_l0 m k h0 h1 m 0 (by omega) (by omega)
  exact ⟨n, by simpa [laws_heldInt64S.f] using hn⟩
end Go.Proofs.Ytihfncjpfgdhoaa.K
end
section
namespace Go.Proofs.Ytihfncjpfgdhoaa.Pure
open Go.RowKit Go.Proofs.Ytihfncjpfgdhoaa.PI Go.Proofs.Ytihfncjpfgdhoaa.PA Go.Proofs.Ytihfncjpfgdhoaa.K Go.Proofs.YtihfncjpfgdhoaaW.PrintWords Go.Proofs.YtihfncjpfgdhoaaW.PrintLast
theorem FnExactAddChord : laws_FnExactAddChord.Pure := by
  intro l p q hm hs hwf hp hq
  refine Ev.rounds ?_
  unfold laws_FnExactAddChord.f
  by_cases h0 : (l.length : Int) > 1048576
  · exact ev_pos h0 (ev_some _)
  refine ev_neg h0 ?_
  have hl : l.length ≤ 1048576 := by omega
  have T := ev_toInt l hl
  obtain ⟨a, d, ha, hsp, him⟩ := addChord_eq l p q (fun x hx => wf_in64 (hwf x hx)) hl
  have E1 : Ev (fun k => laws_eqInt64S.f k a a) true := ev_eq (ev_eqInt a a (by omega)) (by simp)
  have E0 : Ev (fun k => laws_eqInt64S.f k l l) true := ev_eq (ev_eqInt l l (by omega)) (by simp)
  refine Ev.bind T (Ev.bind hsp (Ev.bind T (Ev.bind him (Ev.bind E1 (ev_pos rfl ?_)))))
  refine Ev.step (fun n => by rw [laws_FnExactAddChord.j0]) ?_
  refine ev_neg (by simp) (Ev.bind T (Ev.bind E0 (ev_pos rfl (Ev.bind (ev_mark l 1 (by omega) (by omega)) (ev_neg (by show ¬ (1 + (l.length : Int) < 0); omega) (Ev.bind E1 (ev_pos rfl ?_)))))))
  refine Ev.step (fun n => by rw [laws_FnExactAddChord.j1]) ?_
  refine ev_neg (by simp) (Ev.bind (ev_mark a 1 (by omega) (by omega)) (Ev.bind (ev_held a.length 1 (by omega) (by omega)) (ev_neg (by omega) (ev_pos rfl (Ev.bind T (Ev.bind him (Ev.bind E1 (ev_pos rfl ?_))))))))
  refine Ev.step (fun n => by rw [laws_FnExactAddChord.j2]) ?_
  exact ev_neg (by simp) (Ev.bind (ev_held a.length 1 (by omega) (by omega)) (ev_neg (by omega) (ev_pos rfl (ev_some _))))
end Go.Proofs.Ytihfncjpfgdhoaa.Pure
end
