/- Packed texts of this session's: PCx2, PureFnExactCountPattern. Conditions: in each. -/
import Derived.Test.YtihfncjpfgdhoaaProg
import Derived.Test.YtihfncjpfgdhoaaZc3
set_option linter.unusedVariables false
set_option linter.unusedSimpArgs false
set_option linter.unusedSectionVars false
section
namespace Go.Proofs.Ytihfncjpfgdhoaa.PC
open Go.RowKit Go.Proofs.YtihfncjpfgdhoaaW.PrintWords Go.Proofs.YtihfncjpfgdhoaaW.PrintLast Go.Proofs.YtihfncjpfgdhoaaW.PrintMore
attribute [local go_sem] max2_int min2_int max_two min_two max_three min_three max_four min_four   -- for this text's walks alone
open Go.Proofs.Ytihfncjpfgdhoaa.K Go.Proofs.Ytihfncjpfgdhoaa.PA Go.Proofs.Ytihfncjpfgdhoaa.PE Go.Proofs.Ytihfncjpfgdhoaa.PM
/-! ### laws_FnExactCountPattern: function 4 -/
def laws_FnExactCountPattern.j0 : Nat → Bool → List Int → List Int → List Int → List Int → List Int → List Int → List Int → List Int → List Int → List Int → List Int → List Int → Option (Bool)
  | 0, _, _, _, _, _, _, _, _, _, _, _, _, _ => none
  | k + 1, x47, x108000, x108001, x108002, x109000, x109001, x109002, x141000, x141001, x141002, x151000, x151001, x151002 => if x47 = true then (some false) else ((laws_toGauss.f k x108000 x108001 x108002).bind fun bt153 => ((laws_eqGauss.f k x141000 x141001 x141002 bt153.1 bt153.2.1 bt153.2.2).bind fun t162 => (if t162 = true then ((laws_toGauss.f k x109000 x109001 x109002).bind fun bt163 => ((laws_eqGauss.f k x151000 x151001 x151002 bt163.1 bt163.2.1 bt163.2.2).bind fun t172 => (if t172 = true then (some true) else (some false)))) else (some false))))
def laws_FnExactCountPattern.f (k : Nat) (l0_0 : List Int) (l0_1 : List Int) (l0_2 : List Int) (l1_0 : List Int) (l1_1 : List Int) (l1_2 : List Int) : Option (Bool) := (laws_szGauss.f l0_0 l0_1 l0_2 1048576).bind fun t109 => (if t109 < 0 then (some true) else ((laws_szGauss.f l1_0 l1_1 l1_2 t109).bind fun t110 => (if t110 < 0 then (some true) else ((laws_toGauss.f k l0_0 l0_1 l0_2).bind fun bt111 => ((laws_toGauss.f k l1_0 l1_1 l1_2).bind fun bt120 => ((spec_CountPattern.f k bt111.1 bt111.2.1 bt111.2.2 bt120.1 bt120.2.1 bt120.2.2).bind fun bt129 => ((laws_toGauss.f k l0_0 l0_1 l0_2).bind fun bt131 => ((laws_toGauss.f k l1_0 l1_1 l1_2).bind fun bt141 => ((impl_CountPattern.f k bt131.1 bt131.2.1 bt131.2.2 bt141.1 bt141.2.1 bt141.2.2).bind fun bt151 => (if bt151.1 = bt129.1 then (laws_FnExactCountPattern.j0 k (bt151.2 != bt129.2) l0_0 l0_1 l0_2 l1_0 l1_1 l1_2 bt131.1 bt131.2.1 bt131.2.2 bt141.1 bt141.2.1 bt141.2.2) else (laws_FnExactCountPattern.j0 k true l0_0 l0_1 l0_2 l1_0 l1_1 l1_2 bt131.1 bt131.2.1 bt131.2.2 bt141.1 bt141.2.1 bt141.2.2)))))))))))
theorem laws_FnExactCountPattern.mono_l : ∀ k, (∀ y0 y1 y2 y3 y4 y5 y6 y7 y8 y9 y10 y11 y12, LeO (laws_FnExactCountPattern.j0 k y0 y1 y2 y3 y4 y5 y6 y7 y8 y9 y10 y11 y12) (laws_FnExactCountPattern.j0 (k + 1) y0 y1 y2 y3 y4 y5 y6 y7 y8 y9 y10 y11 y12))
  | 0 => fun _ _ _ _ _ _ _ _ _ _ _ _ _ r h => by simp [laws_FnExactCountPattern.j0] at h
  | k + 1 => by
    have ih0 := laws_FnExactCountPattern.mono_l k
    · intro y0 y1 y2 y3 y4 y5 y6 y7 y8 y9 y10 y11 y12
      unfold laws_FnExactCountPattern.j0
      repeat' first
      | (with_reducible exact ih0 _ _ _ _ _ _ _ _ _ _ _ _ _)
      | (with_reducible exact impl_CountPattern.mono _ _ _ _ _ _ _)
      | (with_reducible exact laws_eqGauss.mono _ _ _ _ _ _ _)
      | (with_reducible exact laws_toGauss.mono _ _ _ _)
      | (with_reducible exact spec_CountPattern.mono _ _ _ _ _ _ _)
      | (with_reducible exact LeO.refl _)
      | (with_reducible exact LeO.none _)
      | (with_reducible refine LeO.ite ?_ ?_)
      | (with_reducible refine LeO.bind ?_ (fun _ => ?_))
      | exact ih0 _ _ _ _ _ _ _ _ _ _ _ _ _
      | exact impl_CountPattern.mono _ _ _ _ _ _ _
      | exact laws_eqGauss.mono _ _ _ _ _ _ _
      | exact laws_toGauss.mono _ _ _ _
      | exact spec_CountPattern.mono _ _ _ _ _ _ _
      | exact LeO.none _
      | refine LeO.ite ?_ ?_
      | refine LeO.bind ?_ (fun _ => ?_)
theorem laws_FnExactCountPattern.mono : ∀ a0 a1 a2 a3 a4 a5 k, LeO (laws_FnExactCountPattern.f k a0 a1 a2 a3 a4 a5) (laws_FnExactCountPattern.f (k + 1) a0 a1 a2 a3 a4 a5) := by
  intro a0 a1 a2 a3 a4 a5 k
  have ih0 := laws_FnExactCountPattern.mono_l k
  unfold laws_FnExactCountPattern.f
  repeat' first
      | (with_reducible exact ih0 _ _ _ _ _ _ _ _ _ _ _ _ _)
      | (with_reducible exact impl_CountPattern.mono _ _ _ _ _ _ _)
      | (with_reducible exact laws_eqGauss.mono _ _ _ _ _ _ _)
      | (with_reducible exact laws_toGauss.mono _ _ _ _)
      | (with_reducible exact spec_CountPattern.mono _ _ _ _ _ _ _)
      | (with_reducible exact LeO.refl _)
      | (with_reducible exact LeO.none _)
      | (with_reducible refine LeO.ite ?_ ?_)
      | (with_reducible refine LeO.bind ?_ (fun _ => ?_))
      | exact ih0 _ _ _ _ _ _ _ _ _ _ _ _ _
      | exact impl_CountPattern.mono _ _ _ _ _ _ _
      | exact laws_eqGauss.mono _ _ _ _ _ _ _
      | exact laws_toGauss.mono _ _ _ _
      | exact spec_CountPattern.mono _ _ _ _ _ _ _
      | exact LeO.none _
      | refine LeO.ite ?_ ?_
      | refine LeO.bind ?_ (fun _ => ?_)
def laws_FnExactCountPattern.T8 : Bool × List (List Nat × List Nat) := (true, [([], []), ([0], [0]), ([], []), ([2, 1], [2]), ([1, 3, 3], [1, 3]), ([4], [4]), ([5], [5]), ([5], [5]), ([6, 4, 0, 1, 2, 3, 4, 5, 6], [6]), ([7, 8, 0, 1, 2, 3, 4, 5, 6, 7, 8], [7])])
def laws_FnExactCountPattern.B8 : List Nat := [0, 1, 0, 7, 15, 31, 63, 63, 127, 511]
theorem laws_FnExactCountPattern.tab8 : rtab .any (opsOf Try.f4 8) = laws_FnExactCountPattern.T8 := by kernel_rfl
theorem laws_FnExactCountPattern.bits8 : waitsOk laws_FnExactCountPattern.T8.2 laws_FnExactCountPattern.B8 = true := by kernel_rfl
set_option maxHeartbeats 8000000 in
set_option maxRecDepth 100000 in
theorem laws_FnExactCountPattern.calls (k : Nat) (A0_0 : Option Addr) (c0_0 : Nat) (l0_0 : List Int) (A0_1 : Option Addr) (c0_1 : Nat) (l0_1 : List Int) (A0_2 : Option Addr) (c0_2 : Nat) (l0_2 : List Int) (A1_0 : Option Addr) (c1_0 : Nat) (l1_0 : List Int) (A1_1 : Option Addr) (c1_1 : Nat) (l1_1 : List Int) (A1_2 : Option Addr) (c1_2 : Nat) (l1_2 : List Int) (r : Bool) (w : World) (hr0_0 : Kd.C (Kd.int .i64) w A0_0 l0_0.length l0_0) (hc0_0 : l0_0.length ≤ c0_0) (hr0_1 : Kd.C (Kd.int .i64) w A0_1 l0_1.length l0_1) (hc0_1 : l0_1.length ≤ c0_1) (hr0_2 : Kd.C (Kd.int .i64) w A0_2 l0_2.length l0_2) (hc0_2 : l0_2.length ≤ c0_2) (hr1_0 : Kd.C (Kd.int .i64) w A1_0 l1_0.length l1_0) (hc1_0 : l1_0.length ≤ c1_0) (hr1_1 : Kd.C (Kd.int .i64) w A1_1 l1_1.length l1_1) (hc1_1 : l1_1.length ≤ c1_1) (hr1_2 : Kd.C (Kd.int .i64) w A1_2 l1_2.length l1_2) (hc1_2 : l1_2.length ≤ c1_2) (h : laws_FnExactCountPattern.f k l0_0 l0_1 l0_2 l1_0 l1_1 l1_2 = some r) :
    Calls Try.prog 4 #[.agg #[.slice A0_0 l0_0.length c0_0, .slice A0_1 l0_1.length c0_1, .slice A0_2 l0_2.length c0_2], .agg #[.slice A1_0 l1_0.length c1_0, .slice A1_1 l1_1.length c1_1, .slice A1_2 l1_2.length c1_2]] w fun e w' => e = .returned (.bool r) ∧ Below w.heap.size w w' := by
  have hu30 := Try.underlying30
  have hu34 := Try.underlying34
  have HR0_0 := Aside0.mk hr0_0
  have HC0_0 := Aside0.mk hc0_0
  clear hr0_0 hc0_0
  have HR0_1 := Aside0.mk hr0_1
  have HC0_1 := Aside0.mk hc0_1
  clear hr0_1 hc0_1
  have HR0_2 := Aside0.mk hr0_2
  have HC0_2 := Aside0.mk hc0_2
  clear hr0_2 hc0_2
  have HR1_0 := Aside0.mk hr1_0
  have HC1_0 := Aside0.mk hc1_0
  clear hr1_0 hc1_0
  have HR1_1 := Aside0.mk hr1_1
  have HC1_1 := Aside0.mk hc1_1
  clear hr1_1 hc1_1
  have HR1_2 := Aside0.mk hr1_2
  have HC1_2 := Aside0.mk hc1_2
  clear hr1_2 hc1_2
  have HB := mk0 (Below.refl w.heap.size w)
  have H : ((laws_szGauss.f l0_0 l0_1 l0_2 1048576).bind fun t109 => (if t109 < 0 then (some true) else ((laws_szGauss.f l1_0 l1_1 l1_2 t109).bind fun t110 => (if t110 < 0 then (some true) else ((laws_toGauss.f k l0_0 l0_1 l0_2).bind fun bt111 => ((laws_toGauss.f k l1_0 l1_1 l1_2).bind fun bt120 => ((spec_CountPattern.f k bt111.1 bt111.2.1 bt111.2.2 bt120.1 bt120.2.1 bt120.2.2).bind fun bt129 => ((laws_toGauss.f k l0_0 l0_1 l0_2).bind fun bt131 => ((laws_toGauss.f k l1_0 l1_1 l1_2).bind fun bt141 => ((impl_CountPattern.f k bt131.1 bt131.2.1 bt131.2.2 bt141.1 bt141.2.1 bt141.2.2).bind fun bt151 => (if bt151.1 = bt129.1 then (laws_FnExactCountPattern.j0 k (bt151.2 != bt129.2) l0_0 l0_1 l0_2 l1_0 l1_1 l1_2 bt131.1 bt131.2.1 bt131.2.2 bt141.1 bt141.2.1 bt141.2.2) else (laws_FnExactCountPattern.j0 k true l0_0 l0_1 l0_2 l1_0 l1_1 l1_2 bt131.1 bt131.2.1 bt131.2.2 bt141.1 bt141.2.1 bt141.2.2)))))))))))) = some r := h
  clear h
  replace H := Option.bind_eq_some_iff.mp H
  obtain ⟨t109, A30, H⟩ := H
  replace H : (if t109 < 0 then (some true) else ((laws_szGauss.f l1_0 l1_1 l1_2 t109).bind fun t110 => (if t110 < 0 then (some true) else ((laws_toGauss.f k l0_0 l0_1 l0_2).bind fun bt111 => ((laws_toGauss.f k l1_0 l1_1 l1_2).bind fun bt120 => ((spec_CountPattern.f k bt111.1 bt111.2.1 bt111.2.2 bt120.1 bt120.2.1 bt120.2.2).bind fun bt129 => ((laws_toGauss.f k l0_0 l0_1 l0_2).bind fun bt131 => ((laws_toGauss.f k l1_0 l1_1 l1_2).bind fun bt141 => ((impl_CountPattern.f k bt131.1 bt131.2.1 bt131.2.2 bt141.1 bt141.2.1 bt141.2.2).bind fun bt151 => (if bt151.1 = bt129.1 then (laws_FnExactCountPattern.j0 k (bt151.2 != bt129.2) l0_0 l0_1 l0_2 l1_0 l1_1 l1_2 bt131.1 bt131.2.1 bt131.2.2 bt141.1 bt141.2.1 bt141.2.2) else (laws_FnExactCountPattern.j0 k true l0_0 l0_1 l0_2 l1_0 l1_1 l1_2 bt131.1 bt131.2.1 bt131.2.2 bt141.1 bt141.2.1 bt141.2.2))))))))))) = some r := H
  have A3 := Aside0.mk A30
  clear A30
  by_cases c4 : t109 < 0
  · rw [if_pos c4] at H
    have c4b0 : decide (t109 < 0) = true := decide_eq_true c4
    clear c4
    obtain rfl := Option.some.inj H
    go_enter Try.func4, Try.ntmps4
    go_wp2_with (first | ((with_reducible refine gate_dst (N := 2) rfl ?_); refine box_event ?hg (N := 2) ?hd (cs := #[.slice A0_0 l0_0.length c0_0, .slice A0_1 l0_1.length c0_1, .slice A0_2 l0_2.length c0_2]) (t := 30) ?hr ?_; (case hd => rfl); (case hg => rfl); (case hr => first | (go_simp; done) | (go_simp; rfl)); intro gb107 hg w5 hbox hb; have n0_ := mk0 (below_step (by repeat (first | exact HB.out | apply below_alloc | apply pw_below_drewN | apply below_drew1)) hb); have n1_ := mk0 (hbox); have n2_ := mk0 ((by rw [hg]; exact (below_size (by repeat (first | exact HB.out | apply below_alloc | apply pw_below_drewN | apply below_drew1))) : w.heap.size ≤ gb107)); have n3_ := mk0 ((by rw [hg]; exact (below_size (by repeat (first | exact HB.out | apply below_alloc | apply pw_below_drewN | apply below_drew1))) : w.heap.size ≤ gb107)); clear HB; have HB := n0_; have BK107 := n1_; have GW107 := n2_; have GE107 := n3_; clear n0_ n1_ n2_ n3_; clear hb hbox hg) | ((with_reducible refine gate_dst (N := 3) rfl ?_); refine box_event ?hg (N := 3) ?hd (cs := #[.slice A1_0 l1_0.length c1_0, .slice A1_1 l1_1.length c1_1, .slice A1_2 l1_2.length c1_2]) (t := 30) ?hr ?_; (case hd => rfl); (case hg => rfl); (case hr => first | (go_simp; done) | (go_simp; rfl)); intro gb108 hg w6 hbox hb; have n0_ := mk0 (blk_below (g := gb107) (o := .cells #[.slice A0_0 l0_0.length c0_0, .slice A0_1 l0_1.length c0_1, .slice A0_2 l0_2.length c0_2] 30 (0, 0)) (by (with_reducible repeat (first | refine blk_drewN ?_ _ | refine blk_drew ?_ | refine blk_alloc ?_ _)); exact BK107.out) hb); have n1_ := mk0 (below_step (by repeat (first | exact HB.out | apply below_alloc | apply pw_below_drewN | apply below_drew1 | refine below_set ?_ GE107.out)) hb); have n2_ := mk0 (hbox); have n3_ := mk0 ((by rw [hg]; exact (below_size (by repeat (first | exact HB.out | apply below_alloc | apply pw_below_drewN | apply below_drew1 | refine below_set ?_ GE107.out))) : w.heap.size ≤ gb108)); have n4_ := mk0 ((by rw [hg]; exact (below_size (by repeat (first | exact HB.out | apply below_alloc | apply pw_below_drewN | apply below_drew1 | refine below_set ?_ GE107.out))) : w.heap.size ≤ gb108)); have n5_ := mk0 ((by rw [hg]; exact Nat.ne_of_lt (blk_lt (g := gb107) (o := .cells #[.slice A0_0 l0_0.length c0_0, .slice A0_1 l0_1.length c0_1, .slice A0_2 l0_2.length c0_2] 30 (0, 0)) (by (with_reducible repeat (first | refine blk_drewN ?_ _ | refine blk_drew ?_ | refine blk_alloc ?_ _)); exact BK107.out)) : gb107 ≠ gb108)); have n6_ := mk0 ((by rw [hg]; exact Nat.ne_of_gt (blk_lt (g := gb107) (o := .cells #[.slice A0_0 l0_0.length c0_0, .slice A0_1 l0_1.length c0_1, .slice A0_2 l0_2.length c0_2] 30 (0, 0)) (by (with_reducible repeat (first | refine blk_drewN ?_ _ | refine blk_drew ?_ | refine blk_alloc ?_ _)); exact BK107.out)) : gb108 ≠ gb107)); clear BK107; clear HB; have BK107 := n0_; have HB := n1_; have BK108 := n2_; have GW108 := n3_; have GE108 := n4_; have NB107_108 := n5_; have NB108_107 := n6_; clear n0_ n1_ n2_ n3_ n4_ n5_ n6_; clear hb hbox hg; have hnb7 := NB107_108.out; have hnc7 := NB108_107.out; obtain ⟨hcz8_0, hcz8_1, hcz8_2⟩ := bc3 BK107.out; obtain ⟨hfz8_0, hfz8_1, hfz8_2⟩ := bf3 BK107.out) | ((with_reducible refine gate_callee (f := 21) rfl ?_); refine goesL_ (some 14) rfl rfl Try.func21 (by kernel_rfl) rfl #[.agg #[.slice A0_0 l0_0.length c0_0, .slice A0_1 l0_1.length c0_1, .slice A0_2 l0_2.length c0_2], .int .i64 1048576] rfl (by (try simp only [List.map_toArray, List.map_cons, List.map_nil]); rfl) ?_; (with_reducible refine (laws_szGauss.calls _ _ l0_0 _ _ l0_1 _ _ l0_2 1048576 t109 _ ?side1 ?side2 ?side3 ?side4 ?side5 ?side6 A3.out).mono ?_); (case side1 => exact (Kd.C_below HR0_0.out HB.out)); (case side2 => exact HC0_0.out); (case side3 => exact (Kd.C_below HR0_1.out HB.out)); (case side4 => exact HC0_1.out); (case side5 => exact (Kd.C_below HR0_2.out HB.out)); (case side6 => exact HC0_2.out); rintro e w9 ⟨rfl, hb⟩; refine ⟨_, rfl, ?_⟩; have n0_ := mk0 (blk_below (g := gb107) (o := .cells #[.slice A0_0 l0_0.length c0_0, .slice A0_1 l0_1.length c0_1, .slice A0_2 l0_2.length c0_2] 30 (0, 0)) (by (with_reducible repeat (first | refine blk_drewN ?_ _ | refine blk_drew ?_ | refine blk_alloc ?_ _)); exact BK107.out) hb); have n1_ := mk0 (blk_below (g := gb108) (o := .cells #[.slice A1_0 l1_0.length c1_0, .slice A1_1 l1_1.length c1_1, .slice A1_2 l1_2.length c1_2] 30 (0, 0)) (by (with_reducible repeat (first | refine blk_drewN ?_ _ | refine blk_drew ?_ | refine blk_alloc ?_ _)); exact BK108.out) hb); have n2_ := mk0 (below_step (by repeat (first | exact HB.out | apply below_alloc | apply pw_below_drewN | apply below_drew1 | refine below_set ?_ GE107.out | refine below_set ?_ GE108.out)) hb); clear BK107; clear BK108; clear HB; have BK107 := n0_; have BK108 := n1_; have HB := n2_; clear n0_ n1_ n2_; (try clear hb); (try clear hb2); (try clear hk); (try clear hi)))
    go_ret
    exact ⟨by first | rfl | (simp [errW_none, errW_some] <;> rfl) | (simp [*, errW_none, errW_some] <;> rfl), by repeat (first | exact HB.out | apply below_alloc | apply pw_below_drewN | apply below_drew1 | refine below_set ?_ GE107.out | refine below_set ?_ GE108.out)⟩
  · rw [if_neg c4] at H
    have c4b0 : decide (t109 < 0) = false := decide_eq_false c4
    clear c4
    replace H := Option.bind_eq_some_iff.mp H
    obtain ⟨t110, A100, H⟩ := H
    replace H : (if t110 < 0 then (some true) else ((laws_toGauss.f k l0_0 l0_1 l0_2).bind fun bt111 => ((laws_toGauss.f k l1_0 l1_1 l1_2).bind fun bt120 => ((spec_CountPattern.f k bt111.1 bt111.2.1 bt111.2.2 bt120.1 bt120.2.1 bt120.2.2).bind fun bt129 => ((laws_toGauss.f k l0_0 l0_1 l0_2).bind fun bt131 => ((laws_toGauss.f k l1_0 l1_1 l1_2).bind fun bt141 => ((impl_CountPattern.f k bt131.1 bt131.2.1 bt131.2.2 bt141.1 bt141.2.1 bt141.2.2).bind fun bt151 => (if bt151.1 = bt129.1 then (laws_FnExactCountPattern.j0 k (bt151.2 != bt129.2) l0_0 l0_1 l0_2 l1_0 l1_1 l1_2 bt131.1 bt131.2.1 bt131.2.2 bt141.1 bt141.2.1 bt141.2.2) else (laws_FnExactCountPattern.j0 k true l0_0 l0_1 l0_2 l1_0 l1_1 l1_2 bt131.1 bt131.2.1 bt131.2.2 bt141.1 bt141.2.1 bt141.2.2))))))))) = some r := H
    have A10 := Aside0.mk A100
    clear A100
    by_cases c11 : t110 < 0
    · rw [if_pos c11] at H
      have c11b0 : decide (t110 < 0) = true := decide_eq_true c11
      clear c11
      obtain rfl := Option.some.inj H
      go_enter Try.func4, Try.ntmps4
      go_wp2_with (first | ((with_reducible refine gate_dst (N := 2) rfl ?_); refine box_event ?hg (N := 2) ?hd (cs := #[.slice A0_0 l0_0.length c0_0, .slice A0_1 l0_1.length c0_1, .slice A0_2 l0_2.length c0_2]) (t := 30) ?hr ?_; (case hd => rfl); (case hg => rfl); (case hr => first | (go_simp; done) | (go_simp; rfl)); intro gb107 hg w12 hbox hb; have n0_ := mk0 (below_step (by repeat (first | exact HB.out | apply below_alloc | apply pw_below_drewN | apply below_drew1)) hb); have n1_ := mk0 (hbox); have n2_ := mk0 ((by rw [hg]; exact (below_size (by repeat (first | exact HB.out | apply below_alloc | apply pw_below_drewN | apply below_drew1))) : w.heap.size ≤ gb107)); have n3_ := mk0 ((by rw [hg]; exact (below_size (by repeat (first | exact HB.out | apply below_alloc | apply pw_below_drewN | apply below_drew1))) : w.heap.size ≤ gb107)); clear HB; have HB := n0_; have BK107 := n1_; have GW107 := n2_; have GE107 := n3_; clear n0_ n1_ n2_ n3_; clear hb hbox hg) | ((with_reducible refine gate_dst (N := 3) rfl ?_); refine box_event ?hg (N := 3) ?hd (cs := #[.slice A1_0 l1_0.length c1_0, .slice A1_1 l1_1.length c1_1, .slice A1_2 l1_2.length c1_2]) (t := 30) ?hr ?_; (case hd => rfl); (case hg => rfl); (case hr => first | (go_simp; done) | (go_simp; rfl)); intro gb108 hg w13 hbox hb; have n0_ := mk0 (blk_below (g := gb107) (o := .cells #[.slice A0_0 l0_0.length c0_0, .slice A0_1 l0_1.length c0_1, .slice A0_2 l0_2.length c0_2] 30 (0, 0)) (by (with_reducible repeat (first | refine blk_drewN ?_ _ | refine blk_drew ?_ | refine blk_alloc ?_ _)); exact BK107.out) hb); have n1_ := mk0 (below_step (by repeat (first | exact HB.out | apply below_alloc | apply pw_below_drewN | apply below_drew1 | refine below_set ?_ GE107.out)) hb); have n2_ := mk0 (hbox); have n3_ := mk0 ((by rw [hg]; exact (below_size (by repeat (first | exact HB.out | apply below_alloc | apply pw_below_drewN | apply below_drew1 | refine below_set ?_ GE107.out))) : w.heap.size ≤ gb108)); have n4_ := mk0 ((by rw [hg]; exact (below_size (by repeat (first | exact HB.out | apply below_alloc | apply pw_below_drewN | apply below_drew1 | refine below_set ?_ GE107.out))) : w.heap.size ≤ gb108)); have n5_ := mk0 ((by rw [hg]; exact Nat.ne_of_lt (blk_lt (g := gb107) (o := .cells #[.slice A0_0 l0_0.length c0_0, .slice A0_1 l0_1.length c0_1, .slice A0_2 l0_2.length c0_2] 30 (0, 0)) (by (with_reducible repeat (first | refine blk_drewN ?_ _ | refine blk_drew ?_ | refine blk_alloc ?_ _)); exact BK107.out)) : gb107 ≠ gb108)); have n6_ := mk0 ((by rw [hg]; exact Nat.ne_of_gt (blk_lt (g := gb107) (o := .cells #[.slice A0_0 l0_0.length c0_0, .slice A0_1 l0_1.length c0_1, .slice A0_2 l0_2.length c0_2] 30 (0, 0)) (by (with_reducible repeat (first | refine blk_drewN ?_ _ | refine blk_drew ?_ | refine blk_alloc ?_ _)); exact BK107.out)) : gb108 ≠ gb107)); clear BK107; clear HB; have BK107 := n0_; have HB := n1_; have BK108 := n2_; have GW108 := n3_; have GE108 := n4_; have NB107_108 := n5_; have NB108_107 := n6_; clear n0_ n1_ n2_ n3_ n4_ n5_ n6_; clear hb hbox hg; have hnb14 := NB107_108.out; have hnc14 := NB108_107.out; obtain ⟨hcz15_0, hcz15_1, hcz15_2⟩ := bc3 BK107.out; obtain ⟨hfz15_0, hfz15_1, hfz15_2⟩ := bf3 BK107.out) | ((with_reducible refine gate_callee (f := 21) rfl ?_); refine goesL_ (some 14) rfl rfl Try.func21 (by kernel_rfl) rfl #[.agg #[.slice A0_0 l0_0.length c0_0, .slice A0_1 l0_1.length c0_1, .slice A0_2 l0_2.length c0_2], .int .i64 1048576] rfl (by (try simp only [List.map_toArray, List.map_cons, List.map_nil]); rfl) ?_; (with_reducible refine (laws_szGauss.calls _ _ l0_0 _ _ l0_1 _ _ l0_2 1048576 t109 _ ?side1 ?side2 ?side3 ?side4 ?side5 ?side6 A3.out).mono ?_); (case side1 => exact (Kd.C_below HR0_0.out HB.out)); (case side2 => exact HC0_0.out); (case side3 => exact (Kd.C_below HR0_1.out HB.out)); (case side4 => exact HC0_1.out); (case side5 => exact (Kd.C_below HR0_2.out HB.out)); (case side6 => exact HC0_2.out); rintro e w16 ⟨rfl, hb⟩; refine ⟨_, rfl, ?_⟩; have n0_ := mk0 (blk_below (g := gb107) (o := .cells #[.slice A0_0 l0_0.length c0_0, .slice A0_1 l0_1.length c0_1, .slice A0_2 l0_2.length c0_2] 30 (0, 0)) (by (with_reducible repeat (first | refine blk_drewN ?_ _ | refine blk_drew ?_ | refine blk_alloc ?_ _)); exact BK107.out) hb); have n1_ := mk0 (blk_below (g := gb108) (o := .cells #[.slice A1_0 l1_0.length c1_0, .slice A1_1 l1_1.length c1_1, .slice A1_2 l1_2.length c1_2] 30 (0, 0)) (by (with_reducible repeat (first | refine blk_drewN ?_ _ | refine blk_drew ?_ | refine blk_alloc ?_ _)); exact BK108.out) hb); have n2_ := mk0 (below_step (by repeat (first | exact HB.out | apply below_alloc | apply pw_below_drewN | apply below_drew1 | refine below_set ?_ GE107.out | refine below_set ?_ GE108.out)) hb); clear BK107; clear BK108; clear HB; have BK107 := n0_; have BK108 := n1_; have HB := n2_; clear n0_ n1_ n2_; (try clear hb); (try clear hb2); (try clear hk); (try clear hi); obtain ⟨hcz17_0, hcz17_1, hcz17_2⟩ := bc3 BK108.out; obtain ⟨hfz17_0, hfz17_1, hfz17_2⟩ := bf3 BK108.out) | ((with_reducible refine gate_callee (f := 21) rfl ?_); refine goesL_ (some 19) rfl rfl Try.func21 (by kernel_rfl) rfl #[.agg #[.slice A1_0 l1_0.length c1_0, .slice A1_1 l1_1.length c1_1, .slice A1_2 l1_2.length c1_2], .int .i64 t109] rfl (by (try simp only [List.map_toArray, List.map_cons, List.map_nil]); rfl) ?_; (with_reducible refine (laws_szGauss.calls _ _ l1_0 _ _ l1_1 _ _ l1_2 t109 t110 _ ?side1 ?side2 ?side3 ?side4 ?side5 ?side6 A10.out).mono ?_); (case side1 => exact (Kd.C_below HR1_0.out HB.out)); (case side2 => exact HC1_0.out); (case side3 => exact (Kd.C_below HR1_1.out HB.out)); (case side4 => exact HC1_1.out); (case side5 => exact (Kd.C_below HR1_2.out HB.out)); (case side6 => exact HC1_2.out); rintro e w18 ⟨rfl, hb⟩; refine ⟨_, rfl, ?_⟩; have n0_ := mk0 (blk_below (g := gb107) (o := .cells #[.slice A0_0 l0_0.length c0_0, .slice A0_1 l0_1.length c0_1, .slice A0_2 l0_2.length c0_2] 30 (0, 0)) (by (with_reducible repeat (first | refine blk_drewN ?_ _ | refine blk_drew ?_ | refine blk_alloc ?_ _)); exact BK107.out) hb); have n1_ := mk0 (blk_below (g := gb108) (o := .cells #[.slice A1_0 l1_0.length c1_0, .slice A1_1 l1_1.length c1_1, .slice A1_2 l1_2.length c1_2] 30 (0, 0)) (by (with_reducible repeat (first | refine blk_drewN ?_ _ | refine blk_drew ?_ | refine blk_alloc ?_ _)); exact BK108.out) hb); have n2_ := mk0 (below_step (by repeat (first | exact HB.out | apply below_alloc | apply pw_below_drewN | apply below_drew1 | refine below_set ?_ GE107.out | refine below_set ?_ GE108.out)) hb); clear BK107; clear BK108; clear HB; have BK107 := n0_; have BK108 := n1_; have HB := n2_; clear n0_ n1_ n2_; (try clear hb); (try clear hb2); (try clear hk); (try clear hi)))
      go_ret
      exact ⟨by first | rfl | (simp [errW_none, errW_some] <;> rfl) | (simp [*, errW_none, errW_some] <;> rfl), by repeat (first | exact HB.out | apply below_alloc | apply pw_below_drewN | apply below_drew1 | refine below_set ?_ GE107.out | refine below_set ?_ GE108.out)⟩
    · rw [if_neg c11] at H
      have c11b0 : decide (t110 < 0) = false := decide_eq_false c11
      clear c11
      replace H := Option.bind_eq_some_iff.mp H
      obtain ⟨⟨t111, t114, t117⟩, A190, H⟩ := H
      replace H : ((laws_toGauss.f k l1_0 l1_1 l1_2).bind fun bt120 => ((spec_CountPattern.f k t111 t114 t117 bt120.1 bt120.2.1 bt120.2.2).bind fun bt129 => ((laws_toGauss.f k l0_0 l0_1 l0_2).bind fun bt131 => ((laws_toGauss.f k l1_0 l1_1 l1_2).bind fun bt141 => ((impl_CountPattern.f k bt131.1 bt131.2.1 bt131.2.2 bt141.1 bt141.2.1 bt141.2.2).bind fun bt151 => (if bt151.1 = bt129.1 then (laws_FnExactCountPattern.j0 k (bt151.2 != bt129.2) l0_0 l0_1 l0_2 l1_0 l1_1 l1_2 bt131.1 bt131.2.1 bt131.2.2 bt141.1 bt141.2.1 bt141.2.2) else (laws_FnExactCountPattern.j0 k true l0_0 l0_1 l0_2 l1_0 l1_1 l1_2 bt131.1 bt131.2.1 bt131.2.2 bt141.1 bt141.2.1 bt141.2.2))))))) = some r := H
      have A19 := Aside0.mk A190
      clear A190
      replace H := Option.bind_eq_some_iff.mp H
      obtain ⟨⟨t120, t123, t126⟩, A200, H⟩ := H
      replace H : ((spec_CountPattern.f k t111 t114 t117 t120 t123 t126).bind fun bt129 => ((laws_toGauss.f k l0_0 l0_1 l0_2).bind fun bt131 => ((laws_toGauss.f k l1_0 l1_1 l1_2).bind fun bt141 => ((impl_CountPattern.f k bt131.1 bt131.2.1 bt131.2.2 bt141.1 bt141.2.1 bt141.2.2).bind fun bt151 => (if bt151.1 = bt129.1 then (laws_FnExactCountPattern.j0 k (bt151.2 != bt129.2) l0_0 l0_1 l0_2 l1_0 l1_1 l1_2 bt131.1 bt131.2.1 bt131.2.2 bt141.1 bt141.2.1 bt141.2.2) else (laws_FnExactCountPattern.j0 k true l0_0 l0_1 l0_2 l1_0 l1_1 l1_2 bt131.1 bt131.2.1 bt131.2.2 bt141.1 bt141.2.1 bt141.2.2)))))) = some r := H
      have A20 := Aside0.mk A200
      clear A200
      replace H := Option.bind_eq_some_iff.mp H
      obtain ⟨⟨t129, t130⟩, A210, H⟩ := H
      replace H : ((laws_toGauss.f k l0_0 l0_1 l0_2).bind fun bt131 => ((laws_toGauss.f k l1_0 l1_1 l1_2).bind fun bt141 => ((impl_CountPattern.f k bt131.1 bt131.2.1 bt131.2.2 bt141.1 bt141.2.1 bt141.2.2).bind fun bt151 => (if bt151.1 = t129 then (laws_FnExactCountPattern.j0 k (bt151.2 != t130) l0_0 l0_1 l0_2 l1_0 l1_1 l1_2 bt131.1 bt131.2.1 bt131.2.2 bt141.1 bt141.2.1 bt141.2.2) else (laws_FnExactCountPattern.j0 k true l0_0 l0_1 l0_2 l1_0 l1_1 l1_2 bt131.1 bt131.2.1 bt131.2.2 bt141.1 bt141.2.1 bt141.2.2))))) = some r := H
      have A21 := Aside0.mk A210
      clear A210
      replace H := Option.bind_eq_some_iff.mp H
      obtain ⟨⟨t131, t134, t137⟩, A220, H⟩ := H
      replace H : ((laws_toGauss.f k l1_0 l1_1 l1_2).bind fun bt141 => ((impl_CountPattern.f k t131 t134 t137 bt141.1 bt141.2.1 bt141.2.2).bind fun bt151 => (if bt151.1 = t129 then (laws_FnExactCountPattern.j0 k (bt151.2 != t130) l0_0 l0_1 l0_2 l1_0 l1_1 l1_2 t131 t134 t137 bt141.1 bt141.2.1 bt141.2.2) else (laws_FnExactCountPattern.j0 k true l0_0 l0_1 l0_2 l1_0 l1_1 l1_2 t131 t134 t137 bt141.1 bt141.2.1 bt141.2.2)))) = some r := H
      have A22 := Aside0.mk A220
      clear A220
      replace H := Option.bind_eq_some_iff.mp H
      obtain ⟨⟨t141, t144, t147⟩, A230, H⟩ := H
      replace H : ((impl_CountPattern.f k t131 t134 t137 t141 t144 t147).bind fun bt151 => (if bt151.1 = t129 then (laws_FnExactCountPattern.j0 k (bt151.2 != t130) l0_0 l0_1 l0_2 l1_0 l1_1 l1_2 t131 t134 t137 t141 t144 t147) else (laws_FnExactCountPattern.j0 k true l0_0 l0_1 l0_2 l1_0 l1_1 l1_2 t131 t134 t137 t141 t144 t147))) = some r := H
      have A23 := Aside0.mk A230
      clear A230
      replace H := Option.bind_eq_some_iff.mp H
      obtain ⟨⟨t151, t152⟩, A240, H⟩ := H
      replace H : (if t151 = t129 then (laws_FnExactCountPattern.j0 k (t152 != t130) l0_0 l0_1 l0_2 l1_0 l1_1 l1_2 t131 t134 t137 t141 t144 t147) else (laws_FnExactCountPattern.j0 k true l0_0 l0_1 l0_2 l1_0 l1_1 l1_2 t131 t134 t137 t141 t144 t147)) = some r := H
      have A24 := Aside0.mk A240
      clear A240
      have HC25 := Aside0.mk H
      clear H
      go_enter Try.func4, Try.ntmps4
      try go_wp2_with (first | ((with_reducible refine gate_dst (N := 2) rfl ?_); refine box_event ?hg (N := 2) ?hd (cs := #[.slice A0_0 l0_0.length c0_0, .slice A0_1 l0_1.length c0_1, .slice A0_2 l0_2.length c0_2]) (t := 30) ?hr ?_; (case hd => rfl); (case hg => rfl); (case hr => first | (go_simp; done) | (go_simp; rfl)); intro gb107 hg w26 hbox hb; have n0_ := mk0 (below_step (by repeat (first | exact HB.out | apply below_alloc | apply pw_below_drewN | apply below_drew1)) hb); have n1_ := mk0 (hbox); have n2_ := mk0 ((by rw [hg]; exact (below_size (by repeat (first | exact HB.out | apply below_alloc | apply pw_below_drewN | apply below_drew1))) : w.heap.size ≤ gb107)); have n3_ := mk0 ((by rw [hg]; exact (below_size (by repeat (first | exact HB.out | apply below_alloc | apply pw_below_drewN | apply below_drew1))) : w.heap.size ≤ gb107)); clear HB; have HB := n0_; have BK107 := n1_; have GW107 := n2_; have GE107 := n3_; clear n0_ n1_ n2_ n3_; clear hb hbox hg) | ((with_reducible refine gate_dst (N := 3) rfl ?_); refine box_event ?hg (N := 3) ?hd (cs := #[.slice A1_0 l1_0.length c1_0, .slice A1_1 l1_1.length c1_1, .slice A1_2 l1_2.length c1_2]) (t := 30) ?hr ?_; (case hd => rfl); (case hg => rfl); (case hr => first | (go_simp; done) | (go_simp; rfl)); intro gb108 hg w27 hbox hb; have n0_ := mk0 (blk_below (g := gb107) (o := .cells #[.slice A0_0 l0_0.length c0_0, .slice A0_1 l0_1.length c0_1, .slice A0_2 l0_2.length c0_2] 30 (0, 0)) (by (with_reducible repeat (first | refine blk_drewN ?_ _ | refine blk_drew ?_ | refine blk_alloc ?_ _)); exact BK107.out) hb); have n1_ := mk0 (below_step (by repeat (first | exact HB.out | apply below_alloc | apply pw_below_drewN | apply below_drew1 | refine below_set ?_ GE107.out)) hb); have n2_ := mk0 (hbox); have n3_ := mk0 ((by rw [hg]; exact (below_size (by repeat (first | exact HB.out | apply below_alloc | apply pw_below_drewN | apply below_drew1 | refine below_set ?_ GE107.out))) : w.heap.size ≤ gb108)); have n4_ := mk0 ((by rw [hg]; exact (below_size (by repeat (first | exact HB.out | apply below_alloc | apply pw_below_drewN | apply below_drew1 | refine below_set ?_ GE107.out))) : w.heap.size ≤ gb108)); have n5_ := mk0 ((by rw [hg]; exact Nat.ne_of_lt (blk_lt (g := gb107) (o := .cells #[.slice A0_0 l0_0.length c0_0, .slice A0_1 l0_1.length c0_1, .slice A0_2 l0_2.length c0_2] 30 (0, 0)) (by (with_reducible repeat (first | refine blk_drewN ?_ _ | refine blk_drew ?_ | refine blk_alloc ?_ _)); exact BK107.out)) : gb107 ≠ gb108)); have n6_ := mk0 ((by rw [hg]; exact Nat.ne_of_gt (blk_lt (g := gb107) (o := .cells #[.slice A0_0 l0_0.length c0_0, .slice A0_1 l0_1.length c0_1, .slice A0_2 l0_2.length c0_2] 30 (0, 0)) (by (with_reducible repeat (first | refine blk_drewN ?_ _ | refine blk_drew ?_ | refine blk_alloc ?_ _)); exact BK107.out)) : gb108 ≠ gb107)); clear BK107; clear HB; have BK107 := n0_; have HB := n1_; have BK108 := n2_; have GW108 := n3_; have GE108 := n4_; have NB107_108 := n5_; have NB108_107 := n6_; clear n0_ n1_ n2_ n3_ n4_ n5_ n6_; clear hb hbox hg; have hnb28 := NB107_108.out; have hnc28 := NB108_107.out; obtain ⟨hcz29_0, hcz29_1, hcz29_2⟩ := bc3 BK107.out; obtain ⟨hfz29_0, hfz29_1, hfz29_2⟩ := bf3 BK107.out) | ((with_reducible refine gate_callee (f := 21) rfl ?_); refine goesL_ (some 14) rfl rfl Try.func21 (by kernel_rfl) rfl #[.agg #[.slice A0_0 l0_0.length c0_0, .slice A0_1 l0_1.length c0_1, .slice A0_2 l0_2.length c0_2], .int .i64 1048576] rfl (by (try simp only [List.map_toArray, List.map_cons, List.map_nil]); rfl) ?_; (with_reducible refine (laws_szGauss.calls _ _ l0_0 _ _ l0_1 _ _ l0_2 1048576 t109 _ ?side1 ?side2 ?side3 ?side4 ?side5 ?side6 A3.out).mono ?_); (case side1 => exact (Kd.C_below HR0_0.out HB.out)); (case side2 => exact HC0_0.out); (case side3 => exact (Kd.C_below HR0_1.out HB.out)); (case side4 => exact HC0_1.out); (case side5 => exact (Kd.C_below HR0_2.out HB.out)); (case side6 => exact HC0_2.out); rintro e w30 ⟨rfl, hb⟩; refine ⟨_, rfl, ?_⟩; have n0_ := mk0 (blk_below (g := gb107) (o := .cells #[.slice A0_0 l0_0.length c0_0, .slice A0_1 l0_1.length c0_1, .slice A0_2 l0_2.length c0_2] 30 (0, 0)) (by (with_reducible repeat (first | refine blk_drewN ?_ _ | refine blk_drew ?_ | refine blk_alloc ?_ _)); exact BK107.out) hb); have n1_ := mk0 (blk_below (g := gb108) (o := .cells #[.slice A1_0 l1_0.length c1_0, .slice A1_1 l1_1.length c1_1, .slice A1_2 l1_2.length c1_2] 30 (0, 0)) (by (with_reducible repeat (first | refine blk_drewN ?_ _ | refine blk_drew ?_ | refine blk_alloc ?_ _)); exact BK108.out) hb); have n2_ := mk0 (below_step (by repeat (first | exact HB.out | apply below_alloc | apply pw_below_drewN | apply below_drew1 | refine below_set ?_ GE107.out | refine below_set ?_ GE108.out)) hb); clear BK107; clear BK108; clear HB; have BK107 := n0_; have BK108 := n1_; have HB := n2_; clear n0_ n1_ n2_; (try clear hb); (try clear hb2); (try clear hk); (try clear hi); obtain ⟨hcz31_0, hcz31_1, hcz31_2⟩ := bc3 BK108.out; obtain ⟨hfz31_0, hfz31_1, hfz31_2⟩ := bf3 BK108.out) | ((with_reducible refine gate_callee (f := 21) rfl ?_); refine goesL_ (some 19) rfl rfl Try.func21 (by kernel_rfl) rfl #[.agg #[.slice A1_0 l1_0.length c1_0, .slice A1_1 l1_1.length c1_1, .slice A1_2 l1_2.length c1_2], .int .i64 t109] rfl (by (try simp only [List.map_toArray, List.map_cons, List.map_nil]); rfl) ?_; (with_reducible refine (laws_szGauss.calls _ _ l1_0 _ _ l1_1 _ _ l1_2 t109 t110 _ ?side1 ?side2 ?side3 ?side4 ?side5 ?side6 A10.out).mono ?_); (case side1 => exact (Kd.C_below HR1_0.out HB.out)); (case side2 => exact HC1_0.out); (case side3 => exact (Kd.C_below HR1_1.out HB.out)); (case side4 => exact HC1_1.out); (case side5 => exact (Kd.C_below HR1_2.out HB.out)); (case side6 => exact HC1_2.out); rintro e w32 ⟨rfl, hb⟩; refine ⟨_, rfl, ?_⟩; have n0_ := mk0 (blk_below (g := gb107) (o := .cells #[.slice A0_0 l0_0.length c0_0, .slice A0_1 l0_1.length c0_1, .slice A0_2 l0_2.length c0_2] 30 (0, 0)) (by (with_reducible repeat (first | refine blk_drewN ?_ _ | refine blk_drew ?_ | refine blk_alloc ?_ _)); exact BK107.out) hb); have n1_ := mk0 (blk_below (g := gb108) (o := .cells #[.slice A1_0 l1_0.length c1_0, .slice A1_1 l1_1.length c1_1, .slice A1_2 l1_2.length c1_2] 30 (0, 0)) (by (with_reducible repeat (first | refine blk_drewN ?_ _ | refine blk_drew ?_ | refine blk_alloc ?_ _)); exact BK108.out) hb); have n2_ := mk0 (below_step (by repeat (first | exact HB.out | apply below_alloc | apply pw_below_drewN | apply below_drew1 | refine below_set ?_ GE107.out | refine below_set ?_ GE108.out)) hb); clear BK107; clear BK108; clear HB; have BK107 := n0_; have BK108 := n1_; have HB := n2_; clear n0_ n1_ n2_; (try clear hb); (try clear hb2); (try clear hk); (try clear hi)))
      have n0_ := mk0 (blk_drew BK107.out)
      have n1_ := mk0 (blk_drew BK108.out)
      have n2_ := mk0 (below_drew1 HB.out)
      clear BK107
      clear BK108
      clear HB
      have BK107 := n0_
      have BK108 := n1_
      have HB := n2_
      clear n0_ n1_ n2_
      refine start_ (n := 10) (S := fun w' => w'.cell? ⟨gb107, 0, none⟩ = some (.slice A0_0 l0_0.length c0_0) ∧ w'.cell? ⟨gb107, 1, none⟩ = some (.slice A0_1 l0_1.length c0_1) ∧ w'.cell? ⟨gb107, 2, none⟩ = some (.slice A0_2 l0_2.length c0_2) ∧ w'.cell? ⟨gb108, 0, none⟩ = some (.slice A1_0 l1_0.length c1_0) ∧ w'.cell? ⟨gb108, 1, none⟩ = some (.slice A1_1 l1_1.length c1_1) ∧ w'.cell? ⟨gb108, 2, none⟩ = some (.slice A1_2 l1_2.length c1_2)) (ds := []) #[false, false, false, false, false, false, false, false, false, false] (by kernel_rfl) rfl rfl ⟨(blk_cell BK107.out 0).trans rfl, (blk_cell BK107.out 1).trans rfl, (blk_cell BK107.out 2).trans rfl, (blk_cell BK108.out 0).trans rfl, (blk_cell BK108.out 1).trans rfl, (blk_cell BK108.out 2).trans rfl⟩ (fun hHeld => ?_); refine with_tabW laws_FnExactCountPattern.tab8 laws_FnExactCountPattern.bits8 (fun HT_ HW_ => ?_)
      generalize w32.drew = w33 at BK107 BK108 HB hHeld ⊢
      refine take_ (i := 0) (N := some 23) (v := ?_) (a' := ?_) #[true, false, false, false, false, false, false, false, false, false] rfl rfl (take_ofW HT_.out HW_.out (by kernel_rfl)) (fun _ _ _ h => h) (Or.inl ⟨by rfl, ?_⟩) hHeld ?_ ?_
      rotate_left
      · rintro w' ⟨s0, s1, s2, s3, s4, s5⟩
        go_simp
        with_reducible rfl
      rotate_left
      · simp only [Act.put, List.setIfInBounds_toArray, List.set_cons_zero, List.set_cons_succ, i64_w, i32_w]
        rfl
      refine take_ (i := 2) (N := some 25) (v := ?_) (a' := ?_) #[true, false, true, false, false, false, false, false, false, false] rfl rfl (take_ofW HT_.out HW_.out (by kernel_rfl)) (fun _ _ _ h => h) (Or.inl ⟨by rfl, ?_⟩) hHeld ?_ ?_
      rotate_left
      · rintro w' ⟨s0, s1, s2, s3, s4, s5⟩
        go_simp
        with_reducible rfl
      rotate_left
      · simp only [Act.put, List.setIfInBounds_toArray, List.set_cons_zero, List.set_cons_succ, i64_w, i32_w]
        rfl
      refine one_ (i := 1) (N := some 24) #[true, true, true, false, false, false, false, false, false, false] rfl rfl (one_of HT_.out (by kernel_rfl)) (by decide) (fun K hK => ?_)
      refine goes_ Try.func23 (by kernel_rfl) rfl #[.agg #[.slice A0_0 l0_0.length c0_0, .slice A0_1 l0_1.length c0_1, .slice A0_2 l0_2.length c0_2]] (by rfl) rfl rfl (by (try simp only [List.map_toArray, List.map_cons, List.map_nil]); rfl) ?_
      with_reducible refine (laws_toGauss.calls k _ _ l0_0 _ _ l0_1 _ _ l0_2 t111 t114 t117 _ ?side1 ?side2 ?side3 ?side4 ?side5 ?side6 A19.out).mono ?_
      (case side1 => exact (Kd.C_below HR0_0.out HB.out))
      (case side2 => exact HC0_0.out)
      (case side3 => exact (Kd.C_below HR0_1.out HB.out))
      (case side4 => exact HC0_1.out)
      (case side5 => exact (Kd.C_below HR0_2.out HB.out))
      (case side6 => exact HC0_2.out)
      rintro e w34 ⟨v112, v115, v118, rfl, ho0, ho1, ho2, hb⟩
      refine ⟨_, rfl, ?_⟩
      have n0_ := mk0 (Kd.R_lower ho0 (below_size (by repeat (first | exact HB.out | apply below_alloc | apply pw_below_drewN | apply below_drew1 | refine below_set ?_ GE107.out | refine below_set ?_ GE108.out))))
      have n1_ := mk0 (Kd.R_lower ho1 (below_size (by repeat (first | exact HB.out | apply below_alloc | apply pw_below_drewN | apply below_drew1 | refine below_set ?_ GE107.out | refine below_set ?_ GE108.out))))
      have n2_ := mk0 (Kd.R_lower ho2 (below_size (by repeat (first | exact HB.out | apply below_alloc | apply pw_below_drewN | apply below_drew1 | refine below_set ?_ GE107.out | refine below_set ?_ GE108.out))))
      have n3_ := mk0 (blk_below (g := gb107) (o := .cells #[.slice A0_0 l0_0.length c0_0, .slice A0_1 l0_1.length c0_1, .slice A0_2 l0_2.length c0_2] 30 (0, 0)) (by (with_reducible repeat (first | refine blk_drewN ?_ _ | refine blk_drew ?_ | refine blk_alloc ?_ _)); exact BK107.out) hb)
      have n4_ := mk0 (blk_below (g := gb108) (o := .cells #[.slice A1_0 l1_0.length c1_0, .slice A1_1 l1_1.length c1_1, .slice A1_2 l1_2.length c1_2] 30 (0, 0)) (by (with_reducible repeat (first | refine blk_drewN ?_ _ | refine blk_drew ?_ | refine blk_alloc ?_ _)); exact BK108.out) hb)
      have n5_ := mk0 (below_step (by repeat (first | exact HB.out | apply below_alloc | apply pw_below_drewN | apply below_drew1 | refine below_set ?_ GE107.out | refine below_set ?_ GE108.out)) hb)
      clear BK107
      clear BK108
      clear HB
      have HO113 := n0_
      have HO116 := n1_
      have HO119 := n2_
      have BK107 := n3_
      have BK108 := n4_
      have HB := n5_
      clear n0_ n1_ n2_ n3_ n4_ n5_
      (try clear hb)
      (try clear hb2)
      (try clear hk)
      (try clear hi)
      (try clear ho0)
      (try clear ho1)
      (try clear ho2)
      refine hK.out _ _ ⟨(blk_cell BK107.out 0).trans rfl, (blk_cell BK107.out 1).trans rfl, (blk_cell BK107.out 2).trans rfl, (blk_cell BK108.out 0).trans rfl, (blk_cell BK108.out 1).trans rfl, (blk_cell BK108.out 2).trans rfl⟩ (fun hHeld => ?_)
      clear hK K
      refine norm_ (a' := ?_) ?_ ?_
      rotate_left
      · show Act.put _ (some 24) _ = _
        simp only [Act.put, List.setIfInBounds_toArray, List.set_cons_zero, List.set_cons_succ, i64_w, i32_w]
        rfl
      refine one_ (i := 3) (N := some 26) #[true, true, true, true, false, false, false, false, false, false] rfl rfl (one_of HT_.out (by kernel_rfl)) (by decide) (fun K hK => ?_)
      refine goes_ Try.func23 (by kernel_rfl) rfl #[.agg #[.slice A1_0 l1_0.length c1_0, .slice A1_1 l1_1.length c1_1, .slice A1_2 l1_2.length c1_2]] (by rfl) rfl rfl (by (try simp only [List.map_toArray, List.map_cons, List.map_nil]); rfl) ?_
      with_reducible refine (laws_toGauss.calls k _ _ l1_0 _ _ l1_1 _ _ l1_2 t120 t123 t126 _ ?side1 ?side2 ?side3 ?side4 ?side5 ?side6 A20.out).mono ?_
      (case side1 => exact (Kd.C_below HR1_0.out HB.out))
      (case side2 => exact HC1_0.out)
      (case side3 => exact (Kd.C_below HR1_1.out HB.out))
      (case side4 => exact HC1_1.out)
      (case side5 => exact (Kd.C_below HR1_2.out HB.out))
      (case side6 => exact HC1_2.out)
      rintro e w35 ⟨v121, v124, v127, rfl, ho0, ho1, ho2, hb⟩
      refine ⟨_, rfl, ?_⟩
      have n0_ := mk0 (Kd.R_mono (Kd.R_told (Kd.R_told (Kd.R_told (Kd.R_old HO113.out hb) (Kd.R_base ho0)) (Kd.R_base ho1)) (Kd.R_base ho2)) (fun _ h_ => h_.1))
      have n1_ := mk0 (Kd.R_mono (Kd.R_told (Kd.R_told (Kd.R_told (Kd.R_old HO116.out hb) (Kd.R_base ho0)) (Kd.R_base ho1)) (Kd.R_base ho2)) (fun _ h_ => h_.1))
      have n2_ := mk0 (Kd.R_mono (Kd.R_told (Kd.R_told (Kd.R_told (Kd.R_old HO119.out hb) (Kd.R_base ho0)) (Kd.R_base ho1)) (Kd.R_base ho2)) (fun _ h_ => h_.1))
      have n3_ := mk0 (Kd.R_lower (Kd.R_new' (Kd.R_new' (Kd.R_new' ho0 (Kd.R_lt HO113.out)) (Kd.R_lt HO116.out)) (Kd.R_lt HO119.out)) (below_size (by repeat (first | exact HB.out | apply below_alloc | apply pw_below_drewN | apply below_drew1 | refine below_set ?_ GE107.out | refine below_set ?_ GE108.out))))
      have n4_ := mk0 (Kd.R_lower (Kd.R_new' (Kd.R_new' (Kd.R_new' ho1 (Kd.R_lt HO113.out)) (Kd.R_lt HO116.out)) (Kd.R_lt HO119.out)) (below_size (by repeat (first | exact HB.out | apply below_alloc | apply pw_below_drewN | apply below_drew1 | refine below_set ?_ GE107.out | refine below_set ?_ GE108.out))))
      have n5_ := mk0 (Kd.R_lower (Kd.R_new' (Kd.R_new' (Kd.R_new' ho2 (Kd.R_lt HO113.out)) (Kd.R_lt HO116.out)) (Kd.R_lt HO119.out)) (below_size (by repeat (first | exact HB.out | apply below_alloc | apply pw_below_drewN | apply below_drew1 | refine below_set ?_ GE107.out | refine below_set ?_ GE108.out))))
      have n6_ := mk0 (blk_below (g := gb107) (o := .cells #[.slice A0_0 l0_0.length c0_0, .slice A0_1 l0_1.length c0_1, .slice A0_2 l0_2.length c0_2] 30 (0, 0)) (by (with_reducible repeat (first | refine blk_drewN ?_ _ | refine blk_drew ?_ | refine blk_alloc ?_ _)); exact BK107.out) hb)
      have n7_ := mk0 (blk_below (g := gb108) (o := .cells #[.slice A1_0 l1_0.length c1_0, .slice A1_1 l1_1.length c1_1, .slice A1_2 l1_2.length c1_2] 30 (0, 0)) (by (with_reducible repeat (first | refine blk_drewN ?_ _ | refine blk_drew ?_ | refine blk_alloc ?_ _)); exact BK108.out) hb)
      have n8_ := mk0 (below_step (by repeat (first | exact HB.out | apply below_alloc | apply pw_below_drewN | apply below_drew1 | refine below_set ?_ GE107.out | refine below_set ?_ GE108.out)) hb)
      clear HO113
      clear HO116
      clear HO119
      clear BK107
      clear BK108
      clear HB
      have HO113 := n0_
      have HO116 := n1_
      have HO119 := n2_
      have HO122 := n3_
      have HO125 := n4_
      have HO128 := n5_
      have BK107 := n6_
      have BK108 := n7_
      have HB := n8_
      clear n0_ n1_ n2_ n3_ n4_ n5_ n6_ n7_ n8_
      (try clear hb)
      (try clear hb2)
      (try clear hk)
      (try clear hi)
      (try clear ho0)
      (try clear ho1)
      (try clear ho2)
      obtain ⟨Ao36, co36, eo36⟩ := Kd.R_slice HO113.out
      (first | subst eo36 | (injection eo36 with f1_ f2_ f3_; have f4_ := f1_.symm; have f5_ := f3_.symm; clear f1_ f2_ f3_; subst f4_; subst f5_))
      obtain ⟨Ao37, co37, eo37⟩ := Kd.R_slice HO116.out
      (first | subst eo37 | (injection eo37 with f1_ f2_ f3_; have f4_ := f1_.symm; have f5_ := f3_.symm; clear f1_ f2_ f3_; subst f4_; subst f5_))
      obtain ⟨Ao38, co38, eo38⟩ := Kd.R_slice HO119.out
      (first | subst eo38 | (injection eo38 with f1_ f2_ f3_; have f4_ := f1_.symm; have f5_ := f3_.symm; clear f1_ f2_ f3_; subst f4_; subst f5_))
      obtain ⟨Ao39, co39, eo39⟩ := Kd.R_slice HO122.out
      (first | subst eo39 | (injection eo39 with f1_ f2_ f3_; have f4_ := f1_.symm; have f5_ := f3_.symm; clear f1_ f2_ f3_; subst f4_; subst f5_))
      obtain ⟨Ao40, co40, eo40⟩ := Kd.R_slice HO125.out
      (first | subst eo40 | (injection eo40 with f1_ f2_ f3_; have f4_ := f1_.symm; have f5_ := f3_.symm; clear f1_ f2_ f3_; subst f4_; subst f5_))
      obtain ⟨Ao41, co41, eo41⟩ := Kd.R_slice HO128.out
      (first | subst eo41 | (injection eo41 with f1_ f2_ f3_; have f4_ := f1_.symm; have f5_ := f3_.symm; clear f1_ f2_ f3_; subst f4_; subst f5_))
      refine hK.out _ _ ⟨(blk_cell BK107.out 0).trans rfl, (blk_cell BK107.out 1).trans rfl, (blk_cell BK107.out 2).trans rfl, (blk_cell BK108.out 0).trans rfl, (blk_cell BK108.out 1).trans rfl, (blk_cell BK108.out 2).trans rfl⟩ (fun hHeld => ?_)
      clear hK K
      refine norm_ (a' := ?_) ?_ ?_
      rotate_left
      · show Act.put _ (some 26) _ = _
        simp only [Act.put, List.setIfInBounds_toArray, List.set_cons_zero, List.set_cons_succ, i64_w, i32_w]
        rfl
      refine one_ (i := 4) (N := some 27) #[true, true, true, true, true, false, false, false, false, false] rfl rfl (one_of HT_.out (by kernel_rfl)) (by decide) (fun K hK => ?_)
      refine goes_ Try.func22 (by kernel_rfl) rfl #[.agg #[.slice Ao36 t111.length co36, .slice Ao37 t114.length co37, .slice Ao38 t117.length co38], .agg #[.slice Ao39 t120.length co39, .slice Ao40 t123.length co40, .slice Ao41 t126.length co41]] (by rfl) rfl rfl (by (try simp only [List.map_toArray, List.map_cons, List.map_nil]); rfl) ?_
      with_reducible refine (spec_CountPattern.calls k _ _ t111 _ _ t114 _ _ t117 _ _ t120 _ _ t123 _ _ t126 t129 t130 _ ?side1 ?side2 ?side3 ?side4 ?side5 ?side6 ?side7 ?side8 ?side9 ?side10 ?side11 ?side12 A21.out).mono ?_
      (case side1 => exact (Kd.R_reads' HO113.out).2.2)
      (case side2 => exact (Kd.R_reads' HO113.out).2.1)
      (case side3 => exact (Kd.R_reads' HO116.out).2.2)
      (case side4 => exact (Kd.R_reads' HO116.out).2.1)
      (case side5 => exact (Kd.R_reads' HO119.out).2.2)
      (case side6 => exact (Kd.R_reads' HO119.out).2.1)
      (case side7 => exact (Kd.R_reads' HO122.out).2.2)
      (case side8 => exact (Kd.R_reads' HO122.out).2.1)
      (case side9 => exact (Kd.R_reads' HO125.out).2.2)
      (case side10 => exact (Kd.R_reads' HO125.out).2.1)
      (case side11 => exact (Kd.R_reads' HO128.out).2.2)
      (case side12 => exact (Kd.R_reads' HO128.out).2.1)
      rintro e w42 ⟨rfl, hb⟩
      refine ⟨_, rfl, ?_⟩
      have n0_ := mk0 (Kd.R_below HO113.out hb)
      have n1_ := mk0 (Kd.R_below HO116.out hb)
      have n2_ := mk0 (Kd.R_below HO119.out hb)
      have n3_ := mk0 (Kd.R_below HO122.out hb)
      have n4_ := mk0 (Kd.R_below HO125.out hb)
      have n5_ := mk0 (Kd.R_below HO128.out hb)
      have n6_ := mk0 (blk_below (g := gb107) (o := .cells #[.slice A0_0 l0_0.length c0_0, .slice A0_1 l0_1.length c0_1, .slice A0_2 l0_2.length c0_2] 30 (0, 0)) (by (with_reducible repeat (first | refine blk_drewN ?_ _ | refine blk_drew ?_ | refine blk_alloc ?_ _)); exact BK107.out) hb)
      have n7_ := mk0 (blk_below (g := gb108) (o := .cells #[.slice A1_0 l1_0.length c1_0, .slice A1_1 l1_1.length c1_1, .slice A1_2 l1_2.length c1_2] 30 (0, 0)) (by (with_reducible repeat (first | refine blk_drewN ?_ _ | refine blk_drew ?_ | refine blk_alloc ?_ _)); exact BK108.out) hb)
      have n8_ := mk0 (below_step (by repeat (first | exact HB.out | apply below_alloc | apply pw_below_drewN | apply below_drew1 | refine below_set ?_ GE107.out | refine below_set ?_ GE108.out)) hb)
      clear HO113
      clear HO116
      clear HO119
      clear HO122
      clear HO125
      clear HO128
      clear BK107
      clear BK108
      clear HB
      have HO113 := n0_
      have HO116 := n1_
      have HO119 := n2_
      have HO122 := n3_
      have HO125 := n4_
      have HO128 := n5_
      have BK107 := n6_
      have BK108 := n7_
      have HB := n8_
      clear n0_ n1_ n2_ n3_ n4_ n5_ n6_ n7_ n8_
      (try clear hb)
      (try clear hb2)
      (try clear hk)
      (try clear hi)
      refine hK.out _ _ ⟨(blk_cell BK107.out 0).trans rfl, (blk_cell BK107.out 1).trans rfl, (blk_cell BK107.out 2).trans rfl, (blk_cell BK108.out 0).trans rfl, (blk_cell BK108.out 1).trans rfl, (blk_cell BK108.out 2).trans rfl⟩ (fun hHeld => ?_)
      clear hK K
      refine norm_ (a' := ?_) ?_ ?_
      rotate_left
      · show Act.put _ (some 27) _ = _
        simp only [Act.put, List.setIfInBounds_toArray, List.set_cons_zero, List.set_cons_succ, i64_w, i32_w]
        rfl
      refine pure_ (i := 5) (N := some 22) (v := ?_) (a' := ?_) #[true, true, true, true, true, true, false, false, false, false] rfl rfl (any_of HT_.out (by kernel_rfl)) (fun _ _ _ h => h) (Or.inl ⟨by rfl, ?_⟩) ?_ ?_
      rotate_left
      · intro w'
        go_simp
        with_reducible rfl
      rotate_left
      · simp only [Act.put, List.setIfInBounds_toArray, List.set_cons_zero, List.set_cons_succ, i64_w, i32_w]
        rfl
      refine pure_ (i := 6) (N := some 28) (v := ?_) (a' := ?_) #[true, true, true, true, true, true, true, false, false, false] rfl rfl (any_of HT_.out (by kernel_rfl)) (fun _ _ _ h => h) (Or.inl ⟨by rfl, ?_⟩) ?_ ?_
      rotate_left
      · intro w'
        go_simp
        with_reducible rfl
      rotate_left
      · simp only [Act.put, List.setIfInBounds_toArray, List.set_cons_zero, List.set_cons_succ, i64_w, i32_w]
        rfl
      refine pure_ (i := 7) (N := some 29) (v := ?_) (a' := ?_) #[true, true, true, true, true, true, true, true, false, false] rfl rfl (any_of HT_.out (by kernel_rfl)) (fun _ _ _ h => h) (Or.inl ⟨by rfl, ?_⟩) ?_ ?_
      rotate_left
      · intro w'
        go_simp
        with_reducible rfl
      rotate_left
      · simp only [Act.put, List.setIfInBounds_toArray, List.set_cons_zero, List.set_cons_succ, i64_w, i32_w]
        rfl
      refine pure_ (i := 8) (N := some 6) (v := ?_) (a' := ?_) #[true, true, true, true, true, true, true, true, true, false] rfl rfl (any_of HT_.out (by kernel_rfl)) (fun _ _ _ h => h) (Or.inl ⟨by rfl, ?_⟩) ?_ ?_
      rotate_left
      · intro w'
        go_simp
        with_reducible rfl
      rotate_left
      · simp only [Act.put, List.setIfInBounds_toArray, List.set_cons_zero, List.set_cons_succ, i64_w, i32_w]
        rfl
      refine pure_ (i := 9) (N := some 7) (v := ?_) (a' := ?_) #[true, true, true, true, true, true, true, true, true, true] rfl rfl (any_of HT_.out (by kernel_rfl)) (fun _ _ _ h => h) (Or.inl ⟨by rfl, ?_⟩) ?_ ?_
      rotate_left
      · intro w'
        go_simp
        with_reducible rfl
      rotate_left
      · simp only [Act.put, List.setIfInBounds_toArray, List.set_cons_zero, List.set_cons_succ, i64_w, i32_w]
        rfl
      refine done_ (done_of HT_.out (by kernel_rfl)) ?_
      obtain ⟨hcz43_0, hcz43_1, hcz43_2⟩ := bc3 BK107.out
      obtain ⟨hfz43_0, hfz43_1, hfz43_2⟩ := bf3 BK107.out
      go_upto_region 12 with (first | ((with_reducible refine gate_callee (f := 23) rfl ?_); refine goesL_ (some 31) rfl rfl Try.func23 (by kernel_rfl) rfl #[.agg #[.slice A0_0 l0_0.length c0_0, .slice A0_1 l0_1.length c0_1, .slice A0_2 l0_2.length c0_2]] rfl (by (try simp only [List.map_toArray, List.map_cons, List.map_nil]); rfl) ?_; (with_reducible refine (laws_toGauss.calls k _ _ l0_0 _ _ l0_1 _ _ l0_2 t131 t134 t137 _ ?side1 ?side2 ?side3 ?side4 ?side5 ?side6 A22.out).mono ?_); (case side1 => exact (Kd.C_below HR0_0.out HB.out)); (case side2 => exact HC0_0.out); (case side3 => exact (Kd.C_below HR0_1.out HB.out)); (case side4 => exact HC0_1.out); (case side5 => exact (Kd.C_below HR0_2.out HB.out)); (case side6 => exact HC0_2.out); rintro e w44 ⟨v132, v135, v138, rfl, ho0, ho1, ho2, hb⟩; refine ⟨_, rfl, ?_⟩; have n0_ := mk0 (Kd.R_mono (Kd.R_told (Kd.R_told (Kd.R_told (Kd.R_old HO113.out hb) (Kd.R_base ho0)) (Kd.R_base ho1)) (Kd.R_base ho2)) (fun _ h_ => h_.1)); have n1_ := mk0 (Kd.R_mono (Kd.R_told (Kd.R_told (Kd.R_told (Kd.R_old HO116.out hb) (Kd.R_base ho0)) (Kd.R_base ho1)) (Kd.R_base ho2)) (fun _ h_ => h_.1)); have n2_ := mk0 (Kd.R_mono (Kd.R_told (Kd.R_told (Kd.R_told (Kd.R_old HO119.out hb) (Kd.R_base ho0)) (Kd.R_base ho1)) (Kd.R_base ho2)) (fun _ h_ => h_.1)); have n3_ := mk0 (Kd.R_mono (Kd.R_told (Kd.R_told (Kd.R_told (Kd.R_old HO122.out hb) (Kd.R_base ho0)) (Kd.R_base ho1)) (Kd.R_base ho2)) (fun _ h_ => h_.1)); have n4_ := mk0 (Kd.R_mono (Kd.R_told (Kd.R_told (Kd.R_told (Kd.R_old HO125.out hb) (Kd.R_base ho0)) (Kd.R_base ho1)) (Kd.R_base ho2)) (fun _ h_ => h_.1)); have n5_ := mk0 (Kd.R_mono (Kd.R_told (Kd.R_told (Kd.R_told (Kd.R_old HO128.out hb) (Kd.R_base ho0)) (Kd.R_base ho1)) (Kd.R_base ho2)) (fun _ h_ => h_.1)); have n6_ := mk0 (Kd.R_lower (Kd.R_new' (Kd.R_new' (Kd.R_new' (Kd.R_new' (Kd.R_new' (Kd.R_new' ho0 (Kd.R_lt HO113.out)) (Kd.R_lt HO116.out)) (Kd.R_lt HO119.out)) (Kd.R_lt HO122.out)) (Kd.R_lt HO125.out)) (Kd.R_lt HO128.out)) (below_size (by repeat (first | exact HB.out | apply below_alloc | apply pw_below_drewN | apply below_drew1 | refine below_set ?_ GE107.out | refine below_set ?_ GE108.out)))); have n7_ := mk0 (Kd.R_lower (Kd.R_new' (Kd.R_new' (Kd.R_new' (Kd.R_new' (Kd.R_new' (Kd.R_new' ho1 (Kd.R_lt HO113.out)) (Kd.R_lt HO116.out)) (Kd.R_lt HO119.out)) (Kd.R_lt HO122.out)) (Kd.R_lt HO125.out)) (Kd.R_lt HO128.out)) (below_size (by repeat (first | exact HB.out | apply below_alloc | apply pw_below_drewN | apply below_drew1 | refine below_set ?_ GE107.out | refine below_set ?_ GE108.out)))); have n8_ := mk0 (Kd.R_lower (Kd.R_new' (Kd.R_new' (Kd.R_new' (Kd.R_new' (Kd.R_new' (Kd.R_new' ho2 (Kd.R_lt HO113.out)) (Kd.R_lt HO116.out)) (Kd.R_lt HO119.out)) (Kd.R_lt HO122.out)) (Kd.R_lt HO125.out)) (Kd.R_lt HO128.out)) (below_size (by repeat (first | exact HB.out | apply below_alloc | apply pw_below_drewN | apply below_drew1 | refine below_set ?_ GE107.out | refine below_set ?_ GE108.out)))); have n9_ := mk0 (blk_below (g := gb107) (o := .cells #[.slice A0_0 l0_0.length c0_0, .slice A0_1 l0_1.length c0_1, .slice A0_2 l0_2.length c0_2] 30 (0, 0)) (by (with_reducible repeat (first | refine blk_drewN ?_ _ | refine blk_drew ?_ | refine blk_alloc ?_ _)); exact BK107.out) hb); have n10_ := mk0 (blk_below (g := gb108) (o := .cells #[.slice A1_0 l1_0.length c1_0, .slice A1_1 l1_1.length c1_1, .slice A1_2 l1_2.length c1_2] 30 (0, 0)) (by (with_reducible repeat (first | refine blk_drewN ?_ _ | refine blk_drew ?_ | refine blk_alloc ?_ _)); exact BK108.out) hb); have n11_ := mk0 (below_step (by repeat (first | exact HB.out | apply below_alloc | apply pw_below_drewN | apply below_drew1 | refine below_set ?_ GE107.out | refine below_set ?_ GE108.out)) hb); clear HO113; clear HO116; clear HO119; clear HO122; clear HO125; clear HO128; clear BK107; clear BK108; clear HB; have HO113 := n0_; have HO116 := n1_; have HO119 := n2_; have HO122 := n3_; have HO125 := n4_; have HO128 := n5_; have HO133 := n6_; have HO136 := n7_; have HO139 := n8_; have BK107 := n9_; have BK108 := n10_; have HB := n11_; clear n0_ n1_ n2_ n3_ n4_ n5_ n6_ n7_ n8_ n9_ n10_ n11_; (try clear hb); (try clear hb2); (try clear hk); (try clear hi); (try clear ho0); (try clear ho1); (try clear ho2)) | ((with_reducible refine gate_dst (N := 8) rfl ?_); refine box_event ?hg (N := 8) ?hd (cs := #[.slice none 0 0, .slice none 0 0, .slice none 0 0]) (t := 34) ?hr ?_; (case hd => rfl); (case hg => rfl); (case hr => first | (go_simp; done) | (go_simp; rfl)); intro gb140 hg w45 hbox hb; have n0_ := mk0 (Kd.R_below HO113.out hb); have n1_ := mk0 (Kd.R_below HO116.out hb); have n2_ := mk0 (Kd.R_below HO119.out hb); have n3_ := mk0 (Kd.R_below HO122.out hb); have n4_ := mk0 (Kd.R_below HO125.out hb); have n5_ := mk0 (Kd.R_below HO128.out hb); have n6_ := mk0 (Kd.R_below HO133.out hb); have n7_ := mk0 (Kd.R_below HO136.out hb); have n8_ := mk0 (Kd.R_below HO139.out hb); have n9_ := mk0 (blk_below (g := gb107) (o := .cells #[.slice A0_0 l0_0.length c0_0, .slice A0_1 l0_1.length c0_1, .slice A0_2 l0_2.length c0_2] 30 (0, 0)) (by (with_reducible repeat (first | refine blk_drewN ?_ _ | refine blk_drew ?_ | refine blk_alloc ?_ _)); exact BK107.out) hb); have n10_ := mk0 (blk_below (g := gb108) (o := .cells #[.slice A1_0 l1_0.length c1_0, .slice A1_1 l1_1.length c1_1, .slice A1_2 l1_2.length c1_2] 30 (0, 0)) (by (with_reducible repeat (first | refine blk_drewN ?_ _ | refine blk_drew ?_ | refine blk_alloc ?_ _)); exact BK108.out) hb); have n11_ := mk0 (below_step (by repeat (first | exact HB.out | apply below_alloc | apply pw_below_drewN | apply below_drew1 | refine below_set ?_ GE107.out | refine below_set ?_ GE108.out)) hb); have n12_ := mk0 (hbox); have n13_ := mk0 ((by rw [hg]; exact (below_size (by repeat (first | exact HB.out | apply below_alloc | apply pw_below_drewN | apply below_drew1 | refine below_set ?_ GE107.out | refine below_set ?_ GE108.out))) : w.heap.size ≤ gb140)); have n14_ := mk0 ((by rw [hg]; exact (below_size (by repeat (first | exact HB.out | apply below_alloc | apply pw_below_drewN | apply below_drew1 | refine below_set ?_ GE107.out | refine below_set ?_ GE108.out))) : w.heap.size ≤ gb140)); have n15_ := mk0 ((by rw [hg]; exact Nat.ne_of_lt (blk_lt (g := gb107) (o := .cells #[.slice A0_0 l0_0.length c0_0, .slice A0_1 l0_1.length c0_1, .slice A0_2 l0_2.length c0_2] 30 (0, 0)) (by (with_reducible repeat (first | refine blk_drewN ?_ _ | refine blk_drew ?_ | refine blk_alloc ?_ _)); exact BK107.out)) : gb107 ≠ gb140)); have n16_ := mk0 ((by rw [hg]; exact Nat.ne_of_gt (blk_lt (g := gb107) (o := .cells #[.slice A0_0 l0_0.length c0_0, .slice A0_1 l0_1.length c0_1, .slice A0_2 l0_2.length c0_2] 30 (0, 0)) (by (with_reducible repeat (first | refine blk_drewN ?_ _ | refine blk_drew ?_ | refine blk_alloc ?_ _)); exact BK107.out)) : gb140 ≠ gb107)); have n17_ := mk0 ((by rw [hg]; exact Nat.ne_of_lt (blk_lt (g := gb108) (o := .cells #[.slice A1_0 l1_0.length c1_0, .slice A1_1 l1_1.length c1_1, .slice A1_2 l1_2.length c1_2] 30 (0, 0)) (by (with_reducible repeat (first | refine blk_drewN ?_ _ | refine blk_drew ?_ | refine blk_alloc ?_ _)); exact BK108.out)) : gb108 ≠ gb140)); have n18_ := mk0 ((by rw [hg]; exact Nat.ne_of_gt (blk_lt (g := gb108) (o := .cells #[.slice A1_0 l1_0.length c1_0, .slice A1_1 l1_1.length c1_1, .slice A1_2 l1_2.length c1_2] 30 (0, 0)) (by (with_reducible repeat (first | refine blk_drewN ?_ _ | refine blk_drew ?_ | refine blk_alloc ?_ _)); exact BK108.out)) : gb140 ≠ gb108)); clear HO113; clear HO116; clear HO119; clear HO122; clear HO125; clear HO128; clear HO133; clear HO136; clear HO139; clear BK107; clear BK108; clear HB; have HO113 := n0_; have HO116 := n1_; have HO119 := n2_; have HO122 := n3_; have HO125 := n4_; have HO128 := n5_; have HO133 := n6_; have HO136 := n7_; have HO139 := n8_; have BK107 := n9_; have BK108 := n10_; have HB := n11_; have BK140 := n12_; have GW140 := n13_; have GE140 := n14_; have NB107_140 := n15_; have NB140_107 := n16_; have NB108_140 := n17_; have NB140_108 := n18_; clear n0_ n1_ n2_ n3_ n4_ n5_ n6_ n7_ n8_ n9_ n10_ n11_ n12_ n13_ n14_ n15_ n16_ n17_ n18_; clear hb hbox hg; obtain ⟨Ao46, co46, eo46⟩ := Kd.R_slice HO133.out; subst eo46; have hnb47 := NB140_107.out; have hnc47 := NB107_140.out; have hnb48 := NB140_108.out; have hnc48 := NB108_140.out; obtain ⟨hcz49_0, hcz49_1, hcz49_2⟩ := bc3 BK140.out; obtain ⟨hfz49_0, hfz49_1, hfz49_2⟩ := bf3 BK140.out; obtain ⟨Ao50, co50, eo50⟩ := Kd.R_slice HO136.out; subst eo50; obtain ⟨Ao51, co51, eo51⟩ := Kd.R_slice HO139.out; subst eo51; obtain ⟨hcz52_0, hcz52_1, hcz52_2⟩ := bc3 BK108.out; obtain ⟨hfz52_0, hfz52_1, hfz52_2⟩ := bf3 BK108.out) | ((with_reducible refine gate_callee (f := 23) rfl ?_); refine goesL_ (some 33) rfl rfl Try.func23 (by kernel_rfl) rfl #[.agg #[.slice A1_0 l1_0.length c1_0, .slice A1_1 l1_1.length c1_1, .slice A1_2 l1_2.length c1_2]] rfl (by (try simp only [List.map_toArray, List.map_cons, List.map_nil]); rfl) ?_; (with_reducible refine (laws_toGauss.calls k _ _ l1_0 _ _ l1_1 _ _ l1_2 t141 t144 t147 _ ?side1 ?side2 ?side3 ?side4 ?side5 ?side6 A23.out).mono ?_); (case side1 => exact Kd.C_below HR1_0.out (by repeat (first | exact HB.out | apply below_alloc | apply pw_below_drewN | apply below_drew1 | refine below_set ?_ GE107.out | refine below_set ?_ GE108.out | refine below_set ?_ GE140.out))); (case side2 => exact HC1_0.out); (case side3 => exact Kd.C_below HR1_1.out (by repeat (first | exact HB.out | apply below_alloc | apply pw_below_drewN | apply below_drew1 | refine below_set ?_ GE107.out | refine below_set ?_ GE108.out | refine below_set ?_ GE140.out))); (case side4 => exact HC1_1.out); (case side5 => exact Kd.C_below HR1_2.out (by repeat (first | exact HB.out | apply below_alloc | apply pw_below_drewN | apply below_drew1 | refine below_set ?_ GE107.out | refine below_set ?_ GE108.out | refine below_set ?_ GE140.out))); (case side6 => exact HC1_2.out); rintro e w53 ⟨v142, v145, v148, rfl, ho0, ho1, ho2, hb⟩; refine ⟨_, rfl, ?_⟩; have n0_ := mk0 (Kd.R_mono (Kd.R_told (Kd.R_told (Kd.R_told (Kd.R_old (by exact (fa HO113.out BK140.out)) hb) (Kd.R_base ho0)) (Kd.R_base ho1)) (Kd.R_base ho2)) (fun _ h_ => h_.1)); have n1_ := mk0 (Kd.R_mono (Kd.R_told (Kd.R_told (Kd.R_told (Kd.R_old (by exact (fa HO116.out BK140.out)) hb) (Kd.R_base ho0)) (Kd.R_base ho1)) (Kd.R_base ho2)) (fun _ h_ => h_.1)); have n2_ := mk0 (Kd.R_mono (Kd.R_told (Kd.R_told (Kd.R_told (Kd.R_old (by exact (fa HO119.out BK140.out)) hb) (Kd.R_base ho0)) (Kd.R_base ho1)) (Kd.R_base ho2)) (fun _ h_ => h_.1)); have n3_ := mk0 (Kd.R_mono (Kd.R_told (Kd.R_told (Kd.R_told (Kd.R_old (by exact (fa HO122.out BK140.out)) hb) (Kd.R_base ho0)) (Kd.R_base ho1)) (Kd.R_base ho2)) (fun _ h_ => h_.1)); have n4_ := mk0 (Kd.R_mono (Kd.R_told (Kd.R_told (Kd.R_told (Kd.R_old (by exact (fa HO125.out BK140.out)) hb) (Kd.R_base ho0)) (Kd.R_base ho1)) (Kd.R_base ho2)) (fun _ h_ => h_.1)); have n5_ := mk0 (Kd.R_mono (Kd.R_told (Kd.R_told (Kd.R_told (Kd.R_old (by exact (fa HO128.out BK140.out)) hb) (Kd.R_base ho0)) (Kd.R_base ho1)) (Kd.R_base ho2)) (fun _ h_ => h_.1)); have n6_ := mk0 (Kd.R_mono (Kd.R_told (Kd.R_told (Kd.R_told (Kd.R_old (by exact (fa HO133.out BK140.out)) hb) (Kd.R_base ho0)) (Kd.R_base ho1)) (Kd.R_base ho2)) (fun _ h_ => h_.1)); have n7_ := mk0 (Kd.R_mono (Kd.R_told (Kd.R_told (Kd.R_told (Kd.R_old (by exact (fa HO136.out BK140.out)) hb) (Kd.R_base ho0)) (Kd.R_base ho1)) (Kd.R_base ho2)) (fun _ h_ => h_.1)); have n8_ := mk0 (Kd.R_mono (Kd.R_told (Kd.R_told (Kd.R_told (Kd.R_old (by exact (fa HO139.out BK140.out)) hb) (Kd.R_base ho0)) (Kd.R_base ho1)) (Kd.R_base ho2)) (fun _ h_ => h_.1)); have n9_ := mk0 (Kd.R_lower (Kd.R_new' (Kd.R_new' (Kd.R_new' (Kd.R_new' (Kd.R_new' (Kd.R_new' (Kd.R_new' (Kd.R_new' (Kd.R_new' ho0 (Kd.R_lt (by exact (fa HO113.out BK140.out)))) (Kd.R_lt (by exact (fa HO116.out BK140.out)))) (Kd.R_lt (by exact (fa HO119.out BK140.out)))) (Kd.R_lt (by exact (fa HO122.out BK140.out)))) (Kd.R_lt (by exact (fa HO125.out BK140.out)))) (Kd.R_lt (by exact (fa HO128.out BK140.out)))) (Kd.R_lt (by exact (fa HO133.out BK140.out)))) (Kd.R_lt (by exact (fa HO136.out BK140.out)))) (Kd.R_lt (by exact (fa HO139.out BK140.out)))) (below_size (by repeat (first | exact HB.out | apply below_alloc | apply pw_below_drewN | apply below_drew1 | refine below_set ?_ GE107.out | refine below_set ?_ GE108.out | refine below_set ?_ GE140.out)))); have n10_ := mk0 (Kd.R_lower (Kd.R_new' (Kd.R_new' (Kd.R_new' (Kd.R_new' (Kd.R_new' (Kd.R_new' (Kd.R_new' (Kd.R_new' (Kd.R_new' ho1 (Kd.R_lt (by exact (fa HO113.out BK140.out)))) (Kd.R_lt (by exact (fa HO116.out BK140.out)))) (Kd.R_lt (by exact (fa HO119.out BK140.out)))) (Kd.R_lt (by exact (fa HO122.out BK140.out)))) (Kd.R_lt (by exact (fa HO125.out BK140.out)))) (Kd.R_lt (by exact (fa HO128.out BK140.out)))) (Kd.R_lt (by exact (fa HO133.out BK140.out)))) (Kd.R_lt (by exact (fa HO136.out BK140.out)))) (Kd.R_lt (by exact (fa HO139.out BK140.out)))) (below_size (by repeat (first | exact HB.out | apply below_alloc | apply pw_below_drewN | apply below_drew1 | refine below_set ?_ GE107.out | refine below_set ?_ GE108.out | refine below_set ?_ GE140.out)))); have n11_ := mk0 (Kd.R_lower (Kd.R_new' (Kd.R_new' (Kd.R_new' (Kd.R_new' (Kd.R_new' (Kd.R_new' (Kd.R_new' (Kd.R_new' (Kd.R_new' ho2 (Kd.R_lt (by exact (fa HO113.out BK140.out)))) (Kd.R_lt (by exact (fa HO116.out BK140.out)))) (Kd.R_lt (by exact (fa HO119.out BK140.out)))) (Kd.R_lt (by exact (fa HO122.out BK140.out)))) (Kd.R_lt (by exact (fa HO125.out BK140.out)))) (Kd.R_lt (by exact (fa HO128.out BK140.out)))) (Kd.R_lt (by exact (fa HO133.out BK140.out)))) (Kd.R_lt (by exact (fa HO136.out BK140.out)))) (Kd.R_lt (by exact (fa HO139.out BK140.out)))) (below_size (by repeat (first | exact HB.out | apply below_alloc | apply pw_below_drewN | apply below_drew1 | refine below_set ?_ GE107.out | refine below_set ?_ GE108.out | refine below_set ?_ GE140.out)))); have n12_ := mk0 (blk_below (g := gb107) (o := .cells #[.slice A0_0 l0_0.length c0_0, .slice A0_1 l0_1.length c0_1, .slice A0_2 l0_2.length c0_2] 30 (0, 0)) (by (with_reducible repeat (first | refine blk_drewN ?_ _ | refine blk_drew ?_ | refine blk_alloc ?_ _)); refine blk_far ?_ NB107_140.out _; (with_reducible repeat (first | refine blk_drewN ?_ _ | refine blk_drew ?_ | refine blk_alloc ?_ _)); refine blk_far ?_ NB107_140.out _; (with_reducible repeat (first | refine blk_drewN ?_ _ | refine blk_drew ?_ | refine blk_alloc ?_ _)); refine blk_far ?_ NB107_140.out _; (with_reducible repeat (first | refine blk_drewN ?_ _ | refine blk_drew ?_ | refine blk_alloc ?_ _)); exact BK107.out) hb); have n13_ := mk0 (blk_below (g := gb108) (o := .cells #[.slice A1_0 l1_0.length c1_0, .slice A1_1 l1_1.length c1_1, .slice A1_2 l1_2.length c1_2] 30 (0, 0)) (by (with_reducible repeat (first | refine blk_drewN ?_ _ | refine blk_drew ?_ | refine blk_alloc ?_ _)); refine blk_far ?_ NB108_140.out _; (with_reducible repeat (first | refine blk_drewN ?_ _ | refine blk_drew ?_ | refine blk_alloc ?_ _)); refine blk_far ?_ NB108_140.out _; (with_reducible repeat (first | refine blk_drewN ?_ _ | refine blk_drew ?_ | refine blk_alloc ?_ _)); refine blk_far ?_ NB108_140.out _; (with_reducible repeat (first | refine blk_drewN ?_ _ | refine blk_drew ?_ | refine blk_alloc ?_ _)); exact BK108.out) hb); have n14_ := mk0 (blk_below (g := gb140) (o := .cells #[.slice Ao46 t131.length co46, .slice Ao50 t134.length co50, .slice Ao51 t137.length co51] 34 (0, 0)) (by (with_reducible repeat (first | refine blk_drewN ?_ _ | refine blk_drew ?_ | refine blk_alloc ?_ _)); refine blk_put (cs := #[.slice Ao46 t131.length co46, .slice Ao50 t134.length co50, .slice none 0 0]) ?_ 2 _ rfl; (with_reducible repeat (first | refine blk_drewN ?_ _ | refine blk_drew ?_ | refine blk_alloc ?_ _)); refine blk_put (cs := #[.slice Ao46 t131.length co46, .slice none 0 0, .slice none 0 0]) ?_ 1 _ rfl; (with_reducible repeat (first | refine blk_drewN ?_ _ | refine blk_drew ?_ | refine blk_alloc ?_ _)); refine blk_put (cs := #[.slice none 0 0, .slice none 0 0, .slice none 0 0]) ?_ 0 _ rfl; (with_reducible repeat (first | refine blk_drewN ?_ _ | refine blk_drew ?_ | refine blk_alloc ?_ _)); exact BK140.out) hb); have n15_ := mk0 (below_step (by repeat (first | exact HB.out | apply below_alloc | apply pw_below_drewN | apply below_drew1 | refine below_set ?_ GE107.out | refine below_set ?_ GE108.out | refine below_set ?_ GE140.out)) hb); clear HO113; clear HO116; clear HO119; clear HO122; clear HO125; clear HO128; clear HO133; clear HO136; clear HO139; clear BK107; clear BK108; clear BK140; clear HB; have HO113 := n0_; have HO116 := n1_; have HO119 := n2_; have HO122 := n3_; have HO125 := n4_; have HO128 := n5_; have HO133 := n6_; have HO136 := n7_; have HO139 := n8_; have HO143 := n9_; have HO146 := n10_; have HO149 := n11_; have BK107 := n12_; have BK108 := n13_; have BK140 := n14_; have HB := n15_; clear n0_ n1_ n2_ n3_ n4_ n5_ n6_ n7_ n8_ n9_ n10_ n11_ n12_ n13_ n14_ n15_; (try clear hb); (try clear hb2); (try clear hk); (try clear hi); (try clear ho0); (try clear ho1); (try clear ho2)) | ((with_reducible refine gate_dst (N := 9) rfl ?_); refine box_event ?hg (N := 9) ?hd (cs := #[.slice none 0 0, .slice none 0 0, .slice none 0 0]) (t := 34) ?hr ?_; (case hd => rfl); (case hg => rfl); (case hr => first | (go_simp; done) | (go_simp; rfl)); intro gb150 hg w54 hbox hb; have n0_ := mk0 (Kd.R_below HO113.out hb); have n1_ := mk0 (Kd.R_below HO116.out hb); have n2_ := mk0 (Kd.R_below HO119.out hb); have n3_ := mk0 (Kd.R_below HO122.out hb); have n4_ := mk0 (Kd.R_below HO125.out hb); have n5_ := mk0 (Kd.R_below HO128.out hb); have n6_ := mk0 (Kd.R_below HO133.out hb); have n7_ := mk0 (Kd.R_below HO136.out hb); have n8_ := mk0 (Kd.R_below HO139.out hb); have n9_ := mk0 (Kd.R_below HO143.out hb); have n10_ := mk0 (Kd.R_below HO146.out hb); have n11_ := mk0 (Kd.R_below HO149.out hb); have n12_ := mk0 (blk_below (g := gb107) (o := .cells #[.slice A0_0 l0_0.length c0_0, .slice A0_1 l0_1.length c0_1, .slice A0_2 l0_2.length c0_2] 30 (0, 0)) (by (with_reducible repeat (first | refine blk_drewN ?_ _ | refine blk_drew ?_ | refine blk_alloc ?_ _)); exact BK107.out) hb); have n13_ := mk0 (blk_below (g := gb108) (o := .cells #[.slice A1_0 l1_0.length c1_0, .slice A1_1 l1_1.length c1_1, .slice A1_2 l1_2.length c1_2] 30 (0, 0)) (by (with_reducible repeat (first | refine blk_drewN ?_ _ | refine blk_drew ?_ | refine blk_alloc ?_ _)); exact BK108.out) hb); have n14_ := mk0 (blk_below (g := gb140) (o := .cells #[.slice Ao46 t131.length co46, .slice Ao50 t134.length co50, .slice Ao51 t137.length co51] 34 (0, 0)) (by (with_reducible repeat (first | refine blk_drewN ?_ _ | refine blk_drew ?_ | refine blk_alloc ?_ _)); exact BK140.out) hb); have n15_ := mk0 (below_step (by repeat (first | exact HB.out | apply below_alloc | apply pw_below_drewN | apply below_drew1 | refine below_set ?_ GE107.out | refine below_set ?_ GE108.out | refine below_set ?_ GE140.out)) hb); have n16_ := mk0 (hbox); have n17_ := mk0 ((by rw [hg]; exact (below_size (by repeat (first | exact HB.out | apply below_alloc | apply pw_below_drewN | apply below_drew1 | refine below_set ?_ GE107.out | refine below_set ?_ GE108.out | refine below_set ?_ GE140.out))) : w.heap.size ≤ gb150)); have n18_ := mk0 ((by rw [hg]; exact (below_size (by repeat (first | exact HB.out | apply below_alloc | apply pw_below_drewN | apply below_drew1 | refine below_set ?_ GE107.out | refine below_set ?_ GE108.out | refine below_set ?_ GE140.out))) : w.heap.size ≤ gb150)); have n19_ := mk0 ((by rw [hg]; exact Nat.ne_of_lt (blk_lt (g := gb107) (o := .cells #[.slice A0_0 l0_0.length c0_0, .slice A0_1 l0_1.length c0_1, .slice A0_2 l0_2.length c0_2] 30 (0, 0)) (by (with_reducible repeat (first | refine blk_drewN ?_ _ | refine blk_drew ?_ | refine blk_alloc ?_ _)); exact BK107.out)) : gb107 ≠ gb150)); have n20_ := mk0 ((by rw [hg]; exact Nat.ne_of_gt (blk_lt (g := gb107) (o := .cells #[.slice A0_0 l0_0.length c0_0, .slice A0_1 l0_1.length c0_1, .slice A0_2 l0_2.length c0_2] 30 (0, 0)) (by (with_reducible repeat (first | refine blk_drewN ?_ _ | refine blk_drew ?_ | refine blk_alloc ?_ _)); exact BK107.out)) : gb150 ≠ gb107)); have n21_ := mk0 ((by rw [hg]; exact Nat.ne_of_lt (blk_lt (g := gb108) (o := .cells #[.slice A1_0 l1_0.length c1_0, .slice A1_1 l1_1.length c1_1, .slice A1_2 l1_2.length c1_2] 30 (0, 0)) (by (with_reducible repeat (first | refine blk_drewN ?_ _ | refine blk_drew ?_ | refine blk_alloc ?_ _)); exact BK108.out)) : gb108 ≠ gb150)); have n22_ := mk0 ((by rw [hg]; exact Nat.ne_of_gt (blk_lt (g := gb108) (o := .cells #[.slice A1_0 l1_0.length c1_0, .slice A1_1 l1_1.length c1_1, .slice A1_2 l1_2.length c1_2] 30 (0, 0)) (by (with_reducible repeat (first | refine blk_drewN ?_ _ | refine blk_drew ?_ | refine blk_alloc ?_ _)); exact BK108.out)) : gb150 ≠ gb108)); have n23_ := mk0 ((by rw [hg]; exact Nat.ne_of_lt (blk_lt (g := gb140) (o := .cells #[.slice Ao46 t131.length co46, .slice Ao50 t134.length co50, .slice Ao51 t137.length co51] 34 (0, 0)) (by (with_reducible repeat (first | refine blk_drewN ?_ _ | refine blk_drew ?_ | refine blk_alloc ?_ _)); exact BK140.out)) : gb140 ≠ gb150)); have n24_ := mk0 ((by rw [hg]; exact Nat.ne_of_gt (blk_lt (g := gb140) (o := .cells #[.slice Ao46 t131.length co46, .slice Ao50 t134.length co50, .slice Ao51 t137.length co51] 34 (0, 0)) (by (with_reducible repeat (first | refine blk_drewN ?_ _ | refine blk_drew ?_ | refine blk_alloc ?_ _)); exact BK140.out)) : gb150 ≠ gb140)); clear HO113; clear HO116; clear HO119; clear HO122; clear HO125; clear HO128; clear HO133; clear HO136; clear HO139; clear HO143; clear HO146; clear HO149; clear BK107; clear BK108; clear BK140; clear HB; have HO113 := n0_; have HO116 := n1_; have HO119 := n2_; have HO122 := n3_; have HO125 := n4_; have HO128 := n5_; have HO133 := n6_; have HO136 := n7_; have HO139 := n8_; have HO143 := n9_; have HO146 := n10_; have HO149 := n11_; have BK107 := n12_; have BK108 := n13_; have BK140 := n14_; have HB := n15_; have BK150 := n16_; have GW150 := n17_; have GE150 := n18_; have NB107_150 := n19_; have NB150_107 := n20_; have NB108_150 := n21_; have NB150_108 := n22_; have NB140_150 := n23_; have NB150_140 := n24_; clear n0_ n1_ n2_ n3_ n4_ n5_ n6_ n7_ n8_ n9_ n10_ n11_ n12_ n13_ n14_ n15_ n16_ n17_ n18_ n19_ n20_ n21_ n22_ n23_ n24_; clear hb hbox hg; obtain ⟨Ao55, co55, eo55⟩ := Kd.R_slice HO143.out; subst eo55; have hnb56 := NB150_107.out; have hnc56 := NB107_150.out; have hnb57 := NB150_108.out; have hnc57 := NB108_150.out; have hnb58 := NB150_140.out; have hnc58 := NB140_150.out; obtain ⟨hcz59_0, hcz59_1, hcz59_2⟩ := bc3 BK150.out; obtain ⟨hfz59_0, hfz59_1, hfz59_2⟩ := bf3 BK150.out; obtain ⟨Ao60, co60, eo60⟩ := Kd.R_slice HO146.out; subst eo60; obtain ⟨Ao61, co61, eo61⟩ := Kd.R_slice HO149.out; subst eo61; obtain ⟨hcz62_0, hcz62_1, hcz62_2⟩ := bc3 BK140.out; obtain ⟨hfz62_0, hfz62_1, hfz62_2⟩ := bf3 BK140.out) | ((with_reducible refine gate_callee (f := 24) rfl ?_); refine goesL_ (some 37) rfl rfl Try.func24 (by kernel_rfl) rfl #[.agg #[.slice Ao46 t131.length co46, .slice Ao50 t134.length co50, .slice Ao51 t137.length co51], .agg #[.slice Ao55 t141.length co55, .slice Ao60 t144.length co60, .slice Ao61 t147.length co61]] rfl (by (try simp only [List.map_toArray, List.map_cons, List.map_nil]); rfl) ?_; (with_reducible refine (impl_CountPattern.calls k _ _ t131 _ _ t134 _ _ t137 _ _ t141 _ _ t144 _ _ t147 t151 t152 _ ?side1 ?side2 ?side3 ?side4 ?side5 ?side6 ?side7 ?side8 ?side9 ?side10 ?side11 ?side12 A24.out).mono ?_); (case side1 => refine (Kd.R_reads' (e := 2) (base := w.heap.size) (ok := fun k_ => ((((((((((nb k_ Ao50 t134 co50 ∧ nb k_ Ao51 t137 co51) ∧ nb k_ Ao36 t111 co36) ∧ nb k_ Ao37 t114 co37) ∧ nb k_ Ao38 t117 co38) ∧ nb k_ Ao39 t120 co39) ∧ nb k_ Ao40 t123 co40) ∧ nb k_ Ao41 t126 co41) ∧ nb k_ Ao55 t141 co55) ∧ nb k_ Ao60 t144 co60) ∧ nb k_ Ao61 t147 co61)) (n := t131.length) (c := co46) ?_).2.2; exact (by exact (fa HO133.out BK150.out))); (case side2 => exact (Kd.R_reads' HO133.out).2.1); (case side3 => refine (Kd.R_reads' (e := 2) (base := w.heap.size) (ok := fun k_ => ((((((((((nb k_ Ao46 t131 co46 ∧ nb k_ Ao51 t137 co51) ∧ nb k_ Ao36 t111 co36) ∧ nb k_ Ao37 t114 co37) ∧ nb k_ Ao38 t117 co38) ∧ nb k_ Ao39 t120 co39) ∧ nb k_ Ao40 t123 co40) ∧ nb k_ Ao41 t126 co41) ∧ nb k_ Ao55 t141 co55) ∧ nb k_ Ao60 t144 co60) ∧ nb k_ Ao61 t147 co61)) (n := t134.length) (c := co50) ?_).2.2; exact (by exact (fa HO136.out BK150.out))); (case side4 => exact (Kd.R_reads' HO136.out).2.1); (case side5 => refine (Kd.R_reads' (e := 2) (base := w.heap.size) (ok := fun k_ => ((((((((((nb k_ Ao46 t131 co46 ∧ nb k_ Ao50 t134 co50) ∧ nb k_ Ao36 t111 co36) ∧ nb k_ Ao37 t114 co37) ∧ nb k_ Ao38 t117 co38) ∧ nb k_ Ao39 t120 co39) ∧ nb k_ Ao40 t123 co40) ∧ nb k_ Ao41 t126 co41) ∧ nb k_ Ao55 t141 co55) ∧ nb k_ Ao60 t144 co60) ∧ nb k_ Ao61 t147 co61)) (n := t137.length) (c := co51) ?_).2.2; exact (by exact (fa HO139.out BK150.out))); (case side6 => exact (Kd.R_reads' HO139.out).2.1); (case side7 => refine (Kd.R_reads' (e := 2) (base := w.heap.size) (ok := fun k_ => ((((((((((nb k_ Ao60 t144 co60 ∧ nb k_ Ao61 t147 co61) ∧ nb k_ Ao36 t111 co36) ∧ nb k_ Ao37 t114 co37) ∧ nb k_ Ao38 t117 co38) ∧ nb k_ Ao39 t120 co39) ∧ nb k_ Ao40 t123 co40) ∧ nb k_ Ao41 t126 co41) ∧ nb k_ Ao46 t131 co46) ∧ nb k_ Ao50 t134 co50) ∧ nb k_ Ao51 t137 co51)) (n := t141.length) (c := co55) ?_).2.2; exact (by exact (fa HO143.out BK150.out))); (case side8 => exact (Kd.R_reads' HO143.out).2.1); (case side9 => refine (Kd.R_reads' (e := 2) (base := w.heap.size) (ok := fun k_ => ((((((((((nb k_ Ao55 t141 co55 ∧ nb k_ Ao61 t147 co61) ∧ nb k_ Ao36 t111 co36) ∧ nb k_ Ao37 t114 co37) ∧ nb k_ Ao38 t117 co38) ∧ nb k_ Ao39 t120 co39) ∧ nb k_ Ao40 t123 co40) ∧ nb k_ Ao41 t126 co41) ∧ nb k_ Ao46 t131 co46) ∧ nb k_ Ao50 t134 co50) ∧ nb k_ Ao51 t137 co51)) (n := t144.length) (c := co60) ?_).2.2; exact (by exact (fa HO146.out BK150.out))); (case side10 => exact (Kd.R_reads' HO146.out).2.1); (case side11 => refine (Kd.R_reads' (e := 2) (base := w.heap.size) (ok := fun k_ => ((((((((((nb k_ Ao55 t141 co55 ∧ nb k_ Ao60 t144 co60) ∧ nb k_ Ao36 t111 co36) ∧ nb k_ Ao37 t114 co37) ∧ nb k_ Ao38 t117 co38) ∧ nb k_ Ao39 t120 co39) ∧ nb k_ Ao40 t123 co40) ∧ nb k_ Ao41 t126 co41) ∧ nb k_ Ao46 t131 co46) ∧ nb k_ Ao50 t134 co50) ∧ nb k_ Ao51 t137 co51)) (n := t147.length) (c := co61) ?_).2.2; exact (by exact (fa HO149.out BK150.out))); (case side12 => exact (Kd.R_reads' HO149.out).2.1); rintro e w63 ⟨rfl, hb⟩; refine ⟨_, rfl, ?_⟩; have n0_ := mk0 (Kd.R_below (by exact (fa HO113.out BK150.out)) hb); have n1_ := mk0 (Kd.R_below (by exact (fa HO116.out BK150.out)) hb); have n2_ := mk0 (Kd.R_below (by exact (fa HO119.out BK150.out)) hb); have n3_ := mk0 (Kd.R_below (by exact (fa HO122.out BK150.out)) hb); have n4_ := mk0 (Kd.R_below (by exact (fa HO125.out BK150.out)) hb); have n5_ := mk0 (Kd.R_below (by exact (fa HO128.out BK150.out)) hb); have n6_ := mk0 (Kd.R_below (by exact (fa HO133.out BK150.out)) hb); have n7_ := mk0 (Kd.R_below (by exact (fa HO136.out BK150.out)) hb); have n8_ := mk0 (Kd.R_below (by exact (fa HO139.out BK150.out)) hb); have n9_ := mk0 (Kd.R_below (by exact (fa HO143.out BK150.out)) hb); have n10_ := mk0 (Kd.R_below (by exact (fa HO146.out BK150.out)) hb); have n11_ := mk0 (Kd.R_below (by exact (fa HO149.out BK150.out)) hb); have n12_ := mk0 (blk_below (g := gb107) (o := .cells #[.slice A0_0 l0_0.length c0_0, .slice A0_1 l0_1.length c0_1, .slice A0_2 l0_2.length c0_2] 30 (0, 0)) (by (with_reducible repeat (first | refine blk_drewN ?_ _ | refine blk_drew ?_ | refine blk_alloc ?_ _)); refine blk_far ?_ NB107_150.out _; (with_reducible repeat (first | refine blk_drewN ?_ _ | refine blk_drew ?_ | refine blk_alloc ?_ _)); refine blk_far ?_ NB107_150.out _; (with_reducible repeat (first | refine blk_drewN ?_ _ | refine blk_drew ?_ | refine blk_alloc ?_ _)); refine blk_far ?_ NB107_150.out _; (with_reducible repeat (first | refine blk_drewN ?_ _ | refine blk_drew ?_ | refine blk_alloc ?_ _)); exact BK107.out) hb); have n13_ := mk0 (blk_below (g := gb108) (o := .cells #[.slice A1_0 l1_0.length c1_0, .slice A1_1 l1_1.length c1_1, .slice A1_2 l1_2.length c1_2] 30 (0, 0)) (by (with_reducible repeat (first | refine blk_drewN ?_ _ | refine blk_drew ?_ | refine blk_alloc ?_ _)); refine blk_far ?_ NB108_150.out _; (with_reducible repeat (first | refine blk_drewN ?_ _ | refine blk_drew ?_ | refine blk_alloc ?_ _)); refine blk_far ?_ NB108_150.out _; (with_reducible repeat (first | refine blk_drewN ?_ _ | refine blk_drew ?_ | refine blk_alloc ?_ _)); refine blk_far ?_ NB108_150.out _; (with_reducible repeat (first | refine blk_drewN ?_ _ | refine blk_drew ?_ | refine blk_alloc ?_ _)); exact BK108.out) hb); have n14_ := mk0 (blk_below (g := gb140) (o := .cells #[.slice Ao46 t131.length co46, .slice Ao50 t134.length co50, .slice Ao51 t137.length co51] 34 (0, 0)) (by (with_reducible repeat (first | refine blk_drewN ?_ _ | refine blk_drew ?_ | refine blk_alloc ?_ _)); refine blk_far ?_ NB140_150.out _; (with_reducible repeat (first | refine blk_drewN ?_ _ | refine blk_drew ?_ | refine blk_alloc ?_ _)); refine blk_far ?_ NB140_150.out _; (with_reducible repeat (first | refine blk_drewN ?_ _ | refine blk_drew ?_ | refine blk_alloc ?_ _)); refine blk_far ?_ NB140_150.out _; (with_reducible repeat (first | refine blk_drewN ?_ _ | refine blk_drew ?_ | refine blk_alloc ?_ _)); exact BK140.out) hb); have n15_ := mk0 (blk_below (g := gb150) (o := .cells #[.slice Ao55 t141.length co55, .slice Ao60 t144.length co60, .slice Ao61 t147.length co61] 34 (0, 0)) (by (with_reducible repeat (first | refine blk_drewN ?_ _ | refine blk_drew ?_ | refine blk_alloc ?_ _)); refine blk_put (cs := #[.slice Ao55 t141.length co55, .slice Ao60 t144.length co60, .slice none 0 0]) ?_ 2 _ rfl; (with_reducible repeat (first | refine blk_drewN ?_ _ | refine blk_drew ?_ | refine blk_alloc ?_ _)); refine blk_put (cs := #[.slice Ao55 t141.length co55, .slice none 0 0, .slice none 0 0]) ?_ 1 _ rfl; (with_reducible repeat (first | refine blk_drewN ?_ _ | refine blk_drew ?_ | refine blk_alloc ?_ _)); refine blk_put (cs := #[.slice none 0 0, .slice none 0 0, .slice none 0 0]) ?_ 0 _ rfl; (with_reducible repeat (first | refine blk_drewN ?_ _ | refine blk_drew ?_ | refine blk_alloc ?_ _)); exact BK150.out) hb); have n16_ := mk0 (below_step (by repeat (first | exact HB.out | apply below_alloc | apply pw_below_drewN | apply below_drew1 | refine below_set ?_ GE107.out | refine below_set ?_ GE108.out | refine below_set ?_ GE140.out | refine below_set ?_ GE150.out)) hb); clear HO113; clear HO116; clear HO119; clear HO122; clear HO125; clear HO128; clear HO133; clear HO136; clear HO139; clear HO143; clear HO146; clear HO149; clear BK107; clear BK108; clear BK140; clear BK150; clear HB; have HO113 := n0_; have HO116 := n1_; have HO119 := n2_; have HO122 := n3_; have HO125 := n4_; have HO128 := n5_; have HO133 := n6_; have HO136 := n7_; have HO139 := n8_; have HO143 := n9_; have HO146 := n10_; have HO149 := n11_; have BK107 := n12_; have BK108 := n13_; have BK140 := n14_; have BK150 := n15_; have HB := n16_; clear n0_ n1_ n2_ n3_ n4_ n5_ n6_ n7_ n8_ n9_ n10_ n11_ n12_ n13_ n14_ n15_ n16_; (try clear hb); (try clear hb2); (try clear hk); (try clear hi)))
      (try simp only [Act.put, List.setIfInBounds_toArray, List.set_cons_zero, List.set_cons_succ])
      go_cut [47] (fun v47 wc => ∃ (kq : Nat) (x47_24 : Bool), v47 = .bool x47_24 ∧ Aside0 (laws_FnExactCountPattern.j0 kq x47_24 l0_0 l0_1 l0_2 l1_0 l1_1 l1_2 t131 t134 t137 t141 t144 t147 = some r) ∧ Aside0 (kq ≤ k) ∧ Aside0 (Kd.R (Kd.int .i64) 2 wc w.heap.size (fun k_ => some k_ ≠ ((.slice Ao50 t134.length co50) : Value).ownBlock ∧ some k_ ≠ ((.slice Ao51 t137.length co51) : Value).ownBlock ∧ some k_ ≠ ((.slice Ao55 t141.length co55) : Value).ownBlock ∧ some k_ ≠ ((.slice Ao60 t144.length co60) : Value).ownBlock ∧ some k_ ≠ ((.slice Ao61 t147.length co61) : Value).ownBlock) (.slice Ao46 t131.length co46) t131) ∧ Aside0 (Kd.R (Kd.int .i64) 2 wc w.heap.size (fun k_ => some k_ ≠ ((.slice Ao46 t131.length co46) : Value).ownBlock ∧ some k_ ≠ ((.slice Ao51 t137.length co51) : Value).ownBlock ∧ some k_ ≠ ((.slice Ao55 t141.length co55) : Value).ownBlock ∧ some k_ ≠ ((.slice Ao60 t144.length co60) : Value).ownBlock ∧ some k_ ≠ ((.slice Ao61 t147.length co61) : Value).ownBlock) (.slice Ao50 t134.length co50) t134) ∧ Aside0 (Kd.R (Kd.int .i64) 2 wc w.heap.size (fun k_ => some k_ ≠ ((.slice Ao46 t131.length co46) : Value).ownBlock ∧ some k_ ≠ ((.slice Ao50 t134.length co50) : Value).ownBlock ∧ some k_ ≠ ((.slice Ao55 t141.length co55) : Value).ownBlock ∧ some k_ ≠ ((.slice Ao60 t144.length co60) : Value).ownBlock ∧ some k_ ≠ ((.slice Ao61 t147.length co61) : Value).ownBlock) (.slice Ao51 t137.length co51) t137) ∧ Aside0 (Kd.R (Kd.int .i64) 2 wc w.heap.size (fun k_ => some k_ ≠ ((.slice Ao46 t131.length co46) : Value).ownBlock ∧ some k_ ≠ ((.slice Ao50 t134.length co50) : Value).ownBlock ∧ some k_ ≠ ((.slice Ao51 t137.length co51) : Value).ownBlock ∧ some k_ ≠ ((.slice Ao60 t144.length co60) : Value).ownBlock ∧ some k_ ≠ ((.slice Ao61 t147.length co61) : Value).ownBlock) (.slice Ao55 t141.length co55) t141) ∧ Aside0 (Kd.R (Kd.int .i64) 2 wc w.heap.size (fun k_ => some k_ ≠ ((.slice Ao46 t131.length co46) : Value).ownBlock ∧ some k_ ≠ ((.slice Ao50 t134.length co50) : Value).ownBlock ∧ some k_ ≠ ((.slice Ao51 t137.length co51) : Value).ownBlock ∧ some k_ ≠ ((.slice Ao55 t141.length co55) : Value).ownBlock ∧ some k_ ≠ ((.slice Ao61 t147.length co61) : Value).ownBlock) (.slice Ao60 t144.length co60) t144) ∧ Aside0 (Kd.R (Kd.int .i64) 2 wc w.heap.size (fun k_ => some k_ ≠ ((.slice Ao46 t131.length co46) : Value).ownBlock ∧ some k_ ≠ ((.slice Ao50 t134.length co50) : Value).ownBlock ∧ some k_ ≠ ((.slice Ao51 t137.length co51) : Value).ownBlock ∧ some k_ ≠ ((.slice Ao55 t141.length co55) : Value).ownBlock ∧ some k_ ≠ ((.slice Ao60 t144.length co60) : Value).ownBlock) (.slice Ao61 t147.length co61) t147) ∧ Aside0 (wc.heap[gb107]? = some (.cells #[(.slice A0_0 l0_0.length c0_0), (.slice A0_1 l0_1.length c0_1), (.slice A0_2 l0_2.length c0_2)] 30 (0, 0))) ∧ Aside0 (wc.heap[gb108]? = some (.cells #[(.slice A1_0 l1_0.length c1_0), (.slice A1_1 l1_1.length c1_1), (.slice A1_2 l1_2.length c1_2)] 30 (0, 0))) ∧ Aside0 (wc.heap[gb140]? = some (.cells #[(.slice Ao46 t131.length co46), (.slice Ao50 t134.length co50), (.slice Ao51 t137.length co51)] 34 (0, 0))) ∧ Aside0 (wc.heap[gb150]? = some (.cells #[(.slice Ao55 t141.length co55), (.slice Ao60 t144.length co60), (.slice Ao61 t147.length co61)] 34 (0, 0))) ∧ Aside0 (Below w.heap.size w wc))
      case first =>
        have H := HC25.out
        clear HC25
        by_cases c64 : t151 = t129
        · rw [if_pos c64] at H
          have c64b0 : (t151 == t129) = true := beq_iff_eq.mpr c64
          have c64b1 : (t151 != t129) = false := bne_eq_false_iff_eq.mpr c64
          clear c64
          (first | rw [c64b0] | (simp only [i64_w, i32_w]; rw [c64b0]) | skip)
          have H' := Aside0.mk H
          clear H
          go_wp2
          go_meet
          case rel => exact ⟨_, ((t152 != t130)), (by first | rfl | (simp; done) | (simp [*]; done)), H', ⟨by first | omega | exact Nat.le_refl _⟩, ⟨by exact Kd.R_mono HO133.out (fun _ hk => ⟨hk.1.1.1.1.1.1.1.1.1.1, ⟨hk.1.1.1.1.1.1.1.1.1.2, ⟨hk.1.1.2, ⟨hk.1.2, hk.2⟩⟩⟩⟩)⟩, ⟨by exact Kd.R_mono HO136.out (fun _ hk => ⟨hk.1.1.1.1.1.1.1.1.1.1, ⟨hk.1.1.1.1.1.1.1.1.1.2, ⟨hk.1.1.2, ⟨hk.1.2, hk.2⟩⟩⟩⟩)⟩, ⟨by exact Kd.R_mono HO139.out (fun _ hk => ⟨hk.1.1.1.1.1.1.1.1.1.1, ⟨hk.1.1.1.1.1.1.1.1.1.2, ⟨hk.1.1.2, ⟨hk.1.2, hk.2⟩⟩⟩⟩)⟩, ⟨by exact Kd.R_mono HO143.out (fun _ hk => ⟨hk.1.1.2, ⟨hk.1.2, ⟨hk.2, ⟨hk.1.1.1.1.1.1.1.1.1.1, hk.1.1.1.1.1.1.1.1.1.2⟩⟩⟩⟩)⟩, ⟨by exact Kd.R_mono HO146.out (fun _ hk => ⟨hk.1.1.2, ⟨hk.1.2, ⟨hk.2, ⟨hk.1.1.1.1.1.1.1.1.1.1, hk.1.1.1.1.1.1.1.1.1.2⟩⟩⟩⟩)⟩, ⟨by exact Kd.R_mono HO149.out (fun _ hk => ⟨hk.1.1.2, ⟨hk.1.2, ⟨hk.2, ⟨hk.1.1.1.1.1.1.1.1.1.1, hk.1.1.1.1.1.1.1.1.1.2⟩⟩⟩⟩)⟩, ⟨by (with_reducible repeat (first | refine blk_drewN ?_ _ | refine blk_drew ?_ | refine blk_alloc ?_ _)); exact BK107.out⟩, ⟨by (with_reducible repeat (first | refine blk_drewN ?_ _ | refine blk_drew ?_ | refine blk_alloc ?_ _)); exact BK108.out⟩, ⟨by (with_reducible repeat (first | refine blk_drewN ?_ _ | refine blk_drew ?_ | refine blk_alloc ?_ _)); exact BK140.out⟩, ⟨by (with_reducible repeat (first | refine blk_drewN ?_ _ | refine blk_drew ?_ | refine blk_alloc ?_ _)); exact BK150.out⟩, ⟨by repeat (first | exact HB.out | apply below_alloc | apply pw_below_drewN | apply below_drew1 | refine below_set ?_ GE107.out | refine below_set ?_ GE108.out | refine below_set ?_ GE140.out | refine below_set ?_ GE150.out)⟩⟩
        · rw [if_neg c64] at H
          have c64b0 : (t151 == t129) = false := beq_eq_false_iff_ne.mpr c64
          have c64b1 : (t151 != t129) = true := bne_iff_ne.mpr c64
          (first | rw [c64b0] | (simp only [i64_w, i32_w]; rw [c64b0]) | skip)
          have H' := Aside0.mk H
          clear H
          go_wp2
          go_meet
          case rel => exact ⟨_, (true), (by first | rfl | (simp; done) | (simp [*]; done)), H', ⟨by first | omega | exact Nat.le_refl _⟩, ⟨by exact Kd.R_mono HO133.out (fun _ hk => ⟨hk.1.1.1.1.1.1.1.1.1.1, ⟨hk.1.1.1.1.1.1.1.1.1.2, ⟨hk.1.1.2, ⟨hk.1.2, hk.2⟩⟩⟩⟩)⟩, ⟨by exact Kd.R_mono HO136.out (fun _ hk => ⟨hk.1.1.1.1.1.1.1.1.1.1, ⟨hk.1.1.1.1.1.1.1.1.1.2, ⟨hk.1.1.2, ⟨hk.1.2, hk.2⟩⟩⟩⟩)⟩, ⟨by exact Kd.R_mono HO139.out (fun _ hk => ⟨hk.1.1.1.1.1.1.1.1.1.1, ⟨hk.1.1.1.1.1.1.1.1.1.2, ⟨hk.1.1.2, ⟨hk.1.2, hk.2⟩⟩⟩⟩)⟩, ⟨by exact Kd.R_mono HO143.out (fun _ hk => ⟨hk.1.1.2, ⟨hk.1.2, ⟨hk.2, ⟨hk.1.1.1.1.1.1.1.1.1.1, hk.1.1.1.1.1.1.1.1.1.2⟩⟩⟩⟩)⟩, ⟨by exact Kd.R_mono HO146.out (fun _ hk => ⟨hk.1.1.2, ⟨hk.1.2, ⟨hk.2, ⟨hk.1.1.1.1.1.1.1.1.1.1, hk.1.1.1.1.1.1.1.1.1.2⟩⟩⟩⟩)⟩, ⟨by exact Kd.R_mono HO149.out (fun _ hk => ⟨hk.1.1.2, ⟨hk.1.2, ⟨hk.2, ⟨hk.1.1.1.1.1.1.1.1.1.1, hk.1.1.1.1.1.1.1.1.1.2⟩⟩⟩⟩)⟩, ⟨by (with_reducible repeat (first | refine blk_drewN ?_ _ | refine blk_drew ?_ | refine blk_alloc ?_ _)); exact BK107.out⟩, ⟨by (with_reducible repeat (first | refine blk_drewN ?_ _ | refine blk_drew ?_ | refine blk_alloc ?_ _)); exact BK108.out⟩, ⟨by (with_reducible repeat (first | refine blk_drewN ?_ _ | refine blk_drew ?_ | refine blk_alloc ?_ _)); exact BK140.out⟩, ⟨by (with_reducible repeat (first | refine blk_drewN ?_ _ | refine blk_drew ?_ | refine blk_alloc ?_ _)); exact BK150.out⟩, ⟨by repeat (first | exact HB.out | apply below_alloc | apply pw_below_drewN | apply below_drew1 | refine below_set ?_ GE107.out | refine below_set ?_ GE108.out | refine below_set ?_ GE140.out | refine below_set ?_ GE150.out)⟩⟩
      case rest =>
        clear HC25
        try clear c1
        try clear c2
        try clear p2
        try clear c4
        try clear c4b0
        try clear c5
        try clear c6
        try clear c7
        try clear c11
        try clear c11b0
        try clear c14
        try clear c21
        try clear c22
        try clear c23
        try clear c24
        try clear c28
        try clear c47
        try clear c48
        try clear c56
        try clear c57
        try clear c58
        try clear c64
        try clear c64b0
        try clear c64b1
        try clear hcz15_0
        try clear hcz15_1
        try clear hcz15_2
        try clear hcz17_0
        try clear hcz17_1
        try clear hcz17_2
        try clear hcz29_0
        try clear hcz29_1
        try clear hcz29_2
        try clear hcz31_0
        try clear hcz31_1
        try clear hcz31_2
        try clear hcz43_0
        try clear hcz43_1
        try clear hcz43_2
        try clear hcz49_0
        try clear hcz49_1
        try clear hcz49_2
        try clear hcz52_0
        try clear hcz52_1
        try clear hcz52_2
        try clear hcz59_0
        try clear hcz59_1
        try clear hcz59_2
        try clear hcz62_0
        try clear hcz62_1
        try clear hcz62_2
        try clear hcz8_0
        try clear hcz8_1
        try clear hcz8_2
        try clear hfz15_0
        try clear hfz15_1
        try clear hfz15_2
        try clear hfz17_0
        try clear hfz17_1
        try clear hfz17_2
        try clear hfz29_0
        try clear hfz29_1
        try clear hfz29_2
        try clear hfz31_0
        try clear hfz31_1
        try clear hfz31_2
        try clear hfz43_0
        try clear hfz43_1
        try clear hfz43_2
        try clear hfz49_0
        try clear hfz49_1
        try clear hfz49_2
        try clear hfz52_0
        try clear hfz52_1
        try clear hfz52_2
        try clear hfz59_0
        try clear hfz59_1
        try clear hfz59_2
        try clear hfz62_0
        try clear hfz62_1
        try clear hfz62_2
        try clear hfz8_0
        try clear hfz8_1
        try clear hfz8_2
        obtain ⟨kq, x47_24, rfl, HA, HJ24, HO_141000, HO_141001, HO_141002, HO_151000, HO_151001, HO_151002, BK107, BK108, BK140, BK150, HB⟩ := hcut
        cases kq with
        | zero => exact absurd HA.out (by simp [laws_FnExactCountPattern.j0])
        | succ kj24 =>
          have H := HA.out
          clear HA
          simp only [laws_FnExactCountPattern.j0] at H
          by_cases c65 : x47_24 = true
          · subst c65
            have H1 : (some false) = some r := by rw [if_pos rfl] at H; exact H
            clear H
            have H := H1
            clear H1
            obtain rfl := Option.some.inj H
            go_wp2
            go_ret
            exact ⟨by first | rfl | (simp [errW_none, errW_some] <;> rfl) | (simp [*, errW_none, errW_some] <;> rfl), by repeat (first | exact HB.out | apply below_alloc | apply pw_below_drewN | apply below_drew1 | refine below_set ?_ GE107.out | refine below_set ?_ GE108.out | refine below_set ?_ GE140.out | refine below_set ?_ GE150.out)⟩
          · replace c65 := Bool.eq_false_iff.mpr c65
            subst c65
            have H1 : ((laws_toGauss.f kj24 l0_0 l0_1 l0_2).bind fun bt153 => ((laws_eqGauss.f kj24 t131 t134 t137 bt153.1 bt153.2.1 bt153.2.2).bind fun t162 => (if t162 = true then ((laws_toGauss.f kj24 l1_0 l1_1 l1_2).bind fun bt163 => ((laws_eqGauss.f kj24 t141 t144 t147 bt163.1 bt163.2.1 bt163.2.2).bind fun t172 => (if t172 = true then (some true) else (some false)))) else (some false)))) = some r := by rw [if_neg (show ¬ (false = true) by decide)] at H; exact H
            clear H
            have H := H1
            clear H1
            replace H := Option.bind_eq_some_iff.mp H
            obtain ⟨⟨t153, t156, t159⟩, A660, H⟩ := H
            replace H : ((laws_eqGauss.f kj24 t131 t134 t137 t153 t156 t159).bind fun t162 => (if t162 = true then ((laws_toGauss.f kj24 l1_0 l1_1 l1_2).bind fun bt163 => ((laws_eqGauss.f kj24 t141 t144 t147 bt163.1 bt163.2.1 bt163.2.2).bind fun t172 => (if t172 = true then (some true) else (some false)))) else (some false))) = some r := H
            have A66 := Aside0.mk A660
            clear A660
            replace H := Option.bind_eq_some_iff.mp H
            obtain ⟨t162, A670, H⟩ := H
            replace H : (if t162 = true then ((laws_toGauss.f kj24 l1_0 l1_1 l1_2).bind fun bt163 => ((laws_eqGauss.f kj24 t141 t144 t147 bt163.1 bt163.2.1 bt163.2.2).bind fun t172 => (if t172 = true then (some true) else (some false)))) else (some false)) = some r := H
            have A67 := Aside0.mk A670
            clear A670
            by_cases c68 : t162 = true
            · subst c68
              have H1 : ((laws_toGauss.f kj24 l1_0 l1_1 l1_2).bind fun bt163 => ((laws_eqGauss.f kj24 t141 t144 t147 bt163.1 bt163.2.1 bt163.2.2).bind fun t172 => (if t172 = true then (some true) else (some false)))) = some r := by rw [if_pos rfl] at H; exact H
              clear H
              have H := H1
              clear H1
              replace H := Option.bind_eq_some_iff.mp H
              obtain ⟨⟨t163, t166, t169⟩, A690, H⟩ := H
              replace H : ((laws_eqGauss.f kj24 t141 t144 t147 t163 t166 t169).bind fun t172 => (if t172 = true then (some true) else (some false))) = some r := H
              have A69 := Aside0.mk A690
              clear A690
              replace H := Option.bind_eq_some_iff.mp H
              obtain ⟨t172, A700, H⟩ := H
              replace H : (if t172 = true then (some true) else (some false)) = some r := H
              have A70 := Aside0.mk A700
              clear A700
              by_cases c71 : t172 = true
              · subst c71
                have H1 : (some true) = some r := by rw [if_pos rfl] at H; exact H
                clear H
                have H := H1
                clear H1
                obtain rfl := Option.some.inj H
                try go_wp2
                have n0_ := mk0 (Kd.R_drew HO_141000.out)
                have n1_ := mk0 (Kd.R_drew HO_141001.out)
                have n2_ := mk0 (Kd.R_drew HO_141002.out)
                have n3_ := mk0 (Kd.R_drew HO_151000.out)
                have n4_ := mk0 (Kd.R_drew HO_151001.out)
                have n5_ := mk0 (Kd.R_drew HO_151002.out)
                have n6_ := mk0 (blk_drew BK107.out)
                have n7_ := mk0 (blk_drew BK108.out)
                have n8_ := mk0 (blk_drew BK140.out)
                have n9_ := mk0 (blk_drew BK150.out)
                have n10_ := mk0 (below_drew1 HB.out)
                clear HO_141000
                clear HO_141001
                clear HO_141002
                clear HO_151000
                clear HO_151001
                clear HO_151002
                clear BK107
                clear BK108
                clear BK140
                clear BK150
                clear HB
                have HO_141000 := n0_
                have HO_141001 := n1_
                have HO_141002 := n2_
                have HO_151000 := n3_
                have HO_151001 := n4_
                have HO_151002 := n5_
                have BK107 := n6_
                have BK108 := n7_
                have BK140 := n8_
                have BK150 := n9_
                have HB := n10_
                clear n0_ n1_ n2_ n3_ n4_ n5_ n6_ n7_ n8_ n9_ n10_
                refine start_ (n := 5) (S := fun w' => w'.cell? ⟨gb140, 0, none⟩ = some (.slice Ao46 t131.length co46) ∧ w'.cell? ⟨gb140, 1, none⟩ = some (.slice Ao50 t134.length co50) ∧ w'.cell? ⟨gb140, 2, none⟩ = some (.slice Ao51 t137.length co51) ∧ w'.cell? ⟨gb107, 0, none⟩ = some (.slice A0_0 l0_0.length c0_0) ∧ w'.cell? ⟨gb107, 1, none⟩ = some (.slice A0_1 l0_1.length c0_1) ∧ w'.cell? ⟨gb107, 2, none⟩ = some (.slice A0_2 l0_2.length c0_2)) (ds := []) #[false, false, false, false, false] (by kernel_rfl) rfl rfl ⟨(blk_cell BK140.out 0).trans rfl, (blk_cell BK140.out 1).trans rfl, (blk_cell BK140.out 2).trans rfl, (blk_cell BK107.out 0).trans rfl, (blk_cell BK107.out 1).trans rfl, (blk_cell BK107.out 2).trans rfl⟩ (fun hHeld => ?_)
                generalize wc.drew = w72 at HO_141000 HO_141001 HO_141002 HO_151000 HO_151001 HO_151002 BK107 BK108 BK140 BK150 HB hHeld ⊢
                refine take_ (i := 0) (N := some 48) (v := ?_) (a' := ?_) #[true, false, false, false, false] rfl rfl (by kernel_rfl) (fun _ _ _ h => h) (Or.inl ⟨by rfl, ?_⟩) hHeld ?_ ?_
                rotate_left
                · rintro w' ⟨s0, s1, s2, s3, s4, s5⟩
                  go_simp
                  with_reducible rfl
                rotate_left
                · simp only [Act.put, List.setIfInBounds_toArray, List.set_cons_zero, List.set_cons_succ, i64_w, i32_w]
                  rfl
                refine take_ (i := 1) (N := some 49) (v := ?_) (a' := ?_) #[true, true, false, false, false] rfl rfl (by kernel_rfl) (fun _ _ _ h => h) (Or.inl ⟨by rfl, ?_⟩) hHeld ?_ ?_
                rotate_left
                · rintro w' ⟨s0, s1, s2, s3, s4, s5⟩
                  go_simp
                  with_reducible rfl
                rotate_left
                · simp only [Act.put, List.setIfInBounds_toArray, List.set_cons_zero, List.set_cons_succ, i64_w, i32_w]
                  rfl
                refine one_ (i := 2) (N := some 50) #[true, true, true, false, false] rfl rfl (by kernel_rfl) (by decide) (fun K hK => ?_)
                refine goes_ Try.func23 (by kernel_rfl) rfl #[.agg #[.slice A0_0 l0_0.length c0_0, .slice A0_1 l0_1.length c0_1, .slice A0_2 l0_2.length c0_2]] (by rfl) rfl rfl (by (try simp only [List.map_toArray, List.map_cons, List.map_nil]); rfl) ?_
                with_reducible refine (laws_toGauss.calls kj24 _ _ l0_0 _ _ l0_1 _ _ l0_2 t153 t156 t159 _ ?side1 ?side2 ?side3 ?side4 ?side5 ?side6 A66.out).mono ?_
                (case side1 => exact (Kd.C_below HR0_0.out HB.out))
                (case side2 => exact HC0_0.out)
                (case side3 => exact (Kd.C_below HR0_1.out HB.out))
                (case side4 => exact HC0_1.out)
                (case side5 => exact (Kd.C_below HR0_2.out HB.out))
                (case side6 => exact HC0_2.out)
                rintro e w73 ⟨v154, v157, v160, rfl, ho0, ho1, ho2, hb⟩
                refine ⟨_, rfl, ?_⟩
                have n0_ := mk0 (Kd.R_mono (Kd.R_told (Kd.R_told (Kd.R_told (Kd.R_old HO_141000.out hb) (Kd.R_base ho0)) (Kd.R_base ho1)) (Kd.R_base ho2)) (fun _ h_ => h_.1))
                have n1_ := mk0 (Kd.R_mono (Kd.R_told (Kd.R_told (Kd.R_told (Kd.R_old HO_141001.out hb) (Kd.R_base ho0)) (Kd.R_base ho1)) (Kd.R_base ho2)) (fun _ h_ => h_.1))
                have n2_ := mk0 (Kd.R_mono (Kd.R_told (Kd.R_told (Kd.R_told (Kd.R_old HO_141002.out hb) (Kd.R_base ho0)) (Kd.R_base ho1)) (Kd.R_base ho2)) (fun _ h_ => h_.1))
                have n3_ := mk0 (Kd.R_mono (Kd.R_told (Kd.R_told (Kd.R_told (Kd.R_old HO_151000.out hb) (Kd.R_base ho0)) (Kd.R_base ho1)) (Kd.R_base ho2)) (fun _ h_ => h_.1))
                have n4_ := mk0 (Kd.R_mono (Kd.R_told (Kd.R_told (Kd.R_told (Kd.R_old HO_151001.out hb) (Kd.R_base ho0)) (Kd.R_base ho1)) (Kd.R_base ho2)) (fun _ h_ => h_.1))
                have n5_ := mk0 (Kd.R_mono (Kd.R_told (Kd.R_told (Kd.R_told (Kd.R_old HO_151002.out hb) (Kd.R_base ho0)) (Kd.R_base ho1)) (Kd.R_base ho2)) (fun _ h_ => h_.1))
                have n6_ := mk0 (Kd.R_lower (Kd.R_new' (Kd.R_new' (Kd.R_new' (Kd.R_new' (Kd.R_new' (Kd.R_new' ho0 (Kd.R_lt HO_141000.out)) (Kd.R_lt HO_141001.out)) (Kd.R_lt HO_141002.out)) (Kd.R_lt HO_151000.out)) (Kd.R_lt HO_151001.out)) (Kd.R_lt HO_151002.out)) (below_size (by repeat (first | exact HB.out | apply below_alloc | apply pw_below_drewN | apply below_drew1 | refine below_set ?_ GE107.out | refine below_set ?_ GE108.out | refine below_set ?_ GE140.out | refine below_set ?_ GE150.out))))
                have n7_ := mk0 (Kd.R_lower (Kd.R_new' (Kd.R_new' (Kd.R_new' (Kd.R_new' (Kd.R_new' (Kd.R_new' ho1 (Kd.R_lt HO_141000.out)) (Kd.R_lt HO_141001.out)) (Kd.R_lt HO_141002.out)) (Kd.R_lt HO_151000.out)) (Kd.R_lt HO_151001.out)) (Kd.R_lt HO_151002.out)) (below_size (by repeat (first | exact HB.out | apply below_alloc | apply pw_below_drewN | apply below_drew1 | refine below_set ?_ GE107.out | refine below_set ?_ GE108.out | refine below_set ?_ GE140.out | refine below_set ?_ GE150.out))))
                have n8_ := mk0 (Kd.R_lower (Kd.R_new' (Kd.R_new' (Kd.R_new' (Kd.R_new' (Kd.R_new' (Kd.R_new' ho2 (Kd.R_lt HO_141000.out)) (Kd.R_lt HO_141001.out)) (Kd.R_lt HO_141002.out)) (Kd.R_lt HO_151000.out)) (Kd.R_lt HO_151001.out)) (Kd.R_lt HO_151002.out)) (below_size (by repeat (first | exact HB.out | apply below_alloc | apply pw_below_drewN | apply below_drew1 | refine below_set ?_ GE107.out | refine below_set ?_ GE108.out | refine below_set ?_ GE140.out | refine below_set ?_ GE150.out))))
                have n9_ := mk0 (blk_below (g := gb107) (o := .cells #[.slice A0_0 l0_0.length c0_0, .slice A0_1 l0_1.length c0_1, .slice A0_2 l0_2.length c0_2] 30 (0, 0)) (by (with_reducible repeat (first | refine blk_drewN ?_ _ | refine blk_drew ?_ | refine blk_alloc ?_ _)); exact BK107.out) hb)
                have n10_ := mk0 (blk_below (g := gb108) (o := .cells #[.slice A1_0 l1_0.length c1_0, .slice A1_1 l1_1.length c1_1, .slice A1_2 l1_2.length c1_2] 30 (0, 0)) (by (with_reducible repeat (first | refine blk_drewN ?_ _ | refine blk_drew ?_ | refine blk_alloc ?_ _)); exact BK108.out) hb)
                have n11_ := mk0 (blk_below (g := gb140) (o := .cells #[.slice Ao46 t131.length co46, .slice Ao50 t134.length co50, .slice Ao51 t137.length co51] 34 (0, 0)) (by (with_reducible repeat (first | refine blk_drewN ?_ _ | refine blk_drew ?_ | refine blk_alloc ?_ _)); exact BK140.out) hb)
                have n12_ := mk0 (blk_below (g := gb150) (o := .cells #[.slice Ao55 t141.length co55, .slice Ao60 t144.length co60, .slice Ao61 t147.length co61] 34 (0, 0)) (by (with_reducible repeat (first | refine blk_drewN ?_ _ | refine blk_drew ?_ | refine blk_alloc ?_ _)); exact BK150.out) hb)
                have n13_ := mk0 (below_step (by repeat (first | exact HB.out | apply below_alloc | apply pw_below_drewN | apply below_drew1 | refine below_set ?_ GE107.out | refine below_set ?_ GE108.out | refine below_set ?_ GE140.out | refine below_set ?_ GE150.out)) hb)
                clear HO_141000
                clear HO_141001
                clear HO_141002
                clear HO_151000
                clear HO_151001
                clear HO_151002
                clear BK107
                clear BK108
                clear BK140
                clear BK150
                clear HB
                have HO_141000 := n0_
                have HO_141001 := n1_
                have HO_141002 := n2_
                have HO_151000 := n3_
                have HO_151001 := n4_
                have HO_151002 := n5_
                have HO155 := n6_
                have HO158 := n7_
                have HO161 := n8_
                have BK107 := n9_
                have BK108 := n10_
                have BK140 := n11_
                have BK150 := n12_
                have HB := n13_
                clear n0_ n1_ n2_ n3_ n4_ n5_ n6_ n7_ n8_ n9_ n10_ n11_ n12_ n13_
                (try clear hb)
                (try clear hb2)
                (try clear hk)
                (try clear hi)
                (try clear ho0)
                (try clear ho1)
                (try clear ho2)
                obtain ⟨Ao74, co74, eo74⟩ := Kd.R_slice HO155.out
                (first | subst eo74 | (injection eo74 with f1_ f2_ f3_; have f4_ := f1_.symm; have f5_ := f3_.symm; clear f1_ f2_ f3_; subst f4_; subst f5_))
                obtain ⟨Ao75, co75, eo75⟩ := Kd.R_slice HO158.out
                (first | subst eo75 | (injection eo75 with f1_ f2_ f3_; have f4_ := f1_.symm; have f5_ := f3_.symm; clear f1_ f2_ f3_; subst f4_; subst f5_))
                obtain ⟨Ao76, co76, eo76⟩ := Kd.R_slice HO161.out
                (first | subst eo76 | (injection eo76 with f1_ f2_ f3_; have f4_ := f1_.symm; have f5_ := f3_.symm; clear f1_ f2_ f3_; subst f4_; subst f5_))
                refine hK.out _ _ ⟨(blk_cell BK140.out 0).trans rfl, (blk_cell BK140.out 1).trans rfl, (blk_cell BK140.out 2).trans rfl, (blk_cell BK107.out 0).trans rfl, (blk_cell BK107.out 1).trans rfl, (blk_cell BK107.out 2).trans rfl⟩ (fun hHeld => ?_)
                clear hK K
                refine norm_ (a' := ?_) ?_ ?_
                rotate_left
                · show Act.put _ (some 50) _ = _
                  simp only [Act.put, List.setIfInBounds_toArray, List.set_cons_zero, List.set_cons_succ, i64_w, i32_w]
                  rfl
                refine one_ (i := 3) (N := some 51) #[true, true, true, true, false] rfl rfl (by kernel_rfl) (by decide) (fun K hK => ?_)
                refine goes_ Try.func25 (by kernel_rfl) rfl #[.agg #[.slice Ao46 t131.length co46, .slice Ao50 t134.length co50, .slice Ao51 t137.length co51], .agg #[.slice Ao74 t153.length co74, .slice Ao75 t156.length co75, .slice Ao76 t159.length co76]] (by rfl) rfl rfl (by (try simp only [List.map_toArray, List.map_cons, List.map_nil]); rfl) ?_
                with_reducible refine (laws_eqGauss.calls kj24 _ _ t131 _ _ t134 _ _ t137 _ _ t153 _ _ t156 _ _ t159 true _ ?side1 ?side2 ?side3 ?side4 ?side5 ?side6 ?side7 ?side8 ?side9 ?side10 ?side11 ?side12 A67.out).mono ?_
                (case side1 => exact (Kd.R_reads' HO_141000.out).2.2)
                (case side2 => exact (Kd.R_reads' HO_141000.out).2.1)
                (case side3 => exact (Kd.R_reads' HO_141001.out).2.2)
                (case side4 => exact (Kd.R_reads' HO_141001.out).2.1)
                (case side5 => exact (Kd.R_reads' HO_141002.out).2.2)
                (case side6 => exact (Kd.R_reads' HO_141002.out).2.1)
                (case side7 => exact (Kd.R_reads' HO155.out).2.2)
                (case side8 => exact (Kd.R_reads' HO155.out).2.1)
                (case side9 => exact (Kd.R_reads' HO158.out).2.2)
                (case side10 => exact (Kd.R_reads' HO158.out).2.1)
                (case side11 => exact (Kd.R_reads' HO161.out).2.2)
                (case side12 => exact (Kd.R_reads' HO161.out).2.1)
                rintro e w77 ⟨rfl, hb⟩
                refine ⟨_, rfl, ?_⟩
                have n0_ := mk0 (Kd.R_below HO_141000.out hb)
                have n1_ := mk0 (Kd.R_below HO_141001.out hb)
                have n2_ := mk0 (Kd.R_below HO_141002.out hb)
                have n3_ := mk0 (Kd.R_below HO_151000.out hb)
                have n4_ := mk0 (Kd.R_below HO_151001.out hb)
                have n5_ := mk0 (Kd.R_below HO_151002.out hb)
                have n6_ := mk0 (Kd.R_below HO155.out hb)
                have n7_ := mk0 (Kd.R_below HO158.out hb)
                have n8_ := mk0 (Kd.R_below HO161.out hb)
                have n9_ := mk0 (blk_below (g := gb107) (o := .cells #[.slice A0_0 l0_0.length c0_0, .slice A0_1 l0_1.length c0_1, .slice A0_2 l0_2.length c0_2] 30 (0, 0)) (by (with_reducible repeat (first | refine blk_drewN ?_ _ | refine blk_drew ?_ | refine blk_alloc ?_ _)); exact BK107.out) hb)
                have n10_ := mk0 (blk_below (g := gb108) (o := .cells #[.slice A1_0 l1_0.length c1_0, .slice A1_1 l1_1.length c1_1, .slice A1_2 l1_2.length c1_2] 30 (0, 0)) (by (with_reducible repeat (first | refine blk_drewN ?_ _ | refine blk_drew ?_ | refine blk_alloc ?_ _)); exact BK108.out) hb)
                have n11_ := mk0 (blk_below (g := gb140) (o := .cells #[.slice Ao46 t131.length co46, .slice Ao50 t134.length co50, .slice Ao51 t137.length co51] 34 (0, 0)) (by (with_reducible repeat (first | refine blk_drewN ?_ _ | refine blk_drew ?_ | refine blk_alloc ?_ _)); exact BK140.out) hb)
                have n12_ := mk0 (blk_below (g := gb150) (o := .cells #[.slice Ao55 t141.length co55, .slice Ao60 t144.length co60, .slice Ao61 t147.length co61] 34 (0, 0)) (by (with_reducible repeat (first | refine blk_drewN ?_ _ | refine blk_drew ?_ | refine blk_alloc ?_ _)); exact BK150.out) hb)
                have n13_ := mk0 (below_step (by repeat (first | exact HB.out | apply below_alloc | apply pw_below_drewN | apply below_drew1 | refine below_set ?_ GE107.out | refine below_set ?_ GE108.out | refine below_set ?_ GE140.out | refine below_set ?_ GE150.out)) hb)
                clear HO_141000
                clear HO_141001
                clear HO_141002
                clear HO_151000
                clear HO_151001
                clear HO_151002
                clear HO155
                clear HO158
                clear HO161
                clear BK107
                clear BK108
                clear BK140
                clear BK150
                clear HB
                have HO_141000 := n0_
                have HO_141001 := n1_
                have HO_141002 := n2_
                have HO_151000 := n3_
                have HO_151001 := n4_
                have HO_151002 := n5_
                have HO155 := n6_
                have HO158 := n7_
                have HO161 := n8_
                have BK107 := n9_
                have BK108 := n10_
                have BK140 := n11_
                have BK150 := n12_
                have HB := n13_
                clear n0_ n1_ n2_ n3_ n4_ n5_ n6_ n7_ n8_ n9_ n10_ n11_ n12_ n13_
                (try clear hb)
                (try clear hb2)
                (try clear hk)
                (try clear hi)
                refine hK.out _ _ ⟨(blk_cell BK140.out 0).trans rfl, (blk_cell BK140.out 1).trans rfl, (blk_cell BK140.out 2).trans rfl, (blk_cell BK107.out 0).trans rfl, (blk_cell BK107.out 1).trans rfl, (blk_cell BK107.out 2).trans rfl⟩ (fun hHeld => ?_)
                clear hK K
                refine norm_ (a' := ?_) ?_ ?_
                rotate_left
                · show Act.put _ (some 51) _ = _
                  simp only [Act.put, List.setIfInBounds_toArray, List.set_cons_zero, List.set_cons_succ, i64_w, i32_w]
                  rfl
                refine pure_ (i := 4) (N := some 52) (v := ?_) (a' := ?_) #[true, true, true, true, true] rfl rfl (by kernel_rfl) (fun _ _ _ h => h) (Or.inl ⟨by rfl, ?_⟩) ?_ ?_
                rotate_left
                · intro w'
                  go_simp
                  with_reducible rfl
                rotate_left
                · simp only [Act.put, List.setIfInBounds_toArray, List.set_cons_zero, List.set_cons_succ, i64_w, i32_w]
                  rfl
                refine done_ (by kernel_rfl) ?_
                try go_wp2
                have n0_ := mk0 (Kd.R_drew HO_141000.out)
                have n1_ := mk0 (Kd.R_drew HO_141001.out)
                have n2_ := mk0 (Kd.R_drew HO_141002.out)
                have n3_ := mk0 (Kd.R_drew HO_151000.out)
                have n4_ := mk0 (Kd.R_drew HO_151001.out)
                have n5_ := mk0 (Kd.R_drew HO_151002.out)
                have n6_ := mk0 (Kd.R_drew HO155.out)
                have n7_ := mk0 (Kd.R_drew HO158.out)
                have n8_ := mk0 (Kd.R_drew HO161.out)
                have n9_ := mk0 (blk_drew BK107.out)
                have n10_ := mk0 (blk_drew BK108.out)
                have n11_ := mk0 (blk_drew BK140.out)
                have n12_ := mk0 (blk_drew BK150.out)
                have n13_ := mk0 (below_drew1 HB.out)
                clear HO_141000
                clear HO_141001
                clear HO_141002
                clear HO_151000
                clear HO_151001
                clear HO_151002
                clear HO155
                clear HO158
                clear HO161
                clear BK107
                clear BK108
                clear BK140
                clear BK150
                clear HB
                have HO_141000 := n0_
                have HO_141001 := n1_
                have HO_141002 := n2_
                have HO_151000 := n3_
                have HO_151001 := n4_
                have HO_151002 := n5_
                have HO155 := n6_
                have HO158 := n7_
                have HO161 := n8_
                have BK107 := n9_
                have BK108 := n10_
                have BK140 := n11_
                have BK150 := n12_
                have HB := n13_
                clear n0_ n1_ n2_ n3_ n4_ n5_ n6_ n7_ n8_ n9_ n10_ n11_ n12_ n13_
                refine start_ (n := 5) (S := fun w' => w'.cell? ⟨gb150, 0, none⟩ = some (.slice Ao55 t141.length co55) ∧ w'.cell? ⟨gb150, 1, none⟩ = some (.slice Ao60 t144.length co60) ∧ w'.cell? ⟨gb150, 2, none⟩ = some (.slice Ao61 t147.length co61) ∧ w'.cell? ⟨gb108, 0, none⟩ = some (.slice A1_0 l1_0.length c1_0) ∧ w'.cell? ⟨gb108, 1, none⟩ = some (.slice A1_1 l1_1.length c1_1) ∧ w'.cell? ⟨gb108, 2, none⟩ = some (.slice A1_2 l1_2.length c1_2)) (ds := []) #[false, false, false, false, false] (by kernel_rfl) rfl rfl ⟨(blk_cell BK150.out 0).trans rfl, (blk_cell BK150.out 1).trans rfl, (blk_cell BK150.out 2).trans rfl, (blk_cell BK108.out 0).trans rfl, (blk_cell BK108.out 1).trans rfl, (blk_cell BK108.out 2).trans rfl⟩ (fun hHeld => ?_)
                generalize w77.drew = w78 at HO_141000 HO_141001 HO_141002 HO_151000 HO_151001 HO_151002 HO155 HO158 HO161 BK107 BK108 BK140 BK150 HB hHeld ⊢
                refine take_ (i := 0) (N := some 53) (v := ?_) (a' := ?_) #[true, false, false, false, false] rfl rfl (by kernel_rfl) (fun _ _ _ h => h) (Or.inl ⟨by rfl, ?_⟩) hHeld ?_ ?_
                rotate_left
                · rintro w' ⟨s0, s1, s2, s3, s4, s5⟩
                  go_simp
                  with_reducible rfl
                rotate_left
                · simp only [Act.put, List.setIfInBounds_toArray, List.set_cons_zero, List.set_cons_succ, i64_w, i32_w]
                  rfl
                refine take_ (i := 1) (N := some 54) (v := ?_) (a' := ?_) #[true, true, false, false, false] rfl rfl (by kernel_rfl) (fun _ _ _ h => h) (Or.inl ⟨by rfl, ?_⟩) hHeld ?_ ?_
                rotate_left
                · rintro w' ⟨s0, s1, s2, s3, s4, s5⟩
                  go_simp
                  with_reducible rfl
                rotate_left
                · simp only [Act.put, List.setIfInBounds_toArray, List.set_cons_zero, List.set_cons_succ, i64_w, i32_w]
                  rfl
                refine one_ (i := 2) (N := some 55) #[true, true, true, false, false] rfl rfl (by kernel_rfl) (by decide) (fun K hK => ?_)
                refine goes_ Try.func23 (by kernel_rfl) rfl #[.agg #[.slice A1_0 l1_0.length c1_0, .slice A1_1 l1_1.length c1_1, .slice A1_2 l1_2.length c1_2]] (by rfl) rfl rfl (by (try simp only [List.map_toArray, List.map_cons, List.map_nil]); rfl) ?_
                with_reducible refine (laws_toGauss.calls kj24 _ _ l1_0 _ _ l1_1 _ _ l1_2 t163 t166 t169 _ ?side1 ?side2 ?side3 ?side4 ?side5 ?side6 A69.out).mono ?_
                (case side1 => exact (Kd.C_below HR1_0.out HB.out))
                (case side2 => exact HC1_0.out)
                (case side3 => exact (Kd.C_below HR1_1.out HB.out))
                (case side4 => exact HC1_1.out)
                (case side5 => exact (Kd.C_below HR1_2.out HB.out))
                (case side6 => exact HC1_2.out)
                rintro e w79 ⟨v164, v167, v170, rfl, ho0, ho1, ho2, hb⟩
                refine ⟨_, rfl, ?_⟩
                have n0_ := mk0 (Kd.R_mono (Kd.R_told (Kd.R_told (Kd.R_told (Kd.R_old HO_141000.out hb) (Kd.R_base ho0)) (Kd.R_base ho1)) (Kd.R_base ho2)) (fun _ h_ => h_.1))
                have n1_ := mk0 (Kd.R_mono (Kd.R_told (Kd.R_told (Kd.R_told (Kd.R_old HO_141001.out hb) (Kd.R_base ho0)) (Kd.R_base ho1)) (Kd.R_base ho2)) (fun _ h_ => h_.1))
                have n2_ := mk0 (Kd.R_mono (Kd.R_told (Kd.R_told (Kd.R_told (Kd.R_old HO_141002.out hb) (Kd.R_base ho0)) (Kd.R_base ho1)) (Kd.R_base ho2)) (fun _ h_ => h_.1))
                have n3_ := mk0 (Kd.R_mono (Kd.R_told (Kd.R_told (Kd.R_told (Kd.R_old HO_151000.out hb) (Kd.R_base ho0)) (Kd.R_base ho1)) (Kd.R_base ho2)) (fun _ h_ => h_.1))
                have n4_ := mk0 (Kd.R_mono (Kd.R_told (Kd.R_told (Kd.R_told (Kd.R_old HO_151001.out hb) (Kd.R_base ho0)) (Kd.R_base ho1)) (Kd.R_base ho2)) (fun _ h_ => h_.1))
                have n5_ := mk0 (Kd.R_mono (Kd.R_told (Kd.R_told (Kd.R_told (Kd.R_old HO_151002.out hb) (Kd.R_base ho0)) (Kd.R_base ho1)) (Kd.R_base ho2)) (fun _ h_ => h_.1))
                have n6_ := mk0 (Kd.R_mono (Kd.R_told (Kd.R_told (Kd.R_told (Kd.R_old HO155.out hb) (Kd.R_base ho0)) (Kd.R_base ho1)) (Kd.R_base ho2)) (fun _ h_ => h_.1))
                have n7_ := mk0 (Kd.R_mono (Kd.R_told (Kd.R_told (Kd.R_told (Kd.R_old HO158.out hb) (Kd.R_base ho0)) (Kd.R_base ho1)) (Kd.R_base ho2)) (fun _ h_ => h_.1))
                have n8_ := mk0 (Kd.R_mono (Kd.R_told (Kd.R_told (Kd.R_told (Kd.R_old HO161.out hb) (Kd.R_base ho0)) (Kd.R_base ho1)) (Kd.R_base ho2)) (fun _ h_ => h_.1))
                have n9_ := mk0 (Kd.R_lower (Kd.R_new' (Kd.R_new' (Kd.R_new' (Kd.R_new' (Kd.R_new' (Kd.R_new' (Kd.R_new' (Kd.R_new' (Kd.R_new' ho0 (Kd.R_lt HO_141000.out)) (Kd.R_lt HO_141001.out)) (Kd.R_lt HO_141002.out)) (Kd.R_lt HO_151000.out)) (Kd.R_lt HO_151001.out)) (Kd.R_lt HO_151002.out)) (Kd.R_lt HO155.out)) (Kd.R_lt HO158.out)) (Kd.R_lt HO161.out)) (below_size (by repeat (first | exact HB.out | apply below_alloc | apply pw_below_drewN | apply below_drew1 | refine below_set ?_ GE107.out | refine below_set ?_ GE108.out | refine below_set ?_ GE140.out | refine below_set ?_ GE150.out))))
                have n10_ := mk0 (Kd.R_lower (Kd.R_new' (Kd.R_new' (Kd.R_new' (Kd.R_new' (Kd.R_new' (Kd.R_new' (Kd.R_new' (Kd.R_new' (Kd.R_new' ho1 (Kd.R_lt HO_141000.out)) (Kd.R_lt HO_141001.out)) (Kd.R_lt HO_141002.out)) (Kd.R_lt HO_151000.out)) (Kd.R_lt HO_151001.out)) (Kd.R_lt HO_151002.out)) (Kd.R_lt HO155.out)) (Kd.R_lt HO158.out)) (Kd.R_lt HO161.out)) (below_size (by repeat (first | exact HB.out | apply below_alloc | apply pw_below_drewN | apply below_drew1 | refine below_set ?_ GE107.out | refine below_set ?_ GE108.out | refine below_set ?_ GE140.out | refine below_set ?_ GE150.out))))
                have n11_ := mk0 (Kd.R_lower (Kd.R_new' (Kd.R_new' (Kd.R_new' (Kd.R_new' (Kd.R_new' (Kd.R_new' (Kd.R_new' (Kd.R_new' (Kd.R_new' ho2 (Kd.R_lt HO_141000.out)) (Kd.R_lt HO_141001.out)) (Kd.R_lt HO_141002.out)) (Kd.R_lt HO_151000.out)) (Kd.R_lt HO_151001.out)) (Kd.R_lt HO_151002.out)) (Kd.R_lt HO155.out)) (Kd.R_lt HO158.out)) (Kd.R_lt HO161.out)) (below_size (by repeat (first | exact HB.out | apply below_alloc | apply pw_below_drewN | apply below_drew1 | refine below_set ?_ GE107.out | refine below_set ?_ GE108.out | refine below_set ?_ GE140.out | refine below_set ?_ GE150.out))))
                have n12_ := mk0 (blk_below (g := gb107) (o := .cells #[.slice A0_0 l0_0.length c0_0, .slice A0_1 l0_1.length c0_1, .slice A0_2 l0_2.length c0_2] 30 (0, 0)) (by (with_reducible repeat (first | refine blk_drewN ?_ _ | refine blk_drew ?_ | refine blk_alloc ?_ _)); exact BK107.out) hb)
                have n13_ := mk0 (blk_below (g := gb108) (o := .cells #[.slice A1_0 l1_0.length c1_0, .slice A1_1 l1_1.length c1_1, .slice A1_2 l1_2.length c1_2] 30 (0, 0)) (by (with_reducible repeat (first | refine blk_drewN ?_ _ | refine blk_drew ?_ | refine blk_alloc ?_ _)); exact BK108.out) hb)
                have n14_ := mk0 (blk_below (g := gb140) (o := .cells #[.slice Ao46 t131.length co46, .slice Ao50 t134.length co50, .slice Ao51 t137.length co51] 34 (0, 0)) (by (with_reducible repeat (first | refine blk_drewN ?_ _ | refine blk_drew ?_ | refine blk_alloc ?_ _)); exact BK140.out) hb)
                have n15_ := mk0 (blk_below (g := gb150) (o := .cells #[.slice Ao55 t141.length co55, .slice Ao60 t144.length co60, .slice Ao61 t147.length co61] 34 (0, 0)) (by (with_reducible repeat (first | refine blk_drewN ?_ _ | refine blk_drew ?_ | refine blk_alloc ?_ _)); exact BK150.out) hb)
                have n16_ := mk0 (below_step (by repeat (first | exact HB.out | apply below_alloc | apply pw_below_drewN | apply below_drew1 | refine below_set ?_ GE107.out | refine below_set ?_ GE108.out | refine below_set ?_ GE140.out | refine below_set ?_ GE150.out)) hb)
                clear HO_141000
                clear HO_141001
                clear HO_141002
                clear HO_151000
                clear HO_151001
                clear HO_151002
                clear HO155
                clear HO158
                clear HO161
                clear BK107
                clear BK108
                clear BK140
                clear BK150
                clear HB
                have HO_141000 := n0_
                have HO_141001 := n1_
                have HO_141002 := n2_
                have HO_151000 := n3_
                have HO_151001 := n4_
                have HO_151002 := n5_
                have HO155 := n6_
                have HO158 := n7_
                have HO161 := n8_
                have HO165 := n9_
                have HO168 := n10_
                have HO171 := n11_
                have BK107 := n12_
                have BK108 := n13_
                have BK140 := n14_
                have BK150 := n15_
                have HB := n16_
                clear n0_ n1_ n2_ n3_ n4_ n5_ n6_ n7_ n8_ n9_ n10_ n11_ n12_ n13_ n14_ n15_ n16_
                (try clear hb)
                (try clear hb2)
                (try clear hk)
                (try clear hi)
                (try clear ho0)
                (try clear ho1)
                (try clear ho2)
                obtain ⟨Ao80, co80, eo80⟩ := Kd.R_slice HO165.out
                (first | subst eo80 | (injection eo80 with f1_ f2_ f3_; have f4_ := f1_.symm; have f5_ := f3_.symm; clear f1_ f2_ f3_; subst f4_; subst f5_))
                obtain ⟨Ao81, co81, eo81⟩ := Kd.R_slice HO168.out
                (first | subst eo81 | (injection eo81 with f1_ f2_ f3_; have f4_ := f1_.symm; have f5_ := f3_.symm; clear f1_ f2_ f3_; subst f4_; subst f5_))
                obtain ⟨Ao82, co82, eo82⟩ := Kd.R_slice HO171.out
                (first | subst eo82 | (injection eo82 with f1_ f2_ f3_; have f4_ := f1_.symm; have f5_ := f3_.symm; clear f1_ f2_ f3_; subst f4_; subst f5_))
                refine hK.out _ _ ⟨(blk_cell BK150.out 0).trans rfl, (blk_cell BK150.out 1).trans rfl, (blk_cell BK150.out 2).trans rfl, (blk_cell BK108.out 0).trans rfl, (blk_cell BK108.out 1).trans rfl, (blk_cell BK108.out 2).trans rfl⟩ (fun hHeld => ?_)
                clear hK K
                refine norm_ (a' := ?_) ?_ ?_
                rotate_left
                · show Act.put _ (some 55) _ = _
                  simp only [Act.put, List.setIfInBounds_toArray, List.set_cons_zero, List.set_cons_succ, i64_w, i32_w]
                  rfl
                refine one_ (i := 3) (N := some 56) #[true, true, true, true, false] rfl rfl (by kernel_rfl) (by decide) (fun K hK => ?_)
                refine goes_ Try.func25 (by kernel_rfl) rfl #[.agg #[.slice Ao55 t141.length co55, .slice Ao60 t144.length co60, .slice Ao61 t147.length co61], .agg #[.slice Ao80 t163.length co80, .slice Ao81 t166.length co81, .slice Ao82 t169.length co82]] (by rfl) rfl rfl (by (try simp only [List.map_toArray, List.map_cons, List.map_nil]); rfl) ?_
                with_reducible refine (laws_eqGauss.calls kj24 _ _ t141 _ _ t144 _ _ t147 _ _ t163 _ _ t166 _ _ t169 true _ ?side1 ?side2 ?side3 ?side4 ?side5 ?side6 ?side7 ?side8 ?side9 ?side10 ?side11 ?side12 A70.out).mono ?_
                (case side1 => exact (Kd.R_reads' HO_151000.out).2.2)
                (case side2 => exact (Kd.R_reads' HO_151000.out).2.1)
                (case side3 => exact (Kd.R_reads' HO_151001.out).2.2)
                (case side4 => exact (Kd.R_reads' HO_151001.out).2.1)
                (case side5 => exact (Kd.R_reads' HO_151002.out).2.2)
                (case side6 => exact (Kd.R_reads' HO_151002.out).2.1)
                (case side7 => exact (Kd.R_reads' HO165.out).2.2)
                (case side8 => exact (Kd.R_reads' HO165.out).2.1)
                (case side9 => exact (Kd.R_reads' HO168.out).2.2)
                (case side10 => exact (Kd.R_reads' HO168.out).2.1)
                (case side11 => exact (Kd.R_reads' HO171.out).2.2)
                (case side12 => exact (Kd.R_reads' HO171.out).2.1)
                rintro e w83 ⟨rfl, hb⟩
                refine ⟨_, rfl, ?_⟩
                have n0_ := mk0 (Kd.R_below HO_141000.out hb)
                have n1_ := mk0 (Kd.R_below HO_141001.out hb)
                have n2_ := mk0 (Kd.R_below HO_141002.out hb)
                have n3_ := mk0 (Kd.R_below HO_151000.out hb)
                have n4_ := mk0 (Kd.R_below HO_151001.out hb)
                have n5_ := mk0 (Kd.R_below HO_151002.out hb)
                have n6_ := mk0 (Kd.R_below HO155.out hb)
                have n7_ := mk0 (Kd.R_below HO158.out hb)
                have n8_ := mk0 (Kd.R_below HO161.out hb)
                have n9_ := mk0 (Kd.R_below HO165.out hb)
                have n10_ := mk0 (Kd.R_below HO168.out hb)
                have n11_ := mk0 (Kd.R_below HO171.out hb)
                have n12_ := mk0 (blk_below (g := gb107) (o := .cells #[.slice A0_0 l0_0.length c0_0, .slice A0_1 l0_1.length c0_1, .slice A0_2 l0_2.length c0_2] 30 (0, 0)) (by (with_reducible repeat (first | refine blk_drewN ?_ _ | refine blk_drew ?_ | refine blk_alloc ?_ _)); exact BK107.out) hb)
                have n13_ := mk0 (blk_below (g := gb108) (o := .cells #[.slice A1_0 l1_0.length c1_0, .slice A1_1 l1_1.length c1_1, .slice A1_2 l1_2.length c1_2] 30 (0, 0)) (by (with_reducible repeat (first | refine blk_drewN ?_ _ | refine blk_drew ?_ | refine blk_alloc ?_ _)); exact BK108.out) hb)
                have n14_ := mk0 (blk_below (g := gb140) (o := .cells #[.slice Ao46 t131.length co46, .slice Ao50 t134.length co50, .slice Ao51 t137.length co51] 34 (0, 0)) (by (with_reducible repeat (first | refine blk_drewN ?_ _ | refine blk_drew ?_ | refine blk_alloc ?_ _)); exact BK140.out) hb)
                have n15_ := mk0 (blk_below (g := gb150) (o := .cells #[.slice Ao55 t141.length co55, .slice Ao60 t144.length co60, .slice Ao61 t147.length co61] 34 (0, 0)) (by (with_reducible repeat (first | refine blk_drewN ?_ _ | refine blk_drew ?_ | refine blk_alloc ?_ _)); exact BK150.out) hb)
                have n16_ := mk0 (below_step (by repeat (first | exact HB.out | apply below_alloc | apply pw_below_drewN | apply below_drew1 | refine below_set ?_ GE107.out | refine below_set ?_ GE108.out | refine below_set ?_ GE140.out | refine below_set ?_ GE150.out)) hb)
                clear HO_141000
                clear HO_141001
                clear HO_141002
                clear HO_151000
                clear HO_151001
                clear HO_151002
                clear HO155
                clear HO158
                clear HO161
                clear HO165
                clear HO168
                clear HO171
                clear BK107
                clear BK108
                clear BK140
                clear BK150
                clear HB
                have HO_141000 := n0_
                have HO_141001 := n1_
                have HO_141002 := n2_
                have HO_151000 := n3_
                have HO_151001 := n4_
                have HO_151002 := n5_
                have HO155 := n6_
                have HO158 := n7_
                have HO161 := n8_
                have HO165 := n9_
                have HO168 := n10_
                have HO171 := n11_
                have BK107 := n12_
                have BK108 := n13_
                have BK140 := n14_
                have BK150 := n15_
                have HB := n16_
                clear n0_ n1_ n2_ n3_ n4_ n5_ n6_ n7_ n8_ n9_ n10_ n11_ n12_ n13_ n14_ n15_ n16_
                (try clear hb)
                (try clear hb2)
                (try clear hk)
                (try clear hi)
                refine hK.out _ _ ⟨(blk_cell BK150.out 0).trans rfl, (blk_cell BK150.out 1).trans rfl, (blk_cell BK150.out 2).trans rfl, (blk_cell BK108.out 0).trans rfl, (blk_cell BK108.out 1).trans rfl, (blk_cell BK108.out 2).trans rfl⟩ (fun hHeld => ?_)
                clear hK K
                refine norm_ (a' := ?_) ?_ ?_
                rotate_left
                · show Act.put _ (some 56) _ = _
                  simp only [Act.put, List.setIfInBounds_toArray, List.set_cons_zero, List.set_cons_succ, i64_w, i32_w]
                  rfl
                refine pure_ (i := 4) (N := some 57) (v := ?_) (a' := ?_) #[true, true, true, true, true] rfl rfl (by kernel_rfl) (fun _ _ _ h => h) (Or.inl ⟨by rfl, ?_⟩) ?_ ?_
                rotate_left
                · intro w'
                  go_simp
                  with_reducible rfl
                rotate_left
                · simp only [Act.put, List.setIfInBounds_toArray, List.set_cons_zero, List.set_cons_succ, i64_w, i32_w]
                  rfl
                refine done_ (by kernel_rfl) ?_
                try go_wp2
                go_ret
                exact ⟨by first | rfl | (simp [errW_none, errW_some] <;> rfl) | (simp [*, errW_none, errW_some] <;> rfl), by repeat (first | exact HB.out | apply below_alloc | apply pw_below_drewN | apply below_drew1 | refine below_set ?_ GE107.out | refine below_set ?_ GE108.out | refine below_set ?_ GE140.out | refine below_set ?_ GE150.out)⟩
              · replace c71 := Bool.eq_false_iff.mpr c71
                subst c71
                have H1 : (some false) = some r := by rw [if_neg (show ¬ (false = true) by decide)] at H; exact H
                clear H
                have H := H1
                clear H1
                obtain rfl := Option.some.inj H
                try go_wp2
                have n0_ := mk0 (Kd.R_drew HO_141000.out)
                have n1_ := mk0 (Kd.R_drew HO_141001.out)
                have n2_ := mk0 (Kd.R_drew HO_141002.out)
                have n3_ := mk0 (Kd.R_drew HO_151000.out)
                have n4_ := mk0 (Kd.R_drew HO_151001.out)
                have n5_ := mk0 (Kd.R_drew HO_151002.out)
                have n6_ := mk0 (blk_drew BK107.out)
                have n7_ := mk0 (blk_drew BK108.out)
                have n8_ := mk0 (blk_drew BK140.out)
                have n9_ := mk0 (blk_drew BK150.out)
                have n10_ := mk0 (below_drew1 HB.out)
                clear HO_141000
                clear HO_141001
                clear HO_141002
                clear HO_151000
                clear HO_151001
                clear HO_151002
                clear BK107
                clear BK108
                clear BK140
                clear BK150
                clear HB
                have HO_141000 := n0_
                have HO_141001 := n1_
                have HO_141002 := n2_
                have HO_151000 := n3_
                have HO_151001 := n4_
                have HO_151002 := n5_
                have BK107 := n6_
                have BK108 := n7_
                have BK140 := n8_
                have BK150 := n9_
                have HB := n10_
                clear n0_ n1_ n2_ n3_ n4_ n5_ n6_ n7_ n8_ n9_ n10_
                refine start_ (n := 5) (S := fun w' => w'.cell? ⟨gb140, 0, none⟩ = some (.slice Ao46 t131.length co46) ∧ w'.cell? ⟨gb140, 1, none⟩ = some (.slice Ao50 t134.length co50) ∧ w'.cell? ⟨gb140, 2, none⟩ = some (.slice Ao51 t137.length co51) ∧ w'.cell? ⟨gb107, 0, none⟩ = some (.slice A0_0 l0_0.length c0_0) ∧ w'.cell? ⟨gb107, 1, none⟩ = some (.slice A0_1 l0_1.length c0_1) ∧ w'.cell? ⟨gb107, 2, none⟩ = some (.slice A0_2 l0_2.length c0_2)) (ds := []) #[false, false, false, false, false] (by kernel_rfl) rfl rfl ⟨(blk_cell BK140.out 0).trans rfl, (blk_cell BK140.out 1).trans rfl, (blk_cell BK140.out 2).trans rfl, (blk_cell BK107.out 0).trans rfl, (blk_cell BK107.out 1).trans rfl, (blk_cell BK107.out 2).trans rfl⟩ (fun hHeld => ?_)
                generalize wc.drew = w84 at HO_141000 HO_141001 HO_141002 HO_151000 HO_151001 HO_151002 BK107 BK108 BK140 BK150 HB hHeld ⊢
                refine take_ (i := 0) (N := some 48) (v := ?_) (a' := ?_) #[true, false, false, false, false] rfl rfl (by kernel_rfl) (fun _ _ _ h => h) (Or.inl ⟨by rfl, ?_⟩) hHeld ?_ ?_
                rotate_left
                · rintro w' ⟨s0, s1, s2, s3, s4, s5⟩
                  go_simp
                  with_reducible rfl
                rotate_left
                · simp only [Act.put, List.setIfInBounds_toArray, List.set_cons_zero, List.set_cons_succ, i64_w, i32_w]
                  rfl
                refine take_ (i := 1) (N := some 49) (v := ?_) (a' := ?_) #[true, true, false, false, false] rfl rfl (by kernel_rfl) (fun _ _ _ h => h) (Or.inl ⟨by rfl, ?_⟩) hHeld ?_ ?_
                rotate_left
                · rintro w' ⟨s0, s1, s2, s3, s4, s5⟩
                  go_simp
                  with_reducible rfl
                rotate_left
                · simp only [Act.put, List.setIfInBounds_toArray, List.set_cons_zero, List.set_cons_succ, i64_w, i32_w]
                  rfl
                refine one_ (i := 2) (N := some 50) #[true, true, true, false, false] rfl rfl (by kernel_rfl) (by decide) (fun K hK => ?_)
                refine goes_ Try.func23 (by kernel_rfl) rfl #[.agg #[.slice A0_0 l0_0.length c0_0, .slice A0_1 l0_1.length c0_1, .slice A0_2 l0_2.length c0_2]] (by rfl) rfl rfl (by (try simp only [List.map_toArray, List.map_cons, List.map_nil]); rfl) ?_
                with_reducible refine (laws_toGauss.calls kj24 _ _ l0_0 _ _ l0_1 _ _ l0_2 t153 t156 t159 _ ?side1 ?side2 ?side3 ?side4 ?side5 ?side6 A66.out).mono ?_
                (case side1 => exact (Kd.C_below HR0_0.out HB.out))
                (case side2 => exact HC0_0.out)
                (case side3 => exact (Kd.C_below HR0_1.out HB.out))
                (case side4 => exact HC0_1.out)
                (case side5 => exact (Kd.C_below HR0_2.out HB.out))
                (case side6 => exact HC0_2.out)
                rintro e w85 ⟨v154, v157, v160, rfl, ho0, ho1, ho2, hb⟩
                refine ⟨_, rfl, ?_⟩
                have n0_ := mk0 (Kd.R_mono (Kd.R_told (Kd.R_told (Kd.R_told (Kd.R_old HO_141000.out hb) (Kd.R_base ho0)) (Kd.R_base ho1)) (Kd.R_base ho2)) (fun _ h_ => h_.1))
                have n1_ := mk0 (Kd.R_mono (Kd.R_told (Kd.R_told (Kd.R_told (Kd.R_old HO_141001.out hb) (Kd.R_base ho0)) (Kd.R_base ho1)) (Kd.R_base ho2)) (fun _ h_ => h_.1))
                have n2_ := mk0 (Kd.R_mono (Kd.R_told (Kd.R_told (Kd.R_told (Kd.R_old HO_141002.out hb) (Kd.R_base ho0)) (Kd.R_base ho1)) (Kd.R_base ho2)) (fun _ h_ => h_.1))
                have n3_ := mk0 (Kd.R_mono (Kd.R_told (Kd.R_told (Kd.R_told (Kd.R_old HO_151000.out hb) (Kd.R_base ho0)) (Kd.R_base ho1)) (Kd.R_base ho2)) (fun _ h_ => h_.1))
                have n4_ := mk0 (Kd.R_mono (Kd.R_told (Kd.R_told (Kd.R_told (Kd.R_old HO_151001.out hb) (Kd.R_base ho0)) (Kd.R_base ho1)) (Kd.R_base ho2)) (fun _ h_ => h_.1))
                have n5_ := mk0 (Kd.R_mono (Kd.R_told (Kd.R_told (Kd.R_told (Kd.R_old HO_151002.out hb) (Kd.R_base ho0)) (Kd.R_base ho1)) (Kd.R_base ho2)) (fun _ h_ => h_.1))
                have n6_ := mk0 (Kd.R_lower (Kd.R_new' (Kd.R_new' (Kd.R_new' (Kd.R_new' (Kd.R_new' (Kd.R_new' ho0 (Kd.R_lt HO_141000.out)) (Kd.R_lt HO_141001.out)) (Kd.R_lt HO_141002.out)) (Kd.R_lt HO_151000.out)) (Kd.R_lt HO_151001.out)) (Kd.R_lt HO_151002.out)) (below_size (by repeat (first | exact HB.out | apply below_alloc | apply pw_below_drewN | apply below_drew1 | refine below_set ?_ GE107.out | refine below_set ?_ GE108.out | refine below_set ?_ GE140.out | refine below_set ?_ GE150.out))))
                have n7_ := mk0 (Kd.R_lower (Kd.R_new' (Kd.R_new' (Kd.R_new' (Kd.R_new' (Kd.R_new' (Kd.R_new' ho1 (Kd.R_lt HO_141000.out)) (Kd.R_lt HO_141001.out)) (Kd.R_lt HO_141002.out)) (Kd.R_lt HO_151000.out)) (Kd.R_lt HO_151001.out)) (Kd.R_lt HO_151002.out)) (below_size (by repeat (first | exact HB.out | apply below_alloc | apply pw_below_drewN | apply below_drew1 | refine below_set ?_ GE107.out | refine below_set ?_ GE108.out | refine below_set ?_ GE140.out | refine below_set ?_ GE150.out))))
                have n8_ := mk0 (Kd.R_lower (Kd.R_new' (Kd.R_new' (Kd.R_new' (Kd.R_new' (Kd.R_new' (Kd.R_new' ho2 (Kd.R_lt HO_141000.out)) (Kd.R_lt HO_141001.out)) (Kd.R_lt HO_141002.out)) (Kd.R_lt HO_151000.out)) (Kd.R_lt HO_151001.out)) (Kd.R_lt HO_151002.out)) (below_size (by repeat (first | exact HB.out | apply below_alloc | apply pw_below_drewN | apply below_drew1 | refine below_set ?_ GE107.out | refine below_set ?_ GE108.out | refine below_set ?_ GE140.out | refine below_set ?_ GE150.out))))
                have n9_ := mk0 (blk_below (g := gb107) (o := .cells #[.slice A0_0 l0_0.length c0_0, .slice A0_1 l0_1.length c0_1, .slice A0_2 l0_2.length c0_2] 30 (0, 0)) (by (with_reducible repeat (first | refine blk_drewN ?_ _ | refine blk_drew ?_ | refine blk_alloc ?_ _)); exact BK107.out) hb)
                have n10_ := mk0 (blk_below (g := gb108) (o := .cells #[.slice A1_0 l1_0.length c1_0, .slice A1_1 l1_1.length c1_1, .slice A1_2 l1_2.length c1_2] 30 (0, 0)) (by (with_reducible repeat (first | refine blk_drewN ?_ _ | refine blk_drew ?_ | refine blk_alloc ?_ _)); exact BK108.out) hb)
                have n11_ := mk0 (blk_below (g := gb140) (o := .cells #[.slice Ao46 t131.length co46, .slice Ao50 t134.length co50, .slice Ao51 t137.length co51] 34 (0, 0)) (by (with_reducible repeat (first | refine blk_drewN ?_ _ | refine blk_drew ?_ | refine blk_alloc ?_ _)); exact BK140.out) hb)
                have n12_ := mk0 (blk_below (g := gb150) (o := .cells #[.slice Ao55 t141.length co55, .slice Ao60 t144.length co60, .slice Ao61 t147.length co61] 34 (0, 0)) (by (with_reducible repeat (first | refine blk_drewN ?_ _ | refine blk_drew ?_ | refine blk_alloc ?_ _)); exact BK150.out) hb)
                have n13_ := mk0 (below_step (by repeat (first | exact HB.out | apply below_alloc | apply pw_below_drewN | apply below_drew1 | refine below_set ?_ GE107.out | refine below_set ?_ GE108.out | refine below_set ?_ GE140.out | refine below_set ?_ GE150.out)) hb)
                clear HO_141000
                clear HO_141001
                clear HO_141002
                clear HO_151000
                clear HO_151001
                clear HO_151002
                clear BK107
                clear BK108
                clear BK140
                clear BK150
                clear HB
                have HO_141000 := n0_
                have HO_141001 := n1_
                have HO_141002 := n2_
                have HO_151000 := n3_
                have HO_151001 := n4_
                have HO_151002 := n5_
                have HO155 := n6_
                have HO158 := n7_
                have HO161 := n8_
                have BK107 := n9_
                have BK108 := n10_
                have BK140 := n11_
                have BK150 := n12_
                have HB := n13_
                clear n0_ n1_ n2_ n3_ n4_ n5_ n6_ n7_ n8_ n9_ n10_ n11_ n12_ n13_
                (try clear hb)
                (try clear hb2)
                (try clear hk)
                (try clear hi)
                (try clear ho0)
                (try clear ho1)
                (try clear ho2)
                obtain ⟨Ao86, co86, eo86⟩ := Kd.R_slice HO155.out
                (first | subst eo86 | (injection eo86 with f1_ f2_ f3_; have f4_ := f1_.symm; have f5_ := f3_.symm; clear f1_ f2_ f3_; subst f4_; subst f5_))
                obtain ⟨Ao87, co87, eo87⟩ := Kd.R_slice HO158.out
                (first | subst eo87 | (injection eo87 with f1_ f2_ f3_; have f4_ := f1_.symm; have f5_ := f3_.symm; clear f1_ f2_ f3_; subst f4_; subst f5_))
                obtain ⟨Ao88, co88, eo88⟩ := Kd.R_slice HO161.out
                (first | subst eo88 | (injection eo88 with f1_ f2_ f3_; have f4_ := f1_.symm; have f5_ := f3_.symm; clear f1_ f2_ f3_; subst f4_; subst f5_))
                refine hK.out _ _ ⟨(blk_cell BK140.out 0).trans rfl, (blk_cell BK140.out 1).trans rfl, (blk_cell BK140.out 2).trans rfl, (blk_cell BK107.out 0).trans rfl, (blk_cell BK107.out 1).trans rfl, (blk_cell BK107.out 2).trans rfl⟩ (fun hHeld => ?_)
                clear hK K
                refine norm_ (a' := ?_) ?_ ?_
                rotate_left
                · show Act.put _ (some 50) _ = _
                  simp only [Act.put, List.setIfInBounds_toArray, List.set_cons_zero, List.set_cons_succ, i64_w, i32_w]
                  rfl
                refine one_ (i := 3) (N := some 51) #[true, true, true, true, false] rfl rfl (by kernel_rfl) (by decide) (fun K hK => ?_)
                refine goes_ Try.func25 (by kernel_rfl) rfl #[.agg #[.slice Ao46 t131.length co46, .slice Ao50 t134.length co50, .slice Ao51 t137.length co51], .agg #[.slice Ao86 t153.length co86, .slice Ao87 t156.length co87, .slice Ao88 t159.length co88]] (by rfl) rfl rfl (by (try simp only [List.map_toArray, List.map_cons, List.map_nil]); rfl) ?_
                with_reducible refine (laws_eqGauss.calls kj24 _ _ t131 _ _ t134 _ _ t137 _ _ t153 _ _ t156 _ _ t159 true _ ?side1 ?side2 ?side3 ?side4 ?side5 ?side6 ?side7 ?side8 ?side9 ?side10 ?side11 ?side12 A67.out).mono ?_
                (case side1 => exact (Kd.R_reads' HO_141000.out).2.2)
                (case side2 => exact (Kd.R_reads' HO_141000.out).2.1)
                (case side3 => exact (Kd.R_reads' HO_141001.out).2.2)
                (case side4 => exact (Kd.R_reads' HO_141001.out).2.1)
                (case side5 => exact (Kd.R_reads' HO_141002.out).2.2)
                (case side6 => exact (Kd.R_reads' HO_141002.out).2.1)
                (case side7 => exact (Kd.R_reads' HO155.out).2.2)
                (case side8 => exact (Kd.R_reads' HO155.out).2.1)
                (case side9 => exact (Kd.R_reads' HO158.out).2.2)
                (case side10 => exact (Kd.R_reads' HO158.out).2.1)
                (case side11 => exact (Kd.R_reads' HO161.out).2.2)
                (case side12 => exact (Kd.R_reads' HO161.out).2.1)
                rintro e w89 ⟨rfl, hb⟩
                refine ⟨_, rfl, ?_⟩
                have n0_ := mk0 (Kd.R_below HO_141000.out hb)
                have n1_ := mk0 (Kd.R_below HO_141001.out hb)
                have n2_ := mk0 (Kd.R_below HO_141002.out hb)
                have n3_ := mk0 (Kd.R_below HO_151000.out hb)
                have n4_ := mk0 (Kd.R_below HO_151001.out hb)
                have n5_ := mk0 (Kd.R_below HO_151002.out hb)
                have n6_ := mk0 (Kd.R_below HO155.out hb)
                have n7_ := mk0 (Kd.R_below HO158.out hb)
                have n8_ := mk0 (Kd.R_below HO161.out hb)
                have n9_ := mk0 (blk_below (g := gb107) (o := .cells #[.slice A0_0 l0_0.length c0_0, .slice A0_1 l0_1.length c0_1, .slice A0_2 l0_2.length c0_2] 30 (0, 0)) (by (with_reducible repeat (first | refine blk_drewN ?_ _ | refine blk_drew ?_ | refine blk_alloc ?_ _)); exact BK107.out) hb)
                have n10_ := mk0 (blk_below (g := gb108) (o := .cells #[.slice A1_0 l1_0.length c1_0, .slice A1_1 l1_1.length c1_1, .slice A1_2 l1_2.length c1_2] 30 (0, 0)) (by (with_reducible repeat (first | refine blk_drewN ?_ _ | refine blk_drew ?_ | refine blk_alloc ?_ _)); exact BK108.out) hb)
                have n11_ := mk0 (blk_below (g := gb140) (o := .cells #[.slice Ao46 t131.length co46, .slice Ao50 t134.length co50, .slice Ao51 t137.length co51] 34 (0, 0)) (by (with_reducible repeat (first | refine blk_drewN ?_ _ | refine blk_drew ?_ | refine blk_alloc ?_ _)); exact BK140.out) hb)
                have n12_ := mk0 (blk_below (g := gb150) (o := .cells #[.slice Ao55 t141.length co55, .slice Ao60 t144.length co60, .slice Ao61 t147.length co61] 34 (0, 0)) (by (with_reducible repeat (first | refine blk_drewN ?_ _ | refine blk_drew ?_ | refine blk_alloc ?_ _)); exact BK150.out) hb)
                have n13_ := mk0 (below_step (by repeat (first | exact HB.out | apply below_alloc | apply pw_below_drewN | apply below_drew1 | refine below_set ?_ GE107.out | refine below_set ?_ GE108.out | refine below_set ?_ GE140.out | refine below_set ?_ GE150.out)) hb)
                clear HO_141000
                clear HO_141001
                clear HO_141002
                clear HO_151000
                clear HO_151001
                clear HO_151002
                clear HO155
                clear HO158
                clear HO161
                clear BK107
                clear BK108
                clear BK140
                clear BK150
                clear HB
                have HO_141000 := n0_
                have HO_141001 := n1_
                have HO_141002 := n2_
                have HO_151000 := n3_
                have HO_151001 := n4_
                have HO_151002 := n5_
                have HO155 := n6_
                have HO158 := n7_
                have HO161 := n8_
                have BK107 := n9_
                have BK108 := n10_
                have BK140 := n11_
                have BK150 := n12_
                have HB := n13_
                clear n0_ n1_ n2_ n3_ n4_ n5_ n6_ n7_ n8_ n9_ n10_ n11_ n12_ n13_
                (try clear hb)
                (try clear hb2)
                (try clear hk)
                (try clear hi)
                refine hK.out _ _ ⟨(blk_cell BK140.out 0).trans rfl, (blk_cell BK140.out 1).trans rfl, (blk_cell BK140.out 2).trans rfl, (blk_cell BK107.out 0).trans rfl, (blk_cell BK107.out 1).trans rfl, (blk_cell BK107.out 2).trans rfl⟩ (fun hHeld => ?_)
                clear hK K
                refine norm_ (a' := ?_) ?_ ?_
                rotate_left
                · show Act.put _ (some 51) _ = _
                  simp only [Act.put, List.setIfInBounds_toArray, List.set_cons_zero, List.set_cons_succ, i64_w, i32_w]
                  rfl
                refine pure_ (i := 4) (N := some 52) (v := ?_) (a' := ?_) #[true, true, true, true, true] rfl rfl (by kernel_rfl) (fun _ _ _ h => h) (Or.inl ⟨by rfl, ?_⟩) ?_ ?_
                rotate_left
                · intro w'
                  go_simp
                  with_reducible rfl
                rotate_left
                · simp only [Act.put, List.setIfInBounds_toArray, List.set_cons_zero, List.set_cons_succ, i64_w, i32_w]
                  rfl
                refine done_ (by kernel_rfl) ?_
                try go_wp2
                have n0_ := mk0 (Kd.R_drew HO_141000.out)
                have n1_ := mk0 (Kd.R_drew HO_141001.out)
                have n2_ := mk0 (Kd.R_drew HO_141002.out)
                have n3_ := mk0 (Kd.R_drew HO_151000.out)
                have n4_ := mk0 (Kd.R_drew HO_151001.out)
                have n5_ := mk0 (Kd.R_drew HO_151002.out)
                have n6_ := mk0 (Kd.R_drew HO155.out)
                have n7_ := mk0 (Kd.R_drew HO158.out)
                have n8_ := mk0 (Kd.R_drew HO161.out)
                have n9_ := mk0 (blk_drew BK107.out)
                have n10_ := mk0 (blk_drew BK108.out)
                have n11_ := mk0 (blk_drew BK140.out)
                have n12_ := mk0 (blk_drew BK150.out)
                have n13_ := mk0 (below_drew1 HB.out)
                clear HO_141000
                clear HO_141001
                clear HO_141002
                clear HO_151000
                clear HO_151001
                clear HO_151002
                clear HO155
                clear HO158
                clear HO161
                clear BK107
                clear BK108
                clear BK140
                clear BK150
                clear HB
                have HO_141000 := n0_
                have HO_141001 := n1_
                have HO_141002 := n2_
                have HO_151000 := n3_
                have HO_151001 := n4_
                have HO_151002 := n5_
                have HO155 := n6_
                have HO158 := n7_
                have HO161 := n8_
                have BK107 := n9_
                have BK108 := n10_
                have BK140 := n11_
                have BK150 := n12_
                have HB := n13_
                clear n0_ n1_ n2_ n3_ n4_ n5_ n6_ n7_ n8_ n9_ n10_ n11_ n12_ n13_
                refine start_ (n := 5) (S := fun w' => w'.cell? ⟨gb150, 0, none⟩ = some (.slice Ao55 t141.length co55) ∧ w'.cell? ⟨gb150, 1, none⟩ = some (.slice Ao60 t144.length co60) ∧ w'.cell? ⟨gb150, 2, none⟩ = some (.slice Ao61 t147.length co61) ∧ w'.cell? ⟨gb108, 0, none⟩ = some (.slice A1_0 l1_0.length c1_0) ∧ w'.cell? ⟨gb108, 1, none⟩ = some (.slice A1_1 l1_1.length c1_1) ∧ w'.cell? ⟨gb108, 2, none⟩ = some (.slice A1_2 l1_2.length c1_2)) (ds := []) #[false, false, false, false, false] (by kernel_rfl) rfl rfl ⟨(blk_cell BK150.out 0).trans rfl, (blk_cell BK150.out 1).trans rfl, (blk_cell BK150.out 2).trans rfl, (blk_cell BK108.out 0).trans rfl, (blk_cell BK108.out 1).trans rfl, (blk_cell BK108.out 2).trans rfl⟩ (fun hHeld => ?_)
                generalize w89.drew = w90 at HO_141000 HO_141001 HO_141002 HO_151000 HO_151001 HO_151002 HO155 HO158 HO161 BK107 BK108 BK140 BK150 HB hHeld ⊢
                refine take_ (i := 0) (N := some 53) (v := ?_) (a' := ?_) #[true, false, false, false, false] rfl rfl (by kernel_rfl) (fun _ _ _ h => h) (Or.inl ⟨by rfl, ?_⟩) hHeld ?_ ?_
                rotate_left
                · rintro w' ⟨s0, s1, s2, s3, s4, s5⟩
                  go_simp
                  with_reducible rfl
                rotate_left
                · simp only [Act.put, List.setIfInBounds_toArray, List.set_cons_zero, List.set_cons_succ, i64_w, i32_w]
                  rfl
                refine take_ (i := 1) (N := some 54) (v := ?_) (a' := ?_) #[true, true, false, false, false] rfl rfl (by kernel_rfl) (fun _ _ _ h => h) (Or.inl ⟨by rfl, ?_⟩) hHeld ?_ ?_
                rotate_left
                · rintro w' ⟨s0, s1, s2, s3, s4, s5⟩
                  go_simp
                  with_reducible rfl
                rotate_left
                · simp only [Act.put, List.setIfInBounds_toArray, List.set_cons_zero, List.set_cons_succ, i64_w, i32_w]
                  rfl
                refine one_ (i := 2) (N := some 55) #[true, true, true, false, false] rfl rfl (by kernel_rfl) (by decide) (fun K hK => ?_)
                refine goes_ Try.func23 (by kernel_rfl) rfl #[.agg #[.slice A1_0 l1_0.length c1_0, .slice A1_1 l1_1.length c1_1, .slice A1_2 l1_2.length c1_2]] (by rfl) rfl rfl (by (try simp only [List.map_toArray, List.map_cons, List.map_nil]); rfl) ?_
                with_reducible refine (laws_toGauss.calls kj24 _ _ l1_0 _ _ l1_1 _ _ l1_2 t163 t166 t169 _ ?side1 ?side2 ?side3 ?side4 ?side5 ?side6 A69.out).mono ?_
                (case side1 => exact (Kd.C_below HR1_0.out HB.out))
                (case side2 => exact HC1_0.out)
                (case side3 => exact (Kd.C_below HR1_1.out HB.out))
                (case side4 => exact HC1_1.out)
                (case side5 => exact (Kd.C_below HR1_2.out HB.out))
                (case side6 => exact HC1_2.out)
                rintro e w91 ⟨v164, v167, v170, rfl, ho0, ho1, ho2, hb⟩
                refine ⟨_, rfl, ?_⟩
                have n0_ := mk0 (Kd.R_mono (Kd.R_told (Kd.R_told (Kd.R_told (Kd.R_old HO_141000.out hb) (Kd.R_base ho0)) (Kd.R_base ho1)) (Kd.R_base ho2)) (fun _ h_ => h_.1))
                have n1_ := mk0 (Kd.R_mono (Kd.R_told (Kd.R_told (Kd.R_told (Kd.R_old HO_141001.out hb) (Kd.R_base ho0)) (Kd.R_base ho1)) (Kd.R_base ho2)) (fun _ h_ => h_.1))
                have n2_ := mk0 (Kd.R_mono (Kd.R_told (Kd.R_told (Kd.R_told (Kd.R_old HO_141002.out hb) (Kd.R_base ho0)) (Kd.R_base ho1)) (Kd.R_base ho2)) (fun _ h_ => h_.1))
                have n3_ := mk0 (Kd.R_mono (Kd.R_told (Kd.R_told (Kd.R_told (Kd.R_old HO_151000.out hb) (Kd.R_base ho0)) (Kd.R_base ho1)) (Kd.R_base ho2)) (fun _ h_ => h_.1))
                have n4_ := mk0 (Kd.R_mono (Kd.R_told (Kd.R_told (Kd.R_told (Kd.R_old HO_151001.out hb) (Kd.R_base ho0)) (Kd.R_base ho1)) (Kd.R_base ho2)) (fun _ h_ => h_.1))
                have n5_ := mk0 (Kd.R_mono (Kd.R_told (Kd.R_told (Kd.R_told (Kd.R_old HO_151002.out hb) (Kd.R_base ho0)) (Kd.R_base ho1)) (Kd.R_base ho2)) (fun _ h_ => h_.1))
                have n6_ := mk0 (Kd.R_mono (Kd.R_told (Kd.R_told (Kd.R_told (Kd.R_old HO155.out hb) (Kd.R_base ho0)) (Kd.R_base ho1)) (Kd.R_base ho2)) (fun _ h_ => h_.1))
                have n7_ := mk0 (Kd.R_mono (Kd.R_told (Kd.R_told (Kd.R_told (Kd.R_old HO158.out hb) (Kd.R_base ho0)) (Kd.R_base ho1)) (Kd.R_base ho2)) (fun _ h_ => h_.1))
                have n8_ := mk0 (Kd.R_mono (Kd.R_told (Kd.R_told (Kd.R_told (Kd.R_old HO161.out hb) (Kd.R_base ho0)) (Kd.R_base ho1)) (Kd.R_base ho2)) (fun _ h_ => h_.1))
                have n9_ := mk0 (Kd.R_lower (Kd.R_new' (Kd.R_new' (Kd.R_new' (Kd.R_new' (Kd.R_new' (Kd.R_new' (Kd.R_new' (Kd.R_new' (Kd.R_new' ho0 (Kd.R_lt HO_141000.out)) (Kd.R_lt HO_141001.out)) (Kd.R_lt HO_141002.out)) (Kd.R_lt HO_151000.out)) (Kd.R_lt HO_151001.out)) (Kd.R_lt HO_151002.out)) (Kd.R_lt HO155.out)) (Kd.R_lt HO158.out)) (Kd.R_lt HO161.out)) (below_size (by repeat (first | exact HB.out | apply below_alloc | apply pw_below_drewN | apply below_drew1 | refine below_set ?_ GE107.out | refine below_set ?_ GE108.out | refine below_set ?_ GE140.out | refine below_set ?_ GE150.out))))
                have n10_ := mk0 (Kd.R_lower (Kd.R_new' (Kd.R_new' (Kd.R_new' (Kd.R_new' (Kd.R_new' (Kd.R_new' (Kd.R_new' (Kd.R_new' (Kd.R_new' ho1 (Kd.R_lt HO_141000.out)) (Kd.R_lt HO_141001.out)) (Kd.R_lt HO_141002.out)) (Kd.R_lt HO_151000.out)) (Kd.R_lt HO_151001.out)) (Kd.R_lt HO_151002.out)) (Kd.R_lt HO155.out)) (Kd.R_lt HO158.out)) (Kd.R_lt HO161.out)) (below_size (by repeat (first | exact HB.out | apply below_alloc | apply pw_below_drewN | apply below_drew1 | refine below_set ?_ GE107.out | refine below_set ?_ GE108.out | refine below_set ?_ GE140.out | refine below_set ?_ GE150.out))))
                have n11_ := mk0 (Kd.R_lower (Kd.R_new' (Kd.R_new' (Kd.R_new' (Kd.R_new' (Kd.R_new' (Kd.R_new' (Kd.R_new' (Kd.R_new' (Kd.R_new' ho2 (Kd.R_lt HO_141000.out)) (Kd.R_lt HO_141001.out)) (Kd.R_lt HO_141002.out)) (Kd.R_lt HO_151000.out)) (Kd.R_lt HO_151001.out)) (Kd.R_lt HO_151002.out)) (Kd.R_lt HO155.out)) (Kd.R_lt HO158.out)) (Kd.R_lt HO161.out)) (below_size (by repeat (first | exact HB.out | apply below_alloc | apply pw_below_drewN | apply below_drew1 | refine below_set ?_ GE107.out | refine below_set ?_ GE108.out | refine below_set ?_ GE140.out | refine below_set ?_ GE150.out))))
                have n12_ := mk0 (blk_below (g := gb107) (o := .cells #[.slice A0_0 l0_0.length c0_0, .slice A0_1 l0_1.length c0_1, .slice A0_2 l0_2.length c0_2] 30 (0, 0)) (by (with_reducible repeat (first | refine blk_drewN ?_ _ | refine blk_drew ?_ | refine blk_alloc ?_ _)); exact BK107.out) hb)
                have n13_ := mk0 (blk_below (g := gb108) (o := .cells #[.slice A1_0 l1_0.length c1_0, .slice A1_1 l1_1.length c1_1, .slice A1_2 l1_2.length c1_2] 30 (0, 0)) (by (with_reducible repeat (first | refine blk_drewN ?_ _ | refine blk_drew ?_ | refine blk_alloc ?_ _)); exact BK108.out) hb)
                have n14_ := mk0 (blk_below (g := gb140) (o := .cells #[.slice Ao46 t131.length co46, .slice Ao50 t134.length co50, .slice Ao51 t137.length co51] 34 (0, 0)) (by (with_reducible repeat (first | refine blk_drewN ?_ _ | refine blk_drew ?_ | refine blk_alloc ?_ _)); exact BK140.out) hb)
                have n15_ := mk0 (blk_below (g := gb150) (o := .cells #[.slice Ao55 t141.length co55, .slice Ao60 t144.length co60, .slice Ao61 t147.length co61] 34 (0, 0)) (by (with_reducible repeat (first | refine blk_drewN ?_ _ | refine blk_drew ?_ | refine blk_alloc ?_ _)); exact BK150.out) hb)
                have n16_ := mk0 (below_step (by repeat (first | exact HB.out | apply below_alloc | apply pw_below_drewN | apply below_drew1 | refine below_set ?_ GE107.out | refine below_set ?_ GE108.out | refine below_set ?_ GE140.out | refine below_set ?_ GE150.out)) hb)
                clear HO_141000
                clear HO_141001
                clear HO_141002
                clear HO_151000
                clear HO_151001
                clear HO_151002
                clear HO155
                clear HO158
                clear HO161
                clear BK107
                clear BK108
                clear BK140
                clear BK150
                clear HB
                have HO_141000 := n0_
                have HO_141001 := n1_
                have HO_141002 := n2_
                have HO_151000 := n3_
                have HO_151001 := n4_
                have HO_151002 := n5_
                have HO155 := n6_
                have HO158 := n7_
                have HO161 := n8_
                have HO165 := n9_
                have HO168 := n10_
                have HO171 := n11_
                have BK107 := n12_
                have BK108 := n13_
                have BK140 := n14_
                have BK150 := n15_
                have HB := n16_
                clear n0_ n1_ n2_ n3_ n4_ n5_ n6_ n7_ n8_ n9_ n10_ n11_ n12_ n13_ n14_ n15_ n16_
                (try clear hb)
                (try clear hb2)
                (try clear hk)
                (try clear hi)
                (try clear ho0)
                (try clear ho1)
                (try clear ho2)
                obtain ⟨Ao92, co92, eo92⟩ := Kd.R_slice HO165.out
                (first | subst eo92 | (injection eo92 with f1_ f2_ f3_; have f4_ := f1_.symm; have f5_ := f3_.symm; clear f1_ f2_ f3_; subst f4_; subst f5_))
                obtain ⟨Ao93, co93, eo93⟩ := Kd.R_slice HO168.out
                (first | subst eo93 | (injection eo93 with f1_ f2_ f3_; have f4_ := f1_.symm; have f5_ := f3_.symm; clear f1_ f2_ f3_; subst f4_; subst f5_))
                obtain ⟨Ao94, co94, eo94⟩ := Kd.R_slice HO171.out
                (first | subst eo94 | (injection eo94 with f1_ f2_ f3_; have f4_ := f1_.symm; have f5_ := f3_.symm; clear f1_ f2_ f3_; subst f4_; subst f5_))
                refine hK.out _ _ ⟨(blk_cell BK150.out 0).trans rfl, (blk_cell BK150.out 1).trans rfl, (blk_cell BK150.out 2).trans rfl, (blk_cell BK108.out 0).trans rfl, (blk_cell BK108.out 1).trans rfl, (blk_cell BK108.out 2).trans rfl⟩ (fun hHeld => ?_)
                clear hK K
                refine norm_ (a' := ?_) ?_ ?_
                rotate_left
                · show Act.put _ (some 55) _ = _
                  simp only [Act.put, List.setIfInBounds_toArray, List.set_cons_zero, List.set_cons_succ, i64_w, i32_w]
                  rfl
                refine one_ (i := 3) (N := some 56) #[true, true, true, true, false] rfl rfl (by kernel_rfl) (by decide) (fun K hK => ?_)
                refine goes_ Try.func25 (by kernel_rfl) rfl #[.agg #[.slice Ao55 t141.length co55, .slice Ao60 t144.length co60, .slice Ao61 t147.length co61], .agg #[.slice Ao92 t163.length co92, .slice Ao93 t166.length co93, .slice Ao94 t169.length co94]] (by rfl) rfl rfl (by (try simp only [List.map_toArray, List.map_cons, List.map_nil]); rfl) ?_
                with_reducible refine (laws_eqGauss.calls kj24 _ _ t141 _ _ t144 _ _ t147 _ _ t163 _ _ t166 _ _ t169 false _ ?side1 ?side2 ?side3 ?side4 ?side5 ?side6 ?side7 ?side8 ?side9 ?side10 ?side11 ?side12 A70.out).mono ?_
                (case side1 => exact (Kd.R_reads' HO_151000.out).2.2)
                (case side2 => exact (Kd.R_reads' HO_151000.out).2.1)
                (case side3 => exact (Kd.R_reads' HO_151001.out).2.2)
                (case side4 => exact (Kd.R_reads' HO_151001.out).2.1)
                (case side5 => exact (Kd.R_reads' HO_151002.out).2.2)
                (case side6 => exact (Kd.R_reads' HO_151002.out).2.1)
                (case side7 => exact (Kd.R_reads' HO165.out).2.2)
                (case side8 => exact (Kd.R_reads' HO165.out).2.1)
                (case side9 => exact (Kd.R_reads' HO168.out).2.2)
                (case side10 => exact (Kd.R_reads' HO168.out).2.1)
                (case side11 => exact (Kd.R_reads' HO171.out).2.2)
                (case side12 => exact (Kd.R_reads' HO171.out).2.1)
                rintro e w95 ⟨rfl, hb⟩
                refine ⟨_, rfl, ?_⟩
                have n0_ := mk0 (Kd.R_below HO_141000.out hb)
                have n1_ := mk0 (Kd.R_below HO_141001.out hb)
                have n2_ := mk0 (Kd.R_below HO_141002.out hb)
                have n3_ := mk0 (Kd.R_below HO_151000.out hb)
                have n4_ := mk0 (Kd.R_below HO_151001.out hb)
                have n5_ := mk0 (Kd.R_below HO_151002.out hb)
                have n6_ := mk0 (Kd.R_below HO155.out hb)
                have n7_ := mk0 (Kd.R_below HO158.out hb)
                have n8_ := mk0 (Kd.R_below HO161.out hb)
                have n9_ := mk0 (Kd.R_below HO165.out hb)
                have n10_ := mk0 (Kd.R_below HO168.out hb)
                have n11_ := mk0 (Kd.R_below HO171.out hb)
                have n12_ := mk0 (blk_below (g := gb107) (o := .cells #[.slice A0_0 l0_0.length c0_0, .slice A0_1 l0_1.length c0_1, .slice A0_2 l0_2.length c0_2] 30 (0, 0)) (by (with_reducible repeat (first | refine blk_drewN ?_ _ | refine blk_drew ?_ | refine blk_alloc ?_ _)); exact BK107.out) hb)
                have n13_ := mk0 (blk_below (g := gb108) (o := .cells #[.slice A1_0 l1_0.length c1_0, .slice A1_1 l1_1.length c1_1, .slice A1_2 l1_2.length c1_2] 30 (0, 0)) (by (with_reducible repeat (first | refine blk_drewN ?_ _ | refine blk_drew ?_ | refine blk_alloc ?_ _)); exact BK108.out) hb)
                have n14_ := mk0 (blk_below (g := gb140) (o := .cells #[.slice Ao46 t131.length co46, .slice Ao50 t134.length co50, .slice Ao51 t137.length co51] 34 (0, 0)) (by (with_reducible repeat (first | refine blk_drewN ?_ _ | refine blk_drew ?_ | refine blk_alloc ?_ _)); exact BK140.out) hb)
                have n15_ := mk0 (blk_below (g := gb150) (o := .cells #[.slice Ao55 t141.length co55, .slice Ao60 t144.length co60, .slice Ao61 t147.length co61] 34 (0, 0)) (by (with_reducible repeat (first | refine blk_drewN ?_ _ | refine blk_drew ?_ | refine blk_alloc ?_ _)); exact BK150.out) hb)
                have n16_ := mk0 (below_step (by repeat (first | exact HB.out | apply below_alloc | apply pw_below_drewN | apply below_drew1 | refine below_set ?_ GE107.out | refine below_set ?_ GE108.out | refine below_set ?_ GE140.out | refine below_set ?_ GE150.out)) hb)
                clear HO_141000
                clear HO_141001
                clear HO_141002
                clear HO_151000
                clear HO_151001
                clear HO_151002
                clear HO155
                clear HO158
                clear HO161
                clear HO165
                clear HO168
                clear HO171
                clear BK107
                clear BK108
                clear BK140
                clear BK150
                clear HB
                have HO_141000 := n0_
                have HO_141001 := n1_
                have HO_141002 := n2_
                have HO_151000 := n3_
                have HO_151001 := n4_
                have HO_151002 := n5_
                have HO155 := n6_
                have HO158 := n7_
                have HO161 := n8_
                have HO165 := n9_
                have HO168 := n10_
                have HO171 := n11_
                have BK107 := n12_
                have BK108 := n13_
                have BK140 := n14_
                have BK150 := n15_
                have HB := n16_
                clear n0_ n1_ n2_ n3_ n4_ n5_ n6_ n7_ n8_ n9_ n10_ n11_ n12_ n13_ n14_ n15_ n16_
                (try clear hb)
                (try clear hb2)
                (try clear hk)
                (try clear hi)
                refine hK.out _ _ ⟨(blk_cell BK150.out 0).trans rfl, (blk_cell BK150.out 1).trans rfl, (blk_cell BK150.out 2).trans rfl, (blk_cell BK108.out 0).trans rfl, (blk_cell BK108.out 1).trans rfl, (blk_cell BK108.out 2).trans rfl⟩ (fun hHeld => ?_)
                clear hK K
                refine norm_ (a' := ?_) ?_ ?_
                rotate_left
                · show Act.put _ (some 56) _ = _
                  simp only [Act.put, List.setIfInBounds_toArray, List.set_cons_zero, List.set_cons_succ, i64_w, i32_w]
                  rfl
                refine pure_ (i := 4) (N := some 57) (v := ?_) (a' := ?_) #[true, true, true, true, true] rfl rfl (by kernel_rfl) (fun _ _ _ h => h) (Or.inl ⟨by rfl, ?_⟩) ?_ ?_
                rotate_left
                · intro w'
                  go_simp
                  with_reducible rfl
                rotate_left
                · simp only [Act.put, List.setIfInBounds_toArray, List.set_cons_zero, List.set_cons_succ, i64_w, i32_w]
                  rfl
                refine done_ (by kernel_rfl) ?_
                try go_wp2
                go_ret
                exact ⟨by first | rfl | (simp [errW_none, errW_some] <;> rfl) | (simp [*, errW_none, errW_some] <;> rfl), by repeat (first | exact HB.out | apply below_alloc | apply pw_below_drewN | apply below_drew1 | refine below_set ?_ GE107.out | refine below_set ?_ GE108.out | refine below_set ?_ GE140.out | refine below_set ?_ GE150.out)⟩
            · replace c68 := Bool.eq_false_iff.mpr c68
              subst c68
              have H1 : (some false) = some r := by rw [if_neg (show ¬ (false = true) by decide)] at H; exact H
              clear H
              have H := H1
              clear H1
              obtain rfl := Option.some.inj H
              try go_wp2
              have n0_ := mk0 (Kd.R_drew HO_141000.out)
              have n1_ := mk0 (Kd.R_drew HO_141001.out)
              have n2_ := mk0 (Kd.R_drew HO_141002.out)
              have n3_ := mk0 (Kd.R_drew HO_151000.out)
              have n4_ := mk0 (Kd.R_drew HO_151001.out)
              have n5_ := mk0 (Kd.R_drew HO_151002.out)
              have n6_ := mk0 (blk_drew BK107.out)
              have n7_ := mk0 (blk_drew BK108.out)
              have n8_ := mk0 (blk_drew BK140.out)
              have n9_ := mk0 (blk_drew BK150.out)
              have n10_ := mk0 (below_drew1 HB.out)
              clear HO_141000
              clear HO_141001
              clear HO_141002
              clear HO_151000
              clear HO_151001
              clear HO_151002
              clear BK107
              clear BK108
              clear BK140
              clear BK150
              clear HB
              have HO_141000 := n0_
              have HO_141001 := n1_
              have HO_141002 := n2_
              have HO_151000 := n3_
              have HO_151001 := n4_
              have HO_151002 := n5_
              have BK107 := n6_
              have BK108 := n7_
              have BK140 := n8_
              have BK150 := n9_
              have HB := n10_
              clear n0_ n1_ n2_ n3_ n4_ n5_ n6_ n7_ n8_ n9_ n10_
              refine start_ (n := 5) (S := fun w' => w'.cell? ⟨gb140, 0, none⟩ = some (.slice Ao46 t131.length co46) ∧ w'.cell? ⟨gb140, 1, none⟩ = some (.slice Ao50 t134.length co50) ∧ w'.cell? ⟨gb140, 2, none⟩ = some (.slice Ao51 t137.length co51) ∧ w'.cell? ⟨gb107, 0, none⟩ = some (.slice A0_0 l0_0.length c0_0) ∧ w'.cell? ⟨gb107, 1, none⟩ = some (.slice A0_1 l0_1.length c0_1) ∧ w'.cell? ⟨gb107, 2, none⟩ = some (.slice A0_2 l0_2.length c0_2)) (ds := []) #[false, false, false, false, false] (by kernel_rfl) rfl rfl ⟨(blk_cell BK140.out 0).trans rfl, (blk_cell BK140.out 1).trans rfl, (blk_cell BK140.out 2).trans rfl, (blk_cell BK107.out 0).trans rfl, (blk_cell BK107.out 1).trans rfl, (blk_cell BK107.out 2).trans rfl⟩ (fun hHeld => ?_)
              generalize wc.drew = w96 at HO_141000 HO_141001 HO_141002 HO_151000 HO_151001 HO_151002 BK107 BK108 BK140 BK150 HB hHeld ⊢
              refine take_ (i := 0) (N := some 48) (v := ?_) (a' := ?_) #[true, false, false, false, false] rfl rfl (by kernel_rfl) (fun _ _ _ h => h) (Or.inl ⟨by rfl, ?_⟩) hHeld ?_ ?_
              rotate_left
              · rintro w' ⟨s0, s1, s2, s3, s4, s5⟩
                go_simp
                with_reducible rfl
              rotate_left
              · simp only [Act.put, List.setIfInBounds_toArray, List.set_cons_zero, List.set_cons_succ, i64_w, i32_w]
                rfl
              refine take_ (i := 1) (N := some 49) (v := ?_) (a' := ?_) #[true, true, false, false, false] rfl rfl (by kernel_rfl) (fun _ _ _ h => h) (Or.inl ⟨by rfl, ?_⟩) hHeld ?_ ?_
              rotate_left
              · rintro w' ⟨s0, s1, s2, s3, s4, s5⟩
                go_simp
                with_reducible rfl
              rotate_left
              · simp only [Act.put, List.setIfInBounds_toArray, List.set_cons_zero, List.set_cons_succ, i64_w, i32_w]
                rfl
              refine one_ (i := 2) (N := some 50) #[true, true, true, false, false] rfl rfl (by kernel_rfl) (by decide) (fun K hK => ?_)
              refine goes_ Try.func23 (by kernel_rfl) rfl #[.agg #[.slice A0_0 l0_0.length c0_0, .slice A0_1 l0_1.length c0_1, .slice A0_2 l0_2.length c0_2]] (by rfl) rfl rfl (by (try simp only [List.map_toArray, List.map_cons, List.map_nil]); rfl) ?_
              with_reducible refine (laws_toGauss.calls kj24 _ _ l0_0 _ _ l0_1 _ _ l0_2 t153 t156 t159 _ ?side1 ?side2 ?side3 ?side4 ?side5 ?side6 A66.out).mono ?_
              (case side1 => exact (Kd.C_below HR0_0.out HB.out))
              (case side2 => exact HC0_0.out)
              (case side3 => exact (Kd.C_below HR0_1.out HB.out))
              (case side4 => exact HC0_1.out)
              (case side5 => exact (Kd.C_below HR0_2.out HB.out))
              (case side6 => exact HC0_2.out)
              rintro e w97 ⟨v154, v157, v160, rfl, ho0, ho1, ho2, hb⟩
              refine ⟨_, rfl, ?_⟩
              have n0_ := mk0 (Kd.R_mono (Kd.R_told (Kd.R_told (Kd.R_told (Kd.R_old HO_141000.out hb) (Kd.R_base ho0)) (Kd.R_base ho1)) (Kd.R_base ho2)) (fun _ h_ => h_.1))
              have n1_ := mk0 (Kd.R_mono (Kd.R_told (Kd.R_told (Kd.R_told (Kd.R_old HO_141001.out hb) (Kd.R_base ho0)) (Kd.R_base ho1)) (Kd.R_base ho2)) (fun _ h_ => h_.1))
              have n2_ := mk0 (Kd.R_mono (Kd.R_told (Kd.R_told (Kd.R_told (Kd.R_old HO_141002.out hb) (Kd.R_base ho0)) (Kd.R_base ho1)) (Kd.R_base ho2)) (fun _ h_ => h_.1))
              have n3_ := mk0 (Kd.R_mono (Kd.R_told (Kd.R_told (Kd.R_told (Kd.R_old HO_151000.out hb) (Kd.R_base ho0)) (Kd.R_base ho1)) (Kd.R_base ho2)) (fun _ h_ => h_.1))
              have n4_ := mk0 (Kd.R_mono (Kd.R_told (Kd.R_told (Kd.R_told (Kd.R_old HO_151001.out hb) (Kd.R_base ho0)) (Kd.R_base ho1)) (Kd.R_base ho2)) (fun _ h_ => h_.1))
              have n5_ := mk0 (Kd.R_mono (Kd.R_told (Kd.R_told (Kd.R_told (Kd.R_old HO_151002.out hb) (Kd.R_base ho0)) (Kd.R_base ho1)) (Kd.R_base ho2)) (fun _ h_ => h_.1))
              have n6_ := mk0 (Kd.R_lower (Kd.R_new' (Kd.R_new' (Kd.R_new' (Kd.R_new' (Kd.R_new' (Kd.R_new' ho0 (Kd.R_lt HO_141000.out)) (Kd.R_lt HO_141001.out)) (Kd.R_lt HO_141002.out)) (Kd.R_lt HO_151000.out)) (Kd.R_lt HO_151001.out)) (Kd.R_lt HO_151002.out)) (below_size (by repeat (first | exact HB.out | apply below_alloc | apply pw_below_drewN | apply below_drew1 | refine below_set ?_ GE107.out | refine below_set ?_ GE108.out | refine below_set ?_ GE140.out | refine below_set ?_ GE150.out))))
              have n7_ := mk0 (Kd.R_lower (Kd.R_new' (Kd.R_new' (Kd.R_new' (Kd.R_new' (Kd.R_new' (Kd.R_new' ho1 (Kd.R_lt HO_141000.out)) (Kd.R_lt HO_141001.out)) (Kd.R_lt HO_141002.out)) (Kd.R_lt HO_151000.out)) (Kd.R_lt HO_151001.out)) (Kd.R_lt HO_151002.out)) (below_size (by repeat (first | exact HB.out | apply below_alloc | apply pw_below_drewN | apply below_drew1 | refine below_set ?_ GE107.out | refine below_set ?_ GE108.out | refine below_set ?_ GE140.out | refine below_set ?_ GE150.out))))
              have n8_ := mk0 (Kd.R_lower (Kd.R_new' (Kd.R_new' (Kd.R_new' (Kd.R_new' (Kd.R_new' (Kd.R_new' ho2 (Kd.R_lt HO_141000.out)) (Kd.R_lt HO_141001.out)) (Kd.R_lt HO_141002.out)) (Kd.R_lt HO_151000.out)) (Kd.R_lt HO_151001.out)) (Kd.R_lt HO_151002.out)) (below_size (by repeat (first | exact HB.out | apply below_alloc | apply pw_below_drewN | apply below_drew1 | refine below_set ?_ GE107.out | refine below_set ?_ GE108.out | refine below_set ?_ GE140.out | refine below_set ?_ GE150.out))))
              have n9_ := mk0 (blk_below (g := gb107) (o := .cells #[.slice A0_0 l0_0.length c0_0, .slice A0_1 l0_1.length c0_1, .slice A0_2 l0_2.length c0_2] 30 (0, 0)) (by (with_reducible repeat (first | refine blk_drewN ?_ _ | refine blk_drew ?_ | refine blk_alloc ?_ _)); exact BK107.out) hb)
              have n10_ := mk0 (blk_below (g := gb108) (o := .cells #[.slice A1_0 l1_0.length c1_0, .slice A1_1 l1_1.length c1_1, .slice A1_2 l1_2.length c1_2] 30 (0, 0)) (by (with_reducible repeat (first | refine blk_drewN ?_ _ | refine blk_drew ?_ | refine blk_alloc ?_ _)); exact BK108.out) hb)
              have n11_ := mk0 (blk_below (g := gb140) (o := .cells #[.slice Ao46 t131.length co46, .slice Ao50 t134.length co50, .slice Ao51 t137.length co51] 34 (0, 0)) (by (with_reducible repeat (first | refine blk_drewN ?_ _ | refine blk_drew ?_ | refine blk_alloc ?_ _)); exact BK140.out) hb)
              have n12_ := mk0 (blk_below (g := gb150) (o := .cells #[.slice Ao55 t141.length co55, .slice Ao60 t144.length co60, .slice Ao61 t147.length co61] 34 (0, 0)) (by (with_reducible repeat (first | refine blk_drewN ?_ _ | refine blk_drew ?_ | refine blk_alloc ?_ _)); exact BK150.out) hb)
              have n13_ := mk0 (below_step (by repeat (first | exact HB.out | apply below_alloc | apply pw_below_drewN | apply below_drew1 | refine below_set ?_ GE107.out | refine below_set ?_ GE108.out | refine below_set ?_ GE140.out | refine below_set ?_ GE150.out)) hb)
              clear HO_141000
              clear HO_141001
              clear HO_141002
              clear HO_151000
              clear HO_151001
              clear HO_151002
              clear BK107
              clear BK108
              clear BK140
              clear BK150
              clear HB
              have HO_141000 := n0_
              have HO_141001 := n1_
              have HO_141002 := n2_
              have HO_151000 := n3_
              have HO_151001 := n4_
              have HO_151002 := n5_
              have HO155 := n6_
              have HO158 := n7_
              have HO161 := n8_
              have BK107 := n9_
              have BK108 := n10_
              have BK140 := n11_
              have BK150 := n12_
              have HB := n13_
              clear n0_ n1_ n2_ n3_ n4_ n5_ n6_ n7_ n8_ n9_ n10_ n11_ n12_ n13_
              (try clear hb)
              (try clear hb2)
              (try clear hk)
              (try clear hi)
              (try clear ho0)
              (try clear ho1)
              (try clear ho2)
              obtain ⟨Ao98, co98, eo98⟩ := Kd.R_slice HO155.out
              (first | subst eo98 | (injection eo98 with f1_ f2_ f3_; have f4_ := f1_.symm; have f5_ := f3_.symm; clear f1_ f2_ f3_; subst f4_; subst f5_))
              obtain ⟨Ao99, co99, eo99⟩ := Kd.R_slice HO158.out
              (first | subst eo99 | (injection eo99 with f1_ f2_ f3_; have f4_ := f1_.symm; have f5_ := f3_.symm; clear f1_ f2_ f3_; subst f4_; subst f5_))
              obtain ⟨Ao100, co100, eo100⟩ := Kd.R_slice HO161.out
              (first | subst eo100 | (injection eo100 with f1_ f2_ f3_; have f4_ := f1_.symm; have f5_ := f3_.symm; clear f1_ f2_ f3_; subst f4_; subst f5_))
              refine hK.out _ _ ⟨(blk_cell BK140.out 0).trans rfl, (blk_cell BK140.out 1).trans rfl, (blk_cell BK140.out 2).trans rfl, (blk_cell BK107.out 0).trans rfl, (blk_cell BK107.out 1).trans rfl, (blk_cell BK107.out 2).trans rfl⟩ (fun hHeld => ?_)
              clear hK K
              refine norm_ (a' := ?_) ?_ ?_
              rotate_left
              · show Act.put _ (some 50) _ = _
                simp only [Act.put, List.setIfInBounds_toArray, List.set_cons_zero, List.set_cons_succ, i64_w, i32_w]
                rfl
              refine one_ (i := 3) (N := some 51) #[true, true, true, true, false] rfl rfl (by kernel_rfl) (by decide) (fun K hK => ?_)
              refine goes_ Try.func25 (by kernel_rfl) rfl #[.agg #[.slice Ao46 t131.length co46, .slice Ao50 t134.length co50, .slice Ao51 t137.length co51], .agg #[.slice Ao98 t153.length co98, .slice Ao99 t156.length co99, .slice Ao100 t159.length co100]] (by rfl) rfl rfl (by (try simp only [List.map_toArray, List.map_cons, List.map_nil]); rfl) ?_
              with_reducible refine (laws_eqGauss.calls kj24 _ _ t131 _ _ t134 _ _ t137 _ _ t153 _ _ t156 _ _ t159 false _ ?side1 ?side2 ?side3 ?side4 ?side5 ?side6 ?side7 ?side8 ?side9 ?side10 ?side11 ?side12 A67.out).mono ?_
              (case side1 => exact (Kd.R_reads' HO_141000.out).2.2)
              (case side2 => exact (Kd.R_reads' HO_141000.out).2.1)
              (case side3 => exact (Kd.R_reads' HO_141001.out).2.2)
              (case side4 => exact (Kd.R_reads' HO_141001.out).2.1)
              (case side5 => exact (Kd.R_reads' HO_141002.out).2.2)
              (case side6 => exact (Kd.R_reads' HO_141002.out).2.1)
              (case side7 => exact (Kd.R_reads' HO155.out).2.2)
              (case side8 => exact (Kd.R_reads' HO155.out).2.1)
              (case side9 => exact (Kd.R_reads' HO158.out).2.2)
              (case side10 => exact (Kd.R_reads' HO158.out).2.1)
              (case side11 => exact (Kd.R_reads' HO161.out).2.2)
              (case side12 => exact (Kd.R_reads' HO161.out).2.1)
              rintro e w101 ⟨rfl, hb⟩
              refine ⟨_, rfl, ?_⟩
              have n0_ := mk0 (Kd.R_below HO_141000.out hb)
              have n1_ := mk0 (Kd.R_below HO_141001.out hb)
              have n2_ := mk0 (Kd.R_below HO_141002.out hb)
              have n3_ := mk0 (Kd.R_below HO_151000.out hb)
              have n4_ := mk0 (Kd.R_below HO_151001.out hb)
              have n5_ := mk0 (Kd.R_below HO_151002.out hb)
              have n6_ := mk0 (Kd.R_below HO155.out hb)
              have n7_ := mk0 (Kd.R_below HO158.out hb)
              have n8_ := mk0 (Kd.R_below HO161.out hb)
              have n9_ := mk0 (blk_below (g := gb107) (o := .cells #[.slice A0_0 l0_0.length c0_0, .slice A0_1 l0_1.length c0_1, .slice A0_2 l0_2.length c0_2] 30 (0, 0)) (by (with_reducible repeat (first | refine blk_drewN ?_ _ | refine blk_drew ?_ | refine blk_alloc ?_ _)); exact BK107.out) hb)
              have n10_ := mk0 (blk_below (g := gb108) (o := .cells #[.slice A1_0 l1_0.length c1_0, .slice A1_1 l1_1.length c1_1, .slice A1_2 l1_2.length c1_2] 30 (0, 0)) (by (with_reducible repeat (first | refine blk_drewN ?_ _ | refine blk_drew ?_ | refine blk_alloc ?_ _)); exact BK108.out) hb)
              have n11_ := mk0 (blk_below (g := gb140) (o := .cells #[.slice Ao46 t131.length co46, .slice Ao50 t134.length co50, .slice Ao51 t137.length co51] 34 (0, 0)) (by (with_reducible repeat (first | refine blk_drewN ?_ _ | refine blk_drew ?_ | refine blk_alloc ?_ _)); exact BK140.out) hb)
              have n12_ := mk0 (blk_below (g := gb150) (o := .cells #[.slice Ao55 t141.length co55, .slice Ao60 t144.length co60, .slice Ao61 t147.length co61] 34 (0, 0)) (by (with_reducible repeat (first | refine blk_drewN ?_ _ | refine blk_drew ?_ | refine blk_alloc ?_ _)); exact BK150.out) hb)
              have n13_ := mk0 (below_step (by repeat (first | exact HB.out | apply below_alloc | apply pw_below_drewN | apply below_drew1 | refine below_set ?_ GE107.out | refine below_set ?_ GE108.out | refine below_set ?_ GE140.out | refine below_set ?_ GE150.out)) hb)
              clear HO_141000
              clear HO_141001
              clear HO_141002
              clear HO_151000
              clear HO_151001
              clear HO_151002
              clear HO155
              clear HO158
              clear HO161
              clear BK107
              clear BK108
              clear BK140
              clear BK150
              clear HB
              have HO_141000 := n0_
              have HO_141001 := n1_
              have HO_141002 := n2_
              have HO_151000 := n3_
              have HO_151001 := n4_
              have HO_151002 := n5_
              have HO155 := n6_
              have HO158 := n7_
              have HO161 := n8_
              have BK107 := n9_
              have BK108 := n10_
              have BK140 := n11_
              have BK150 := n12_
              have HB := n13_
              clear n0_ n1_ n2_ n3_ n4_ n5_ n6_ n7_ n8_ n9_ n10_ n11_ n12_ n13_
              (try clear hb)
              (try clear hb2)
              (try clear hk)
              (try clear hi)
              refine hK.out _ _ ⟨(blk_cell BK140.out 0).trans rfl, (blk_cell BK140.out 1).trans rfl, (blk_cell BK140.out 2).trans rfl, (blk_cell BK107.out 0).trans rfl, (blk_cell BK107.out 1).trans rfl, (blk_cell BK107.out 2).trans rfl⟩ (fun hHeld => ?_)
              clear hK K
              refine norm_ (a' := ?_) ?_ ?_
              rotate_left
              · show Act.put _ (some 51) _ = _
                simp only [Act.put, List.setIfInBounds_toArray, List.set_cons_zero, List.set_cons_succ, i64_w, i32_w]
                rfl
              refine pure_ (i := 4) (N := some 52) (v := ?_) (a' := ?_) #[true, true, true, true, true] rfl rfl (by kernel_rfl) (fun _ _ _ h => h) (Or.inl ⟨by rfl, ?_⟩) ?_ ?_
              rotate_left
              · intro w'
                go_simp
                with_reducible rfl
              rotate_left
              · simp only [Act.put, List.setIfInBounds_toArray, List.set_cons_zero, List.set_cons_succ, i64_w, i32_w]
                rfl
              refine done_ (by kernel_rfl) ?_
              try go_wp2
              go_ret
              exact ⟨by first | rfl | (simp [errW_none, errW_some] <;> rfl) | (simp [*, errW_none, errW_some] <;> rfl), by repeat (first | exact HB.out | apply below_alloc | apply pw_below_drewN | apply below_drew1 | refine below_set ?_ GE107.out | refine below_set ?_ GE108.out | refine below_set ?_ GE140.out | refine below_set ?_ GE150.out)⟩
end Go.Proofs.Ytihfncjpfgdhoaa.PC
end
section
namespace Go.Proofs.Ytihfncjpfgdhoaa.Pure
open Go.RowKit Go.Proofs.Ytihfncjpfgdhoaa.PC Go.Proofs.Ytihfncjpfgdhoaa.PE Go.Proofs.Ytihfncjpfgdhoaa.PA Go.Proofs.Ytihfncjpfgdhoaa.K Go.Proofs.YtihfncjpfgdhoaaW.PrintWords Go.Proofs.YtihfncjpfgdhoaaW.PrintLast
theorem countPattern_eq (w h s P0 P1 P2 : List Int) (h64 : Ok64 w) (g64 : Ok64 P0) (hhl : h.length ≤ 1048576) (hsl : s.length ≤ 1048576) (hl1 : P1.length ≤ 1048576) (hl2 : P2.length ≤ 1048576) : ∃ r d : Int, Ev (fun k => spec_CountPattern.f k w h s P0 P1 P2) (r, d) ∧ Ev (fun k => impl_CountPattern.f k w h s P0 P1 P2) (r, d) := by
  unfold spec_CountPattern.f impl_CountPattern.f
  have a1 := ev_specGauss w h s (by omega) (by omega)
  have a2 := ev_isGauss w h s h64
  cases hg : isGaussL w h s with
  | false =>
    rw [hg] at a1 a2
    exact ⟨0, 1, Ev.bind a1 (ev_neg (by simp) (ev_some _)), Ev.bind a2 (ev_neg (by simp) (ev_some _))⟩
  | true =>
    rw [hg] at a1 a2
    have b1 := ev_specGauss P0 P1 P2 (by omega) (by omega)
    have b2 := ev_isGauss P0 P1 P2 g64
    cases hq : isGaussL P0 P1 P2 with
    | false =>
      rw [hq] at b1 b2
      exact ⟨0, 1, Ev.bind a1 (ev_pos rfl (Ev.bind b1 (ev_neg (by simp) (ev_some _)))), Ev.bind a2 (ev_pos rfl (Ev.bind b2 (ev_neg (by simp) (ev_some _))))⟩
    | true =>
      rw [hq] at b1 b2
      obtain ⟨n, hn, hlen, _, hs, _, _, _⟩ := gauss_all hq
      obtain ⟨r, h1, h2⟩ := count_eq w h s P0 P1 P2 P2 hg h64 (by omega) (by omega) (by omega) (by omega)
      exact ⟨r, 0, Ev.bind a1 (ev_pos rfl (Ev.bind b1 (ev_pos rfl (Ev.bind h1 (ev_some _))))), Ev.bind a2 (ev_pos rfl (Ev.bind b2 (ev_pos rfl (Ev.bind h2 (ev_some _)))))⟩
theorem FnExactCountPattern (l0 l1 l2 l3 l4 l5 : List Int) (h0 : l0.length ≤ maxLen) (hw0 : ∀ x ∈ l0, (Lit.int .i64 x).wf = true) (h1 : l1.length ≤ maxLen) (hw1 : ∀ x ∈ l1, (Lit.int .i64 x).wf = true) (h2 : l2.length ≤ maxLen) (hw2 : ∀ x ∈ l2, (Lit.int .i64 x).wf = true)
    (h3 : l3.length ≤ maxLen) (hw3 : ∀ x ∈ l3, (Lit.int .i64 x).wf = true) (h4 : l4.length ≤ maxLen) (hw4 : ∀ x ∈ l4, (Lit.int .i64 x).wf = true) (h5 : l5.length ≤ maxLen) (hw5 : ∀ x ∈ l5, (Lit.int .i64 x).wf = true) : ∃ k, laws_FnExactCountPattern.f k l0 l1 l2 l3 l4 l5 = some true := by
  refine Ev.rounds ?_
  unfold laws_FnExactCountPattern.f
  rcases sz_gaussQ 1048576 (by omega) (by omega) l0 l1 l2 h0 h1 h2 with ⟨t, ht, hn⟩ | ⟨t, ht, hn, hnq, a0, a1, a2⟩
  · exact ev_const ht (ev_pos hn (ev_some _))
  refine ev_const ht (ev_neg (by omega) ?_)
  rcases sz_gaussQ t hn hnq l3 l4 l5 h3 h4 h5 with ⟨u, hu, hun⟩ | ⟨u, hu, hun, huq, b0, b1, b2⟩
  · exact ev_const hu (ev_pos hun (ev_some _))
  refine ev_const hu (ev_neg (by omega) ?_)
  obtain ⟨r, d, hs, hi⟩ := countPattern_eq l0 l1 l2 l3 l4 l5 (fun x hx => wf_in64 (hw0 x hx)) (fun x hx => wf_in64 (hw3 x hx)) a1 a2 b1 b2
  have T1 := ev_toGauss l0 l1 l2 a0 a1 a2
  have T2 := ev_toGauss l3 l4 l5 b0 b1 b2
  refine Ev.bind T1 (Ev.bind T2 (Ev.bind hs (Ev.bind T1 (Ev.bind T2 (Ev.bind hi (ev_pos rfl ?_))))))
  refine Ev.step (fun n => by rw [laws_FnExactCountPattern.j0]) ?_
  exact ev_neg (by simp) (Ev.bind T1 (Ev.bind (ev_eqGauss_same l0 l1 l2 a0 a1 a2) (ev_pos rfl (Ev.bind T2 (Ev.bind (ev_eqGauss_same l3 l4 l5 b0 b1 b2) (ev_pos rfl (ev_some _)))))))
end Go.Proofs.Ytihfncjpfgdhoaa.Pure
end
