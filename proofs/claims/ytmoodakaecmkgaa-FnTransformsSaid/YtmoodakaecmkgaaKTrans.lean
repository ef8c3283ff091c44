/- Contracts of impl.in, impl.TransformCounts and impl.UntransformCounts. Conditions: the argument's cells are read. -/
import Derived.Test.YtmoodakaecmkgaaKSlices
import Derived.Test.YtmoodakaecmkgaaKSpread
import Derived.Test.YtmoodakaecmkgaaKRows
set_option linter.unusedVariables false
set_option linter.unusedSimpArgs false
namespace Go.Proofs.Ytmoodakaecmkgaa.K
open Go.RowKit Go.Proofs.YtmoodakaecmkgaaW.PrintWords Go.Proofs.YtmoodakaecmkgaaW.PrintLast Go.Proofs.YtmoodakaecmkgaaW.PrintMore Go.Proofs.Ytmoodakaecmkgaa.PA

theorem c_in (a b c : Int) (w : World) : Calls Try.prog 34 #[.int .i64 a, .int .i64 b, .int .i64 c] w fun e w' => e = .returned (.bool (inB a b c)) ∧ w = w' := by
  by_cases h : b ≤ a
  · have hd : decide (b ≤ a) = true := decide_eq_true h
    clear h
    go_enter Try.func34, Try.ntmps34
    go_wp2
    go_ret
    exact ⟨by rw [inB, hd]; rfl, rfl⟩
  · have hd : decide (b ≤ a) = false := decide_eq_false h
    clear h
    go_enter Try.func34, Try.ntmps34
    go_wp2
    go_ret
    exact ⟨by rw [inB, hd]; rfl, rfl⟩

theorem r_T1 (x : Int) (w : World) : Runs Try.prog (.func (.func 37) #[] #[]) #[.int .i64 x] w fun e w' => e = .returned (.bool (!inB x 0 1000)) ∧ Drawn0 w w' := by
  refine ⟨37, _, _, _, rfl, Try.func37, by kernel_rfl, rfl, ?_⟩
  show Calls _ _ #[.int .i64 x] _ _
  go_enter Try.func37, Try.ntmps37
  go_wp2_with (go_at_call 34; refine (c_in _ _ _ _).mono ?_; rintro e w1 ⟨rfl, rfl⟩)
  go_ret
  exact ⟨rfl, Drawn0.refl _⟩

theorem r_U1 (x : Int) (w : World) : Runs Try.prog (.func (.func 33) #[] #[]) #[.int .i64 x] w fun e w' => e = .returned (.bool (!inB x 0 1000000000)) ∧ Drawn0 w w' := by
  refine ⟨33, _, _, _, rfl, Try.func33, by kernel_rfl, rfl, ?_⟩
  show Calls _ _ #[.int .i64 x] _ _
  go_enter Try.func33, Try.ntmps33
  go_wp2_with (go_at_call 34; refine (c_in _ _ _ _).mono ?_; rintro e w1 ⟨rfl, rfl⟩)
  go_ret
  exact ⟨rfl, Drawn0.refl _⟩

theorem maxL_step (m : Int) (l : List Int) (k : Int) (h1 : 1 ≤ k) (h2 : k < l.length + 1) :
    (if maxL m (l.take (k.toNat - 1)) < rd (m :: l) k then rd (m :: l) k else maxL m (l.take (k.toNat - 1))) = maxL m (l.take ((k + 1).toNat - 1)) := by
  obtain ⟨j, rfl⟩ : ∃ j : Nat, k = j + 1 := ⟨k.toNat - 1, by omega⟩
  have e1 : ((j : Int) + 1).toNat - 1 = j := by omega
  have e2 : ((j : Int) + 1 + 1).toNat - 1 = j + 1 := by omega
  have e3 : rd (m :: l) ((j : Int) + 1) = l.getD j 0 := by
    unfold rd
    rw [show ((j : Int) + 1).toNat = j + 1 by omega]
    rfl
  have hj : j < l.length := by omega
  rw [e1, e2, e3, List.take_succ_eq_append_getElem hj, maxL, maxL, List.foldl_append, List.getD_eq_getElem?_getD, List.getElem?_eq_getElem hj]
  rfl

set_option maxHeartbeats 1000000 in
set_option maxRecDepth 100000 in
theorem c_Max (A0 : Option Addr) (c0 : Nat) (m : Int) (l : List Int) (w : World) (hr : Kd.C (Kd.int .i64) w A0 (m :: l).length (m :: l)) :
    Calls Try.prog 38 #[.slice A0 (m :: l).length c0] w fun e w' => e = .returned (.int .i64 (maxL m l)) ∧ w = w' := by
  obtain ⟨xs, hxs⟩ : ∃ xs, xs = m :: l := ⟨_, rfl⟩
  rw [← hxs] at hr ⊢
  have HX := Aside0.mk hxs
  have hm : xs.length ≤ 9223372036854775807 := hr.2.1
  have h0 : 0 < xs.length := by rw [hxs]; simp
  have hl : xs.length = l.length + 1 := by rw [hxs]; rfl
  have HL := Aside0.mk hl
  obtain ⟨ad, hA, hc0⟩ := Kd.at_int hr 0 (by omega) (by omega)
  have hx0 : rd xs 0 = m := by rw [hxs]; rfl
  rw [hx0] at hc0
  subst hA
  have HR := Aside0.mk hr
  clear hr hxs hx0 hl
  rw [show ((0 : Int)).toNat = 0 from rfl, Addr.add_zero'] at hc0
  have hd : decide (xs.length < 1) = false := decide_eq_false (by omega)
  go_enter Try.func38, Try.ntmps38
  go_wp2
  go_loop [3, 4] (fun v i => ∃ (k : Int) (y : Int), 1 ≤ k ∧ k ≤ xs.length ∧ i = .int .i64 k ∧ v = .int .i64 y ∧ Aside0 (y = maxL m (l.take (k.toNat - 1)))) (fun _ i => xs.length - (intOf i).toNat)
  case atStart => exact ⟨1, m, by omega, by omega, rfl, rfl, ⟨rfl⟩⟩
  case round =>
    obtain ⟨k, y, hk1, hk, rfl, rfl, HY⟩ := hrel
    by_cases hlt : k < xs.length
    · obtain ⟨ad', hA, hc⟩ := Kd.at_int HR.out k (by omega) (by omega)
      obtain rfl := Option.some.inj hA
      go_wp2
      go_round
      case rel => exact ⟨k + 1, _, by omega, by omega, rfl, rfl, ⟨by rw [HX.out, HY.out]; exact maxL_step m l k hk1 (by rw [HL.out] at hlt; omega)⟩⟩
      case measure => simp [intOf]; omega
    · have hk2 : k = xs.length := by omega
      go_wp2
      go_ret
      exact ⟨ret_int (by rw [HY.out, hk2, List.take_of_length_le (by have := HL.out; omega)]), rfl⟩


theorem c_MaxOf (A0 : Option Addr) (c0 n : Nat) (xs : List Int) (w : World) (hn : xs.length = n) (h0 : 0 < n) (hr : Kd.C (Kd.int .i64) w A0 n xs) :
    Calls Try.prog 38 #[.slice A0 n c0] w fun e w' => e = .returned (.int .i64 (maxOf xs)) ∧ w = w' := by
  match xs, hn with
  | [], hn => simp at hn; omega
  | m :: l, hn => subst hn; exact c_Max A0 c0 m l w hr
theorem startL_length (n : Nat) : (startL n).length = n + 1 := by simp [startL]
theorem startL_small (n : Nat) : Small (startL n) := by
  intro x hx
  rcases List.mem_cons.1 hx with rfl | h
  · omega
  · rw [(List.mem_replicate.1 h).2]; omega
theorem any_in (l : List Int) (hi : Int) (k : Nat) (hk : k < l.length) (h : (l.any fun n => !inB n 0 hi) = false) : 0 ≤ rd l k ∧ rd l k ≤ hi := by
  have h1 : inB (rd l k) 0 hi = true := by simpa using List.any_eq_false.1 h _ (rd_mem l k hk)
  simp only [inB, Bool.and_eq_true, decide_eq_true_eq] at h1
  exact h1

set_option maxHeartbeats 1000000 in
set_option maxRecDepth 100000 in
theorem c_Trans (A0 : Option Addr) (c0 : Nat) (l : List Int) (w : World) (hr : Kd.C (Kd.int .i64) w A0 l.length l) :
    Calls Try.prog 18 #[.slice A0 l.length c0] w fun e w' => ∃ v : Value, e = .returned (.tuple #[v, .int .i64 (transI l).2]) ∧ Kd.R (Kd.int .i64) 2 w' w.heap.size (fun _ => True) v (transI l).1 ∧ Below w.heap.size w w' := by
  by_cases h20 : 20 < l.length
  · have hd : decide (20 < l.length) = true := decide_eq_true h20
    have hd2 : decide (20 < (l.length : Int)) = true := decide_eq_true (by omega)
    have HT := Aside0.mk (show transI l = ([], 2) by rw [transI, if_pos (.inl h20)])
    clear h20
    go_enter Try.func18, Try.ntmps18
    go_wp2
    go_ret2
    rw [HT.out]
    exact ⟨_, rfl, Kd.R_nil _ _ _ _ _, Below.refl _ _⟩
  · have hd : decide (20 < l.length) = false := decide_eq_false h20
    have hd2 : decide (20 < (l.length : Int)) = false := decide_eq_false (by omega)
    have HP : Aside0 (PredOn Try.prog Drawn0 (.func (.func 37) #[] #[]) (fun x => !inB x 0 1000) l w) := ⟨fun x _ w1 _ => r_T1 x w1⟩
    have HR := Aside0.mk hr
    clear hr
    by_cases hb : l.any (fun n => !inB n 0 1000) = true
    · have HT := Aside0.mk (show transI l = ([], 2) by rw [transI, if_pos (.inr hb)])
      go_enter Try.func18, Try.ntmps18
      go_wp2_with (go_at_call 32; refine (containsFunc step_drawn A0 c0 l _ _ _ HR.out HP.out).mono ?_; rintro e w1 ⟨rfl, ⟨m, rfl⟩⟩; rw [hb])
      go_ret2
      rw [HT.out]
      exact ⟨_, rfl, Kd.R_nil _ _ _ _ _, pw_below_drewN (Below.refl _ _) _⟩
    · have hbf := Bool.eq_false_iff.mpr hb
      have HT := Aside0.mk (show transI l = if 1000000000 < maxOf (transL l) then ([], 3) else (transL l, 0) by rw [transI, if_neg (by intro h; rcases h with h | h; exact h20 h; exact hb h)])
      clear hb
      go_enter Try.func18, Try.ntmps18
      go_wp2_with (first
        | (go_at_call 32; refine (containsFunc step_drawn A0 c0 l _ _ _ HR.out HP.out).mono ?_; rintro e w1 ⟨rfl, ⟨m, rfl⟩⟩; rw [hbf])
        | ((with_reducible refine gate_dst (N := 17) rfl ?_); refine mkI (w0 := w) w.heap.size (ok := fun _ => True) rfl rfl rfl _ rfl rfl (by omega) (by omega) trivial (pw_below_drewN (Below.refl _ _) _) (Nat.le_refl _) ?_; intro v1 w1 hv hb1 _ _; rw [show ((l.length : Int) + 1).toNat = l.length + 1 by omega] at hv; obtain ⟨g, cap, ev, _, _, _⟩ := Kd.R_form hv (by simp); rw [List.length_replicate] at ev; subst ev; have HV := Aside0.mk hv; have HB := Aside0.mk hb1; clear hv hb1)
        | ((with_reducible refine gate_store (t := 2) (p := 19) rfl ?_); refine putI (w0 := w) rfl rfl rfl 0 _ 1 rfl rfl rfl HV.out (by omega) (by omega) HB.out ?_; intro w2 hv hb2 _; clear HV HB; have HV := Aside0.mk (show RI _ _ _ _ (startL l.length) from hv); have HB := Aside0.mk hb2; clear hv hb2))
      go_loopw [22] (fun i wr => ∃ k : Nat, k ≤ l.length ∧ i = .int .i64 k ∧ Aside0 (∃ xs, xs.length = l.length + 1 ∧ Small xs ∧ allPasses xs k (l.drop k) = transL l ∧ RI wr w.heap.size (fun _ => True) (.slice (some ⟨g, 0, none⟩) (l.length + 1) cap) xs) ∧ Aside0 (Below w.heap.size w wr)) (fun i _ => l.length - (intOf i).toNat)
      case atStart => exact ⟨0, Nat.zero_le _, rfl, ⟨startL l.length, startL_length _, startL_small _, rfl, HV.out⟩, HB⟩
      case round =>
        obtain ⟨k, hk, rfl, ⟨xs, hxl, hxs, hxa, hv⟩, HB⟩ := hrel
        by_cases hlt : k < l.length
        · obtain ⟨ad, hA, hc⟩ := Kd.at_int (Kd.C_below HR.out HB.out) k (by omega) (by omega)
          subst hA
          simp only [Int.toNat_natCast] at hc
          obtain ⟨y, hy⟩ : ∃ y, y = rd l k := ⟨_, rfl⟩
          rw [← hy] at hc
          have hy2 := any_in l 1000 k hlt hbf
          rw [← hy] at hy2
          obtain ⟨n, hn⟩ := spread_f xs ((k : Int) + 1) y (by omega) (by omega) (by omega) (by omega) (by omega) hxs
          have HN := Aside0.mk hn
          have HY := Aside0.mk hy
          have HX := Aside0.mk (And.intro hxl (And.intro hxs hxa))
          have HV := Aside0.mk hv
          clear hn hy hxl hxs hxa hv hy2 hbf
          go_wp2_with (go_at_call 35; refine (impl_spread.calls n (fun _ => True) _ xs _ _ _ w _ HB.out HV.out HN.out).mono ?_; rintro e w2 ⟨rfl, hv2, hb2, _⟩; have HV2 := Aside0.mk hv2; have HB2 := Aside0.mk hb2; clear hv2 hb2)
          go_roundw
          case rel =>
            obtain ⟨hxl, hxs, hxa⟩ := HX.out
            refine ⟨k + 1, hlt, by go_num, ⟨_, ?_, passes_small _ _ _ hxs, ?_, Kd.R_mono HV2.out (fun _ _ => trivial)⟩, HB2⟩
            · rw [passes_length, hxl]
            · rw [← hxa, drop_at l k hlt, allPasses, HY.out, show ((k : Int) + 1).toNat = k + 1 by omega]
          case measure => simp [intOf]; omega
        · obtain rfl : k = l.length := by omega
          rw [List.drop_length, allPasses] at hxa
          subst hxa
          have HV := Aside0.mk hv
          clear hv
          have HC := Aside0.mk (Kd.R_reads' HV.out).2.2
          rw [hxl] at HC
          by_cases hbig : 1000000000 < maxOf (transL l)
          · rw [if_pos hbig] at HT
            have hd3 : decide (1000000000 < maxOf (transL l)) = true := decide_eq_true hbig
            go_wp2_with (go_at_call 38; refine (c_MaxOf _ _ _ (transL l) _ hxl (by omega) HC.out).mono ?_; rintro e w2 ⟨rfl, rfl⟩)
            go_ret2
            rw [HT.out]
            exact ⟨_, rfl, Kd.R_nil _ _ _ _ _, HB.out⟩
          · rw [if_neg hbig] at HT
            have hd3 : decide (1000000000 < maxOf (transL l)) = false := decide_eq_false hbig
            go_wp2_with (go_at_call 38; refine (c_MaxOf _ _ _ (transL l) _ hxl (by omega) HC.out).mono ?_; rintro e w2 ⟨rfl, rfl⟩)
            go_ret2
            rw [HT.out]
            exact ⟨_, rfl, HV.out, HB.out⟩
end Go.Proofs.Ytmoodakaecmkgaa.K
