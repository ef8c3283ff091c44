/- Contract of impl.UntransformCounts. Conditions: the argument's cells are read. -/
import Derived.Test.YtmoodakaecmkgaaKTrans
set_option linter.unusedVariables false
set_option linter.unusedSimpArgs false
namespace Go.Proofs.Ytmoodakaecmkgaa.K
open Go.RowKit Go.Proofs.YtmoodakaecmkgaaW.PrintWords Go.Proofs.YtmoodakaecmkgaaW.PrintLast Go.Proofs.YtmoodakaecmkgaaW.PrintMore Go.Proofs.Ytmoodakaecmkgaa.PA

theorem startR_small (n : Nat) : Small ((List.replicate n (0 : Int)).set 0 1) := by
  refine Small.set (fun x hx => ?_) 0 (by omega) (by omega)
  rw [(List.mem_replicate.1 hx).2]; omega
theorem startR (l : List Int) (h : 1 ≤ l.length) : startL (l.length - 1) = (List.replicate l.length (0 : Int)).set 0 1 := by
  obtain ⟨n, hn⟩ : ∃ n, l.length = n + 1 := ⟨l.length - 1, by omega⟩
  rw [hn, List.replicate_succ]
  rfl
set_option maxHeartbeats 2000000 in
set_option maxRecDepth 100000 in
theorem c_Untrans (A0 : Option Addr) (c0 : Nat) (l : List Int) (w : World) (hr : Kd.C (Kd.int .i64) w A0 l.length l) :
    Calls Try.prog 13 #[.slice A0 l.length c0] w fun e w' => ∃ v : Value, e = .returned (.tuple #[v, .int .i64 (untransI l).2]) ∧ Kd.R (Kd.int .i64) 2 w' w.heap.size (fun _ => True) v (untransI l).1 ∧ Below w.heap.size w w' := by
  have HP : Aside0 (PredOn Try.prog Drawn0 (.func (.func 33) #[] #[]) (fun x => !inB x 0 1000000000) l w) := ⟨fun x _ w1 _ => r_U1 x w1⟩
  have HR := Aside0.mk hr
  have hm : l.length ≤ 9223372036854775807 := hr.2.1
  clear hr
  by_cases hin : inB l.length 1 21 = true
  case neg =>
    have hin2 := Bool.eq_false_iff.mpr hin
    have HT := Aside0.mk (show untransI l = ([], 2) by
      rw [untransI, if_pos]
      simp only [inB, Bool.and_eq_true, decide_eq_true_eq, not_and] at hin
      omega)
    clear hin
    go_enter Try.func13, Try.ntmps13
    go_wp2_with (first
      | (go_at_call 32; refine (containsFunc step_drawn A0 c0 l _ _ _ HR.out HP.out).mono ?_; rintro e w1 ⟨rfl, ⟨m, rfl⟩⟩)
      | (go_at_call 34; refine (c_in _ _ _ _).mono ?_; rintro e w1 ⟨rfl, rfl⟩))
    go_ret2
    rw [HT.out]
    exact ⟨_, rfl, Kd.R_nil _ _ _ _ _, pw_below_drewN (Below.refl _ _) _⟩
  case pos =>
    have hlen : 1 ≤ l.length ∧ l.length ≤ 21 := by
      simp only [inB, Bool.and_eq_true, decide_eq_true_eq] at hin
      omega
    obtain ⟨hl1, hl2⟩ := hlen
    by_cases hb : l.any (fun n => !inB n 0 1000000000) = true
    case pos =>
      have HT := Aside0.mk (show untransI l = ([], 2) by rw [untransI, if_pos (.inr (.inr (.inl hb)))])
      go_enter Try.func13, Try.ntmps13
      go_wp2_with (first
        | (go_at_call 32; refine (containsFunc step_drawn A0 c0 l _ _ _ HR.out HP.out).mono ?_; rintro e w1 ⟨rfl, ⟨m, rfl⟩⟩)
        | (go_at_call 34; refine (c_in _ _ _ _).mono ?_; rintro e w1 ⟨rfl, rfl⟩))
      go_ret2
      rw [HT.out]
      exact ⟨_, rfl, Kd.R_nil _ _ _ _ _, pw_below_drewN (Below.refl _ _) _⟩
    case neg =>
      have hbf := Bool.eq_false_iff.mpr hb
      clear hb
      obtain ⟨ad, hA, hc0⟩ := Kd.at_int HR.out 0 (by omega) (by omega)
      subst hA
      rw [show ((0 : Int)).toNat = 0 from rfl, Addr.add_zero'] at hc0
      obtain ⟨y0, hy0⟩ : ∃ y, y = rd l 0 := ⟨_, rfl⟩
      rw [← hy0] at hc0
      have HY0 := Aside0.mk hy0
      clear hy0
      by_cases h1 : y0 = 1
      case neg =>
        have h1n : (y0 != 1) = true := by simpa using h1
        have HT := Aside0.mk (show untransI l = ([], 2) by rw [untransI, if_pos (.inr (.inr (.inr (by rw [HY0.out] at h1; exact h1))))])
        clear h1
        go_enter Try.func13, Try.ntmps13
        go_wp2_with (first
          | (go_at_call 32; refine (containsFunc step_drawn (some ad) c0 l _ _ _ HR.out HP.out).mono ?_; rintro e w1 ⟨rfl, ⟨m, rfl⟩⟩)
          | (go_at_call 34; refine (c_in _ _ _ _).mono ?_; rintro e w1 ⟨rfl, rfl⟩))
        go_ret2
        rw [HT.out]
        exact ⟨_, rfl, Kd.R_nil _ _ _ _ _, pw_below_drewN (Below.refl _ _) _⟩
      case pos =>
        have h1n : (y0 != 1) = false := by simpa using h1
        have HT := Aside0.mk (show untransI l = untransFrom l (startL (l.length - 1)) [] 1 (l.length - 1) by
          rw [untransI, if_neg]
          rintro (h | h | h | h)
          · omega
          · omega
          · rw [badIn, hbf] at h; cases h
          · exact h (by rw [← h1, HY0.out]; rfl))
        clear h1
        go_enter Try.func13, Try.ntmps13
        go_wp2_with (first
          | (go_at_call 32; refine (containsFunc step_drawn (some ad) c0 l _ _ _ HR.out HP.out).mono ?_; rintro e w1 ⟨rfl, ⟨m, rfl⟩⟩)
          | (go_at_call 34; refine (c_in _ _ _ _).mono ?_; rintro e w1 ⟨rfl, rfl⟩)
          | ((with_reducible refine gate_dst (N := 26) rfl ?_); refine mkI (w0 := w) w.heap.size (ok := fun _ => True) rfl rfl rfl _ rfl rfl (by omega) (by omega) trivial (pw_below_drewN (Below.refl _ _) _) (Nat.le_refl _) ?_; intro v1 w1 hv hb1 _ _; rw [show ((l.length : Int)).toNat = l.length by omega] at hv; obtain ⟨g, cap, ev, hgb, hg2, _⟩ := Kd.R_form hv (by simp; omega); rw [List.length_replicate] at ev; subst ev; have HV := Aside0.mk (Kd.R_tight rfl hv); have HB := Aside0.mk hb1; clear hv hb1)
          | ((with_reducible refine gate_dst (N := 27) rfl ?_); (refine lit0 (w0 := w) w.heap.size (ok := fun k => k ≠ g) rfl rfl rfl (Nat.ne_of_gt hg2) HB.out HB.out.size ?_; intro v2 w2 hv hb2 hgr hnew; have HO := Aside0.mk hv; have HV2 := Aside0.mk (Kd.R_grown HV.out hgr (by simp)); clear HV HB hv hgr; have HV := HV2; have HB := Aside0.mk hb2; clear hb2 HV2))
          | ((with_reducible refine gate_store (t := 2) (p := 29) rfl ?_); (refine putI (w0 := w) rfl rfl rfl 0 _ 1 rfl rfl rfl HV.out (by omega) (by omega) HB.out ?_; intro w2 hv hb2 hgr; have HO2 := Aside0.mk (Kd.R_grown HO.out hgr (by intro k hk; simpa using hk)); clear HV HB HO; have HV := Aside0.mk hv; have HB := Aside0.mk hb2; have HO := HO2; clear hv hb2 hgr HO2)))
        go_loopw [6, 7] (fun vo i wr => ∃ (k : Int) (vO : Value), 1 ≤ k ∧ k ≤ l.length ∧ vo = vO ∧ i = .int .i64 k ∧ Aside0 (∃ xs os, xs.length = l.length ∧ Small xs ∧ os.length = k.toNat - 1 ∧ untransFrom l xs os k.toNat (l.length - k.toNat) = untransI l ∧ RI wr w.heap.size (fun k => some k = (Value.slice (some ⟨g, 0, none⟩) l.length cap).ownBlock) (.slice (some ⟨g, 0, none⟩) l.length cap) xs ∧ RI wr w.heap.size (fun k => k ≠ g) vO os) ∧ Aside0 (Below w.heap.size w wr ∧ g < wr.heap.size)) (fun _ i _ => l.length - (intOf i).toNat)
        case atStart => exact ⟨1, v2, by omega, by omega, rfl, rfl, ⟨_, _, by simp, startR_small _, rfl, by rw [HT.out, startR l hl1]; rfl, HV.out, HO.out⟩, ⟨⟨HB.out, by have := (Kd.R_lt HV.out g rfl); exact this⟩⟩⟩
        case round =>
          clear HV HO HB HP
          obtain ⟨k, vO, hk1, hk, rfl, rfl, ⟨xs, os, hxl, hxs, hol, hu, hv, ho⟩, ⟨hb, hgs⟩⟩ := hrel
          by_cases hlt : k < l.length
          · obtain ⟨ad', hA, hc⟩ := Kd.at_int (Kd.C_below HR.out hb) k (by omega) (by omega)
            obtain rfl := Option.some.inj hA
            obtain ⟨ad', hA, hc2⟩ := Kd.at_int (Kd.R_reads' hv).2.2 k (by omega) (by omega)
            obtain rfl := Option.some.inj hA
            rw [add_plain] at hc2
            obtain ⟨y, hy⟩ : ∃ y, y = rd l k := ⟨_, rfl⟩
            obtain ⟨z, hz⟩ : ∃ z, z = rd xs k := ⟨_, rfl⟩
            rw [← hy] at hc
            rw [← hz] at hc2
            have by_ : 0 ≤ y ∧ y ≤ 1000000000 := by
              have := any_in l 1000000000 k.toNat (by omega) hbf
              rw [hy, show k = (k.toNat : Int) by omega]
              exact this
            have bz_ : 0 ≤ z ∧ z ≤ 2000000000 := by rw [hz]; exact hxs.getD k.toNat
            obtain ⟨by1, by2⟩ := by_
            obtain ⟨bz1, bz2⟩ := bz_
            have HY := Aside0.mk hy
            have HZ := Aside0.mk hz
            have HV := Aside0.mk hv
            have HO := Aside0.mk ho
            have HU := Aside0.mk (And.intro hxl (And.intro hxs (And.intro hol hu)))
            have HB := Aside0.mk (And.intro hb hgs)
            clear hy hz hv ho hxl hxs hol hu hb hgs hbf hin h1n hc0
            by_cases hi : inB (y - z) 0 1000 = true
            case pos =>
              have hib : 0 ≤ y - z ∧ y - z ≤ 1000 := by
                simp only [inB, Bool.and_eq_true, decide_eq_true_eq] at hi
                exact hi
              obtain ⟨n, hn⟩ := spread_f xs k (y - z) (by omega) (by have := HU.out.1; omega) (by have := HU.out.1; omega) (by omega) (by omega) HU.out.2.1
              have HN := Aside0.mk hn
              have HI := Aside0.mk hib
              clear hn hib
              go_wp2
              go_quiet (fail)
              go_wp2_with (first
                | (go_at_call 34; refine (c_in _ _ _ _).mono ?_; rintro e w1 ⟨rfl, rfl⟩)
                | (go_at_call 35; refine (impl_spread.calls n _ _ xs _ _ _ w _ (pw_below_drewN HB.out.1 _) (Kd.R_drewN HV.out _) HN.out).mono ?_; rintro e w2 ⟨rfl, hv2, hb2, hk2⟩; have HO2 := Aside0.mk (Kd.R_kept (Kd.R_drewN HO.out _) hk2 (by intro k hk h; exact hk (by simpa [Value.ownBlock] using h))); have HV2 := Aside0.mk (Kd.R_tight rfl hv2); have HB2 := Aside0.mk (And.intro hb2 (show g < w2.heap.size from Kd.R_lt hv2 g rfl)); clear hv2 hb2 hk2)
                | ((with_reducible refine gate_builtin (b := .append) (xs := #[.tmp 52, .tmp 54]) rfl ?_); refine appI (w0 := w) rfl rfl _ os (y - z) rfl rfl (fun k hk => Nat.ne_of_gt (Nat.lt_of_lt_of_le HB2.out.2 hk)) HO2.out HB2.out.1 HB2.out.1.size (by have := HU.out.2.2.1; omega) ?_; intro v3 w3 ho3 hb3 hg3 _; have HV3 := Aside0.mk (Kd.R_grown HV2.out hg3 (by intro k hk h; exact HO2.out.1 k h.symm (by simpa [Value.ownBlock] using hk))); have HO3 := Aside0.mk ho3; have HB3 := Aside0.mk hb3; clear ho3 hb3 hg3))
              go_roundw
              case rel =>
                obtain ⟨hxl, hxs, hol, hu⟩ := HU.out
                refine ⟨k + 1, v3, by omega, by omega, rfl, rfl, ⟨_, _, by rw [passes_length, hxl], passes_small _ _ _ hxs, ?_, ?_, HV3.out, HO3.out⟩, ⟨⟨HB3.out, Kd.R_lt HV3.out g rfl⟩⟩⟩
                · simp; omega
                · rw [← hu]
                  obtain ⟨d, hd⟩ : ∃ d, l.length - k.toNat = d + 1 := ⟨l.length - k.toNat - 1, by omega⟩
                  rw [hd, untransFrom, show l.length - (k + 1).toNat = d by omega, show (k + 1).toNat = k.toNat + 1 by omega]
                  have e1 : l.getD k.toNat 0 - xs.getD k.toNat 0 = y - z := by rw [HY.out, HZ.out]; rfl
                  rw [e1, hi, if_pos rfl]
              case measure => simp [intOf]; omega
            case neg =>
              have hi2 := Bool.eq_false_iff.mpr hi
              clear hi
              go_wp2
              go_quiet (fail)
              go_wp2_with (go_at_call 34; refine (c_in _ _ _ _).mono ?_; rintro e w1 ⟨rfl, rfl⟩)
              go_ret2
              obtain ⟨hxl, hxs, hol, hu⟩ := HU.out
              rw [← hu]
              obtain ⟨d, hd⟩ : ∃ d, l.length - k.toNat = d + 1 := ⟨l.length - k.toNat - 1, by omega⟩
              have e1 : l.getD k.toNat 0 - xs.getD k.toNat 0 = y - z := by rw [HY.out, HZ.out]; rfl
              rw [hd, untransFrom, e1, hi2, if_neg (by simp)]
              exact ⟨_, rfl, Kd.R_nil _ _ _ _ _, pw_below_drewN HB.out.1 _⟩
          · obtain rfl : k = l.length := by omega
            have HO := Aside0.mk ho
            have HU := Aside0.mk hu
            have HB := Aside0.mk hb
            clear ho hu hb hv
            go_wp2
            go_ret2
            rw [← HU.out, show l.length - ((l.length : Int)).toNat = 0 by omega]
            exact ⟨_, rfl, Kd.R_mono HO.out (fun _ _ => trivial), HB.out⟩
end Go.Proofs.Ytmoodakaecmkgaa.K
