/- slices.DeleteFunc on a row of the call's own. Conditions: the test runs wherever nothing but the row has turned. -/
import Derived.Test.YtbnmjhcokdhjmaaKSlices
import Derived.Test.YtbnmjhcokdhjmaaKRows
import Derived.Test.YtbnmjhcokdhjmaaKEv
import Derived.Lib.SliceRun
set_option linter.unusedVariables false
set_option linter.unusedSimpArgs false
namespace Go.Proofs.Ytbnmjhcokdhjmaa.K
open Go.RowKit Go.Proofs.YtbnmjhcokdhjmaaW.PrintWords Go.Proofs.YtbnmjhcokdhjmaaW.PrintLast Go.Proofs.YtbnmjhcokdhjmaaW.PrintMore

theorem zero_i64' (w : World) : (zeroValue 2).run Try.prog w = .ok (.int .i64 0) w := by kernel_rfl
/-- Noughts laid over the tail: what stands ahead of it stays. -/
theorem cleared {base g cap n : Nat} {ok : Nat → Prop} (m : Nat) : ∀ (i : Nat) (W : World) (cur : List Int), RI W base ok (.slice (some ⟨g, 0, none⟩) n cap) cur → cur.length = n → i + m = n →
    ∃ cur', RI (W.setCells g i (List.replicate m (.int .i64 0))) base ok (.slice (some ⟨g, 0, none⟩) n cap) cur' ∧ cur'.length = n ∧ cur'.take i = cur.take i ∧ W.grownBy (W.setCells g i (List.replicate m (.int .i64 0))) (some g) := by
  induction m with
  | zero => intro i W cur h hl _; exact ⟨cur, h, hl, rfl, World.grownBy.refl _ _⟩
  | succ m ih =>
    intro i W cur h hl him
    obtain ⟨h2, hg⟩ := Kd.R_putg h (i : Int) (0 : Int)
    rw [Int.toNat_natCast] at h2 hg
    obtain ⟨cur', h3, h4, h5, h6⟩ := ih (i + 1) _ _ h2 (by simpa using hl) (by omega)
    refine ⟨cur', h3, h4, ?_, hg.trans h6⟩
    have := congrArg (List.take i) h5
    rw [List.take_take, List.take_take, Nat.min_eq_left (Nat.le_succ i), List.take_set_of_le (Nat.le_refl _)] at this
    exact this
theorem filter_take_snoc (p : Int → Bool) (l : List Int) (j : Nat) (h : j < l.length) : (l.take (j + 1)).filter p = (l.take j).filter p ++ (if p (rd l j) then [rd l j] else []) := by
  have e : rd l j = l[j] := by unfold rd; rw [Int.toNat_natCast, List.getD_eq_getElem?_getD, List.getElem?_eq_getElem h]; rfl
  rw [List.take_succ_eq_append_getElem h, List.filter_append, e]
  congr 1
  cases hp : p l[j] <;> simp [hp]
theorem rd_set_ne (l : List Int) (i j : Nat) (v : Int) (h : i ≠ j) : rd (l.set i v) j = rd l j := by
  unfold rd
  rw [Int.toNat_natCast, List.getD_eq_getElem?_getD, List.getElem?_set, if_neg h, List.getD_eq_getElem?_getD]
/-- What the loop holds: i kept, j looked at. -/
structure Del (W0 W : World) (base g cap n : Nat) (ok : Nat → Prop) (p : Int → Bool) (l cur : List Int) (i j : Nat) : Prop where
  row : RI W base ok (.slice (some ⟨g, 0, none⟩) n cap) cur
  len : cur.length = n
  ij : i < j
  jn : j ≤ n
  kept : cur.take i = (l.take j).filter fun x => !p x
  rest : ∀ t, j ≤ t → t < n → rd cur t = rd l t
  grown : W0.grownBy W (some g)
  cnt : i = ((l.take j).filter fun x => !p x).length
theorem Del.miss {W0 W W2 : World} {base g cap n : Nat} {ok : Nat → Prop} {p : Int → Bool} {l cur : List Int} {i j : Nat} (h : Del W0 W base g cap n ok p l cur i j) (hj : j < n) (hn : l.length = n) (hp : p (rd l j) = true) (hb : Below W.heap.size W W2) : Del W0 W2 base g cap n ok p l cur i (j + 1) := by
  have e := filter_take_snoc (fun x => !p x) l j (by omega)
  rw [hp] at e
  simp only [Bool.not_true, Bool.false_eq_true, if_false, List.append_nil] at e
  exact ⟨Kd.R_below h.row hb, h.len, by have := h.ij; omega, by omega, by rw [e]; exact h.kept, fun t h1 h2 => h.rest t (by omega) h2, h.grown.trans (grown_of_below hb _), by rw [e]; exact h.cnt⟩
theorem Del.hit {W0 W W2 W3 : World} {base g cap n : Nat} {ok : Nat → Prop} {p : Int → Bool} {l cur : List Int} {i j : Nat} (h : Del W0 W base g cap n ok p l cur i j) (hj : j < n) (hn : l.length = n) (hp : p (rd l j) = false) (hb : Below W.heap.size W W2)
    (hr : RI W3 base ok (.slice (some ⟨g, 0, none⟩) n cap) (cur.set i (rd l j))) (hg : W2.grownBy W3 (some g)) : Del W0 W3 base g cap n ok p l (cur.set i (rd l j)) (i + 1) (j + 1) := by
  have e := filter_take_snoc (fun x => !p x) l j (by omega)
  rw [hp] at e
  simp only [Bool.not_false, if_true] at e
  have hij := h.ij
  refine ⟨hr, by simpa using h.len, by omega, by omega, ?_, fun t h1 h2 => ?_, (h.grown.trans (grown_of_below hb _)).trans hg, by rw [e, List.length_append, ← h.cnt]; rfl⟩
  · rw [e, ← h.kept, List.take_succ_eq_append_getElem (by simp [h.len]; omega), List.take_set_of_le (Nat.le_refl _)]
    simp
  · rw [rd_set_ne _ _ _ _ (by omega)]
    exact h.rest t (by omega) h2

set_option maxHeartbeats 2000000 in
set_option maxRecDepth 100000 in
theorem c_deleteFunc (w : World) (base g cap : Nat) (ok : Nat → Prop) (l : List Int) (fv : Value) (p : Int → Bool) (hO : RI w base ok (.slice (some ⟨g, 0, none⟩) l.length cap) l) (hl : l.length < 1099511627776) (hcap : l.length ≤ cap)
    (hp : ∀ x ∈ l, ∀ w1, w.grownBy w1 (some g) → Runs Try.prog fv #[.int .i64 x] w1 fun e w2 => e = .returned (.bool (p x)) ∧ Below w1.heap.size w1 w2) :
    Calls Try.prog 117 #[.slice (some ⟨g, 0, none⟩) l.length cap, fv] w fun e w' => ∃ n, e = .returned (.slice (some ⟨g, 0, none⟩) n cap) ∧ RI w' base ok (.slice (some ⟨g, 0, none⟩) n cap) (l.filter fun x => !p x) ∧ w.grownBy w' (some g) := by
  have HO := Aside0.mk hO
  have HP := Aside0.mk hp
  have HX := Aside0.mk (indexFunc step_bel (some ⟨g, 0, none⟩) cap l fv p w (Kd.R_reads' hO).2.2 (fun x hx w1 hw1 => (hp x hx w1 (grown_of_below hw1.out _)).mono fun e w2 hh => ⟨hh.1, ⟨hh.2⟩⟩))
  clear hO hp
  cases hk : l.findIdx? p with
  | none =>
    have hi : idxFrom p l 0 = -1 := by unfold idxFrom; rw [hk]
    have HF : Aside0 (l.filter (fun x => !p x) = l) := ⟨by
      rw [List.findIdx?_eq_none_iff] at hk
      rw [List.filter_eq_self]
      intro x hx
      simp [hk x hx]⟩
    rw [hi] at HX
    clear hi hk
    go_enter Try.func117, Try.ntmps117
    go_wp2_with (first | (go_at_call 126; refine HX.out.mono ?_; rintro e w1 ⟨rfl, hb1⟩; have HB := Aside0.mk hb1; clear hb1))
    go_ret
    exact ⟨_, rfl, by rw [HF.out]; exact Kd.R_below HO.out HB.out.out, grown_of_below HB.out.out _⟩
  | some k0 =>
    have hi : idxFrom p l 0 = (k0 : Int) := by unfold idxFrom; rw [hk]; simp
    rw [List.findIdx?_eq_some_iff_getElem] at hk
    obtain ⟨hk1, hk2, hk3⟩ := hk
    have HD0 : Aside0 (∀ W, Below w.heap.size w W → Del w W base g cap l.length ok p l l k0 (k0 + 1)) := ⟨fun W hb => by
      have hf : (l.take k0).filter (fun x => !p x) = l.take k0 := by
        rw [List.filter_eq_self]
        intro x hx
        obtain ⟨t, ht, rfl⟩ := List.getElem_of_mem hx
        have ht2 : t < k0 := by rw [List.length_take] at ht; omega
        rw [List.getElem_take]
        have := hk3 t ht2
        simpa using this
      have e : rd l k0 = l[k0] := by unfold rd; rw [Int.toNat_natCast, List.getD_eq_getElem?_getD, List.getElem?_eq_getElem hk1]; rfl
      have e2 := filter_take_snoc (fun x => !p x) l k0 hk1
      rw [e, hk2, hf] at e2
      simp only [Bool.not_true, Bool.false_eq_true, if_false, List.append_nil] at e2
      exact ⟨Kd.R_below HO.out hb, rfl, by omega, by omega, by rw [e2], fun _ _ _ => rfl, grown_of_below hb _, by rw [e2, List.length_take]; omega⟩⟩
    rw [hi] at HX
    clear hi hk2 hk3
    go_enter Try.func117, Try.ntmps117
    go_wp2_with (first | (go_at_call 126; refine HX.out.mono ?_; rintro e w1 ⟨rfl, hb1⟩; have HB := Aside0.mk hb1; clear hb1))
    go_loopw [5, 6] (fun i j wr => ∃ (iN jN : Nat), iN < jN ∧ jN ≤ l.length ∧ i = .int .i64 (iN : Int) ∧ j = .int .i64 (jN : Int) ∧ Aside0 (∃ cur, Del w wr base g cap l.length ok p l cur iN jN)) (fun _ j _ => l.length - (intOf j).toNat)
    case atStart => exact ⟨k0, k0 + 1, by omega, by omega, rfl, by go_num, ⟨l, HD0.out _ HB.out.out⟩⟩
    case round =>
      clear HB HD0 HX HO hk1
      obtain ⟨i, j, hij, hjn, rfl, rfl, ⟨cur, hd⟩⟩ := hrel
      have HD := Aside0.mk hd
      clear hd
      by_cases hlt : j < l.length
      · have hlen := HD.out.len
        obtain ⟨ad, hA, hc⟩ := Kd.at_int (Kd.R_reads' HD.out.row).2.2 j (by omega) (by omega)
        obtain rfl := Option.some.inj hA
        rw [add_plain, HD.out.rest j (Nat.le_refl _) hlt, Int.toNat_natCast] at hc
        obtain ⟨x, hx⟩ : ∃ x, x = rd l j := ⟨_, rfl⟩
        have hrun := Aside0.mk (HP.out x (by rw [hx]; exact rd_mem l j hlt) wr HD.out.grown)
        rw [← hx] at hc
        have HXX := Aside0.mk hx
        clear hx
        cases hpx : p x with
        | true =>
          rw [hpx] at hrun
          have HPX := Aside0.mk hpx
          clear hpx
          go_wp2_with (first
            | ((with_reducible refine gate_dst (N := 28) rfl ?_); refine goesV (some 28) rfl rfl rfl (fv := fv) rfl #[.int .i64 x] (by (try simp only [List.map_toArray, List.map_cons, List.map_nil]); rfl) ?_; refine hrun.out.mono ?_; rintro e w2 ⟨rfl, h2⟩; refine ⟨_, rfl, ?_⟩; have HD2 := Aside0.mk (HD.out.miss hlt rfl (by rw [← HXX.out]; exact HPX.out) h2); clear h2))
          go_roundw
          case rel => exact ⟨i, j + 1, by omega, by omega, rfl, by go_num, ⟨_, HD2.out⟩⟩
          case measure => simp [intOf]; omega
        | false =>
          rw [hpx] at hrun
          have HPX := Aside0.mk hpx
          clear hpx
          go_wp2_with (first
            | ((with_reducible refine gate_dst (N := 28) rfl ?_); refine goesV (some 28) rfl rfl rfl (fv := fv) rfl #[.int .i64 x] (by (try simp only [List.map_toArray, List.map_cons, List.map_nil]); rfl) ?_; refine hrun.out.mono ?_; rintro e w2 ⟨rfl, h2⟩; refine ⟨_, rfl, ?_⟩; have HB2 := Aside0.mk h2; clear h2)
            | ((with_reducible refine gate_store (t := 2) (p := 33) rfl ?_); refine putI (w0 := _) (base := base) rfl rfl rfl (i : Int) cur x rfl (by rw [Int.toNat_natCast]) rfl (Kd.R_below HD.out.row HB2.out) (by omega) (by omega) (Below.refl _ _) ?_; intro w3 ho3 hb3 hg3; rw [Int.toNat_natCast, HXX.out] at ho3; have HD3 := Aside0.mk (HD.out.hit hlt rfl (by rw [← HXX.out]; exact HPX.out) HB2.out ho3 hg3); clear ho3 hb3 hg3))
          go_roundw
          case rel => exact ⟨i + 1, j + 1, by omega, by omega, by go_num, by go_num, ⟨_, HD3.out⟩⟩
          case measure => simp [intOf]; omega
      · obtain rfl : j = l.length := by omega
        have HCL : Aside0 (∀ ty, (Builtin.clear_ #[27] ty #[.slice (some ⟨g, i, none⟩) (l.length - i) (cap - i)]).run Try.prog wr = .ok (.tuple #[]) (wr.setCells g i (List.replicate (l.length - i) (.int .i64 0)))) := ⟨fun ty => by
          have hcells : ∀ t, t < l.length - i → wr.cell? ⟨g, i + t, none⟩ = some (.int .i64 (rd cur ((i + t : Nat) : Int))) := fun t ht => by
            have hlen := HD.out.len
            obtain ⟨ad, hA, hc⟩ := Kd.at_int (Kd.R_reads' HD.out.row).2.2 ((i + t : Nat) : Int) (by omega) (by omega)
            obtain rfl := Option.some.inj hA
            rw [add_plain, Int.toNat_natCast] at hc
            exact hc
          obtain ⟨cells, hblk⟩ := Kd.R_typed HD.out.row g (by simp [Value.ownBlock])
          exact Go.Lib.run_clear_slice wr _ _ ty _ Try.underlying27 (fun w => zero_i64' w) rfl rfl g i _ _ (by omega) (fun t ht => by rw [hcells t ht]; rfl) (fun t ht => by simp [World.frozen?, hblk])⟩
        obtain ⟨cur', hc1, hc2, hc3, hc4⟩ := cleared (l.length - i) i wr cur HD.out.row HD.out.len (by omega)
        have HQ := Aside0.mk (And.intro hc1 (And.intro hc2 (And.intro hc3 hc4)))
        clear hc1 hc2 hc3 hc4
        have hcl := HCL.out
        have b1 : (i : Int) ≤ (l.length : Int) := by omega
        have b2 : (0 : Int) ≤ (i : Int) := by omega
        go_wp2
        go_ret
        obtain ⟨hc1, hc2, hc3, hc4⟩ := HQ.out
        refine ⟨i, rfl, ?_, HD.out.grown.trans hc4⟩
        have hk := HD.out.kept
        rw [List.take_length] at hk
        rw [← hk, ← hc3]
        exact Kd.R_take hc1 (by omega)

set_option maxRecDepth 100000 in
/-- An empty row: it comes back. -/
theorem c_deleteEmpty (w : World) (A : Option Addr) (cap : Nat) (fv : Value) :
    Calls Try.prog 117 #[.slice A 0 cap, fv] w fun e w' => e = .returned (.slice A 0 cap) ∧ Below w.heap.size w w' := by
  have HX := Aside0.mk (indexFunc step_bel A cap [] fv (fun _ => false) w ⟨rfl, by simp, fun h => absurd h (by simp)⟩ (fun x hx => by simp at hx))
  go_enter Try.func117, Try.ntmps117
  go_wp2_with (first | (go_at_call 126; refine HX.out.mono ?_; rintro e w1 ⟨rfl, hb1⟩; have HB := Aside0.mk hb1; clear hb1))
  go_ret
  exact ⟨rfl, HB.out.out⟩
/-- slices.DeleteFunc at whatever row of the call's own. -/
theorem c_deleteAny (w : World) (base : Nat) (ok : Nat → Prop) (A : Option Addr) (cap : Nat) (l : List Int) (fv : Value) (p : Int → Bool) (hO : RI w base ok (.slice A l.length cap) l) (hl : l.length < 1099511627776)
    (hp : ∀ x ∈ l, ∀ w1, w.grownBy w1 (Value.slice A l.length cap).ownBlock → Runs Try.prog fv #[.int .i64 x] w1 fun e w2 => e = .returned (.bool (p x)) ∧ Below w1.heap.size w1 w2) :
    Calls Try.prog 117 #[.slice A l.length cap, fv] w fun e w' => ∃ n, e = .returned (.slice A n cap) ∧ RI w' base ok (.slice A n cap) (l.filter fun x => !p x) ∧ w.grownBy w' (Value.slice A l.length cap).ownBlock := by
  rcases Nat.eq_zero_or_pos l.length with h0 | h0
  · obtain rfl := List.eq_nil_of_length_eq_zero h0
    refine (c_deleteEmpty w A cap fv).mono ?_
    rintro e w' ⟨rfl, hb⟩
    exact ⟨0, rfl, Kd.R_below hO hb, grown_of_below hb _⟩
  · obtain ⟨g, cap', e, _, _, _⟩ := Kd.R_form hO h0
    injection e with ea _ ec
    subst ea ec
    have hob : (Value.slice (some ⟨g, 0, none⟩) l.length cap).ownBlock = some g := by simp [Value.ownBlock]
    rw [hob] at hp ⊢
    have hcap := (Kd.R_reads' hO).2.1
    exact c_deleteFunc w base g cap ok l fv p hO hl hcap hp
end Go.Proofs.Ytbnmjhcokdhjmaa.K
