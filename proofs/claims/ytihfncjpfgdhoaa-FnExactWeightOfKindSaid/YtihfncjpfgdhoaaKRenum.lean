/- impl.renumbered, in the form that printed callers ask. Conditions: told by .f. -/
import Derived.Test.YtihfncjpfgdhoaaKWord
import Derived.Test.YtihfncjpfgdhoaaWRepsOne
import Derived.Deep.RegionHeld3
import Derived.Deep.RegionLaw
set_option linter.unusedVariables false
set_option linter.unusedSimpArgs false
namespace Go.Proofs.Ytihfncjpfgdhoaa.K
open Go.RowKit Go.Proofs.YtihfncjpfgdhoaaW.PrintWords Go.Proofs.YtihfncjpfgdhoaaW.PrintLast Go.Proofs.YtihfncjpfgdhoaaW.PrintMore

theorem law_map_bool : Try.prog.underlying 84 = some (.map 2 4) := Try.underlying84
theorem zero_bool (w : World) : (zeroValue 4).run Try.prog w = .ok (.bool false) w := by kernel_rfl
/-- What the map of numbers seen holds. -/
def seenOf (met : List Int) : Lit → Option Value
  | .int .i64 x => if x ∈ met then some (.bool true) else none
  | _ => none
theorem seenOf_get (met : List Int) (x : Int) : (seenOf met (.int .i64 x)).getD (.bool false) = .bool (decide (x ∈ met)) := by
  simp only [seenOf]
  split <;> rename_i h <;> simp [h]
theorem seenOf_snoc (met : List Int) (x : Int) (kl : Lit) : seenOf (met ++ [x]) kl = if kl.sameKey (.int .i64 x) = true then some (.bool true) else seenOf met kl := by
  cases kl with
  | int q y => cases q <;> simp [seenOf, Lit.sameKey]; by_cases e : y = x <;> simp [e]
  | _ => simp [seenOf, Lit.sameKey]
theorem seenOf_again (met : List Int) (x : Int) (hx : x ∈ met) (kl : Lit) : seenOf met kl = if kl.sameKey (.int .i64 x) = true then some (.bool true) else seenOf met kl := by
  cases kl with
  | int q y => cases q <;> simp [seenOf, Lit.sameKey]; intro e; subst e; simp [hx]
  | _ => simp [seenOf, Lit.sameKey]
/-- Their own blocks are apart. -/
def Sep (u v : Value) : Prop := ∀ k, u.ownBlock = some k → some k ≠ v.ownBlock
/-- The world of the renumbering. -/
structure RenSt (w W : World) (mb gb gr : Nat) (v7 cH cS vH vS : Value) (N H S : List Int) (s : Nat) (m : Lit → Option Value) : Prop where
  map : MapV W Try.prog 2 mb s m
  blk : W.heap[gb]? = some (.cells #[v7, cH, cS] 34 (0, 0))
  res : W.heap[gr]? = some (.cells #[.slice none 0 0, .slice none 0 0, .slice none 0 0] 34 (0, 0))
  r7 : RI W w.heap.size (fun _ => True) v7 N
  rH : RI W w.heap.size (fun _ => True) vH H
  rS : RI W w.heap.size (fun _ => True) vS S
  s7H : Sep vH v7
  s7S : Sep vS v7
  sHS : Sep vH vS
  sSH : Sep vS vH
  bel : Below w.heap.size w W
  gB : w.heap.size ≤ gb
  mB : w.heap.size ≤ mb
  ne : gr ≠ gb
theorem blk_of_map {W : World} {P : Program} {k : TypeId} {b s : Nat} {m : Lit → Option Value} (h : MapV W P k b s m) {g : Nat} {cs : Array Value} {t : TypeId} {fr : Nat × Nat} (hb : W.heap[g]? = some (.cells cs t fr)) : g ≠ b := by
  obtain ⟨D, ⟨es, clock, h1, _⟩, _⟩ := h
  intro e
  subst e
  rw [hb] at h1
  cases h1
section
variable {w W W2 : World} {mb gb gr : Nat} {v7 cH cS vH vS : Value} {N H S : List Int} {s : Nat} {m : Lit → Option Value}
theorem RenSt.map_ne (h : RenSt w W mb gb gr v7 cH cS vH vS N H S s m) {v : Value} {l : List Int} (hv : RI W w.heap.size (fun _ => True) v l) : some mb ≠ v.ownBlock := by
  intro e
  obtain ⟨cells, hc⟩ := Kd.R_typed hv mb e.symm
  exact blk_of_map h.map hc rfl
theorem RenSt.blk_ne (h : RenSt w W mb gb gr v7 cH cS vH vS N H S s m) {v : Value} {l : List Int} (hv : RI W w.heap.size (fun _ => True) v l) : some gb ≠ v.ownBlock ∧ some gr ≠ v.ownBlock :=
  ⟨Kd.R_ne hv h.blk (by decide), Kd.R_ne hv h.res (by decide)⟩
/-- What leaves all old blocks alone. -/
theorem RenSt.below (h : RenSt w W mb gb gr v7 cH cS vH vS N H S s m) (hb : Below W.heap.size W W2) : RenSt w W2 mb gb gr v7 cH cS vH vS N H S s m :=
  ⟨h.map.below hb, (hb.block gb (blk_lt h.blk)).trans h.blk, (hb.block gr (blk_lt h.res)).trans h.res, Kd.R_below h.r7 hb, Kd.R_below h.rH hb, Kd.R_below h.rS hb, h.s7H, h.s7S, h.sHS, h.sSH, below_then h.bel h.bel.size hb, h.gB, h.mB, h.ne⟩
/-- The map is written. -/
theorem RenSt.stored (h : RenSt w W mb gb gr v7 cH cS vH vS N H S s m) {s2 : Nat} {m2 : Lit → Option Value} (hm : MapV W2 Try.prog 2 mb s2 m2) (hg : W.grownBy W2 (some mb)) : RenSt w W2 mb gb gr v7 cH cS vH vS N H S s2 m2 := by
  have nb := blk_of_map h.map h.blk
  have nr := blk_of_map h.map h.res
  refine ⟨hm, (hg.block gb (blk_lt h.blk) (by simpa using nb)).trans h.blk, (hg.block gr (blk_lt h.res) (by simpa using nr)).trans h.res, Kd.R_grown2 h.r7 rfl hg ?_, Kd.R_grown2 h.rH rfl hg ?_, Kd.R_grown2 h.rS rfl hg ?_, h.s7H, h.s7S, h.sHS, h.sSH, h.bel.grown hg h.bel.size ?_, h.gB, h.mB, h.ne⟩
  · intro k hk; cases hk; exact h.map_ne h.r7
  · intro k hk; cases hk; exact h.map_ne h.rH
  · intro k hk; cases hk; exact h.map_ne h.rS
  · intro k hk; cases hk; exact h.mB
/-- The Heads' row is appended to. -/
theorem RenSt.appH (h : RenSt w W mb gb gr v7 cH cS vH vS N H S s m) {v : Value} {H2 : List Int} (hr : RI W2 w.heap.size (fun _ => True) v H2) (hb : Below w.heap.size w W2) (hg : W.grownBy W2 vH.ownBlock) (hat : v.ownBlock = vH.ownBlock ∨ ∃ b, v.ownBlock = some b ∧ W.heap.size ≤ b) : RenSt w W2 mb gb gr v7 cH cS v vS N H2 S s m := by
  have hx := h.blk_ne h.rH
  have hmb := h.map_ne h.rH
  have new : ∀ {u : Value} {l : List Int}, RI W w.heap.size (fun _ => True) u l → Sep vH u → Sep v u ∧ Sep u v := fun {u l} hu hs => by
    have key : ∀ k, v.ownBlock = some k → some k ≠ u.ownBlock := fun k hk => by
      rcases hat with e | ⟨b, e, hle⟩
      · exact hs k (e ▸ hk)
      · intro e2
        have h1 := Kd.R_lt hu k e2.symm
        rw [e] at hk
        injection hk with hk
        omega
    exact ⟨key, fun k hk e => key k e.symm hk.symm⟩
  refine ⟨h.map.kept hg hmb, (hg.block gb (blk_lt h.blk) hx.1).trans h.blk, (hg.block gr (blk_lt h.res) hx.2).trans h.res, Kd.R_grown2 h.r7 rfl hg (fun k hk => h.s7H k hk), hr, Kd.R_grown2 h.rS rfl hg (fun k hk => h.sHS k hk), (new h.r7 h.s7H).1, h.s7S, (new h.rS h.sHS).1, (new h.rS h.sHS).2, hb, h.gB, h.mB, h.ne⟩
theorem RenSt.swap_ (h : RenSt w W mb gb gr v7 cH cS vH vS N H S s m) {v : Value} {S2 : List Int} (hr : RI W2 w.heap.size (fun _ => True) v S2) (hb : Below w.heap.size w W2) (hg : W.grownBy W2 vS.ownBlock) (hat : v.ownBlock = vS.ownBlock ∨ ∃ b, v.ownBlock = some b ∧ W.heap.size ≤ b) : RenSt w W2 mb gb gr v7 cH cS vH v N H S2 s m := by
  have hx := h.blk_ne h.rS
  have hmb := h.map_ne h.rS
  have new : ∀ {u : Value} {l : List Int}, RI W w.heap.size (fun _ => True) u l → Sep vS u → Sep v u ∧ Sep u v := fun {u l} hu hs => by
    have key : ∀ k, v.ownBlock = some k → some k ≠ u.ownBlock := fun k hk => by
      rcases hat with e | ⟨b, e, hle⟩
      · exact hs k (e ▸ hk)
      · intro e2
        have h1 := Kd.R_lt hu k e2.symm
        rw [e] at hk
        injection hk with hk
        omega
    exact ⟨key, fun k hk e => key k e.symm hk.symm⟩
  refine ⟨h.map.kept hg hmb, (hg.block gb (blk_lt h.blk) hx.1).trans h.blk, (hg.block gr (blk_lt h.res) hx.2).trans h.res, Kd.R_grown2 h.r7 rfl hg (fun k hk => h.s7S k hk), Kd.R_grown2 h.rH rfl hg (fun k hk => h.sSH k hk), hr, h.s7H, (new h.r7 h.s7S).1, (new h.rH h.sSH).2, (new h.rH h.sSH).1, hb, h.gB, h.mB, h.ne⟩
theorem heap_put (W : World) (g j : Nat) (u : Value) (k : Nat) (h : k ≠ g) : (W.setCell ⟨g, j, none⟩ u).heap[k]? = W.heap[k]? := Below.heap_setCell W ⟨g, j, none⟩ u k h
/-- Both fields are written. -/
theorem RenSt.puts (h : RenSt w W mb gb gr v7 cH cS vH vS N H S s m) : RenSt w ((W.setCell ⟨gb, 1, none⟩ vH).setCell ⟨gb, 2, none⟩ vS) mb gb gr v7 vH vS vH vS N H S s m := by
  have nb := blk_of_map h.map h.blk
  have row : ∀ {v : Value} {l : List Int}, RI W w.heap.size (fun _ => True) v l → RI ((W.setCell ⟨gb, 1, none⟩ vH).setCell ⟨gb, 2, none⟩ vS) w.heap.size (fun _ => True) v l := fun {v l} hv =>
    Kd.R_mono (Kd.R_far (Kd.R_far (Kd.R_far1 hv rfl (h.blk_ne hv).1) (p := ⟨gb, 1, none⟩) (fun _ hk => hk.2) vH) (p := ⟨gb, 2, none⟩) (fun _ hk => hk.2) vS) (fun _ _ => trivial)
  refine ⟨h.map.block ((heap_put _ _ _ _ _ (Ne.symm nb)).trans (heap_put _ _ _ _ _ (Ne.symm nb))), blk_put (cs := #[v7, vH, cS]) (blk_put h.blk 1 vH rfl) 2 vS rfl, ((heap_put _ _ _ _ _ h.ne).trans (heap_put _ _ _ _ _ h.ne)).trans h.res, row h.r7, row h.rH, row h.rS, h.s7H, h.s7S, h.sHS, h.sSH, below_set (below_set h.bel h.gB) h.gB, h.gB, h.mB, h.ne⟩
theorem bel_of_grown (hg : W.grownBy W2 none) : Below W.heap.size W W2 := ⟨hg.os, hg.tape, hg.output, hg.size, fun i hi => hg.block i hi (by simp)⟩
theorem held_ (h : RenSt w W mb gb gr v7 cH cS vH vS N H S s m) {a1 a2 : Addr} {u1 u2 : Value} (h1 : w.cell? a1 = some u1) (h2 : w.cell? a2 = some u2) : W.cell? ⟨gb, 1, none⟩ = some cH ∧ W.cell? ⟨gb, 2, none⟩ = some cS ∧ W.cell? a1 = some u1 ∧ W.cell? a2 = some u2 :=
  ⟨(blk_cell h.blk 1).trans rfl, (blk_cell h.blk 2).trans rfl, (h.bel.cell (World.block_lt_of_cell? w _ h1)).trans h1, (h.bel.cell (World.block_lt_of_cell? w _ h2)).trans h2⟩
end
theorem repsI {W : World} {base : Nat} (y : Int) : Reps ((Kd.int .i64).M W base fun _ => False) (Kd.int .i64).sz [y] [.int .i64 y] := Reps.one (p := y) (v := .int .i64 y) rfl (Reps.none _ _)
theorem metBy_length (l : List Int) : ∀ met, (metBy met l).length ≤ met.length + l.length := by
  induction l with
  | nil => intro met; exact Nat.le_refl _
  | cons x r ih =>
    intro met
    rw [metBy]
    split
    · have := ih met; simp only [List.length_cons]; omega
    · have := ih (met ++ [x]); simp only [List.length_cons, List.length_append, List.length_nil] at this ⊢; omega
/-- The numbers met, and what the rows tell of them. -/
def firsts (l hs : List Int) : List Int := (metBy [] l).map fun x => rd hs x
theorem metBy_append (l t : List Int) : ∀ met, metBy met (l ++ t) = metBy (metBy met l) t := by
  induction l with
  | nil => intro met; rfl
  | cons x r ih =>
    intro met
    rw [List.cons_append, metBy, metBy]
    split <;> exact ih _
theorem metBy_one (met : List Int) (x : Int) : metBy met [x] = if x ∈ met then met else met ++ [x] := by
  rw [metBy]
  cases h : met.idxOf? x with
  | some j =>
    have hx : x ∈ met := by
      have : ¬ met.idxOf? x = none := by rw [h]; simp
      rw [List.idxOf?_eq_none_iff] at this
      simpa using this
    simp [hx, metBy]
  | none =>
    have hx : x ∉ met := by simpa [List.idxOf?_eq_none_iff] using h
    simp [hx, metBy]
theorem metBy_snoc (l : List Int) (k : Int) (h0 : 0 ≤ k) (h : k < l.length) : metBy [] (l.take (k + 1).toNat) = if rd l k ∈ metBy [] (l.take k.toNat) then metBy [] (l.take k.toNat) else metBy [] (l.take k.toNat) ++ [rd l k] := by
  rw [take_snoc' l k h0 h, metBy_append, metBy_one]

set_option maxHeartbeats 2000000 in
set_option maxRecDepth 100000 in
theorem c_renumbered (A0 A1 A2 : Option Addr) (c0 c1 c2 : Nat) (l hs ss : List Int) (w : World) (hl : l.length < 1099511627776) (h64 : Ok64 l) (hr0 : CI w A0 l.length l) (hr1 : CI w A1 hs.length hs) (hr2 : CI w A2 ss.length ss)
    (hin : ∀ x ∈ l, 0 ≤ x ∧ x < hs.length ∧ x < ss.length) :
    Calls Try.prog 71 #[.slice A0 l.length c0, .slice A1 hs.length c1, .slice A2 ss.length c2] w fun e w' => ∃ v0_ v1_ v2_ : Value, e = .returned (.agg #[v0_, v1_, v2_]) ∧
      RI w' w.heap.size (fun _ => True) v0_ (normalL l) ∧ RI w' w.heap.size (fun _ => True) v1_ (firsts l hs) ∧ RI w' w.heap.size (fun _ => True) v2_ (firsts l ss) ∧ Sep v1_ v0_ ∧ Sep v2_ v0_ ∧ Sep v1_ v2_ ∧ Sep v2_ v1_ ∧ Below w.heap.size w w' := by
  have HR := Aside0.mk hr0
  have HR1 := Aside0.mk hr1
  have HR2 := Aside0.mk hr2
  have H64 := Aside0.mk h64
  have HIN := Aside0.mk hin
  clear hr0 hr1 hr2 h64 hin
  go_enter Try.func71, Try.ntmps71
  go_wp2_with (first
    | (go_at_call 92; refine (c_normal A0 c0 l _ hl H64.out (Kd.C_alloc HR.out _)).mono ?_; rintro e w1 ⟨v7, rfl, ho, hb⟩; have HO := Aside0.mk ho; have HB := Aside0.mk hb; clear ho hb; obtain ⟨A7, c7, e7⟩ := Kd.R_slice HO.out; subst e7)
    | ((with_reducible refine gate_dst (N := 14) rfl ?_); refine mapMake rfl rfl rfl law_map_bool ?_; intro w2 hM hg hb hsz; have HM := Aside0.mk hM; have HG := Aside0.mk hb; clear hM hg hb))
  have hsz1 : w.heap.size + 1 ≤ w1.heap.size := by have := HB.out.size; simpa using this
  have h0st : RenSt w (w2.alloc (.cells #[.slice A7 (normalL l).length c7, .slice none 0 0, .slice none 0 0] 34)) w1.heap.size (w1.heap.size + 1) w.heap.size (.slice A7 (normalL l).length c7) (.slice none 0 0) (.slice none 0 0) (.slice none 0 0) (.slice none 0 0) (normalL l) [] [] 0 (seenOf []) := by
    have hbel1 : Below w.heap.size w w1 := by
      have h1 : Below w.heap.size w (w.alloc (.cells #[.slice none 0 0, .slice none 0 0, .slice none 0 0] 34)) := below_alloc (Below.refl _ _) _
      exact below_then h1 h1.size HB.out
    have hbel2 : Below w.heap.size w w2 := below_then hbel1 hbel1.size HG.out
    have hal : Below w2.heap.size w2 (w2.alloc (.cells #[.slice A7 (normalL l).length c7, .slice none 0 0, .slice none 0 0] 34)) := below_alloc (Below.refl _ _) _
    refine ⟨(HM.out.congr (fun kl _ => by cases kl with | int q x => cases q <;> rfl | _ => rfl)).below hal, ?_, ?_, Kd.R_below (Kd.R_below (Kd.R_lower HO.out (by simp)) HG.out) hal, Kd.R_nil _ _ _ _ _, Kd.R_nil _ _ _ _ _, ?_, ?_, ?_, ?_, below_then hbel2 hbel2.size hal, by omega, by omega, by omega⟩
    · rw [← hsz]; exact heap_alloc_new _ _
    · rw [hal.block _ (by omega), HG.out.block _ (by omega), HB.out.block _ (by simp)]; exact heap_alloc_new _ _
    all_goals (intro k hk; simp [Value.ownBlock] at hk)
  have HST := Aside0.mk h0st
  clear h0st HM HO HG
  go_loopw [19] (fun i wr => ∃ (k : Int), 0 ≤ k ∧ k ≤ l.length ∧ i = .int .i64 k ∧ Aside0 (∃ s AH cH AS cS, s ≤ k.toNat ∧ RenSt w wr w1.heap.size (w1.heap.size + 1) w.heap.size (.slice A7 (normalL l).length c7) (.slice AH (firsts (l.take k.toNat) hs).length cH) (.slice AS (firsts (l.take k.toNat) ss).length cS) (.slice AH (firsts (l.take k.toNat) hs).length cH) (.slice AS (firsts (l.take k.toNat) ss).length cS) (normalL l) (firsts (l.take k.toNat) hs) (firsts (l.take k.toNat) ss) s (seenOf (metBy [] (l.take k.toNat))))) (fun i _ => l.length - (intOf i).toNat)
  case atStart => exact ⟨0, by omega, by omega, rfl, ⟨0, none, 0, none, 0, Nat.le_refl _, HST.out⟩⟩
  case round =>
    clear HST HB
    obtain ⟨k, hk0, hk, rfl, ⟨s, AH, cH, AS, cS, hs1, hst⟩⟩ := hrel
    have HST := Aside0.mk hst
    have HS := Aside0.mk hs1
    clear hst hs1
    by_cases hlt : k < l.length
    · obtain ⟨ad, hA, hc⟩ := Kd.at_int (Kd.C_below HR.out HST.out.bel) k (by omega) (by omega)
      subst hA
      have HMS := Aside0.mk (metBy_snoc l k hk0 hlt)
      obtain ⟨x, hx⟩ : ∃ x, x = rd l k := ⟨_, rfl⟩
      rw [← hx] at hc HMS
      have hxm : x ∈ l := by
        have := rd_mem l k.toNat (by omega)
        rw [show ((k.toNat : Nat) : Int) = k by omega, ← hx] at this
        exact this
      have HK := Aside0.mk (key_i64 (in64_wf (H64.out x hxm)))
      have hxr := HIN.out x hxm
      clear hx hxm
      have HGT := Aside0.mk (seenOf_get (metBy [] (l.take k.toNat)) x)
      by_cases hin : x ∈ metBy [] (l.take k.toNat)
      · rw [decide_eq_true hin] at HGT
        rw [if_pos hin] at HMS
        have HIX := Aside0.mk hin
        clear hin
        go_wp2_with (first
          | ((with_reducible refine gate_dst (N := 25) rfl ?_); refine mapLook rfl rfl law_i64 law_map_bool (zero_bool _) HST.out.map rfl (.int .i64 x) (.int .i64 x) rfl HK.out trivial ?_; rw [HGT.out])
          | (at_mapUpdate; refine mapStore rfl rfl law_i64 law_map_bool HST.out.map (by have := HS.out; omega) rfl (.int .i64 x) (.bool true) (.int .i64 x) rfl rfl HK.out trivial ?_; intro w3 hM3 hg3; obtain ⟨s2, hs2, hM4⟩ : ∃ s2, s2 ≤ s + 1 ∧ MapV w3 Try.prog 2 w1.heap.size s2 (seenOf (metBy [] (l.take k.toNat))) := ⟨_, by split <;> omega, hM3.congr (fun kl _ => seenOf_again _ x HIX.out kl)⟩; have HST3 := Aside0.mk (HST.out.stored hM4 hg3); have HS2 := Aside0.mk hs2; clear HST hM3 hM4 hg3 hs2))
        go_roundw
        case rel =>
          refine ⟨k + 1, by omega, by omega, rfl, ⟨s2, AH, cH, AS, cS, by have := HS.out; have := HS2.out; omega, ?_⟩⟩
          have e1 : firsts (l.take (k + 1).toNat) hs = firsts (l.take k.toNat) hs := by unfold firsts; rw [HMS.out]
          have e2 : firsts (l.take (k + 1).toNat) ss = firsts (l.take k.toNat) ss := by unfold firsts; rw [HMS.out]
          rw [e1, e2, HMS.out]
          exact HST3.out
        case measure => simp [intOf]; omega
      · rw [decide_eq_false hin] at HGT
        rw [if_neg hin] at HMS
        have HIX := Aside0.mk hin
        clear hin
        go_wp2_with (first
          | ((with_reducible refine gate_dst (N := 25) rfl ?_); refine mapLook rfl rfl law_i64 law_map_bool (zero_bool _) HST.out.map rfl (.int .i64 x) (.int .i64 x) rfl HK.out trivial ?_; rw [HGT.out]))
        have HLT := Aside0.mk (metBy_length (l.take k.toNat) [])
        obtain ⟨ad1, hA1, hh1⟩ := Kd.at_int HR1.out x hxr.1 hxr.2.1
        obtain ⟨ad2, hA2, hh2⟩ := Kd.at_int HR2.out x hxr.1 hxr.2.2
        subst hA1 hA2
        have HA1 := Aside0.mk hh1
        have HA2 := Aside0.mk hh2
        have d0 := eq_true hxr.1
        have d1 := eq_true hxr.2.1
        have d2 := eq_true hxr.2.2
        clear hh1 hh2 hxr
        have HN1 : Aside0 (firsts (l.take (k + 1).toNat) hs = firsts (l.take k.toNat) hs ++ [rd hs x]) := ⟨by unfold firsts; rw [HMS.out, List.map_append]; rfl⟩
        have HN2 : Aside0 (firsts (l.take (k + 1).toNat) ss = firsts (l.take k.toNat) ss ++ [rd ss x]) := ⟨by unfold firsts; rw [HMS.out, List.map_append]; rfl⟩
        have HLN : Aside0 ((firsts (l.take k.toNat) hs).length < 1099511627776 ∧ (firsts (l.take k.toNat) ss).length < 1099511627776) := ⟨by
          have h1 := HLT.out
          rw [List.length_take, List.length_nil] at h1
          unfold firsts
          rw [List.length_map, List.length_map]
          omega⟩
        obtain ⟨met, hmet⟩ : ∃ met, met = metBy [] (l.take k.toNat) := ⟨_, rfl⟩
        obtain ⟨Hl, hHl⟩ : ∃ Hl, Hl = firsts (l.take k.toNat) hs := ⟨_, rfl⟩
        obtain ⟨Sl, hSl⟩ : ∃ Sl, Sl = firsts (l.take k.toNat) ss := ⟨_, rfl⟩
        rw [← hmet, ← hHl, ← hSl] at HST
        rw [← hHl] at HN1
        rw [← hSl] at HN2
        rw [← hHl, ← hSl] at HLN
        rw [← hmet] at HMS HIX
        clear HGT HLT hmet hHl hSl
        -- REGION 7: laid by gen_renum.py
        refine start_ (n := 20) (S := fun w' => w'.cell? ⟨w1.heap.size + 1, 1, none⟩ = some (.slice AH Hl.length cH) ∧ w'.cell? ⟨w1.heap.size + 1, 2, none⟩ = some (.slice AS Sl.length cS) ∧ w'.cell? (ad1.add x.toNat) = some (.int .i64 (rd hs x)) ∧ w'.cell? (ad2.add x.toNat) = some (.int .i64 (rd ss x))) (ds := [17, 19]) #[false, false, false, false, false, false, false, false, false, false, false, false, false, false, false, false, false, false, false, false] (by kernel_rfl) rfl rfl (held_ (HST.out.below (below_drew1 (Below.refl _ _))) HA1.out HA2.out) (fun hHeld => ?_)
        have n0_ := Aside0.mk (HST.out.below (below_drew1 (Below.refl _ _)))
        clear HST
        have HST := n0_
        clear n0_
        generalize wr.drew = wd at HST hHeld ⊢
        refine pure_ (i := 0) (N := some 27) (v := ?_) (a' := ?_) #[true, false, false, false, false, false, false, false, false, false, false, false, false, false, false, false, false, false, false, false] rfl rfl (by kernel_rfl) (fun _ _ _ h => h) (Or.inl ⟨by rfl, ?_⟩) ?_ ?_
        rotate_left
        · intro w'
          go_simp
          with_reducible rfl
        rotate_left
        · simp only [Act.put, List.setIfInBounds_toArray, List.set_cons_zero, List.set_cons_succ, i64_w, i32_w]
          rfl
        refine pure_ (i := 2) (N := some 29) (v := ?_) (a' := ?_) #[true, false, true, false, false, false, false, false, false, false, false, false, false, false, false, false, false, false, false, false] rfl rfl (by kernel_rfl) (fun _ _ _ h => h) (Or.inl ⟨by rfl, ?_⟩) ?_ ?_
        rotate_left
        · intro w'
          go_simp
          with_reducible rfl
        rotate_left
        · simp only [Act.put, List.setIfInBounds_toArray, List.set_cons_zero, List.set_cons_succ, i64_w, i32_w]
          rfl
        refine pure_ (i := 3) (N := some 30) (v := ?_) (a' := ?_) #[true, false, true, true, false, false, false, false, false, false, false, false, false, false, false, false, false, false, false, false] rfl rfl (by kernel_rfl) (fun _ _ _ h => h) (Or.inl ⟨by rfl, ?_⟩) ?_ ?_
        rotate_left
        · intro w'
          go_simp
          with_reducible rfl
        rotate_left
        · simp only [Act.put, List.setIfInBounds_toArray, List.set_cons_zero, List.set_cons_succ, i64_w, i32_w]
          rfl
        refine pure_ (i := 8) (N := some 35) (v := ?_) (a' := ?_) #[true, false, true, true, false, false, false, false, true, false, false, false, false, false, false, false, false, false, false, false] rfl rfl (by kernel_rfl) (fun _ _ _ h => h) (Or.inl ⟨by rfl, ?_⟩) ?_ ?_
        rotate_left
        · intro w'
          go_simp
          with_reducible rfl
        rotate_left
        · simp only [Act.put, List.setIfInBounds_toArray, List.set_cons_zero, List.set_cons_succ, i64_w, i32_w]
          rfl
        refine pure_ (i := 10) (N := some 37) (v := ?_) (a' := ?_) #[true, false, true, true, false, false, false, false, true, false, true, false, false, false, false, false, false, false, false, false] rfl rfl (by kernel_rfl) (fun _ _ _ h => h) (Or.inl ⟨by rfl, ?_⟩) ?_ ?_
        rotate_left
        · intro w'
          go_simp
          with_reducible rfl
        rotate_left
        · simp only [Act.put, List.setIfInBounds_toArray, List.set_cons_zero, List.set_cons_succ, i64_w, i32_w]
          rfl
        refine pure_ (i := 11) (N := some 38) (v := ?_) (a' := ?_) #[true, false, true, true, false, false, false, false, true, false, true, true, false, false, false, false, false, false, false, false] rfl rfl (by kernel_rfl) (fun _ _ _ h => h) (Or.inl ⟨by rfl, ?_⟩) ?_ ?_
        rotate_left
        · intro w'
          go_simp
          with_reducible rfl
        rotate_left
        · simp only [Act.put, List.setIfInBounds_toArray, List.set_cons_zero, List.set_cons_succ, i64_w, i32_w]
          rfl
        refine take_ (i := 1) (N := some 28) (v := ?_) (a' := ?_) #[true, true, true, true, false, false, false, false, true, false, true, true, false, false, false, false, false, false, false, false] rfl rfl (by kernel_rfl) (fun _ _ _ h => h) (Or.inl ⟨by rfl, ?_⟩) hHeld ?_ ?_
        rotate_left
        · rintro w' ⟨s0, s1, s2, s3⟩
          go_simp
          with_reducible rfl
        rotate_left
        · simp only [Act.put, List.setIfInBounds_toArray, List.set_cons_zero, List.set_cons_succ, i64_w, i32_w]
          rfl
        refine take_ (i := 4) (N := some 31) (v := ?_) (a' := ?_) #[true, true, true, true, true, false, false, false, true, false, true, true, false, false, false, false, false, false, false, false] rfl rfl (by kernel_rfl) (fun _ _ _ h => h) (Or.inl ⟨by rfl, ?_⟩) hHeld ?_ ?_
        rotate_left
        · rintro w' ⟨s0, s1, s2, s3⟩
          go_simp
          with_reducible rfl
        rotate_left
        · simp only [Act.put, List.setIfInBounds_toArray, List.set_cons_zero, List.set_cons_succ, i64_w, i32_w]
          rfl
        refine take_ (i := 5) (N := some 32) (v := ?_) (a' := ?_) #[true, true, true, true, true, true, false, false, true, false, true, true, false, false, false, false, false, false, false, false] rfl rfl (by kernel_rfl) (fun _ _ _ h => h) (Or.inl ⟨by rfl, ?_⟩) hHeld ?_ ?_
        rotate_left
        · rintro w' ⟨s0, s1, s2, s3⟩
          go_simp
          with_reducible rfl
        rotate_left
        · simp only [Act.put, List.setIfInBounds_toArray, List.set_cons_zero, List.set_cons_succ, i64_w, i32_w]
          rfl
        refine take_ (i := 9) (N := some 36) (v := ?_) (a' := ?_) #[true, true, true, true, true, true, false, false, true, true, true, true, false, false, false, false, false, false, false, false] rfl rfl (by kernel_rfl) (fun _ _ _ h => h) (Or.inl ⟨by rfl, ?_⟩) hHeld ?_ ?_
        rotate_left
        · rintro w' ⟨s0, s1, s2, s3⟩
          go_simp
          with_reducible rfl
        rotate_left
        · simp only [Act.put, List.setIfInBounds_toArray, List.set_cons_zero, List.set_cons_succ, i64_w, i32_w]
          rfl
        refine take_ (i := 12) (N := some 39) (v := ?_) (a' := ?_) #[true, true, true, true, true, true, false, false, true, true, true, true, true, false, false, false, false, false, false, false] rfl rfl (by kernel_rfl) (fun _ _ _ h => h) (Or.inl ⟨by rfl, ?_⟩) hHeld ?_ ?_
        rotate_left
        · rintro w' ⟨s0, s1, s2, s3⟩
          go_simp
          with_reducible rfl
        rotate_left
        · simp only [Act.put, List.setIfInBounds_toArray, List.set_cons_zero, List.set_cons_succ, i64_w, i32_w]
          rfl
        refine take_ (i := 13) (N := some 40) (v := ?_) (a' := ?_) #[true, true, true, true, true, true, false, false, true, true, true, true, true, true, false, false, false, false, false, false] rfl rfl (by kernel_rfl) (fun _ _ _ h => h) (Or.inl ⟨by rfl, ?_⟩) hHeld ?_ ?_
        rotate_left
        · rintro w' ⟨s0, s1, s2, s3⟩
          go_simp
          with_reducible rfl
        rotate_left
        · simp only [Act.put, List.setIfInBounds_toArray, List.set_cons_zero, List.set_cons_succ, i64_w, i32_w]
          rfl
        obtain ⟨B0, hB0⟩ : ∃ B0, B0 = wd.heap.size := ⟨_, rfl⟩
        have HBH : Aside0 (∀ k_, (Value.slice AH Hl.length cH).ownBlock = some k_ → k_ < B0) := ⟨fun k_ hk_ => by rw [hB0]; exact Kd.R_lt HST.out.rH k_ hk_⟩
        have HBS : Aside0 (∀ k_, (Value.slice AS Sl.length cS).ownBlock = some k_ → k_ < B0) := ⟨fun k_ hk_ => by rw [hB0]; exact Kd.R_lt HST.out.rS k_ hk_⟩
        have HZ : Aside0 (B0 ≤ wd.heap.size) := ⟨by rw [hB0]; exact Nat.le_refl _⟩
        clear hB0
        refine join_ (σ := Value × Value × (Option Addr × Nat) × (Option Addr × Nat)) 3 #[true, true, true, true, true, true, true, true, true, true, true, true, true, true, true, true, true, false, false, false] (fun s_ => [(33, s_.1), (41, s_.2.1), (43, .pointer (some ⟨w1.heap.size + 1, 1, none⟩)), (34, .slice s_.2.2.1.1 (Hl ++ [rd hs x]).length s_.2.2.1.2), (42, .slice s_.2.2.2.1 (Sl ++ [rd ss x]).length s_.2.2.2.2)]) (fun s_ w' => RenSt w w' w1.heap.size (w1.heap.size + 1) w.heap.size (.slice A7 (normalL l).length c7) (.slice AH Hl.length cH) (.slice AS Sl.length cS) (.slice s_.2.2.1.1 (Hl ++ [rd hs x]).length s_.2.2.1.2) (.slice s_.2.2.2.1 (Sl ++ [rd ss x]).length s_.2.2.2.2) (normalL l) (Hl ++ [rd hs x]) (Sl ++ [rd ss x]) s (seenOf met)) ?_ ?_
        rotate_left
        · intro hCont
          refine two_ (i := 6) (j := 14) (Ni := some 33) (Nj := some 41) #[true, true, true, true, true, true, true, false, true, true, true, true, true, true, false, false, false, false, false, false] #[true, true, true, true, true, true, false, false, true, true, true, true, true, true, true, false, false, false, false, false] rfl rfl rfl rfl (by kernel_rfl) (by decide) (by decide) (fun K hK => ?_) (fun K hK => ?_)
          · skip
            refine Kd.R_lit_step (Kd.int .i64) w.heap.size 2 (w0 := w) (by rfl) (N := 33) rfl (xs := [(rd hs x)]) (inner := [.int .i64 (rd hs x)]) (ok := fun k_ => B0 ≤ k_) (okp := fun _ => False) ?hr (repsI (rd hs x)) (fun _ h => h.elim) HZ.out HST.out.bel HST.out.bel.size (by simp) ?_
            case hr => first | (go_simp; done) | (go_simp; rfl)
            intro v33 w33 ho hb hg hnew
            have hbw := bel_of_grown hg
            have n0_ := Aside0.mk (HST.out.below hbw)
            have n1_ := Aside0.mk (Nat.le_trans HZ.out hbw.size)
            have n2_ := Aside0.mk ho
            clear HST HZ 
            have HST := n0_
            have HZ := n1_
            have HF33 := n2_
            clear n0_ n1_ n2_ ho hb hg hnew hbw 
            obtain ⟨A33, c33, e33⟩ := Kd.R_slice HF33.out
            subst e33
            refine hK.out _ _ (held_ HST.out HA1.out HA2.out) (fun hHeld => ?_)
            clear hK K
            refine norm_ (a' := ?_) ?_ ?_
            rotate_left
            · show Act.put _ (some 33) _ = _
              simp only [Act.put, List.setIfInBounds_toArray, List.set_cons_zero, List.set_cons_succ, i64_w, i32_w]
              rfl
            refine two_ (i := 7) (j := 14) (Ni := some 34) (Nj := some 41) #[true, true, true, true, true, true, true, true, true, true, true, true, true, true, false, false, false, false, false, false] #[true, true, true, true, true, true, true, false, true, true, true, true, true, true, true, false, false, false, false, false] rfl rfl rfl rfl (by kernel_rfl) (by decide) (by decide) (fun K hK => ?_) (fun K hK => ?_)
            · skip
              refine Kd.R_append_rows_step (Kd.int .i64) (w0 := w) w.heap.size (by rfl) (.tmp 28) (.tmp 33) 22 2 (.int .i64 0) 8 rfl Try.underlying22 info2 rfl (by decide) (by omega) (.slice AH Hl.length cH) Hl [(rd hs x)] A33 1 c33 (fun _ => True) (fun _ => False) rfl rfl HST.out.rH (Kd.R_reads' HF33.out).2.2 (fun _ _ h => h) (fun _ h => h.elim) (fun _ _ => trivial) HST.out.bel HST.out.bel.size (by have := HLN.out; omega) ?_
              intro v34 w34 ho hb hg hat
              obtain ⟨A34, c34, e34⟩ := Kd.R_slice ho
              subst e34
              have n0_ := Aside0.mk (HST.out.appH ho hb hg hat)
              have n1_ := Aside0.mk (Nat.le_trans HZ.out hg.size)
              clear HST HZ HF33
              have HST := n0_
              have HZ := n1_
              clear n0_ n1_ ho hb hg hat 
              refine hK.out _ _ (held_ HST.out HA1.out HA2.out) (fun hHeld => ?_)
              clear hK K
              refine norm_ (a' := ?_) ?_ ?_
              rotate_left
              · show Act.put _ (some 34) _ = _
                simp only [Act.put, List.setIfInBounds_toArray, List.set_cons_zero, List.set_cons_succ, i64_w, i32_w]
                rfl
              refine pure_ (i := 16) (N := some 43) (v := ?_) (a' := ?_) #[true, true, true, true, true, true, true, true, true, true, true, true, true, true, false, false, true, false, false, false] rfl rfl (by kernel_rfl) (fun _ _ _ h => h) (Or.inl ⟨by rfl, ?_⟩) ?_ ?_
              rotate_left
              · intro w'
                go_simp
                with_reducible rfl
              rotate_left
              · simp only [Act.put, List.setIfInBounds_toArray, List.set_cons_zero, List.set_cons_succ, i64_w, i32_w]
                rfl
              refine one_ (i := 14) (N := some 41) #[true, true, true, true, true, true, true, true, true, true, true, true, true, true, true, false, true, false, false, false] rfl rfl (by kernel_rfl) (by decide) (fun K hK => ?_)
              refine Kd.R_lit_step (Kd.int .i64) w.heap.size 2 (w0 := w) (by rfl) (N := 41) rfl (xs := [(rd ss x)]) (inner := [.int .i64 (rd ss x)]) (ok := fun k_ => B0 ≤ k_) (okp := fun _ => False) ?hr (repsI (rd ss x)) (fun _ h => h.elim) HZ.out HST.out.bel HST.out.bel.size (by simp) ?_
              case hr => first | (go_simp; done) | (go_simp; rfl)
              intro v41 w41 ho hb hg hnew
              have hbw := bel_of_grown hg
              have n0_ := Aside0.mk (HST.out.below hbw)
              have n1_ := Aside0.mk (Nat.le_trans HZ.out hbw.size)
              have n2_ := Aside0.mk ho
              clear HST HZ 
              have HST := n0_
              have HZ := n1_
              have HF41 := n2_
              clear n0_ n1_ n2_ ho hb hg hnew hbw 
              obtain ⟨A41, c41, e41⟩ := Kd.R_slice HF41.out
              subst e41
              refine hK.out _ _ (held_ HST.out HA1.out HA2.out) (fun hHeld => ?_)
              clear hK K
              refine norm_ (a' := ?_) ?_ ?_
              rotate_left
              · show Act.put _ (some 41) _ = _
                simp only [Act.put, List.setIfInBounds_toArray, List.set_cons_zero, List.set_cons_succ, i64_w, i32_w]
                rfl
              refine one_ (i := 15) (N := some 42) #[true, true, true, true, true, true, true, true, true, true, true, true, true, true, true, true, true, false, false, false] rfl rfl (by kernel_rfl) (by decide) (fun K hK => ?_)
              refine Kd.R_append_rows_step (Kd.int .i64) (w0 := w) w.heap.size (by rfl) (.tmp 36) (.tmp 41) 22 2 (.int .i64 0) 8 rfl Try.underlying22 info2 rfl (by decide) (by omega) (.slice AS Sl.length cS) Sl [(rd ss x)] A41 1 c41 (fun _ => True) (fun _ => False) rfl rfl HST.out.rS (Kd.R_reads' HF41.out).2.2 (fun _ _ h => h) (fun _ h => h.elim) (fun _ _ => trivial) HST.out.bel HST.out.bel.size (by have := HLN.out; omega) ?_
              intro v42 w42 ho hb hg hat
              obtain ⟨A42, c42, e42⟩ := Kd.R_slice ho
              subst e42
              have n0_ := Aside0.mk (HST.out.swap_ ho hb hg hat)
              have n1_ := Aside0.mk (Nat.le_trans HZ.out hg.size)
              clear HST HZ HF41
              have HST := n0_
              have HZ := n1_
              clear n0_ n1_ ho hb hg hat 
              refine hK.out _ _ (held_ HST.out HA1.out HA2.out) (fun hHeld => ?_)
              clear hK K
              refine norm_ (a' := ?_) ?_ ?_
              rotate_left
              · show Act.put _ (some 42) _ = _
                simp only [Act.put, List.setIfInBounds_toArray, List.set_cons_zero, List.set_cons_succ, i64_w, i32_w]
                rfl
              exact norm_ (by simp only [putAll, Act.put, List.setIfInBounds_toArray, List.set_cons_zero, List.set_cons_succ]) (hCont (.slice A33 [rd hs x].length c33, .slice A41 [rd ss x].length c41, (A34, c34), (A42, c42)) _ HST.out)
            · skip
              refine Kd.R_lit_step (Kd.int .i64) w.heap.size 2 (w0 := w) (by rfl) (N := 41) rfl (xs := [(rd ss x)]) (inner := [.int .i64 (rd ss x)]) (ok := fun k_ => B0 ≤ k_) (okp := fun _ => False) ?hr (repsI (rd ss x)) (fun _ h => h.elim) HZ.out HST.out.bel HST.out.bel.size (by simp) ?_
              case hr => first | (go_simp; done) | (go_simp; rfl)
              intro v41 w41 ho hb hg hnew
              have hbw := bel_of_grown hg
              have n0_ := Aside0.mk (HST.out.below hbw)
              have n1_ := Aside0.mk (Nat.le_trans HZ.out hbw.size)
              have mHF33_ := Aside0.mk (Kd.R_below HF33.out hbw)
              have n2_ := Aside0.mk ho
              clear HST HZ HF33
              have HST := n0_
              have HZ := n1_
              have HF33 := mHF33_
              have HF41 := n2_
              clear n0_ n1_ n2_ ho hb hg hnew hbw mHF33_
              obtain ⟨A41, c41, e41⟩ := Kd.R_slice HF41.out
              subst e41
              refine hK.out _ _ (held_ HST.out HA1.out HA2.out) (fun hHeld => ?_)
              clear hK K
              refine norm_ (a' := ?_) ?_ ?_
              rotate_left
              · show Act.put _ (some 41) _ = _
                simp only [Act.put, List.setIfInBounds_toArray, List.set_cons_zero, List.set_cons_succ, i64_w, i32_w]
                rfl
              refine one_ (i := 7) (N := some 34) #[true, true, true, true, true, true, true, true, true, true, true, true, true, true, true, false, false, false, false, false] rfl rfl (by kernel_rfl) (by decide) (fun K hK => ?_)
              refine Kd.R_append_rows_step (Kd.int .i64) (w0 := w) w.heap.size (by rfl) (.tmp 28) (.tmp 33) 22 2 (.int .i64 0) 8 rfl Try.underlying22 info2 rfl (by decide) (by omega) (.slice AH Hl.length cH) Hl [(rd hs x)] A33 1 c33 (fun _ => True) (fun _ => False) rfl rfl HST.out.rH (Kd.R_reads' HF33.out).2.2 (fun _ _ h => h) (fun _ h => h.elim) (fun _ _ => trivial) HST.out.bel HST.out.bel.size (by have := HLN.out; omega) ?_
              intro v34 w34 ho hb hg hat
              obtain ⟨A34, c34, e34⟩ := Kd.R_slice ho
              subst e34
              have n0_ := Aside0.mk (HST.out.appH ho hb hg hat)
              have n1_ := Aside0.mk (Nat.le_trans HZ.out hg.size)
              have mHF41_ := Aside0.mk (Kd.R_grown HF41.out hg (fun k_ hk_ e_ => Nat.not_lt.2 hk_ (HBH.out k_ e_.symm)))
              clear HST HZ HF33 HF41
              have HST := n0_
              have HZ := n1_
              have HF41 := mHF41_
              clear n0_ n1_ ho hb hg hat mHF41_
              refine hK.out _ _ (held_ HST.out HA1.out HA2.out) (fun hHeld => ?_)
              clear hK K
              refine norm_ (a' := ?_) ?_ ?_
              rotate_left
              · show Act.put _ (some 34) _ = _
                simp only [Act.put, List.setIfInBounds_toArray, List.set_cons_zero, List.set_cons_succ, i64_w, i32_w]
                rfl
              refine pure_ (i := 16) (N := some 43) (v := ?_) (a' := ?_) #[true, true, true, true, true, true, true, true, true, true, true, true, true, true, true, false, true, false, false, false] rfl rfl (by kernel_rfl) (fun _ _ _ h => h) (Or.inl ⟨by rfl, ?_⟩) ?_ ?_
              rotate_left
              · intro w'
                go_simp
                with_reducible rfl
              rotate_left
              · simp only [Act.put, List.setIfInBounds_toArray, List.set_cons_zero, List.set_cons_succ, i64_w, i32_w]
                rfl
              refine one_ (i := 15) (N := some 42) #[true, true, true, true, true, true, true, true, true, true, true, true, true, true, true, true, true, false, false, false] rfl rfl (by kernel_rfl) (by decide) (fun K hK => ?_)
              refine Kd.R_append_rows_step (Kd.int .i64) (w0 := w) w.heap.size (by rfl) (.tmp 36) (.tmp 41) 22 2 (.int .i64 0) 8 rfl Try.underlying22 info2 rfl (by decide) (by omega) (.slice AS Sl.length cS) Sl [(rd ss x)] A41 1 c41 (fun _ => True) (fun _ => False) rfl rfl HST.out.rS (Kd.R_reads' HF41.out).2.2 (fun _ _ h => h) (fun _ h => h.elim) (fun _ _ => trivial) HST.out.bel HST.out.bel.size (by have := HLN.out; omega) ?_
              intro v42 w42 ho hb hg hat
              obtain ⟨A42, c42, e42⟩ := Kd.R_slice ho
              subst e42
              have n0_ := Aside0.mk (HST.out.swap_ ho hb hg hat)
              have n1_ := Aside0.mk (Nat.le_trans HZ.out hg.size)
              clear HST HZ HF41
              have HST := n0_
              have HZ := n1_
              clear n0_ n1_ ho hb hg hat 
              refine hK.out _ _ (held_ HST.out HA1.out HA2.out) (fun hHeld => ?_)
              clear hK K
              refine norm_ (a' := ?_) ?_ ?_
              rotate_left
              · show Act.put _ (some 42) _ = _
                simp only [Act.put, List.setIfInBounds_toArray, List.set_cons_zero, List.set_cons_succ, i64_w, i32_w]
                rfl
              exact norm_ (by simp only [putAll, Act.put, List.setIfInBounds_toArray, List.set_cons_zero, List.set_cons_succ]) (hCont (.slice A33 [rd hs x].length c33, .slice A41 [rd ss x].length c41, (A34, c34), (A42, c42)) _ HST.out)
          · skip
            refine Kd.R_lit_step (Kd.int .i64) w.heap.size 2 (w0 := w) (by rfl) (N := 41) rfl (xs := [(rd ss x)]) (inner := [.int .i64 (rd ss x)]) (ok := fun k_ => B0 ≤ k_) (okp := fun _ => False) ?hr (repsI (rd ss x)) (fun _ h => h.elim) HZ.out HST.out.bel HST.out.bel.size (by simp) ?_
            case hr => first | (go_simp; done) | (go_simp; rfl)
            intro v41 w41 ho hb hg hnew
            have hbw := bel_of_grown hg
            have n0_ := Aside0.mk (HST.out.below hbw)
            have n1_ := Aside0.mk (Nat.le_trans HZ.out hbw.size)
            have n2_ := Aside0.mk ho
            clear HST HZ 
            have HST := n0_
            have HZ := n1_
            have HF41 := n2_
            clear n0_ n1_ n2_ ho hb hg hnew hbw 
            obtain ⟨A41, c41, e41⟩ := Kd.R_slice HF41.out
            subst e41
            refine hK.out _ _ (held_ HST.out HA1.out HA2.out) (fun hHeld => ?_)
            clear hK K
            refine norm_ (a' := ?_) ?_ ?_
            rotate_left
            · show Act.put _ (some 41) _ = _
              simp only [Act.put, List.setIfInBounds_toArray, List.set_cons_zero, List.set_cons_succ, i64_w, i32_w]
              rfl
            refine one_ (i := 6) (N := some 33) #[true, true, true, true, true, true, true, false, true, true, true, true, true, true, true, false, false, false, false, false] rfl rfl (by kernel_rfl) (by decide) (fun K hK => ?_)
            refine Kd.R_lit_step (Kd.int .i64) w.heap.size 2 (w0 := w) (by rfl) (N := 33) rfl (xs := [(rd hs x)]) (inner := [.int .i64 (rd hs x)]) (ok := fun k_ => B0 ≤ k_) (okp := fun _ => False) ?hr (repsI (rd hs x)) (fun _ h => h.elim) HZ.out HST.out.bel HST.out.bel.size (by simp) ?_
            case hr => first | (go_simp; done) | (go_simp; rfl)
            intro v33 w33 ho hb hg hnew
            have hbw := bel_of_grown hg
            have n0_ := Aside0.mk (HST.out.below hbw)
            have n1_ := Aside0.mk (Nat.le_trans HZ.out hbw.size)
            have mHF41_ := Aside0.mk (Kd.R_below HF41.out hbw)
            have n2_ := Aside0.mk ho
            clear HST HZ HF41
            have HST := n0_
            have HZ := n1_
            have HF41 := mHF41_
            have HF33 := n2_
            clear n0_ n1_ n2_ ho hb hg hnew hbw mHF41_
            obtain ⟨A33, c33, e33⟩ := Kd.R_slice HF33.out
            subst e33
            refine hK.out _ _ (held_ HST.out HA1.out HA2.out) (fun hHeld => ?_)
            clear hK K
            refine norm_ (a' := ?_) ?_ ?_
            rotate_left
            · show Act.put _ (some 33) _ = _
              simp only [Act.put, List.setIfInBounds_toArray, List.set_cons_zero, List.set_cons_succ, i64_w, i32_w]
              rfl
            refine one_ (i := 7) (N := some 34) #[true, true, true, true, true, true, true, true, true, true, true, true, true, true, true, false, false, false, false, false] rfl rfl (by kernel_rfl) (by decide) (fun K hK => ?_)
            refine Kd.R_append_rows_step (Kd.int .i64) (w0 := w) w.heap.size (by rfl) (.tmp 28) (.tmp 33) 22 2 (.int .i64 0) 8 rfl Try.underlying22 info2 rfl (by decide) (by omega) (.slice AH Hl.length cH) Hl [(rd hs x)] A33 1 c33 (fun _ => True) (fun _ => False) rfl rfl HST.out.rH (Kd.R_reads' HF33.out).2.2 (fun _ _ h => h) (fun _ h => h.elim) (fun _ _ => trivial) HST.out.bel HST.out.bel.size (by have := HLN.out; omega) ?_
            intro v34 w34 ho hb hg hat
            obtain ⟨A34, c34, e34⟩ := Kd.R_slice ho
            subst e34
            have n0_ := Aside0.mk (HST.out.appH ho hb hg hat)
            have n1_ := Aside0.mk (Nat.le_trans HZ.out hg.size)
            have mHF41_ := Aside0.mk (Kd.R_grown HF41.out hg (fun k_ hk_ e_ => Nat.not_lt.2 hk_ (HBH.out k_ e_.symm)))
            clear HST HZ HF33 HF41
            have HST := n0_
            have HZ := n1_
            have HF41 := mHF41_
            clear n0_ n1_ ho hb hg hat mHF41_
            refine hK.out _ _ (held_ HST.out HA1.out HA2.out) (fun hHeld => ?_)
            clear hK K
            refine norm_ (a' := ?_) ?_ ?_
            rotate_left
            · show Act.put _ (some 34) _ = _
              simp only [Act.put, List.setIfInBounds_toArray, List.set_cons_zero, List.set_cons_succ, i64_w, i32_w]
              rfl
            refine pure_ (i := 16) (N := some 43) (v := ?_) (a' := ?_) #[true, true, true, true, true, true, true, true, true, true, true, true, true, true, true, false, true, false, false, false] rfl rfl (by kernel_rfl) (fun _ _ _ h => h) (Or.inl ⟨by rfl, ?_⟩) ?_ ?_
            rotate_left
            · intro w'
              go_simp
              with_reducible rfl
            rotate_left
            · simp only [Act.put, List.setIfInBounds_toArray, List.set_cons_zero, List.set_cons_succ, i64_w, i32_w]
              rfl
            refine one_ (i := 15) (N := some 42) #[true, true, true, true, true, true, true, true, true, true, true, true, true, true, true, true, true, false, false, false] rfl rfl (by kernel_rfl) (by decide) (fun K hK => ?_)
            refine Kd.R_append_rows_step (Kd.int .i64) (w0 := w) w.heap.size (by rfl) (.tmp 36) (.tmp 41) 22 2 (.int .i64 0) 8 rfl Try.underlying22 info2 rfl (by decide) (by omega) (.slice AS Sl.length cS) Sl [(rd ss x)] A41 1 c41 (fun _ => True) (fun _ => False) rfl rfl HST.out.rS (Kd.R_reads' HF41.out).2.2 (fun _ _ h => h) (fun _ h => h.elim) (fun _ _ => trivial) HST.out.bel HST.out.bel.size (by have := HLN.out; omega) ?_
            intro v42 w42 ho hb hg hat
            obtain ⟨A42, c42, e42⟩ := Kd.R_slice ho
            subst e42
            have n0_ := Aside0.mk (HST.out.swap_ ho hb hg hat)
            have n1_ := Aside0.mk (Nat.le_trans HZ.out hg.size)
            clear HST HZ HF41
            have HST := n0_
            have HZ := n1_
            clear n0_ n1_ ho hb hg hat 
            refine hK.out _ _ (held_ HST.out HA1.out HA2.out) (fun hHeld => ?_)
            clear hK K
            refine norm_ (a' := ?_) ?_ ?_
            rotate_left
            · show Act.put _ (some 42) _ = _
              simp only [Act.put, List.setIfInBounds_toArray, List.set_cons_zero, List.set_cons_succ, i64_w, i32_w]
              rfl
            exact norm_ (by simp only [putAll, Act.put, List.setIfInBounds_toArray, List.set_cons_zero, List.set_cons_succ]) (hCont (.slice A33 [rd hs x].length c33, .slice A41 [rd ss x].length c41, (A34, c34), (A42, c42)) _ HST.out)
        rintro ⟨v33, v41, ⟨A34, c34⟩, ⟨A42, c42⟩⟩ w5 h5
        have h5' : RenSt w w5 w1.heap.size (w1.heap.size + 1) w.heap.size (.slice A7 (normalL l).length c7) (.slice AH Hl.length cH) (.slice AS Sl.length cS) (.slice A34 (Hl ++ [rd hs x]).length c34) (.slice A42 (Sl ++ [rd ss x]).length c42) (normalL l) (Hl ++ [rd hs x]) (Sl ++ [rd ss x]) s (seenOf met) := h5
        have HST5 := Aside0.mk h5'
        clear h5 h5' HST HZ HBH HBS hHeld
        have hc0 : w5.cell? ⟨w1.heap.size + 1, 0, none⟩ = some (.slice A7 (normalL l).length c7) := (blk_cell HST5.out.blk 0).trans rfl
        have hc1 : w5.cell? ⟨w1.heap.size + 1, 1, none⟩ = some (.slice AH Hl.length cH) := (blk_cell HST5.out.blk 1).trans rfl
        have hc2 : w5.cell? ⟨w1.heap.size + 1, 2, none⟩ = some (.slice AS Sl.length cS) := (blk_cell HST5.out.blk 2).trans rfl
        have hf1 := blk_frozen HST5.out.blk 1
        have hf2 := blk_frozen HST5.out.blk 2
        refine norm_ (a' := ?_) ?_ ?_
        rotate_left
        · simp only [putAll, Act.put, List.setIfInBounds_toArray, List.set_cons_zero, List.set_cons_succ]
          rfl
        obtain ⟨nH, hnH⟩ : ∃ n_, n_ = (Hl ++ [rd hs x]).length := ⟨_, rfl⟩
        obtain ⟨nS, hnS⟩ : ∃ n_, n_ = (Sl ++ [rd ss x]).length := ⟨_, rfl⟩
        rw [← hnH, ← hnS] at HST5 ⊢
        have HNH := Aside0.mk hnH
        have HNS := Aside0.mk hnS
        clear hnH hnS
        refine last_ (i := 17) (N := none) #[true, true, true, true, true, true, true, true, true, true, true, true, true, true, true, true, true, true, false, false] rfl rfl (by kernel_rfl) (by decide) (fun K hK => ?_)
        refine skip_ (w1 := ?_) (by rfl) rfl ?_ ?_
        rotate_left
        · go_simp
          rfl
        refine hK.out _ _ ?_
        clear hK K
        refine pure_ (i := 18) (N := some 44) (v := ?_) (a' := ?_) #[true, true, true, true, true, true, true, true, true, true, true, true, true, true, true, true, true, true, true, false] rfl rfl (by kernel_rfl) (fun _ _ _ h => h) (Or.inl ⟨by rfl, ?_⟩) ?_ ?_
        rotate_left
        · intro w'
          go_simp
          with_reducible rfl
        rotate_left
        · simp only [Act.put, List.setIfInBounds_toArray, List.set_cons_zero, List.set_cons_succ, i64_w, i32_w]
          rfl
        refine last_ (i := 19) (N := none) #[true, true, true, true, true, true, true, true, true, true, true, true, true, true, true, true, true, true, true, true] rfl rfl (by kernel_rfl) (by decide) (fun K hK => ?_)
        refine skip_ (w1 := ?_) (by rfl) rfl ?_ ?_
        rotate_left
        · go_simp
          rfl
        refine hK.out _ _ ?_
        clear hK K
        refine done_ (by kernel_rfl) ?_
        have HST6 := Aside0.mk HST5.out.puts
        clear hc0 hc1 hc2 hf1 hf2 HST5
        -- END OF REGION 7
        go_wp2_with (first
          | (at_mapUpdate; refine mapStore rfl rfl law_i64 law_map_bool HST6.out.map (by have := HS.out; omega) rfl (.int .i64 x) (.bool true) (.int .i64 x) rfl rfl HK.out trivial ?_; intro w3 hM3 hg3; obtain ⟨s2, hs2, hM4⟩ : ∃ s2, s2 ≤ s + 1 ∧ MapV w3 Try.prog 2 w1.heap.size s2 (seenOf (met ++ [x])) := ⟨_, by split <;> omega, hM3.congr (fun kl _ => seenOf_snoc _ x kl)⟩; have HST7 := Aside0.mk (HST6.out.stored hM4 hg3); have HS2 := Aside0.mk hs2; clear HST6 hM3 hM4 hg3 hs2))
        go_roundw
        case rel =>
          refine ⟨k + 1, by omega, by omega, rfl, ⟨s2, A34, c34, A42, c42, by have := HS.out; have := HS2.out; omega, ?_⟩⟩
          rw [HN1.out, HN2.out, HMS.out]
          have h7 := HST7.out
          rw [HNH.out, HNS.out] at h7
          exact h7
        case measure => simp [intOf]; omega
    · obtain rfl : k = l.length := by omega
      have e1 : l.take ((l.length : Int)).toNat = l := by rw [show ((l.length : Int)).toNat = l.length by omega, List.take_length]
      rw [e1] at HST
      have hb1 := HST.out.blk
      have hb2 := HST.out.res
      have hne := HST.out.ne
      have hc0 : wr.cell? ⟨w1.heap.size + 1, 0, none⟩ = some (.slice A7 (normalL l).length c7) := (blk_cell hb1 0).trans rfl
      have hc1 : wr.cell? ⟨w1.heap.size + 1, 1, none⟩ = some (.slice AH (firsts l hs).length cH) := (blk_cell hb1 1).trans rfl
      have hc2 : wr.cell? ⟨w1.heap.size + 1, 2, none⟩ = some (.slice AS (firsts l ss).length cS) := (blk_cell hb1 2).trans rfl
      have hd0 : wr.cell? ⟨w.heap.size, 0, none⟩ = some (.slice none 0 0) := (blk_cell hb2 0).trans rfl
      have hd1 : wr.cell? ⟨w.heap.size, 1, none⟩ = some (.slice none 0 0) := (blk_cell hb2 1).trans rfl
      have hd2 : wr.cell? ⟨w.heap.size, 2, none⟩ = some (.slice none 0 0) := (blk_cell hb2 2).trans rfl
      have hf0 := blk_frozen hb2 0
      have hf1 := blk_frozen hb2 1
      have hf2 := blk_frozen hb2 2
      have HB1 := Aside0.mk hb1
      have HB2 := Aside0.mk hb2
      clear hb1 hb2
      go_wp2
      refine bodyPost_ret (results_cell_row rfl _ _ w.heap.size 34 #[.slice A7 (normalL l).length c7, .slice AH (firsts l hs).length cH, .slice AS (firsts l ss).length cS] (0, 0) _ rfl (blk_put (cs := #[.slice A7 (normalL l).length c7, .slice AH (firsts l hs).length cH, .slice none 0 0]) (blk_put (cs := #[.slice A7 (normalL l).length c7, .slice none 0 0, .slice none 0 0]) (blk_put HB2.out 0 _ rfl) 1 _ rfl) 2 _ rfl) Try.underlying34 rfl (by kernel_rfl)) rfl ?_
      have row : ∀ {v : Value} {l_ : List Int}, RI wr w.heap.size (fun _ => True) v l_ → some w.heap.size ≠ v.ownBlock → ∀ u0 u1 u2, RI (((wr.setCell ⟨w.heap.size, 0, none⟩ u0).setCell ⟨w.heap.size, 1, none⟩ u1).setCell ⟨w.heap.size, 2, none⟩ u2) w.heap.size (fun _ => True) v l_ := fun {v l_} hv hne u0 u1 u2 =>
        Kd.R_mono (Kd.R_far (Kd.R_far (Kd.R_far (Kd.R_far1 hv rfl hne) (p := ⟨w.heap.size, 0, none⟩) (fun _ hk => hk.2) u0) (p := ⟨w.heap.size, 1, none⟩) (fun _ hk => hk.2) u1) (p := ⟨w.heap.size, 2, none⟩) (fun _ hk => hk.2) u2) (fun _ _ => trivial)
      exact ⟨_, _, _, rfl, row HST.out.r7 (HST.out.blk_ne HST.out.r7).2 _ _ _, row HST.out.rH (HST.out.blk_ne HST.out.rH).2 _ _ _, row HST.out.rS (HST.out.blk_ne HST.out.rS).2 _ _ _, HST.out.s7H, HST.out.s7S, HST.out.sHS, HST.out.sSH, below_set (below_set (below_set HST.out.bel (Nat.le_refl _)) (Nat.le_refl _)) (Nat.le_refl _)⟩

def impl_renumbered.f (l0 l1 l2 : List Int) : Option (List Int × List Int × List Int) := if l0.length < 1099511627776 ∧ Ok64 l0 ∧ (∀ x ∈ l0, 0 ≤ x ∧ x < l1.length ∧ x < l2.length) then some (normalL l0, firsts l0 l1, firsts l0 l2) else none
theorem impl_renumbered.calls (A0 : Option Addr) (c0 : Nat) (l0 : List Int) (A1 : Option Addr) (c1 : Nat) (l1 : List Int) (A2 : Option Addr) (c2 : Nat) (l2 : List Int) (r1 : List Int) (r2 : List Int) (r3 : List Int) (w : World) (hr0 : Kd.C (Kd.int .i64) w A0 l0.length l0) (hc0 : l0.length ≤ c0) (hr1 : Kd.C (Kd.int .i64) w A1 l1.length l1) (hc1 : l1.length ≤ c1) (hr2 : Kd.C (Kd.int .i64) w A2 l2.length l2) (hc2 : l2.length ≤ c2) (h : impl_renumbered.f l0 l1 l2 = some (r1, r2, r3)) :
    Calls Try.prog 71 #[.slice A0 l0.length c0, .slice A1 l1.length c1, .slice A2 l2.length c2] w fun e w' => ∃ v0_ v1_ v2_ : Value, e = .returned (.agg #[v0_, v1_, v2_]) ∧ Kd.R (Kd.int .i64) 2 w' w.heap.size (fun k_ => some k_ ≠ (v1_ : Value).ownBlock ∧ some k_ ≠ (v2_ : Value).ownBlock) v0_ r1 ∧ Kd.R (Kd.int .i64) 2 w' w.heap.size (fun k_ => some k_ ≠ (v0_ : Value).ownBlock ∧ some k_ ≠ (v2_ : Value).ownBlock) v1_ r2 ∧ Kd.R (Kd.int .i64) 2 w' w.heap.size (fun k_ => some k_ ≠ (v0_ : Value).ownBlock ∧ some k_ ≠ (v1_ : Value).ownBlock) v2_ r3 ∧ Below w.heap.size w w' := by
  unfold impl_renumbered.f at h
  split at h
  case isFalse => cases h
  rename_i hh
  simp only [Option.some.injEq, Prod.mk.injEq] at h
  obtain ⟨rfl, rfl, rfl⟩ := h
  refine (c_renumbered A0 A1 A2 c0 c1 c2 l0 l1 l2 w hh.1 hh.2.1 hr0 hr1 hr2 hh.2.2).mono ?_
  rintro e w' ⟨v0, v1, v2, rfl, h0, h1, h2, s10, s20, s12, s21, hb⟩
  have sep : ∀ {u v : Value} {lu : List Int}, Kd.R (Kd.int .i64) 2 w' w.heap.size (fun _ => True) u lu → ∀ k, u.ownBlock = some k → k < w'.heap.size := fun hu k hk => Kd.R_lt hu k hk
  refine ⟨v0, v1, v2, rfl, ?_, ?_, ?_, hb⟩
  · exact ⟨fun k hk => ⟨fun e => s10 k e.symm hk.symm, fun e => s20 k e.symm hk.symm⟩, h0.2⟩
  · exact ⟨fun k hk => ⟨s10 k hk, s12 k hk⟩, h1.2⟩
  · exact ⟨fun k hk => ⟨s20 k hk, s21 k hk⟩, h2.2⟩
end Go.Proofs.Ytihfncjpfgdhoaa.K
