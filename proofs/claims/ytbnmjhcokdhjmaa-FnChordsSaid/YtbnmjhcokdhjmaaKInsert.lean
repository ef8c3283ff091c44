/- slices.Clone of numbers. Conditions: fewer than 2^44 elements (told by .f). slices.Insert at []int64 into a row of the call's own, and impl.inserted. Conditions: at least one number is put in, which lies in a row of its own; fewer than 2^40 elements. slices.Insert at []int64 as one contract, and impl.inserted in the form that printed callers ask. Conditions: in each (the numbers lie in a row of the call's own). -/
import Derived.Test.YtbnmjhcokdhjmaaKRows
import Derived.Lib.Walk
import Derived.Lib.SliceRun
import Derived.Lib.Overlaps
import Derived.Lib.AppendZerosOnto
import Derived.Laws.Externs
import Derived.Laws.IdiomCopy
import Derived.Shelf.Spec.SlicesInsert
import Derived.Laws.NewBlocks
import Derived.Deep.RegionLaw
import Derived.Test.YtbnmjhcokdhjmaaKEv
import Derived.Test.YtbnmjhcokdhjmaaKCl

set_option linter.unusedVariables false
set_option linter.unusedSimpArgs false
namespace Go.Proofs.Ytbnmjhcokdhjmaa.K
open Go.RowKit Go.Lib Go.Proofs.YtbnmjhcokdhjmaaW.PrintWords Go.Proofs.YtbnmjhcokdhjmaaW.PrintLast Go.Proofs.YtbnmjhcokdhjmaaW.PrintMore

/-- A row's block, told by its cells. -/
structure Blk (W : World) (g cap : Nat) (cur : Array Value) : Prop where
  mk ::
  blk : W.heap[g]? = some (.cells cur 2 (0, 0))
  size : cur.size = cap
  max : cap ≤ maxLen
abbrev ev (l : List Int) : List Value := encs (Value.int .i64) l
theorem ev_length (l : List Int) : (ev l).length = l.length := by simp [ev, encs]
theorem ev_append (a b : List Int) : ev (a ++ b) = ev a ++ ev b := by simp [ev, encs]
theorem ev_one (l : List Int) : ∀ v ∈ ev l, v.oneCell' = true := by
  intro v hv
  simp only [ev, encs, List.mem_map] at hv
  obtain ⟨x, _, rfl⟩ := hv
  rfl
theorem blk_of {W : World} {B : Nat} {ok : Nat → Prop} {g n cap : Nat} {l : List Int} (h : RI W B ok (.slice (some ⟨g, 0, none⟩) n cap) l) : ∃ cur, Blk W g cap cur ∧ B ≤ g ∧ n = l.length ∧ l.length ≤ cap ∧ cur.toList.take l.length = ev l := by
  obtain ⟨h1, h2⟩ := Kd.own_of_R h
  rcases h2 with ⟨e, _⟩ | ⟨g', cap', cur, e, hb, hh, hn, hm, hs, ht⟩
  · cases e
  · injection e with e1 e2 e3
    injection e1 with e1
    injection e1 with e1
    subst e1
    subst e3
    exact ⟨cur, ⟨hh, by rw [hs, Nat.mul_one], hm⟩, hb, e2, hn, by have := ht; rw [Nat.mul_one] at this; exact this⟩
theorem blk_row {W : World} {B : Nat} {ok : Nat → Prop} {g cap : Nat} {cur : Array Value} {l : List Int} (h : Blk W g cap cur) (hB : B ≤ g) (hok : ok g) (hl : l.length ≤ cap) (ht : cur.toList.take l.length = ev l) : RI W B ok (.slice (some ⟨g, 0, none⟩) l.length cap) l :=
  Kd.R_of_own ⟨by rw [ev_length, Nat.mul_one], .inr ⟨g, cap, cur, rfl, hB, h.blk, hl, h.max, by rw [h.size, Nat.mul_one], by rw [Nat.mul_one]; exact ht⟩⟩ (fun k hk => by
    simp only [Value.ownBlock, Option.some.injEq] at hk
    subst hk
    exact hok)
theorem Blk.cell {W : World} {g cap : Nat} {cur : Array Value} (h : Blk W g cap cur) (j : Nat) : W.cell? ⟨g, j, none⟩ = cur[j]? := blk_cell h.blk j
theorem Blk.some {W : World} {g cap : Nat} {cur : Array Value} (h : Blk W g cap cur) (j : Nat) (hj : j < cap) : (W.cell? ⟨g, j, none⟩).isSome = true := by
  rw [h.cell]
  have := h.size
  simp [this, hj]
theorem Blk.puts {W : World} {g cap : Nat} {cur : Array Value} (h : Blk W g cap cur) (o : Nat) (vs : List Value) (hl : o + vs.length ≤ cap) :
    ∃ cur', Blk (W.setCells g o vs) g cap cur' ∧ cur'.toList = cur.toList.take o ++ vs ++ cur.toList.drop (o + vs.length) := by
  obtain ⟨cur', h1, h2, h3⟩ := setCells_row vs o W cur h.blk (by rw [h.size]; exact hl)
  exact ⟨cur', ⟨h1, by rw [h2, h.size], h.max⟩, h3⟩
theorem puts_grown (g : Nat) (o : Nat) (vs : List Value) (W : World) : W.grownBy (W.setCells g o vs) (some g) := by
  obtain ⟨s1, s2, s3, s4⟩ := setCells_same g vs o W
  exact ⟨s1, s2, s3, by rw [s4]; exact Nat.le_refl _, fun k _ hk => setCells_far _ _ k (fun he => hk (by rw [he]))⟩

/-- The model's own answer: two rows in two blocks don't lie over each other. -/
theorem apart_run (w : World) (gv gb kv kb : Nat) (vo bo m vc lb cb : Nat) (curv curb : Array Value) (hv : Blk w gv kv curv) (hb : Blk w gb kb curb) (hne : gv ≠ gb) (hkb : kb ≠ 0) :
    (callFunc 138 #[.slice (some ⟨gv, vo, none⟩) m vc, .slice (some ⟨gb, bo, none⟩) lb cb]).run Try.prog w = .ok (.value (.bool false)) w := by
  rw [run_callFunc_extern Try.func138 (by kernel_rfl) (by kernel_rfl) (by kernel_rfl) (e := Extern.SlicesOverlaps.overlaps #[27, 27] #[4]) (by kernel_rfl),
    Lib.run_overlaps_apart w 27 4 2 Try.underlying27 1 (fun w => by kernel_rfl) ⟨gv, vo, none⟩ ⟨gb, bo, none⟩ m vc lb cb hne 2 2 curv.size curb.size (by simp [World.shape?, hv.blk]) (by simp [World.shape?, hb.blk]) (by rw [hb.size]; exact hkb) (blk_frozen hv.blk _) (blk_frozen hv.blk _)]
  rfl
set_option maxHeartbeats 4000000 in
set_option maxRecDepth 100000 in
/-- There is room, and something stands behind the place. -/
theorem insert_room (w : World) (g gv cap vc i n m kv : Nat) (cs vs : List Value) (cur curv : Array Value) (hg : Blk w g cap cur) (hv : Blk w gv kv curv) (hne : gv ≠ g) (hcl : cs.length = n) (hvl : vs.length = m) (h1c : ∀ v ∈ cs, v.oneCell' = true) (h1v : ∀ v ∈ vs, v.oneCell' = true)
    (hcs : cur.toList.take n = cs) (hvs : curv.toList.take m = vs) (hi : i < n) (hm : 0 < m) (hroom : n + m ≤ cap) :
    Calls Try.prog 124 #[.slice (some ⟨g, 0, none⟩) n cap, .int .i64 i, .slice (some ⟨gv, 0, none⟩) m vc] w fun e w' => e = .returned (.slice (some ⟨g, 0, none⟩) (n + m) cap) ∧ w' = (w.drew.setCells g (i + m) (cs.drop i)).setCells g i vs := by
  have hc63 : cap ≤ 9223372036854775807 := hg.max
  have hcell : ∀ j v, cs[j]? = some v → w.cell? ⟨g, 0 + j, none⟩ = some v := fun j v hj => by
    rw [Nat.zero_add, hg.cell, ← Array.getElem?_toList]
    rw [← hcs, List.getElem?_take] at hj
    split at hj
    · exact hj
    · cases hj
  have hvcell : ∀ j v, vs[j]? = some v → w.cell? ⟨gv, 0 + j, none⟩ = some v := fun j v hj => by
    rw [Nat.zero_add, hv.cell, ← Array.getElem?_toList]
    rw [← hvs, List.getElem?_take] at hj
    split at hj
    · exact hj
    · cases hj
  have hsp : ∀ j, j < n + m → (w.cell? ⟨g, 0 + j, none⟩).isSome = true := fun j hj => by rw [Nat.zero_add]; exact hg.some j (by omega)
  have hfz : ∀ j, j < n + m → w.frozen? ⟨g, 0 + j, none⟩ = false := fun j _ => blk_frozen hg.blk _
  have hsz : (Try.prog.info? 2).map (·.size) = some 1 := by kernel_rfl
  have hov : ∀ lb cb, (callFunc 138 #[.slice (some ⟨gv, 0, none⟩) m vc, .slice (some ⟨g, i + m, none⟩) lb cb]).run Try.prog w = .ok (.value (.bool false)) w := fun lb cb => apart_run w gv g kv cap 0 (i + m) m vc lb cb curv cur hv hg hne (by omega)
  have hdl : (cs.drop i).length = n - i := by rw [List.length_drop, hcl]
  have hcp1 : ∀ ty dc sc, (Builtin.copy_ #[27, 27] ty #[.slice (some ⟨g, i + m, none⟩) (n + m - (i + m)) dc, .slice (some ⟨g, i, none⟩) (n + m - i) sc]).run Try.prog w.drew = .ok (goInt (cs.drop i).length) (w.drew.setCells g (i + m) (cs.drop i)) := fun ty dc sc =>
    run_copy_cells w.drew _ _ ty 2 g (i + m) (n + m - (i + m)) dc ⟨g, i, none⟩ (n + m - i) sc (cs.drop i) Try.underlying27 hsz (by rw [hdl]; simp only [Nat.min_def]; split <;> omega)
      (fun j v hj => by
        rw [Addr.add_lit]
        have := hcell (i + j) v (by rwa [List.getElem?_drop] at hj)
        rwa [Nat.zero_add] at this)
      (fun j hj => by have := hsp (i + m + j) (by omega); rwa [Nat.zero_add] at this) (fun j hj => blk_frozen hg.blk _) (fun v hv => h1c v (List.mem_of_mem_drop hv))
  obtain ⟨W1, hW1⟩ : ∃ W1, W1 = w.drew.setCells g (i + m) (cs.drop i) := ⟨_, rfl⟩
  have hsp1 : ∀ k, k < n + m → (W1.cell? ⟨g, k, none⟩).isSome = true := fun k hk => by
    rw [hW1]
    have hq : ∀ j, j < n + m → (w.drew.cell? ⟨g, j, none⟩).isSome = true := fun j hj => by have := hsp j hj; rwa [Nat.zero_add] at this
    exact isSome_setCells g _ _ _ (fun j hj => hq _ (by omega)) _ (hq k hk)
  have hcp2 : ∀ (W : World), (∀ x, W.cell? x = W1.cell? x) → (∀ x, W.frozen? x = W1.frozen? x) → ∀ ty dc, (Builtin.copy_ #[27, 27] ty #[.slice (some ⟨g, i, none⟩) (n + m - i) dc, .slice (some ⟨gv, 0, none⟩) m vc]).run Try.prog W = .ok (goInt vs.length) (W.setCells g i vs) := fun W hWc hWf ty dc =>
    run_copy_cells W _ _ ty 2 g i (n + m - i) dc ⟨gv, 0, none⟩ m vc vs Try.underlying27 hsz (by rw [hvl]; simp only [Nat.min_def]; split <;> omega)
      (fun j v hj => by
        rw [Addr.add_lit, hWc, hW1, World.cell?_setCells_out g _ _ _ _ (fun h _ => absurd h hne)]
        exact hvcell j v hj)
      (fun j hj => by rw [hWc]; exact hsp1 _ (by omega)) (fun j hj => by rw [hWf, hW1, World.frozen?_setCells]; exact blk_frozen hg.blk _) h1v
  rw [← hW1] at hcp1
  have hw1 : IntKind.i64.wrap ((i : Int) + (m : Int)) = (i : Int) + (m : Int) := by rw [IntKind.wrap_i64]; omega
  have hb1 : (0 : Int) ≤ (i : Int) + (m : Int) := by omega
  have hin : i ≤ n := by omega
  have htn : ((i : Int) + (m : Int)).toNat = i + m := by omega
  have hb2 : ¬ (cap = i + m) := by omega
  have hb3 : (i : Int) ≤ (n : Int) + (m : Int) := by omega
  have hb4 : ¬ (cap = i) := by omega
  have hz1 : ¬ ((m : Int) = 0) := by omega
  have hz2 : ¬ ((i : Int) = (n : Int)) := by omega
  clear hcell hvcell hsp hfz hsp1 hdl hcs hvs hcl hvl
  go_enter Try.func124, Try.ntmps124
  go_wp2_with (simp only [hov])
  go_region_law (refine step_copy_runI rfl _ _ 27 27 rfl _ _ (by simp [Act.eval, Act.put]) (by simp [Act.eval, Act.put]) (hcp1 _ _ _) ?_)
  go_wp2_with (at_builtin; refine wpList_copy_runI _ rfl _ _ 27 27 rfl _ _ rfl rfl (hcp2 _ (fun _ => rfl) (fun _ => rfl) _ _) ?_)
  go_ret
  first | exact ⟨rfl, rfl⟩ | exact ⟨rfl, by rw [hW1]⟩
set_option maxHeartbeats 4000000 in
set_option maxRecDepth 100000 in
/-- There is no room, and something stands behind the place: a new row. -/
theorem insert_grow (w : World) (g gv cap vc i n m kv : Nat) (cs vs : List Value) (cur curv : Array Value) (hg : Blk w g cap cur) (hv : Blk w gv kv curv) (hne : gv ≠ g) (hcl : cs.length = n) (hvl : vs.length = m) (h1c : ∀ v ∈ cs, v.oneCell' = true) (h1v : ∀ v ∈ vs, v.oneCell' = true)
    (hcs : cur.toList.take n = cs) (hvs : curv.toList.take m = vs) (hi : i < n) (hm : 0 < m) (hnc : n ≤ cap) (hroom : cap < n + m) (hbig : (n + m) * 8 ≤ 140737488355328) :
    Calls Try.prog 124 #[.slice (some ⟨g, 0, none⟩) n cap, .int .i64 i, .slice (some ⟨gv, 0, none⟩) m vc] w fun e w' => ∃ G : Nat, n + m ≤ G ∧ G ≤ maxLen ∧ e = .returned (.slice (some ⟨w.heap.size, 0, none⟩) (n + m) G) ∧
      ∃ ROW : Array Value, ROW.size = G ∧ ROW.toList.take i = cs.take i ∧ w' = (((w.alloc (.cells ROW 2)).drew.setCells w.heap.size i vs).drew).setCells w.heap.size (i + m) (cs.drop i) := by
  have hcell : ∀ j v, cs[j]? = some v → w.cell? ⟨g, j, none⟩ = some v := fun j v hj => by
    rw [hg.cell, ← Array.getElem?_toList]
    rw [← hcs, List.getElem?_take] at hj
    split at hj
    · exact hj
    · cases hj
  have hvcell : ∀ j v, vs[j]? = some v → w.cell? ⟨gv, j, none⟩ = some v := fun j v hj => by
    rw [hv.cell, ← Array.getElem?_toList]
    rw [← hvs, List.getElem?_take] at hj
    split at hj
    · exact hj
    · cases hj
  obtain ⟨i0, hi0, hz0, hzs, hzb⟩ := info_parts info2
  have hsz : (Try.prog.info? 2).map (·.size) = some 1 := by kernel_rfl
  have hbw : g < w.heap.size := blk_lt hg.blk
  have hvw : gv < w.heap.size := blk_lt hv.blk
  have hkk : (n : Int) + (m : Int) - (i : Int) = ((n + m - i : Nat) : Int) := by omega
  have hik : i + (n + m - i) = n + m := by omega
  have hold : (Builtin.firstCells i0.size i (.slice (some ⟨g, 0, none⟩) i cap)).run Try.prog w.drew = .ok (cs.take i).toArray w.drew := by
    rw [hzs]
    exact run_firstCells_some w.drew 1 i ⟨g, 0, none⟩ i cap (cs.take i) (by rw [List.length_take]; omega) (fun j v hj => by
      rw [Addr.add_lit, Nat.zero_add]
      rw [List.getElem?_take] at hj
      split at hj
      · exact hcell j v hj
      · cases hj)
  obtain ⟨G, hG⟩ : ∃ G, G = grownCap w (n + m) cap 2 := ⟨_, rfl⟩
  have hGn : n + m ≤ G := by rw [hG]; exact grownCap_ge w _ _ _
  have hGm : G ≤ maxLen := by rw [hG]; exact grownCap_le_maxLen w (n + m) cap 2 (by unfold maxLen; omega)
  obtain ⟨ROW, hROW⟩ : ∃ ROW : Array Value, ROW = (cs.take i).toArray ++ Builtin.zeroCells (Value.int .i64 0).cells (n + m - i) ++ Builtin.zeroCells (Value.int .i64 0).cells (G - (n + m)) := ⟨_, rfl⟩
  have hrz : ∀ ty, (Builtin.append_ #[27, 3] ty #[.slice (some ⟨g, 0, none⟩) i cap, .int .i64 ((n : Int) + (m : Int) - (i : Int))]).run Try.prog w = .ok (.slice (some ⟨w.heap.size, 0, none⟩) (n + m) G) (w.drew.alloc (.cells ROW 2)) := fun ty => by
    have h := Lib.run_append_grow_zeros w 27 3 ty 2 i0 _ .i64 .i64 Try.underlying27 Try.underlying3 hi0 hz0 (some ⟨g, 0, none⟩) i cap (cs.take i) hold (n + m - i) (by omega) (by omega) (by omega) (by omega) (by rw [hzb]; omega) (by rw [hzb, hik]; exact growslice_fits hroom hbig)
    rw [hik] at h
    rw [hkk, hROW, hG]
    exact h
  have hRl : ROW.size = G := by
    rw [hROW]
    simp [Builtin.zeroCells, Value.cells]
    omega
  have hRt : ROW.toList.take i = cs.take i := by
    rw [hROW]
    have : (cs.take i).length = i := by rw [List.length_take]; omega
    simp [List.take_append, this]
  obtain ⟨W1, hW1⟩ : ∃ W1, W1 = w.drew.alloc (.cells ROW 2) := ⟨_, rfl⟩
  rw [← hW1] at hrz
  have hN : ∀ j, j < n + m → (W1.cell? ⟨w.heap.size, j, none⟩).isSome = true := fun j hj => by
    rw [hW1, World.cell?_alloc_at (w := w.drew) ROW _ w.heap.size j rfl, Array.getElem?_eq_getElem (by omega)]; rfl
  have hNf : ∀ j, W1.frozen? ⟨w.heap.size, j, none⟩ = false := fun j => by rw [hW1]; exact World.frozen?_alloc_at (w := w.drew) ROW _ w.heap.size j rfl
  have hOb : ∀ j v, w.cell? ⟨g, j, none⟩ = some v → W1.cell? ⟨g, j, none⟩ = some v := fun j v h => by rw [hW1, World.cell?_alloc_past (w := w.drew) _ g j hbw]; exact h
  have hOv : ∀ j v, w.cell? ⟨gv, j, none⟩ = some v → W1.cell? ⟨gv, j, none⟩ = some v := fun j v h => by rw [hW1, World.cell?_alloc_past (w := w.drew) _ gv j hvw]; exact h
  have hcpA : ∀ (W : World), (∀ x, W.cell? x = W1.cell? x) → (∀ x, W.frozen? x = W1.frozen? x) → ∀ ty dc, (Builtin.copy_ #[27, 27] ty #[.slice (some ⟨w.heap.size, i, none⟩) (n + m - i) dc, .slice (some ⟨gv, 0, none⟩) m vc]).run Try.prog W = .ok (goInt vs.length) (W.setCells w.heap.size i vs) := fun W hWc hWf ty dc =>
    run_copy_cells W _ _ ty 2 w.heap.size i (n + m - i) dc ⟨gv, 0, none⟩ m vc vs Try.underlying27 hsz (by rw [hvl]; simp only [Nat.min_def]; split <;> omega)
      (fun j v hj => by rw [Addr.add_lit, hWc, Nat.zero_add]; exact hOv _ v (hvcell j v hj))
      (fun j hj => by rw [hWc]; exact hN _ (by omega)) (fun j hj => by rw [hWf]; exact hNf _) h1v
  have hG63 : G ≤ 9223372036854775807 := hGm
  have hGi : ¬ (G = i) := by omega
  have hGim : ¬ (G = i + m) := by omega
  have hci : ¬ (cap = i) := by omega
  have hbN : g ≠ w.heap.size := by omega
  have hdl : (cs.drop i).length = n - i := by rw [List.length_drop, hcl]
  have hcpB : ∀ (W : World), (∀ x, W.cell? x = (W1.setCells w.heap.size i vs).cell? x) → (∀ x, W.frozen? x = (W1.setCells w.heap.size i vs).frozen? x) → ∀ ty dc sc, (Builtin.copy_ #[27, 27] ty #[.slice (some ⟨w.heap.size, i + m, none⟩) (n + m - (i + m)) dc, .slice (some ⟨g, i, none⟩) (n - i) sc]).run Try.prog W = .ok (goInt (cs.drop i).length) (W.setCells w.heap.size (i + m) (cs.drop i)) := fun W hWc hWf ty dc sc =>
    run_copy_cells W _ _ ty 2 w.heap.size (i + m) (n + m - (i + m)) dc ⟨g, i, none⟩ (n - i) sc (cs.drop i) Try.underlying27 hsz (by rw [hdl]; simp only [Nat.min_def]; split <;> omega)
      (fun j v hj => by
        rw [Addr.add_lit, hWc, World.cell?_setCells_out _ _ _ _ _ (fun h _ => absurd h hbN)]
        exact hOb _ v (hcell (i + j) v (by rwa [List.getElem?_drop] at hj)))
      (fun j hj => by rw [hWc]; exact isSome_setCells _ _ _ _ (fun t ht => hN _ (by omega)) _ (hN _ (by omega)))
      (fun j hj => by rw [hWf, World.frozen?_setCells]; exact hNf _) (fun v hv => h1c v (List.mem_of_mem_drop hv))
  subst hW1
  have hE1 : ∀ x, ((w.alloc (.cells ROW 2)).drew).cell? x = (w.drew.alloc (.cells ROW 2)).cell? x := fun x => rfl
  have hE2 : ∀ x, ((w.alloc (.cells ROW 2)).drew).frozen? x = (w.drew.alloc (.cells ROW 2)).frozen? x := fun x => rfl
  have hF1 : ∀ x, (((w.alloc (.cells ROW 2)).drew.setCells w.heap.size i vs).drew).cell? x = ((w.drew.alloc (.cells ROW 2)).setCells w.heap.size i vs).cell? x := fun x => rfl
  have hF2 : ∀ x, (((w.alloc (.cells ROW 2)).drew.setCells w.heap.size i vs).drew).frozen? x = ((w.drew.alloc (.cells ROW 2)).setCells w.heap.size i vs).frozen? x := fun x => rfl
  have hw1 : IntKind.i64.wrap ((i : Int) + (m : Int)) = (i : Int) + (m : Int) := by rw [IntKind.wrap_i64]; omega
  have hb1 : (0 : Int) ≤ (i : Int) + (m : Int) := by omega
  have hin : i ≤ n := by omega
  have htn : ((i : Int) + (m : Int)).toNat = i + m := by omega
  have hb3 : (i : Int) ≤ (n : Int) := by omega
  have hz1 : ¬ ((m : Int) = 0) := by omega
  have hz2 : ¬ ((i : Int) = (n : Int)) := by omega
  have hz3 : (cap : Int) < (n : Int) + (m : Int) := by omega
  have HGm := Aside0.mk (And.intro hGn (And.intro hGm (And.intro hRl hRt)))
  clear hkk hik hold hROW hG hRl hRt hcell hvcell hcs hvs hGm hdl hcl hvl
  go_enter Try.func124, Try.ntmps124
  go_wp2_with (first
    | (at_builtin; refine Lib.wpList_append_run _ rfl _ _ _ _ rfl _ _ rfl rfl _ _ (hrz _) ?_)
    | (at_builtin; refine wpList_copy_runI _ rfl _ _ 27 27 rfl _ _ rfl rfl (hcpA _ hE1 hE2 _ _) ?_)
    | (at_builtin; refine wpList_copy_runI _ rfl _ _ 27 27 rfl _ _ rfl rfl (hcpB _ (fun _ => rfl) (fun _ => rfl) _ _ _) ?_))
  go_region_law (refine step_copy_runI rfl _ _ 27 27 rfl (.slice (some ⟨w.heap.size, i + m, none⟩) (n + m - (i + m)) (G - (i + m))) (.slice (some ⟨g, i, none⟩) (n - i) (cap - i)) (by simp [Act.eval, Act.put]) (by simp [Act.eval, Act.put]) (hcpB _ hF1 hF2 3 (G - (i + m)) (cap - i)) ?_)
  go_wp2
  go_ret
  exact ⟨G, HGm.out.1, HGm.out.2.1, rfl, ROW, HGm.out.2.2.1, HGm.out.2.2.2, rfl⟩

set_option maxHeartbeats 1000000 in
set_option maxRecDepth 100000 in
/-- At the end: an append. -/
theorem insert_end (w : World) (B : Nat) (A : Option Addr) (cap : Nat) (l vs : List Int) (Av : Option Addr) (vc : Nat) (hO : RI w B (fun _ => True) (.slice A l.length cap) l) (hV : CI w Av vs.length vs) (hm : 0 < vs.length) (hl : l.length + vs.length < 1099511627776) (hB : B ≤ w.heap.size) :
    Calls Try.prog 124 #[.slice A l.length cap, .int .i64 l.length, .slice Av vs.length vc] w fun e w' => ∃ v : Value, e = .returned v ∧ RI w' B (fun _ => True) v (l ++ vs) ∧ w.grownBy w' (.slice A l.length cap : Value).ownBlock := by
  have HO := Aside0.mk hO
  have HV := Aside0.mk hV
  have hnc := (Kd.R_reads' hO).2.1
  have hz1 : ((vs.length : Int) == 0) = false := by rw [beq_eq_false_iff_ne]; omega
  have HL := Aside0.mk hl
  clear hO hV
  have HBB := Aside0.mk (Below.refl B w)
  cases A with
  | none =>
    have h0 : l = [] := by
      rcases Nat.eq_zero_or_pos l.length with h0 | h0
      · exact List.eq_nil_of_length_eq_zero h0
      · obtain ⟨ad, h, _⟩ := (Kd.R_reads' HO.out).2.2.2.2 h0
        cases h
    subst h0
    go_enter Try.func124, Try.ntmps124
    go_wp2_with (((with_reducible refine gate_builtin (b := .append) (xs := #[.tmp 23, .tmp 24]) rfl ?_); at_builtin; refine Kd.R_append_rows (Kd.int .i64) (w0 := w) B rfl (.tmp 23) (.tmp 24) 27 2 (.int .i64 0) 8 rfl Try.underlying27 info2 rfl (by decide) (by omega) _ [] vs _ _ _ (fun _ => True) (fun _ => False) rfl rfl HO.out HV.out (fun _ _ h => h) (fun _ h => h.elim) (fun _ _ => trivial) HBB.out hB (by have := HL.out; simp at this ⊢; omega) ?_; intro v3 w3 ho hb hg hat; have HO3 := Aside0.mk ho; have HG3 := Aside0.mk hg; clear ho hb hg hat))
    go_ret
    exact ⟨_, rfl, HO3.out, HG3.out⟩
  | some ad =>
    obtain ⟨n, hn⟩ : ∃ n, n = l.length := ⟨_, rfl⟩
    by_cases hcn : cap = l.length
    all_goals
      go_enter Try.func124, Try.ntmps124
      go_wp2_with (((with_reducible refine gate_builtin (b := .append) (xs := #[.tmp 23, .tmp 24]) rfl ?_); at_builtin; refine Kd.R_append_rows (Kd.int .i64) (w0 := w) B rfl (.tmp 23) (.tmp 24) 27 2 (.int .i64 0) 8 rfl Try.underlying27 info2 rfl (by decide) (by omega) _ l vs _ _ _ (fun _ => True) (fun _ => False) rfl rfl HO.out HV.out (fun _ _ h => h) (fun _ h => h.elim) (fun _ _ => trivial) HBB.out hB (by have := HL.out; omega) ?_; intro v3 w3 ho hb hg hat; have HO3 := Aside0.mk ho; have HG3 := Aside0.mk hg; clear ho hb hg hat))
      go_ret
      exact ⟨_, rfl, HO3.out, HG3.out⟩
end Go.Proofs.Ytbnmjhcokdhjmaa.K

set_option linter.unusedVariables false
set_option linter.unusedSimpArgs false
namespace Go.Proofs.Ytbnmjhcokdhjmaa.K
open Go.RowKit Go.Lib Go.Proofs.YtbnmjhcokdhjmaaW.PrintWords Go.Proofs.YtbnmjhcokdhjmaaW.PrintLast Go.Proofs.YtbnmjhcokdhjmaaW.PrintMore

def insL (l vs : List Int) (i : Nat) : List Int := l.take i ++ vs ++ l.drop i
theorem insL_length (l vs : List Int) (i : Nat) : (insL l vs i).length = l.length + vs.length := by
  unfold insL
  rw [List.length_append, List.length_append, List.length_take, List.length_drop]
  omega
theorem ev_ins (l vs : List Int) (i : Nat) : ev (insL l vs i) = (ev l).take i ++ ev vs ++ (ev l).drop i := by simp [insL, ev, encs, List.map_take, List.map_drop]
theorem splice_room (cur cs vs : List Value) (n m i : Nat) (hcs : cur.take n = cs) (hcl : cs.length = n) (hvl : vs.length = m) (hi : i < n) (hl : n + m ≤ cur.length) :
    ((cur.take (i + m) ++ cs.drop i ++ cur.drop (i + m + (cs.drop i).length)).take i ++ vs ++ (cur.take (i + m) ++ cs.drop i ++ cur.drop (i + m + (cs.drop i).length)).drop (i + vs.length)).take (n + m) = cs.take i ++ vs ++ cs.drop i := by
  have h1 : (cur.take (i + m) ++ cs.drop i ++ cur.drop (i + m + (cs.drop i).length)).take i = cs.take i := by
    rw [List.append_assoc, List.take_append_of_le_length (by rw [List.length_take]; omega), List.take_take, Nat.min_eq_left (by omega), ← hcs, List.take_take, Nat.min_eq_left (by omega)]
  have h2 : (cur.take (i + m) ++ cs.drop i ++ cur.drop (i + m + (cs.drop i).length)).drop (i + vs.length) = cs.drop i ++ cur.drop (i + m + (cs.drop i).length) := by
    rw [hvl, List.append_assoc, List.drop_append_of_le_length (by rw [List.length_take]; omega), List.drop_of_length_le (by rw [List.length_take]; omega), List.nil_append]
  rw [h1, h2, ← List.append_assoc]
  exact List.take_left' (by rw [List.length_append, List.length_append, List.length_take, List.length_drop]; omega)
theorem splice_grow (row cs vs : List Value) (n m i : Nat) (hrow : row.take i = cs.take i) (hcl : cs.length = n) (hvl : vs.length = m) (hi : i < n) (hl : n + m ≤ row.length) :
    ((row.take i ++ vs ++ row.drop (i + vs.length)).take (i + m) ++ cs.drop i ++ (row.take i ++ vs ++ row.drop (i + vs.length)).drop (i + m + (cs.drop i).length)).take (n + m) = cs.take i ++ vs ++ cs.drop i := by
  have h1 : (row.take i ++ vs ++ row.drop (i + vs.length)).take (i + m) = cs.take i ++ vs := by
    rw [List.take_append_of_le_length (by rw [List.length_append, List.length_take]; omega), List.take_of_length_le (by rw [List.length_append, List.length_take]; omega), hrow]
  rw [h1]
  exact List.take_left' (by rw [List.length_append, List.length_append, List.length_take, List.length_drop]; omega)
theorem grown_drew (W : World) (r : Option Nat) : W.grownBy W.drew r := grown_of_below (below_drew1 (Below.refl _ _)) r
theorem grown_alloc (W : World) (o : Obj) (r : Option Nat) : W.grownBy (W.alloc o) r := grown_of_below (below_alloc (Below.refl _ _) _) r
theorem c_insert (w : World) (B : Nat) (A Av : Option Addr) (cap vc : Nat) (l vs : List Int) (i : Nat) (hO : RI w B (fun _ => True) (.slice A l.length cap) l) (hV : ∃ b ok, RI w b ok (.slice Av vs.length vc) vs) (hne : ∀ k, (.slice Av vs.length vc : Value).ownBlock = some k → some k ≠ (.slice A l.length cap : Value).ownBlock)
    (hi : i ≤ l.length) (hm : 0 < vs.length) (hl : l.length + vs.length < 1099511627776) (hB : B ≤ w.heap.size) :
    Calls Try.prog 124 #[.slice A l.length cap, .int .i64 i, .slice Av vs.length vc] w fun e w' => ∃ v : Value, e = .returned v ∧ RI w' B (fun _ => True) v (insL l vs i) ∧ w.grownBy w' (.slice A l.length cap : Value).ownBlock := by
  obtain ⟨bv, okv, hV⟩ := hV
  by_cases he : i = l.length
  · subst he
    refine (insert_end w B A cap l vs Av vc hO (Kd.R_reads' hV).2.2 hm hl hB).mono ?_
    rintro e w' ⟨v, rfl, h1, h2⟩
    refine ⟨v, rfl, ?_, h2⟩
    unfold insL
    rw [List.take_length, List.drop_length, List.append_nil]
    exact h1
  · have hi2 : i < l.length := by omega
    obtain ⟨g, cap', e1, hbg, hlg, _⟩ := Kd.R_form hO (by omega)
    injection e1 with ea _ ec
    subst ea ec
    obtain ⟨gv, vc', e2, hbv, hlv, _⟩ := Kd.R_form hV hm
    injection e2 with ea2 _ ec2
    subst ea2 ec2
    obtain ⟨cur, hg, _, _, hnc, hcs⟩ := blk_of hO
    obtain ⟨curv, hv, _, _, _, hvs⟩ := blk_of hV
    have hgg : gv ≠ g := fun e => hne gv rfl (by rw [e]; rfl)
    have hmax := hg.max
    by_cases hroom : l.length + vs.length ≤ cap
    · refine (insert_room w g gv cap vc i l.length vs.length vc (ev l) (ev vs) cur curv hg hv hgg (ev_length l) (ev_length vs) (ev_one l) (ev_one vs) hcs hvs hi2 hm hroom).mono ?_
      rintro e w' ⟨rfl, rfl⟩
      have hd : Blk w.drew g cap cur := ⟨blk_drew hg.blk, hg.size, hg.max⟩
      have hdl : ((ev l).drop i).length = l.length - i := by rw [List.length_drop, ev_length]
      obtain ⟨cur1, k1, t1⟩ := hd.puts (i + vs.length) ((ev l).drop i) (by rw [hdl]; omega)
      obtain ⟨cur2, k2, t2⟩ := k1.puts i (ev vs) (by rw [ev_length]; omega)
      refine ⟨_, rfl, ?_, (grown_drew w _).trans ((puts_grown g _ _ _).trans (puts_grown g _ _ _))⟩
      have hrow := blk_row (B := B) (ok := fun _ => True) (l := insL l vs i) k2 hbg trivial (by rw [insL_length]; exact hroom) (by
        rw [t2, t1, insL_length, ev_ins]
        have hsz := hg.size
        exact splice_room cur.toList (ev l) (ev vs) l.length vs.length i hcs (ev_length l) (ev_length vs) hi2 (by have e : cur.toList.length = cur.size := Array.length_toList; omega))
      rw [insL_length] at hrow
      exact hrow
    · refine (insert_grow w g gv cap vc i l.length vs.length vc (ev l) (ev vs) cur curv hg hv hgg (ev_length l) (ev_length vs) (ev_one l) (ev_one vs) hcs hvs hi2 hm hnc (by omega) (by omega)).mono ?_
      rintro e w' ⟨G, hG1, hG2, rfl, ROW, hR1, hR2, rfl⟩
      have hd : Blk (w.alloc (.cells ROW 2)).drew w.heap.size G ROW := ⟨blk_drew (blk_new w _), hR1, hG2⟩
      have hdl : ((ev l).drop i).length = l.length - i := by rw [List.length_drop, ev_length]
      obtain ⟨cur1, k1, t1⟩ := hd.puts i (ev vs) (by rw [ev_length]; omega)
      have k1d : Blk ((w.alloc (.cells ROW 2)).drew.setCells w.heap.size i (ev vs)).drew w.heap.size G cur1 := ⟨blk_drew k1.blk, k1.size, k1.max⟩
      obtain ⟨cur2, k2, t2⟩ := k1d.puts (i + vs.length) ((ev l).drop i) (by rw [hdl]; omega)
      have hbel : Below w.heap.size w ((((w.alloc (.cells ROW 2)).drew.setCells w.heap.size i (ev vs)).drew).setCells w.heap.size (i + vs.length) ((ev l).drop i)) := by
        have a1 : Below w.heap.size w (w.alloc (.cells ROW 2)).drew := below_drew1 (below_alloc (Below.refl _ _) _)
        have a2 := a1.grown (puts_grown w.heap.size i (ev vs) _) a1.size (fun k hk => by injection hk with hk; omega)
        have a3 := below_drew1 a2
        exact a3.grown (puts_grown w.heap.size (i + vs.length) ((ev l).drop i) _) a3.size (fun k hk => by injection hk with hk; omega)
      refine ⟨_, rfl, ?_, grown_of_below hbel _⟩
      have hrow := blk_row (B := B) (ok := fun _ => True) (l := insL l vs i) k2 hB trivial (by rw [insL_length]; exact hG1) (by
        rw [t2, t1, insL_length, ev_ins]
        exact splice_grow ROW.toList (ev l) (ev vs) l.length vs.length i hR2 (ev_length l) (ev_length vs) hi2 (by have e : ROW.toList.length = ROW.size := Array.length_toList; omega))
      rw [insL_length] at hrow
      exact hrow

set_option maxHeartbeats 1000000 in
set_option maxRecDepth 100000 in
theorem c_inserted (A0 A2 : Option Addr) (c0 c2 : Nat) (l vs : List Int) (i : Nat) (w : World) (hr0 : CI w A0 l.length l) (hc0 : l.length ≤ c0) (hV : ∃ b ok, RI w b ok (.slice A2 vs.length c2) vs) (hi : i ≤ l.length) (hm : 0 < vs.length) (hl : l.length + vs.length < 1099511627776) :
    Calls Try.prog 111 #[.slice A0 l.length c0, .int .i64 i, .slice A2 vs.length c2] w fun e w' => ∃ v : Value, e = .returned v ∧ RI w' w.heap.size (fun _ => True) v (insL l vs i) ∧ Below w.heap.size w w' := by
  have HR := Aside0.mk hr0
  have HC := Aside0.mk hc0
  have HX := Aside0.mk (show slices_Clone_int64_int64.f l = some l by unfold slices_Clone_int64_int64.f; rw [if_pos (by omega)])
  have HI := Aside0.mk (And.intro hi (And.intro hm hl))
  obtain ⟨bv, okv, hV⟩ := hV
  have HV := Aside0.mk hV
  clear hr0 hc0 hV hl hm hi
  go_enter Try.func111, Try.ntmps111
  go_wp2_with (first
    | (go_at_call 115; refine (slices_Clone_int64_int64.calls A0 c0 l l _ HR.out HC.out HX.out).mono ?_; rintro e w1 ⟨v1, rfl, ho, hb⟩; have HO := Aside0.mk ho; have HB := Aside0.mk hb; clear ho hb; obtain ⟨Ao, co, eo⟩ := Kd.R_slice HO.out; subst eo)
    | (go_at_call 124; refine (c_insert w1 w.heap.size Ao A2 co c2 l vs i HO.out ⟨bv, okv, Kd.R_below HV.out HB.out⟩ (fun k hk e => by have h1 := Kd.R_lt HV.out k hk; rcases Kd.R_base2 HO.out with e2 | ⟨k2, e2, h2⟩ <;> rw [e2] at e <;> simp at e; omega) HI.out.1 HI.out.2.1 HI.out.2.2 HB.out.size).mono ?_; rintro e w2 ⟨v2, rfl, ho, hg⟩; have HO2 := Aside0.mk ho; have HB2 := Aside0.mk (HB.out.grown hg HB.out.size (fun k hk => by rcases Kd.R_base2 HO.out with e2 | ⟨k2, e2, h2⟩ <;> rw [e2] at hk <;> simp at hk; omega)); clear ho hg))
  go_ret
  exact ⟨_, rfl, HO2.out, HB2.out⟩
def impl_inserted.f (l0 : List Int) (a1 : Int) (l2 : List Int) : Option (List Int) := if 0 ≤ a1 ∧ a1 ≤ l0.length ∧ 0 < l2.length ∧ l0.length + l2.length < 1099511627776 then some (insL l0 l2 a1.toNat) else none
theorem impl_inserted.calls (A0 : Option Addr) (c0 : Nat) (l0 : List Int) (a1 : Int) (A2 : Option Addr) (c2 : Nat) (l2 : List Int) (r : List Int) (w : World) (hr0 : Kd.C (Kd.int .i64) w A0 l0.length l0) (hc0 : l0.length ≤ c0) (hr2 : Kd.C (Kd.int .i64) w A2 l2.length l2) (hc2 : l2.length ≤ c2) (hx2 : ∃ b ok, Kd.R (Kd.int .i64) 2 w b ok (.slice A2 l2.length c2) l2) (h : impl_inserted.f l0 a1 l2 = some r) :
    Calls Try.prog 111 #[.slice A0 l0.length c0, .int .i64 a1, .slice A2 l2.length c2] w fun e w' => ∃ v0_ : Value, e = .returned (v0_) ∧ Kd.R (Kd.int .i64) 2 w' w.heap.size (fun _ => True) v0_ r ∧ Below w.heap.size w w' := by
  unfold impl_inserted.f at h
  split at h
  case isFalse => cases h
  rename_i hh
  obtain rfl := Option.some.inj h
  obtain ⟨h0, h1, h2, h3⟩ := hh
  obtain ⟨i, rfl⟩ : ∃ i : Nat, a1 = i := ⟨a1.toNat, by omega⟩
  rw [Int.toNat_natCast]
  exact c_inserted A0 A2 c0 c2 l0 l2 i w hr0 hc0 hx2 (by omega) h2 h3
end Go.Proofs.Ytbnmjhcokdhjmaa.K
