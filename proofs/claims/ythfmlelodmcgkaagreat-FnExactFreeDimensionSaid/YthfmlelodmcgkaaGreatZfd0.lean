/- Packed texts of this session's: WWords, WLast, WApart, WArr, WFoot, WKept, WShare, WN, WMore, KRows, KSlices, KFst, VW1, KMap, KEv, KWord, KCl, VB, VDP, VW2, VY3, WRepsOne, KDelR, VDR, VSR, VLR, VL, VW12, VPr, VFl. Conditions: in each. -/
import Derived.Test.YthfmlelodmcgkaaGreatProg
import Derived.Test.YthfmlelodmcgkaaGreatVCore
import Derived.Test.YthfmlelodmcgkaaGreatVNest
import Derived.Test.YthfmlelodmcgkaaGreatVStep
import Derived.Test.YthfmlelodmcgkaaGreatVHole
import Derived.Test.YthfmlelodmcgkaaGreatVMap
import Derived.Test.YthfmlelodmcgkaaGreatVRun
import Derived.Test.YthfmlelodmcgkaaGreatVKf
import Derived.Test.YthfmlelodmcgkaaGreatVTy
import Derived.Below
import Derived.Deep.Draws
import Derived.Deep.AppendLies
import Derived.Maps.AppendAt
import Derived.OwnWalk
import Derived.Laws.BytesArg
import Derived.Laws.MakeOwn
import Derived.Laws.OwnMore
import Derived.Deep.OwnRows
import Derived.Tactics
import Derived.Lib.ConvBytes
import Derived.Laws.Slices
import Derived.WalkKit
import Derived.KernelRfl
import Derived.RowKit3
import Derived.Deep.LoopGhost
import Derived.Deep.QuietTactic
import Derived.BigQuiet
import Derived.WideLaws
import Derived.Deep.DeepCutAuto
import Derived.Deep.CutBlock
import Derived.Deep.RegionHeld3
import Derived.Laws.Rows
import Derived.Lib.AppendStr
import Derived.ArgAppend
import Derived.Laws.IdiomCopy
import Derived.RowKit
import Derived.OrdersHeld
import Derived.Laws.BitsLemmas
import Derived.Maps.OwnOps
import Derived.Maps.OwnSet
import Derived.Maps.Ext
import Derived.Maps.RangeWalk
import Derived.Lib.Walk
import Derived.Lib.SliceRun
import Derived.Laws.Externs
import Derived.Laws.NewBlocks
import Derived.Shelf.SlSortCmp.NoneTotal
import Derived.Sort.Grow
import Derived.Lib.AppendZerosOnto
import Derived.Shelf.SlicesE.Delete
import Derived.Lib.Overlaps
import Derived.Shelf.Spec.SlicesInsert
import Derived.Deep.RegionLaw
set_option linter.unusedVariables false
set_option linter.unusedSimpArgs false
set_option linter.unusedSectionVars false
section
namespace Go.Proofs.YthfmlelodmcgkaaGreatW.PrintWords
open Go.RowKit
structure Aside0 (p : Prop) : Prop where mk :: (out : p)
structure Drawn0 (w w' : World) : Prop where mk :: (out : ∃ n, w' = w.drewN n)
theorem Drawn0.refl (w : World) : Drawn0 w w := ⟨⟨0, rfl⟩⟩
theorem Drawn0.step {w w' : World} (h : Drawn0 w w') (n : Nat) : Drawn0 w (w'.drewN n) := by
  obtain ⟨m, rfl⟩ := h
  exact ⟨⟨m + n, World.drewN_drewN ..⟩⟩
theorem Drawn0.grown {w w' : World} (h : Drawn0 w w') : Grown w w' := by
  obtain ⟨n, rfl⟩ := h
  induction n with
  | zero => exact Grown.refl _
  | succ n ih => rw [← World.drew_drewN]; exact Grown.drew ih
theorem Drawn0.below {w w' : World} (h : Drawn0 w w') : Below w.heap.size w w' := by
  obtain ⟨n, rfl⟩ := h
  induction n with
  | zero => exact Below.refl _ _
  | succ n ih => rw [← World.drew_drewN]; exact ih.drew
def rd (xs : List Int) (i : Int) : Int := xs.getD i.toNat 0
def bt (s : ByteArray) (i : Int) : Int := if h : i.toNat < s.size then ((s[i.toNat]'h).toNat : Int) else 0
theorem below_alloc {w W : World} (h : Below w.heap.size w W) (o : Obj) : Below w.heap.size w (W.alloc o) := h.alloc h.size o
theorem below_drew {B : Nat} {w W : World} (h : Below B w W) : Below B w W.drew := ⟨h.os, h.tape, h.output, h.size, h.block⟩
theorem pw_below_drewN {B : Nat} {w W : World} (h : Below B w W) (n : Nat) : Below B w (W.drewN n) := ⟨h.os, h.tape, h.output, h.size, h.block⟩
theorem below_then {B : Nat} {w w1 w2 : World} (h : Below B w w1) (hB : B ≤ w1.heap.size) (k : Below w1.heap.size w1 w2) : Below B w w2 :=
  h.trans ⟨k.os, k.tape, k.output, k.size, fun i hi => k.block i (Nat.lt_of_lt_of_le hi hB)⟩
theorem grown_of_below {w w1 : World} (h : Below w.heap.size w w1) (row : Option Nat) : w.grownBy w1 row := ⟨h.os, h.tape, h.output, h.size, fun i hi _ => h.block i hi⟩
theorem pw_cell_below {w w1 : World} (h : Below w.heap.size w w1) {a : Addr} {v : Value} (hc : w.cell? a = some v) : w1.cell? a = some v := (h.cell (World.block_lt_of_cell? w a hc)).trans hc
theorem add_plain (g j : Nat) : (⟨g, 0, none⟩ : Addr).add j = ⟨g, j, none⟩ := by unfold Addr.add; split <;> simp_all
def ReadsInt (w : World) (k : IntKind) (A : Option Addr) (n : Nat) (xs : List Int) : Prop :=
  xs.length = n ∧ n ≤ 9223372036854775807 ∧ (0 < n → ∃ ad, A = some ad ∧ ∀ j, j < n → w.cell? (ad.add j) = some (.int k (xs.getD j 0)))
theorem ReadsInt.at_ {w : World} {k : IntKind} {A : Option Addr} {n : Nat} {xs : List Int} (h : ReadsInt w k A n xs) (i : Int) (h0 : 0 ≤ i) (h1 : i < n) : ∃ ad, A = some ad ∧ w.cell? (ad.add i.toNat) = some (.int k (rd xs i)) := by
  obtain ⟨ad, e, hc⟩ := h.2.2 (by omega)
  exact ⟨ad, e, hc _ (by omega)⟩
theorem ReadsInt.below {w w1 : World} {k : IntKind} {A : Option Addr} {n : Nat} {xs : List Int} (h : ReadsInt w k A n xs) (hb : Below w.heap.size w w1) : ReadsInt w1 k A n xs :=
  ⟨h.1, h.2.1, fun hn => by
    obtain ⟨ad, e, hc⟩ := h.2.2 hn
    exact ⟨ad, e, fun j hj => pw_cell_below hb (hc j hj)⟩⟩
theorem own_nil (W : World) (base : Nat) (e : TypeId) (size : Nat) : W.ownsRow base e size (.slice none 0 0) 0 [] := ⟨by simp, .inl ⟨rfl, rfl⟩⟩
theorem own_base {w : World} {base : Nat} {e : TypeId} {size n : Nat} {v : Value} {xs : List Value} (h : w.ownsRow base e size v n xs) (k : Nat) (hk : v.ownBlock = some k) : base ≤ k := by
  rcases h.2 with ⟨rfl, _⟩ | ⟨g, cap, cur, rfl, hb, _⟩
  · simp [Value.ownBlock] at hk
  · have : g = k := by simpa [Value.ownBlock] using hk
    omega
theorem own_lt {w : World} {base : Nat} {e : TypeId} {size n : Nat} {v : Value} {xs : List Value} (h : w.ownsRow base e size v n xs) (k : Nat) (hk : v.ownBlock = some k) : k < w.heap.size := by
  rcases h.2 with ⟨rfl, _⟩ | ⟨g, cap, cur, rfl, hb, hh, _⟩
  · simp [Value.ownBlock] at hk
  · have : g = k := by simpa [Value.ownBlock] using hk
    subst this
    exact (Array.getElem?_eq_some_iff.1 hh).1
theorem pw_own_below {w w1 : World} {base : Nat} {e : TypeId} {size n : Nat} {v : Value} {xs : List Value} (h : w.ownsRow base e size v n xs) (hb : Below w.heap.size w w1) : w1.ownsRow base e size v n xs :=
  h.kept (grown_of_below hb none) (by cases v.ownBlock <;> simp)
theorem own_other {w w1 : World} {base : Nat} {e : TypeId} {size n : Nat} {v : Value} {xs : List Value} (h : w.ownsRow base e size v n xs) {row : Option Nat} (hg : w.grownBy w1 row) (hne : v.ownBlock = none ∨ v.ownBlock ≠ row) : w1.ownsRow base e size v n xs := h.kept hg hne
theorem own_slice {w : World} {base n : Nat} {e : TypeId} {size : Nat} {v : Value} {xs : List Value} (h : w.ownsRow base e size v n xs) : ∃ A c, v = .slice A n c := by
  rcases h.2 with ⟨rfl, rfl⟩ | ⟨g, cap, cur, rfl, _⟩
  · exact ⟨none, 0, rfl⟩
  · exact ⟨_, cap, rfl⟩
def LeO {α : Type} (a b : Option α) : Prop := ∀ r, a = some r → b = some r
theorem LeO.refl {α : Type} (a : Option α) : LeO a a := fun _ h => h
theorem LeO.none {α : Type} (b : Option α) : LeO Option.none b := fun _ h => by cases h
theorem LeO.trans {α : Type} {a b c : Option α} (h : LeO a b) (k : LeO b c) : LeO a c := fun r hr => k r (h r hr)
theorem LeO.ite {α : Type} {c : Prop} [Decidable c] {a a' b b' : Option α} (h : LeO a a') (k : LeO b b') : LeO (if c then a else b) (if c then a' else b') := by
  split
  · exact h
  · exact k
theorem LeO.bind {α β : Type} {a a' : Option α} {f f' : α → Option β} (h : LeO a a') (k : ∀ x, LeO (f x) (f' x)) : LeO (a.bind f) (a'.bind f') := by
  intro r hr
  obtain ⟨x, hx, hf⟩ := Option.bind_eq_some_iff.1 hr
  exact Option.bind_eq_some_iff.2 ⟨x, h x hx, k x r hf⟩
theorem LeO.map {α β : Type} {a a' : Option α} (f : α → β) (h : LeO a a') : LeO (a.map f) (a'.map f) := by
  intro r hr
  obtain ⟨x, hx, hf⟩ := Option.map_eq_some_iff.1 hr
  exact Option.map_eq_some_iff.2 ⟨x, h x hx, hf⟩
theorem more_rounds {α : Type} {g : Nat → Option α} (h : ∀ k, LeO (g k) (g (k + 1))) (k : Nat) : ∀ j, LeO (g k) (g (k + j))
  | 0 => LeO.refl _
  | j + 1 => (more_rounds h k j).trans (h (k + j))
theorem at_rounds {α : Type} {g : Nat → Option α} (h : ∀ k, LeO (g k) (g (k + 1))) {k k' : Nat} (hk : k ≤ k') {r : α} (hr : g k = some r) : g k' = some r := by
  have := more_rounds h k (k' - k) r hr
  rwa [Nat.add_sub_cancel' hk] at this
def Reps {α : Type} (R : α → List Value → Prop) (size : Nat) (ps : List α) (cs : List Value) : Prop :=
  cs.length = ps.length * size ∧ ∀ j p, ps[j]? = some p → R p ((cs.drop (j * size)).take size)
theorem Reps.none {α : Type} (R : α → List Value → Prop) (size : Nat) : Reps R size [] [] := ⟨by simp, fun j p h => by simp at h⟩
theorem Reps.snoc {α : Type} {R : α → List Value → Prop} {size : Nat} {ps : List α} {cs c : List Value} {p : α} (h : Reps R size ps cs) (hp : R p c) (hc : c.length = size) : Reps R size (ps ++ [p]) (cs ++ c) := by
  refine ⟨by rw [List.length_append, h.1, hc, List.length_append, List.length_singleton, Nat.add_mul, Nat.one_mul], fun j q hq => ?_⟩
  rcases Nat.lt_or_ge j ps.length with hj | hj
  · rw [List.getElem?_append_left hj] at hq
    have h1 : j * size + size ≤ cs.length := by rw [h.1, ← Nat.succ_mul]; exact Nat.mul_le_mul_right _ hj
    have h2 := h.2 j q hq
    rw [List.drop_append_of_le_length (by omega), List.take_append_of_le_length (by rw [List.length_drop]; omega)]
    exact h2
  · have hj' : j = ps.length := by
      have := (List.getElem?_eq_some_iff.1 hq).1
      rw [List.length_append, List.length_singleton] at this
      omega
    subst hj'
    have hq' : p = q := by simpa using hq
    subst hq'
    rw [← h.1, List.drop_left, ← hc, List.take_length]
    exact hp
theorem Reps.imp_ {α : Type} {R R' : α → List Value → Prop} {size : Nat} {ps : List α} {cs : List Value} (h : Reps R size ps cs) (hR : ∀ p c, R p c → R' p c) : Reps R' size ps cs := ⟨h.1, fun j p hj => hR _ _ (h.2 j p hj)⟩
def ReadsRow {α : Type} (R : α → List Value → Prop) (size : Nat) (w : World) (A : Option Addr) (n : Nat) (ps : List α) : Prop :=
  ps.length = n ∧ n ≤ 9223372036854775807 ∧ (0 < n → ∃ ad, A = some ad ∧ ∀ j p, ps[j]? = some p → ∃ c, c.length = size ∧ R p c ∧ ∀ i u, c[i]? = some u → w.cell? (ad.add (j * size + i)) = some u)
theorem ReadsRow.imp_ {α : Type} {R R' : α → List Value → Prop} {size : Nat} {w w1 : World} {A : Option Addr} {n : Nat} {ps : List α} (h : ReadsRow R size w A n ps) (hb : Below w.heap.size w w1) (hR : ∀ p c, R p c → R' p c) : ReadsRow R' size w1 A n ps :=
  ⟨h.1, h.2.1, fun hn => by
    obtain ⟨ad, e, hc⟩ := h.2.2 hn
    refine ⟨ad, e, fun j p hj => ?_⟩
    obtain ⟨c, hs, hr, hcell⟩ := hc j p hj
    exact ⟨c, hs, hR _ _ hr, fun i u hu => pw_cell_below hb (hcell i u hu)⟩⟩
theorem own_reads_row {α : Type} {R : α → List Value → Prop} {w : World} {base n size : Nat} {e : TypeId} {v : Value} {ps : List α} {cs : List Value} (h : w.ownsRow base e size v n cs) (hR : Reps R size ps cs) (hn : ps.length = n) :
    ∃ A c, v = .slice A n c ∧ ReadsRow R size w A n ps := by
  rcases Nat.eq_zero_or_pos n with h0 | h0
  · rcases h.2 with ⟨rfl, rfl⟩ | ⟨g, cap, cur, rfl, _⟩
    · exact ⟨none, 0, rfl, hn, by omega, fun hp => absurd hp (by omega)⟩
    · exact ⟨_, cap, rfl, hn, by omega, fun hp => absurd hp (by omega)⟩
  · obtain ⟨g, cap, rfl, _, _⟩ := h.form h0
    have hm : n ≤ 9223372036854775807 := by
      rcases h.2 with ⟨_, h1⟩ | ⟨g', cap', cur, he, _, _, h1, h2, _⟩
      · omega
      · simp only [maxLen] at h2
        omega
    refine ⟨_, cap, rfl, hn, hm, fun _ => ⟨_, rfl, fun j p hj => ⟨(cs.drop (j * size)).take size, ?_, hR.2 j p hj, fun i u hu => ?_⟩⟩⟩
    · have hjl := (List.getElem?_eq_some_iff.1 hj).1
      have h1 : j * size + size ≤ cs.length := by rw [hR.1, ← Nat.succ_mul]; exact Nat.mul_le_mul_right _ hjl
      rw [List.length_take, List.length_drop]
      omega
    · refine h.cells (g := g) rfl _ u ?_
      rw [List.getElem?_take] at hu
      split at hu
      · rw [List.getElem?_drop] at hu
        exact hu
      · cases hu
section
variable {P : Program} {ops : Array Oper} {rest : List Oper} {o : Oper} {a : Act} {Q : Exit → Act → World → Prop}
theorem print_append_cells {w0 W : World} (base : Nat) (hgd : o.guard = none) (s x : Operand) (t e : TypeId) (z : Value) (size bytes : Nat)
    (ho : o.op = .call { callee := .builtin .append, args := #[s, x], argTypes := #[t, t] })
    (ht : P.underlying t = some (.slice e)) (hinfo : (P.info? e).map (fun i => (i.zero, i.size, i.bytes)) = some (some z, size, bytes)) (hz : z.cells.size = size) (hs0 : 0 < size) (hb0 : 0 < bytes)
    (v : Value) (n : Nat) (xs ys : List Value) (hs : a.eval s = v) (hx : a.eval x = .slice (some ⟨W.heap.size, 0, none⟩) 1 1) (hys : ys.length = size) (h1 : ∀ u ∈ ys, u.oneCell' = true)
    (HO : W.ownsRow base e size v n xs) (HB : Below base w0 W) (hbase : base ≤ W.heap.size) (hl : (n + 1) * bytes ≤ 140737488355328)
    (h : ∀ v1 w1, w1.ownsRow base e size v1 (n + 1) (xs ++ ys) → Below base w0 w1 → W.grownBy w1 v.ownBlock → (v1.ownBlock = v.ownBlock ∨ ∃ b, v1.ownBlock = some b ∧ W.heap.size ≤ b) → wpList P ops Q rest (a.put o.dst v1) w1) :
    wpList P ops Q (o :: rest) a (W.alloc (.cells ys.toArray e)) := by
  obtain ⟨i0, hi, hzz⟩ := Option.map_eq_some_iff.1 hinfo
  simp only [Prod.mk.injEq] at hzz
  obtain ⟨hz0, hz1, hz2⟩ := hzz
  have hlen : n + 1 ≤ 140737488355328 := Nat.le_trans (Nat.le_mul_of_pos_right _ hb0) hl
  refine wpList_append_own_at (W.alloc (.cells ys.toArray e)) hgd s x t ho base e i0 z size bytes ht hi hz0 hz1 hz2 hz hs0 v n xs hs (HO.alloc _) ⟨W.heap.size, 0, none⟩ 1 1 ys hx (by rw [hys]; simp)
    (by simpa using World.news_of_block (cs := ys.toArray) (t := e) (fr := (0, 0)) (heap_alloc_new W (.cells ys.toArray e))) h1 (by simp only [maxLen]; omega) hl (by simp; omega) ?_
  intro v1 w1 hown hg _ hat
  refine h v1 w1 hown ((HB.alloc hbase _).grown hg (by simp; omega) (own_base HO)) (World.grownBy.trans (World.grownBy_alloc W _ _) hg) ?_
  rcases hat with hat | hat
  · exact .inl hat
  · exact .inr ⟨_, hat, by simp⟩
end
theorem blk_set {w : World} {g : Nat} {t : TypeId} {cs : Array Value} (h : w.heap[g]? = some (.cells cs t (0, 0))) (i : Nat) (u : Value) : (w.setCell ⟨g, i, none⟩ u).heap[g]? = some (.cells (cs.setIfInBounds i u) t (0, 0)) := by
  simp [World.setCell, Array.getElem?_modify, h]
theorem blk_lt {w : World} {g : Nat} {o : Obj} (h : w.heap[g]? = some o) : g < w.heap.size := (Array.getElem?_eq_some_iff.1 h).1
theorem blk_cell {w : World} {g : Nat} {t : TypeId} {cs : Array Value} (h : w.heap[g]? = some (.cells cs t (0, 0))) (i : Nat) : w.cell? ⟨g, i, none⟩ = cs[i]? := cell_of_row w g i cs t (0, 0) h
theorem blk_frozen {w : World} {g : Nat} {t : TypeId} {cs : Array Value} (h : w.heap[g]? = some (.cells cs t (0, 0))) (i : Nat) : w.frozen? ⟨g, i, none⟩ = false := by simp [World.frozen?, h]
def KeepBut (w w' : World) (g : Nat) (row : Option Nat) : Prop := w.heap.size ≤ w'.heap.size ∧ ∀ i, i < w.heap.size → i ≠ g → some i ≠ row → w'.heap[i]? = w.heap[i]?
theorem KeepBut.refl (w : World) (g : Nat) (row : Option Nat) : KeepBut w w g row := ⟨Nat.le_refl _, fun _ _ _ _ => rfl⟩
theorem KeepBut.of_below {w w1 : World} (h : Below w.heap.size w w1) (g : Nat) (row : Option Nat) : KeepBut w w1 g row := ⟨h.size, fun i hi _ _ => h.block i hi⟩
theorem KeepBut.trans {w w1 w2 : World} {g : Nat} {row row1 : Option Nat} (h : KeepBut w w1 g row) (k : KeepBut w1 w2 g row1) (hr : row1 = row ∨ ∃ b, row1 = some b ∧ w.heap.size ≤ b) : KeepBut w w2 g row :=
  ⟨Nat.le_trans h.1 k.1, fun i hi hg hn => by
    refine (k.2 i (Nat.lt_of_lt_of_le hi h.1) hg ?_).trans (h.2 i hi hg hn)
    rcases hr with rfl | ⟨b, rfl, hb⟩
    · exact hn
    · intro e
      injection e with e
      omega⟩
theorem KeepBut.blk {w w1 : World} {g g' : Nat} {row : Option Nat} {o : Obj} (h : KeepBut w w1 g row) (hb : w.heap[g']? = some o) (hg : g' ≠ g) (hr : some g' ≠ row) : w1.heap[g']? = some o := (h.2 g' (blk_lt hb) hg hr).trans hb
theorem KeepBut.own {w w1 : World} {g : Nat} {row : Option Nat} {base : Nat} {e : TypeId} {size n : Nat} {v : Value} {xs : List Value} (h : KeepBut w w1 g row) (ho : w.ownsRow base e size v n xs) (hg : v.ownBlock ≠ some g) (hr : v.ownBlock = none ∨ v.ownBlock ≠ row) : w1.ownsRow base e size v n xs := by
  obtain ⟨h1, h2⟩ := ho
  refine ⟨h1, ?_⟩
  rcases h2 with h2 | ⟨b, cap, cur, rfl, hb, hh, r⟩
  · exact .inl h2
  · refine .inr ⟨b, cap, cur, rfl, hb, h.blk hh ?_ ?_, r⟩
    · intro e
      exact hg (by rw [← e]; rfl)
    · rcases hr with hr | hr
      · simp [Value.ownBlock] at hr
      · exact hr
def Ev {α : Type} (g : Nat → Option α) (r : α) : Prop := ∃ K, ∀ k, K ≤ k → g k = some r
theorem Ev.of {α : Type} {g : Nat → Option α} {r : α} (hg : ∀ k, LeO (g k) (g (k + 1))) {k : Nat} (h : g k = some r) : Ev g r := ⟨k, fun _ hk => at_rounds hg hk h⟩
theorem Ev.rounds {α : Type} {g : Nat → Option α} {r : α} (h : Ev g r) : ∃ k, g k = some r := by
  obtain ⟨K, h⟩ := h
  exact ⟨K, h K (Nat.le_refl _)⟩
theorem Ev.bind {α β : Type} {g : Nat → Option α} {f : Nat → α → Option β} {a : α} {r : β} (h : Ev g a) (k : Ev (fun n => f n a) r) : Ev (fun n => (g n).bind (f n)) r := by
  obtain ⟨K, h⟩ := h
  obtain ⟨K', k⟩ := k
  refine ⟨max K K', fun n hn => ?_⟩
  have h1 := h n (by omega)
  have h2 := k n (by omega)
  simp only [h1, Option.bind_some]
  exact h2
theorem Ev.step {α : Type} {g f : Nat → Option α} {r : α} (h : ∀ k, g (k + 1) = f k) (k : Ev f r) : Ev g r := by
  obtain ⟨K, k⟩ := k
  refine ⟨K + 1, fun n hn => ?_⟩
  obtain ⟨m, rfl⟩ : ∃ m, n = m + 1 := ⟨n - 1, by omega⟩
  rw [h]
  exact k m (by omega)
theorem Ev.congr {α : Type} {g f : Nat → Option α} {r : α} (h : ∀ k, g k = f k) (k : Ev f r) : Ev g r := by
  obtain ⟨K, k⟩ := k
  exact ⟨K, fun n hn => (h n).trans (k n hn)⟩
theorem own_weaken {w : World} {base base' : Nat} {e : TypeId} {size n : Nat} {v : Value} {xs : List Value} (h : w.ownsRow base e size v n xs) (hb : base' ≤ base) : w.ownsRow base' e size v n xs := by
  obtain ⟨h1, h2⟩ := h
  refine ⟨h1, ?_⟩
  rcases h2 with h2 | ⟨g, cap, cur, rfl, hg, r⟩
  · exact .inl h2
  · exact .inr ⟨g, cap, cur, rfl, Nat.le_trans hb hg, r⟩
section
variable {α : Type} {enc : α → Value} {d : α}
def encs (enc : α → Value) (xs : List α) : List Value := xs.map enc
def rdOf (d : α) (xs : List α) (i : Int) : α := xs.getD i.toNat d
theorem encs_length (xs : List α) : (encs enc xs).length = xs.length := by simp [encs]
def ReadsOf (enc : α → Value) (d : α) (w : World) (A : Option Addr) (n : Nat) (xs : List α) : Prop :=
  xs.length = n ∧ n ≤ 9223372036854775807 ∧ (0 < n → ∃ ad, A = some ad ∧ ∀ j, j < n → w.cell? (ad.add j) = some (enc (xs.getD j d)))
theorem ReadsOf.at_ {w : World} {A : Option Addr} {n : Nat} {xs : List α} (h : ReadsOf enc d w A n xs) (i : Int) (h0 : 0 ≤ i) (h1 : i < n) : ∃ ad, A = some ad ∧ w.cell? (ad.add i.toNat) = some (enc (rdOf d xs i)) := by
  obtain ⟨ad, e, hc⟩ := h.2.2 (by omega)
  exact ⟨ad, e, hc _ (by omega)⟩
theorem ReadsOf.below {w w1 : World} {A : Option Addr} {n : Nat} {xs : List α} (h : ReadsOf enc d w A n xs) (hb : Below w.heap.size w w1) : ReadsOf enc d w1 A n xs :=
  ⟨h.1, h.2.1, fun hn => by
    obtain ⟨ad, e, hc⟩ := h.2.2 hn
    exact ⟨ad, e, fun j hj => pw_cell_below hb (hc j hj)⟩⟩
theorem own_store_of {W : World} {base g n cap : Nat} {e : TypeId} {xs : List α} (h : W.ownsRow base e 1 (.slice (some ⟨g, 0, none⟩) n cap) n (encs enc xs)) (i : Int) (x : α) :
    (W.setCell ⟨g, i.toNat, none⟩ (enc x)).ownsRow base e 1 (.slice (some ⟨g, 0, none⟩) n cap) n (encs enc (xs.set i.toNat x)) ∧ W.grownBy (W.setCell ⟨g, i.toNat, none⟩ (enc x)) (some g) := by
  have hs := h.stored i.toNat (enc x)
  have he : (encs enc xs).set i.toNat (enc x) = encs enc (xs.set i.toNat x) := by simp [encs, List.map_set]
  rwa [he] at hs
end
theorem blk_drew {w : World} {g : Nat} {o : Obj} (h : w.heap[g]? = some o) : w.drew.heap[g]? = some o := h
theorem blk_new (w : World) (o : Obj) : (w.alloc o).heap[w.heap.size]? = some o := heap_alloc_new w o
theorem own_le {w : World} {base n m c size : Nat} {e : TypeId} {A : Option Addr} {xs : List Value} (h : w.ownsRow base e size (.slice A m c) n xs) : m ≤ c := by
  rcases h.2 with ⟨he, _⟩ | ⟨g, cap, cur, he, _, _, hnc, _⟩
  · injection he with _ h2 h3
    omega
  · injection he with _ h2 h3
    omega
def OwnRow {α : Type} (R : α → List Value → Prop) (e : TypeId) (size : Nat) (w : World) (base : Nat) (v : Value) (ps : List α) : Prop :=
  ∃ inner, w.ownsRow base e size v ps.length inner ∧ Reps R size ps inner
section
variable {α : Type} {R R' : α → List Value → Prop} {e : TypeId} {size : Nat} {w w1 : World} {base : Nat} {v : Value} {ps : List α}
theorem OwnRow.none_ (R : α → List Value → Prop) (e : TypeId) (size : Nat) (w : World) (base : Nat) : OwnRow R e size w base (.slice none 0 0) [] := ⟨[], own_nil _ _ _ _, Reps.none _ _⟩
theorem OwnRow.imp_ (h : OwnRow R e size w base v ps) (hR : ∀ p c, R p c → R' p c) : OwnRow R' e size w base v ps := by
  obtain ⟨inner, ho, hr⟩ := h
  exact ⟨inner, ho, hr.imp_ hR⟩
theorem OwnRow.below (h : OwnRow R e size w base v ps) (hb : Below w.heap.size w w1) : OwnRow R e size w1 base v ps := by
  obtain ⟨inner, ho, hr⟩ := h
  exact ⟨inner, pw_own_below ho hb, hr⟩
theorem OwnRow.other (h : OwnRow R e size w base v ps) {row : Option Nat} (hg : w.grownBy w1 row) (hne : v.ownBlock = none ∨ v.ownBlock ≠ row) : OwnRow R e size w1 base v ps := by
  obtain ⟨inner, ho, hr⟩ := h
  exact ⟨inner, own_other ho hg hne, hr⟩
theorem OwnRow.reads (h : OwnRow R e size w base v ps) : ∃ A c, v = .slice A ps.length c ∧ ps.length ≤ c ∧ ReadsRow R size w A ps.length ps := by
  obtain ⟨inner, ho, hr⟩ := h
  obtain ⟨A, c, rfl, hrow⟩ := own_reads_row ho hr rfl
  exact ⟨A, c, rfl, own_le ho, hrow⟩
theorem OwnRow.lit (W : World) (base : Nat) {inner : List Value} (hr : Reps R size ps inner) (hb : base ≤ W.heap.size) (hm : ps.length ≤ 9223372036854775807) :
    OwnRow R e size (W.alloc (.cells inner.toArray e)) base (.slice (some ⟨W.heap.size, 0, none⟩) ps.length ps.length) ps := by
  have h := World.ownsRow_lit (base := base) (e := e) (size := size) W inner.toArray ps.length hb (by simpa [maxLen] using hm) (by simpa using hr.1)
  exact ⟨inner, by simpa using h, hr⟩
end
section
variable {P : Program} {ops : Array Oper} {rest : List Oper} {o : Oper} {a : Act} {Q : Exit → Act → World → Prop} {α : Type} {R : α → List Value → Prop}
theorem OwnRow.append {w0 W : World} (base : Nat) (hgd : o.guard = none) (s x : Operand) (t e : TypeId) (z : Value) (size bytes : Nat)
    (ho : o.op = .call { callee := .builtin .append, args := #[s, x], argTypes := #[t, t] })
    (ht : P.underlying t = some (.slice e)) (hinfo : (P.info? e).map (fun i => (i.zero, i.size, i.bytes)) = some (some z, size, bytes)) (hz : z.cells.size = size) (hs0 : 0 < size) (hb0 : 0 < bytes)
    (v : Value) (ps : List α) (p : α) (cs : List Value) (hs : a.eval s = v) (hx : a.eval x = .slice (some ⟨W.heap.size, 0, none⟩) 1 1) (hp : R p cs) (hcs : cs.length = size) (h1 : ∀ u ∈ cs, u.oneCell' = true)
    (HO : OwnRow R e size W base v ps) (HB : Below base w0 W) (hbase : base ≤ W.heap.size) (hl : (ps.length + 1) * bytes ≤ 140737488355328)
    (h : ∀ v1 w1, OwnRow R e size w1 base v1 (ps ++ [p]) → Below base w0 w1 → W.grownBy w1 v.ownBlock → (v1.ownBlock = v.ownBlock ∨ ∃ b, v1.ownBlock = some b ∧ W.heap.size ≤ b) → wpList P ops Q rest (a.put o.dst v1) w1) :
    wpList P ops Q (o :: rest) a (W.alloc (.cells cs.toArray e)) := by
  obtain ⟨inner, hown, hr⟩ := HO
  refine print_append_cells base hgd s x t e z size bytes ho ht hinfo hz hs0 hb0 v ps.length inner cs hs hx hcs h1 hown HB hbase hl ?_
  intro v1 w1 hown1 hb1 hg1 hat1
  exact h v1 w1 ⟨inner ++ cs, by rw [List.length_append, List.length_singleton]; exact hown1, hr.snoc hp hcs⟩ hb1 hg1 hat1
end
theorem ReadsRow.inner_ {α : Type} {R : α → List Value → Prop} {size : Nat} {w : World} {ad : Addr} {n : Nat} {ps : List α} (h : ReadsRow R size w (some ad) n ps) :
    ∃ inner, Reps R size ps inner ∧ ∀ j u, inner[j]? = some u → w.cell? (ad.add j) = some u := by
  have key : ∀ m, m ≤ ps.length → ∃ inner, Reps R size (ps.take m) inner ∧ ∀ j u, inner[j]? = some u → w.cell? (ad.add j) = some u := by
    intro m
    induction m with
    | zero => exact fun _ => ⟨[], Reps.none _ _, fun j u hu => by simp at hu⟩
    | succ m ih =>
      intro hm
      obtain ⟨inner, hr, hc⟩ := ih (by omega)
      obtain ⟨ad', he, hcell⟩ := h.2.2 (by have := h.1; omega)
      injection he with he
      subst he
      obtain ⟨c, hcl, hp, hcc⟩ := hcell m _ (List.getElem?_eq_getElem (show m < ps.length by omega))
      refine ⟨inner ++ c, ?_, fun j u hu => ?_⟩
      · rw [List.take_succ_eq_append_getElem (show m < ps.length by omega)]
        exact hr.snoc hp hcl
      · have hil : inner.length = m * size := by rw [hr.1, List.length_take, Nat.min_eq_left (by omega)]
        rcases Nat.lt_or_ge j inner.length with hj | hj
        · rw [List.getElem?_append_left hj] at hu
          exact hc j u hu
        · rw [List.getElem?_append_right hj] at hu
          have := hcc (j - inner.length) u hu
          rwa [hil, Nat.add_sub_cancel' (by omega)] at this
  obtain ⟨inner, hr, hc⟩ := key ps.length (Nat.le_refl _)
  rw [List.take_length] at hr
  exact ⟨inner, hr, hc⟩
section
variable {α : Type} {P : Program}
theorem ReadsOf.len_ {enc : α → Value} {d : α} {w : World} {A : Option Addr} {n : Nat} {xs : List α} (h : ReadsOf enc d w A n xs) : ReadsOf enc d w A xs.length xs := by rw [h.1]; exact h
end
structure Kd (α : Type) where
  sz : Nat
  E : List Nat
  K : World → α → List Value → Prop
  M : World → Nat → (Nat → Prop) → α → List Value → Prop
  K_len : ∀ {w x cs}, K w x cs → cs.length = sz
  K_one : ∀ {w x cs}, K w x cs → ∀ u ∈ cs, u.oneCell' = true
  K_below : ∀ {w w1 : World} {x cs}, Below w.heap.size w w1 → K w x cs → K w1 x cs
  K_of_M : ∀ {w base ok x cs}, M w base ok x cs → K w x cs
  M_mono : ∀ {w base ok ok' x cs}, (∀ k, ok k → ok' k) → M w base ok x cs → M w base ok' x cs
  M_bound : ∀ {w : World} {base ok x cs}, M w base ok x cs → M w base (fun k => ok k ∧ base ≤ k ∧ k < w.heap.size ∧ ∃ q, q ∈ E ∧ ∃ cells, w.heap[k]? = some (.cells cells q (0, 0))) x cs
  M_move : ∀ {w w1 : World} {base ok x cs}, (∀ k, ok k → w1.heap[k]? = w.heap[k]?) → M w base ok x cs → M w1 base ok x cs
  M_lower : ∀ {w base base' ok x cs}, base' ≤ base → M w base ok x cs → M w base' ok x cs
theorem own_move {w w1 : World} {base : Nat} {e : TypeId} {size n : Nat} {v : Value} {xs : List Value} (h : w.ownsRow base e size v n xs) (hm : ∀ k, v.ownBlock = some k → w1.heap[k]? = w.heap[k]?) : w1.ownsRow base e size v n xs := by
  obtain ⟨h1, h2⟩ := h
  refine ⟨h1, ?_⟩
  rcases h2 with h2 | ⟨g, cap, cur, rfl, hg, hh, r⟩
  · exact .inl h2
  · exact .inr ⟨g, cap, cur, rfl, hg, (hm g (by simp [Value.ownBlock])).trans hh, r⟩
theorem own_typed {w : World} {base : Nat} {e : TypeId} {size n : Nat} {v : Value} {xs : List Value} (h : w.ownsRow base e size v n xs) (k : Nat) (hk : v.ownBlock = some k) : ∃ cells, w.heap[k]? = some (.cells cells e (0, 0)) := by
  rcases h.2 with ⟨rfl, _⟩ | ⟨g, cap, cur, rfl, hg, hh, r⟩
  · simp [Value.ownBlock] at hk
  · have : g = k := by simpa [Value.ownBlock] using hk
    subst this
    exact ⟨cur, hh⟩
namespace Kd
def C {α : Type} (d : Kd α) (w : World) (A : Option Addr) (n : Nat) (xs : List α) : Prop := ReadsRow (d.K w) d.sz w A n xs
def R {α : Type} (d : Kd α) (e : Nat) (w : World) (base : Nat) (ok : Nat → Prop) (v : Value) (xs : List α) : Prop :=
  (∀ k, v.ownBlock = some k → ok k) ∧ OwnRow (d.M w base (fun k => ok k ∧ some k ≠ v.ownBlock)) e d.sz w base v xs
section
variable {α : Type} {d : Kd α} {e : Nat} {w w1 : World} {base : Nat} {ok ok' : Nat → Prop} {v : Value} {xs : List α}
theorem C_below {A : Option Addr} {n : Nat} (h : d.C w A n xs) (hb : Below w.heap.size w w1) : d.C w1 A n xs := ReadsRow.imp_ h hb (fun _ _ hp => d.K_below hb hp)
theorem R_nil (d : Kd α) (e : Nat) (w : World) (base : Nat) (ok : Nat → Prop) : d.R e w base ok (.slice none 0 0) [] := ⟨fun k hk => by simp [Value.ownBlock] at hk, OwnRow.none_ _ _ _ _ _⟩
theorem R_mono (h : d.R e w base ok v xs) (hok : ∀ k, ok k → ok' k) : d.R e w base ok' v xs := ⟨fun k hk => hok k (h.1 k hk), h.2.imp_ (fun _ _ hp => d.M_mono (fun k hk => ⟨hok k hk.1, hk.2⟩) hp)⟩
theorem R_bound (h : d.R e w base ok v xs) : d.R e w base (fun k => ok k ∧ base ≤ k ∧ k < w.heap.size ∧ ∃ q, q ∈ e :: d.E ∧ ∃ cells, w.heap[k]? = some (.cells cells q (0, 0))) v xs := by
  obtain ⟨h0, inner, ho, hr⟩ := h
  refine ⟨fun k hk => ?_, inner, ho, hr.imp_ (fun _ _ hp => d.M_mono (fun k hk => ?_) (d.M_bound hp))⟩
  · obtain ⟨cells, hc⟩ := own_typed ho k hk
    exact ⟨h0 k hk, own_base ho k hk, own_lt ho k hk, e, List.mem_cons_self, cells, hc⟩
  · obtain ⟨⟨h1, h2⟩, h3, h4, q, hq, hc⟩ := hk
    exact ⟨⟨h1, h3, h4, q, List.mem_cons_of_mem _ hq, hc⟩, h2⟩
theorem R_move (h : d.R e w base ok v xs) (hm : ∀ k, ok k → w1.heap[k]? = w.heap[k]?) : d.R e w1 base ok v xs := by
  obtain ⟨h0, inner, ho, hr⟩ := h
  exact ⟨h0, inner, own_move ho (fun k hk => hm k (h0 k hk)), hr.imp_ (fun _ _ hp => d.M_move (fun k hk => hm k hk.1) hp)⟩
theorem R_lower {base' : Nat} (h : d.R e w base ok v xs) (hb : base' ≤ base) : d.R e w base' ok v xs := by
  obtain ⟨h0, inner, ho, hr⟩ := h
  exact ⟨h0, inner, own_weaken ho hb, hr.imp_ (fun _ _ hp => d.M_lower hb hp)⟩
theorem R_step (h : d.R e w base ok v xs) (hm : ∀ k, ok k → k < w.heap.size → w1.heap[k]? = w.heap[k]?) : d.R e w1 base ok v xs :=
  R_mono (R_move (R_bound h) (fun k hk => hm k hk.1 hk.2.2.1)) (fun _ hk => hk.1)
theorem M_step {x : α} {cs : List Value} (h : d.M w base ok x cs) (hm : ∀ k, ok k → k < w.heap.size → w1.heap[k]? = w.heap[k]?) : d.M w1 base ok x cs :=
  d.M_mono (fun _ hk => hk.1) (d.M_move (fun k hk => hm k hk.1 hk.2.2.1) (d.M_bound h))
theorem R_below (h : d.R e w base ok v xs) (hb : Below w.heap.size w w1) : d.R e w1 base ok v xs := R_step h (fun k _ hk => hb.block k hk)
theorem M_below {x : α} {cs : List Value} (h : d.M w base ok x cs) (hb : Below w.heap.size w w1) : d.M w1 base ok x cs := M_step h (fun k _ hk => hb.block k hk)
theorem R_grown (h : d.R e w base ok v xs) {row : Option Nat} (hg : w.grownBy w1 row) (hok : ∀ k, ok k → some k ≠ row) : d.R e w1 base ok v xs := R_step h (fun k ho hk => hg.block k hk (hok k ho))
theorem R_reads (h : d.R e w base ok v xs) : ∃ A c, v = .slice A xs.length c ∧ xs.length ≤ c ∧ d.C w A xs.length xs := by
  obtain ⟨A, c, he, hl, hr⟩ := OwnRow.reads h.2
  exact ⟨A, c, he, hl, hr.imp_ (Below.refl _ _) (fun _ _ hp => d.K_of_M hp)⟩
theorem R_slice (h : d.R e w base ok v xs) : ∃ A c, v = .slice A xs.length c := by
  obtain ⟨A, c, he, _⟩ := R_reads h
  exact ⟨A, c, he⟩
theorem R_own (h : d.R e w base ok v xs) : ∃ inner, w.ownsRow base e d.sz v xs.length inner := by
  obtain ⟨_, inner, ho, _⟩ := h
  exact ⟨inner, ho⟩
end
def scalar {α : Type} (enc : α → Value) (h1 : ∀ x, (enc x).oneCell' = true) : Kd α where
  sz := 1
  E := []
  K := fun _ x cs => cs = [enc x]
  M := fun _ _ _ x cs => cs = [enc x]
  K_len := fun h => by rw [h]; rfl
  K_one := fun h u hu => by
    rw [h] at hu
    rw [List.mem_singleton.1 hu]
    exact h1 _
  K_below := fun _ h => h
  K_of_M := fun h => h
  M_mono := fun _ h => h
  M_bound := fun h => h
  M_move := fun _ h => h
  M_lower := fun _ h => h
def int (k : IntKind) : Kd Int := scalar (Value.int k) (fun _ => rfl)
def bool : Kd Bool := scalar Value.bool (fun _ => rfl)
def string : Kd ByteArray := scalar Value.string (fun _ => rfl)
def slice {α : Type} (e : Nat) (d : Kd α) : Kd (List α) where
  sz := 1
  E := e :: d.E
  K := fun w xs cs => ∃ A c, cs = [.slice A xs.length c] ∧ xs.length ≤ c ∧ d.C w A xs.length xs
  M := fun w base ok xs cs => ∃ v, cs = [v] ∧ d.R e w base ok v xs
  K_len := by
    rintro w x cs ⟨A, c, rfl, _⟩
    rfl
  K_one := by
    rintro w x cs ⟨A, c, rfl, _⟩ u hu
    rw [List.mem_singleton.1 hu]
    rfl
  K_below := by
    rintro w w1 x cs hb ⟨A, c, rfl, hl, hr⟩
    exact ⟨A, c, rfl, hl, C_below hr hb⟩
  K_of_M := by
    rintro w base ok x cs ⟨v, rfl, h⟩
    obtain ⟨A, c, rfl, hl, hr⟩ := R_reads h
    exact ⟨A, c, rfl, hl, hr⟩
  M_mono := by
    rintro w base ok ok' x cs hok ⟨v, rfl, h⟩
    exact ⟨v, rfl, R_mono h hok⟩
  M_bound := by
    rintro w base ok x cs ⟨v, rfl, h⟩
    exact ⟨v, rfl, R_bound h⟩
  M_move := by
    rintro w w1 base ok x cs hm ⟨v, rfl, h⟩
    exact ⟨v, rfl, R_move h hm⟩
  M_lower := by
    rintro w base base' ok x cs hb ⟨v, rfl, h⟩
    exact ⟨v, rfl, R_lower h hb⟩
theorem R_appended {α : Type} {d : Kd α} {e base : Nat} {ok okp : Nat → Prop} {W w1 : World} {v v1 : Value} {xs : List α} {p : α} {inner cs : List Value} (h0 : ∀ k, v.ownBlock = some k → ok k) (hr : Reps (d.M W base (fun k => ok k ∧ some k ≠ v.ownBlock)) d.sz xs inner) (hp : d.M W base okp p cs) (hokp : ∀ k, okp k → ok k ∧ some k ≠ v.ownBlock) (hfresh : ∀ k, W.heap.size ≤ k → ok k)
    (hown : w1.ownsRow base e d.sz v1 (xs.length + 1) (inner ++ cs)) (hg : W.grownBy w1 v.ownBlock) (hat : v1.ownBlock = v.ownBlock ∨ ∃ b, v1.ownBlock = some b ∧ W.heap.size ≤ b) : d.R e w1 base ok v1 (xs ++ [p]) := by
  have hne : ∀ k, some k ≠ v.ownBlock → k < W.heap.size → some k ≠ v1.ownBlock := by
    intro k hk hlt
    rcases hat with hat | ⟨b, hb, hle⟩
    · rw [hat]; exact hk
    · rw [hb]
      intro he
      injection he with he
      omega
  have step : ∀ {q : α} {c : List Value} {o : Nat → Prop}, d.M W base o q c → (∀ k, o k → ok k ∧ some k ≠ v.ownBlock) → d.M w1 base (fun k => ok k ∧ some k ≠ v1.ownBlock) q c := by
    intro q c o hq ho
    have h1 := d.M_move (w1 := w1) (fun k hk => hg.block k hk.2.2.1 (ho k hk.1).2) (d.M_bound hq)
    exact d.M_mono (fun k hk => ⟨(ho k hk.1).1, hne k (ho k hk.1).2 hk.2.2.1⟩) h1
  refine ⟨fun k hk => ?_, inner ++ cs, by rw [List.length_append, List.length_singleton]; exact hown, ?_⟩
  · rcases hat with hat | ⟨b, hb, hle⟩
    · exact h0 k (hat ▸ hk)
    · rw [hb] at hk
      injection hk with hk
      exact hfresh k (by omega)
  · exact (hr.imp_ (fun _ _ hq => step hq (fun _ hk => hk))).snoc (step hp hokp) (d.K_len (d.K_of_M hp))
section
variable {P : Program} {ops : Array Oper} {rest : List Oper} {o : Oper} {a : Act} {Q : Exit → Act → World → Prop} {α : Type}
theorem R_append (d : Kd α) {w0 W : World} (base : Nat) (hgd : o.guard = none) (s x : Operand) (t e : TypeId) (z : Value) (bytes : Nat)
    (ho : o.op = .call { callee := .builtin .append, args := #[s, x], argTypes := #[t, t] })
    (ht : P.underlying t = some (.slice e)) (hinfo : (P.info? e).map (fun i => (i.zero, i.size, i.bytes)) = some (some z, d.sz, bytes)) (hz : z.cells.size = d.sz) (hs0 : 0 < d.sz) (hb0 : 0 < bytes)
    (v : Value) (xs : List α) (p : α) (cs : List Value) (ok okp : Nat → Prop) (hs : a.eval s = v) (hx : a.eval x = .slice (some ⟨W.heap.size, 0, none⟩) 1 1) (hp : d.M W base okp p cs) (hokp : ∀ k, okp k → ok k ∧ some k ≠ v.ownBlock) (hfresh : ∀ k, W.heap.size ≤ k → ok k)
    (HO : d.R e W base ok v xs) (HB : Below base w0 W) (hbase : base ≤ W.heap.size) (hl : (xs.length + 1) * bytes ≤ 140737488355328)
    (h : ∀ v1 w1, d.R e w1 base ok v1 (xs ++ [p]) → Below base w0 w1 → W.grownBy w1 v.ownBlock → (v1.ownBlock = v.ownBlock ∨ ∃ b, v1.ownBlock = some b ∧ W.heap.size ≤ b) → wpList P ops Q rest (a.put o.dst v1) w1) :
    wpList P ops Q (o :: rest) a (W.alloc (.cells cs.toArray e)) := by
  obtain ⟨h0, inner, hown, hr⟩ := HO
  refine print_append_cells base hgd s x t e z d.sz bytes ho ht hinfo hz hs0 hb0 v xs.length inner cs hs hx (d.K_len (d.K_of_M hp)) (d.K_one (d.K_of_M hp)) hown HB hbase hl ?_
  intro v1 w1 hown1 hb1 hg1 hat1
  exact h v1 w1 (R_appended h0 hr hp hokp hfresh hown1 hg1 hat1) hb1 hg1 hat1
end
theorem reps_scalar {α : Type} {enc : α → Value} (xs : List α) : Reps (fun (x : α) (cs : List Value) => cs = [enc x]) 1 xs (encs enc xs) := by
  refine ⟨by simp [encs], fun j p hj => ?_⟩
  obtain ⟨hl, hp⟩ := List.getElem?_eq_some_iff.1 hj
  have hl' : j < (encs enc xs).length := by rw [encs_length]; exact hl
  rw [Nat.mul_one, List.drop_eq_getElem_cons hl']
  simp [encs, hp]
theorem R_of_own {α : Type} {enc : α → Value} {h1 : ∀ x, (enc x).oneCell' = true} {e : Nat} {w : World} {base : Nat} {ok : Nat → Prop} {v : Value} {xs : List α} (ho : w.ownsRow base e 1 v xs.length (encs enc xs)) (hok : ∀ k, v.ownBlock = some k → ok k) : (scalar enc h1).R e w base ok v xs := ⟨hok, encs enc xs, ho, reps_scalar xs⟩
theorem own_of_R {α : Type} {enc : α → Value} {h1 : ∀ x, (enc x).oneCell' = true} {e : Nat} {w : World} {base : Nat} {ok : Nat → Prop} {v : Value} {xs : List α} (h : (scalar enc h1).R e w base ok v xs) : w.ownsRow base e 1 v xs.length (encs enc xs) := by
  obtain ⟨_, inner, ho, hr⟩ := h
  have : inner = encs enc xs := by
    apply List.ext_getElem?
    intro j
    rcases Nat.lt_or_ge j xs.length with hj | hj
    · have h2 := hr.2 j _ (List.getElem?_eq_getElem hj)
      have hl : j < inner.length := by have := hr.1; simp [scalar] at this; omega
      have h3 : (inner.drop (j * 1)).take 1 = [enc xs[j]] := h2
      rw [Nat.mul_one, List.drop_eq_getElem_cons hl] at h3
      have h4 : inner[j] = enc xs[j] := by
        have h5 := congrArg List.head? h3
        rw [List.take_succ_cons] at h5
        exact Option.some.inj h5
      rw [List.getElem?_eq_getElem hl, h4]
      simp [encs, List.getElem?_eq_getElem hj]
    · have h3 : inner.length = xs.length := by have := hr.1; simp [scalar] at this; omega
      rw [List.getElem?_eq_none (by omega), List.getElem?_eq_none (by rw [encs_length]; omega)]
  rw [← this]
  exact ho
theorem reads_of_C {α : Type} {enc : α → Value} {d : α} {h1 : ∀ x, (enc x).oneCell' = true} {w : World} {A : Option Addr} {n : Nat} {xs : List α} (h : (scalar enc h1).C w A n xs) : ReadsOf enc d w A n xs := by
  refine ⟨h.1, h.2.1, fun hn => ?_⟩
  obtain ⟨ad, e, hc⟩ := h.2.2 hn
  refine ⟨ad, e, fun j hj => ?_⟩
  have hl : j < xs.length := by have := h.1; omega
  obtain ⟨c, _, hK, hcell⟩ := hc j _ (List.getElem?_eq_getElem hl)
  have hK' : c = [enc xs[j]] := hK
  subst hK'
  have := hcell 0 _ rfl
  simpa [scalar, List.getD_eq_getElem?_getD, List.getElem?_eq_getElem hl] using this
end Kd
namespace Kd
def Sub {α β : Type} (F : Kd α → Kd β) (E : List Nat) : Prop := ∀ d : Kd α, (∀ q, q ∈ d.E → q ∈ E) → ∀ q, q ∈ (F d).E → q ∈ E
end Kd
namespace Kd
end Kd
namespace Kd
section
variable {α β : Type} {d : Kd α} {d' : Kd β} {e e' : Nat} {w w1 W : World} {base b b' : Nat} {ok ok' okv oku : Nat → Prop} {v u : Value} {xs : List α} {ys : List β}
theorem C_alloc {A : Option Addr} {n : Nat} (h : d.C w A n xs) (o : Obj) : d.C (w.alloc o) A n xs := C_below h (below_alloc (Below.refl _ _) o)
theorem C_drew {A : Option Addr} {n : Nat} (h : d.C w A n xs) : d.C w.drew A n xs := C_below h (below_drew (Below.refl _ _))
theorem C_drewN {A : Option Addr} {n : Nat} (h : d.C w A n xs) (m : Nat) : d.C (w.drewN m) A n xs := C_below h (pw_below_drewN (Below.refl _ _) m)
theorem R_reads' {A : Option Addr} {n c : Nat} (h : d.R e w base ok (.slice A n c) xs) : n = xs.length ∧ n ≤ c ∧ d.C w A xs.length xs := by
  obtain ⟨A', c', he, hl, hr⟩ := R_reads h
  injection he with h1 h2 h3
  subst h1
  exact ⟨h2, by omega, hr⟩
theorem R_lt (h : d.R e w base ok v xs) : ∀ k, v.ownBlock = some k → k < w.heap.size := by
  obtain ⟨inner, ho⟩ := R_own h
  exact own_lt ho
theorem R_base (h : d.R e w base ok v xs) : ∀ k, v.ownBlock = some k → base ≤ k := by
  obtain ⟨inner, ho⟩ := R_own h
  exact own_base ho
theorem R_form (h : d.R e w base ok v xs) (hp : 0 < xs.length) : ∃ g cap, v = .slice (some ⟨g, 0, none⟩) xs.length cap ∧ base ≤ g ∧ g < w.heap.size ∧ ∃ cells, w.heap[g]? = some (.cells cells e (0, 0)) := by
  obtain ⟨inner, ho⟩ := R_own h
  obtain ⟨g, cap, he, hb, hl⟩ := ho.form hp
  obtain ⟨cells, hc⟩ := own_typed ho g (by rw [he]; simp [Value.ownBlock])
  exact ⟨g, cap, he, hb, hl, cells, hc⟩
end
section
variable {w W : World} {A : Option Addr} {n : Nat}
theorem at_int {k : IntKind} {xs : List Int} (h : (Kd.int k).C w A n xs) (i : Int) (h0 : 0 ≤ i) (h1 : i < n) : ∃ ad, A = some ad ∧ w.cell? (ad.add i.toNat) = some (.int k (rd xs i)) :=
  ReadsOf.at_ (reads_of_C (enc := Value.int k) (d := (0 : Int)) (h1 := fun _ => rfl) h) i h0 h1
variable {α : Type} {enc : α → Value} {h1 : ∀ x, (enc x).oneCell' = true} {e base g cap : Nat} {ok : Nat → Prop} {xs : List α}
theorem R_put (h : (scalar enc h1).R e W base ok (.slice (some ⟨g, 0, none⟩) xs.length cap) xs) (i : Int) (x : α) : (scalar enc h1).R e (W.setCell ⟨g, i.toNat, none⟩ (enc x)) base ok (.slice (some ⟨g, 0, none⟩) xs.length cap) (xs.set i.toNat x) ∧ W.grownBy (W.setCell ⟨g, i.toNat, none⟩ (enc x)) (some g) := by
  obtain ⟨ho, hg⟩ := own_store_of (own_of_R h) i x
  exact ⟨R_of_own (by rw [List.length_set]; exact ho) h.1, hg⟩
end
section
variable {P : Program} {ops : Array Oper} {rest : List Oper} {o : Oper} {a : Act} {Q : Exit → Act → World → Prop}
theorem event_run {W w1 : World} {v : Value} (hgd : o.guard = none) (hrun : (execOp a.eval o).run P W = .ok (.value v) w1) (h : wpList P ops Q rest (a.put o.dst v) w1) : wpList P ops Q (o :: rest) a W := by
  refine wpList_plain hgd fun K hK => ?_
  unfold Oper.wp
  rw [hrun]
  exact hK _ _ h
variable {α : Type}
theorem R_lit (d : Kd α) {w0 W : World} (base e : Nat) (hgd : o.guard = none) {N : Tmp} (_hd : o.dst = some N) {xs : List α} {inner : List Value} {ok okp : Nat → Prop}
    (hrun : (execOp a.eval o).run P W = .ok (.value (.slice (some ⟨W.heap.size, 0, none⟩) xs.length xs.length)) (W.alloc (.cells inner.toArray e)))
    (hrep : Reps (d.M W base okp) d.sz xs inner) (hok : ∀ k, okp k → ok k) (hfresh : ok W.heap.size) (HB : Below base w0 W) (hbase : base ≤ W.heap.size) (hm : xs.length ≤ 9223372036854775807)
    (h : ∀ v1 w1, d.R e w1 base ok v1 xs → Below base w0 w1 → W.grownBy w1 none → (∃ b, v1.ownBlock = some b ∧ W.heap.size ≤ b) → wpList P ops Q rest (a.put o.dst v1) w1) : wpList P ops Q (o :: rest) a W := by
  refine event_run hgd hrun (h _ _ ⟨fun k hk => ?_, inner, ?_, ?_⟩ (HB.alloc hbase _) (World.grownBy_alloc W _ none) ⟨W.heap.size, by simp [Value.ownBlock], Nat.le_refl _⟩)
  · have : W.heap.size = k := by simpa [Value.ownBlock] using hk
    subst this
    exact hfresh
  · have h2 := World.ownsRow_lit (base := base) (e := e) (size := d.sz) W inner.toArray xs.length hbase (by simpa [maxLen] using hm) (by simpa using hrep.1)
    simpa using h2
  · refine hrep.imp_ (fun p c hp => d.M_mono (fun k hk => ⟨hok k hk.1, fun he => ?_⟩) (M_below (d.M_bound hp) (below_alloc (Below.refl _ _) _)))
    have h3 : k = W.heap.size := by simpa [Value.ownBlock] using he
    have := hk.2.2.1
    omega
end
end Kd
theorem own_take {w : World} {base n m c size : Nat} {e : TypeId} {A : Option Addr} {xs : List Value} (h : w.ownsRow base e size (.slice A n c) n xs) (hm : m ≤ n) : w.ownsRow base e size (.slice A m c) m (xs.take (m * size)) := by
  obtain ⟨h1, h2⟩ := h
  refine ⟨by rw [List.length_take, h1]; exact Nat.min_eq_left (Nat.mul_le_mul_right _ hm), ?_⟩
  rcases h2 with ⟨he, h0⟩ | ⟨g, cap, cur, he, hb, hh, hnc, hcm, hcs, ht⟩
  · injection he with ha _ hc
    subst ha; subst hc
    exact .inl ⟨by rw [show m = 0 by omega], by omega⟩
  · injection he with ha _ hc
    subst ha; subst hc
    refine .inr ⟨g, c, cur, rfl, hb, hh, by omega, hcm, hcs, ?_⟩
    rw [← ht, List.take_take, Nat.min_eq_left (Nat.mul_le_mul_right _ hm)]
def QRow (w : World) (base : Nat) (e : TypeId) (size : Nat) (v : Value) (n : Nat) (xs : List Value) : Prop :=
  xs.length = n * size ∧
  ((n = 0 ∧ ∃ A, v = .slice A 0 0 ∧ ∀ a, A = some a → base ≤ a.block ∧ ∃ cur, w.heap[a.block]? = some (.cells cur e (0, 0))) ∨
   ∃ g off cap cur, v = .slice (some ⟨g, off * size, none⟩) n cap ∧ base ≤ g ∧ w.heap[g]? = some (.cells cur e (0, 0)) ∧ n ≤ cap ∧ off + cap ≤ maxLen ∧ cur.size = (off + cap) * size ∧ (cur.toList.drop (off * size)).take (n * size) = xs)
section
variable {w w1 : World} {base n size : Nat} {e : TypeId} {v : Value} {xs : List Value}
theorem setCells_far {g : Nat} : ∀ (vs : List Value) (o : Nat) {w : World} (k : Nat), k ≠ g → (w.setCells g o vs).heap[k]? = w.heap[k]?
  | [], _, _, _, _ => rfl
  | v :: r, o, w, k, hk => by
    rw [World.setCells, setCells_far r (o + 1) k hk]
    exact Below.heap_setCell w ⟨g, o, none⟩ v k hk
theorem setCells_same (g : Nat) : ∀ (vs : List Value) (o : Nat) (w : World), (w.setCells g o vs).os = w.os ∧ (w.setCells g o vs).tape = w.tape ∧ (w.setCells g o vs).output = w.output ∧ (w.setCells g o vs).heap.size = w.heap.size
  | [], _, _ => ⟨rfl, rfl, rfl, rfl⟩
  | v :: r, o, w => by
    obtain ⟨h1, h2, h3, h4⟩ := setCells_same g r (o + 1) (w.setCell ⟨g, o, none⟩ v)
    rw [World.setCells]
    exact ⟨h1, h2, h3, by rw [h4]; simp [World.setCell]⟩
theorem setCells_row {g : Nat} {e : TypeId} : ∀ (vs : List Value) (o : Nat) (w : World) (cur : Array Value), w.heap[g]? = some (.cells cur e (0, 0)) → o + vs.length ≤ cur.size →
    ∃ cur', (w.setCells g o vs).heap[g]? = some (.cells cur' e (0, 0)) ∧ cur'.size = cur.size ∧ cur'.toList = cur.toList.take o ++ vs ++ cur.toList.drop (o + vs.length)
  | [], o, w, cur, h, _ => ⟨cur, h, rfl, by simp⟩
  | v :: r, o, w, cur, h, hl => by
    have h2 := blk_set h o v
    simp only [List.length_cons] at hl
    obtain ⟨cur', h3, h4, h5⟩ := setCells_row r (o + 1) (w.setCell ⟨g, o, none⟩ v) _ h2 (by simp; omega)
    refine ⟨cur', h3, by rw [h4]; simp, ?_⟩
    rw [h5, Array.toList_setIfInBounds]
    have ho : o < cur.toList.length := by rw [Array.length_toList]; omega
    rw [List.take_set, List.drop_set_of_lt (by omega)]
    simp only [List.length_cons]
    rw [show o + 1 + r.length = o + (r.length + 1) by omega]
    congr 1
    rw [List.take_succ_eq_append_getElem ho, List.set_append_right _ _ (by rw [List.length_take]; omega)]
    have ho' : o < cur.size := by omega
    simp [Nat.min_eq_left (Nat.le_of_lt ho')]
end
namespace Kd
theorem reps_take {α : Type} {R : α → List Value → Prop} {size m : Nat} {ps : List α} {cs : List Value} (h : Reps R size ps cs) (hm : m ≤ ps.length) : Reps R size (ps.take m) (cs.take (m * size)) := by
  refine ⟨by rw [List.length_take, List.length_take, h.1, Nat.min_eq_left hm, Nat.min_eq_left (Nat.mul_le_mul_right _ hm)], fun j p hj => ?_⟩
  rw [List.getElem?_take] at hj
  split at hj
  · rename_i hjm
    have := h.2 j p hj
    have hle : j * size + size ≤ m * size := by rw [← Nat.succ_mul]; exact Nat.mul_le_mul_right _ hjm
    rw [List.drop_take, List.take_take, Nat.min_eq_left (by omega)]
    exact this
  · cases hj
theorem R_take {α : Type} {d : Kd α} {e m n c : Nat} {w : World} {base : Nat} {ok : Nat → Prop} {A : Option Addr} {xs : List α} (h : d.R e w base ok (.slice A n c) xs) (hm : m ≤ xs.length) : d.R e w base ok (.slice A m c) (xs.take m) := by
  obtain ⟨h0, inner, ho, hr⟩ := h
  have hn : n = xs.length := by
    obtain ⟨A', c', he⟩ := own_slice ho
    injection he
  subst hn
  have hb : ∀ x y : Nat, (Value.slice A x c).ownBlock = (Value.slice A y c).ownBlock := by
    intro x y
    cases A <;> rfl
  refine ⟨fun k hk => h0 k (by rw [hb _ m]; exact hk), inner.take (m * d.sz), ?_, ?_⟩
  · rw [List.length_take, Nat.min_eq_left hm]
    exact own_take ho hm
  · rw [hb m xs.length]
    exact reps_take hr hm
def Q {α : Type} (d : Kd α) (e : Nat) (w : World) (base : Nat) (ok : Nat → Prop) (v : Value) (xs : List α) : Prop :=
  (∀ k, v.ownBlock = some k → ok k) ∧ ∃ inner, QRow w base e d.sz v xs.length inner ∧ Reps (d.M w base (fun k => ok k ∧ some k ≠ v.ownBlock)) d.sz xs inner
end Kd
namespace Kd
section
variable {α : Type} {d : Kd α} {e e' : Nat} {w w1 W : World} {base : Nat} {ok : Nat → Prop} {u v : Value} {xs : List α}
theorem R_typed (h : d.R e w base ok v xs) : ∀ k, v.ownBlock = some k → ∃ cells, w.heap[k]? = some (.cells cells e (0, 0)) := by
  obtain ⟨inner, ho⟩ := R_own h
  exact fun k hk => own_typed ho k hk
end
end Kd
theorem seg_get {α : Type} (a seg : List α) (o : Nat) (h : o + seg.length ≤ a.length) (q : Nat) :
    (a.take o ++ seg ++ a.drop (o + seg.length))[q]? = if q < o then a[q]? else if q < o + seg.length then seg[q - o]? else a[q]? := by
  have hl : (a.take o).length = o := by rw [List.length_take]; omega
  rw [List.append_assoc]
  by_cases h1 : q < o
  · rw [if_pos h1, List.getElem?_append_left (by omega), List.getElem?_take, if_pos h1]
  · rw [if_neg h1, List.getElem?_append_right (by omega), hl]
    by_cases h2 : q < o + seg.length
    · rw [if_pos h2, List.getElem?_append_left (by omega)]
    · rw [if_neg h2, List.getElem?_append_right (by omega), List.getElem?_drop]
      congr 1
      omega
namespace Kd
section
variable {α : Type} {d : Kd α} {e base g n cap : Nat} {ok okp : Nat → Prop} {W : World} {xs : List α}
theorem R_seg (h : d.R e W base ok (.slice (some ⟨g, 0, none⟩) n cap) xs) (i : Int) (h0 : 0 ≤ i) (h1 : i < n) {c seg : List Value} {j : Nat} (hcl : c.length = d.sz) (hcc : ∀ j u, c[j]? = some u → W.cell? ⟨g, i.toNat * d.sz + j, none⟩ = some u)
    (hj : j + seg.length ≤ d.sz) {x' : α} (hM : d.M W base okp x' (c.take j ++ seg ++ c.drop (j + seg.length))) (hokp : ∀ k, okp k → ok k ∧ k ≠ g) :
    d.R e (W.setCells g (i.toNat * d.sz + j) seg) base ok (.slice (some ⟨g, 0, none⟩) n cap) (xs.set i.toNat x') ∧ W.grownBy (W.setCells g (i.toNat * d.sz + j) seg) (some g) := by
  obtain ⟨hn, hnc, _⟩ := R_reads' h
  obtain ⟨hok, inner, ho, hr⟩ := h
  have hil : i.toNat < xs.length := by omega
  have hseg : i.toNat * d.sz + d.sz ≤ inner.length := by rw [hr.1, ← Nat.succ_mul]; exact Nat.mul_le_mul_right _ hil
  have hin : inner.length = n * d.sz := by rw [hr.1, hn]
  obtain ⟨ho1, ho2⟩ := ho
  rcases ho2 with ⟨hv, _⟩ | ⟨g', cap', cur, hv, hb, hh, hnc', hcm, hcs, ht⟩
  · cases hv
  injection hv with ha _ hc
  injection ha with ha
  injection ha with hg
  subst hg; subst hc
  have hfit : i.toNat * d.sz + j + seg.length ≤ cur.size := by
    have : n * d.sz ≤ cap * d.sz := Nat.mul_le_mul_right _ hnc
    omega
  obtain ⟨cur', h3, h4, h5⟩ := setCells_row seg (i.toNat * d.sz + j) W cur hh hfit
  obtain ⟨s1, s2, s3, s4⟩ := setCells_same g seg (i.toNat * d.sz + j) W
  have hfar : ∀ k, k ≠ g → (W.setCells g (i.toNat * d.sz + j) seg).heap[k]? = W.heap[k]? := fun k hk => setCells_far seg _ k hk
  -- the element's cells before are what was read
  have hcin : ∀ q, q < d.sz → c[q]? = inner[i.toNat * d.sz + q]? := by
    intro q hq
    have hq' : q < c.length := by omega
    have h6 := hcc q _ (List.getElem?_eq_getElem hq')
    rw [cell_of_row W g _ cur e (0, 0) hh] at h6
    rw [List.getElem?_eq_getElem hq', ← h6, ← ht, List.getElem?_take, if_pos (by rw [← hn]; omega), Array.getElem?_toList]
  refine ⟨⟨hok, inner.take (i.toNat * d.sz + j) ++ seg ++ inner.drop (i.toNat * d.sz + j + seg.length), ⟨?_, .inr ⟨g, cap, cur', by rw [List.length_set, hn], hb, h3, by rw [List.length_set, ← hn]; exact hnc, hcm, by rw [h4, hcs], ?_⟩⟩, ?_⟩,
    ⟨s1, s2, s3, by rw [s4]; exact Nat.le_refl _, fun k _ hk => hfar k (fun he => hk (by rw [he]))⟩⟩
  · rw [List.length_set]
    simp only [List.length_append, List.length_take, List.length_drop]
    rw [hr.1] at hseg ⊢
    omega
  · rw [List.length_set, ← hn]
    apply List.ext_getElem?
    intro q
    rw [List.getElem?_take, h5]
    rw [seg_get cur.toList seg (i.toNat * d.sz + j) (by rw [Array.length_toList]; omega) q, seg_get inner seg (i.toNat * d.sz + j) (by omega) q]
    have hcur : ∀ q, q < n * d.sz → cur.toList[q]? = inner[q]? := by
      intro q hq
      rw [← ht, List.getElem?_take, if_pos (by rw [← hn]; exact hq)]
    by_cases hq : q < n * d.sz
    · rw [if_pos hq, hcur q hq]
    · rw [if_neg hq, if_neg (by omega), if_neg (by omega), List.getElem?_eq_none (by omega)]
  · refine ⟨?_, fun m p hm => ?_⟩
    · rw [List.length_set]
      simp only [List.length_append, List.length_take, List.length_drop]
      rw [hr.1] at hseg ⊢
      omega
    · have hml : m < xs.length := by
        have := (List.getElem?_eq_some_iff.1 hm).1
        rwa [List.length_set] at this
      have hmfit : m * d.sz + d.sz ≤ inner.length := by rw [hr.1, ← Nat.succ_mul]; exact Nat.mul_le_mul_right _ hml
      have hgo : some g = (Value.slice (some ⟨g, 0, none⟩) n cap).ownBlock := by simp [Value.ownBlock]
      by_cases hmi : m = i.toNat
      · subst hmi
        rw [List.getElem?_set_self (by omega)] at hm
        injection hm with hm
        subst hm
        have hcells : ((inner.take (i.toNat * d.sz + j) ++ seg ++ inner.drop (i.toNat * d.sz + j + seg.length)).drop (i.toNat * d.sz)).take d.sz = c.take j ++ seg ++ c.drop (j + seg.length) := by
          apply List.ext_getElem?
          intro q
          rw [List.getElem?_take, List.getElem?_drop, seg_get inner seg _ (by omega), seg_get c seg j (by omega) q]
          by_cases hq : q < d.sz
          · rw [if_pos hq, hcin q hq]
            by_cases hq1 : q < j
            · rw [if_pos (by omega), if_pos hq1]
            · rw [if_neg (by omega), if_neg hq1]
              by_cases hq2 : q < j + seg.length
              · rw [if_pos (by omega), if_pos hq2]
                congr 1
                omega
              · rw [if_neg (by omega), if_neg hq2]
          · rw [if_neg hq, if_neg (by omega), if_neg (by omega), List.getElem?_eq_none (by omega)]
        rw [hcells]
        refine d.M_mono (fun k hk => ?_) (d.M_move (w1 := W.setCells g (i.toNat * d.sz + j) seg) (fun k hk => hfar k (hokp k hk).2) hM)
        exact ⟨(hokp k hk).1, fun he => (hokp k hk).2 (by rw [← hgo] at he; injection he)⟩
      · rw [List.getElem?_set_ne (by omega)] at hm
        have hold := hr.2 m p hm
        have hcells : ((inner.take (i.toNat * d.sz + j) ++ seg ++ inner.drop (i.toNat * d.sz + j + seg.length)).drop (m * d.sz)).take d.sz = (inner.drop (m * d.sz)).take d.sz := by
          apply List.ext_getElem?
          intro q
          rw [List.getElem?_take, List.getElem?_take, List.getElem?_drop, List.getElem?_drop, seg_get inner seg _ (by omega)]
          by_cases hq : q < d.sz
          · rw [if_pos hq, if_pos hq]
            rcases Nat.lt_or_gt_of_ne hmi with hlt | hgt
            · have : m * d.sz + d.sz ≤ i.toNat * d.sz := by rw [← Nat.succ_mul]; exact Nat.mul_le_mul_right _ hlt
              rw [if_pos (by omega)]
            · have : i.toNat * d.sz + d.sz ≤ m * d.sz := by rw [← Nat.succ_mul]; exact Nat.mul_le_mul_right _ hgt
              rw [if_neg (by omega), if_neg (by omega)]
          · rw [if_neg hq, if_neg hq]
        rw [hcells]
        refine d.M_move (fun k hk => hfar k (fun he => hk.2 (by rw [he]; exact hgo))) hold
end
end Kd
namespace Kd
def fixed {α : Type} (d : Kd α) (w0 : World) : Kd α where
  sz := d.sz
  E := []
  K := fun _ x cs => d.K w0 x cs
  M := fun _ _ _ x cs => d.K w0 x cs
  K_len := d.K_len
  K_one := d.K_one
  K_below := fun _ h => h
  K_of_M := fun h => h
  M_mono := fun _ h => h
  M_bound := fun h => h
  M_move := fun _ h => h
  M_lower := fun _ h => h
def or_ {α : Type} (a b : Kd α) (h : b.sz = a.sz) : Kd α where
  sz := a.sz
  E := a.E ++ b.E
  K := fun w x cs => a.K w x cs ∨ b.K w x cs
  M := fun w base ok x cs => a.M w base ok x cs ∨ b.M w base ok x cs
  K_len := fun hk => hk.elim a.K_len (fun hk => (b.K_len hk).trans h)
  K_one := fun hk => hk.elim a.K_one b.K_one
  K_below := fun hb hk => hk.imp (a.K_below hb) (b.K_below hb)
  K_of_M := fun hk => hk.imp a.K_of_M b.K_of_M
  M_mono := fun hok hk => hk.imp (a.M_mono hok) (b.M_mono hok)
  M_bound := fun hk => hk.imp
    (fun hk => a.M_mono (fun _ ⟨h1, h2, h3, q, hq, hc⟩ => ⟨h1, h2, h3, q, List.mem_append_left _ hq, hc⟩) (a.M_bound hk))
    (fun hk => b.M_mono (fun _ ⟨h1, h2, h3, q, hq, hc⟩ => ⟨h1, h2, h3, q, List.mem_append_right _ hq, hc⟩) (b.M_bound hk))
  M_move := fun hm hk => hk.imp (a.M_move hm) (b.M_move hm)
  M_lower := fun hb hk => hk.imp (a.M_lower hb) (b.M_lower hb)
def mix {α : Type} (e : Nat) (d dm : Kd α) (w0 : World) : Kd (List α) := or_ (fixed (slice e d) w0) (slice e dm) rfl
end Kd
namespace Kd
theorem reps_append {α : Type} {R : α → List Value → Prop} {size : Nat} {ps qs : List α} {cs ds : List Value} (h : Reps R size ps cs) (h' : Reps R size qs ds) : Reps R size (ps ++ qs) (cs ++ ds) := by
  refine ⟨by rw [List.length_append, List.length_append, h.1, h'.1, Nat.add_mul], fun j p hj => ?_⟩
  rcases Nat.lt_or_ge j ps.length with hlt | hge
  · rw [List.getElem?_append_left hlt] at hj
    have hle : j * size + size ≤ cs.length := by rw [h.1, ← Nat.succ_mul]; exact Nat.mul_le_mul_right _ hlt
    rw [List.drop_append_of_le_length (by omega), List.take_append_of_le_length (by rw [List.length_drop]; omega)]
    exact h.2 j p hj
  · rw [List.getElem?_append_right hge] at hj
    have h2 := h'.2 (j - ps.length) p hj
    have hle : ps.length * size ≤ j * size := Nat.mul_le_mul_right _ hge
    rw [List.drop_append, List.drop_eq_nil_of_le (by rw [h.1]; exact hle), List.nil_append, h.1, ← Nat.sub_mul]
    exact h2
section
variable {P : Program} {ops : Array Oper} {rest : List Oper} {o : Oper} {a : Act} {Q : Exit → Act → World → Prop} {α : Type}
theorem R_append_rows (d : Kd α) {Rr : α → List Value → Prop} {w0 W : World} (base : Nat) (hgd : o.guard = none) (s x : Operand) (t e : TypeId) (z : Value) (bytes : Nat)
    (ho : o.op = .call { callee := .builtin .append, args := #[s, x], argTypes := #[t, t] })
    (ht : P.underlying t = some (.slice e)) (hinfo : (P.info? e).map (fun i => (i.zero, i.size, i.bytes)) = some (some z, d.sz, bytes)) (hz : z.cells.size = d.sz) (hs0 : 0 < d.sz) (hb0 : 0 < bytes)
    (v : Value) (xs ys : List α) (A : Option Addr) (m c : Nat) (ok okp : Nat → Prop) (hs : a.eval s = v) (hx : a.eval x = .slice A m c)
    (HO : d.R e W base ok v xs) (HR : ReadsRow Rr d.sz W A m ys) (hKM : ∀ x cs, Rr x cs → d.M W base okp x cs) (hokp : ∀ k, okp k → ok k ∧ some k ≠ v.ownBlock) (hfresh : ∀ k, W.heap.size ≤ k → ok k)
    (HB : Below base w0 W) (hbase : base ≤ W.heap.size) (hl : (xs.length + m) * bytes ≤ 140737488355328)
    (h : ∀ v1 w1, d.R e w1 base ok v1 (xs ++ ys) → Below base w0 w1 → W.grownBy w1 v.ownBlock → (v1.ownBlock = v.ownBlock ∨ ∃ b, v1.ownBlock = some b ∧ W.heap.size ≤ b) → wpList P ops Q rest (a.put o.dst v1) w1) :
    wpList P ops Q (o :: rest) a W := by
  obtain ⟨i0, hi, hzz⟩ := Option.map_eq_some_iff.1 hinfo
  simp only [Prod.mk.injEq] at hzz
  obtain ⟨hz0, hz1, hz2⟩ := hzz
  have hm : ys.length = m := HR.1
  have hlen : xs.length + m ≤ 140737488355328 := Nat.le_trans (Nat.le_mul_of_pos_right _ hb0) hl
  obtain ⟨hok, inner, hown, hr⟩ := HO
  have hrun : ∃ v1 w1, (Builtin.append_ #[t, t] o.type #[v, .slice A m c]).run P W = .ok v1 w1 ∧ d.R e w1 base ok v1 (xs ++ ys) ∧ W.grownBy w1 v.ownBlock ∧ (v1.ownBlock = v.ownBlock ∨ ∃ b, v1.ownBlock = some b ∧ W.heap.size ≤ b) := by
    rcases A with _ | ad
    · have h0 : m = 0 := by
        rcases Nat.eq_zero_or_pos m with h0 | h0
        · exact h0
        · obtain ⟨ad, h, _⟩ := HR.2.2 h0
          cases h
      subst h0
      obtain rfl : ys = [] := List.eq_nil_of_length_eq_zero hm
      refine ⟨v, W, ?_, by rw [List.append_nil]; exact ⟨hok, inner, hown, hr⟩, World.grownBy.refl W _, .inl rfl⟩
      rcases hown.2 with ⟨rfl, hn⟩ | ⟨g, cap, cur, rfl, _, _, hnc, _⟩
      · simp [Builtin.append_, run_underlying ht, sizeOf, typeInfo, hi, Builtin.lenOf, Builtin.firstCells]
      · simp [Builtin.append_, run_underlying ht, sizeOf, typeInfo, hi, Builtin.lenOf, Builtin.firstCells, hnc, storeCells]
    · obtain ⟨news, hnr, hnc⟩ := ReadsRow.inner_ HR
      have hnM : Reps (d.M W base okp) d.sz ys news := hnr.imp_ (fun p c hp => hKM p c hp)
      have hone : ∀ u ∈ news, u.oneCell' = true := by
        intro u hu
        obtain ⟨q, hq, rfl⟩ := List.mem_iff_getElem.1 hu
        have hql : q / d.sz < ys.length := by
          rw [Nat.div_lt_iff_lt_mul hs0]
          rw [← hnM.1]
          exact hq
        have hc := hnM.2 (q / d.sz) _ (List.getElem?_eq_getElem hql)
        refine d.K_one (d.K_of_M hc) _ ?_
        rw [List.mem_iff_getElem?]
        refine ⟨q % d.sz, ?_⟩
        rw [List.getElem?_take, if_pos (Nat.mod_lt _ hs0), List.getElem?_drop, Nat.mul_comm, Nat.div_add_mod, List.getElem?_eq_getElem hq]
      obtain ⟨v1, w1, hrun, h2, hg, _, hat⟩ := run_append_own_at (P := P) W base t o.type e i0 z d.sz bytes ht hi hz0 hz1 hz2 hz hs0 v xs.length inner hown ad m c news (by rw [hnM.1, hm]) hnc hone (by simp only [maxLen]; omega) hl hbase
      have hat' : v1.ownBlock = v.ownBlock ∨ ∃ b, v1.ownBlock = some b ∧ W.heap.size ≤ b := by
        rcases hat with hat | hat
        · exact .inl hat
        · exact .inr ⟨_, hat, Nat.le_refl _⟩
      have hne : ∀ k, some k ≠ v.ownBlock → k < W.heap.size → some k ≠ v1.ownBlock := by
        intro k hk hlt
        rcases hat' with hat | ⟨b, hb, hle⟩
        · rw [hat]; exact hk
        · rw [hb]
          intro he
          injection he with he
          omega
      have step : ∀ {q : α} {c : List Value} {o : Nat → Prop}, d.M W base o q c → (∀ k, o k → ok k ∧ some k ≠ v.ownBlock) → d.M w1 base (fun k => ok k ∧ some k ≠ v1.ownBlock) q c := by
        intro q c o hq ho
        have h1 := d.M_move (w1 := w1) (fun k hk => hg.block k hk.2.2.1 (ho k hk.1).2) (d.M_bound hq)
        exact d.M_mono (fun k hk => ⟨(ho k hk.1).1, hne k (ho k hk.1).2 hk.2.2.1⟩) h1
      refine ⟨v1, w1, hrun, ⟨fun k hk => ?_, inner ++ news, by rw [List.length_append, hm]; exact h2, reps_append (hr.imp_ (fun _ _ hq => step hq (fun _ hk => hk))) (hnM.imp_ (fun _ _ hq => step hq hokp))⟩, hg, hat'⟩
      rcases hat' with hat | ⟨b, hb, hle⟩
      · exact hok k (hat ▸ hk)
      · rw [hb] at hk
        injection hk with hk
        exact hfresh k (by omega)
  obtain ⟨v1, w1, hr1, h1, hg, hat⟩ := hrun
  refine wpList_plain hgd fun K hK => ?_
  unfold Oper.wp execOp
  simp only [ho, resolve, invoke, builtin, Sem.run_bind, Sem.run_pure, Result.andThen_ok, List.map_toArray, List.map_cons, List.map_nil, hs, hx, hr1]
  exact hK _ _ (h v1 w1 h1 (HB.grown hg hbase (own_base hown)) hg hat)
end
end Kd
theorem run_store_run {P : Program} {w : World} {g o : Nat} {e : TypeId} {cur : Array Value} (t : TypeId) (u : Value) (seg : List Value) (hh : w.heap[g]? = some (.cells cur e (0, 0))) (hu : u.cells.toList = seg) (ht : (P.info? t).map (·.size) = some seg.length)
    (hfit : o + seg.length ≤ cur.size) (h1 : ∀ q ∈ seg, q.oneCell' = true) : (Instr.storeAt t (.pointer (some ⟨g, o, none⟩)) u).run P w = .ok () (w.setCells g o seg) := by
  obtain ⟨i, hi, hsz⟩ := Option.map_eq_some_iff.1 ht
  have hc : u.cells.size = i.size := by rw [hsz, ← hu, Array.length_toList]
  have hst := run_storeCells_cells (P := P) g o seg 0 w (fun j hj => by rw [cell_of_row w g _ cur e (0, 0) hh]; simp; omega) (fun j _ => blk_frozen hh _) h1
  simp only [Nat.add_zero] at hst
  simp [Instr.storeAt, Instr.sureAddr, storeVar, sizeOf, typeInfo, hi, hc, hu, hst]
namespace Kd
section
variable {P : Program} {ops : Array Oper} {rest : List Oper} {o : Oper} {a : Act} {Q : Exit → Act → World → Prop} {α : Type}
theorem R_store (d : Kd α) {w0 W : World} (base : Nat) (hN : o.dst = none) (hgd : o.guard = none) (t : TypeId) (p x : Operand) (ho : o.op = .store t p x) (e : TypeId) {g n cap o' : Nat} (i : Int) (j : Nat) (xs : List α) (x' : α) (u : Value) (seg c : List Value) (ok okp : Nat → Prop)
    (haddr : a.eval p = .pointer (some ⟨g, o', none⟩)) (hoff : o' = i.toNat * d.sz + j) (hx : a.eval x = u) (hu : u.cells.toList = seg) (ht : (P.info? t).map (·.size) = some seg.length) (h1 : ∀ q ∈ seg, q.oneCell' = true)
    (HO : d.R e W base ok (.slice (some ⟨g, 0, none⟩) n cap) xs) (h0 : 0 ≤ i) (hi : i < n) (hcl : c.length = d.sz) (hcc : ∀ j u, c[j]? = some u → W.cell? ⟨g, i.toNat * d.sz + j, none⟩ = some u)
    (hj : j + seg.length ≤ d.sz) (hM : d.M W base okp x' (c.take j ++ seg ++ c.drop (j + seg.length))) (hokp : ∀ k, okp k → ok k ∧ k ≠ g) (HB : Below base w0 W)
    (h : ∀ w1, d.R e w1 base ok (.slice (some ⟨g, 0, none⟩) n cap) (xs.set i.toNat x') → Below base w0 w1 → W.grownBy w1 (some g) → wpList P ops Q rest a w1) : wpList P ops Q (o :: rest) a W := by
  subst hoff
  obtain ⟨hrow, hg⟩ := R_seg HO i h0 hi hcl hcc hj hM hokp
  have hbg : base ≤ g := R_base HO g (by simp [Value.ownBlock])
  have hnx : n = xs.length := (R_reads' HO).1
  obtain ⟨_, inner, hown, hr⟩ := HO
  have hil : i.toNat < n := by omega
  have hB : Below base w0 (W.setCells g (i.toNat * d.sz + j) seg) := HB.trans ⟨hg.os, hg.tape, hg.output, hg.size, fun k hk => by
    have hlt : k < W.heap.size ∨ W.heap.size ≤ k := Nat.lt_or_ge _ _
    rcases hlt with hlt | hge
    · exact hg.block k hlt (fun he => by injection he with he; omega)
    · exact setCells_far seg _ k (by omega)⟩
  refine wpList_plain hgd fun K hK => ?_
  have hrun : (Instr.storeAt t (.pointer (some ⟨g, i.toNat * d.sz + j, none⟩)) u).run P W = .ok () (W.setCells g (i.toNat * d.sz + j) seg) := by
    rcases hown.2 with ⟨hv, _⟩ | ⟨g', cap', cur, hv, hb, hh, hnc, hcm, hcs, _⟩
    · cases hv
    injection hv with ha _ hc
    injection ha with ha
    injection ha with hg'
    subst hg'; subst hc
    refine run_store_run t u seg hh hu ht ?_ h1
    have h2 : i.toNat * d.sz + d.sz ≤ n * d.sz := by rw [← Nat.succ_mul]; exact Nat.mul_le_mul_right _ hil
    have h3 : n * d.sz ≤ cap * d.sz := Nat.mul_le_mul_right _ (by omega)
    omega
  unfold Oper.wp execOp
  simp only [ho, haddr, hx, Sem.run_bind, Sem.run_pure, Result.andThen_ok, hrun]
  show K (a.put o.dst undef) _
  rw [hN]
  exact hK a _ (h _ hrow hB hg)
end
end Kd
namespace Kd
end Kd
theorem ReadsInt.nil (W : World) (k : IntKind) : ReadsInt W k none ([] : List Int).length [] := ⟨rfl, by simp, fun h => absurd h (Nat.lt_irrefl 0)⟩
theorem ReadsInt.drewN {W : World} {k : IntKind} {A : Option Addr} {n : Nat} {xs : List Int} (h : ReadsInt W k A n xs) (m : Nat) : ReadsInt (W.drewN m) k A n xs := h
theorem own_base' {w : World} {base : Nat} {e : TypeId} {size n : Nat} {v : Value} {xs : List Value} (h : w.ownsRow base e size v n xs) : v.ownBlock = none ∨ ∃ b, v.ownBlock = some b ∧ base ≤ b := by
  cases hv : v.ownBlock with
  | none => exact .inl rfl
  | some b => exact .inr ⟨b, rfl, own_base h b hv⟩
theorem ReadsOf.nil {α : Type} (enc : α → Value) (d : α) (W : World) : ReadsOf enc d W none ([] : List α).length [] := ⟨rfl, by simp, fun h => absurd h (Nat.lt_irrefl 0)⟩
theorem ReadsOf.drewN {α : Type} {enc : α → Value} {d : α} {W : World} {A : Option Addr} {n : Nat} {xs : List α} (h : ReadsOf enc d W A n xs) (m : Nat) : ReadsOf enc d (W.drewN m) A n xs := h
theorem below_drew1 {base : Nat} {w W : World} (h : Below base w W) : Below base w W.drew := h.drew
namespace Kd
section
variable {α β : Type} {d : Kd α} {d' : Kd β} {e e' base base' n : Nat} {ok ok' : Nat → Prop} {w W w1 W1 : World} {v u : Value} {xs : List α} {ys : List β} {A : Option Addr} {c : Nat}
theorem R_base2 (h : d.R e w base ok v xs) : v.ownBlock = none ∨ ∃ k, v.ownBlock = some k ∧ base ≤ k := by
  obtain ⟨inner, ho⟩ := R_own h
  exact own_base' ho
end
end Kd
namespace Kd
end Kd
namespace Kd
end Kd
namespace Kd
section
variable {α : Type} {enc : α → Value} {h1 : ∀ x, (enc x).oneCell' = true} {e base g n cap : Nat} {ok : Nat → Prop} {W : World} {xs : List α}
theorem R_putg (h : (scalar enc h1).R e W base ok (.slice (some ⟨g, 0, none⟩) n cap) xs) (i : Int) (x : α) : (scalar enc h1).R e (W.setCell ⟨g, i.toNat, none⟩ (enc x)) base ok (.slice (some ⟨g, 0, none⟩) n cap) (xs.set i.toNat x) ∧ W.grownBy (W.setCell ⟨g, i.toNat, none⟩ (enc x)) (some g) := by
  obtain ⟨rfl, _⟩ := R_reads' h
  exact R_put h i x
end
end Kd
section
variable {P : Program} {ops : Array Oper} {rest : List Oper} {o : Oper} {a : Act} {Q : Exit → Act → World → Prop} {W : World}
theorem gate_dst {N : Tmp} (_hN : o.dst = some N) (h : wpList P ops Q (o :: rest) a W) : wpList P ops Q (o :: rest) a W := h
theorem gate_store {t : TypeId} {p : Tmp} {v : Operand} (_ho : o.op = .store t (.tmp p) v) (h : wpList P ops Q (o :: rest) a W) : wpList P ops Q (o :: rest) a W := h
end
namespace Kd
end Kd
end Go.Proofs.YthfmlelodmcgkaaGreatW.PrintWords
end
section
/-
  PRINTED WORDS, second file: A REGION THAT DRAWS ITS ORDER, WALKED BY HAND, where its last store writes what its own loads read ('x.f = append(x.f, f(i))'). Plain theorems; no macro, no elab. A claim may hold it (turn the namespace's name).
  A load may be taken first in every world that meets S; behind the operations of ds nothing is shown; sound because each of ds waits for what is taken (Region.lastB). The kernel checks it.
  By an AI agent of Go's test side, Mon Nov 16 2026. No person has read it.
-/
namespace Go.Proofs.YthfmlelodmcgkaaGreatW.PrintLast
section
variable {P : Program} {ops : Array Oper} {Q : Exit → Act → World → Prop} {md : Region.Mode} {S : World → Prop} {ds : List Nat}
def ListedClosed (md : Region.Mode) (ops : Array Oper) (listed : Array Bool) : Prop :=
  ∀ j oj, ops[j]? = some oj → listed.getD j false = true → ∀ e ∈ oj.after, Region.binds md e = true → listed.getD e.on false = true
theorem ListedClosed.set {listed : Array Bool} {i : Nat} (h : ListedClosed md ops listed) (hi : i ∈ Region.ready md ops listed) : ListedClosed md ops (listed.setIfInBounds i true) := by
  obtain ⟨_, oi, hoi, hall⟩ := mem_ready.1 hi
  intro j oj hj hl e he hb
  by_cases hij : i = j
  · subst hij
    have : oj = oi := Option.some.inj (hj.symm.trans hoi)
    subst this
    exact getD_set_true (hall e he hb)
  · rw [getD_set_ne false hij] at hl
    exact getD_set_true (h j oj hj hl e he hb)
def wpAnyLast (P : Program) (md : Region.Mode) (ops : Array Oper) (Q : Exit → Act → World → Prop) (S : World → Prop) (ds : List Nat) : Nat → Array Bool → Act → World → Prop
  | 0, listed, a, w => Region.ready md ops listed = [] ∧ Q .normal a w
  | fuel + 1, listed, a, w =>
    (Region.ready md ops listed = [] → Q .normal a w) ∧
    ∀ i ∈ Region.ready md ops listed, wpOp P ops Q i (fun a' w' => (i ∉ ds → S w → S w') ∧ wpAnyLast P md ops Q S ds fuel (listed.setIfInBounds i true) a' w') a w
end
section
variable {P : Program} {ops : Array Oper} {Q : Exit → Act → World → Prop} {md : Region.Mode} {S : World → Prop} {ds : List Nat}
def AllReadyL (P : Program) (md : Region.Mode) (ops : Array Oper) (Q : Exit → Act → World → Prop) (S : World → Prop) (ds : List Nat) (fuel : Nat) (listed : Array Bool) (a : Act) (w : World) (rs : List Nat) : Prop :=
  ∀ i ∈ rs, wpOp P ops Q i (fun a' w' => (i ∉ ds → S w → S w') ∧ wpAnyLast P md ops Q S ds fuel (listed.setIfInBounds i true) a' w') a w
theorem AllReadyL.nil {fuel : Nat} {listed : Array Bool} {a : Act} {w : World} : AllReadyL P md ops Q S ds fuel listed a w [] := fun _ h => by cases h
theorem AllReadyL.cons {fuel : Nat} {listed : Array Bool} {a : Act} {w : World} {i : Nat} {o : Oper} {rs : List Nat} (ho : ops[i]? = some o) (hd : i ∉ ds)
    (h : ∀ K' : Act → World → Prop, Shut (∀ a w, S w → (S w → wpAnyLast P md ops Q S ds fuel (listed.setIfInBounds i true) a w) → K' a w) → if Region.wanted o (yielded ops a.tmps) = true then Oper.wp P o a w K' Q else K' (a.put o.dst undef) w)
    (hs : AllReadyL P md ops Q S ds fuel listed a w rs) : AllReadyL P md ops Q S ds fuel listed a w (i :: rs) := fun j hj => by
  rcases List.mem_cons.1 hj with rfl | hj
  · exact wpOp_step ho (fun K' hK => h K' (fun a w hS hW => hK a w ⟨fun _ _ => hS, hW hS⟩))
  · exact hs j hj
theorem enters_ {f : FuncId} {fn : Func} (hf : P.funcs[f]? = some fn) (hname : (fn.name == "runtime.NumGoroutine") = false) (hb : fn.body.isSome = true) (args : Array Value) (w : World) : (callFunc f args).run P w = .ok (.enter f args) w := by
  have h1 : fn.name ≠ "runtime.NumGoroutine" := by simpa using hname
  obtain ⟨c, hc⟩ := Option.isSome_iff_exists.1 hb
  simp [callFunc, hf, h1, hc]
theorem goesL_ {rest : List Oper} {oi : Oper} {a : Act} {w : World} (N : Option Tmp) (hd : oi.dst = N) (hg : oi.guard = none) {f : FuncId} {fn : Func} {az_ : Array Operand} {ts : Array TypeId} (hf : P.funcs[f]? = some fn) (hname : (fn.name == "runtime.NumGoroutine") = false) (hb : fn.body.isSome = true) (args : Array Value)
    (hop : oi.op = .call { callee := .value (.func f), args := az_, argTypes := ts }) (hargs : az_.map a.eval = args)
    (h : Calls P f args w fun e w' => ∃ v, e = .returned v ∧ wpList P ops Q rest (a.put N v) w') : wpList P ops Q (oi :: rest) a w := by
  refine wpList_plain hg fun K hK => ?_
  have he := enters_ hf hname hb args w
  have hrun : (execOp a.eval oi).run P w = .ok (.enter f args) w := by
    unfold execOp
    simp [hop, resolve, Deferred.ofValue, invoke, Act.eval, hargs, he]
  unfold Oper.wp
  rw [hrun, Oper.upon_enter]
  refine h.mono fun e w'' hh => ?_
  obtain ⟨v, rfl, hk⟩ := hh
  subst hd
  exact hK _ _ hk
end
end Go.Proofs.YthfmlelodmcgkaaGreatW.PrintLast
end
section
namespace Go.Proofs.YthfmlelodmcgkaaGreatW.PrintWords
open Go.RowKit
namespace Kd
def tag {α : Type} (f : Nat → Nat) (d : Kd α) : Kd (α × Nat) where
  sz := d.sz
  E := d.E
  K := fun w x cs => d.K w x.1 cs
  M := fun w base ok x cs => d.M w base (fun k => ok k ∧ f k = x.2) x.1 cs
  K_len := fun h => d.K_len h
  K_one := fun h => d.K_one h
  K_below := fun hb h => d.K_below hb h
  K_of_M := fun h => d.K_of_M h
  M_mono := fun hok h => d.M_mono (fun k hk => ⟨hok k hk.1, hk.2⟩) h
  M_bound := fun h => d.M_mono (fun _ hk => ⟨⟨hk.1.1, hk.2⟩, hk.1.2⟩) (d.M_bound h)
  M_move := fun hm h => d.M_move (fun k hk => hm k hk.1) h
  M_lower := fun hb h => d.M_lower hb h
def raw (sz : Nat) : Kd (List Value) where
  sz := sz
  E := []
  K := fun _ x cs => cs = x ∧ cs.length = sz ∧ ∀ u ∈ cs, u.oneCell' = true
  M := fun _ _ _ x cs => cs = x ∧ cs.length = sz ∧ ∀ u ∈ cs, u.oneCell' = true
  K_len := fun h => h.2.1
  K_one := fun h => h.2.2
  K_below := fun _ h => h
  K_of_M := fun h => h
  M_mono := fun _ h => h
  M_bound := fun h => h
  M_move := fun _ h => h
  M_lower := fun _ h => h
def S {α : Type} (d : Kd α) (e : Nat) (w : World) (base : Nat) (ok : Nat → Prop) (v : Value) (xs : List α) : Prop := ∃ f, (tag f d).R e w base ok v xs.zipIdx
def gap {α : Type} (f : Nat → Nat) (d : Kd α) (i : Nat) (c : List Value) : Kd (α × Nat) where
  sz := d.sz
  E := d.E
  K := fun w x cs => (x.2 = i → cs = c ∧ cs.length = d.sz ∧ ∀ u ∈ cs, u.oneCell' = true) ∧ (x.2 ≠ i → d.K w x.1 cs)
  M := fun w base ok x cs => (x.2 = i → cs = c ∧ cs.length = d.sz ∧ ∀ u ∈ cs, u.oneCell' = true) ∧ (x.2 ≠ i → d.M w base (fun k => ok k ∧ f k = x.2) x.1 cs)
  K_len := fun {w x cs} h => by
    by_cases hx : x.2 = i
    · exact (h.1 hx).2.1
    · exact d.K_len (h.2 hx)
  K_one := fun {w x cs} h => by
    by_cases hx : x.2 = i
    · exact (h.1 hx).2.2
    · exact d.K_one (h.2 hx)
  K_below := fun hb h => ⟨h.1, fun hx => d.K_below hb (h.2 hx)⟩
  K_of_M := fun h => ⟨h.1, fun hx => d.K_of_M (h.2 hx)⟩
  M_mono := fun hok h => ⟨h.1, fun hx => d.M_mono (fun k hk => ⟨hok k hk.1, hk.2⟩) (h.2 hx)⟩
  M_bound := fun h => ⟨h.1, fun hx => d.M_mono (fun _ hk => ⟨⟨hk.1.1, hk.2⟩, hk.1.2⟩) (d.M_bound (h.2 hx))⟩
  M_move := fun hm h => ⟨h.1, fun hx => d.M_move (fun k hk => hm k hk.1) (h.2 hx)⟩
  M_lower := fun hb h => ⟨h.1, fun hx => d.M_lower hb (h.2 hx)⟩
def H {α : Type} (d : Kd α) (e : Nat) (w : World) (base : Nat) (ok : Nat → Prop) (v : Value) (xs : List α) (i : Int) (oki : Nat → Prop) (c : List Value) : Prop :=
  (∀ k, oki k → ok k) ∧ ∃ f, (gap f d i.toNat c).R e w base (fun k => ok k ∧ ¬ oki k) v xs.zipIdx
end Kd
end Go.Proofs.YthfmlelodmcgkaaGreatW.PrintWords
end
section
namespace Go.Proofs.YthfmlelodmcgkaaGreatW.PrintWords
open Go.RowKit
namespace Kd
theorem reps_one {α : Type} {R : α → List Value → Prop} {size : Nat} {ps : List α} {cs : List Value} (h : Reps R size ps cs) (hs0 : 0 < size) (hR : ∀ p c, R p c → ∀ u ∈ c, u.oneCell' = true) : ∀ u ∈ cs, u.oneCell' = true := by
  intro u hu
  obtain ⟨q, hq, rfl⟩ := List.mem_iff_getElem.1 hu
  have hql : q / size < ps.length := by
    rw [Nat.div_lt_iff_lt_mul hs0, ← h.1]
    exact hq
  refine hR _ _ (h.2 (q / size) _ (List.getElem?_eq_getElem hql)) _ ?_
  rw [List.mem_iff_getElem?]
  refine ⟨q % size, ?_⟩
  rw [List.getElem?_take, if_pos (Nat.mod_lt _ hs0), List.getElem?_drop, Nat.mul_comm, Nat.div_add_mod, List.getElem?_eq_getElem hq]
def arr {α : Type} (n : Nat) (d : Kd α) (hs : 0 < d.sz) : Kd (List α) where
  sz := n * d.sz
  E := d.E
  K := fun w xs cs => xs.length = n ∧ Reps (d.K w) d.sz xs cs
  M := fun w base ok xs cs => xs.length = n ∧ Reps (d.M w base ok) d.sz xs cs
  K_len := fun h => by rw [← h.1]; exact h.2.1
  K_one := fun h => reps_one h.2 hs (fun _ _ hk => d.K_one hk)
  K_below := fun hb h => ⟨h.1, h.2.imp_ (fun _ _ hk => d.K_below hb hk)⟩
  K_of_M := fun h => ⟨h.1, h.2.imp_ (fun _ _ hk => d.K_of_M hk)⟩
  M_mono := fun hok h => ⟨h.1, h.2.imp_ (fun _ _ hk => d.M_mono hok hk)⟩
  M_bound := fun h => ⟨h.1, h.2.imp_ (fun _ _ hk => d.M_bound hk)⟩
  M_move := fun hm h => ⟨h.1, h.2.imp_ (fun _ _ hk => d.M_move hm hk)⟩
  M_lower := fun hb h => ⟨h.1, h.2.imp_ (fun _ _ hk => d.M_lower hb hk)⟩
end Kd
end Go.Proofs.YthfmlelodmcgkaaGreatW.PrintWords
end
section
namespace Go.Proofs.YthfmlelodmcgkaaGreatW.PrintWords
open Go.RowKit
namespace Kd
structure Heap {α : Type} (d : Kd α) : Prop where
  K : ∀ {w w1 : World} {x : α} {cs : List Value}, (∀ k, k < w.heap.size → w1.heap[k]? = w.heap[k]?) → d.K w x cs → d.K w1 x cs
theorem cell_heap {w w1 : World} (hb : ∀ k, k < w.heap.size → w1.heap[k]? = w.heap[k]?) {a : Addr} {v : Value} (h : w.cell? a = some v) : w1.cell? a = some v := by
  have := hb a.block (World.block_lt_of_cell? w a h)
  simpa [World.cell?, this] using h
theorem Heap.C {α : Type} {d : Kd α} (hd : Heap d) {w w1 : World} {A : Option Addr} {n : Nat} {xs : List α} (hb : ∀ k, k < w.heap.size → w1.heap[k]? = w.heap[k]?) (h : d.C w A n xs) : d.C w1 A n xs :=
  ⟨h.1, h.2.1, fun hn => by
    obtain ⟨ad, e, hc⟩ := h.2.2 hn
    refine ⟨ad, e, fun j p hj => ?_⟩
    obtain ⟨c, hs, hr, hcell⟩ := hc j p hj
    exact ⟨c, hs, hd.K hb hr, fun i u hu => cell_heap hb (hcell i u hu)⟩⟩
end Kd
end Go.Proofs.YthfmlelodmcgkaaGreatW.PrintWords
end
section
namespace Go.Proofs.YthfmlelodmcgkaaGreatW.PrintWords
open Go.RowKit
def Kept (w W : World) (S : Nat → Prop) : Prop := w.heap.size ≤ W.heap.size ∧ ∀ i, i < w.heap.size → ¬ S i → W.heap[i]? = w.heap[i]?
section
variable {w W W2 : World} {S S2 S' : Nat → Prop}
theorem Kept.refl (w : World) (S : Nat → Prop) : Kept w w S := ⟨Nat.le_refl _, fun _ _ _ => rfl⟩
theorem Kept.of_below (h : Below w.heap.size w W) (S : Nat → Prop) : Kept w W S := ⟨h.size, fun i hi _ => h.block i hi⟩
theorem Kept.mono (h : Kept w W S) (hs : ∀ k, S k → S' k) : Kept w W S' := ⟨h.1, fun i hi hn => h.2 i hi (fun hk => hn (hs i hk))⟩
theorem Kept.then_ (h : Kept w W S) (k : Kept W W2 S2) (hs : ∀ k, S2 k → S k ∨ w.heap.size ≤ k) : Kept w W2 S :=
  ⟨Nat.le_trans h.1 k.1, fun i hi hn => (k.2 i (Nat.lt_of_lt_of_le hi h.1) (fun h2 => (hs i h2).elim hn (fun h3 => by omega))).trans (h.2 i hi hn)⟩
theorem Kept.below (h : Kept w W S) (hb : Below W.heap.size W W2) : Kept w W2 S := h.then_ (Kept.of_below hb (fun _ => False)) (fun _ hk => hk.elim)
theorem Kept.alloc (h : Kept w W S) (o : Obj) : Kept w (W.alloc o) S := h.below (below_alloc (Below.refl _ _) o)
theorem Kept.drew (h : Kept w W S) : Kept w W.drew S := h
theorem Kept.drewN (h : Kept w W S) (m : Nat) : Kept w (W.drewN m) S := h
theorem Kept.setCell (h : Kept w W S) {p : Addr} (hp : S p.block ∨ w.heap.size ≤ p.block) (u : Value) : Kept w (W.setCell p u) S :=
  h.then_ (S2 := fun k => k = p.block) ⟨by simp [World.setCell], fun i _ hn => Below.heap_setCell W p u i hn⟩ (fun k hk => by rw [hk]; exact hp)
end
namespace Kd
end Kd
end Go.Proofs.YthfmlelodmcgkaaGreatW.PrintWords
end
section
namespace Go.Proofs.YthfmlelodmcgkaaGreatW.PrintWords
open Go.RowKit
def Foot (P : World → Prop) (W : World) (ok : Nat → Prop) : Prop := ∀ W' : World, (∀ k, ok k → k < W.heap.size → W'.heap[k]? = W.heap[k]?) → P W'
theorem heap_lt {W W1 : World} {k : Nat} (h : W1.heap[k]? = W.heap[k]?) (hlt : k < W.heap.size) : k < W1.heap.size := by
  rw [Array.getElem?_eq_getElem hlt] at h
  exact (Array.getElem?_eq_some_iff.1 h).1
namespace Foot
variable {P Q : World → Prop} {W W1 : World} {ok ok' : Nat → Prop}
theorem mono (h : Foot P W ok) (hok : ∀ k, ok k → ok' k) : Foot P W ok' := fun W' hW => h W' (fun k hk hlt => hW k (hok k hk) hlt)
theorem bound (h : Foot P W ok) : Foot P W (fun k => ok k ∧ k < W.heap.size) := fun W' hW => h W' (fun k hk hlt => hW k ⟨hk, hlt⟩ hlt)
theorem step (h : Foot P W ok) (hm : ∀ k, ok k → k < W.heap.size → W1.heap[k]? = W.heap[k]?) : Foot P W1 ok := fun W' hW => h W' (fun k hk hlt => (hW k hk (heap_lt (hm k hk hlt) hlt)).trans (hm k hk hlt))
theorem imp (h : Foot P W ok) (hi : ∀ W', P W' → Q W') : Foot Q W ok := fun W' hW => hi W' (h W' hW)
theorem old (h : Foot P W ok) (hb : Below W.heap.size W W1) : Foot P W1 (fun k => ok k ∧ k < W.heap.size) := (h.bound).step (fun k _ hlt => hb.block k hlt)
end Foot
namespace Kd
def F {α : Type} (d : Kd α) (W : World) (ok : Nat → Prop) (A : Option Addr) (n : Nat) (xs : List α) : Prop := Foot (fun W => d.C W A n xs) W ok
def FK {α : Type} (d : Kd α) (W : World) (ok : Nat → Prop) (x : α) (c : List Value) : Prop := Foot (fun W => d.K W x c) W ok
end Kd
end Go.Proofs.YthfmlelodmcgkaaGreatW.PrintWords
end
section
namespace Go.Proofs.YthfmlelodmcgkaaGreatW.PrintWords
open Go.RowKit
namespace Kd
section
variable {α : Type} {d : Kd α} {e base n cc g : Nat} {ok ok' okp S : Nat → Prop} {w w1 W W1 : World} {A : Option Addr} {u v v1 : Value} {xs : List α} {x : α} {c : List Value}
def N {α : Type} (d : Kd α) (e : Nat) (w : World) (base : Nat) (ok : Nat → Prop) (v : Value) (xs : List α) : Prop :=
  (∀ k, v.ownBlock = some k → ok k) ∧ ∃ rows : List (List Value), rows.length = xs.length ∧ (raw d.sz).R e w base (fun k => some k = v.ownBlock) v rows ∧ ∀ (j : Nat) (x : α) (c : List Value), xs[j]? = some x → rows[j]? = some c → FK d w (fun k => ok k ∧ some k ≠ v.ownBlock) x c
end
end Kd
end Go.Proofs.YthfmlelodmcgkaaGreatW.PrintWords
end
section
namespace Go.Proofs.YthfmlelodmcgkaaGreatW.PrintMore
open Go.RowKit Go.Proofs.YthfmlelodmcgkaaGreatW.PrintWords
namespace Kd
open Go.Proofs.YthfmlelodmcgkaaGreatW.PrintWords.Kd
end Kd
namespace Kd
open Go.Proofs.YthfmlelodmcgkaaGreatW.PrintWords.Kd
end Kd
end Go.Proofs.YthfmlelodmcgkaaGreatW.PrintMore
namespace Go.Proofs.YthfmlelodmcgkaaGreatW.PrintWords
open Go.RowKit
section
variable {P : Program} {ops : Array Oper} {rest : List Oper} {o : Oper} {a : Act} {Q : Exit → Act → World → Prop} {W : World}
theorem gate_callee {f : FuncId} {az_ : Array Operand} {ts : Array TypeId} (_ho : o.op = .call { callee := .value (.func f), args := az_, argTypes := ts }) (h : wpList P ops Q (o :: rest) a W) : wpList P ops Q (o :: rest) a W := h
theorem gate_builtin {b : Builtin} {xs : Array Operand} {ts : Array TypeId} (_ho : o.op = .call { callee := .builtin b, args := xs, argTypes := ts }) (h : wpList P ops Q (o :: rest) a W) : wpList P ops Q (o :: rest) a W := h
end
def mx (a b : Int) : Int := if a < b then b else a
def mn (a b : Int) : Int := if b < a then b else a
def shl (k : IntKind) (x y : Int) : Int := k.wrap (x * 2 ^ min y.toNat k.bits)
def shr (k : IntKind) (x y : Int) : Int := x / 2 ^ min y.toNat k.bits
namespace Kd
end Kd
end Go.Proofs.YthfmlelodmcgkaaGreatW.PrintWords
namespace Go.Proofs.YthfmlelodmcgkaaGreatW.PrintWords
open Go.RowKit
namespace Kd
def V {α : Type} (d : Kd α) (_e : Nat) (W : World) (_base : Nat) (ok : Nat → Prop) (v : Value) (xs : List α) : Prop := ∃ A c, v = .slice A xs.length c ∧ xs.length ≤ c ∧ F d W ok A xs.length xs
end Kd
end Go.Proofs.YthfmlelodmcgkaaGreatW.PrintWords
end
section
namespace Go.Proofs.YthfmlelodmcgkaaGreat.K
open Go.RowKit Go.Proofs.YthfmlelodmcgkaaGreatW.PrintWords Go.Proofs.YthfmlelodmcgkaaGreatW.PrintLast Go.Proofs.YthfmlelodmcgkaaGreatW.PrintMore
def Runs (P : Program) (fv : Value) (args : Array Value) (w : World) (Q : Ending → World → Prop) : Prop :=
  ∃ (k : Nat) (fn : Func) (first cap : Array Value), fv = .func (.func k) first cap ∧ P.funcs[k]? = some fn ∧ (fn.name == "runtime.NumGoroutine") = false ∧ fn.body.isSome = true ∧ Calls P k (first ++ args ++ cap) w Q
theorem Runs.mono {P : Program} {fv : Value} {args : Array Value} {w : World} {Q Q' : Ending → World → Prop} (h : Runs P fv args w Q) (hq : ∀ e w', Q e w' → Q' e w') : Runs P fv args w Q' := by
  obtain ⟨k, fn, first, cap, h1, h2, h3, h4, h5⟩ := h
  exact ⟨k, fn, first, cap, h1, h2, h3, h4, h5.mono hq⟩
theorem goesV {P : Program} {ops : Array Oper} {Q : Exit → Act → World → Prop} {rest : List Oper} {oi : Oper} {a : Act} {w : World} (N : Option Tmp) (hd : oi.dst = N) (hg : oi.guard = none) {fo : Operand} {aa : Array Operand} {ts : Array TypeId}
    (hop : oi.op = .call { callee := .value fo, args := aa, argTypes := ts }) {fv : Value} (hfv : a.eval fo = fv) (args : Array Value) (hargs : aa.map a.eval = args)
    (h : Runs P fv args w fun e w' => ∃ v, e = .returned v ∧ wpList P ops Q rest (a.put N v) w') : wpList P ops Q (oi :: rest) a w := by
  obtain ⟨k, fn, first, cap, rfl, hf, hname, hb, hc⟩ := h
  refine wpList_plain hg fun K hK => ?_
  have he := enters_ hf hname hb (first ++ args ++ cap) w
  have hrun : (execOp a.eval oi).run P w = .ok (.enter k (first ++ args ++ cap)) w := by
    unfold execOp
    simp [hop, resolve, Deferred.ofValue, invoke, hargs, hfv]
    rw [← Array.append_assoc]
    exact he
  unfold Oper.wp
  rw [hrun, Oper.upon_enter]
  refine hc.mono fun e w'' hh => ?_
  obtain ⟨v, rfl, hk⟩ := hh
  subst hd
  exact hK _ _ hk
structure Step (R : World → World → Prop) : Prop where
  refl : ∀ w, R w w
  trans : ∀ {w1 w2 w3}, R w1 w2 → R w2 w3 → R w1 w3
  draw : ∀ w n, R w (w.drewN n)
  below : ∀ {w w'}, R w w' → Below w.heap.size w w'
theorem drawn_trans {w1 w2 w3 : World} (h : Drawn0 w1 w2) (k : Drawn0 w2 w3) : Drawn0 w1 w3 := by
  obtain ⟨m, rfl⟩ := h
  obtain ⟨n, rfl⟩ := k
  exact ⟨⟨m + n, World.drewN_drewN ..⟩⟩
theorem step_drawn : Step Drawn0 := ⟨Drawn0.refl, fun h k => drawn_trans h k, fun w n => ⟨⟨n, rfl⟩⟩, fun h => h.below⟩
structure Bel (w w' : World) : Prop where mk :: (out : Below w.heap.size w w')
theorem step_bel : Step Bel := ⟨fun w => ⟨Below.refl _ _⟩, fun h k => ⟨below_then h.out h.out.size k.out⟩, fun w n => ⟨pw_below_drewN (Below.refl _ _) n⟩, fun h => h.out⟩
end Go.Proofs.YthfmlelodmcgkaaGreat.K
namespace Go.Proofs.YthfmlelodmcgkaaGreat.K
open Go.RowKit Go.Proofs.YthfmlelodmcgkaaGreatW.PrintWords Go.Proofs.YthfmlelodmcgkaaGreatW.PrintMore
theorem rd_mem (l : List Int) (k : Nat) (h : k < l.length) : rd l k ∈ l := by
  unfold rd
  rw [List.getD_eq_getElem?_getD, Int.toNat_natCast, List.getElem?_eq_getElem h]
  exact List.getElem_mem _
theorem drop_at (l : List Int) (k : Nat) (h : k < l.length) : l.drop k = rd l k :: l.drop (k + 1) := by
  rw [List.drop_eq_getElem_cons h]
  unfold rd
  rw [List.getD_eq_getElem?_getD, Int.toNat_natCast, List.getElem?_eq_getElem h]
  rfl
def inB (n lo hi : Int) : Bool := decide (lo ≤ n) && decide (n ≤ hi)
end Go.Proofs.YthfmlelodmcgkaaGreat.K
namespace Go.Proofs.YthfmlelodmcgkaaGreat.K
open Go.RowKit Go.Proofs.YthfmlelodmcgkaaGreatW.PrintWords Go.Proofs.YthfmlelodmcgkaaGreatW.PrintLast Go.Proofs.YthfmlelodmcgkaaGreatW.PrintMore
theorem info2 : (Tryz.prog.info? 2).map (fun i => (i.zero, i.size, i.bytes)) = some (some (.int .i64 0), 1, 8) := by kernel_rfl
abbrev RI (w : World) (base : Nat) (ok : Nat → Prop) (v : Value) (xs : List Int) : Prop := Kd.R (Kd.int .i64) 2 w base ok v xs
abbrev CI (w : World) (A : Option Addr) (n : Nat) (xs : List Int) : Prop := Kd.C (Kd.int .i64) w A n xs
theorem Bel.refl (w : World) : Bel w w := ⟨Below.refl _ _⟩
theorem Bel.trans {a b c : World} (h : Bel a b) (k : Bel b c) : Bel a c := step_bel.trans h k
theorem Bel.of {a b : World} (h : Below a.heap.size a b) : Bel a b := ⟨h⟩
section
variable {ops : Array Oper} {rest : List Oper} {o : Oper} {a : Act} {Q : Exit → Act → World → Prop}
theorem lit0 {w0 W : World} (base : Nat) {ok : Nat → Prop} (hgd : o.guard = none) {N : Tmp} (hd : o.dst = some N) (ho : o.op = .buildSlice 26 0 #[]) (hfresh : ok W.heap.size) (HB : Below base w0 W) (hbase : base ≤ W.heap.size)
    (h : ∀ v1 w1, RI w1 base ok v1 [] → Below base w0 w1 → W.grownBy w1 none → (∃ b, v1.ownBlock = some b ∧ W.heap.size ≤ b) → wpList Tryz.prog ops Q rest (a.put o.dst v1) w1) : wpList Tryz.prog ops Q (o :: rest) a W := by
  refine Kd.R_lit (Kd.int .i64) base 2 hgd hd (xs := []) (inner := []) (okp := fun _ => False) ?_ (Reps.none _ _) (fun _ h => h.elim) hfresh HB hbase (by simp) h
  unfold execOp
  rw [ho]
  go_simp
theorem putI {w0 W : World} {base : Nat} {ok : Nat → Prop} (hN : o.dst = none) (hgd : o.guard = none) {p x : Operand} (ho : o.op = .store 2 p x) {g n cap o' : Nat} (i : Int) (xs : List Int) (y : Int)
    (haddr : a.eval p = .pointer (some ⟨g, o', none⟩)) (hoff : o' = i.toNat) (hx : a.eval x = .int .i64 y) (HO : RI W base ok (.slice (some ⟨g, 0, none⟩) n cap) xs) (h0 : 0 ≤ i) (hi : i < n) (HB : Below base w0 W)
    (h : ∀ w1, RI w1 base ok (.slice (some ⟨g, 0, none⟩) n cap) (xs.set i.toNat y) → Below base w0 w1 → W.grownBy w1 (some g) → wpList Tryz.prog ops Q rest a w1) : wpList Tryz.prog ops Q (o :: rest) a W := by
  obtain ⟨ad, hA, hc⟩ := Kd.at_int (Kd.R_reads' HO).2.2 i h0 (by have := (Kd.R_reads' HO).1; omega)
  obtain rfl := Option.some.inj hA
  rw [add_plain] at hc
  refine Kd.R_store (Kd.int .i64) base hN hgd 2 p x ho 2 i 0 xs y (.int .i64 y) [.int .i64 y] [.int .i64 (rd xs i)] ok (fun _ => False) haddr (by rw [hoff]; show i.toNat = i.toNat * 1 + 0; omega) hx rfl (by kernel_rfl) (by intro q hq; rw [List.mem_singleton.1 hq]; rfl) HO h0 hi rfl ?_ (Nat.le_refl 1) rfl (fun _ h => h.elim) HB h
  intro j u hj
  match j, hj with
  | 0, hj =>
    simp only [List.getElem?_cons_zero, Option.some.injEq] at hj
    subst hj
    show W.cell? ⟨g, i.toNat * 1 + 0, none⟩ = _
    rw [Nat.mul_one, Nat.add_zero]
    exact hc
theorem appI {w0 W : World} {base : Nat} {ok : Nat → Prop} (hgd : o.guard = none) {s x : Operand} (ho : o.op = .call { callee := .builtin .append, args := #[s, x], argTypes := #[26, 26] })
    (v : Value) (xs : List Int) (y : Int) (hs : a.eval s = v) (hx : a.eval x = .slice (some ⟨W.heap.size, 0, none⟩) 1 1) (hfresh : ∀ k, W.heap.size ≤ k → ok k)
    (HO : RI W base ok v xs) (HB : Below base w0 W) (hbase : base ≤ W.heap.size) (hl : xs.length < 17592186044416)
    (h : ∀ v1 w1, RI w1 base ok v1 (xs ++ [y]) → Below base w0 w1 → W.grownBy w1 v.ownBlock → (v1.ownBlock = v.ownBlock ∨ ∃ b, v1.ownBlock = some b ∧ W.heap.size ≤ b) → wpList Tryz.prog ops Q rest (a.put o.dst v1) w1) :
    wpList Tryz.prog ops Q (o :: rest) a (W.alloc (.cells #[.int .i64 y] 2)) :=
  Kd.R_append (Kd.int .i64) base hgd s x 26 2 (.int .i64 0) 8 ho Tryz.underlying26 info2 rfl (by decide) (by omega) v xs y [.int .i64 y] ok (fun _ => False) hs hx rfl (fun _ h => h.elim) hfresh HO HB hbase (by omega) h
end
end Go.Proofs.YthfmlelodmcgkaaGreat.K
end
section
namespace Go.Proofs.YthfmlelodmcgkaaGreat.K
open Go.RowKit Go.Proofs.YthfmlelodmcgkaaGreatW.PrintWords Go.Proofs.YthfmlelodmcgkaaGreatW.PrintLast Go.Proofs.YthfmlelodmcgkaaGreatW.PrintMore
def idxFrom (p : Int → Bool) (l : List Int) (i : Nat) : Int := match l.findIdx? p with | some j => (i + j : Nat) | none => -1
def PredOn (P : Program) (R : World → World → Prop) (fv : Value) (p : Int → Bool) (l : List Int) (w : World) : Prop :=
  ∀ x ∈ l, ∀ w1, R w w1 → Runs P fv #[.int .i64 x] w1 fun e w2 => e = .returned (.bool (p x)) ∧ R w1 w2
theorem idxFrom_hit (p : Int → Bool) (l : List Int) (k : Nat) (h : k < l.length) (hp : p (rd l k) = true) : idxFrom p (l.drop k) k = k := by
  rw [drop_at l k h]
  simp [idxFrom, List.findIdx?_cons, hp]
theorem idxFrom_miss (p : Int → Bool) (l : List Int) (k : Nat) (h : k < l.length) (hp : p (rd l k) = false) : idxFrom p (l.drop k) k = idxFrom p (l.drop (k + 1)) (k + 1) := by
  rw [drop_at l k h]
  simp only [idxFrom, List.findIdx?_cons, hp]
  cases h : (l.drop (k + 1)).findIdx? p with
  | none => simp [h]
  | some j => simp [h]; omega
set_option maxHeartbeats 1000000 in
set_option maxRecDepth 100000 in
theorem indexFunc {R : World → World → Prop} (hR : Step R) (A0 : Option Addr) (c0 : Nat) (l : List Int) (fv : Value) (p : Int → Bool) (w : World)
    (hr : Kd.C (Kd.int .i64) w A0 l.length l) (hp : PredOn Tryz.prog R fv p l w) :
    Calls Tryz.prog 115 #[.slice A0 l.length c0, fv] w fun e w' => e = .returned (.int .i64 (idxFrom p l 0)) ∧ R w w' := by
  have HR := Aside0.mk hr
  have HP := Aside0.mk hp
  have hm : l.length ≤ 9223372036854775807 := hr.2.1
  clear hr hp
  go_enter Tryz.func115, Tryz.ntmps115
  go_wp2
  go_loopw [8] (fun i wr => ∃ k : Nat, k ≤ l.length ∧ i = .int .i64 k ∧ Aside0 (idxFrom p l 0 = idxFrom p (l.drop k) k) ∧ Aside0 (R w wr)) (fun i _ => l.length - (intOf i).toNat)
  case atStart => exact ⟨0, Nat.zero_le _, rfl, ⟨rfl⟩, ⟨hR.refl _⟩⟩
  case round =>
    obtain ⟨k, hk, rfl, HI, HW⟩ := hrel
    by_cases hlt : k < l.length
    · obtain ⟨ad, hA, hc⟩ := Kd.at_int (Kd.C_below HR.out (hR.below HW.out)) k (by omega) (by omega)
      subst hA
      have hrun := Aside0.mk (HP.out (rd l k) (rd_mem l k hlt) wr HW.out)
      simp only [Int.toNat_natCast] at hc
      go_wp2_with ((with_reducible refine gate_dst (N := 16) rfl ?_); refine goesV (some 16) rfl rfl rfl (fv := fv) rfl #[.int .i64 (rd l k)] (by (try simp only [List.map_toArray, List.map_cons, List.map_nil]); rfl) ?_; refine hrun.out.mono ?_; rintro e w2 ⟨rfl, h2⟩; have H2 := Aside0.mk h2; clear h2; refine ⟨_, rfl, ?_⟩)
      · have hpt : p (rd l k) = true := by assumption
        go_ret
        exact ⟨by rw [HI.out, idxFrom_hit p l k hlt hpt]; rfl, hR.trans HW.out H2.out⟩
      · have hpf : p (rd l k) = false := by assumption
        go_roundw
        case rel => exact ⟨k + 1, hlt, by go_num, ⟨by rw [HI.out, idxFrom_miss p l k hlt hpf]⟩, ⟨hR.trans HW.out H2.out⟩⟩
        case measure => simp [intOf]; omega
    · have hke : k = l.length := by omega
      go_wp2
      go_ret
      exact ⟨by rw [HI.out, hke, List.drop_length]; rfl, HW.out⟩
end Go.Proofs.YthfmlelodmcgkaaGreat.K
end
section
namespace Go.Proofs.YthfmlelodmcgkaaGreat.K
open Go Go.RowKit Go.Proofs.YthfmlelodmcgkaaGreatW.PrintWords Go.Proofs.YthfmlelodmcgkaaGreatW.PrintLast Go.Proofs.YthfmlelodmcgkaaGreatW.PrintMore
theorem r_first1 (x : Int) (w : World) : Runs Tryz.prog (.func (.func 116) #[] #[]) #[.int .i64 x] w fun e w' => e = .returned (.bool (!decide (x = 0))) ∧ Drawn0 w w' := by
  refine ⟨116, _, _, _, rfl, Tryz.func116, by kernel_rfl, rfl, ?_⟩
  show Calls _ _ #[.int .i64 x] _ _
  go_enter Tryz.func116, Tryz.ntmps116
  go_wp2
  go_ret
  refine ⟨?_, Drawn0.refl _⟩
  simp [bne, BEq.beq]
def fstI (l : List Int) : Int := idxFrom (fun x => !decide (x = 0)) l 0
set_option maxRecDepth 100000 in
theorem k_first (A0 : Option Addr) (c0 : Nat) (l : List Int) (w : World) (hr : Kd.C (Kd.int .i64) w A0 l.length l) :
    Calls Tryz.prog 75 #[.slice A0 l.length c0] w fun e w' => e = .returned (.int .i64 (fstI l)) ∧ Drawn0 w w' := by
  have HR := Aside0.mk hr
  clear hr
  go_enter Tryz.func75, Tryz.ntmps75
  go_wp2_with (go_at_call 115; refine (indexFunc step_drawn A0 c0 l _ (fun x => !decide (x = 0)) _ HR.out (fun x _ w1 hw1 => r_first1 x w1)).mono ?_; rintro e w1 ⟨rfl, ⟨n, rfl⟩⟩)
  go_ret
  exact ⟨rfl, ⟨n, rfl⟩⟩
set_option maxRecDepth 100000 in
theorem k_red1 (A0 : Option Addr) (c0 : Nat) (l0 : List Int) (A1 : Option Addr) (c1 : Nat) (l1 : List Int) (w : World) (hr0 : Kd.C (Kd.int .i64) w A0 l0.length l0) (hr1 : Kd.C (Kd.int .i64) w A1 l1.length l1) :
    Calls Tryz.prog 120 #[.slice A0 l0.length c0, .slice A1 l1.length c1] w fun e w' => e = .returned (.int .i64 (wrap64 (fstI l0 - fstI l1))) ∧ Drawn0 w w' := by
  have HR0 := Aside0.mk hr0
  have HR1 := Aside0.mk hr1
  clear hr0 hr1
  go_enter Tryz.func120, Tryz.ntmps120
  go_wp2_with (go_at_call 75; first | (refine (k_first A0 c0 l0 _ HR0.out).mono ?_; rintro e w1 ⟨rfl, ⟨n0, rfl⟩⟩) | (refine (k_first A1 c1 l1 _ (Kd.C_drewN HR1.out _)).mono ?_; rintro e w2 ⟨rfl, ⟨n1, rfl⟩⟩))
  go_ret
  exact ⟨rfl, _, rfl⟩
end Go.Proofs.YthfmlelodmcgkaaGreat.K
end
section
namespace Go.Proofs.YthfmlelodmcgkaaGreat.V
open Go
abbrev ri (l : List Int) : Rv := .val (.one (.ro (.int .i64) l))
abbrev vi (n : Int) : Rv := .val (.one (.v (.int .i64 n)))
abbrev vb (b : Bool) : Rv := .val (.one (.v (.bool b)))
abbrev ow (i : Nat) : Rv := .val (.one (.own i))
abbrev rwi (l : List Int) : Obj' := .row 2 (.int .i64) l
theorem w64_id {x : Int} (h0 : -9223372036854775808 ≤ x) (h1 : x ≤ 9223372036854775807) : w64 x = x := by rw [w64_def]; omega
theorem len_i {α : Type} {l : List α} (h : l.length ≤ maxLen) : (l.length : Int) ≤ 9223372036854775807 := by unfold maxLen at h; omega
theorem w64_s {i n : Nat} (h : i < n) (hn : (n : Int) ≤ 9223372036854775807) : w64 ((i : Int) + 1) = ((i + 1 : Nat) : Int) := by rw [w64_id (by omega) (by omega)]; omega
theorem take_s {α : Type} {l m : List α} {i : Nat} {d : α} (h : l.take i = m.take i) (h1 : i < l.length) (h2 : i < m.length) (h3 : l.getD i d = m.getD i d) : l.take (i + 1) = m.take (i + 1) := by
  simp [List.getD_eq_getElem?_getD, h1, h2] at h3
  rw [List.take_succ_eq_append_getElem h1, List.take_succ_eq_append_getElem h2, h, h3]
def inB (n a b : Int) : Bool := decide (a ≤ n) && decide (n ≤ b)
def sp_in : List Cv → List Obj' → Tree
  | [.one (.v (.int .i64 n)), .one (.v (.int .i64 a)), .one (.v (.int .i64 b))], [] => .ret (vb (inB n a b)) []
  | _, _ => .fail
set_option maxHeartbeats 4000000 in
set_option maxRecDepth 100000 in
theorem good_in : Good Tryz.prog 53 sp_in := by
  refine good_ofF Tryz.func53 rfl _ rfl _ rfl (tab []) (fun X cs os0 K hok hos hK => ?_)
  clear hos; unfold sp_in at hK
  split at hK
  case h_2 => exact hK.elim
  rename_i n a b
  refine ⟨by simp, by simp, ?_⟩
  simp only [go_sem] at hK hok
  simp (maxSteps := 4000000) only [go_sem, Tryz.f53, ↓brB_t, ↓brB_f, Nat.reduceAdd, Int.reduceLE, Int.reduceLT, Int.reduceNeg, decide_true, decide_false, Bool.and_self, Nat.succ_eq_add_one, Int.toNat_natCast, Nat.beq_refl, Bool.and_true, Bool.true_and, Bool.false_or, Bool.or_true, List.all_cons, List.all_nil, Nat.reduceMul, Nat.add_zero, Nat.zero_add, List.length_nil, List.length_cons, dite_true, List.nil_append, Nat.reduceBEq, reduceDIte, reduceIte, reduceCtorEq, Bool.or_false, Bool.true_or, Bool.and_false, Bool.false_and, Bool.not_true, Bool.not_false, Option.isSome_some, Option.isSome_none, Option.getD_some, List.getElem?_cons_zero, List.getElem?_cons_succ, eq_self, and_self, List.take_succ_cons, List.take_zero, List.drop_succ_cons, List.drop_zero]
  refine brB_intro (fun h => ret0 ?_) (fun h => ret0 ?_) <;> simpa [go_sem, inB, h] using hK
def c_in : Ctr Tryz.prog := ⟨53, ent Tryz.func53 rfl rfl, [], sp_in, good_in, []⟩
@[go_sem] theorem c_in_f : c_in.f = 53 := rfl
@[go_sem] theorem c_in_ms : c_in.ms = [] := rfl
@[go_sem] theorem c_in_sp : c_in.spec = sp_in := rfl
@[go_sem] theorem c_in_fz : c_in.fz = [] := rfl
attribute [go_sem] sp_in
set_option maxHeartbeats 4000000 in
set_option maxRecDepth 100000 in
theorem good_l01In : Good Tryz.prog 47 sp_in := by
  refine good_ofF Tryz.func47 rfl _ rfl _ rfl (tab []) (fun X cs os0 K hok hos hK => ?_)
  clear hos; unfold sp_in at hK
  split at hK
  case h_2 => exact hK.elim
  rename_i n a b
  refine ⟨by simp, by simp, ?_⟩
  simp only [go_sem] at hK hok
  simp (maxSteps := 4000000) only [go_sem, Tryz.f47, ↓brB_t, ↓brB_f, Nat.reduceAdd, Int.reduceLE, Int.reduceLT, Int.reduceNeg, decide_true, decide_false, Bool.and_self, Nat.succ_eq_add_one, Int.toNat_natCast, Nat.beq_refl, Bool.and_true, Bool.true_and, Bool.false_or, Bool.or_true, List.all_cons, List.all_nil, Nat.reduceMul, Nat.add_zero, Nat.zero_add, List.length_nil, List.length_cons, dite_true, List.nil_append, Nat.reduceBEq, reduceDIte, reduceIte, reduceCtorEq, Bool.or_false, Bool.true_or, Bool.and_false, Bool.false_and, Bool.not_true, Bool.not_false, Option.isSome_some, Option.isSome_none, Option.getD_some, List.getElem?_cons_zero, List.getElem?_cons_succ, eq_self, and_self, List.take_succ_cons, List.take_zero, List.drop_succ_cons, List.drop_zero]
  refine brB_intro (fun h => ret0 ?_) (fun h => ret0 ?_) <;> simpa [go_sem, inB, h] using hK
def c_l01In : Ctr Tryz.prog := ⟨47, ent Tryz.func47 rfl rfl, [], sp_in, good_l01In, []⟩
@[go_sem] theorem c_l01In_f : c_l01In.f = 47 := rfl
@[go_sem] theorem c_l01In_ms : c_l01In.ms = [] := rfl
@[go_sem] theorem c_l01In_sp : c_l01In.spec = sp_in := rfl
@[go_sem] theorem c_l01In_fz : c_l01In.fz = [] := rfl
attribute [go_sem] sp_in
theorem half {n : Nat} (hn : (n : Int) ≤ 9223372036854775807) : w64 ((n : Int).tdiv 2) = ((n / 2 : Nat) : Int) := by
  have : ((n : Int).tdiv 2) = ((n / 2 : Nat) : Int) := by rw [Int.tdiv_eq_ediv_of_nonneg (by omega)]; omega
  rw [this, w64_id (by omega) (by omega)]
def sp_chords : List Cv → List Obj' → Tree
  | [.one (.ro (.int .i64) l)], [] => .ret (vi ((l.length / 2 : Nat) : Int)) []
  | _, _ => .fail
set_option maxHeartbeats 4000000 in
set_option maxRecDepth 100000 in
theorem good_chords : Good Tryz.prog 135 sp_chords := by
  refine good_ofF Tryz.func135 rfl _ rfl _ rfl (tab []) (fun X cs os0 K hok hos hK => ?_)
  clear hos; unfold sp_chords at hK
  split at hK
  case h_2 => exact hK.elim
  rename_i l
  refine ⟨by simp, by simp, ?_⟩
  simp only [go_sem] at hK hok
  simp (maxSteps := 4000000) only [go_sem, Tryz.f135, ↓brB_t, ↓brB_f, Nat.reduceAdd, Int.reduceLE, Int.reduceLT, Int.reduceNeg, decide_true, decide_false, Bool.and_self, Nat.succ_eq_add_one, Int.toNat_natCast, Nat.beq_refl, Bool.and_true, Bool.true_and, Bool.false_or, Bool.or_true, List.all_cons, List.all_nil, Nat.reduceMul, Nat.add_zero, Nat.zero_add, List.length_nil, List.length_cons, dite_true, List.nil_append, Nat.reduceBEq, reduceDIte, reduceIte, reduceCtorEq, Bool.or_false, Bool.true_or, Bool.and_false, Bool.false_and, Bool.not_true, Bool.not_false, Option.isSome_some, Option.isSome_none, Option.getD_some, List.getElem?_cons_zero, List.getElem?_cons_succ, eq_self, and_self, List.take_succ_cons, List.take_zero, List.drop_succ_cons, List.drop_zero]
  have hl := len_i hok.1.1
  rw [half hl]
  exact ⟨by decide, ret0 hK⟩
def c_chords : Ctr Tryz.prog := ⟨135, ent Tryz.func135 rfl rfl, [], sp_chords, good_chords, []⟩
@[go_sem] theorem c_chords_f : c_chords.f = 135 := rfl
@[go_sem] theorem c_chords_ms : c_chords.ms = [] := rfl
@[go_sem] theorem c_chords_sp : c_chords.spec = sp_chords := rfl
@[go_sem] theorem c_chords_fz : c_chords.fz = [] := rfl
attribute [go_sem] sp_chords
def sp_eq : List Cv → List Obj' → Tree
  | [.one (.ro (.int .i64) l), .one (.ro (.int .i64) m)], [] => .ret (vb (decide ((l : List Int) = m))) []
  | _, _ => .fail
theorem eq_len {l m : List Int} (h : (!decide ((l.length : Int) = m.length)) = true) : decide (l = m) = false := by
  simp at h ⊢; intro e; exact h (by rw [e])
theorem eq_get {l m : List Int} {i : Nat} {d : Int} (h : (!decide (l.getD i d = m.getD i d)) = true) : decide (l = m) = false := by
  simp at h ⊢; intro e; exact h (by rw [e])
theorem eq_all {l m : List Int} {i : Nat} (h : decide ((i : Int) < l.length) = false) (ht : l.take i = m.take i) (hlm : (l.length : Int) = m.length) : decide (l = m) = true := by
  simp at h ⊢
  rw [List.take_of_length_le h, List.take_of_length_le (by omega)] at ht
  exact ht
set_option maxHeartbeats 4000000 in
set_option maxRecDepth 100000 in
theorem good_eq : Good Tryz.prog 136 sp_eq := by
  refine good_ofF Tryz.func136 rfl _ rfl _ rfl (tab []) (fun X cs os0 K hok hos hK => ?_)
  clear hos; unfold sp_eq at hK
  split at hK
  case h_2 => exact hK.elim
  rename_i l m
  refine ⟨by simp, by simp, ?_⟩
  simp only [go_sem] at hK hok
  simp (maxSteps := 4000000) only [go_sem, Tryz.f136, ↓brB_t, ↓brB_f, Nat.reduceAdd, Int.reduceLE, Int.reduceLT, Int.reduceNeg, decide_true, decide_false, Bool.and_self, Nat.succ_eq_add_one, Int.toNat_natCast, Nat.beq_refl, Bool.and_true, Bool.true_and, Bool.false_or, Bool.or_true, List.all_cons, List.all_nil, Nat.reduceMul, Nat.add_zero, Nat.zero_add, List.length_nil, List.length_cons, dite_true, List.nil_append, Nat.reduceBEq, reduceDIte, reduceIte, reduceCtorEq, Bool.or_false, Bool.true_or, Bool.and_false, Bool.false_and, Bool.not_true, Bool.not_false, Option.isSome_some, Option.isSome_none, Option.getD_some, List.getElem?_cons_zero, List.getElem?_cons_succ, eq_self, and_self, List.take_succ_cons, List.take_zero, List.drop_succ_cons, List.drop_zero]
  have hl := len_i hok.1.1
  refine brB_intro (fun h => ret0 (by rw [eq_len h] at hK; exact hK)) (fun h => ?_)
  simp at h
  refine loop_okF (T := tab []) [0, 1, 12, 13] [] (fun i : Nat => ⟨26, [(0, ri l), (1, ri m), (12, vi l.length), (13, vi i)], []⟩)
    (fun i => i ≤ l.length ∧ l.take i = m.take i) (fun i => l.length - i) 0 rfl rfl ⟨Nat.zero_le _, rfl⟩ (fun i hi => ?_)
  obtain ⟨hi, ht⟩ := hi
  simp only [go_sem, ↓brB_t, ↓brB_f, Nat.reduceAdd, Int.reduceLE, Int.reduceLT, Int.reduceNeg, decide_true, decide_false, Bool.and_self, Nat.succ_eq_add_one, Int.toNat_natCast, Nat.beq_refl, Bool.and_true, Bool.true_and, Bool.false_or, Bool.or_true, List.all_cons, List.all_nil, Nat.reduceMul, Nat.add_zero, Nat.zero_add, List.length_nil, List.length_cons, dite_true, List.nil_append, Nat.reduceBEq, reduceDIte, reduceIte, reduceCtorEq, Bool.or_false, Bool.true_or, Bool.and_false, Bool.false_and, Bool.not_true, Bool.not_false, Option.isSome_some, Option.isSome_none, Option.getD_some, List.getElem?_cons_zero, List.getElem?_cons_succ, eq_self, and_self, List.take_succ_cons, List.take_zero, List.drop_succ_cons, List.drop_zero]
  refine brB_intro (fun h1 => ⟨by simp at h1; omega, by simp at h1; omega, by kernel_rfl, brB_intro (fun h2 => ret0 (by rw [eq_get h2] at hK; exact hK)) (fun h2 => ?_)⟩) (fun h1 => ret0 (by rw [eq_all h1 ht h] at hK; exact hK))
  simp at h1 h2
  refine ⟨i + 1, [], ⟨by omega, take_s ht (by omega) (by omega) (by simpa using h2)⟩, by omega, rfl, ?_⟩
  rw [w64_s h1 hl]; rfl
def c_equal : Ctr Tryz.prog := ⟨136, ent Tryz.func136 rfl rfl, [], sp_eq, good_eq, []⟩
@[go_sem] theorem c_equal_f : c_equal.f = 136 := rfl
@[go_sem] theorem c_equal_ms : c_equal.ms = [] := rfl
@[go_sem] theorem c_equal_sp : c_equal.spec = sp_eq := rfl
@[go_sem] theorem c_equal_fz : c_equal.fz = [] := rfl
attribute [go_sem] sp_eq
attribute [go_sem] sp_eq
set_option maxHeartbeats 4000000 in
set_option maxRecDepth 100000 in
theorem good_l01Same : Good Tryz.prog 88 sp_eq := by
  refine good_ofF Tryz.func88 rfl _ rfl _ rfl (tab []) (fun X cs os0 K hok hos hK => ?_)
  clear hos; unfold sp_eq at hK
  split at hK
  case h_2 => exact hK.elim
  rename_i l m
  refine ⟨by simp, by simp, ?_⟩
  simp only [go_sem] at hK hok
  simp (maxSteps := 4000000) only [go_sem, Tryz.f88, ↓brB_t, ↓brB_f, Nat.reduceAdd, Int.reduceLE, Int.reduceLT, Int.reduceNeg, decide_true, decide_false, Bool.and_self, Nat.succ_eq_add_one, Int.toNat_natCast, Nat.beq_refl, Bool.and_true, Bool.true_and, Bool.false_or, Bool.or_true, List.all_cons, List.all_nil, Nat.reduceMul, Nat.add_zero, Nat.zero_add, List.length_nil, List.length_cons, dite_true, List.nil_append, Nat.reduceBEq, reduceDIte, reduceIte, reduceCtorEq, Bool.or_false, Bool.true_or, Bool.and_false, Bool.false_and, Bool.not_true, Bool.not_false, Option.isSome_some, Option.isSome_none, Option.getD_some, List.getElem?_cons_zero, List.getElem?_cons_succ, eq_self, and_self, List.take_succ_cons, List.take_zero, List.drop_succ_cons, List.drop_zero]
  have hl := len_i hok.1.1
  refine brB_intro (fun h => ret0 (by rw [eq_len h] at hK; exact hK)) (fun h => ?_)
  simp at h
  refine loop_okF (T := tab []) [0, 1, 5] [] (fun i : Nat => ⟨26, [(0, ri l), (1, ri m), (5, vi i)], []⟩)
    (fun i => i ≤ l.length ∧ l.take i = m.take i) (fun i => l.length - i) 0 rfl rfl ⟨Nat.zero_le _, rfl⟩ (fun i hi => ?_)
  obtain ⟨hi, ht⟩ := hi
  simp only [go_sem, ↓brB_t, ↓brB_f, Nat.reduceAdd, Int.reduceLE, Int.reduceLT, Int.reduceNeg, decide_true, decide_false, Bool.and_self, Nat.succ_eq_add_one, Int.toNat_natCast, Nat.beq_refl, Bool.and_true, Bool.true_and, Bool.false_or, Bool.or_true, List.all_cons, List.all_nil, Nat.reduceMul, Nat.add_zero, Nat.zero_add, List.length_nil, List.length_cons, dite_true, List.nil_append, Nat.reduceBEq, reduceDIte, reduceIte, reduceCtorEq, Bool.or_false, Bool.true_or, Bool.and_false, Bool.false_and, Bool.not_true, Bool.not_false, Option.isSome_some, Option.isSome_none, Option.getD_some, List.getElem?_cons_zero, List.getElem?_cons_succ, eq_self, and_self, List.take_succ_cons, List.take_zero, List.drop_succ_cons, List.drop_zero]
  refine brB_intro (fun h1 => ⟨by simp at h1; omega, by simp at h1; omega, by kernel_rfl, brB_intro (fun h2 => ret0 (by rw [eq_get h2] at hK; exact hK)) (fun h2 => ?_)⟩) (fun h1 => ret0 (by rw [eq_all h1 ht h] at hK; exact hK))
  simp at h1 h2
  refine ⟨i + 1, [], ⟨by omega, take_s ht (by omega) (by omega) (by simpa using h2)⟩, by omega, rfl, ?_⟩
  rw [w64_s h1 hl]; rfl
def c_l01Same : Ctr Tryz.prog := ⟨88, ent Tryz.func88 rfl rfl, [], sp_eq, good_l01Same, []⟩
@[go_sem] theorem c_l01Same_f : c_l01Same.f = 88 := rfl
@[go_sem] theorem c_l01Same_ms : c_l01Same.ms = [] := rfl
@[go_sem] theorem c_l01Same_sp : c_l01Same.spec = sp_eq := rfl
@[go_sem] theorem c_l01Same_fz : c_l01Same.fz = [] := rfl
attribute [go_sem] sp_eq
end Go.Proofs.YthfmlelodmcgkaaGreat.V
end
section
namespace Go.Proofs.YthfmlelodmcgkaaGreat.K
open Go.RowKit Go.Proofs.YthfmlelodmcgkaaGreatW.PrintWords Go.Proofs.YthfmlelodmcgkaaGreatW.PrintLast Go.Proofs.YthfmlelodmcgkaaGreatW.PrintMore
open Go.Maps (Keyed)
def hR (v : Value) : Option (DataW Value × List MemPlace) := some (.held v, [])
def MapV (w : World) (P : Program) (k : TypeId) (b s : Nat) (m : Lit → Option Value) : Prop :=
  ∃ D, w.ownsMap P k hR b s D ∧ Maps.size D = s ∧ ∀ kl, WideAt.IsKeyLit kl → Maps.has D kl = (m kl).isSome ∧ ∀ v, m kl = some v → ∀ z, D.atKey kl z = .held v
section
variable {P : Program} {k : TypeId} {w w1 : World} {b s : Nat} {m : Lit → Option Value}
theorem MapV.made (w : World) (P : Program) (k : TypeId) : MapV (w.alloc (.map #[] 0)) P k w.heap.size 0 fun _ => none :=
  ⟨.map [], World.ownsMap_made _ _ _ _, rfl, fun kl _ => ⟨rfl, fun v h => by cases h⟩⟩
theorem MapV.lt (h : MapV w P k b s m) : b < w.heap.size := by
  obtain ⟨D, hD, _⟩ := h
  exact hD.lt
theorem MapV.kept (h : MapV w P k b s m) {row : Option Nat} (hg : w.grownBy w1 row) (hne : some b ≠ row) : MapV w1 P k b s m := by
  obtain ⟨D, hD, hs, hm⟩ := h
  exact ⟨D, hD.kept hg hne, hs, hm⟩
theorem MapV.block (h : MapV w P k b s m) (hb : w1.heap[b]? = w.heap[b]?) : MapV w1 P k b s m := by
  obtain ⟨D, ⟨es, clock, h1, h2⟩, hs, hm⟩ := h
  exact ⟨D, ⟨es, clock, hb.trans h1, h2⟩, hs, hm⟩
theorem MapV.below (h : MapV w P k b s m) (hb : Below w.heap.size w w1) : MapV w1 P k b s m := h.block (hb.block b h.lt)
theorem MapV.congr (h : MapV w P k b s m) {m' : Lit → Option Value} (he : ∀ kl, WideAt.IsKeyLit kl → m' kl = m kl) : MapV w P k b s m' := by
  obtain ⟨D, hD, hs, hm⟩ := h
  exact ⟨D, hD, hs, fun kl hk => by rw [he kl hk]; exact hm kl hk⟩
variable {ops : Array Oper} {rest : List Oper} {o : Oper} {a : Act} {Q : Exit → Act → World → Prop} {W : World}
theorem mapMake {t e : TypeId} (hgd : o.guard = none) {N : Tmp} (hd : o.dst = some N) (ho : o.op = .makeMap t none) (ht : P.underlying t = some (.map k e))
    (h : ∀ w1, MapV w1 P k W.heap.size 0 (fun _ => none) → W.grownBy w1 none → Below W.heap.size W w1 → w1.heap.size = W.heap.size + 1 → wpList P ops Q rest (a.put o.dst (.map (some W.heap.size))) w1) : wpList P ops Q (o :: rest) a W := by
  refine Kd.event_run hgd ?_ (h (W.alloc (.map #[] 0)) (MapV.made _ _ _) (World.grownBy_alloc W _ none) (below_alloc (Below.refl _ _) _) (by simp))
  unfold execOp
  have hmm := @run_makeMap P
  simp [ho, hmm, Result.andThen]
theorem mapLookOk {t e : TypeId} (hgd : o.guard = none) {mm x : Operand} (ho : o.op = .lookup t mm x true) (K : Keyed P k) (ht : P.underlying t = some (.map k e)) {z : Value} (hz : (zeroValue e).run P W = .ok z W)
    (hM : MapV W P k b s m) (hm : a.eval mm = .map (some b)) (key : Value) (kl : Lit) (hx : a.eval x = key) (hkey : keyOf P k key = some kl) (hkl : WideAt.IsKeyLit kl)
    (h : wpList P ops Q rest (a.put o.dst (.tuple #[(m kl).getD z, .bool (m kl).isSome])) W) : wpList P ops Q (o :: rest) a W := by
  obtain ⟨D, hD, hs, hmm⟩ := hM
  obtain ⟨h1, h2⟩ := hmm kl hkl
  refine wpList_lookup_own_ok W hgd mm x t ho k e K ht hR hz (.held z) [] rfl b s D hm hD key kl hx hkey fun v ps hv => ?_
  have hv2 : DataW.held v = D.atKey kl (.held z) := (Prod.mk.inj (Option.some.inj hv)).1
  rw [h1]
  cases e1 : m kl with
  | none =>
    rw [e1] at h1 h
    rw [Maps.atKey_of_not_has h1] at hv2
    injection hv2 with hv2
    subst hv2
    exact h
  | some u =>
    rw [e1] at h
    rw [h2 u e1] at hv2
    injection hv2 with hv2
    subst hv2
    exact h
theorem mapLook {t e : TypeId} (hgd : o.guard = none) {mm x : Operand} (ho : o.op = .lookup t mm x false) (K : Keyed P k) (ht : P.underlying t = some (.map k e)) {z : Value} (hz : (zeroValue e).run P W = .ok z W)
    (hM : MapV W P k b s m) (hm : a.eval mm = .map (some b)) (key : Value) (kl : Lit) (hx : a.eval x = key) (hkey : keyOf P k key = some kl) (hkl : WideAt.IsKeyLit kl)
    (h : wpList P ops Q rest (a.put o.dst ((m kl).getD z)) W) : wpList P ops Q (o :: rest) a W := by
  obtain ⟨D, hD, hs, hmm⟩ := hM
  obtain ⟨h1, h2⟩ := hmm kl hkl
  obtain ⟨v, ps, hrun, hv⟩ := hD.lookup K ht hz (zd := .held z) (zp := []) rfl hkey
  have hv2 : DataW.held v = D.atKey kl (.held z) := (Prod.mk.inj (Option.some.inj hv)).1
  have hv3 : (m kl).getD z = v := by
    cases e1 : m kl with
    | none =>
      rw [e1] at h1
      rw [Maps.atKey_of_not_has h1] at hv2
      injection hv2 with hv2
      exact hv2.symm
    | some u =>
      rw [h2 u e1] at hv2
      injection hv2 with hv2
      exact hv2.symm
  rw [hv3] at h
  refine Kd.event_run hgd ?_ h
  unfold execOp
  simp [ho, hm, hx, hrun, Result.andThen]
theorem mapStore {t e : TypeId} (hgd : o.guard = none) {mm x y : Operand} (ho : o.op = .mapUpdate t mm x y) (K : Keyed P k) (ht : P.underlying t = some (.map k e))
    (hM : MapV W P k b s m) (hs : s < 1099511627776) (hm : a.eval mm = .map (some b)) (key val : Value) (kl : Lit) (hx : a.eval x = key) (hv : a.eval y = val) (hkey : keyOf P k key = some kl) (hkl : WideAt.IsKeyLit kl)
    (h : ∀ w', MapV w' P k b (if (m kl).isSome then s else s + 1) (fun l => if l.sameKey kl = true then some val else m l) → W.grownBy w' (some b) → wpList P ops Q rest (a.put o.dst undef) w') : wpList P ops Q (o :: rest) a W := by
  obtain ⟨D, hD, hsz, hmm⟩ := hM
  refine wpList_mapUpdate_own W hgd mm x y t ho k e K ht hR b s D hm hD (by simp only [maxLen]; omega) key val kl hx hv hkey (.held val) [] rfl fun w' hD' hg => h w' ⟨D.put kl (.held val), ?_, ?_, ?_⟩ hg
  · have ht2 := hD.tidy K
    have e1 : Maps.size (D.put kl (.held val)) = if (m kl).isSome then s else s + 1 := by rw [Maps.size_put ht2, (hmm kl hkl).1, hsz]
    obtain ⟨es, clock, hb, F, hle, hDe⟩ := hD'
    refine ⟨es, clock, hb, F, ?_, hDe⟩
    have : es.size = Maps.size (D.put kl (.held val)) := by rw [hDe]; simp [Maps.size, length_sorted]
    rw [this, e1]
    exact Nat.le_refl _
  · rw [Maps.size_put (hD.tidy K), (hmm kl hkl).1, hsz]
  · intro kl' hk'
    dsimp only
    by_cases he : kl' = kl
    · subst he
      refine ⟨by rw [Maps.has_put_same hD.isMap hk', if_pos (WideAt.sameKey_self hk')]; rfl, fun v hv z => ?_⟩
      rw [if_pos (WideAt.sameKey_self hk')] at hv
      obtain rfl := Option.some.inj hv
      exact Maps.atKey_put_same hD.isMap hk' _ _
    · have hes : ¬ kl'.sameKey kl = true := fun h => he (WideAt.sameKey_eq h)
      refine ⟨by rw [Maps.has_put_other he, if_neg hes]; exact (hmm kl' hk').1, fun v hv z => ?_⟩
      rw [if_neg hes] at hv
      rw [Maps.atKey_put_other he]
      exact (hmm kl' hk').2 v hv z
theorem mapLen {t e : TypeId} (hgd : o.guard = none) {mm : Operand} (ho : o.op = .call { callee := .builtin .len, args := #[mm], argTypes := #[t] }) (ht : P.underlying t = some (.map k e))
    (hM : MapV W P k b s m) (hm : a.eval mm = .map (some b)) (h : wpList P ops Q rest (a.put o.dst (.int .i64 s)) W) : wpList P ops Q (o :: rest) a W := by
  obtain ⟨D, hD, hs, _⟩ := hM
  subst hs
  exact wpList_len_own W hgd mm t ho k e ht hR b _ D hm hD h
def MapR (w : World) (P : Program) (k : TypeId) (b r : Nat) (m : Lit → Option Value) (left : Lit → Bool) (cnt : Nat) : Prop :=
  ∃ D n, w.ranges P k hR b r n D left cnt ∧ ∀ kl, WideAt.IsKeyLit kl → Maps.has D kl = (m kl).isSome ∧ ∀ v, m kl = some v → ∀ z, D.atKey kl z = .held v
theorem MapR.left_eq {left : Lit → Bool} {r cnt : Nat} (h : MapR w P k b r m left cnt) : w.rangeLeft b r = cnt := by
  obtain ⟨D, n, h, _⟩ := h
  exact h.left_eq
theorem MapR.kept {left : Lit → Bool} {r cnt : Nat} (h : MapR w P k b r m left cnt) {row : Option Nat} (hg : w.grownBy w1 row) (hb : some b ≠ row) (hr : some r ≠ row) : MapR w1 P k b r m left cnt := by
  obtain ⟨D, n, h, hm⟩ := h
  exact ⟨D, n, h.kept hg hb hr, hm⟩
theorem MapR.lt {left : Lit → Bool} {r cnt : Nat} (h : MapR w P k b r m left cnt) : b < w.heap.size ∧ r < w.heap.size := by
  obtain ⟨D, n, h, hm⟩ := h
  exact ⟨h.owns.lt, h.lt⟩
theorem MapR.below {left : Lit → Bool} {r cnt : Nat} (h : MapR w P k b r m left cnt) (hb : Below w.heap.size w w1) : MapR w1 P k b r m left cnt :=
  h.kept (grown_of_below hb none) (by simp) (by simp)
theorem mapRange {t e : TypeId} (hgd : o.guard = none) {mm : Operand} (ho : o.op = .range t mm) (K : Keyed P k) (ht : P.underlying t = some (.map k e)) (hM : MapV W P k b s m) (hm : a.eval mm = .map (some b))
    (h : ∀ w' left, (∀ kl, WideAt.IsKeyLit kl → left kl = (m kl).isSome) → MapR w' P k b W.heap.size m left s → W.grownBy w' none → w'.heap.size = W.heap.size + 1 → wpList P ops Q rest (a.put o.dst (.pointer (some ⟨W.heap.size, 0, none⟩))) w') : wpList P ops Q (o :: rest) a W := by
  obtain ⟨D, hD, hs, hmm⟩ := hM
  subst hs
  exact wpList_range_own W hgd mm t ho k e K ht hR b _ D hm hD fun w' h1 h2 h3 => h w' _ (fun kl hk => (hmm kl hk).1) ⟨D, _, h1, hmm⟩ h2 h3
theorem mapNext (hgd : o.guard = none) {it : Operand} (ho : o.op = .next it false) (K : Keyed P k) {r cnt : Nat} {left : Lit → Bool} (hM : MapR W P k b r m left cnt) (hit : a.eval it = .pointer (some ⟨r, 0, none⟩))
    (hDone : cnt = 0 → (∀ kl, left kl = false) → wpList P ops Q rest (a.put o.dst (.tuple #[.bool false])) W)
    (hMore : ∀ key v kl w' cnt', keyOf P k key = some kl → WideAt.IsKeyLit kl → left kl = true → m kl = some v → MapR w' P k b r m (fun z => left z && !z.sameKey kl) cnt' → cnt' < cnt → W.grownBy w' (some r) → w'.heap.size = W.heap.size →
      (Instr.entry (.pointer (some ⟨r, 0, none⟩))).run P w' = .ok (.tuple #[key, v]) w' → wpList P ops Q rest (a.put o.dst (.tuple #[.bool true, key, v])) w') : wpList P ops Q (o :: rest) a W := by
  obtain ⟨D, n, hD, hmm⟩ := hM
  refine wpList_next_ranges W hgd it ho k K hR id id (fun key kl _ => ⟨key, rfl⟩) (fun v y _ => ⟨v, rfl⟩) b r n D left cnt hit hD hDone ?_
  intro key v kl y w' cnt' hkey hl hv hat hD' hc hg hsz hen
  have hkl := K.key hkey
  have hy : y.1 = .held v := by
    have := Option.some.inj hv
    rw [← this]
    rfl
  have hmk : m kl = some v := by
    obtain ⟨h1, h2⟩ := hmm kl hkl
    cases e1 : m kl with
    | none =>
      rw [e1] at h1
      have h3 := hat .nil
      rw [Maps.atKey_of_not_has h1, hy] at h3
      cases h3
    | some u =>
      have h3 := h2 u e1 .nil
      rw [hat .nil, hy] at h3
      injection h3 with h3
      rw [h3]
  exact hMore key v kl w' cnt' hkey hkl hl hmk ⟨D, n, hD', hmm⟩ hc hg hsz hen
end
end Go.Proofs.YthfmlelodmcgkaaGreat.K
end
section
namespace Go.Proofs.YthfmlelodmcgkaaGreat.K
open Go.RowKit Go.Proofs.YthfmlelodmcgkaaGreatW.PrintWords Go.Proofs.YthfmlelodmcgkaaGreatW.PrintLast Go.Proofs.YthfmlelodmcgkaaGreatW.PrintMore
theorem wrap_id {x : Int} (h0 : -9223372036854775808 ≤ x) (h1 : x ≤ 9223372036854775807) : wrap64 x = x := by unfold wrap64; omega
end Go.Proofs.YthfmlelodmcgkaaGreat.K
end
section
namespace Go.Proofs.YthfmlelodmcgkaaGreat.K
open Go.RowKit Go.Proofs.YthfmlelodmcgkaaGreatW.PrintWords Go.Proofs.YthfmlelodmcgkaaGreatW.PrintLast Go.Proofs.YthfmlelodmcgkaaGreatW.PrintMore
def normFrom (met : List Int) : List Int → List Int
  | [] => []
  | x :: r => match met.idxOf? x with
    | some j => (j : Int) :: normFrom met r
    | none => (met.length : Int) :: normFrom (met ++ [x]) r
def normalL (l : List Int) : List Int := normFrom [] l
def metBy (met : List Int) : List Int → List Int
  | [] => met
  | x :: r => match met.idxOf? x with
    | some j => metBy met r
    | none => metBy (met ++ [x]) r
theorem normFrom_length (l : List Int) : ∀ met, (normFrom met l).length = l.length := by
  induction l with
  | nil => intro met; rfl
  | cons x r ih => intro met; rw [normFrom]; split <;> simp [ih]
theorem normalL_length (l : List Int) : (normalL l).length = l.length := normFrom_length _ _
theorem idxOf?_lt {met : List Int} {x : Int} {j : Nat} (h : met.idxOf? x = some j) : j < met.length := by
  rw [List.idxOf?, List.findIdx?_eq_some_iff_findIdx_eq] at h
  exact h.1
theorem idxOf?_snoc (met : List Int) (x y : Int) (h : met.idxOf? x = none) : (met ++ [x]).idxOf? y = if y = x then some met.length else met.idxOf? y := by
  have h2 : x ∉ met := by simpa [List.idxOf?_eq_none_iff] using h
  by_cases e : y = x
  · subst e
    rw [if_pos rfl]
    simp only [List.idxOf?, List.findIdx?_append]
    have : List.findIdx? (fun z => z == y) met = none := h
    simp [this]
  · rw [if_neg e]
    simp only [List.idxOf?, List.findIdx?_append]
    cases h3 : List.findIdx? (fun z => z == y) met with
    | some j => simp
    | none => simp [Ne.symm e]
theorem law_i64 : Go.Maps.Keyed Tryz.prog 2 := Go.Maps.int_keyed Tryz.underlying2
theorem zero_i64 (w : World) : (zeroValue 2).run Tryz.prog w = .ok (.int .i64 0) w := by kernel_rfl
theorem zero_int (w : World) : (zeroValue 3).run Tryz.prog w = .ok (.int .i64 0) w := by kernel_rfl
theorem key_i64 {x : Int} (h : (Lit.int .i64 x).wf = true) : keyOf Tryz.prog 2 (.int .i64 x) = some (.int .i64 x) := Go.Maps.keyOf_int_mk Tryz.underlying2 h
def in64 (x : Int) : Prop := -9223372036854775808 ≤ x ∧ x ≤ 9223372036854775807
def Ok64 (l : List Int) : Prop := ∀ x ∈ l, in64 x
theorem in64_wf {x : Int} (h : in64 x) : (Lit.int .i64 x).wf = true := WalkArith.wf_i64 h
theorem drop_at' (l : List Int) (k : Int) (h0 : 0 ≤ k) (h : k < l.length) : l.drop ((k + 1).toNat - 1) = rd l k :: l.drop (k + 1).toNat := by
  have := drop_at l k.toNat (by omega)
  rw [show ((k.toNat : Nat) : Int) = k by omega] at this
  rw [show (k + 1).toNat - 1 = k.toNat by omega, this, show (k + 1).toNat = k.toNat + 1 by omega]
def namesOf (met : List Int) : Lit → Option Value
  | .int .i64 x => (met.idxOf? x).map fun (j : Nat) => Value.int .i64 (j : Int)
  | _ => none
theorem namesOf_snoc (met : List Int) (x : Int) (h : met.idxOf? x = none) (kl : Lit) :
    namesOf (met ++ [x]) kl = if kl.sameKey (.int .i64 x) = true then some (.int .i64 (met.length : Int)) else namesOf met kl := by
  cases kl with
  | int q y =>
    cases q <;> simp [namesOf, Lit.sameKey]
    rw [idxOf?_snoc met x y h]
    split <;> simp
  | _ => simp [namesOf, Lit.sameKey]
set_option maxHeartbeats 1000000 in
set_option maxRecDepth 100000 in
theorem c_normal (A0 : Option Addr) (c0 : Nat) (l : List Int) (w : World) (hl : l.length < 1099511627776) (h64 : Ok64 l) (hr : CI w A0 l.length l) :
    Calls Tryz.prog 163 #[.slice A0 l.length c0] w fun e w' => ∃ v : Value, e = .returned v ∧ RI w' w.heap.size (fun _ => True) v (normalL l) ∧ Below w.heap.size w w' := by
  have HR := Aside0.mk hr
  have H64 := Aside0.mk h64
  clear hr h64
  go_enter Tryz.func163, Tryz.ntmps163
  go_wp2_with (first
    | ((with_reducible refine gate_dst (N := 9) rfl ?_); refine mapMake rfl rfl rfl Tryz.underlying159 ?_; intro w1 hM hg hb hsz; have HM := Aside0.mk hM; have HB := Aside0.mk hb; clear hM hb hg)
    | ((with_reducible refine gate_dst (N := 10) rfl ?_); refine lit0 (w0 := w) w.heap.size (ok := fun k => k ≠ w.heap.size) rfl rfl rfl (by show w1.heap.size ≠ w.heap.size; omega) HB.out HB.out.size ?_; intro v2 w2 hv hb2 hgr hnew; have HO := Aside0.mk hv; have HM2 := Aside0.mk (HM.out.kept hgr (by simp)); clear HM HB hv hgr hnew; have HM := HM2; have HB := Aside0.mk hb2; clear hb2 HM2))
  go_loopw [4, 13] (fun vo i wr => ∃ (k : Int) (vO : Value), 0 ≤ k ∧ k ≤ l.length ∧ vo = vO ∧ i = .int .i64 k ∧ Aside0 (∃ met os, os.length = k.toNat ∧ met.length ≤ k.toNat ∧ os ++ normFrom met (l.drop k.toNat) = normalL l ∧ MapV wr Tryz.prog 2 w.heap.size met.length (namesOf met) ∧ RI wr w.heap.size (fun k => k ≠ w.heap.size) vO os ∧ Below w.heap.size w wr)) (fun _ i _ => l.length - (intOf i).toNat)
  case atStart => exact ⟨0, v2, by omega, by omega, rfl, rfl, ⟨[], [], rfl, Nat.le_refl _, rfl, HM.out.congr (fun kl _ => by cases kl with | int q x => cases q <;> rfl | _ => rfl), HO.out, HB.out⟩⟩
  case round =>
    clear HM HO HB
    obtain ⟨k, vO, hk0, hk, rfl, rfl, ⟨met, os, hol, hml, hos, hM, hO, hB⟩⟩ := hrel
    have HM := Aside0.mk hM
    have HO := Aside0.mk hO
    have HB := Aside0.mk hB
    have HU := Aside0.mk (And.intro hol (And.intro hml hos))
    have hbs := hM.lt
    clear hM hO hB hol hml hos
    by_cases hlt : k < l.length
    · obtain ⟨ad, hA, hc⟩ := Kd.at_int (Kd.C_below HR.out HB.out) k (by omega) (by omega)
      subst hA
      obtain ⟨x, hx⟩ : ∃ x, x = rd l k := ⟨_, rfl⟩
      rw [← hx] at hc
      have HX := Aside0.mk hx
      have hxm : in64 x := by
        have := rd_mem l k.toNat (by omega)
        rw [show ((k.toNat : Nat) : Int) = k by omega, ← hx] at this
        exact H64.out x this
      have HK := Aside0.mk (key_i64 (in64_wf hxm))
      clear hx hxm
      cases hmx : met.idxOf? x with
      | some j =>
        have HE := Aside0.mk (show namesOf met (.int .i64 x) = some (.int .i64 (j : Int)) by simp [namesOf, hmx])
        have HMX := Aside0.mk hmx
        clear hmx
        go_wp2_with (first
          | ((with_reducible refine gate_dst (N := 20) rfl ?_); refine mapLookOk rfl rfl law_i64 Tryz.underlying159 (zero_i64 _) HM.out rfl (.int .i64 x) (.int .i64 x) rfl HK.out trivial ?_; simp only [HE.out, Option.getD_some, Option.isSome_some])
          | ((with_reducible refine gate_builtin (b := .append) (xs := #[.tmp 30, .tmp 32]) rfl ?_); refine appI (w0 := w) rfl rfl _ os (j : Int) rfl rfl (fun k hk => Nat.ne_of_gt (Nat.lt_of_lt_of_le hbs hk)) HO.out HB.out HB.out.size (by have := HU.out.1; omega) ?_; intro v3 w3 ho3 hb3 hg3 _; have HM3 := Aside0.mk (HM.out.kept hg3 (fun h => HO.out.1 _ h.symm rfl)); have HO3 := Aside0.mk ho3; have HB3 := Aside0.mk hb3; clear ho3 hb3 hg3))
        go_roundw
        case rel =>
          obtain ⟨hol, hml, hos⟩ := HU.out
          refine ⟨k + 1, v3, by omega, by omega, rfl, rfl, ⟨met, os ++ [(j : Int)], by simp; omega, by omega, ?_, HM3.out, HO3.out, HB3.out⟩⟩
          rw [← hos, show k.toNat = (k + 1).toNat - 1 by omega, drop_at' l k hk0 hlt, ← HX.out, normFrom, HMX.out]
          simp
        case measure => simp [intOf]; omega
      | none =>
        have HE := Aside0.mk (show namesOf met (.int .i64 x) = none by simp [namesOf, hmx])
        have HMX := Aside0.mk hmx
        clear hmx
        go_wp2_with (first
          | ((with_reducible refine gate_dst (N := 20) rfl ?_); refine mapLookOk rfl rfl law_i64 Tryz.underlying159 (zero_i64 _) HM.out rfl (.int .i64 x) (.int .i64 x) rfl HK.out trivial ?_; simp only [HE.out, Option.getD_none, Option.isSome_none])
          | ((with_reducible refine gate_dst (N := 26) rfl ?_); refine mapLen rfl rfl Tryz.underlying159 HM.out rfl ?_)
          | (at_mapUpdate; refine mapStore rfl rfl law_i64 Tryz.underlying159 HM.out (by have := HU.out.2.1; omega) rfl (.int .i64 x) (.int .i64 (met.length : Int)) (.int .i64 x) rfl rfl HK.out trivial ?_; intro w2 hM2 hg2; have HM2 := Aside0.mk ((show MapV w2 Tryz.prog 2 w.heap.size (met ++ [x]).length _ by rw [HE.out] at hM2; simpa using hM2).congr (fun kl _ => namesOf_snoc met x HMX.out kl)); have HO2 := Aside0.mk (Kd.R_grown HO.out hg2 (fun k hk h => hk (Option.some.inj h))); have HB2 := Aside0.mk (HB.out.grown hg2 HB.out.size (fun k hk => by cases hk; exact Nat.le_refl _)); have hbs2 := HM2.out.lt; clear HM HO HB hM2 hg2)
          | ((with_reducible refine gate_builtin (b := .append) (xs := #[.tmp 30, .tmp 32]) rfl ?_); refine appI (w0 := w) rfl rfl _ os (met.length : Int) rfl rfl (fun k hk => Nat.ne_of_gt (Nat.lt_of_lt_of_le hbs2 hk)) HO2.out HB2.out HB2.out.size (by have := HU.out.1; omega) ?_; intro v3 w3 ho3 hb3 hg3 _; have HM3 := Aside0.mk (HM2.out.kept hg3 (fun h => HO2.out.1 _ h.symm rfl)); have HO3 := Aside0.mk ho3; have HB3 := Aside0.mk hb3; clear ho3 hb3 hg3))
        go_roundw
        case rel =>
          obtain ⟨hol, hml, hos⟩ := HU.out
          refine ⟨k + 1, v3, by omega, by omega, rfl, rfl, ⟨met ++ [x], os ++ [(met.length : Int)], by simp; omega, by simp; omega, ?_, HM3.out, HO3.out, HB3.out⟩⟩
          rw [← hos, show k.toNat = (k + 1).toNat - 1 by omega, drop_at' l k hk0 hlt, ← HX.out, normFrom, HMX.out]
          simp
        case measure => simp [intOf]; omega
    · obtain rfl : k = l.length := by omega
      go_wp2
      go_ret
      obtain ⟨hol, hml, hos⟩ := HU.out
      rw [List.drop_of_length_le (by omega), normFrom, List.append_nil] at hos
      rw [← hos]
      exact ⟨_, rfl, Kd.R_mono HO.out (fun _ _ => trivial), HB.out⟩
end Go.Proofs.YthfmlelodmcgkaaGreat.K
namespace Go.Proofs.YthfmlelodmcgkaaGreat.K
open Go.RowKit Go.Proofs.YthfmlelodmcgkaaGreatW.PrintWords Go.Proofs.YthfmlelodmcgkaaGreatW.PrintLast Go.Proofs.YthfmlelodmcgkaaGreatW.PrintMore
def twiceL (l : List Int) : Bool := l.all fun x => l.count x == 2
def cntsOf (t : List Int) : Lit → Option Value
  | .int .i64 x => if t.count x = 0 then none else some (.int .i64 (t.count x : Int))
  | _ => none
theorem cntsOf_get (t : List Int) (x : Int) : (cntsOf t (.int .i64 x)).getD (.int .i64 0) = .int .i64 (t.count x : Int) := by
  simp only [cntsOf]
  split <;> rename_i h
  · rw [h]; rfl
  · rfl
theorem cntsOf_snoc (t : List Int) (x : Int) (kl : Lit) :
    cntsOf (t ++ [x]) kl = if kl.sameKey (.int .i64 x) = true then some (.int .i64 ((t.count x : Int) + 1)) else cntsOf t kl := by
  cases kl with
  | int q y =>
    cases q <;> simp [cntsOf, Lit.sameKey]
    by_cases e : y = x
    · subst e; simp
    · have h2 : List.count y [x] = 0 := List.count_eq_zero.mpr (by simpa using e)
      simp [h2, e]
  | _ => simp [cntsOf, Lit.sameKey]
theorem cntsOf_true (l : List Int) (h : ∀ kl v, cntsOf l kl = some v → v = .int .i64 2) : twiceL l = true := by
  refine List.all_eq_true.mpr fun x hx => ?_
  have := h (.int .i64 x) (.int .i64 (l.count x : Int)) (by simp [cntsOf, List.count_eq_zero]; exact hx)
  injection this with _ h2
  simpa using (by omega : l.count x = 2)
theorem cntsOf_false (l : List Int) (kl : Lit) (v : Value) (h : cntsOf l kl = some v) (hv : v ≠ .int .i64 2) : twiceL l = false := by
  cases kl with
  | int q y =>
    cases q <;> simp [cntsOf] at h
    obtain ⟨h1, rfl⟩ := h
    refine Bool.eq_false_iff.mpr fun h2 => hv ?_
    have h3 := List.all_eq_true.mp h2 y (List.count_pos_iff.mp (Nat.pos_of_ne_zero h1))
    have h4 : l.count y = 2 := by simpa using h3
    rw [h4]; rfl
  | _ => simp [cntsOf] at h
theorem take_snoc' (l : List Int) (k : Int) (h0 : 0 ≤ k) (h : k < l.length) : l.take (k + 1).toNat = l.take k.toNat ++ [rd l k] := by
  have := drop_at l k.toNat (by omega)
  rw [show ((k.toNat : Nat) : Int) = k by omega] at this
  rw [show (k + 1).toNat = k.toNat + 1 by omega, List.take_add_one]
  have h2 : l[k.toNat]? = some (rd l k) := by
    have := congrArg List.head? this
    simpa [List.head?_drop] using this
  rw [h2]
  rfl
set_option maxHeartbeats 1000000 in
set_option maxRecDepth 100000 in
theorem c_twice (A0 : Option Addr) (c0 : Nat) (l : List Int) (w : World) (hl : l.length < 1099511627776) (h64 : Ok64 l) (hr : CI w A0 l.length l) :
    Calls Tryz.prog 182 #[.slice A0 l.length c0] w fun e w' => e = .returned (.bool (twiceL l)) ∧ Below w.heap.size w w' := by
  have HR := Aside0.mk hr
  have H64 := Aside0.mk h64
  clear hr h64
  go_enter Tryz.func182, Tryz.ntmps182
  go_wp2_with (first
    | ((with_reducible refine gate_dst (N := 8) rfl ?_); refine mapMake rfl rfl rfl Tryz.underlying175 ?_; intro w1 hM hg hb hsz; have HM := Aside0.mk hM; have HB := Aside0.mk hb; clear hM hb hg))
  go_loopw [11] (fun i wr => ∃ (k : Int), 0 ≤ k ∧ k ≤ l.length ∧ i = .int .i64 k ∧ Aside0 (∃ s, s ≤ k.toNat ∧ MapV wr Tryz.prog 2 w.heap.size s (cntsOf (l.take k.toNat)) ∧ Below w.heap.size w wr)) (fun i _ => l.length - (intOf i).toNat)
  case atStart => exact ⟨0, by omega, by omega, rfl, ⟨0, Nat.zero_le _, HM.out.congr (fun kl _ => by cases kl with | int q x => cases q <;> simp [cntsOf] | _ => rfl), HB.out⟩⟩
  case round =>
    clear HM HB
    obtain ⟨k, hk0, hk, rfl, ⟨s, hs, hM, hB⟩⟩ := hrel
    have HM := Aside0.mk hM
    have HB := Aside0.mk hB
    have HS := Aside0.mk hs
    have hbs := hM.lt
    clear hM hB hs
    by_cases hlt : k < l.length
    · obtain ⟨ad, hA, hc⟩ := Kd.at_int (Kd.C_below HR.out HB.out) k (by omega) (by omega)
      subst hA
      have HT := Aside0.mk (take_snoc' l k hk0 hlt)
      obtain ⟨x, hx⟩ : ∃ x, x = rd l k := ⟨_, rfl⟩
      rw [← hx] at hc HT
      have hxm : in64 x := by
        have := rd_mem l k.toNat (by omega)
        rw [show ((k.toNat : Nat) : Int) = k by omega, ← hx] at this
        exact H64.out x this
      have HK := Aside0.mk (key_i64 (in64_wf hxm))
      clear hx hxm
      have HG := Aside0.mk (cntsOf_get (l.take k.toNat) x)
      have hcn : (l.take k.toNat).count x < 1099511627776 := Nat.lt_of_le_of_lt List.count_le_length (by rw [List.length_take]; omega)
      obtain ⟨c, hcE⟩ : ∃ c : Int, c = ((l.take k.toNat).count x : Int) := ⟨_, rfl⟩
      have hc0 : 0 ≤ c ∧ c < 1099511627776 := by omega
      rw [← hcE] at HG
      have HC := Aside0.mk hcE
      clear hcn hcE
      have HW := Aside0.mk (wrap_id (x := c + 1) (by omega) (by omega))
      go_wp2_with (first
        | ((with_reducible refine gate_dst (N := 17) rfl ?_); refine mapLook rfl rfl law_i64 Tryz.underlying175 (zero_int _) HM.out rfl (.int .i64 x) (.int .i64 x) rfl HK.out trivial ?_; rw [HG.out])
        | (at_mapUpdate; refine mapStore rfl rfl law_i64 Tryz.underlying175 HM.out (by have := HS.out; omega) rfl (.int .i64 x) (.int .i64 (c + 1)) (.int .i64 x) rfl rfl HK.out trivial ?_; intro w2 hM2 hg2; have HM2 := Aside0.mk (hM2.congr (m' := cntsOf (l.take k.toNat ++ [x])) (fun kl _ => by rw [cntsOf_snoc, HC.out])); have HB2 := Aside0.mk (HB.out.grown hg2 HB.out.size (fun k hk => by cases hk; exact Nat.le_refl _)); clear HM HB hM2 hg2))
      go_roundw
      case rel =>
        refine ⟨k + 1, by omega, by omega, rfl, ⟨_, ?_, by rw [HT.out]; exact HM2.out, HB2.out⟩⟩
        have := HS.out
        split <;> omega
      case measure => simp [intOf]; omega
    · obtain rfl : k = l.length := by omega
      rw [show ((l.length : Int)).toNat = l.length by omega, List.take_length] at HM
      have hbs2 : wr.heap.size ≠ w.heap.size := by omega
      go_wp2_with (first
        | ((with_reducible refine gate_dst (N := 21) rfl ?_); refine mapRange rfl rfl law_i64 Tryz.underlying175 HM.out rfl ?_; intro w2 left hleft hR hg2 hs2; have HR2 := Aside0.mk hR; have HL := Aside0.mk hleft; have HB2 := Aside0.mk (HB.out.grown hg2 HB.out.size (by simp)); clear HM HB hR hg2 hleft))
      go_loopw [22] (fun _ w' => Aside0 (∃ left cnt, MapR w' Tryz.prog 2 w.heap.size wr.heap.size (cntsOf l) left cnt ∧ (∀ kl v, left kl = false → cntsOf l kl = some v → v = .int .i64 2) ∧ Below w.heap.size w w')) (fun _ w' => w'.rangeLeft w.heap.size wr.heap.size)
      case atStart =>
        refine ⟨⟨left, s, HR2.out, ?_, HB2.out⟩⟩
        intro kl v h1 h2
        have : left kl = true := by
          rw [HL.out kl (by cases kl <;> first | trivial | (simp [cntsOf] at h2)), h2]; rfl
        rw [this] at h1
        cases h1
      case round =>
        clear HR2 HB2 HL
        obtain ⟨left, cnt, hR, hL, hB⟩ := hrel
        have HR2 := Aside0.mk hR
        have HL := Aside0.mk hL
        have HB2 := Aside0.mk hB
        have hbs3 := hR.lt
        clear hR hL hB
        go_wp2_with (first
          | ((with_reducible refine gate_dst (N := 22) rfl ?_); refine mapNext rfl rfl law_i64 HR2.out rfl ?_ ?_))
        · intro hc0 hl0
          have HL0 := Aside0.mk hl0
          clear hl0
          go_wp2
          go_ret
          refine ⟨?_, HB2.out⟩
          rw [cntsOf_true l (fun kl v h => HL.out kl v (HL0.out kl) h)]
          rfl
        · intro key v kl w' cnt' hkey hkl hlk hmk hR' hlt' hg' hsz' hen
          obtain ⟨c, rfl⟩ : ∃ c, v = .int .i64 c := by
            cases kl with
            | int q y => cases q <;> simp [cntsOf] at hmk; exact ⟨_, hmk.2.symm⟩
            | _ => simp [cntsOf] at hmk
          have HMK := Aside0.mk hmk
          have HR3 := Aside0.mk hR'
          have HB3 := Aside0.mk (HB2.out.grown hg' HB2.out.size (fun k hk => by cases hk; omega))
          have hlq := HR2.out.left_eq
          have HKL := Aside0.mk hkl
          have HLK := Aside0.mk hlk
          clear hkey hkl hlk hmk hR' hg' HB2
          by_cases hc2 : c = 2
          · subst hc2
            go_wp2
            go_roundw
            case rel =>
              refine ⟨⟨_, cnt', HR3.out, ?_, HB3.out⟩⟩
              intro kl' v' h1 h2
              simp only [Bool.and_eq_false_iff, Bool.not_eq_false'] at h1
              rcases h1 with h1 | h1
              · exact HL.out kl' v' h1 h2
              · obtain rfl := WideAt.sameKey_eq h1
                exact (Option.some.inj (h2.symm.trans HMK.out))
            case measure =>
              rw [HR3.out.left_eq, hlq]; exact hlt'
          · have hd := beq_eq_false_iff_ne.mpr hc2
            have hd2 := bne_iff_ne.mpr hc2
            go_wp2
            go_ret
            refine ⟨?_, HB3.out⟩
            rw [cntsOf_false l kl _ HMK.out (by intro h; injection h with _ h; exact hc2 h)]
            rfl
end Go.Proofs.YthfmlelodmcgkaaGreat.K
namespace Go.Proofs.YthfmlelodmcgkaaGreat.K
open Go.RowKit Go.Proofs.YthfmlelodmcgkaaGreatW.PrintWords Go.Proofs.YthfmlelodmcgkaaGreatW.PrintLast Go.Proofs.YthfmlelodmcgkaaGreatW.PrintMore
instance (x : Int) : Decidable (in64 x) := by unfold in64; infer_instance
instance (l : List Int) : Decidable (Ok64 l) := by unfold Ok64; infer_instance
def impl_twice.f (l0 : List Int) : Option Bool := if l0.length < 1099511627776 ∧ Ok64 l0 then some (twiceL l0) else none
theorem impl_twice.calls (A0 : Option Addr) (c0 : Nat) (l0 : List Int) (r : Bool) (w : World) (hr0 : Kd.C (Kd.int .i64) w A0 l0.length l0) (hc0 : l0.length ≤ c0) (h : impl_twice.f l0 = some r) :
    Calls Tryz.prog 182 #[.slice A0 l0.length c0] w fun e w' => e = .returned (.bool r) ∧ Below w.heap.size w w' := by
  unfold impl_twice.f at h
  split at h
  · rename_i hh
    obtain rfl := Option.some.inj h
    exact c_twice A0 c0 l0 w hh.1 hh.2 hr0
  · cases h
def impl_normal.f (l0 : List Int) : Option (List Int) := if l0.length < 1099511627776 ∧ Ok64 l0 then some (normalL l0) else none
theorem impl_normal.calls (A0 : Option Addr) (c0 : Nat) (l0 : List Int) (r : List Int) (w : World) (hr0 : Kd.C (Kd.int .i64) w A0 l0.length l0) (hc0 : l0.length ≤ c0) (h : impl_normal.f l0 = some r) :
    Calls Tryz.prog 163 #[.slice A0 l0.length c0] w fun e w' => ∃ v0_ : Value, e = .returned (v0_) ∧ Kd.R (Kd.int .i64) 2 w' w.heap.size (fun _ => True) v0_ r ∧ Below w.heap.size w w' := by
  unfold impl_normal.f at h
  split at h
  · rename_i hh
    obtain rfl := Option.some.inj h
    exact c_normal A0 c0 l0 w hh.1 hh.2 hr0
  · cases h
theorem metBy_append (l t : List Int) : ∀ met, metBy met (l ++ t) = metBy (metBy met l) t := by
  induction l with
  | nil => intro met; rfl
  | cons x r ih =>
    intro met
    rw [List.cons_append, metBy, metBy]
    split <;> exact ih _
end Go.Proofs.YthfmlelodmcgkaaGreat.K
end
section
namespace Go.Proofs.YthfmlelodmcgkaaGreat.K
open Go.RowKit Go.Proofs.YthfmlelodmcgkaaGreatW.PrintWords Go.Proofs.YthfmlelodmcgkaaGreatW.PrintLast Go.Proofs.YthfmlelodmcgkaaGreatW.PrintMore
def slices_Clone_int64_int64.f (l0 : List Int) : Option (List Int) := if l0.length < 17592186044416 then some l0 else none
set_option maxHeartbeats 1000000 in
set_option maxRecDepth 100000 in
theorem slices_Clone_int64_int64.calls (A0 : Option Addr) (c0 : Nat) (l0 : List Int) (r : List Int) (w : World) (hr0 : Kd.C (Kd.int .i64) w A0 l0.length l0) (hc0 : l0.length ≤ c0) (h : slices_Clone_int64_int64.f l0 = some r) :
    Calls Tryz.prog 142 #[.slice A0 l0.length c0] w fun e w' => ∃ v0_ : Value, e = .returned (v0_) ∧ Kd.R (Kd.int .i64) 2 w' w.heap.size (fun _ => True) v0_ r ∧ Below w.heap.size w w' := by
  unfold slices_Clone_int64_int64.f at h
  split at h
  case isFalse => cases h
  rename_i hl
  obtain rfl := Option.some.inj h
  have HR := Aside0.mk hr0
  clear hr0 h
  have q22 : ∀ (w : World) (a : Option Addr) (n c n' c' : Nat), (binOp .eql 26 (.slice a n c) (.slice none n' c')).run Tryz.prog w = .ok (.bool a.isNone) w := fun w a n c n' c' => Go.Lib.run_eql_slice_nil w _ _ a n c n' c' Tryz.underlying26
  cases A0 with
  | none =>
    have h0 : l0 = [] := by
      rcases Nat.eq_zero_or_pos l0.length with h0 | h0
      · exact List.eq_nil_of_length_eq_zero h0
      · obtain ⟨ad, h, _⟩ := HR.out.2.2 h0
        cases h
    subst h0
    go_enter Tryz.func142, Tryz.ntmps142
    go_wp2
    go_ret
    exact ⟨_, rfl, Kd.R_nil _ _ _ _ _, Below.refl _ _⟩
  | some ad =>
    go_enter Tryz.func142, Tryz.ntmps142
    go_wp2_with (first
      | ((with_reducible refine gate_dst (N := 5) rfl ?_); refine lit0 (w0 := w) w.heap.size (ok := fun _ => True) rfl rfl rfl trivial (Below.refl _ _) (Nat.le_refl _) ?_; intro v2 w2 hv hb2 hgr hnew; have HO := Aside0.mk hv; have HB := Aside0.mk hb2; clear hv hb2 hgr hnew)
      | ((with_reducible refine gate_builtin (b := .append) (xs := #[.tmp 5, .tmp 6]) rfl ?_); at_builtin; refine Kd.R_append_rows (Kd.int .i64) (w0 := w) w.heap.size rfl (.tmp 5) (.tmp 6) 26 2 (.int .i64 0) 8 rfl Tryz.underlying26 info2 rfl (by decide) (by omega) v2 [] l0 _ _ _ (fun _ => True) (fun _ => False) rfl rfl HO.out (Kd.C_below HR.out HB.out) (fun _ _ h => h) (fun _ h => h.elim) (fun _ _ => trivial) HB.out HB.out.size (by simp; omega) ?_; intro v3 w3 ho hb hg hat; have HO3 := Aside0.mk ho; have HB3 := Aside0.mk hb; clear ho hb hg hat HB HO))
    go_ret
    exact ⟨_, rfl, HO3.out, HB3.out⟩
end Go.Proofs.YthfmlelodmcgkaaGreat.K
end
section
namespace Go.Proofs.YthfmlelodmcgkaaGreat.V
open Go
open Go.RowKit Go.Proofs.YthfmlelodmcgkaaGreatW.PrintWords Go.Proofs.YthfmlelodmcgkaaGreatW.PrintLast Go.Proofs.YthfmlelodmcgkaaGreatW.PrintMore
section
variable {P : Program}
abbrev E00 (w : World) (F : Nat → Prop) : Env := ⟨w, F, fun _ => undef, fun _ => False, fun _ _ => False, fun _ _ => undef⟩
abbrev X00 (w : World) (F : Nat → Prop) : Ctx := ⟨w, F, fun _ => False, fun _ => False, fun _ => undef, fun _ _ => undef⟩
theorem good0 {f : FuncId} {sp : List Cv → List Obj' → Tree} (hsp : ∀ cs o os, sp cs (o :: os) = .fail)
    (h : ∀ (w : World) (F : Nat → Prop) (cs : List Cv) (vs : List Value) (K : Rv → List Obj' → Prop), (∀ b, F b → b < w.heap.size) → All2 (CV P (E00 w F)) cs vs → okCs cs → (sp cs []).run K →
      Calls P f vs.toArray w fun e w' => ∃ r u os E, e = .returned u ∧ K r os ∧ E.w = w' ∧ Inv P (X00 w F) (numb 0 os) E ∧ RV P E r u) : Good P f sp := by
  intro E0 cs os0 vs K hF hD h16 hO hdis hnof ha hK
  cases os0 with
  | cons o os => rw [hsp] at hK; exact hK.elim
  | nil =>
    have hD0 : ∀ i, ¬ E0.D i := fun i hi => by have := (hD i).1 hi; simp at this
    have hle : E0.le (E00 E0.w E0.F) := ⟨fun _ h => h, fun _ _ => rfl, fun i hi => absurd hi (hD0 i), fun i hi => absurd hi (hD0 i), fun i hi => absurd hi (hD0 i)⟩
    refine (h E0.w E0.F cs vs K hF (ha.imp (fun _ _ h => CV.mono hle h)) (okCs_of ha) hK).mono ?_
    rintro e w' ⟨r, u, os, E, rfl, h1, rfl, hI, h2⟩
    exact ⟨r, u, os, E, rfl, h1, Nat.zero_le _, rfl, ⟨hI.dom, hI.obj, hI.dis, fun i o hi hl b hb => ⟨(hI.nof i o hi hl b hb).1, (hI.nof i o hi hl b hb).2.imp id False.elim⟩, hI.flt, fun b hb => (hI.fsub b hb).imp id (fun h => h.imp id False.elim), hI.fsup, hI.os, hI.tape, hI.output, hI.size,
      fun b hb _ => hI.frm b hb id, fun i hi => absurd hi (hD0 i), fun i hi => absurd hi (hD0 i)⟩, h2⟩
theorem Inv.start (w : World) (F : Nat → Prop) (hF : ∀ b, F b → b < w.heap.size) : Inv P (X00 w F) [] (E00 w F) :=
  ⟨fun i => by simp [lk], (fun i o h => by cases h), (fun i j o o' _ h => by cases h), (fun i o h => by cases h), hF, fun b hb => .inl hb, fun b hb => hb, rfl, rfl, rfl, Nat.le_refl _, fun _ _ _ => rfl, (fun i h => h.elim), (fun i h => h.elim)⟩
theorem read_of {F : Nat → Prop} {w : World} {l : List Int} {u : Value} (h : RO F w (Rep F w (.int .i64)) 1 l u) : ∃ ad c, u = .slice ad l.length c ∧ l.length ≤ c ∧ K.CI w ad l.length l := by
  obtain ⟨ad, c, h1, h2, h3, h4⟩ := h
  refine ⟨ad, c, h1, h2, rfl, h3, fun hp => ?_⟩
  obtain ⟨b, o, cs, rfl, _⟩ := h4 0 hp
  refine ⟨_, rfl, fun j p hj => ?_⟩
  obtain ⟨hjl, rfl⟩ := List.getElem?_eq_some_iff.1 hj
  obtain ⟨b', o', cs, e, _, h7, h8, h9⟩ := h4 j hjl
  obtain ⟨rfl, rfl⟩ : b = b' ∧ o = o' := by simpa using e
  refine ⟨cs, h8, h7.1, fun i u hu => ?_⟩
  obtain ⟨hi, rfl⟩ := List.getElem?_eq_some_iff.1 hu
  rw [← h9 i hi, Addr.add_lit]
  rfl
theorem row_of {w : World} {base : Nat} {ok : Nat → Prop} {v : Value} {l : List Int} (h : K.RI w base ok v l) (hr : ∀ x ∈ l, okI .i64 x) (F : Nat → Prop) :
    ∃ xs, w.ownsRow 0 2 1 v l.length xs ∧ Reps F w (.int .i64) l xs ∧ l.length ≤ maxLen ∧ (∀ b, blkOf v = some b → base ≤ b ∧ v.ownBlock = some b) ∧ v.oneCell' = true := by
  obtain ⟨h0, xs, ho, h1⟩ := h
  have hk : ∀ b, blkOf v = some b → v.ownBlock = some b := fun b hb => by
    rcases ho.2 with ⟨rfl, _⟩ | ⟨g, cap, cur, rfl, _⟩
    · simp [blkOf] at hb
    · simpa [blkOf, Value.ownBlock] using hb
  refine ⟨xs, own_weaken ho (Nat.zero_le _), ?_, ?_, fun b hb => ⟨own_base ho b (hk b hb), hk b hb⟩, ?_⟩
  · refine Reps.of_get h1.1 (fun j hj => ?_)
    have := h1.2 j _ (List.getElem?_eq_getElem hj)
    exact ⟨this, hr _ (List.getElem_mem hj)⟩
  · rcases ho.2 with ⟨_, h2⟩ | ⟨g, cap, cur, _, _, _, h2, h3, _⟩
    · rw [h2]; exact Nat.zero_le _
    · exact Nat.le_trans h2 h3
  · rcases ho.2 with ⟨rfl, _⟩ | ⟨g, cap, cur, rfl, _⟩ <;> rfl
theorem grow_below {w w' : World} {F : Nat → Prop} (hF : ∀ b, F b → b < w.heap.size) (hb : Below w.heap.size w w') : Inv P (X00 w F) [] (E00 w' F) :=
  ((Inv.start (P := P) w F hF).world (w' := w') (row := none) ⟨hb.os, hb.tape, hb.output, hb.size, fun k hk _ => hb.block k hk⟩ (fun b h => by cases h)).1
theorem lay_row {w w' : World} {F : Nat → Prop} (hF : ∀ b, F b → b < w.heap.size) {os : List (Nat × Obj')} {E : Env} (hI : Inv P (X00 w F) os E) (hw : E.w = w') (hEF : ∀ b, E.F b → F b) (i : Nat) (hi : lk os i = none) {v : Value} {l : List Int} (hR : K.RI w' w.heap.size (fun _ => True) v l) (hr : ∀ x ∈ l, okI .i64 x)
    (hsep : ∀ b, v.ownBlock = some b → ∀ j o, lk os j = some o → o.live = true → ¬ E.φ j b) :
    ∃ E', E'.w = w' ∧ E.le E' ∧ Inv P (X00 w F) ((i, .row 2 (.int .i64) l) :: os) E' ∧ E'.D i ∧ E'.σ i = v ∧ (∀ b, E'.F b → F b) ∧ (∀ b, E'.φ i b → v.ownBlock = some b) ∧ ∀ j, j ≠ i → ∀ b, E'.φ j b → E.φ j b := by
  obtain ⟨xs, h1, h2, h3, h4, h5⟩ := row_of hR hr F
  obtain ⟨E', k1, k2, k3, k4, k5, k6, k7, k8⟩ := hI.lay i hi (fun h => h) v (fun b => blkOf v = some b) (fun _ => undef) (.row 2 (.int .i64) l) (fun b hb => by
    have := (h4 b hb).1
    exact ⟨fun h => by have := hF b (hEF b h); omega, .inl this, hsep b (h4 b hb).2⟩) (fun E' hle hw' => ⟨xs, by rw [hw', hw]; exact h1, h2.imp (fun _ _ h => Rep.flat rfl h), h3, fun _ => Iff.rfl⟩)
  exact ⟨E', k1.trans hw, k2, k3, k4, k5, fun b hb => hEF b ((k6 b).1 hb), fun b hb => (h4 b ((k7 b).1 hb)).2, fun j hj b hb => (k8 j hj b).1 hb⟩
end
end Go.Proofs.YthfmlelodmcgkaaGreat.V
namespace Go.Proofs.YthfmlelodmcgkaaGreat.V
open Go
open Go.RowKit Go.Proofs.YthfmlelodmcgkaaGreatW.PrintWords Go.Proofs.YthfmlelodmcgkaaGreatW.PrintLast Go.Proofs.YthfmlelodmcgkaaGreatW.PrintMore
def sp_twice : List Cv → List Obj' → Tree
  | [.one (.ro (.int .i64) l)], [] => .need (l.length < 1099511627776) (.ret (vb (K.twiceL l)) [])
  | _, _ => .fail
def sp_normal : List Cv → List Obj' → Tree
  | [.one (.ro (.int .i64) l)], [] => .need (l.length < 1099511627776) (.ret (ow 0) [rwi (K.normalL l)])
  | _, _ => .fail
def sp_clone : List Cv → List Obj' → Tree
  | [.one (.ro (.int .i64) l)], [] => .need (l.length < 1099511627776) (.ret (ow 0) [rwi l])
  | _, _ => .fail
theorem one_arg {P : Program} {E : Env} {c : Cv} {vs : List Value} (h : All2 (CV P E) [c] vs) : ∃ u, vs = [u] ∧ CV P E c u := by
  rcases vs with _ | ⟨u, _ | ⟨_, _⟩⟩
  · exact h.elim
  · exact ⟨u, rfl, h.1⟩
  · exact h.2.elim
theorem normFrom_ok (l : List Int) : ∀ met, ∀ x ∈ K.normFrom met l, 0 ≤ x ∧ x ≤ met.length + l.length := by
  induction l with
  | nil => intro met x h; cases h
  | cons y r ih =>
    intro met x h
    rw [K.normFrom] at h
    split at h
    · rename_i j hj
      have := K.idxOf?_lt hj
      rcases List.mem_cons.1 h with rfl | h
      · simp; omega
      · have := ih _ _ h; simp; omega
    · rcases List.mem_cons.1 h with rfl | h
      · simp; omega
      · have := ih _ _ h; simp at this ⊢; omega
theorem two_args {P : Program} {E : Env} {c1 c2 : Cv} {vs : List Value} (h : All2 (CV P E) [c1, c2] vs) : ∃ u1 u2, vs = [u1, u2] ∧ CV P E c1 u1 ∧ CV P E c2 u2 := by
  rcases vs with _ | ⟨u1, _ | ⟨u2, _ | ⟨_, _⟩⟩⟩
  · exact h.elim
  · exact h.2.elim
  · exact ⟨u1, u2, rfl, h.1, h.2.1⟩
  · exact h.2.2.elim
theorem good_twice : Good Tryz.prog 182 sp_twice := by
  refine good0 (fun cs o os => by unfold sp_twice; split <;> first | rfl | (rename_i h; cases h)) (fun w F cs vs Kc hF ha hok hK => ?_)
  unfold sp_twice at hK
  split at hK
  case h_2 => exact hK.elim
  rename_i l _
  obtain ⟨u, rfl, hu⟩ := one_arg ha
  obtain ⟨ad, c, rfl, hc, hr⟩ := read_of hu.1
  obtain ⟨hl, hK⟩ := hK
  simp only [okCs, okA, okK] at hok
  refine (K.c_twice ad c l w hl hok.1.2 hr).mono ?_
  rintro e w' ⟨rfl, hb⟩
  exact ⟨_, _, [], _, rfl, hK, rfl, grow_below hF hb, rv_v (x := .bool _) trivial rfl⟩
def c_twice : Ctr Tryz.prog := ⟨182, ent Tryz.func182 rfl rfl, [], sp_twice, good_twice, []⟩
@[go_sem] theorem c_twice_f : c_twice.f = 182 := rfl
@[go_sem] theorem c_twice_ms : c_twice.ms = [] := rfl
@[go_sem] theorem c_twice_sp : c_twice.spec = sp_twice := rfl
@[go_sem] theorem c_twice_fz : c_twice.fz = [] := rfl
attribute [go_sem] sp_twice
theorem good_normal : Good Tryz.prog 163 sp_normal := by
  refine good0 (fun cs o os => by unfold sp_normal; split <;> first | rfl | (rename_i h; cases h)) (fun w F cs vs Kc hF ha hok hK => ?_)
  unfold sp_normal at hK
  split at hK
  case h_2 => exact hK.elim
  rename_i l _
  obtain ⟨u, rfl, hu⟩ := one_arg ha
  obtain ⟨ad, c, rfl, hc, hr⟩ := read_of hu.1
  obtain ⟨hl, hK⟩ := hK
  simp only [okCs, okA, okK] at hok
  refine (K.c_normal ad c l w hl hok.1.2 hr).mono ?_
  rintro e w' ⟨v, rfl, hR, hb⟩
  obtain ⟨E', h1, h2, h3, h4, h5, _⟩ := lay_row hF (grow_below (P := Tryz.prog) hF hb) rfl (fun b h => h) 0 rfl hR (fun x hx => by have := normFrom_ok l [] x hx; simp at this; simp only [okI]; omega) (fun b _ j o hj => by cases hj)
  obtain ⟨_, _, _, _, _, hv⟩ := row_of hR (fun x hx => by have := normFrom_ok l [] x hx; simp at this; simp only [okI]; omega) F
  exact ⟨_, _, _, E', rfl, hK, h1, h3, ⟨⟨h4, h5.symm⟩, hv⟩⟩
def c_normal : Ctr Tryz.prog := ⟨163, ent Tryz.func163 rfl rfl, [], sp_normal, good_normal, []⟩
@[go_sem] theorem c_normal_f : c_normal.f = 163 := rfl
@[go_sem] theorem c_normal_ms : c_normal.ms = [] := rfl
@[go_sem] theorem c_normal_sp : c_normal.spec = sp_normal := rfl
@[go_sem] theorem c_normal_fz : c_normal.fz = [] := rfl
attribute [go_sem] sp_normal
theorem good_clone : Good Tryz.prog 142 sp_clone := by
  refine good0 (fun cs o os => by unfold sp_clone; split <;> first | rfl | (rename_i h; cases h)) (fun w F cs vs Kc hF ha hok hK => ?_)
  unfold sp_clone at hK
  split at hK
  case h_2 => exact hK.elim
  rename_i l _
  obtain ⟨u, rfl, hu⟩ := one_arg ha
  obtain ⟨ad, c, rfl, hc, hr⟩ := read_of hu.1
  obtain ⟨hl, hK⟩ := hK
  simp only [okCs, okA, okK] at hok
  refine (K.slices_Clone_int64_int64.calls ad c l l w hr hc (by unfold K.slices_Clone_int64_int64.f; rw [if_pos (by omega)])).mono ?_
  rintro e w' ⟨v, rfl, hR, hb⟩
  obtain ⟨E', h1, h2, h3, h4, h5, _⟩ := lay_row hF (grow_below (P := Tryz.prog) hF hb) rfl (fun b h => h) 0 rfl hR hok.1.2 (fun b _ j o hj => by cases hj)
  obtain ⟨_, _, _, _, _, hv⟩ := row_of hR hok.1.2 F
  exact ⟨_, _, _, E', rfl, hK, h1, h3, ⟨⟨h4, h5.symm⟩, hv⟩⟩
def c_clone : Ctr Tryz.prog := ⟨142, ent Tryz.func142 rfl rfl, [], sp_clone, good_clone, []⟩
@[go_sem] theorem c_clone_f : c_clone.f = 142 := rfl
@[go_sem] theorem c_clone_ms : c_clone.ms = [] := rfl
@[go_sem] theorem c_clone_sp : c_clone.spec = sp_clone := rfl
@[go_sem] theorem c_clone_fz : c_clone.fz = [] := rfl
attribute [go_sem] sp_clone
theorem three_args {P : Program} {E : Env} {c1 c2 c3 : Cv} {vs : List Value} (h : All2 (CV P E) [c1, c2, c3] vs) : ∃ u1 u2 u3, vs = [u1, u2, u3] ∧ CV P E c1 u1 ∧ CV P E c2 u2 ∧ CV P E c3 u3 := by
  rcases vs with _ | ⟨u1, _ | ⟨u2, _ | ⟨u3, _ | ⟨_, _⟩⟩⟩⟩
  · exact h.elim
  · exact h.2.elim
  · exact h.2.2.elim
  · exact ⟨u1, u2, u3, rfl, h.1, h.2.1, h.2.2.1⟩
  · exact h.2.2.2.elim
theorem Inv.enter {P : Program} {E0 : Env} {os0 : List Obj'} (hF : ∀ b, E0.F b → b < E0.w.heap.size) (hD : ∀ j, E0.D j ↔ j < os0.length) (h16 : os0.length ≤ 16) (hO : ∀ j (h : j < os0.length), OSat P E0 (E0.σ j) (E0.φ j) (E0.ι j) os0[j] ∧ os0[j].live = true)
    (hdis : ∀ i j, i < os0.length → j < os0.length → i ≠ j → ∀ b, E0.φ i b → ¬ E0.φ j b) (hnof : ∀ j, j < os0.length → ∀ b, E0.φ j b → ¬ E0.F b) : Inv P ⟨E0.w, E0.F, fun b => ∃ j, j < os0.length ∧ E0.φ j b, E0.D, E0.σ, E0.ι⟩ (numb 0 os0) E0 := by
  have hlk : ∀ i o, lk (numb 0 os0) i = some o → ∃ h : i < os0.length, os0[i] = o := fun i o hi => by
    rw [lk_numb] at hi
    simp only [Nat.not_lt_zero, if_false, Nat.sub_zero] at hi
    exact List.getElem?_eq_some_iff.1 hi
  refine ⟨fun i => ?_, fun i o hi => ?_, fun i j o o' hne hi hj _ _ => ?_, fun i o hi _ b hb => ?_, hF, fun b hb => .inl hb, fun b hb => hb, rfl, rfl, rfl, Nat.le_refl _, fun _ _ _ => rfl, fun i hi => ?_, fun i _ _ => ⟨rfl, rfl⟩⟩
  · rw [lk_numb, hD]; simp
  · obtain ⟨h1, rfl⟩ := hlk i o hi
    exact (hO i h1).1
  · obtain ⟨h1, _⟩ := hlk i o hi
    obtain ⟨h2, _⟩ := hlk j o' hj
    exact hdis i j h1 h2 hne
  · obtain ⟨h1, _⟩ := hlk i o hi
    exact ⟨hnof i h1 b hb, .inr ⟨i, h1, hb⟩⟩
  · have := (hD i).1 hi; omega
theorem row_to {F : Nat → Prop} {w : World} {v : Value} {l : List Int} {xs : List Value} (h : w.ownsRow 0 2 1 v l.length xs) (hr : Reps F w (.int .i64) l xs) : K.RI w 0 (fun _ => True) v l := by
  refine ⟨fun _ _ => trivial, xs, h, by have := hr.length; show xs.length = l.length * 1; simpa [Kn.cells] using this, fun j p hj => ?_⟩
  obtain ⟨hjl, rfl⟩ := List.getElem?_eq_some_iff.1 hj
  obtain ⟨c, h1, h2, h3⟩ := hr.get j hjl
  have hc : c = [.int .i64 l[j]] := h1.1
  have h4 := h3 0 (by simp [Kn.cells])
  simp only [Kn.cells, Nat.mul_one, Nat.add_zero, hc, List.getElem?_cons_zero] at h4
  obtain ⟨h5, h6⟩ := List.getElem?_eq_some_iff.1 h4
  show ((xs.drop (j * 1)).take 1) = [_]
  rw [Nat.mul_one, List.drop_eq_getElem_cons h5, List.take_succ_cons, h6]
  rfl
end Go.Proofs.YthfmlelodmcgkaaGreat.V
namespace Go.Proofs.YthfmlelodmcgkaaGreat.V
open Go Go.RowKit Go.Proofs.YthfmlelodmcgkaaGreatW.PrintWords Go.Proofs.YthfmlelodmcgkaaGreatW.PrintLast Go.Proofs.YthfmlelodmcgkaaGreatW.PrintMore
theorem min64 : IntKind.i64.min = -9223372036854775808 := by decide +kernel
theorem max64 : IntKind.i64.max = 9223372036854775807 := by decide +kernel
abbrev EW (w : World) : Env := E00 w (fun b => b < w.heap.size)
theorem cv_i {P : Program} {w : World} {n : Int} (h : (Lit.int .i64 n).wf = true) : CV P (EW w) (.one (.v (.int .i64 n))) (.int .i64 n) := by
  refine ⟨⟨rfl, ?_⟩, rfl⟩
  simp only [Lit.wf, min64, max64, Bool.and_eq_true, decide_eq_true_eq] at h
  exact h
theorem law_of {P : Program} {f : FuncId} {sp : List Cv → List Obj' → Tree} (hg : Good P f sp) (w : World) (cs : List Cv) (vs : List Value) (ha : All2 (CV P (EW w)) cs vs) (hsp : sp cs [] = .ret (vb true) []) :
    Calls P f vs.toArray w fun e w' => e = .returned (.bool true) ∧ Below w.heap.size w w' := by
  refine (hg (EW w) cs [] vs (fun r os => r = vb true) (fun _ h => h) (fun j => by simp) (by simp) (fun j h => absurd h (by simp)) (fun i j h => absurd h (by simp)) (fun j h => absurd h (by simp)) ha (by rw [hsp]; rfl)).mono ?_
  rintro e w' ⟨r, u, os, E, rfl, rfl, _, rfl, hI, hr⟩
  obtain ⟨⟨rfl, _⟩, _⟩ := hr
  exact ⟨rfl, ⟨hI.os, hI.tape, hI.output, hI.size, fun k hk => hI.frm k hk (fun ⟨j, hj, _⟩ => absurd hj (by simp))⟩⟩
end Go.Proofs.YthfmlelodmcgkaaGreat.V
end
section
namespace Go.Proofs.YthfmlelodmcgkaaGreat.V
open Go
section
variable {α : Type}
def DRp (R : (Nat → Prop) → α → List Value → Prop) : (Nat → Prop) → List (α × List Value) → Prop
  | φ, [] => ∀ b, ¬ φ b
  | φ, p :: r => ∃ φ1 φ2, R φ1 p.1 p.2 ∧ DRp R φ2 r ∧ (∀ b, φ b ↔ φ1 b ∨ φ2 b) ∧ ∀ b, φ1 b → ¬ φ2 b
theorem DR.pairs {R : (Nat → Prop) → α → List Value → Prop} : ∀ {φ : Nat → Prop} {l : List α} {cs : List Value}, DR R φ l cs → ∃ ps : List (α × List Value), l = ps.map (·.1) ∧ cs = ps.flatMap (·.2) ∧ DRp R φ ps
  | φ, [], cs, h => ⟨[], rfl, h.1, h.2⟩
  | φ, x :: l, cs, ⟨c1, c2, φ1, φ2, h1, h2, h3, h4, h5⟩ => by
    obtain ⟨ps, e1, e2, e3⟩ := DR.pairs h3
    exact ⟨(x, c1) :: ps, by rw [e1]; rfl, by rw [h1, e2]; rfl, φ1, φ2, h2, e3, h4, h5⟩
theorem DRp.dr {R : (Nat → Prop) → α → List Value → Prop} : ∀ {φ : Nat → Prop} {ps : List (α × List Value)}, DRp R φ ps → DR R φ (ps.map (·.1)) (ps.flatMap (·.2))
  | φ, [], h => ⟨rfl, h⟩
  | φ, p :: r, ⟨φ1, φ2, h2, h3, h4, h5⟩ => ⟨p.2, _, φ1, φ2, by rw [List.flatMap_cons], h2, DRp.dr h3, h4, h5⟩
theorem DRp.perm {R : (Nat → Prop) → α → List Value → Prop} {ps qs : List (α × List Value)} (h : ps.Perm qs) : ∀ {φ : Nat → Prop}, DRp R φ ps → DRp R φ qs := by
  induction h with
  | nil => exact fun h => h
  | cons x _ ih => exact fun ⟨φ1, φ2, h2, h3, h4, h5⟩ => ⟨φ1, φ2, h2, ih h3, h4, h5⟩
  | swap x y l =>
    rintro φ ⟨φ1, φ2, h2, ⟨φ3, φ4, k2, k3, k4, k5⟩, h4, h5⟩
    refine ⟨φ3, fun b => φ1 b ∨ φ4 b, k2, ⟨φ1, φ4, h2, k3, fun _ => Iff.rfl, fun b hb h => h5 b hb ((k4 b).2 (.inr h))⟩, fun b => ?_, fun b hb h => h.elim (fun h => h5 b h ((k4 b).2 (.inl hb))) (k5 b hb)⟩
    rw [h4 b, k4 b]
    exact ⟨fun h => h.elim (fun h => .inr (.inl h)) (fun h => h.elim .inl (fun h => .inr (.inr h))), fun h => h.elim (fun h => .inr (.inl h)) (fun h => h.elim .inl (fun h => .inr (.inr h)))⟩
  | trans _ _ ih1 ih2 => exact fun h => ih2 (ih1 h)
theorem DRp.mem {R : (Nat → Prop) → α → List Value → Prop} {p : α × List Value} : ∀ {φ : Nat → Prop} {ps : List (α × List Value)}, DRp R φ ps → p ∈ ps → ∃ ψ : Nat → Prop, R ψ p.1 p.2 ∧ ∀ b, ψ b → φ b
  | φ, q :: r, ⟨φ1, φ2, h2, h3, h4, h5⟩, hp => by
    rcases List.mem_cons.1 hp with rfl | hp
    · exact ⟨φ1, h2, fun b hb => (h4 b).2 (.inl hb)⟩
    · obtain ⟨ψ, k1, k2⟩ := DRp.mem h3 hp
      exact ⟨ψ, k1, fun b hb => (h4 b).2 (.inr (k2 b hb))⟩
theorem DRp.filter {R : (Nat → Prop) → α → List Value → Prop} (q : α × List Value → Bool) : ∀ {φ : Nat → Prop} {ps : List (α × List Value)}, DRp R φ ps → ∃ ψ : Nat → Prop, DRp R ψ (ps.filter q) ∧ ∀ b, ψ b → φ b
  | φ, [], h => ⟨φ, h, fun _ h => h⟩
  | φ, p :: r, ⟨φ1, φ2, h2, h3, h4, h5⟩ => by
    obtain ⟨ψ, k1, k2⟩ := DRp.filter q h3
    rw [List.filter_cons]
    split
    · exact ⟨fun b => φ1 b ∨ ψ b, ⟨φ1, ψ, h2, k1, fun _ => Iff.rfl, fun b hb h => h5 b hb (k2 b h)⟩, fun b hb => (h4 b).2 (hb.imp id (k2 b))⟩
    · exact ⟨ψ, k1, fun b hb => (h4 b).2 (.inr (k2 b hb))⟩
end
end Go.Proofs.YthfmlelodmcgkaaGreat.V
end
section
namespace Go.Proofs.YthfmlelodmcgkaaGreat.V
open Go
set_option maxHeartbeats 4000000 in
set_option maxRecDepth 100000 in
theorem good_own : Good Tryz.prog 128 sp_clone := by
  refine good_ofF Tryz.func128 rfl _ rfl _ rfl (tab []) (fun X cs os0 K hok hos hK => ?_)
  clear hos; unfold sp_clone at hK
  split at hK
  case h_2 => exact hK.elim
  rename_i l
  refine ⟨by simp, by simp, ?_⟩
  simp only [go_sem] at hK hok
  simp (maxSteps := 4000000) only [go_sem, Tryz.f128, ↓brB_t, ↓brB_f, Nat.reduceAdd, Int.reduceLE, Int.reduceLT, Int.reduceNeg, decide_true, decide_false, Bool.and_self, Nat.succ_eq_add_one, Int.toNat_natCast, Nat.beq_refl, Bool.and_true, Bool.true_and, Bool.false_or, Bool.or_true, List.all_cons, List.all_nil, Nat.reduceMul, Nat.add_zero, Nat.zero_add, List.length_nil, List.length_cons, dite_true, List.nil_append, Nat.reduceBEq, reduceDIte, reduceIte, reduceCtorEq, Bool.or_false, Bool.true_or, Bool.and_false, Bool.false_and, Bool.not_true, Bool.not_false, Option.isSome_some, Option.isSome_none, Option.getD_some, List.getElem?_cons_zero, List.getElem?_cons_succ, eq_self, and_self, List.take_succ_cons, List.take_zero, List.drop_succ_cons, List.drop_zero]
  obtain ⟨hl, hK⟩ := hK
  refine ⟨by omega, retN [96] rfl ?_⟩
  exact hK
def c_own : Ctr Tryz.prog := ⟨128, ent Tryz.func128 rfl rfl, [], sp_clone, good_own, []⟩
@[go_sem] theorem c_own_f : c_own.f = 128 := rfl
@[go_sem] theorem c_own_ms : c_own.ms = [] := rfl
@[go_sem] theorem c_own_sp : c_own.spec = sp_clone := rfl
@[go_sem] theorem c_own_fz : c_own.fz = [] := rfl
attribute [go_sem] sp_clone
attribute [go_sem] sp_twice
def sp_l01Normal : List Cv → List Obj' → Tree
  | [.one (.ro (.int .i64) l)], [] => .need (l.length < 1099511627776) (.ret (ow 0) [rwi (Go.Proofs.YthfmlelodmcgkaaGreat.K.normalL l)])
  | _, _ => .fail
def atOf (met : List Int) (x : Int) (k : Nat) : Int := match (met.take k).idxOf? x with | some j => j | none => -1
theorem atOf_0 (met : List Int) (x : Int) : atOf met x 0 = -1 := by simp [atOf, List.idxOf?]
theorem idxOf?_take_s {met : List Int} (hn : met.Nodup) {x : Int} {k : Nat} (h : k < met.length) : (met.take (k + 1)).idxOf? x = if met.getD k 0 = x then some k else (met.take k).idxOf? x := by
  rw [List.take_succ_eq_append_getElem h]
  simp only [List.getD_eq_getElem?_getD, List.getElem?_eq_getElem h, Option.getD_some]
  by_cases e : met[k] = x
  · rw [if_pos e]
    have : x ∉ met.take k := fun hm => by
      obtain ⟨j, hj, e2⟩ := List.getElem_of_mem hm
      have hj' := hj
      rw [List.length_take] at hj'
      rw [List.getElem_take] at e2
      exact List.pairwise_iff_getElem.1 hn j k (by omega) h (by omega) (e2.trans e.symm)
    have h0 : (met.take k).idxOf? x = none := by simpa [List.idxOf?_eq_none_iff] using this
    subst e
    rw [Go.Proofs.YthfmlelodmcgkaaGreat.K.idxOf?_snoc _ _ _ h0, if_pos rfl]
    simp; omega
  · rw [if_neg e]
    simp only [List.idxOf?, List.findIdx?_append]
    cases List.findIdx? (fun z => z == x) (met.take k) with
    | some j => simp
    | none => simp [List.findIdx?_singleton, e]
theorem normFrom_append (l m : List Int) : ∀ met, Go.Proofs.YthfmlelodmcgkaaGreat.K.normFrom met (l ++ m) = Go.Proofs.YthfmlelodmcgkaaGreat.K.normFrom met l ++ Go.Proofs.YthfmlelodmcgkaaGreat.K.normFrom (Go.Proofs.YthfmlelodmcgkaaGreat.K.metBy met l) m := by
  induction l with
  | nil => intro met; rfl
  | cons x r ih =>
    intro met
    rw [List.cons_append, Go.Proofs.YthfmlelodmcgkaaGreat.K.normFrom, Go.Proofs.YthfmlelodmcgkaaGreat.K.normFrom, Go.Proofs.YthfmlelodmcgkaaGreat.K.metBy]
    split <;> simp [ih]
theorem metBy_nodup (l : List Int) : ∀ met : List Int, met.Nodup → (Go.Proofs.YthfmlelodmcgkaaGreat.K.metBy met l).Nodup := by
  induction l with
  | nil => intro met h; exact h
  | cons x r ih =>
    intro met h
    rw [Go.Proofs.YthfmlelodmcgkaaGreat.K.metBy]
    split
    · exact ih _ h
    · rename_i hx
      refine ih _ (List.nodup_append.2 ⟨h, by simp, ?_⟩)
      intro a ha b hb
      simp at hb
      subst hb
      have : b ∉ met := by simpa [List.idxOf?_eq_none_iff] using hx
      exact fun e => this (e ▸ ha)
theorem metBy_length (l : List Int) : ∀ met : List Int, (Go.Proofs.YthfmlelodmcgkaaGreat.K.metBy met l).length ≤ met.length + l.length := by
  induction l with
  | nil => intro met; simp [Go.Proofs.YthfmlelodmcgkaaGreat.K.metBy]
  | cons x r ih =>
    intro met
    rw [Go.Proofs.YthfmlelodmcgkaaGreat.K.metBy]
    split
    · have := ih met; simp; omega
    · have := ih (met ++ [x]); simp at this ⊢; omega
abbrev metI (l : List Int) (i : Nat) : List Int := Go.Proofs.YthfmlelodmcgkaaGreat.K.metBy [] (l.take i)
abbrev norI (l : List Int) (i : Nat) : List Int := Go.Proofs.YthfmlelodmcgkaaGreat.K.normFrom [] (l.take i)
theorem metI_nodup (l : List Int) (i : Nat) : (metI l i).Nodup := metBy_nodup _ _ List.nodup_nil
theorem metI_len (l : List Int) (i : Nat) : (metI l i).length ≤ i := Nat.le_trans (metBy_length _ _) (by simp; omega)
theorem metI_s {l : List Int} {i : Nat} (h : i < l.length) : metI l (i + 1) = match (metI l i).idxOf? (l.getD i 0) with | some _ => metI l i | none => metI l i ++ [l.getD i 0] := by
  have e : l.getD i 0 = l[i] := by simp [List.getD_eq_getElem?_getD, h]
  rw [metI, List.take_succ_eq_append_getElem h, Go.Proofs.YthfmlelodmcgkaaGreat.K.metBy_append, Go.Proofs.YthfmlelodmcgkaaGreat.K.metBy, e]
  rfl
theorem norI_s {l : List Int} {i : Nat} (h : i < l.length) : norI l (i + 1) = norI l i ++ [match (metI l i).idxOf? (l.getD i 0) with | some j => (j : Int) | none => (metI l i).length] := by
  have e : l.getD i 0 = l[i] := by simp [List.getD_eq_getElem?_getD, h]
  rw [norI, List.take_succ_eq_append_getElem h, normFrom_append, e]
  simp only [Go.Proofs.YthfmlelodmcgkaaGreat.K.normFrom]
  split <;> rename_i hx <;> simp only [metI, norI, hx]
set_option maxHeartbeats 4000000 in
set_option maxRecDepth 100000 in
theorem good_l01Normal : Good Tryz.prog 160 sp_l01Normal := by
  refine good_ofF Tryz.func160 rfl _ rfl _ rfl (tab []) (fun X cs os0 K hok hos hK => ?_)
  clear hos; unfold sp_l01Normal at hK
  split at hK
  case h_2 => exact hK.elim
  rename_i l
  refine ⟨by simp, by simp, ?_⟩
  simp only [go_sem] at hK hok
  simp (maxSteps := 4000000) only [go_sem, Tryz.f160, ↓brB_t, ↓brB_f, Nat.reduceAdd, Int.reduceLE, Int.reduceLT, Int.reduceNeg, decide_true, decide_false, Bool.and_self, Nat.succ_eq_add_one, Int.toNat_natCast, Nat.beq_refl, Bool.and_true, Bool.true_and, Bool.false_or, Bool.or_true, List.all_cons, List.all_nil, Nat.reduceMul, Nat.add_zero, Nat.zero_add, List.length_nil, List.length_cons, dite_true, List.nil_append, Nat.reduceBEq, reduceDIte, reduceIte, reduceCtorEq, Bool.or_false, Bool.true_or, Bool.and_false, Bool.false_and, Bool.not_true, Bool.not_false, Option.isSome_some, Option.isSome_none, Option.getD_some, List.getElem?_cons_zero, List.getElem?_cons_succ, eq_self, and_self, List.take_succ_cons, List.take_zero, List.drop_succ_cons, List.drop_zero]
  obtain ⟨hl, hK⟩ := hK
  refine loop_okF (T := tab []) [0, 3, 4, 5] [(16, 144), (17, 160)] (fun i : Nat => ⟨48, [(0, ri l), (3, ow 16), (4, ow 17), (5, vi i)], [(16, rwi (metI l i)), (17, rwi (norI l i))]⟩)
    (fun i => i ≤ l.length) (fun i => l.length - i) 0 rfl rfl (Nat.zero_le _) (fun i hi => ?_)
  have hm := metI_len l i
  have hnl : (norI l i).length = i := by rw [norI, Go.Proofs.YthfmlelodmcgkaaGreat.K.normFrom_length, List.length_take]; omega
  simp only [go_sem, ↓brB_t, ↓brB_f, Nat.reduceAdd, Int.reduceLE, Int.reduceLT, Int.reduceNeg, decide_true, decide_false, Bool.and_self, Nat.succ_eq_add_one, Int.toNat_natCast, Nat.beq_refl, Bool.and_true, Bool.true_and, Bool.false_or, Bool.or_true, List.all_cons, List.all_nil, Nat.reduceMul, Nat.add_zero, Nat.zero_add, List.length_nil, List.length_cons, dite_true, List.nil_append, Nat.reduceBEq, reduceDIte, reduceIte, reduceCtorEq, Bool.or_false, Bool.true_or, Bool.and_false, Bool.false_and, Bool.not_true, Bool.not_false, Option.isSome_some, Option.isSome_none, Option.getD_some, List.getElem?_cons_zero, List.getElem?_cons_succ, eq_self, and_self, List.take_succ_cons, List.take_zero, List.drop_succ_cons, List.drop_zero]
  refine brB_intro (fun h1 => ?_) (fun h1 => retN [17] rfl ?_)
  · simp at h1
    refine loop_okF (T := tab []) [0, 3, 4, 5, 6, 7] [(16, 16), (17, 17)] (fun k : Nat => ⟨48, [(0, ri l), (3, ow 16), (4, ow 17), (5, vi i), (6, vi (atOf (metI l i) (l.getD i 0) k)), (7, vi k)], [(16, rwi (metI l i)), (17, rwi (norI l i))]⟩)
      (fun k => k ≤ (metI l i).length) (fun k => (metI l i).length - k) 0 rfl (by rw [atOf_0]; rfl) (Nat.zero_le _) (fun k hk => ?_)
    simp only [go_sem, ↓brB_t, ↓brB_f, Nat.reduceAdd, Int.reduceLE, Int.reduceLT, Int.reduceNeg, decide_true, decide_false, Bool.and_self, Nat.succ_eq_add_one, Int.toNat_natCast, Nat.beq_refl, Bool.and_true, Bool.true_and, Bool.false_or, Bool.or_true, List.all_cons, List.all_nil, Nat.reduceMul, Nat.add_zero, Nat.zero_add, List.length_nil, List.length_cons, dite_true, List.nil_append, Nat.reduceBEq, reduceDIte, reduceIte, reduceCtorEq, Bool.or_false, Bool.true_or, Bool.and_false, Bool.false_and, Bool.not_true, Bool.not_false, Option.isSome_some, Option.isSome_none, Option.getD_some, List.getElem?_cons_zero, List.getElem?_cons_succ, eq_self, and_self, List.take_succ_cons, List.take_zero, List.drop_succ_cons, List.drop_zero]
    refine brB_intro (fun h2 => ⟨by simp at h2; omega, by omega, by kernel_rfl, brB_intro (fun h3 => ?_) (fun h3 => ?_)⟩) (fun h2 => ?_)
    · simp only [decide_eq_true_eq] at h2 h3
      refine ⟨k + 1, [(16, 16), (17, 17)], by omega, by omega, rfl, ?_⟩
      have e : atOf (metI l i) (l.getD i 0) (k + 1) = k := by rw [atOf, idxOf?_take_s (metI_nodup l i) (by omega), if_pos h3]
      rw [w64_s (n := l.length) (by omega) (by omega), e]; rfl
    · simp only [decide_eq_true_eq, decide_eq_false_iff_not] at h2 h3
      refine ⟨k + 1, [(16, 16), (17, 17)], by omega, by omega, rfl, ?_⟩
      have e : atOf (metI l i) (l.getD i 0) (k + 1) = atOf (metI l i) (l.getD i 0) k := by rw [atOf, idxOf?_take_s (metI_nodup l i) (by omega), if_neg h3]; rfl
      rw [w64_s (n := l.length) (by omega) (by omega), e]; rfl
    · have e : k = (metI l i).length := by simp at h2; omega
      subst e
      have ea : atOf (metI l i) (l.getD i 0) (metI l i).length = match (metI l i).idxOf? (l.getD i 0) with | some j => (j : Int) | none => -1 := by rw [atOf, List.take_length]
      rw [ea]
      have es := metI_s h1
      have en := norI_s h1
      cases hx : (metI l i).idxOf? (l.getD i 0) with
      | some j =>
        simp only [hx] at es en ⊢
        refine brB_intro (fun h3 => by simp at h3; omega) (fun h3 => ⟨by omega, i + 1, [(16, 16), (17, 752)], by omega, by omega, rfl, ?_⟩)
        rw [w64_s h1 (by omega), es, en]; rfl
      | none =>
        simp only [hx] at es en ⊢
        refine brB_intro (fun h3 => ⟨⟨by omega, by omega⟩, by omega, by omega, i + 1, [(16, 688), (17, 752)], by omega, by omega, rfl, ?_⟩) (fun h3 => by simp at h3)
        rw [w64_s h1 (by omega), es, en]; rfl
  · have e : i = l.length := by simp at h1; omega
    subst e
    have e : norI l l.length = Go.Proofs.YthfmlelodmcgkaaGreat.K.normalL l := by rw [norI, List.take_length]; rfl
    rw [e]; exact hK
def c_l01Normal : Ctr Tryz.prog := ⟨160, ent Tryz.func160 rfl rfl, [], sp_l01Normal, good_l01Normal, []⟩
@[go_sem] theorem c_l01Normal_f : c_l01Normal.f = 160 := rfl
@[go_sem] theorem c_l01Normal_ms : c_l01Normal.ms = [] := rfl
@[go_sem] theorem c_l01Normal_sp : c_l01Normal.spec = sp_l01Normal := rfl
@[go_sem] theorem c_l01Normal_fz : c_l01Normal.fz = [] := rfl
attribute [go_sem] sp_l01Normal
end Go.Proofs.YthfmlelodmcgkaaGreat.V
namespace Go.Proofs.YthfmlelodmcgkaaGreat.V
open Go
def isW (l : List Int) : Bool := decide (l.length ≤ 12) && (Go.Proofs.YthfmlelodmcgkaaGreat.K.twiceL l && decide (Go.Proofs.YthfmlelodmcgkaaGreat.K.normalL l = l))
end Go.Proofs.YthfmlelodmcgkaaGreat.V
namespace Go.Proofs.YthfmlelodmcgkaaGreat.V
open Go
abbrev Tst := HT [Kn.int .i64] → Option Kn.bool.T
def tst (f : Tst) (x : Int) : Bool := (f (x, ())).getD false
def idxP (p : Int → Bool) (l : List Int) : Int := match l.findIdx? p with | some j => (j : Int) | none => -1
def sp_indexF : List Cv → List Obj' → Tree
  | [.one (.ro (.int .i64) l), .one (.pf [.int .i64] .bool f)], [] => .need (∀ x ∈ (l : List Int), (f (x, ())).isSome = true) (.ret (vi (idxP (tst f) l)) [])
  | _, _ => .fail
theorem getD_mem {l : List Int} {i : Nat} (h : i < l.length) : l.getD i 0 ∈ l := by rw [List.getD_eq_getElem?_getD, List.getElem?_eq_getElem h]; exact List.getElem_mem _
theorem getD_eq {l : List Int} {i : Nat} (h : i < l.length) : l.getD i 0 = l[i] := by rw [List.getD_eq_getElem?_getD, List.getElem?_eq_getElem h]; rfl
set_option maxHeartbeats 4000000 in
set_option maxRecDepth 100000 in
theorem good_indexF : Good Tryz.prog 115 sp_indexF := by
  refine good_ofF Tryz.func115 rfl _ rfl _ rfl (tab []) (fun X cs os0 K hok hos hK => ?_)
  clear hos; unfold sp_indexF at hK
  split at hK
  case h_2 => exact hK.elim
  rename_i l f
  refine ⟨by simp, by simp, ?_⟩
  simp only [go_sem] at hK hok
  simp (maxSteps := 4000000) only [go_sem, Tryz.f115, ↓brB_t, ↓brB_f, Nat.reduceAdd, Int.reduceLE, Int.reduceLT, Int.reduceNeg, decide_true, decide_false, Bool.and_self, Nat.succ_eq_add_one, Int.toNat_natCast, Nat.beq_refl, Bool.and_true, Bool.true_and, Bool.false_or, Bool.or_true, List.all_cons, List.all_nil, Nat.reduceMul, Nat.add_zero, Nat.zero_add, List.length_nil, List.length_cons, dite_true, List.nil_append, Nat.reduceBEq, reduceDIte, reduceIte, reduceCtorEq, Bool.or_false, Bool.true_or, Bool.and_false, Bool.false_and, Bool.not_true, Bool.not_false, Option.isSome_some, Option.isSome_none, Option.getD_some, List.getElem?_cons_zero, List.getElem?_cons_succ, eq_self, and_self, List.take_succ_cons, List.take_zero, List.drop_succ_cons, List.drop_zero]
  obtain ⟨hf, hK⟩ := hK
  have hl := len_i hok.1.1
  refine loop_okF (T := tab []) [0, 1, 7, 8] [] (fun i : Nat => ⟨19, [(0, ri l), (1, .val (.one (.pf [.int .i64] .bool f))), (7, vi l.length), (8, vi i)], []⟩)
    (fun i => i ≤ l.length ∧ (l.take i).all (fun x => !tst f x) = true) (fun i => l.length - i) 0 rfl rfl ⟨Nat.zero_le _, rfl⟩ (fun i hi => ?_)
  obtain ⟨hi, ht⟩ := hi
  simp only [go_sem, ↓brB_t, ↓brB_f, Nat.reduceAdd, Int.reduceLE, Int.reduceLT, Int.reduceNeg, decide_true, decide_false, Bool.and_self, Nat.succ_eq_add_one, Int.toNat_natCast, Nat.beq_refl, Bool.and_true, Bool.true_and, Bool.false_or, Bool.or_true, List.all_cons, List.all_nil, Nat.reduceMul, Nat.add_zero, Nat.zero_add, List.length_nil, List.length_cons, dite_true, List.nil_append, Nat.reduceBEq, reduceDIte, reduceIte, reduceCtorEq, Bool.or_false, Bool.true_or, Bool.and_false, Bool.false_and, Bool.not_true, Bool.not_false, Option.isSome_some, Option.isSome_none, Option.getD_some, List.getElem?_cons_zero, List.getElem?_cons_succ, eq_self, and_self, List.take_succ_cons, List.take_zero, List.drop_succ_cons, List.drop_zero]
  refine brB_intro (fun h1 => ?_) (fun h1 => ret0 ?_)
  · simp at h1
    refine ⟨⟨by omega, by omega⟩, hf _ (getD_mem h1), brB_intro (fun h2 => ret0 ?_) (fun h2 => ⟨i + 1, [], ⟨by omega, ?_⟩, by omega, rfl, ?_⟩)⟩
    · have e : idxP (tst f) l = i := by
        have : List.findIdx? (tst f) l = some i := by
          rw [List.findIdx?_eq_some_iff_getElem]
          refine ⟨h1, by rw [← getD_eq h1]; exact h2, fun j hj => ?_⟩
          have := List.all_eq_true.1 ht l[j] (by rw [List.mem_take_iff_getElem]; exact ⟨j, by omega, rfl⟩)
          simpa using this
        rw [idxP, this]
      rw [e] at hK; exact hK
    · rw [List.take_succ_eq_append_getElem h1, List.all_append, ht, ← getD_eq h1]
      simp only [List.all_cons, List.all_nil, Bool.and_true, Bool.true_and, Bool.not_eq_true']
      exact h2
    · rw [w64_s h1 hl]; rfl
  · have e : idxP (tst f) l = -1 := by
      have : List.findIdx? (tst f) l = none := by
        rw [List.findIdx?_eq_none_iff]
        intro x hx
        simp at h1
        rw [List.take_of_length_le h1] at ht
        simpa using List.all_eq_true.1 ht x hx
      rw [idxP, this]
    rw [e] at hK; exact hK
def c_indexF : Ctr Tryz.prog := ⟨115, ent Tryz.func115 rfl rfl, [], sp_indexF, good_indexF, []⟩
@[go_sem] theorem c_indexF_f : c_indexF.f = 115 := rfl
@[go_sem] theorem c_indexF_ms : c_indexF.ms = [] := rfl
@[go_sem] theorem c_indexF_sp : c_indexF.spec = sp_indexF := rfl
@[go_sem] theorem c_indexF_fz : c_indexF.fz = [] := rfl
attribute [go_sem] sp_indexF
theorem nb {b : Bool} (h : (!b) = true) : b = false := by simpa using h
theorem nb' {b : Bool} (h : (!b) = false) : b = true := by simpa using h
end Go.Proofs.YthfmlelodmcgkaaGreat.V
end
section
namespace Go.Proofs.YthfmlelodmcgkaaGreat.V
open Go
abbrev kR : Kn := .sl 2 (.int .i64)
abbrev RowL := List (List Int)
end Go.Proofs.YthfmlelodmcgkaaGreat.V
end
section
namespace Go.Proofs.YthfmlelodmcgkaaGreatW.PrintWords
theorem Reps.one {α : Type} {R : α → List Value → Prop} {ps : List α} {cs : List Value} {p : α} {v : Value} (hp : R p [v]) (h : Reps R 1 ps cs) : Reps R 1 (p :: ps) (v :: cs) := by
  refine ⟨by simp [h.1], fun j q hq => ?_⟩
  cases j with
  | zero =>
    simp only [List.getElem?_cons_zero, Option.some.injEq] at hq
    subst hq
    simpa using hp
  | succ j =>
    simp only [List.getElem?_cons_succ] at hq
    have h1 := h.2 j q hq
    simpa [Nat.mul_one] using h1
theorem Reps.front {α : Type} {R : α → List Value → Prop} {size : Nat} {ps : List α} {cs c all : List Value} {p : α} (hp : R p c) (hc : c.length = size) (h : Reps R size ps cs) (ha : c ++ cs = all) : Reps R size (p :: ps) all := by
  subst ha
  refine ⟨by rw [List.length_append, hc, h.1, List.length_cons, Nat.succ_mul, Nat.add_comm], fun j q hq => ?_⟩
  cases j with
  | zero =>
    simp only [List.getElem?_cons_zero, Option.some.injEq] at hq
    subst hq
    rw [Nat.zero_mul, List.drop_zero, List.take_append_of_le_length (by omega), List.take_of_length_le (by omega)]
    exact hp
  | succ j =>
    simp only [List.getElem?_cons_succ] at hq
    have h1 := h.2 j q hq
    rw [Nat.succ_mul, List.drop_append, List.drop_of_length_le (by rw [hc]; exact Nat.le_add_left _ _), List.nil_append, hc, Nat.add_sub_cancel]
    exact h1
theorem Reps.c2 {α : Type} {R : α → List Value → Prop} {ps : List α} {cs : List Value} {p : α} {va vb : Value} (hp : R p [va, vb]) (h : Reps R 2 ps cs) : Reps R 2 (p :: ps) (va :: vb :: cs) := Reps.front hp rfl h rfl
theorem Reps.c3 {α : Type} {R : α → List Value → Prop} {ps : List α} {cs : List Value} {p : α} {va vb vc : Value} (hp : R p [va, vb, vc]) (h : Reps R 3 ps cs) : Reps R 3 (p :: ps) (va :: vb :: vc :: cs) := Reps.front hp rfl h rfl
theorem Reps.c4 {α : Type} {R : α → List Value → Prop} {ps : List α} {cs : List Value} {p : α} {va vb vc vd : Value} (hp : R p [va, vb, vc, vd]) (h : Reps R 4 ps cs) : Reps R 4 (p :: ps) (va :: vb :: vc :: vd :: cs) := Reps.front hp rfl h rfl
theorem Reps.c5 {α : Type} {R : α → List Value → Prop} {ps : List α} {cs : List Value} {p : α} {va vb vc vd ve : Value} (hp : R p [va, vb, vc, vd, ve]) (h : Reps R 5 ps cs) : Reps R 5 (p :: ps) (va :: vb :: vc :: vd :: ve :: cs) := Reps.front hp rfl h rfl
theorem Reps.c6 {α : Type} {R : α → List Value → Prop} {ps : List α} {cs : List Value} {p : α} {va vb vc vd ve vf : Value} (hp : R p [va, vb, vc, vd, ve, vf]) (h : Reps R 6 ps cs) : Reps R 6 (p :: ps) (va :: vb :: vc :: vd :: ve :: vf :: cs) := Reps.front hp rfl h rfl
theorem Reps.c7 {α : Type} {R : α → List Value → Prop} {ps : List α} {cs : List Value} {p : α} {va vb vc vd ve vf vg : Value} (hp : R p [va, vb, vc, vd, ve, vf, vg]) (h : Reps R 7 ps cs) : Reps R 7 (p :: ps) (va :: vb :: vc :: vd :: ve :: vf :: vg :: cs) := Reps.front hp rfl h rfl
theorem Reps.c8 {α : Type} {R : α → List Value → Prop} {ps : List α} {cs : List Value} {p : α} {va vb vc vd ve vf vg vh : Value} (hp : R p [va, vb, vc, vd, ve, vf, vg, vh]) (h : Reps R 8 ps cs) : Reps R 8 (p :: ps) (va :: vb :: vc :: vd :: ve :: vf :: vg :: vh :: cs) := Reps.front hp rfl h rfl
theorem Reps.c9 {α : Type} {R : α → List Value → Prop} {ps : List α} {cs : List Value} {p : α} {va vb vc vd ve vf vg vh vi : Value} (hp : R p [va, vb, vc, vd, ve, vf, vg, vh, vi]) (h : Reps R 9 ps cs) : Reps R 9 (p :: ps) (va :: vb :: vc :: vd :: ve :: vf :: vg :: vh :: vi :: cs) := Reps.front hp rfl h rfl
theorem Reps.c10 {α : Type} {R : α → List Value → Prop} {ps : List α} {cs : List Value} {p : α} {va vb vc vd ve vf vg vh vi vj : Value} (hp : R p [va, vb, vc, vd, ve, vf, vg, vh, vi, vj]) (h : Reps R 10 ps cs) : Reps R 10 (p :: ps) (va :: vb :: vc :: vd :: ve :: vf :: vg :: vh :: vi :: vj :: cs) := Reps.front hp rfl h rfl
end Go.Proofs.YthfmlelodmcgkaaGreatW.PrintWords
end
section
namespace Go.Proofs.YthfmlelodmcgkaaGreat.K
open Go.RowKit Go.Proofs.YthfmlelodmcgkaaGreatW.PrintWords Go.Proofs.YthfmlelodmcgkaaGreatW.PrintLast Go.Proofs.YthfmlelodmcgkaaGreatW.PrintMore
structure SV where
  v : Value
  d : List Int
  one : v.oneCell' = true
def sv0 : SV := ⟨.slice none 0 0, [], rfl⟩
theorem sv_one (x : SV) : x.v.oneCell' = true := x.one
abbrev kSV : Kd SV := Kd.scalar (fun x : SV => x.v) sv_one
abbrev RS (w : World) (base : Nat) (ok : Nat → Prop) (v : Value) (xs : List SV) : Prop := Kd.R kSV 26 w base ok v xs
abbrev rs (l : List SV) (i : Int) : SV := rdOf sv0 l i
theorem sv_cells (x : SV) : x.v.cells = #[x.v] := by
  have := x.one
  generalize x.v = v at this ⊢
  cases v <;> simp_all [Value.oneCell', Value.cells]
theorem at_sv {w : World} {A : Option Addr} {n : Nat} {xs : List SV} (h : Kd.C kSV w A n xs) (i : Int) (h0 : 0 ≤ i) (h1 : i < n) : ∃ ad, A = some ad ∧ w.cell? (ad.add i.toNat) = some (rs xs i).v :=
  ReadsOf.at_ (Kd.reads_of_C (enc := fun x : SV => x.v) (d := sv0) (h1 := sv_one) h) i h0 h1
theorem rs_mem (l : List SV) (j : Nat) (h : j < l.length) : rs l j ∈ l := by
  unfold rs rdOf
  rw [Int.toNat_natCast, List.getD_eq_getElem?_getD, List.getElem?_eq_getElem h]; exact List.getElem_mem _
theorem rs_eq (l : List SV) (j : Nat) (h : j < l.length) : rs l j = l[j] := by
  unfold rs rdOf
  rw [Int.toNat_natCast, List.getD_eq_getElem?_getD, List.getElem?_eq_getElem h]; rfl
def idxFromS (p : SV → Bool) (l : List SV) (i : Nat) : Int := match l.findIdx? p with | some j => (i + j : Nat) | none => -1
theorem idxS_hit (p : SV → Bool) (l : List SV) (k : Nat) (h : k < l.length) (hp : p (rs l k) = true) : idxFromS p (l.drop k) k = k := by
  rw [List.drop_eq_getElem_cons h, ← rs_eq l k h]
  simp [idxFromS, List.findIdx?_cons, hp]
theorem idxS_miss (p : SV → Bool) (l : List SV) (k : Nat) (h : k < l.length) (hp : p (rs l k) = false) : idxFromS p (l.drop k) k = idxFromS p (l.drop (k + 1)) (k + 1) := by
  rw [List.drop_eq_getElem_cons h, ← rs_eq l k h]
  simp only [idxFromS, List.findIdx?_cons, hp]
  cases h : (l.drop (k + 1)).findIdx? p with
  | none => simp [h]
  | some j => simp [h]; omega
set_option maxHeartbeats 1000000 in
set_option maxRecDepth 100000 in
theorem indexFuncS {R : World → World → Prop} (hR : Step R) (A0 : Option Addr) (c0 : Nat) (l : List SV) (fv : Value) (p : SV → Bool) (w : World)
    (hr : Kd.C kSV w A0 l.length l) (hp : ∀ x ∈ l, ∀ w1, R w w1 → Runs Tryz.prog fv #[x.v] w1 fun e w2 => e = .returned (.bool (p x)) ∧ R w1 w2) :
    Calls Tryz.prog 108 #[.slice A0 l.length c0, fv] w fun e w' => e = .returned (.int .i64 (idxFromS p l 0)) ∧ R w w' := by
  have HR := Aside0.mk hr
  have HP := Aside0.mk hp
  have hm : l.length ≤ 9223372036854775807 := hr.2.1
  clear hr hp
  go_enter Tryz.func108, Tryz.ntmps108
  go_wp2
  go_loopw [8] (fun i wr => ∃ k : Nat, k ≤ l.length ∧ i = .int .i64 k ∧ Aside0 (idxFromS p l 0 = idxFromS p (l.drop k) k) ∧ Aside0 (R w wr)) (fun i _ => l.length - (intOf i).toNat)
  case atStart => exact ⟨0, Nat.zero_le _, rfl, ⟨rfl⟩, ⟨hR.refl _⟩⟩
  case round =>
    obtain ⟨k, hk, rfl, HI, HW⟩ := hrel
    by_cases hlt : k < l.length
    · obtain ⟨ad, hA, hc⟩ := at_sv (Kd.C_below HR.out (hR.below HW.out)) k (by omega) (by omega)
      subst hA
      have hrun := Aside0.mk (HP.out (rs l k) (rs_mem l k hlt) wr HW.out)
      have HI2 := Aside0.mk (And.intro (idxS_hit p l k hlt) (idxS_miss p l k hlt))
      generalize rs l k = x at *
      simp only [Int.toNat_natCast] at hc
      go_wp2_with ((with_reducible refine gate_dst (N := 16) rfl ?_); refine goesV (some 16) rfl rfl rfl (fv := fv) rfl #[x.v] (by (try simp only [List.map_toArray, List.map_cons, List.map_nil]); rfl) ?_; refine hrun.out.mono ?_; rintro e w2 ⟨rfl, h2⟩; have H2 := Aside0.mk h2; clear h2; refine ⟨_, rfl, ?_⟩)
      · have hpt : p x = true := by assumption
        go_ret
        exact ⟨by rw [HI.out, HI2.out.1 hpt]; rfl, hR.trans HW.out H2.out⟩
      · have hpf : p x = false := by assumption
        go_roundw
        case rel => exact ⟨k + 1, hlt, by go_num, ⟨by rw [HI.out, HI2.out.2 hpf]⟩, ⟨hR.trans HW.out H2.out⟩⟩
        case measure => simp [intOf]; omega
    · have hke : k = l.length := by omega
      go_wp2
      go_ret
      exact ⟨by rw [HI.out, hke, List.drop_length]; rfl, HW.out⟩
theorem zero_sl' (w : World) : (zeroValue 26).run Tryz.prog w = .ok (.slice none 0 0) w := by kernel_rfl
theorem clearedS {base g cap n : Nat} {ok : Nat → Prop} (m : Nat) : ∀ (i : Nat) (W : World) (cur : List SV), RS W base ok (.slice (some ⟨g, 0, none⟩) n cap) cur → cur.length = n → i + m = n →
    ∃ cur', RS (W.setCells g i (List.replicate m (.slice none 0 0))) base ok (.slice (some ⟨g, 0, none⟩) n cap) cur' ∧ cur'.length = n ∧ cur'.take i = cur.take i ∧ W.grownBy (W.setCells g i (List.replicate m (.slice none 0 0))) (some g) := by
  induction m with
  | zero => intro i W cur h hl _; exact ⟨cur, h, hl, rfl, World.grownBy.refl _ _⟩
  | succ m ih =>
    intro i W cur h hl him
    obtain ⟨h2, hg⟩ := Kd.R_putg h (i : Int) sv0
    rw [Int.toNat_natCast] at h2 hg
    obtain ⟨cur', h3, h4, h5, h6⟩ := ih (i + 1) _ _ h2 (by simpa using hl) (by omega)
    refine ⟨cur', h3, h4, ?_, hg.trans h6⟩
    have := congrArg (List.take i) h5
    rw [List.take_take, List.take_take, Nat.min_eq_left (Nat.le_succ i), List.take_set_of_le (Nat.le_refl _)] at this
    exact this
theorem filterS_snoc (p : SV → Bool) (l : List SV) (j : Nat) (h : j < l.length) : (l.take (j + 1)).filter p = (l.take j).filter p ++ (if p (rs l j) then [rs l j] else []) := by
  rw [List.take_succ_eq_append_getElem h, List.filter_append, rs_eq l j h]
  congr 1
  cases hp : p l[j] <;> simp [hp]
theorem rs_set_ne (l : List SV) (i j : Nat) (v : SV) (h : i ≠ j) : rs (l.set i v) j = rs l j := by
  unfold rs rdOf
  rw [Int.toNat_natCast, List.getD_eq_getElem?_getD, List.getElem?_set, if_neg h, List.getD_eq_getElem?_getD]
structure DelS (W0 W : World) (base g cap n : Nat) (ok : Nat → Prop) (p : SV → Bool) (l cur : List SV) (i j : Nat) : Prop where
  row : RS W base ok (.slice (some ⟨g, 0, none⟩) n cap) cur
  len : cur.length = n
  ij : i < j
  jn : j ≤ n
  kept : cur.take i = (l.take j).filter fun x => !p x
  rest : ∀ t, j ≤ t → t < n → rs cur t = rs l t
  grown : W0.grownBy W (some g)
  cnt : i = ((l.take j).filter fun x => !p x).length
theorem DelS.miss {W0 W W2 : World} {base g cap n : Nat} {ok : Nat → Prop} {p : SV → Bool} {l cur : List SV} {i j : Nat} (h : DelS W0 W base g cap n ok p l cur i j) (hj : j < n) (hn : l.length = n) (hp : p (rs l j) = true) (hb : Below W.heap.size W W2) : DelS W0 W2 base g cap n ok p l cur i (j + 1) := by
  have e := filterS_snoc (fun x => !p x) l j (by omega)
  rw [hp] at e
  simp only [Bool.not_true, Bool.false_eq_true, if_false, List.append_nil] at e
  exact ⟨Kd.R_below h.row hb, h.len, by have := h.ij; omega, by omega, by rw [e]; exact h.kept, fun t h1 h2 => h.rest t (by omega) h2, h.grown.trans (grown_of_below hb _), by rw [e]; exact h.cnt⟩
theorem DelS.hit {W0 W W2 W3 : World} {base g cap n : Nat} {ok : Nat → Prop} {p : SV → Bool} {l cur : List SV} {i j : Nat} (h : DelS W0 W base g cap n ok p l cur i j) (hj : j < n) (hn : l.length = n) (hp : p (rs l j) = false) (hb : Below W.heap.size W W2)
    (hr : RS W3 base ok (.slice (some ⟨g, 0, none⟩) n cap) (cur.set i (rs l j))) (hg : W2.grownBy W3 (some g)) : DelS W0 W3 base g cap n ok p l (cur.set i (rs l j)) (i + 1) (j + 1) := by
  have e := filterS_snoc (fun x => !p x) l j (by omega)
  rw [hp] at e
  simp only [Bool.not_false, if_true] at e
  have hij := h.ij
  refine ⟨hr, by simpa using h.len, by omega, by omega, ?_, fun t h1 h2 => ?_, (h.grown.trans (grown_of_below hb _)).trans hg, by rw [e, List.length_append, ← h.cnt]; rfl⟩
  · rw [e, ← h.kept, List.take_succ_eq_append_getElem (by simp [h.len]; omega), List.take_set_of_le (Nat.le_refl _)]
    simp
  · rw [rs_set_ne _ _ _ _ (by omega)]
    exact h.rest t (by omega) h2
section
variable {ops : Array Oper} {rest : List Oper} {o : Oper} {a : Act} {Q : Exit → Act → World → Prop}
theorem putS' {w0 W : World} {base : Nat} {ok : Nat → Prop} (hN : o.dst = none) (hgd : o.guard = none) {p x : Operand} (ho : o.op = .store 26 p x) {g n cap o' : Nat} (i : Int) (xs : List SV) (y : SV)
    (haddr : a.eval p = .pointer (some ⟨g, o', none⟩)) (hoff : o' = i.toNat) (hx : a.eval x = y.v) (HO : RS W base ok (.slice (some ⟨g, 0, none⟩) n cap) xs) (h0 : 0 ≤ i) (hi : i < n) (HB : Below base w0 W)
    (h : ∀ w1, RS w1 base ok (.slice (some ⟨g, 0, none⟩) n cap) (xs.set i.toNat y) → Below base w0 w1 → W.grownBy w1 (some g) → wpList Tryz.prog ops Q rest a w1) : wpList Tryz.prog ops Q (o :: rest) a W := by
  obtain ⟨ad, hA, hc⟩ := at_sv (Kd.R_reads' HO).2.2 i h0 (by have := (Kd.R_reads' HO).1; omega)
  obtain rfl := Option.some.inj hA
  rw [add_plain] at hc
  refine Kd.R_store kSV base hN hgd 26 p x ho 26 i 0 xs y y.v [y.v] [(rs xs i).v] ok (fun _ => False) haddr (by rw [hoff]; show i.toNat = i.toNat * 1 + 0; omega) hx (by rw [sv_cells]) (by kernel_rfl) (by intro q hq; rw [List.mem_singleton.1 hq]; exact y.one) HO h0 hi rfl ?_ (Nat.le_refl 1) rfl (fun _ h => h.elim) HB h
  intro j u hj
  match j, hj with
  | 0, hj =>
    simp only [List.getElem?_cons_zero, Option.some.injEq] at hj
    subst hj
    show W.cell? ⟨g, i.toNat * 1 + 0, none⟩ = _
    rw [Nat.mul_one, Nat.add_zero]
    exact hc
end
set_option maxHeartbeats 2000000 in
set_option maxRecDepth 100000 in
theorem c_deleteFuncS (w : World) (base g cap : Nat) (ok : Nat → Prop) (l : List SV) (fv : Value) (p : SV → Bool) (hO : RS w base ok (.slice (some ⟨g, 0, none⟩) l.length cap) l) (hl : l.length < 1099511627776) (hcap : l.length ≤ cap)
    (hp : ∀ x ∈ l, ∀ w1, w.grownBy w1 (some g) → Runs Tryz.prog fv #[x.v] w1 fun e w2 => e = .returned (.bool (p x)) ∧ Below w1.heap.size w1 w2) :
    Calls Tryz.prog 112 #[.slice (some ⟨g, 0, none⟩) l.length cap, fv] w fun e w' => ∃ n, e = .returned (.slice (some ⟨g, 0, none⟩) n cap) ∧ RS w' base ok (.slice (some ⟨g, 0, none⟩) n cap) (l.filter fun x => !p x) ∧ w.grownBy w' (some g) := by
  have HO := Aside0.mk hO
  have HP := Aside0.mk hp
  have HX := Aside0.mk (indexFuncS step_bel (some ⟨g, 0, none⟩) cap l fv p w (Kd.R_reads' hO).2.2 (fun x hx w1 hw1 => (hp x hx w1 (grown_of_below hw1.out _)).mono fun e w2 hh => ⟨hh.1, ⟨hh.2⟩⟩))
  clear hO hp
  cases hk : l.findIdx? p with
  | none =>
    have hi : idxFromS p l 0 = -1 := by unfold idxFromS; rw [hk]
    have HF : Aside0 (l.filter (fun x => !p x) = l) := ⟨by
      rw [List.findIdx?_eq_none_iff] at hk
      rw [List.filter_eq_self]
      intro x hx
      simp [hk x hx]⟩
    rw [hi] at HX
    clear hi hk
    go_enter Tryz.func112, Tryz.ntmps112
    go_wp2_with (first | (go_at_call 108; refine HX.out.mono ?_; rintro e w1 ⟨rfl, hb1⟩; have HB := Aside0.mk hb1; clear hb1))
    go_ret
    exact ⟨_, rfl, by rw [HF.out]; exact Kd.R_below HO.out HB.out.out, grown_of_below HB.out.out _⟩
  | some k0 =>
    have hi : idxFromS p l 0 = (k0 : Int) := by unfold idxFromS; rw [hk]; simp
    rw [List.findIdx?_eq_some_iff_getElem] at hk
    obtain ⟨hk1, hk2, hk3⟩ := hk
    have HD0 : Aside0 (∀ W, Below w.heap.size w W → DelS w W base g cap l.length ok p l l k0 (k0 + 1)) := ⟨fun W hb => by
      have hf : (l.take k0).filter (fun x => !p x) = l.take k0 := by
        rw [List.filter_eq_self]
        intro x hx
        obtain ⟨t, ht, rfl⟩ := List.getElem_of_mem hx
        have ht2 : t < k0 := by rw [List.length_take] at ht; omega
        rw [List.getElem_take]
        have := hk3 t ht2
        simpa using this
      have e2 := filterS_snoc (fun x => !p x) l k0 hk1
      rw [rs_eq l k0 hk1, hk2, hf] at e2
      simp only [Bool.not_true, Bool.false_eq_true, if_false, List.append_nil] at e2
      exact ⟨Kd.R_below HO.out hb, rfl, by omega, by omega, by rw [e2], fun _ _ _ => rfl, grown_of_below hb _, by rw [e2, List.length_take]; omega⟩⟩
    rw [hi] at HX
    clear hi hk2 hk3
    go_enter Tryz.func112, Tryz.ntmps112
    go_wp2_with (first | (go_at_call 108; refine HX.out.mono ?_; rintro e w1 ⟨rfl, hb1⟩; have HB := Aside0.mk hb1; clear hb1))
    go_loopw [5, 6] (fun i j wr => ∃ (iN jN : Nat), iN < jN ∧ jN ≤ l.length ∧ i = .int .i64 (iN : Int) ∧ j = .int .i64 (jN : Int) ∧ Aside0 (∃ cur, DelS w wr base g cap l.length ok p l cur iN jN)) (fun _ j _ => l.length - (intOf j).toNat)
    case atStart => exact ⟨k0, k0 + 1, by omega, by omega, rfl, by go_num, ⟨l, HD0.out _ HB.out.out⟩⟩
    case round =>
      clear HB HD0 HX HO hk1
      obtain ⟨i, j, hij, hjn, rfl, rfl, ⟨cur, hd⟩⟩ := hrel
      have HD := Aside0.mk hd
      clear hd
      by_cases hlt : j < l.length
      · have hlen := HD.out.len
        obtain ⟨ad, hA, hc⟩ := at_sv (Kd.R_reads' HD.out.row).2.2 j (by omega) (by omega)
        obtain rfl := Option.some.inj hA
        rw [add_plain, HD.out.rest j (Nat.le_refl _) hlt, Int.toNat_natCast] at hc
        have hrun0 := HP.out (rs l j) (rs_mem l j hlt) wr HD.out.grown
        obtain ⟨x, hx⟩ : ∃ x, x = rs l j := ⟨_, rfl⟩
        rw [← hx] at hrun0 hc
        have hrun := Aside0.mk hrun0
        clear hrun0
        have HXX := Aside0.mk hx
        clear hx
        cases hpx : p x with
        | true =>
          rw [hpx] at hrun
          have HPX := Aside0.mk hpx
          clear hpx
          go_wp2_with (first
            | ((with_reducible refine gate_dst (N := 28) rfl ?_); refine goesV (some 28) rfl rfl rfl (fv := fv) rfl #[x.v] (by (try simp only [List.map_toArray, List.map_cons, List.map_nil]); rfl) ?_; refine hrun.out.mono ?_; rintro e w2 ⟨rfl, h2⟩; refine ⟨_, rfl, ?_⟩; have HD2 := Aside0.mk (HD.out.miss hlt rfl (by rw [← HXX.out]; exact HPX.out) h2); clear h2))
          go_roundw
          case rel => exact ⟨i, j + 1, by omega, by omega, rfl, by go_num, ⟨_, HD2.out⟩⟩
          case measure => simp [intOf]; omega
        | false =>
          rw [hpx] at hrun
          have HPX := Aside0.mk hpx
          clear hpx
          go_wp2_with (first
            | ((with_reducible refine gate_dst (N := 28) rfl ?_); refine goesV (some 28) rfl rfl rfl (fv := fv) rfl #[x.v] (by (try simp only [List.map_toArray, List.map_cons, List.map_nil]); rfl) ?_; refine hrun.out.mono ?_; rintro e w2 ⟨rfl, h2⟩; refine ⟨_, rfl, ?_⟩; have HB2 := Aside0.mk h2; clear h2)
            | ((with_reducible refine gate_store (t := 26) (p := 33) rfl ?_); refine putS' (w0 := _) (base := base) rfl rfl rfl (i : Int) cur x rfl (by rw [Int.toNat_natCast]) rfl (Kd.R_below HD.out.row HB2.out) (by omega) (by omega) (Below.refl _ _) ?_; intro w3 ho3 hb3 hg3; rw [Int.toNat_natCast, HXX.out] at ho3; have HD3 := Aside0.mk (HD.out.hit hlt rfl (by rw [← HXX.out]; exact HPX.out) HB2.out ho3 hg3); clear ho3 hb3 hg3))
          go_roundw
          case rel => exact ⟨i + 1, j + 1, by omega, by omega, by go_num, by go_num, ⟨_, HD3.out⟩⟩
          case measure => simp [intOf]; omega
      · obtain rfl : j = l.length := by omega
        have HCL : Aside0 (∀ ty, (Builtin.clear_ #[44] ty #[.slice (some ⟨g, i, none⟩) (l.length - i) (cap - i)]).run Tryz.prog wr = .ok (.tuple #[]) (wr.setCells g i (List.replicate (l.length - i) (.slice none 0 0)))) := ⟨fun ty => by
          have hcells : ∀ t, t < l.length - i → wr.cell? ⟨g, i + t, none⟩ = some (rs cur ((i + t : Nat) : Int)).v := fun t ht => by
            have hlen := HD.out.len
            obtain ⟨ad, hA, hc⟩ := at_sv (Kd.R_reads' HD.out.row).2.2 ((i + t : Nat) : Int) (by omega) (by omega)
            obtain rfl := Option.some.inj hA
            rw [add_plain, Int.toNat_natCast] at hc
            exact hc
          obtain ⟨cells, hblk⟩ := Kd.R_typed HD.out.row g (by simp [Value.ownBlock])
          exact Go.Lib.run_clear_slice wr _ _ ty _ Tryz.underlying44 (fun w => zero_sl' w) rfl rfl g i _ _ (by omega) (fun t ht => by rw [hcells t ht]; rfl) (fun t ht => by simp [World.frozen?, hblk])⟩
        obtain ⟨cur', hc1, hc2, hc3, hc4⟩ := clearedS (l.length - i) i wr cur HD.out.row HD.out.len (by omega)
        have HQ := Aside0.mk (And.intro hc1 (And.intro hc2 (And.intro hc3 hc4)))
        clear hc1 hc2 hc3 hc4
        have hcl := HCL.out
        have b1 : (i : Int) ≤ (l.length : Int) := by omega
        have b2 : (0 : Int) ≤ (i : Int) := by omega
        go_wp2
        go_ret
        obtain ⟨hc1, hc2, hc3, hc4⟩ := HQ.out
        refine ⟨i, rfl, ?_, HD.out.grown.trans hc4⟩
        have hk := HD.out.kept
        rw [List.take_length] at hk
        rw [← hk, ← hc3]
        exact Kd.R_take hc1 (by omega)
set_option maxRecDepth 100000 in
theorem c_deleteEmptyS (w : World) (A : Option Addr) (cap : Nat) (fv : Value) :
    Calls Tryz.prog 112 #[.slice A 0 cap, fv] w fun e w' => e = .returned (.slice A 0 cap) ∧ Below w.heap.size w w' := by
  have HX := Aside0.mk (indexFuncS step_bel A cap [] fv (fun _ => false) w ⟨rfl, by simp, fun h => absurd h (by simp)⟩ (fun x hx => by simp at hx))
  go_enter Tryz.func112, Tryz.ntmps112
  go_wp2_with (first | (go_at_call 108; refine HX.out.mono ?_; rintro e w1 ⟨rfl, hb1⟩; have HB := Aside0.mk hb1; clear hb1))
  go_ret
  exact ⟨rfl, HB.out.out⟩
theorem c_deleteAnyS (w : World) (base : Nat) (ok : Nat → Prop) (A : Option Addr) (cap : Nat) (l : List SV) (fv : Value) (p : SV → Bool) (hO : RS w base ok (.slice A l.length cap) l) (hl : l.length < 1099511627776)
    (hp : ∀ x ∈ l, ∀ w1, w.grownBy w1 (Value.slice A l.length cap).ownBlock → Runs Tryz.prog fv #[x.v] w1 fun e w2 => e = .returned (.bool (p x)) ∧ Below w1.heap.size w1 w2) :
    Calls Tryz.prog 112 #[.slice A l.length cap, fv] w fun e w' => ∃ n, e = .returned (.slice A n cap) ∧ RS w' base ok (.slice A n cap) (l.filter fun x => !p x) ∧ w.grownBy w' (Value.slice A l.length cap).ownBlock := by
  rcases Nat.eq_zero_or_pos l.length with h0 | h0
  · obtain rfl := List.eq_nil_of_length_eq_zero h0
    refine (c_deleteEmptyS w A cap fv).mono ?_
    rintro e w' ⟨rfl, hb⟩
    exact ⟨0, rfl, Kd.R_below hO hb, grown_of_below hb _⟩
  · obtain ⟨g, cap', e, _, _, _⟩ := Kd.R_form hO h0
    injection e with ea _ ec
    subst ea ec
    have hob : (Value.slice (some ⟨g, 0, none⟩) l.length cap).ownBlock = some g := by simp [Value.ownBlock]
    rw [hob] at hp ⊢
    have hcap := (Kd.R_reads' hO).2.1
    exact c_deleteFuncS w base g cap ok l fv p hO hl hcap hp
end Go.Proofs.YthfmlelodmcgkaaGreat.K
end
section
namespace Go.Proofs.YthfmlelodmcgkaaGreat.V
open Go Go.RowKit Go.Proofs.YthfmlelodmcgkaaGreatW.PrintWords Go.Proofs.YthfmlelodmcgkaaGreatW.PrintLast Go.Proofs.YthfmlelodmcgkaaGreatW.PrintMore
abbrev TstD := HT [Kn.sl 2 (.int .i64)] → Option Kn.bool.T
def tstD (f : TstD) (x : List Int) : Bool := (f (x, ())).getD false
def sp_deleteR : List Cv → List Obj' → Tree
  | [.one (.own 0), .one (.pf [.sl 2 (.int .i64)] .bool f)], [.drow 26 (.sl 2 (.int .i64)) l] => .need (l.length < 1099511627776 ∧ ∀ x ∈ (l : RowL), (f (x, ())).isSome = true) (.ret (ow 1) [.dead, .drow 26 (.sl 2 (.int .i64)) ((l : RowL).filter fun x => !tstD f x)])
  | _, _ => .fail
theorem sv_of {w : World} : ∀ {φ : Nat → Prop} {ps : List (List Int × List Value)}, DRp (DRep w kR) φ ps → ∃ svs : List K.SV, ps = svs.map fun s => (s.d, [s.v])
  | φ, [], _ => ⟨[], rfl⟩
  | φ, p :: r, ⟨φ1, φ2, h2, h3, h4, h5⟩ => by
    obtain ⟨svs, e⟩ := sv_of h3
    obtain ⟨u, xs, φ', hu, ho, _⟩ := h2
    obtain ⟨ad, c, e2, _⟩ := own_cells ho
    exact ⟨⟨u, p.1, by rw [e2]; rfl⟩ :: svs, by
      rw [List.map_cons, ← e]
      congr 1
      exact Prod.ext rfl hu⟩
theorem sv_flat (svs : List K.SV) : (svs.map fun s => (s.d, [s.v])).flatMap (·.2) = encs (fun s : K.SV => s.v) svs := by
  induction svs with
  | nil => rfl
  | cons s r ih => rw [List.map_cons, List.flatMap_cons, ih]; rfl
theorem pf_runsR {F : Nat → Prop} {w w1 : World} {f : TstD} {u : Value} {row : Option Nat} {ψ : Nat → Prop} {s : K.SV} (h : PFun Tryz.prog F w [kR] .bool f u) (hF : ∀ b, F b → b < w.heap.size) (hg : w.grownBy w1 row) (hr : ∀ b, row = some b → ¬ F b) (hd : DRep w kR ψ s.d [s.v]) (hr2 : ∀ b, row = some b → ¬ ψ b) (hs : (f (s.d, ())).isSome = true) :
    K.Runs Tryz.prog u #[s.v] w1 fun e w2 => e = .returned (.bool (tstD f s.d)) ∧ Below w1.heap.size w1 w2 := by
  obtain ⟨y, hy⟩ := Option.isSome_iff_exists.1 hs
  have ht : tstD f s.d = y := by unfold tstD; rw [hy]; rfl
  have hlt := hd.lt
  have hd1 : DRep w1 kR ψ s.d [s.v] := hd.move fun b hb => hg.block b (hlt b hb) (fun e => hr2 b e.symm hb)
  have hrep : Rep (fun b => F b ∨ ψ b) w1 kR s.d [s.v] := hd1.rep fun b hb => .inr hb
  obtain ⟨g, first, cap, e1, ⟨fn, f1, f2, f3⟩, e3⟩ := h w1 (fun b => F b ∨ ψ b) (fun b hb => hg.block b (hF b hb) (fun e => hr b e.symm hb)) (fun _ h => .inl h) (fun b hb => hb.elim (fun hb => Nat.lt_of_lt_of_le (hF b hb) hg.size) (fun hb => Nat.lt_of_lt_of_le (hlt b hb) hg.size)) (s.d, ()) y [s.v] ⟨_, _, rfl, ⟨by rw [K.sv_cells]; exact hrep, s.one⟩, rfl⟩ hy
  refine ⟨g, fn, first, cap, e1, f1, f2, f3, e3.mono ?_⟩
  rintro e w2 ⟨v, F'', rfl, ⟨k1, k2⟩, k3, _, _⟩
  have hv : v = .bool y := by
    have k1 : v.cells.toList = [.bool y] := k1
    have k2 : v.oneCell' = true := k2
    cases v <;> simp [Value.cells, Value.oneCell'] at k1 k2 ⊢ <;> exact k1
  rw [hv, ht]
  exact ⟨rfl, k3.os, k3.tape, k3.output, k3.size, fun k hk => k3.block k hk (fun h => by cases h)⟩
theorem good_deleteR : Good Tryz.prog 112 sp_deleteR := by
  intro E0 cs os0 vs Kc hF hD h16 hO hdis hnof ha hK
  have hI := Inv.enter hF hD h16 hO hdis hnof
  unfold sp_deleteR at hK
  split at hK
  case h_2 => exact hK.elim
  rename_i f l
  obtain ⟨u1, u2, rfl, hu1, hu2⟩ := two_args ha
  obtain ⟨⟨hD0, rfl⟩, hone⟩ := hu1
  obtain ⟨⟨h1, h2⟩, hK⟩ := hK
  obtain ⟨⟨xs, φ', k1, k2, k3, k4, k5⟩, _⟩ := hO 0 (by simp)
  obtain ⟨ps, e1, e2, hps⟩ := k2.pairs
  obtain ⟨svs, rfl⟩ := sv_of hps
  have el : l = svs.map (·.d) := by rw [e1, List.map_map]; rfl
  rw [sv_flat] at e2
  subst e2
  have hll : l.length = svs.length := by rw [el, List.length_map]
  rw [hll] at k1
  obtain ⟨A, c, e⟩ : ∃ A c, E0.σ 0 = .slice A svs.length c := by
    obtain ⟨ad, c, e, _⟩ := own_cells k1
    exact ⟨ad, c, e⟩
  have hRS : K.RS E0.w 0 (fun _ => True) (.slice A svs.length c) svs := by
    rw [← e]
    exact Kd.R_of_own (h1 := K.sv_one) k1 (fun _ _ => trivial)
  have hPF : PFun Tryz.prog E0.F E0.w [kR] .bool f u2 := hu2.1
  have hob : ∀ b, (Value.slice A svs.length c).ownBlock = some b → blkOf (E0.σ 0) = some b := fun b hb => by
    rw [e]
    cases A with
    | none => simp [Value.ownBlock] at hb
    | some a => simpa [Value.ownBlock, blkOf] using hb
  have hcall := K.c_deleteAnyS E0.w 0 (fun _ => True) A c svs u2 (fun s => tstD f s.d) hRS (by omega) (fun s hs w1 hg => by
    obtain ⟨ψ, q1, q2⟩ := hps.mem (List.mem_map.2 ⟨s, hs, rfl⟩)
    exact pf_runsR hPF hF hg (fun b hb => hnof 0 (by simp) b ((k4 b).2 (.inl (hob b hb)))) q1 (fun b hb hq => k5 b (hob b hb) (q2 b hq)) (h2 s.d (by rw [el]; exact List.mem_map.2 ⟨s, hs, rfl⟩)))
  rw [← e] at hcall
  refine hcall.mono ?_
  rintro e' w' ⟨n, rfl, hR, hg⟩
  have hbl : blkOf (.slice A n c) = blkOf (.slice A svs.length c) := by cases A <;> rfl
  have hflt : l.filter (fun x => !tstD f x) = (svs.filter fun s => !tstD f s.d).map (·.d) := by
    rw [el, List.filter_map]; rfl
  have hown := Kd.own_of_R (h1 := K.sv_one) hR
  obtain ⟨ψ, hψ, hsub⟩ := hps.filter (fun p => !tstD f p.1)
  have hpf : (svs.map fun s => (s.d, [s.v])).filter (fun p => !tstD f p.1) = (svs.filter fun s => !tstD f s.d).map fun s => (s.d, [s.v]) := by
    rw [List.filter_map]; rfl
  rw [hpf] at hψ
  have hdr := hψ.dr
  rw [sv_flat, List.map_map] at hdr
  have hdr : DR (DRep E0.w kR) ψ ((svs.filter fun s => !tstD f s.d).map (·.d)) (encs (fun s : K.SV => s.v) (svs.filter fun s => !tstD f s.d)) := hdr
  generalize (svs.filter fun s => !tstD f s.d) = fs at *
  have hlt : ∀ b, φ' b → b < E0.w.heap.size := DR.all (p := fun b => b < E0.w.heap.size) (fun ψ x c h => h.lt) k2
  have hdr1 : DR (DRep w' kR) ψ (fs.map (·.d)) (encs (fun s : K.SV => s.v) fs) := hdr.imp fun χ x c hχ h => h.move fun b hb => by
    refine hg.block b (hlt b (hsub b (hχ b hb))) (fun e0 => ?_)
    rw [e] at e0
    exact k5 b (hob b e0.symm) (hsub b (hχ b hb))
  have hlf : (fs.map (·.d)).length ≤ maxLen := by
    have : (l.filter fun x => !tstD f x).length ≤ l.length := List.length_filter_le _ _
    rw [hflt] at this
    omega
  obtain ⟨E', m1, m2, m3, m4, m5⟩ := hI.move (i := 0) (d := 1) (w' := w') (o := .drow 26 kR l) rfl rfl rfl (fun h => by have := (hD 1).1 h; simp at this) (by rw [e] at hg; exact hg) (fun b hb => (k4 b).2 (.inl (hob b hb))) (.slice A n c) (fun b => blkOf (.slice A n c) = some b ∨ ψ b) (fun _ => undef) (.drow 26 kR (fs.map (·.d))) (fun b hb => .inl (by
      rw [k4, e, ← hbl]
      exact hb.imp id (hsub b))) (fun E' hle hw' => ⟨_, ψ, by rw [hw', List.length_map]; exact hown, by rw [hw']; exact hdr1, hlf, fun _ => Iff.rfl, fun b hb h => k5 b (by rw [e, ← hbl]; exact hb) (hsub b h)⟩)
  rw [hflt] at hK
  exact ⟨_, _, _, E', rfl, hK, by simp, m1, m3.congr (fun j => by
    simp only [numb]
    by_cases e0 : 0 = j
    · subst e0; rfl
    · by_cases e1 : 1 = j
      · subst e1; rfl
      · simp only [lk_ne _ _ e0, lk_ne _ _ e1]), ⟨⟨m4, m5.symm⟩, rfl⟩⟩
def c_deleteR : Ctr Tryz.prog := ⟨112, ent Tryz.func112 rfl rfl, [true], sp_deleteR, good_deleteR, []⟩
@[go_sem] theorem c_deleteR_f : c_deleteR.f = 112 := rfl
@[go_sem] theorem c_deleteR_ms : c_deleteR.ms = [true] := rfl
@[go_sem] theorem c_deleteR_sp : c_deleteR.spec = sp_deleteR := rfl
@[go_sem] theorem c_deleteR_fz : c_deleteR.fz = [] := rfl
attribute [go_sem] sp_deleteR
end Go.Proofs.YthfmlelodmcgkaaGreat.V
end
section
namespace Go.Proofs.YthfmlelodmcgkaaGreat.V
open Go Go.Shelf Go.Proofs
def rsort_ren : Go.Shelf.Ren := ⟨fun | 6 => 119 | 15 => 154 | 14 => 153 | 28 => 177 | 29 => 178 | 20 => 169 | 21 => 170 | 22 => 171 | 23 => 172 | 24 => 173 | 25 => 174 | 26 => 175 | 27 => 176 | 46 => 187 | 47 => 188 | 48 => 189 | 49 => 190 | 50 => 191 | 57 => 203 | n => n, fun | 22 => 44 | 24 => 26 | 25 => 109 | 3 => 3 | 39 => 131 | 0 => 0 | 53 => 152 | 55 => 154 | 4 => 4 | 46 => 145 | 45 => 144 | 50 => 149 | 5 => 5 | 9 => 9 | 66 => 163 | 70 => 167 | 76 => 177 | 77 => 127 | n => n, fun | n => n⟩
theorem rsortF : Go.Proofs.SlLaysF.n6 Tryz.prog rsort_ren := {
  mixed := by kernel_rfl,
  f6 := ⟨Tryz.f119.name, by decide, Tryz.func119.trans (congrArg some (by kernel_rfl))⟩,
  f14 := ⟨Tryz.f153.name, by decide, Tryz.func153.trans (congrArg some (by kernel_rfl))⟩,
  f15 := Tryz.func154.trans (congrArg some (by kernel_rfl)),
  f20 := ⟨Tryz.f169.name, by decide, Tryz.func169.trans (congrArg some (by kernel_rfl))⟩,
  f21 := ⟨Tryz.f170.name, by decide, Tryz.func170.trans (congrArg some (by kernel_rfl))⟩,
  f22 := ⟨Tryz.f171.name, by decide, Tryz.func171.trans (congrArg some (by kernel_rfl))⟩,
  f23 := ⟨Tryz.f172.name, by decide, Tryz.func172.trans (congrArg some (by kernel_rfl))⟩,
  f24 := ⟨Tryz.f173.name, by decide, Tryz.func173.trans (congrArg some (by kernel_rfl))⟩,
  f25 := ⟨Tryz.f174.name, by decide, Tryz.func174.trans (congrArg some (by kernel_rfl))⟩,
  f26 := ⟨Tryz.f175.name, by decide, Tryz.func175.trans (congrArg some (by kernel_rfl))⟩,
  f27 := ⟨Tryz.f176.name, by decide, Tryz.func176.trans (congrArg some (by kernel_rfl))⟩,
  f28 := Tryz.func177.trans (congrArg some (by kernel_rfl)),
  f29 := Tryz.func178.trans (congrArg some (by kernel_rfl)),
  f46 := ⟨Tryz.f187.name, by decide, Tryz.func187.trans (congrArg some (by kernel_rfl))⟩,
  f47 := Tryz.func188.trans (congrArg some (by kernel_rfl)),
  f48 := Tryz.func189.trans (congrArg some (by kernel_rfl)),
  f49 := ⟨Tryz.f190.name, by decide, Tryz.func190.trans (congrArg some (by kernel_rfl))⟩,
  f50 := ⟨Tryz.f191.name, by decide, Tryz.func191.trans (congrArg some (by kernel_rfl))⟩,
  f57 := ⟨Tryz.f203.name, by decide, Tryz.func203.trans (congrArg some (by kernel_rfl))⟩,
  t0 := Tryz.underlying0,
  a0 := Tryz.isAgg0,
  z0 := Tryz.sizeOf0,
  v0 := Tryz.zeroValue0,
  t3 := Tryz.underlying3,
  a3 := Tryz.isAgg3,
  z3 := Tryz.sizeOf3,
  v3 := Tryz.zeroValue3,
  t4 := Tryz.underlying4,
  a4 := Tryz.isAgg4,
  z4 := Tryz.sizeOf4,
  v4 := Tryz.zeroValue4,
  t5 := Tryz.underlying5,
  a5 := Tryz.isAgg5,
  z5 := Tryz.sizeOf5,
  v5 := Tryz.zeroValue5,
  t9 := Tryz.underlying9,
  a9 := Tryz.isAgg9,
  z9 := Tryz.sizeOf9,
  v9 := Tryz.zeroValue9,
  t22 := Tryz.underlying44,
  a22 := Tryz.isAgg44,
  z22 := Tryz.sizeOf44,
  v22 := Tryz.zeroValue44,
  a24 := Tryz.isAgg26,
  z24 := Tryz.sizeOf26,
  t25 := Tryz.underlying109,
  a25 := Tryz.isAgg109,
  z25 := Tryz.sizeOf109,
  v25 := Tryz.zeroValue109,
  t39 := Tryz.underlying131,
  a39 := Tryz.isAgg131,
  z39 := Tryz.sizeOf131,
  v39 := Tryz.zeroValue131,
  t45 := Tryz.underlying144,
  a45 := Tryz.isAgg144,
  z45 := Tryz.sizeOf144,
  v45 := Tryz.zeroValue144,
  t46 := Tryz.underlying145,
  a46 := Tryz.isAgg145,
  z46 := Tryz.sizeOf145,
  v46 := Tryz.zeroValue145,
  t50 := Tryz.underlying149,
  a50 := Tryz.isAgg149,
  z50 := Tryz.sizeOf149,
  v50 := Tryz.zeroValue149,
  t53 := Tryz.underlying152,
  a53 := Tryz.isAgg152,
  z53 := Tryz.sizeOf152,
  v53 := Tryz.zeroValue152,
  t55 := Tryz.underlying154,
  a55 := Tryz.isAgg154,
  z55 := Tryz.sizeOf154,
  v55 := Tryz.zeroValue154,
  t66 := Tryz.underlying163,
  a66 := Tryz.isAgg163,
  z66 := Tryz.sizeOf163,
  v66 := Tryz.zeroValue163,
  t70 := Tryz.underlying167,
  a70 := Tryz.isAgg167,
  z70 := Tryz.sizeOf167,
  v70 := Tryz.zeroValue167,
  t76 := Tryz.underlying177,
  a76 := Tryz.isAgg177,
  z76 := Tryz.sizeOf177,
  v76 := Tryz.zeroValue177,
  t77 := Tryz.underlying127,
  a77 := Tryz.isAgg127,
  z77 := Tryz.sizeOf127,
  v77 := Tryz.zeroValue127 }
end Go.Proofs.YthfmlelodmcgkaaGreat.V
namespace Go.Proofs.YthfmlelodmcgkaaGreat.V
open Go Go.RowKit Go.Proofs.YthfmlelodmcgkaaGreatW.PrintWords Go.Proofs.YthfmlelodmcgkaaGreatW.PrintLast Go.Proofs.YthfmlelodmcgkaaGreatW.PrintMore
theorem putRow_take {α : Type} [Inhabited α] (enc : α → Value) (d : Array α) (c : Array Value) (h : d.size ≤ c.size) : (Go.Sort.putCells enc 0 d c).toList.take d.size = d.toList.map enc := by
  apply List.ext_getElem?
  intro t
  rw [List.getElem?_take]
  by_cases ht : t < d.size
  · rw [if_pos ht]
    have hc : t < c.size := by omega
    simp [Go.Sort.putCells, ht, hc]
  · rw [if_neg ht]
    simp [ht]
section
variable {α : Type} [Inhabited α] {enc : α → Value} {g m : Nat} {w : World} {d : Array α} {os : Array Obj}
theorem rw_at {cur : Array Value} {t : TypeId} {fr : Nat × Nat} (h : w.heap[g]? = some (.cells cur t fr)) : (Go.Proofs.sortWorld enc w g 0 m d os).heap[g]? = some (.cells (Go.Sort.putCells enc 0 d cur) t fr) := by
  have hg : g < w.heap.size := (Array.getElem?_eq_some_iff.1 h).1
  show ((w.heap.modify g (Go.Sort.onCells _)) ++ os)[g]? = _
  rw [Array.getElem?_append_left (by simpa using hg), Array.getElem?_modify, if_pos rfl, h]
  rfl
theorem rw_other {b : Nat} (hb : b < w.heap.size) (hne : b ≠ g) : (Go.Proofs.sortWorld enc w g 0 m d os).heap[b]? = w.heap[b]? := by
  show ((w.heap.modify g (Go.Sort.onCells _)) ++ os)[b]? = _
  rw [Array.getElem?_append_left (by simpa using hb), Array.getElem?_modify, if_neg (Ne.symm hne)]
theorem rw_grown : w.grownBy (Go.Proofs.sortWorld enc w g 0 m d os) (some g) :=
  ⟨rfl, rfl, rfl, by show w.heap.size ≤ ((w.heap.modify g (Go.Sort.onCells _)) ++ os).size; simp, fun b hb hne => rw_other hb (fun e => hne (by rw [e]))⟩
end
def SrtR (w : World) (g : Nat) (s : K.SV) : Prop := ∃ A c, s.v = .slice A s.d.length c ∧ ∀ W : World, (∀ b, b < w.heap.size → b ≠ g → W.heap[b]? = w.heap[b]?) → Kd.C (Kd.int .i64) W A s.d.length s.d
theorem srtR_of {w : World} {g : Nat} {ψ : Nat → Prop} {s : K.SV} (h : DRep w kR ψ s.d [s.v]) (hg : ¬ ψ g) (hl : s.d.length ≤ 1099511627776) : SrtR w g s := by
  obtain ⟨u, xs, φ', hu, h1, h2, h3, h4, h5⟩ := h
  injection hu with hu
  obtain ⟨ad, c, e, h8, h9⟩ := own_cells h1
  have hr : xs = (s.d : List Int).map (Value.int .i64) := Reps.ints (h2.reps (F := fun _ => True) (w := w) fun ψ y c _ h => ⟨h.1, h.2.1⟩)
  refine ⟨ad, c, hu.trans e, fun W hW => ⟨rfl, ?_, fun hn => ?_⟩⟩
  · show s.d.length ≤ _
    omega
  · have hx : xs ≠ [] := fun e => by
      rw [hr] at e
      have := congrArg List.length e
      simp at this
      have hn : 0 < s.d.length := hn
      rw [this] at hn
      simp at hn
    obtain ⟨b, rfl, hb, hc⟩ := h9 hx
    have hψ : ψ b := (h4 b).2 (.inl hb)
    refine ⟨⟨b, 0, none⟩, rfl, fun j y hj => ⟨[.int .i64 y], rfl, rfl, fun i v hv => ?_⟩⟩
    rcases i with _ | i
    · simp at hv
      subst hv
      have hjl : j < xs.length := by
        rw [hr, List.length_map]
        exact (List.getElem?_eq_some_iff.1 hj).1
      have e := hc j hjl
      have hblt := World.block_lt_of_cell? w _ e
      have e2 : xs[j] = .int .i64 y := by
        have : xs[j]? = some (.int .i64 y) := by rw [hr, List.getElem?_map, hj]; rfl
        rw [List.getElem?_eq_getElem hjl] at this
        injection this
      rw [e2] at e
      rw [show (Kd.int .i64).sz = 1 from rfl, Addr.add_lit, Nat.zero_add, Nat.mul_one, Nat.add_zero]
      exact (World.cell?_of_block (hW b hblt (fun e => hg (e ▸ hψ)))).trans e
    · simp at hv
theorem fstI_r (l : List Int) : -1 ≤ K.fstI l ∧ K.fstI l < l.length ∨ K.fstI l = -1 := by
  unfold K.fstI K.idxFrom
  cases h : l.findIdx? (fun x => !decide (x = 0)) with
  | none => exact .inr rfl
  | some j =>
    have := (List.findIdx?_eq_some_iff_getElem.1 h).1
    left
    show -1 ≤ ((0 + j : Nat) : Int) ∧ ((0 + j : Nat) : Int) < l.length
    omega
def sortR (l : List (List Int)) : List (List Int) := l.mergeSort fun x y => !decide (K.fstI y < K.fstI x)
theorem sortR_perm (l : List (List Int)) : (sortR l).Perm l := List.mergeSort_perm ..
theorem sortR_length (l : List (List Int)) : (sortR l).length = l.length := (sortR_perm l).length_eq
theorem sortR_sorted (l : List (List Int)) : (sortR l).Pairwise fun x y => ¬ K.fstI y < K.fstI x := by
  have := List.pairwise_mergeSort (le := fun x y : List Int => !decide (K.fstI y < K.fstI x)) (fun a b c h1 h2 => by simp at *; omega) (fun a b => by simp; omega) l
  exact this.imp fun h => by simpa using h
theorem sortR_eq {l m : List (List Int)} (hn : (l.map K.fstI).Nodup) (hp : m.Perm l) (hm : m.Pairwise fun x y => ¬ K.fstI y < K.fstI x) : m = sortR l := by
  have key : ∀ {x y : List Int}, x ∈ l → y ∈ l → K.fstI x = K.fstI y → x = y := fun {x y} hx hy h => by
    obtain ⟨i, hi, rfl⟩ := List.getElem_of_mem hx
    obtain ⟨j, hj, rfl⟩ := List.getElem_of_mem hy
    have := (List.getElem_inj (h₀ := by simpa using hi) (h₁ := by simpa using hj) hn).1 (by simpa using h)
    subst this; rfl
  refine (hp.trans (sortR_perm l).symm).eq_of_pairwise (fun x y hx hy h1 h2 => key (hp.mem_iff.1 hx) ((sortR_perm l).mem_iff.1 hy) (by omega)) hm (sortR_sorted l)
def sp_sortR : List Cv → List Obj' → Tree
  | [.one (.own 0), .one (.v u)], [.drow t (.sl 2 (.int .i64)) l] => .need (u = .func (.func 120) #[] #[] ∧ l.length ≤ 1000000 ∧ (∀ x ∈ (l : List (List Int)), x.length ≤ 1099511627776) ∧ ((l : List (List Int)).map K.fstI).Nodup) (.ret (.tup []) [.drow t (.sl 2 (.int .i64)) (sortR l)])
  | _, _ => .fail
theorem rsort_run {w : World} {g cap : Nat} {t : TypeId} {cur : Array Value} {ps : List K.SV} (hg : w.heap[g]? = some (.cells cur t (0, 0))) (hne : ps ≠ []) (hQ : ∀ p ∈ ps, SrtR w g p) (hll : ∀ p ∈ ps, p.d.length ≤ 1099511627776) (hlen : ps.length ≤ 1000000) (hcur : ps.length ≤ cur.size) (htake : cur.toList.take ps.length = ps.map (·.v)) :
    Calls Tryz.prog 119 #[.slice (some ⟨g, 0, none⟩) ps.length cap, .func (.func 120) #[] #[]] w fun e w' => e = .returned (.tuple #[]) ∧
      ∃ (qs : List K.SV) (cur' : Array Value), qs.Perm ps ∧ (qs.map (·.d)).Pairwise (fun x y => ¬ K.fstI y < K.fstI x) ∧ w.grownBy w' (some g) ∧ w'.heap[g]? = some (.cells cur' t (0, 0)) ∧ cur'.size = cur.size ∧ cur'.toList.take ps.length = qs.map (·.v) := by
  obtain ⟨p0, hp0⟩ := List.exists_mem_of_ne_nil ps hne
  let α := {p : K.SV // SrtR w g p ∧ p.d.length ≤ 1099511627776}
  haveI : Inhabited α := ⟨⟨p0, hQ p0 hp0, hll p0 hp0⟩⟩
  have hQ2 : ∀ p ∈ ps, SrtR w g p ∧ p.d.length ≤ 1099511627776 := fun p hp => ⟨hQ p hp, hll p hp⟩
  let enc : α → Value := fun x => x.1.v
  let d : Array α := (ps.attachWith _ hQ2).toArray
  let cf : α → α → Int := fun x y => K.fstI x.1.d - K.fstI y.1.d
  have hv : (ps.attachWith _ hQ2).map Subtype.val = ps := List.attachWith_map_subtype_val ..
  have hd : d.size = ps.length := by
    show (ps.attachWith _ hQ2).length = _
    rw [← congrArg List.length hv, List.length_map]
  have hdl : d.toList = ps.attachWith _ hQ2 := rfl
  have hlt : ∀ x y, Go.Proofs.ltOf cf x y = decide (K.fstI x.1.d < K.fstI y.1.d) := fun x y => by
    unfold Go.Proofs.ltOf
    exact decide_eq_decide.2 (by show K.fstI x.1.d - K.fstI y.1.d < 0 ↔ _; omega)
  have hO : Go.Sort.SWO (Go.Proofs.ltOf cf) := ⟨fun x => by rw [hlt]; simp, fun x y z h k => by rw [hlt] at *; simp at *; omega, fun x y z h k => by rw [hlt] at *; simp at *; omega⟩
  have hcmp : Go.Proofs.CmpLays1 Tryz.prog 120 #[] enc cf g 0 d.size w := fun m os dk hs x y => by
    obtain ⟨A, c, ex, hC⟩ := x.2.1
    obtain ⟨A', c', ey, hC'⟩ := y.2.1
    have hx := x.2.2
    have hy := y.2.2
    have := K.k_red1 A c x.1.d A' c' y.1.d (Go.Proofs.sortWorld enc w g 0 m dk os) (hC _ (fun b hb hne => rw_other hb hne)) (hC' _ (fun b hb hne => rw_other hb hne))
    have ex' : enc x = .slice A x.1.d.length c := ex
    have ey' : enc y = .slice A' y.1.d.length c' := ey
    rw [ex', ey', Array.append_empty]
    refine this.mono ?_
    rintro e w' ⟨rfl, ⟨q, rfl⟩⟩
    refine ⟨?_, q, #[], by simp [Go.Sort.grow, World.drewN]⟩
    have f1 := fstI_r x.1.d
    have f2 := fstI_r y.1.d
    have : wrap64 (K.fstI x.1.d - K.fstI y.1.d) = K.fstI x.1.d - K.fstI y.1.d := by
      unfold wrap64; omega
    rw [this]
  have hH : Go.Sort.Holds enc w g 0 d := fun j hj => by
    rw [hd] at hj
    have e1 : cur[j]? = some (enc d[j]!) := by
      have h1 : (cur.toList.take ps.length)[j]? = some (enc d[j]!) := by
        rw [htake, List.getElem?_map]
        have : ps[j]? = some (d[j]!).1 := by
          have hvj : ps[j]? = ((ps.attachWith _ hQ2).map Subtype.val)[j]? := by rw [hv]
          rw [getElem!_pos d j (by rw [hd]; exact hj), hvj, List.getElem?_map]
          have : (ps.attachWith _ hQ2)[j]? = some d[j] := by
            have h := Array.getElem?_eq_getElem (xs := d) (i := j) (by rw [hd]; exact hj)
            rw [← Array.getElem?_toList] at h; exact h
          rw [this]; rfl
        rw [this]; rfl
      rw [List.getElem?_take, if_pos hj] at h1
      simpa using h1
    constructor
    · rw [World.cell?, hg, Nat.zero_add]
      simpa using e1
    · rw [World.frozen?, hg]
      simp
  have hcon := Go.Proofs.Any.slices_SortFunc rsortF enc (fun x => by obtain ⟨A, c, ex, _⟩ := x.2.1; show x.1.v.oneCell' = true; rw [ex]; rfl) cf hO 120 #[] g 0 cap d w (ent Tryz.func120 rfl rfl) hcmp hH (Array.getElem?_eq_some_iff.1 hg).1 (by rw [hd]; omega)
  change Calls Tryz.prog 119 _ _ _ at hcon
  rw [hd] at hcon
  refine hcon.mono ?_
  rintro e w' ⟨rfl, d', n, os, ⟨hp1, _, hp3⟩, hsort, rfl⟩
  have hd' : d'.size = ps.length := hp1.trans hd
  have hperm : d'.toList.Perm d.toList := by
    have e1 : d'.extract 0 ps.length = d' := by rw [← hd']; simp
    have e2 : d.extract 0 ps.length = d := by rw [← hd]; simp
    rw [e1, e2] at hp3
    exact hp3
  refine ⟨rfl, d'.toList.map (·.1), _, ?_, ?_, rw_grown, rw_at hg, by simp [Go.Sort.putCells], ?_⟩
  · have := hperm.map (fun x : α => x.1)
    rw [show d.toList.map (fun x : α => x.1) = ps from hv] at this
    exact this
  · rw [List.map_map, List.pairwise_map, List.pairwise_iff_getElem]
    intro i j hi hj hij
    have hj' : j < d'.size := by simpa using hj
    have hi' : i < d'.size := by omega
    have := hsort i j (Nat.zero_le _) hij (by omega)
    rw [hlt, getElem!_pos d' j hj', getElem!_pos d' i hi'] at this
    simpa using this
  · have := putRow_take enc d' cur (by rw [hd']; exact hcur)
    rw [hd'] at this
    rw [this, List.map_map]; rfl
theorem good_sortR : Good Tryz.prog 119 sp_sortR := by
  intro E0 cs os0 vs Kc hF hD h16 hO hdis hnof ha hK
  have hI := Inv.enter hF hD h16 hO hdis hnof
  unfold sp_sortR at hK
  split at hK
  case h_2 => exact hK.elim
  rename_i u t ts
  obtain ⟨u1, u2, rfl, hu1, hu2⟩ := two_args ha
  obtain ⟨⟨hD0, rfl⟩, hone⟩ := hu1
  obtain ⟨⟨rfl, _⟩, _⟩ := hu2
  obtain ⟨⟨rfl, hlen, hwl, hnd⟩, hK⟩ := hK
  obtain ⟨⟨xs, φ', k1, k2, k3, k4, k5⟩, _⟩ := hO 0 (by simp)
  by_cases h0 : ts = []
  · subst h0
    obtain ⟨ad, c, e, _⟩ := own_cells k1
    have hc := Go.Proofs.AnyF.slices_SortFunc_none (P := Tryz.prog) (ρ := rsort_ren) { rsortF with } ad c (.func (.func 120) #[] #[]) E0.w
    change Calls Tryz.prog 119 _ _ _ at hc
    have e' : E0.σ 0 = .slice ad 0 c := e
    rw [e']
    refine hc.mono ?_
    rintro e w' ⟨rfl, rfl⟩
    exact ⟨.tup [], .tuple #[], _, E0, rfl, hK, by simp, rfl, by
      have : sortR [] = [] := by simp [sortR]
      rw [this]
      exact hI, ⟨[], rfl, trivial⟩⟩
  · obtain ⟨hl, h2⟩ := id k1
    rcases h2 with ⟨e, n0⟩ | ⟨g, cap, cur, e, _, hg, hcap, hcm, hcs, htake⟩
    · exact absurd (List.eq_nil_of_length_eq_zero n0) h0
    · obtain ⟨pp, e1, e2, hps⟩ := DR.pairs k2
      obtain ⟨ps, rfl⟩ := sv_of hps
      have el : ts = ps.map (·.d) := by rw [e1, List.map_map]; rfl
      rw [sv_flat] at e2
      have e2 : xs = ps.map (·.v) := e2
      have hpl : ts.length = ps.length := by rw [el, List.length_map]
      have hbg : blkOf (E0.σ 0) = some g := by rw [e]; rfl
      have hwl' : ∀ p ∈ ps, p.d.length ≤ 1099511627776 := fun p hp => hwl p.d (by rw [el]; exact List.mem_map.2 ⟨p, hp, rfl⟩)
      have hQ : ∀ p ∈ ps, SrtR E0.w g p := fun p hp => by
        obtain ⟨ψ, q1, q2⟩ := hps.mem (List.mem_map.2 ⟨p, hp, rfl⟩)
        exact srtR_of q1 (fun h => k5 g hbg (q2 g h)) (hwl' p hp)
      have hne : ps ≠ [] := fun h => h0 (by rw [el, h]; rfl)
      have hcs : cur.size = cap * 1 := hcs
      rw [Nat.mul_one] at hcs
      have htake : cur.toList.take (ts.length * 1) = xs := htake
      rw [Nat.mul_one] at htake
      have hrun := rsort_run (cap := cap) hg hne hQ hwl' (by rw [← hpl]; exact hlen) (by rw [hcs, ← hpl]; exact hcap) (by rw [← hpl, ← e2]; exact htake)
      rw [e, hpl]
      refine hrun.mono ?_
      rintro e' w' ⟨rfl, qs, cur', hp1, hp2, hp3, hp4, hp5, hp6⟩
      have hqs : qs.map (·.d) = sortR ts := by
        have hperm : (qs.map (·.d)).Perm ts := by rw [el]; exact hp1.map _
        exact sortR_eq hnd hperm hp2
      have hql : qs.length = ts.length := by rw [hp1.length_eq, hpl]
      obtain ⟨E', m1, m2, m3⟩ := hI.upd (i := 0) (b := g) (o := .drow t kR ts) rfl rfl ((k4 g).2 (.inl hbg)) hp3 (.drow t kR (sortR ts)) (fun E' hle hw => by
        refine ⟨qs.map (·.v), φ', ?_, ?_, by rw [sortR_length]; exact k3, k4, k5⟩
        · rw [sortR_length, e, hw]
          refine ⟨?_, .inr ⟨g, cap, cur', rfl, Nat.zero_le _, hp4, hcap, hcm, by show cur'.size = cap * 1; rw [hp5, hcs, Nat.mul_one], by show cur'.toList.take (ts.length * 1) = _; rw [Nat.mul_one, hpl]; exact hp6⟩⟩
          show (qs.map (·.v)).length = ts.length * 1
          rw [List.length_map, hql, Nat.mul_one]
        · rw [← hqs]
          have hdr := (DRp.dr (DRp.perm (hp1.symm.map fun s : K.SV => (s.d, [s.v])) hps))
          rw [sv_flat, List.map_map] at hdr
          have hdr : DR (DRep E0.w kR) φ' (qs.map (·.d)) (qs.map (·.v)) := hdr
          refine hdr.imp (fun ψ x c hψ h => DRep.move (fun b hb => ?_) h)
          rw [hw]
          exact hp3.block b (DRep.lt h b hb) (fun h => by
            injection h with h
            exact k5 g hbg (h ▸ hψ b hb)))
      exact ⟨.tup [], .tuple #[], [.drow t kR (sortR ts)], E', rfl, hK, by simp, m1, m3.congr (fun j => by
        simp only [numb]
        by_cases e0 : 0 = j
        · subst e0; rfl
        · simp only [lk_ne _ _ e0]), ⟨[], rfl, trivial⟩⟩
def c_sortR : Ctr Tryz.prog := ⟨119, ent Tryz.func119 rfl rfl, [true], sp_sortR, good_sortR, []⟩
@[go_sem] theorem c_sortR_f : c_sortR.f = 119 := rfl
@[go_sem] theorem c_sortR_ms : c_sortR.ms = [true] := rfl
@[go_sem] theorem c_sortR_sp : c_sortR.spec = sp_sortR := rfl
@[go_sem] theorem c_sortR_fz : c_sortR.fz = [] := rfl
attribute [go_sem] sp_sortR
end Go.Proofs.YthfmlelodmcgkaaGreat.V
end
section
namespace Go.Proofs.YthfmlelodmcgkaaGreat.V
def leadN : List Int → Nat
  | [] => 0
  | x :: l => if x = 0 then leadN l + 1 else 0
theorem leadN_zero : ∀ {l : List Int} {i : Nat}, i < leadN l → l.getD i 0 = 0
  | [], i, h => by simp
  | x :: l, i, h => by
    rw [leadN] at h
    split at h
    · rename_i e
      cases i with
      | zero => simpa using e
      | succ i => rw [List.getD_cons_succ]; exact leadN_zero (by omega)
    · omega
theorem leadN_ne : ∀ {l : List Int}, leadN l < l.length → l.getD (leadN l) 0 ≠ 0
  | [], h => by simp at h
  | x :: l, h => by
    rw [leadN] at h ⊢
    split
    · rename_i e
      rw [if_pos e] at h
      rw [List.getD_cons_succ]; exact leadN_ne (by simpa using h)
    · rename_i e
      simpa using e
theorem leadN_of {l : List Int} {k : Nat} (h0 : ∀ i, i < k → l.getD i 0 = 0) (h1 : l.getD k 0 ≠ 0) : leadN l = k := by
  have hk : k < l.length := Decidable.byContradiction fun h => h1 (by rw [List.getD_eq_getElem?_getD, List.getElem?_eq_none (by omega)]; rfl)
  rcases Nat.lt_trichotomy (leadN l) k with h | h | h
  · exact absurd (h0 _ h) (leadN_ne (by omega))
  · exact h
  · exact absurd (leadN_zero h) h1
def lessL (p : Int) (v b : List Int) : List Int := v.mapIdx fun i x => (x - v.getD (leadN b) 0 * b.getD i 0) % p
theorem lessL_len (p : Int) (v b : List Int) : (lessL p v b).length = v.length := List.length_mapIdx
theorem get_lt {l : List Int} {i : Nat} (h : i < l.length) : l.getD i 0 = l[i] := by rw [List.getD_eq_getElem?_getD, List.getElem?_eq_getElem h]; rfl
theorem get_ge {l : List Int} {i : Nat} (h : l.length ≤ i) : l.getD i 0 = 0 := by rw [List.getD_eq_getElem?_getD, List.getElem?_eq_none h]; rfl
theorem lessL_get {p : Int} {v b : List Int} {i : Nat} (h : i < v.length) : (lessL p v b).getD i 0 = (v.getD i 0 - v.getD (leadN b) 0 * b.getD i 0) % p := by
  rw [get_lt (by rw [lessL_len]; exact h), get_lt (l := v) h]
  simp only [lessL, List.getElem_mapIdx]
theorem ext_get {a b : List Int} (hl : a.length = b.length) (hg : ∀ j, j < a.length → a.getD j 0 = b.getD j 0) : a = b := by
  refine List.ext_getElem hl (fun j h1 h2 => ?_)
  have := hg j h1
  rwa [get_lt h1, get_lt h2] at this
def okRow (p : Int) (m : Nat) (v : List Int) : Prop := v.length = m ∧ ∀ x ∈ v, 0 ≤ x ∧ x < p
theorem okRow.get {p : Int} {m : Nat} {v : List Int} (h : okRow p m v) (hp : 0 < p) (i : Nat) : 0 ≤ v.getD i 0 ∧ v.getD i 0 < p := by
  by_cases hi : i < v.length
  · rw [get_lt hi]; exact h.2 _ (List.getElem_mem _)
  · rw [get_ge (by omega)]; omega
theorem okRow_of {p : Int} {m : Nat} {v : List Int} (hl : v.length = m) (h : ∀ i, i < m → 0 ≤ v.getD i 0 ∧ v.getD i 0 < p) : okRow p m v := by
  refine ⟨hl, fun x hx => ?_⟩
  obtain ⟨i, hi, rfl⟩ := List.getElem_of_mem hx
  have := h i (by omega)
  rwa [get_lt hi] at this
theorem lessL_ok {p : Int} {m : Nat} {v : List Int} (hp : 0 < p) (h : v.length = m) (b : List Int) : okRow p m (lessL p v b) := by
  refine okRow_of (by rw [lessL_len, h]) (fun i hi => ?_)
  rw [lessL_get (by omega)]
  exact ⟨Int.emod_nonneg _ (by omega), Int.emod_lt_of_pos _ hp⟩
theorem lessL_none {p : Int} {m : Nat} {v b : List Int} (hp : 0 < p) (h : okRow p m v) (h0 : v.getD (leadN b) 0 = 0) : lessL p v b = v := by
  refine ext_get (lessL_len _ _ _) (fun j hj => ?_)
  rw [lessL_len] at hj
  rw [lessL_get hj, h0, Int.zero_mul, Int.sub_zero]
  have := h.get hp j
  exact Int.emod_eq_of_lt this.1 this.2
structure RedRow (p : Int) (m : Nat) (b : List Int) : Prop where
  ok : okRow p m b
  lead : leadN b < m
  one : b.getD (leadN b) 0 = 1
def apartR (r s : List Int) : Prop := r.getD (leadN s) 0 = 0 ∧ s.getD (leadN r) 0 = 0
structure Red (p : Int) (m : Nat) (L : List (List Int)) : Prop where
  rows : ∀ b ∈ L, RedRow p m b
  apart : L.Pairwise apartR
theorem Red.perm {p : Int} {m : Nat} {L L' : List (List Int)} (h : Red p m L) (hp : L.Perm L') : Red p m L' :=
  ⟨fun b hb => h.rows b (hp.mem_iff.2 hb), (hp.pairwise_iff (fun hab => And.symm hab)).1 h.apart⟩
theorem Red.nil (p : Int) (m : Nat) : Red p m [] := ⟨fun b hb => (by cases hb), List.Pairwise.nil⟩
def restL (p : Int) (L : List (List Int)) (v : List Int) : List Int := L.foldl (lessL p) v
theorem restL_len (p : Int) : ∀ (L : List (List Int)) (v : List Int), (restL p L v).length = v.length
  | [], v => rfl
  | b :: L, v => by rw [restL, List.foldl_cons]; exact (restL_len p L _).trans (lessL_len p v b)
def takes (L : List (List Int)) (v : List Int) (i : Nat) : Int := (L.map fun b => v.getD (leadN b) 0 * b.getD i 0).sum
theorem takes_cons (b : List Int) (L : List (List Int)) (v : List Int) (i : Nat) : takes (b :: L) v i = v.getD (leadN b) 0 * b.getD i 0 + takes L v i := by
  simp [takes]
theorem restL_get {p : Int} {m : Nat} (hp : 0 < p) : ∀ {L : List (List Int)} {v : List Int}, Red p m L → okRow p m v → ∀ i, i < m → (restL p L v).getD i 0 = (v.getD i 0 - takes L v i) % p
  | [], v, _, hv, i, hi => by
    have := hv.get hp i
    show v.getD i 0 = (v.getD i 0 - takes [] v i) % p
    rw [takes, List.map_nil, List.sum_nil, Int.sub_zero, Int.emod_eq_of_lt this.1 this.2]
  | b :: L, v, hL, hv, i, hi => by
    have hb := hL.rows b List.mem_cons_self
    obtain ⟨hp1, hp2⟩ := List.pairwise_cons.1 hL.apart
    have hL' : Red p m L := ⟨fun c hc => hL.rows c (List.mem_cons_of_mem _ hc), hp2⟩
    have ih := restL_get hp hL' (lessL_ok hp hv.1 b) i hi
    have e : restL p (b :: L) v = restL p L (lessL p v b) := rfl
    have et : takes L (lessL p v b) i = takes L v i := by
      unfold takes
      congr 1
      refine List.map_congr_left fun c hc => ?_
      have hc0 := (hp1 c hc).1
      have hcm := (hL.rows c (List.mem_cons_of_mem _ hc)).lead
      have hg := hv.get hp (leadN c)
      rw [lessL_get (by rw [hv.1]; exact hcm), hc0, Int.mul_zero, Int.sub_zero, Int.emod_eq_of_lt hg.1 hg.2]
    rw [e, ih, et, lessL_get (by rw [hv.1]; exact hi), takes_cons, Int.emod_sub_emod]
    congr 1
    omega
theorem restL_ok {p : Int} {m : Nat} (hp : 0 < p) {L : List (List Int)} {v : List Int} (hL : Red p m L) (hv : okRow p m v) : okRow p m (restL p L v) := by
  refine okRow_of (by rw [restL_len, hv.1]) (fun i hi => ?_)
  rw [restL_get hp hL hv i hi]
  exact ⟨Int.emod_nonneg _ (by omega), Int.emod_lt_of_pos _ hp⟩
theorem sum_perm {a b : List Int} (h : a.Perm b) : a.sum = b.sum := by
  induction h with
  | nil => rfl
  | cons x _ ih => rw [List.sum_cons, List.sum_cons, ih]
  | swap x y l => simp only [List.sum_cons]; omega
  | trans _ _ h1 h2 => exact h1.trans h2
theorem takes_perm {L L' : List (List Int)} (h : L.Perm L') (v : List Int) (i : Nat) : takes L v i = takes L' v i := by
  unfold takes
  exact sum_perm (h.map _)
theorem restL_perm {p : Int} {m : Nat} (hp : 0 < p) {L L' : List (List Int)} {v : List Int} (hL : Red p m L) (h : L.Perm L') (hv : okRow p m v) : restL p L v = restL p L' v := by
  have h1 := restL_ok hp hL hv
  have h2 := restL_ok hp (hL.perm h) hv
  refine ext_get (by rw [h1.1, h2.1]) (fun j hj => ?_)
  rw [h1.1] at hj
  rw [restL_get hp hL hv j hj, restL_get hp (hL.perm h) hv j hj, takes_perm h]
theorem takes_at {p : Int} {m : Nat} : ∀ {L : List (List Int)}, Red p m L → ∀ (v : List Int) {b : List Int}, b ∈ L → takes L v (leadN b) = v.getD (leadN b) 0
  | c :: L, hL, v, b, hb => by
    obtain ⟨hp1, hp2⟩ := List.pairwise_cons.1 hL.apart
    have hL' : Red p m L := ⟨fun c hc => hL.rows c (List.mem_cons_of_mem _ hc), hp2⟩
    rw [takes_cons]
    rcases List.mem_cons.1 hb with rfl | hb
    · rw [(hL.rows b List.mem_cons_self).one, Int.mul_one]
      have : takes L v (leadN b) = 0 := by
        unfold takes
        have e : (L.map fun c => v.getD (leadN c) 0 * c.getD (leadN b) 0) = L.map fun _ => (0 : Int) :=
          List.map_congr_left fun c hc => by rw [(hp1 c hc).2, Int.mul_zero]
        rw [e]
        clear hL hb hp1 hp2 hL' e
        induction L with
        | nil => rfl
        | cons x L ih => simpa using ih
      omega
    · rw [(hp1 b hb).1, Int.mul_zero, Int.zero_add]
      exact takes_at hL' v hb
theorem restL_zero {p : Int} {m : Nat} (hp : 0 < p) {L : List (List Int)} {v b : List Int} (hL : Red p m L) (hv : okRow p m v) (hb : b ∈ L) : (restL p L v).getD (leadN b) 0 = 0 := by
  rw [restL_get hp hL hv _ (hL.rows b hb).lead, takes_at hL v hb, Int.sub_self]; rfl
def scaleL (p k : Int) (v : List Int) : List Int := v.map fun x => x * k % p
theorem scaleL_get {p k : Int} (v : List Int) (i : Nat) : (scaleL p k v).getD i 0 = v.getD i 0 * k % p := by
  by_cases h : i < v.length
  · rw [get_lt (by rw [scaleL, List.length_map]; exact h), get_lt h]; simp [scaleL]
  · rw [get_ge (by rw [scaleL, List.length_map]; omega), get_ge (by omega), Int.zero_mul]; rfl
theorem scaleL_red {p k : Int} {m : Nat} {v : List Int} (hp : 1 < p) (hv : okRow p m v) (hl : leadN v < m) (hk : v.getD (leadN v) 0 * k % p = 1) : RedRow p m (scaleL p k v) ∧ leadN (scaleL p k v) = leadN v := by
  have hle : leadN (scaleL p k v) = leadN v := leadN_of (fun i hi => by rw [scaleL_get, leadN_zero hi, Int.zero_mul]; rfl) (by rw [scaleL_get, hk]; decide)
  refine ⟨⟨okRow_of (by rw [scaleL, List.length_map, hv.1]) (fun i hi => ?_), by rw [hle]; exact hl, by rw [hle, scaleL_get, hk]⟩, hle⟩
  rw [scaleL_get]
  exact ⟨Int.emod_nonneg _ (by omega), Int.emod_lt_of_pos _ (by omega)⟩
theorem less_red {p : Int} {m : Nat} (hp : 1 < p) {o own : List Int} (ho : RedRow p m o) (hw : RedRow p m own) (h0 : own.getD (leadN o) 0 = 0) :
    RedRow p m (lessL p o own) ∧ leadN (lessL p o own) = leadN o ∧ (lessL p o own).getD (leadN own) 0 = 0 := by
  have hlen : o.length = m := ho.ok.1
  have g : ∀ i, i < m → (lessL p o own).getD i 0 = (o.getD i 0 - o.getD (leadN own) 0 * own.getD i 0) % p := fun i hi => lessL_get (by omega)
  have h1 : (lessL p o own).getD (leadN o) 0 = 1 := by rw [g _ ho.lead, h0, Int.mul_zero, Int.sub_zero, ho.one]; exact Int.emod_eq_of_lt (by omega) hp
  have hle : leadN (lessL p o own) = leadN o := by
    refine leadN_of (fun i hi => ?_) (by rw [h1]; decide)
    rw [g i (by have := ho.lead; omega), leadN_zero hi]
    by_cases e : leadN own < leadN o
    · rw [leadN_zero e, Int.zero_mul]; rfl
    · have hne : leadN own ≠ leadN o := fun e => by rw [← e, hw.one] at h0; exact absurd h0 (by decide)
      rw [leadN_zero (show i < leadN own by omega), Int.mul_zero]; rfl
  refine ⟨⟨lessL_ok (by omega) hlen own, by rw [hle]; exact ho.lead, by rw [hle]; exact h1⟩, hle, ?_⟩
  rw [g _ hw.lead, hw.one, Int.mul_one, Int.sub_self]; rfl
theorem red_map {p : Int} {m : Nat} (hp : 1 < p) {own : List Int} (hw : RedRow p m own) : ∀ {L : List (List Int)}, Red p m L → (∀ o ∈ L, own.getD (leadN o) 0 = 0) → Red p m (L.map fun o => lessL p o own)
  | [], _, _ => Red.nil p m
  | o :: L, hL, h0 => by
    obtain ⟨hp1, hp2⟩ := List.pairwise_cons.1 hL.apart
    have hL' : Red p m L := ⟨fun c hc => hL.rows c (List.mem_cons_of_mem _ hc), hp2⟩
    have ih := red_map hp hw hL' (fun c hc => h0 c (List.mem_cons_of_mem _ hc))
    have ho := less_red hp (hL.rows o List.mem_cons_self) hw (h0 o List.mem_cons_self)
    have gg : ∀ {a c : List Int}, RedRow p m a → RedRow p m c → a.getD (leadN c) 0 = 0 → own.getD (leadN c) 0 = 0 → (lessL p a own).getD (leadN c) 0 = 0 := fun {a c} ha hc h1 h2 => by
      rw [lessL_get (by rw [ha.ok.1]; exact hc.lead), h1, h2, Int.mul_zero]; rfl
    refine ⟨fun b hb => ?_, List.pairwise_cons.2 ⟨fun b hb => ?_, ih.apart⟩⟩
    · rcases List.mem_cons.1 hb with rfl | hb
      · exact ho.1
      · exact ih.rows b hb
    · obtain ⟨c, hc, rfl⟩ := List.mem_map.1 hb
      have hc1 := hL.rows c (List.mem_cons_of_mem _ hc)
      have hc2 := less_red hp hc1 hw (h0 c (List.mem_cons_of_mem _ hc))
      have hpc := hp1 c hc
      exact ⟨by rw [hc2.2.1]; exact gg (hL.rows o List.mem_cons_self) hc1 hpc.1 (h0 c (List.mem_cons_of_mem _ hc)), by rw [ho.2.1]; exact gg hc1 (hL.rows o List.mem_cons_self) hpc.2 (h0 o List.mem_cons_self)⟩
def putI (inv : Int → Int) (p : Int) (L : List (List Int)) (v : List Int) : List (List Int) :=
  if leadN (restL p L v) < v.length then
    (L.map fun o => lessL p o (scaleL p (inv ((restL p L v).getD (leadN (restL p L v)) 0)) (restL p L v))) ++ [scaleL p (inv ((restL p L v).getD (leadN (restL p L v)) 0)) (restL p L v)]
  else L
def insR (f : List Int → List Int) (own : List Int) (k : Nat) : List (List Int) → List (List Int)
  | [] => [own]
  | o :: r => if k < leadN o then own :: (o :: r).map f else f o :: insR f own k r
theorem insR_perm (f : List Int → List Int) (own : List Int) (k : Nat) : ∀ L, (insR f own k L).Perm (L.map f ++ [own])
  | [] => List.Perm.refl _
  | o :: r => by
    rw [insR]
    split
    · exact (List.perm_append_singleton own _).symm
    · rw [List.map_cons, List.cons_append]
      exact (insR_perm f own k r).cons _
def putS (inv : Int → Int) (p : Int) (L : List (List Int)) (v : List Int) : List (List Int) :=
  if leadN (restL p L v) < v.length then
    insR (fun o => lessL p o (scaleL p (inv ((restL p L v).getD (leadN (restL p L v)) 0)) (restL p L v))) (scaleL p (inv ((restL p L v).getD (leadN (restL p L v)) 0)) (restL p L v)) (leadN (restL p L v)) L
  else L
def upR (L : List (List Int)) : Prop := L.Pairwise fun r s => leadN r < leadN s
theorem insR_up {p : Int} {m : Nat} (hp : 1 < p) {own : List Int} (hw : RedRow p m own) : ∀ {L : List (List Int)}, Red p m L → (∀ o ∈ L, own.getD (leadN o) 0 = 0) → upR L → upR (insR (fun o => lessL p o own) own (leadN own) L)
  | [], _, _, _ => List.pairwise_cons.2 ⟨fun _ h => (by cases h), List.Pairwise.nil⟩
  | o :: r, hL, h0, hu => by
    obtain ⟨u1, u2⟩ := List.pairwise_cons.1 hu
    have hL' : Red p m r := ⟨fun c hc => hL.rows c (List.mem_cons_of_mem _ hc), (List.pairwise_cons.1 hL.apart).2⟩
    have hle : ∀ c ∈ o :: r, leadN (lessL p c own) = leadN c := fun c hc => (less_red hp (hL.rows c hc) hw (h0 c hc)).2.1
    have hmap : ∀ s : List (List Int), (∀ c ∈ s, c ∈ o :: r) → upR s → upR (s.map fun c => lessL p c own) := fun s hs h => by
      unfold upR at h ⊢
      rw [List.pairwise_map]
      exact h.imp_of_mem fun {a b} ha hb hab => by rw [hle a (hs a ha), hle b (hs b hb)]; exact hab
    have hne : leadN own ≠ leadN o := fun e => by
      have := h0 o List.mem_cons_self
      rw [← e, hw.one] at this; exact absurd this (by decide)
    rw [insR]
    split
    · rename_i hk
      refine List.pairwise_cons.2 ⟨fun b hb => ?_, hmap _ (fun _ h => h) hu⟩
      obtain ⟨c, hc, rfl⟩ := List.mem_map.1 hb
      rw [hle c hc]
      rcases List.mem_cons.1 hc with rfl | hc
      · exact hk
      · have := u1 c hc; omega
    · rename_i hk
      refine List.pairwise_cons.2 ⟨fun b hb => ?_, insR_up hp hw hL' (fun c hc => h0 c (List.mem_cons_of_mem _ hc)) u2⟩
      rw [hle o List.mem_cons_self]
      have hb := (insR_perm _ _ _ r).mem_iff.1 hb
      rcases List.mem_append.1 hb with hb | hb
      · obtain ⟨c, hc, rfl⟩ := List.mem_map.1 hb
        rw [hle c (List.mem_cons_of_mem _ hc)]
        exact u1 c hc
      · have : b = own := by simpa using hb
        subst this
        omega
def invOk (inv : Int → Int) (p : Int) : Prop := ∀ x, 0 < x → x < p → x * inv x % p = 1
theorem put_own {inv : Int → Int} {p : Int} {m : Nat} (hp : 1 < p) (hi : invOk inv p) {L : List (List Int)} {v : List Int} (hL : Red p m L) (hv : okRow p m v) (h : leadN (restL p L v) < v.length) :
    RedRow p m (scaleL p (inv ((restL p L v).getD (leadN (restL p L v)) 0)) (restL p L v)) ∧ leadN (scaleL p (inv ((restL p L v).getD (leadN (restL p L v)) 0)) (restL p L v)) = leadN (restL p L v) ∧
    ∀ o ∈ L, (scaleL p (inv ((restL p L v).getD (leadN (restL p L v)) 0)) (restL p L v)).getD (leadN o) 0 = 0 := by
  have hr := restL_ok (by omega) hL hv
  have hlm : leadN (restL p L v) < m := by rw [← hv.1]; exact h
  have hg := hr.get (by omega) (leadN (restL p L v))
  have hne := leadN_ne (l := restL p L v) (by rw [hr.1]; exact hlm)
  have hs := scaleL_red hp hr hlm (hi _ (by omega) hg.2)
  refine ⟨hs.1, hs.2, fun o ho => ?_⟩
  rw [scaleL_get, restL_zero (by omega) hL hv ho, Int.zero_mul]; rfl
theorem put_both {inv : Int → Int} {p : Int} {m : Nat} (hp : 1 < p) (hi : invOk inv p) {L O : List (List Int)} {v : List Int} (hL : Red p m L) (hu : upR L) (hO : O.Perm L) (hv : okRow p m v) :
    Red p m (putS inv p L v) ∧ upR (putS inv p L v) ∧ (putI inv p O v).Perm (putS inv p L v) := by
  have e : restL p O v = restL p L v := restL_perm (by omega) (hL.perm hO.symm) hO hv
  unfold putS putI
  rw [e]
  split
  · rename_i h
    obtain ⟨h1, h2, h3⟩ := put_own hp hi hL hv h
    generalize scaleL p (inv ((restL p L v).getD (leadN (restL p L v)) 0)) (restL p L v) = own at *
    have hm := red_map hp h1 hL h3
    have hpm := insR_perm (fun o => lessL p o own) own (leadN (restL p L v)) L
    have happ : Red p m ((L.map fun o => lessL p o own) ++ [own]) := by
      refine ⟨fun b hb => ?_, ?_⟩
      · rcases List.mem_append.1 hb with hb | hb
        · exact hm.rows b hb
        · have : b = own := by simpa using hb
          rw [this]; exact h1
      · rw [List.pairwise_append]
        refine ⟨hm.apart, List.pairwise_cons.2 ⟨fun _ h => (by cases h), List.Pairwise.nil⟩, fun a ha b hb => ?_⟩
        have : b = own := by simpa using hb
        subst this
        obtain ⟨c, hc, rfl⟩ := List.mem_map.1 ha
        have hc2 := less_red hp (hL.rows c hc) h1 (h3 c hc)
        exact ⟨hc2.2.2, by rw [hc2.2.1]; exact h3 c hc⟩
    refine ⟨happ.perm hpm.symm, ?_, ?_⟩
    · rw [← h2]; exact insR_up hp h1 hL h3 hu
    · exact ((hO.map _).append_right _).trans hpm.symm
  · exact ⟨hL, hu, hO⟩
theorem puts_both {inv : Int → Int} {p : Int} {m : Nat} (hp : 1 < p) (hi : invOk inv p) : ∀ {vs : List (List Int)} {L O : List (List Int)}, Red p m L → upR L → O.Perm L → (∀ v ∈ vs, okRow p m v) →
    Red p m (vs.foldl (putS inv p) L) ∧ upR (vs.foldl (putS inv p) L) ∧ (vs.foldl (putI inv p) O).Perm (vs.foldl (putS inv p) L)
  | [], L, O, hL, hu, hO, _ => ⟨hL, hu, hO⟩
  | v :: vs, L, O, hL, hu, hO, hv => by
    obtain ⟨h1, h2, h3⟩ := put_both hp hi hL hu hO (hv v List.mem_cons_self)
    simp only [List.foldl_cons]
    exact puts_both hp hi h1 h2 h3 (fun w hw => hv w (List.mem_cons_of_mem _ hw))
end Go.Proofs.YthfmlelodmcgkaaGreat.V
end
section
namespace Go.Proofs.YthfmlelodmcgkaaGreat.L
open Go Go.RowKit Go.Proofs.YthfmlelodmcgkaaGreatW.PrintWords Go.Proofs.YthfmlelodmcgkaaGreatW.PrintLast Go.Proofs.YthfmlelodmcgkaaGreatW.PrintMore Go.Proofs.YthfmlelodmcgkaaGreat.K
def isWordL (l : List Int) : Bool := decide (l.length ≤ 12) && (twiceL l && decide (normalL l = l))
structure Word (l : List Int) (n : Nat) : Prop where
  len : l.length = 2 * n
  small : n ≤ 6
  range : ∀ j, j < l.length → 0 ≤ rd l j ∧ rd l j < n
  two : ∀ i, i < n → l.count (i : Int) = 2
theorem normFrom_range (l : List Int) : ∀ met, ∀ y ∈ normFrom met l, 0 ≤ y ∧ y < ((metBy met l).length : Int) := by
  have hmono : ∀ (l : List Int) (met : List Int), met.length ≤ (metBy met l).length := by
    intro l
    induction l with
    | nil => intro met; exact Nat.le_refl _
    | cons x r ih =>
      intro met
      rw [metBy]
      split
      · exact ih met
      · have := ih (met ++ [x])
        simp at this
        omega
  induction l with
  | nil => intro met y hy; simp [normFrom] at hy
  | cons x r ih =>
    intro met y hy
    rw [normFrom] at hy
    rw [metBy]
    cases h : met.idxOf? x with
    | some j =>
      rw [h] at hy
      simp only at hy ⊢
      rcases List.mem_cons.mp hy with rfl | hy
      · have h1 := idxOf?_lt h
        have h2 := hmono r met
        omega
      · exact ih met y hy
    | none =>
      rw [h] at hy
      simp only at hy ⊢
      rcases List.mem_cons.mp hy with rfl | hy
      · have h2 := hmono r (met ++ [x])
        simp at h2
        omega
      · exact ih (met ++ [x]) y hy
theorem normFrom_onto (l : List Int) : ∀ met (k : Nat), met.length ≤ k → k < (metBy met l).length → (k : Int) ∈ normFrom met l := by
  induction l with
  | nil => intro met k h1 h2; simp [metBy] at h2; omega
  | cons x r ih =>
    intro met k h1 h2
    rw [metBy] at h2
    rw [normFrom]
    cases h : met.idxOf? x with
    | some j =>
      rw [h] at h2
      exact List.mem_cons_of_mem _ (ih met k h1 h2)
    | none =>
      rw [h] at h2
      simp only at h2 ⊢
      by_cases e : k = met.length
      · subst e; exact List.mem_cons_self
      · exact List.mem_cons_of_mem _ (ih (met ++ [x]) k (by simp; omega) h2)
theorem length_of_counts (n : Nat) : ∀ (l : List Int), (∀ y ∈ l, 0 ≤ y ∧ y < (n : Int)) → (∀ i : Nat, i < n → l.count (i : Int) = 2) → l.length = 2 * n := by
  induction n with
  | zero =>
    intro l h _
    cases l with
    | nil => rfl
    | cons y r =>
      have := h y List.mem_cons_self
      omega
  | succ n ih =>
    intro l h h2
    have h3 := ih (l.filter (fun y => y != (n : Int))) (fun y hy => by
      obtain ⟨hy1, hy2⟩ := List.mem_filter.mp hy
      have := h y hy1
      have : y ≠ (n : Int) := by simpa using hy2
      omega) (fun i hi => by
      rw [List.count_filter (by have : (i : Int) ≠ n := by omega
                                simpa using this)]
      exact h2 i (by omega))
    have h4 : l.length = (l.filter (fun y => y != (n : Int))).length + l.count (n : Int) := by
      clear h h2 h3 ih
      induction l with
      | nil => rfl
      | cons y r ihr =>
        by_cases e : y = (n : Int)
        · subst e; simp; omega
        · have h5 : (y != (n : Int)) = true := by simpa using e
          rw [List.filter_cons, if_pos h5, List.count_cons]
          simp [e]
          omega
    have := h2 n (by omega)
    omega
theorem word_of (l : List Int) (h : isWordL l = true) : ∃ n, Word l n := by
  unfold isWordL at h
  simp only [Bool.and_eq_true, decide_eq_true_eq] at h
  obtain ⟨h12, ht, hn⟩ := h
  have hr : ∀ y ∈ l, 0 ≤ y ∧ y < ((metBy [] l).length : Int) := by
    intro y hy
    exact normFrom_range l [] y (by
      have : normFrom [] l = l := hn
      rw [this]; exact hy)
  have hc : ∀ i : Nat, i < (metBy [] l).length → l.count (i : Int) = 2 := by
    intro i hi
    have hm : (i : Int) ∈ l := by
      have h5 := normFrom_onto l [] i (by simp) hi
      have : normFrom [] l = l := hn
      rw [this] at h5
      exact h5
    have := List.all_eq_true.mp ht _ hm
    simpa using this
  have hlen := length_of_counts _ l hr hc
  exact ⟨_, hlen, by omega, fun j hj => hr _ (rd_mem l j hj), hc⟩
theorem word_range {w : List Int} (hw : isWordL w = true) : w.length ≤ 12 ∧ ∀ x ∈ w, 0 ≤ x ∧ x < ((w.length / 2 : Nat) : Int) := by
  unfold isWordL at hw
  simp only [Bool.and_eq_true, decide_eq_true_eq] at hw
  obtain ⟨h12, ht, hn⟩ := hw
  have hN : normFrom [] w = w := hn
  have hr : ∀ y ∈ w, 0 ≤ y ∧ y < ((metBy [] w).length : Int) := by
    intro y hy
    exact normFrom_range w [] y (by rw [hN]; exact hy)
  have hc : ∀ i : Nat, i < (metBy [] w).length → w.count (i : Int) = 2 := by
    intro i hi
    have h5 := normFrom_onto w [] i (by simp) hi
    rw [hN] at h5
    have := List.all_eq_true.mp ht _ h5
    simpa using this
  have := length_of_counts _ w hr hc
  refine ⟨h12, fun x hx => ?_⟩
  have := hr x hx
  omega
structure Two (l : List Int) (x : Int) (a b : Nat) : Prop where
  ab : a < b
  bl : b < l.length
  ra : rd l a = x
  rb : rd l b = x
  only : ∀ j, j < l.length → rd l j = x → j = a ∨ j = b
theorem rd_append_left (s t : List Int) (j : Nat) (h : j < s.length) : rd (s ++ t) j = rd s j := by
  unfold rd
  rw [Int.toNat_natCast, List.getD_eq_getElem?_getD, List.getD_eq_getElem?_getD, List.getElem?_append_left h]
theorem rd_append_right (s t : List Int) (j : Nat) : rd (s ++ t) ((s.length + j : Nat) : Int) = rd t j := by
  unfold rd
  rw [Int.toNat_natCast, Int.toNat_natCast, List.getD_eq_getElem?_getD, List.getD_eq_getElem?_getD, List.getElem?_append_right (by omega), Nat.add_sub_cancel_left]
theorem rd_cons_zero (x : Int) (t : List Int) : rd (x :: t) ((0 : Nat) : Int) = x := rfl
theorem rd_cons_succ (x : Int) (t : List Int) (j : Nat) : rd (x :: t) ((j + 1 : Nat) : Int) = rd t j := by
  unfold rd
  rw [Int.toNat_natCast, Int.toNat_natCast, List.getD_cons_succ]
theorem rd_not_mem (s : List Int) (x : Int) (h : x ∉ s) (j : Nat) (hj : j < s.length) : rd s j ≠ x := fun e => h (e ▸ rd_mem s j hj)
theorem two_of_count (l : List Int) (x : Int) (h : l.count x = 2) : ∃ a b, Two l x a b := by
  obtain ⟨s, t, rfl, hs⟩ := List.eq_append_cons_of_mem (List.count_pos_iff.mp (show 0 < l.count x by omega))
  have h0 : s.count x = 0 := List.count_eq_zero.mpr hs
  rw [List.count_append, List.count_cons_self, h0] at h
  obtain ⟨s2, t2, rfl, hs2⟩ := List.eq_append_cons_of_mem (List.count_pos_iff.mp (show 0 < t.count x by omega))
  have h1 : s2.count x = 0 := List.count_eq_zero.mpr hs2
  rw [List.count_append, List.count_cons_self, h1] at h
  have ht2 : x ∉ t2 := List.count_eq_zero.mp (by omega)
  refine ⟨s.length, s.length + (s2.length + 1), by omega, by simp, ?_, ?_, fun j hj e => ?_⟩
  · have := rd_append_right s (x :: (s2 ++ x :: t2)) 0
    rw [Nat.add_zero] at this
    rw [this, rd_cons_zero]
  · rw [rd_append_right, rd_cons_succ]
    have := rd_append_right s2 (x :: t2) 0
    rw [Nat.add_zero] at this
    rw [this, rd_cons_zero]
  · rcases Nat.lt_or_ge j s.length with h1 | h1
    · rw [rd_append_left _ _ _ h1] at e
      exact absurd e (rd_not_mem s x hs j h1)
    · obtain ⟨k, rfl⟩ : ∃ k, j = s.length + k := ⟨j - s.length, by omega⟩
      rw [rd_append_right] at e
      match k with
      | 0 => exact Or.inl rfl
      | k + 1 =>
        rw [rd_cons_succ] at e
        right
        rcases Nat.lt_or_ge k s2.length with h2 | h2
        · rw [rd_append_left _ _ _ h2] at e
          exact absurd e (rd_not_mem s2 x hs2 k h2)
        · obtain ⟨u, rfl⟩ : ∃ u, k = s2.length + u := ⟨k - s2.length, by omega⟩
          rw [rd_append_right] at e
          match u with
          | 0 => omega
          | u + 1 =>
            rw [rd_cons_succ] at e
            simp only [List.length_append, List.length_cons] at hj
            exact absurd e (rd_not_mem t2 x ht2 u (by omega))
section
variable {l : List Int} {n : Nat} (hw : Word l n)
include hw
theorem Word.at_ (j : Nat) (hj : j < l.length) : ∃ (i a b : Nat), i < n ∧ rd l j = i ∧ Two l i a b ∧ (j = a ∨ j = b) := by
  obtain ⟨h0, h1⟩ := hw.range j hj
  obtain ⟨i, hi⟩ : ∃ i : Nat, rd l j = i := ⟨(rd l j).toNat, by omega⟩
  obtain ⟨a, b, ht⟩ := two_of_count l i (hw.two i (by omega))
  exact ⟨i, a, b, by omega, hi, ht, ht.only j hj hi⟩
end
theorem idxOf?_map (f : Int → Int) (x : Int) : ∀ met : List Int, (∀ y ∈ met, f y = f x → y = x) → (met.map f).idxOf? (f x) = met.idxOf? x := by
  intro met
  induction met with
  | nil => intro _; rfl
  | cons y r ih =>
    intro h
    rw [List.map_cons, List.idxOf?_cons, List.idxOf?_cons, ih fun z hz => h z (by simp [hz])]
    have : (f y == f x) = (y == x) := by
      by_cases e : y = x
      · subst e; simp
      · have h2 : f y ≠ f x := fun e2 => e (h y (by simp) e2)
        rw [beq_eq_false_iff_ne.mpr h2, beq_eq_false_iff_ne.mpr e]
    rw [this]
theorem normFrom_map (f : Int → Int) (l : List Int) : ∀ met : List Int, (∀ x ∈ met ++ l, ∀ y ∈ met ++ l, f x = f y → x = y) → normFrom (met.map f) (l.map f) = normFrom met l := by
  induction l with
  | nil => intro met _; rfl
  | cons x r ih =>
    intro met h
    rw [List.map_cons, normFrom, normFrom, idxOf?_map f x met fun y hy => h y (by simp [hy]) x (by simp)]
    cases hx : met.idxOf? x with
    | some j =>
      show (j : Int) :: _ = (j : Int) :: _
      rw [ih met fun a ha b hb => h a (by simp at ha ⊢; rcases ha with ha | ha <;> simp [ha]) b (by simp at hb ⊢; rcases hb with hb | hb <;> simp [hb])]
    | none =>
      have := ih (met ++ [x]) fun a ha b hb => h a (by simpa [or_assoc] using ha) b (by simpa [or_assoc] using hb)
      rw [List.map_append, List.map_cons, List.map_nil] at this
      rw [this, List.length_map]
theorem normal_new (a b c : List Int) (u v : Int) (hu : u ∉ a ++ b ++ c) (hv : v ∉ a ++ b ++ c) : normalL (a ++ [u] ++ b ++ [u] ++ c) = normalL (a ++ [v] ++ b ++ [v] ++ c) := by
  have hmap : ∀ l : List Int, v ∉ l → l.map (fun x => if x = v then u else x) = l := by
    intro l hl
    induction l with
    | nil => rfl
    | cons x r ih =>
      simp only [List.mem_cons, not_or] at hl
      rw [List.map_cons, ih hl.2, if_neg (fun e => hl.1 e.symm)]
  simp only [List.mem_append, not_or] at hu hv
  have e : a ++ [u] ++ b ++ [u] ++ c = (a ++ [v] ++ b ++ [v] ++ c).map (fun x => if x = v then u else x) := by
    simp only [List.map_append, hmap a hv.1.1, hmap b hv.1.2, hmap c hv.2, List.map_cons, List.map_nil, if_true]
  rw [e]
  unfold normalL
  have := normFrom_map (fun x => if x = v then u else x) (a ++ [v] ++ b ++ [v] ++ c) [] (by
    have cls : ∀ z ∈ [] ++ (a ++ [v] ++ b ++ [v] ++ c), z = v ∨ (z ≠ u) := by
      intro z hz
      by_cases ez : z = v
      · exact Or.inl ez
      · refine Or.inr fun e2 => ?_
        subst e2
        simp only [List.nil_append, List.mem_append, List.mem_singleton] at hz
        rcases hz with (((hz | hz) | hz) | hz) | hz
        · exact hu.1.1 hz
        · exact ez hz
        · exact hu.1.2 hz
        · exact ez hz
        · exact hu.2 hz
    intro x hx y hy hxy
    by_cases e1 : x = v <;> by_cases e2 : y = v
    · rw [e1, e2]
    · rw [if_pos e1, if_neg e2] at hxy
      rcases cls y hy with h | h
      · exact absurd h e2
      · exact absurd hxy.symm h
    · rw [if_neg e1, if_pos e2] at hxy
      rcases cls x hx with h | h
      · exact absurd h e1
      · exact absurd hxy h
    · rw [if_neg e1, if_neg e2] at hxy
      exact hxy)
  exact this
theorem isW_eq (l : List Int) : V.isW l = isWordL l := rfl
end Go.Proofs.YthfmlelodmcgkaaGreat.L
end
section
namespace Go.Proofs.YthfmlelodmcgkaaGreat.V
open Go
open Go.Proofs.YthfmlelodmcgkaaGreatW.PrintWords (rd)
def idxI (l : List Int) (x : Int) : Int := match l.idxOf? x with | some j => (j : Int) | none => -1
def sp_index : List Cv → List Obj' → Tree
  | [.one (.ro (.int .i64) l), .one (.v (.int .i64 x))], [] => .ret (vi (idxI l x)) []
  | _, _ => .fail
theorem notin_s {l : List Int} {i : Nat} {x : Int} (h : x ∉ l.take i) (hi : i < l.length) (hx : ¬ x = l.getD i 0) : x ∉ l.take (i + 1) := by
  rw [List.take_succ_eq_append_getElem hi, ← getD_eq hi]
  simp only [List.mem_append, List.mem_cons, List.not_mem_nil, or_false, not_or]
  exact ⟨h, hx⟩
theorem idxI_at {l : List Int} {i : Nat} {x : Int} (h : x ∉ l.take i) (hi : i < l.length) (hx : x = l.getD i 0) : idxI l x = i := by
  have e : l = l.take i ++ x :: l.drop (i + 1) := by
    rw [hx, getD_eq hi, ← List.drop_eq_getElem_cons hi, List.take_append_drop]
  have hl : (l.take i).length = i := by rw [List.length_take]; omega
  have e2 : l.idxOf? x = some i := by
    rw [e, List.idxOf?, List.findIdx?_append]
    have : (l.take i).findIdx? (· == x) = none := by
      rw [List.findIdx?_eq_none_iff]
      intro y hy
      simp only [beq_eq_false_iff_ne, ne_eq]
      exact fun e => h (e ▸ hy)
    rw [this, hl]
    simp [List.findIdx?_cons]
  rw [idxI, e2]
theorem idxI_none {l : List Int} {x : Int} (h : x ∉ l) : idxI l x = -1 := by
  have : l.idxOf? x = none := by simpa [List.idxOf?_eq_none_iff] using h
  rw [idxI, this]
set_option maxHeartbeats 4000000 in
set_option maxRecDepth 100000 in
theorem good_index : Good Tryz.prog 166 sp_index := by
  refine good_ofF Tryz.func166 rfl _ rfl _ rfl (tab []) (fun X cs os0 K hok hos hK => ?_)
  clear hos; unfold sp_index at hK
  split at hK
  case h_2 => exact hK.elim
  rename_i l x
  refine ⟨by simp, by simp, ?_⟩
  simp only [go_sem] at hK hok
  simp (maxSteps := 4000000) only [go_sem, Tryz.f166, ↓brB_t, ↓brB_f, Nat.reduceAdd, Int.reduceLE, Int.reduceLT, Int.reduceNeg, decide_true, decide_false, Bool.and_self, Nat.succ_eq_add_one, Int.toNat_natCast, Nat.beq_refl, Bool.and_true, Bool.true_and, Bool.false_or, Bool.or_true, List.all_cons, List.all_nil, Nat.reduceMul, Nat.add_zero, Nat.zero_add, List.length_nil, List.length_cons, dite_true, List.nil_append, Nat.reduceBEq, reduceDIte, reduceIte, reduceCtorEq, Bool.or_false, Bool.true_or, Bool.and_false, Bool.false_and, Bool.not_true, Bool.not_false, Option.isSome_some, Option.isSome_none, Option.getD_some, List.getElem?_cons_zero, List.getElem?_cons_succ, eq_self, and_self, List.take_succ_cons, List.take_zero, List.drop_succ_cons, List.drop_zero]
  have hl := len_i hok.1.1
  clear hok
  refine loop_okF (T := tab []) [0, 1, 7, 8] [] (fun i : Nat => ⟨19, [(0, ri l), (1, vi x), (7, vi (l.length : Nat)), (8, vi i)], []⟩)
    (fun i => i ≤ l.length ∧ x ∉ l.take i) (fun i => l.length - i) 0 rfl rfl ⟨Nat.zero_le _, by simp⟩ (fun i hi => ?_)
  obtain ⟨hi, ht⟩ := hi
  simp only [go_sem, ↓brB_t, ↓brB_f, Nat.reduceAdd, Int.reduceLE, Int.reduceLT, Int.reduceNeg, decide_true, decide_false, Bool.and_self, Nat.succ_eq_add_one, Int.toNat_natCast, Nat.beq_refl, Bool.and_true, Bool.true_and, Bool.false_or, Bool.or_true, List.all_cons, List.all_nil, Nat.reduceMul, Nat.add_zero, Nat.zero_add, List.length_nil, List.length_cons, dite_true, List.nil_append, Nat.reduceBEq, reduceDIte, reduceIte, reduceCtorEq, Bool.or_false, Bool.true_or, Bool.and_false, Bool.false_and, Bool.not_true, Bool.not_false, Option.isSome_some, Option.isSome_none, Option.getD_some, List.getElem?_cons_zero, List.getElem?_cons_succ, eq_self, and_self, List.take_succ_cons, List.take_zero, List.drop_succ_cons, List.drop_zero]
  refine brB_intro (fun h1 => ?_) (fun h1 => ret0 ?_)
  · have h1 := of_decide_eq_true h1
    refine ⟨⟨by omega, by omega⟩, brB_intro (fun h2 => ret0 ?_) (fun h2 => ⟨i + 1, [], ⟨by omega, notin_s ht (by omega) (of_decide_eq_false h2)⟩, by omega, rfl, ?_⟩)⟩
    · rw [idxI_at ht (by omega) (of_decide_eq_true h2)] at hK; exact hK
    · rw [w64_s (n := l.length) (by omega) hl]; rfl
  · have h1 := of_decide_eq_false h1
    rw [List.take_of_length_le (by omega)] at ht
    rw [idxI_none ht] at hK; exact hK
def c_index : Ctr Tryz.prog := ⟨166, ent Tryz.func166 rfl rfl, [], sp_index, good_index, []⟩
@[go_sem] theorem c_index_f : c_index.f = 166 := rfl
@[go_sem] theorem c_index_ms : c_index.ms = [] := rfl
@[go_sem] theorem c_index_sp : c_index.spec = sp_index := rfl
@[go_sem] theorem c_index_fz : c_index.fz = [] := rfl
attribute [go_sem] sp_index
def pl1 (w : List Int) (x : Int) : Int := idxI w x
def pl2 (w : List Int) (x : Int) : Int := idxI w x + 1 + idxI (w.drop (idxI w x + 1).toNat) x
theorem pl_two {w : List Int} {x : Int} (h : w.count x = 2) : ∃ a b : Nat, a < b ∧ b < w.length ∧ pl1 w x = a ∧ pl2 w x = b ∧ idxI w x = a ∧ idxI (w.drop (a + 1)) x = (b : Int) - a - 1 ∧ w.getD a 0 = x ∧ w.getD b 0 = x ∧ ∀ j, j < w.length → w.getD j 0 = x → j = a ∨ j = b := by
  obtain ⟨a, b, ht⟩ := Go.Proofs.YthfmlelodmcgkaaGreat.L.two_of_count w x h
  have gr : ∀ j : Nat, w.getD j 0 = rd w j := fun j => by show _ = w.getD ((j : Int)).toNat 0; rw [Int.toNat_natCast]
  have ab := ht.ab
  have bl := ht.bl
  have e1 : idxI w x = a := by
    refine idxI_at (fun hm => ?_) (by omega) (by rw [gr, ht.ra])
    obtain ⟨j, hj, e⟩ := List.getElem_of_mem hm
    rw [List.length_take] at hj
    rw [List.getElem_take] at e
    rcases ht.only j (by omega) (by rw [← gr, getD_eq (by omega)]; exact e) with h | h <;> omega
  have e2 : idxI (w.drop (a + 1)) x = ((b - a - 1 : Nat) : Int) := by
    have hl : (w.drop (a + 1)).length = w.length - (a + 1) := List.length_drop ..
    have e4 : (w.drop (a + 1)).getD (b - a - 1) 0 = w.getD b 0 := by
      rw [List.getD_eq_getElem?_getD, List.getElem?_drop, show a + 1 + (b - a - 1) = b by omega, List.getD_eq_getElem?_getD]
    refine idxI_at (fun hm => ?_) (by omega) (by rw [e4, gr, ht.rb])
    obtain ⟨j, hj, e⟩ := List.getElem_of_mem hm
    rw [List.length_take] at hj
    rw [List.getElem_take, List.getElem_drop] at e
    rcases ht.only (a + 1 + j) (by omega) (by rw [← gr, getD_eq (by omega)]; exact e) with h | h <;> omega
  have e3 : ((a : Int) + 1).toNat = a + 1 := by omega
  refine ⟨a, b, ab, bl, e1, ?_, e1, by rw [e2]; omega, by rw [gr, ht.ra], by rw [gr, ht.rb], fun j hj e => ht.only j hj (by rw [← gr]; exact e)⟩
  rw [pl2, e1, e3, e2]
  omega
def sp_places : List Cv → List Obj' → Tree
  | [.one (.ro (.int .i64) w), .one (.v (.int .i64 x))], [] => .need (w.length < 1099511627776 ∧ (w : List Int).count x = 2) (.ret (.tup [.one (.v (.int .i64 (pl1 w x))), .one (.v (.int .i64 (pl2 w x)))]) [])
  | _, _ => .fail
theorem w64_places {a b n : Nat} (h : a < b) (hb : b < n) (hn : n < 1099511627776) : w64 ((a : Int) + 1) = ((a + 1 : Nat) : Int) ∧ w64 (((a + 1 : Nat) : Int) + ((b : Int) - a - 1)) = b := by
  refine ⟨by rw [w64_id (by omega) (by omega)]; omega, by rw [w64_id (by omega) (by omega)]; omega⟩
set_option maxHeartbeats 4000000 in
set_option maxRecDepth 100000 in
theorem good_places : Good Tryz.prog 149 sp_places := by
  refine good_ofF Tryz.func149 rfl _ rfl _ rfl (tab [c_index]) (fun X cs os0 K hok hos hK => ?_)
  clear hos; unfold sp_places at hK
  split at hK
  case h_2 => exact hK.elim
  rename_i w x
  refine ⟨by simp, by simp, ?_⟩
  simp only [go_sem] at hK hok
  simp (maxSteps := 4000000) only [go_sem, Tryz.f149, ↓brB_t, ↓brB_f, Nat.reduceAdd, Int.reduceLE, Int.reduceLT, Int.reduceNeg, decide_true, decide_false, Bool.and_self, Nat.succ_eq_add_one, Int.toNat_natCast, Nat.beq_refl, Bool.and_true, Bool.true_and, Bool.false_or, Bool.or_true, List.all_cons, List.all_nil, Nat.reduceMul, Nat.add_zero, Nat.zero_add, List.length_nil, List.length_cons, dite_true, List.nil_append, Nat.reduceBEq, reduceDIte, reduceIte, reduceCtorEq, Bool.or_false, Bool.true_or, Bool.and_false, Bool.false_and, Bool.not_true, Bool.not_false, Option.isSome_some, Option.isSome_none, Option.getD_some, List.getElem?_cons_zero, List.getElem?_cons_succ, eq_self, and_self, List.take_succ_cons, List.take_zero, List.drop_succ_cons, List.drop_zero]
  obtain ⟨⟨hl, hc⟩, hK⟩ := hK
  obtain ⟨a, b, ab, bl, p1, p2, e1, e2, _⟩ := pl_two hc
  have hw := w64_places ab bl hl
  rw [p1, p2] at hK
  clear hok
  simp only [e1, hw.1, Int.toNat_natCast, e2, hw.2]
  exact ⟨⟨by omega, by omega⟩, ret0 hK⟩
def c_places : Ctr Tryz.prog := ⟨149, ent Tryz.func149 rfl rfl, [], sp_places, good_places, []⟩
@[go_sem] theorem c_places_f : c_places.f = 149 := rfl
@[go_sem] theorem c_places_ms : c_places.ms = [] := rfl
@[go_sem] theorem c_places_sp : c_places.spec = sp_places := rfl
@[go_sem] theorem c_places_fz : c_places.fz = [] := rfl
attribute [go_sem] sp_places
def upTo (i a : Nat) : Int := if i ≤ a then -1 else a
def lastI (i a b : Nat) : Int := if i ≤ a then -1 else if i ≤ b then a else b
theorem upTo_k {i a : Nat} (h : i ≠ a) : upTo (i + 1) a = upTo i a := by unfold upTo; split <;> split <;> omega
theorem lastI_k {i a b : Nat} (h : i ≠ a) (h2 : i ≠ b) (ab : a < b) : lastI (i + 1) a b = lastI i a b := by unfold lastI; split <;> split <;> (try split) <;> (try split) <;> omega
theorem upTo_s {a : Nat} : upTo (a + 1) a = a := by unfold upTo; rw [if_neg (by omega)]
theorem lastI_a {a b : Nat} (ab : a < b) : lastI (a + 1) a b = a := by unfold lastI; rw [if_neg (by omega), if_pos (by omega)]
theorem lastI_b {a b : Nat} (ab : a < b) : lastI (b + 1) a b = b := by unfold lastI; rw [if_neg (by omega), if_neg (by omega)]
set_option maxHeartbeats 4000000 in
set_option maxRecDepth 100000 in
theorem good_l01Places : Good Tryz.prog 143 sp_places := by
  refine good_ofF Tryz.func143 rfl _ rfl _ rfl (tab []) (fun X cs os0 K hok hos hK => ?_)
  clear hos; unfold sp_places at hK
  split at hK
  case h_2 => exact hK.elim
  rename_i w x
  refine ⟨by simp, by simp, ?_⟩
  simp only [go_sem] at hK hok
  simp (maxSteps := 4000000) only [go_sem, Tryz.f143, ↓brB_t, ↓brB_f, Nat.reduceAdd, Int.reduceLE, Int.reduceLT, Int.reduceNeg, decide_true, decide_false, Bool.and_self, Nat.succ_eq_add_one, Int.toNat_natCast, Nat.beq_refl, Bool.and_true, Bool.true_and, Bool.false_or, Bool.or_true, List.all_cons, List.all_nil, Nat.reduceMul, Nat.add_zero, Nat.zero_add, List.length_nil, List.length_cons, dite_true, List.nil_append, Nat.reduceBEq, reduceDIte, reduceIte, reduceCtorEq, Bool.or_false, Bool.true_or, Bool.and_false, Bool.false_and, Bool.not_true, Bool.not_false, Option.isSome_some, Option.isSome_none, Option.getD_some, List.getElem?_cons_zero, List.getElem?_cons_succ, eq_self, and_self, List.take_succ_cons, List.take_zero, List.drop_succ_cons, List.drop_zero]
  obtain ⟨⟨hl, hc⟩, hK⟩ := hK
  obtain ⟨a, b, ab, bl, p1, p2, e1, e2, g1, g2, only⟩ := pl_two hc
  rw [p1, p2] at hK
  clear hok e1 e2
  refine loop_okF (T := tab []) [0, 1, 6, 7, 8] [] (fun i : Nat => ⟨27, [(0, ri w), (1, vi x), (6, vi (upTo i a)), (7, vi (lastI i a b)), (8, vi i)], []⟩)
    (fun i => i ≤ w.length) (fun i => w.length - i) 0 rfl rfl (Nat.zero_le _) (fun i hi => ?_)
  simp only [go_sem, ↓brB_t, ↓brB_f, Nat.reduceAdd, Int.reduceLE, Int.reduceLT, Int.reduceNeg, decide_true, decide_false, Bool.and_self, Nat.succ_eq_add_one, Int.toNat_natCast, Nat.beq_refl, Bool.and_true, Bool.true_and, Bool.false_or, Bool.or_true, List.all_cons, List.all_nil, Nat.reduceMul, Nat.add_zero, Nat.zero_add, List.length_nil, List.length_cons, dite_true, List.nil_append, Nat.reduceBEq, reduceDIte, reduceIte, reduceCtorEq, Bool.or_false, Bool.true_or, Bool.and_false, Bool.false_and, Bool.not_true, Bool.not_false, Option.isSome_some, Option.isSome_none, Option.getD_some, List.getElem?_cons_zero, List.getElem?_cons_succ, eq_self, and_self, List.take_succ_cons, List.take_zero, List.drop_succ_cons, List.drop_zero]
  refine brB_intro (fun h1 => ?_) (fun h1 => ret0 ?_)
  · have h1 := of_decide_eq_true h1
    have hs : w64 ((i : Int) + 1) = ((i + 1 : Nat) : Int) := w64_s (n := w.length) (by omega) (by omega)
    refine ⟨⟨by omega, by omega⟩, brB_intro (fun h2 => ?_) (fun h2 => brB_intro (fun h3 => ?_) (fun h3 => ?_))⟩
    · have h2 := of_decide_eq_false (nb h2)
      refine ⟨i + 1, [], by omega, by omega, rfl, ?_⟩
      rw [hs, upTo_k (fun e => h2 (by rw [e]; exact g1)), lastI_k (fun e => h2 (by rw [e]; exact g1)) (fun e => h2 (by rw [e]; exact g2)) ab]; rfl
    · have h2 := of_decide_eq_true (nb' h2)
      have h3 := of_decide_eq_true h3
      have e : i = a := by
        rcases only i (by omega) h2 with h | h
        · exact h
        · subst h; unfold upTo at h3; rw [if_neg (by omega)] at h3; omega
      refine ⟨i + 1, [], by omega, by omega, rfl, ?_⟩
      rw [hs, e, upTo_s, lastI_a ab]; rfl
    · have h2 := of_decide_eq_true (nb' h2)
      have h3 := of_decide_eq_false h3
      have e : i = b := by
        rcases only i (by omega) h2 with h | h
        · subst h; unfold upTo at h3; rw [if_pos (Nat.le_refl _)] at h3; omega
        · exact h
      refine ⟨i + 1, [], by omega, by omega, rfl, ?_⟩
      rw [hs, e, upTo_k (by omega), lastI_b ab]; rfl
  · have h1 := of_decide_eq_false h1
    have e : i = w.length := by omega
    have ea : upTo i a = a := by unfold upTo; rw [if_neg (by omega)]
    have eb : lastI i a b = b := by unfold lastI; rw [if_neg (by omega), if_neg (by omega)]
    rw [ea, eb]; exact hK
def c_l01Places : Ctr Tryz.prog := ⟨143, ent Tryz.func143 rfl rfl, [], sp_places, good_l01Places, []⟩
@[go_sem] theorem c_l01Places_f : c_l01Places.f = 143 := rfl
@[go_sem] theorem c_l01Places_ms : c_l01Places.ms = [] := rfl
@[go_sem] theorem c_l01Places_sp : c_l01Places.spec = sp_places := rfl
@[go_sem] theorem c_l01Places_fz : c_l01Places.fz = [] := rfl
attribute [go_sem] sp_places
end Go.Proofs.YthfmlelodmcgkaaGreat.V
end
section
namespace Go.Proofs.YthfmlelodmcgkaaGreat.V
open Go
def primeB (p : Int) : Bool := decide (p = 2) || (decide (p = 3) || (decide (p = 5) || (decide (p = 7) || (decide (p = 11) || decide (p = 13)))))
def sp_prime : List Cv → List Obj' → Tree
  | [.one (.v (.int .i64 p))], [] => .ret (vb (primeB p)) []
  | _, _ => .fail
set_option maxHeartbeats 4000000 in
set_option maxRecDepth 100000 in
theorem good_l03Prime : Good Tryz.prog 100 sp_prime := by
  refine good_ofF Tryz.func100 rfl _ rfl _ rfl (tab []) (fun X cs os0 K hok hos hK => ?_)
  clear hos; unfold sp_prime at hK
  split at hK
  case h_2 => exact hK.elim
  rename_i p
  refine ⟨by simp, by simp, ?_⟩
  simp only [go_sem] at hK hok
  simp (maxSteps := 4000000) only [go_sem, Tryz.f100, ↓brB_t, ↓brB_f, Nat.reduceAdd, Int.reduceLE, Int.reduceLT, Int.reduceNeg, decide_true, decide_false, Bool.and_self, Nat.succ_eq_add_one, Int.toNat_natCast, Nat.beq_refl, Bool.and_true, Bool.true_and, Bool.false_or, Bool.or_true, List.all_cons, List.all_nil, Nat.reduceMul, Nat.add_zero, Nat.zero_add, List.length_nil, List.length_cons, dite_true, List.nil_append, Nat.reduceBEq, reduceDIte, reduceIte, reduceCtorEq, Bool.or_false, Bool.true_or, Bool.and_false, Bool.false_and, Bool.not_true, Bool.not_false, Option.isSome_some, Option.isSome_none, Option.getD_some, List.getElem?_cons_zero, List.getElem?_cons_succ, eq_self, and_self, List.take_succ_cons, List.take_zero, List.drop_succ_cons, List.drop_zero]
  clear hok
  unfold primeB at hK
  refine brB_intro (fun h => ret0 (by rw [h] at hK; exact hK)) (fun h => ?_)
  rw [h, Bool.false_or] at hK
  refine brB_intro (fun h => ret0 (by rw [h] at hK; exact hK)) (fun h => ?_)
  rw [h, Bool.false_or] at hK
  refine brB_intro (fun h => ret0 (by rw [h] at hK; exact hK)) (fun h => ?_)
  rw [h, Bool.false_or] at hK
  refine brB_intro (fun h => ret0 (by rw [h] at hK; exact hK)) (fun h => ?_)
  rw [h, Bool.false_or] at hK
  refine brB_intro (fun h => ret0 (by rw [h] at hK; exact hK)) (fun h => ?_)
  rw [h, Bool.false_or] at hK
  exact ret0 hK
def c_l03Prime : Ctr Tryz.prog := ⟨100, ent Tryz.func100 rfl rfl, [], sp_prime, good_l03Prime, []⟩
@[go_sem] theorem c_l03Prime_f : c_l03Prime.f = 100 := rfl
@[go_sem] theorem c_l03Prime_ms : c_l03Prime.ms = [] := rfl
@[go_sem] theorem c_l03Prime_sp : c_l03Prime.spec = sp_prime := rfl
@[go_sem] theorem c_l03Prime_fz : c_l03Prime.fz = [] := rfl
attribute [go_sem] sp_prime
def modI (p x : Int) : Int := (w64 (x.tmod p + p)).tmod p
def sp_mod : List Cv → List Obj' → Tree
  | [.one (.v (.int .i64 p)), .one (.v (.int .i64 x))], [] => .need (p ≠ 0) (.ret (vi (modI p x)) [])
  | _, _ => .fail
set_option maxHeartbeats 4000000 in
set_option maxRecDepth 100000 in
theorem good_l03Mod : Good Tryz.prog 71 sp_mod := by
  refine good_ofF Tryz.func71 rfl _ rfl _ rfl (tab []) (fun X cs os0 K hok hos hK => ?_)
  clear hos; unfold sp_mod at hK
  split at hK
  case h_2 => exact hK.elim
  rename_i p x
  refine ⟨by simp, by simp, ?_⟩
  simp only [go_sem] at hK hok
  simp (maxSteps := 4000000) only [go_sem, Tryz.f71, ↓brB_t, ↓brB_f, Nat.reduceAdd, Int.reduceLE, Int.reduceLT, Int.reduceNeg, decide_true, decide_false, Bool.and_self, Nat.succ_eq_add_one, Int.toNat_natCast, Nat.beq_refl, Bool.and_true, Bool.true_and, Bool.false_or, Bool.or_true, List.all_cons, List.all_nil, Nat.reduceMul, Nat.add_zero, Nat.zero_add, List.length_nil, List.length_cons, dite_true, List.nil_append, Nat.reduceBEq, reduceDIte, reduceIte, reduceCtorEq, Bool.or_false, Bool.true_or, Bool.and_false, Bool.false_and, Bool.not_true, Bool.not_false, Option.isSome_some, Option.isSome_none, Option.getD_some, List.getElem?_cons_zero, List.getElem?_cons_succ, eq_self, and_self, List.take_succ_cons, List.take_zero, List.drop_succ_cons, List.drop_zero]
  obtain ⟨hp, hK⟩ := hK
  clear hok
  exact ⟨hp, hp, ret0 hK⟩
def c_l03Mod : Ctr Tryz.prog := ⟨71, ent Tryz.func71 rfl rfl, [], sp_mod, good_l03Mod, []⟩
@[go_sem] theorem c_l03Mod_f : c_l03Mod.f = 71 := rfl
@[go_sem] theorem c_l03Mod_ms : c_l03Mod.ms = [] := rfl
@[go_sem] theorem c_l03Mod_sp : c_l03Mod.spec = sp_mod := rfl
@[go_sem] theorem c_l03Mod_fz : c_l03Mod.fz = [] := rfl
attribute [go_sem] sp_mod
def sp_has : List Cv → List Obj' → Tree
  | [.one (.ro (.int .i64) l), .one (.v (.int .i64 x))], [] => .ret (vb (decide ((x : Int) ∈ (l : List Int)))) []
  | _, _ => .fail
theorem idxI_mem (l : List Int) (x : Int) : decide (0 ≤ idxI l x) = decide (x ∈ l) := by
  by_cases h : x ∈ l
  · rw [decide_eq_true h]
    unfold idxI
    cases e : l.idxOf? x with
    | some j => simp
    | none => exact absurd h (by simpa [List.idxOf?_eq_none_iff] using e)
  · rw [decide_eq_false h, idxI_none h]; rfl
set_option maxHeartbeats 4000000 in
set_option maxRecDepth 100000 in
theorem good_has : Good Tryz.prog 145 sp_has := by
  refine good_ofF Tryz.func145 rfl _ rfl _ rfl (tab [c_index]) (fun X cs os0 K hok hos hK => ?_)
  clear hos; unfold sp_has at hK
  split at hK
  case h_2 => exact hK.elim
  rename_i l x
  refine ⟨by simp, by simp, ?_⟩
  simp only [go_sem] at hK hok
  simp (maxSteps := 4000000) only [go_sem, Tryz.f145, ↓brB_t, ↓brB_f, Nat.reduceAdd, Int.reduceLE, Int.reduceLT, Int.reduceNeg, decide_true, decide_false, Bool.and_self, Nat.succ_eq_add_one, Int.toNat_natCast, Nat.beq_refl, Bool.and_true, Bool.true_and, Bool.false_or, Bool.or_true, List.all_cons, List.all_nil, Nat.reduceMul, Nat.add_zero, Nat.zero_add, List.length_nil, List.length_cons, dite_true, List.nil_append, Nat.reduceBEq, reduceDIte, reduceIte, reduceCtorEq, Bool.or_false, Bool.true_or, Bool.and_false, Bool.false_and, Bool.not_true, Bool.not_false, Option.isSome_some, Option.isSome_none, Option.getD_some, List.getElem?_cons_zero, List.getElem?_cons_succ, eq_self, and_self, List.take_succ_cons, List.take_zero, List.drop_succ_cons, List.drop_zero]
  clear hok
  rw [← idxI_mem] at hK
  exact ret0 hK
def c_has : Ctr Tryz.prog := ⟨145, ent Tryz.func145 rfl rfl, [], sp_has, good_has, []⟩
@[go_sem] theorem c_has_f : c_has.f = 145 := rfl
@[go_sem] theorem c_has_ms : c_has.ms = [] := rfl
@[go_sem] theorem c_has_sp : c_has.spec = sp_has := rfl
@[go_sem] theorem c_has_fz : c_has.fz = [] := rfl
attribute [go_sem] sp_has
set_option maxHeartbeats 4000000 in
set_option maxRecDepth 100000 in
theorem good_isPrime : Good Tryz.prog 104 sp_prime := by
  refine good_ofF Tryz.func104 rfl _ rfl _ rfl (tab [c_has]) (fun X cs os0 K hok hos hK => ?_)
  clear hos; unfold sp_prime at hK
  split at hK
  case h_2 => exact hK.elim
  rename_i p
  refine ⟨by simp, by simp, ?_⟩
  simp only [go_sem] at hK hok
  simp (maxSteps := 4000000) only [go_sem, Tryz.f104, ↓brB_t, ↓brB_f, Nat.reduceAdd, Int.reduceLE, Int.reduceLT, Int.reduceNeg, decide_true, decide_false, Bool.and_self, Nat.succ_eq_add_one, Int.toNat_natCast, Nat.beq_refl, Bool.and_true, Bool.true_and, Bool.false_or, Bool.or_true, List.all_cons, List.all_nil, Nat.reduceMul, Nat.add_zero, Nat.zero_add, List.length_nil, List.length_cons, dite_true, List.nil_append, Nat.reduceBEq, reduceDIte, reduceIte, reduceCtorEq, Bool.or_false, Bool.true_or, Bool.and_false, Bool.false_and, Bool.not_true, Bool.not_false, Option.isSome_some, Option.isSome_none, Option.getD_some, List.getElem?_cons_zero, List.getElem?_cons_succ, eq_self, and_self, List.take_succ_cons, List.take_zero, List.drop_succ_cons, List.drop_zero]
  clear hok
  have e : decide (p ∈ ([2, 3, 5, 7, 11, 13] : List Int)) = primeB p := by
    rw [primeB, Bool.eq_iff_iff]
    simp only [decide_eq_true_eq, Bool.or_eq_true, List.mem_cons, List.not_mem_nil, or_false]
  rw [← e] at hK
  exact ret0 hK
def c_isPrime : Ctr Tryz.prog := ⟨104, ent Tryz.func104 rfl rfl, [], sp_prime, good_isPrime, []⟩
@[go_sem] theorem c_isPrime_f : c_isPrime.f = 104 := rfl
@[go_sem] theorem c_isPrime_ms : c_isPrime.ms = [] := rfl
@[go_sem] theorem c_isPrime_sp : c_isPrime.spec = sp_prime := rfl
@[go_sem] theorem c_isPrime_fz : c_isPrime.fz = [] := rfl
attribute [go_sem] sp_prime
def sp_rest : List Cv → List Obj' → Tree
  | [.one (.v (.int .i64 x)), .one (.v (.int .i64 p))], [] => .need (p ≠ 0) (.ret (vi (modI p x)) [])
  | _, _ => .fail
set_option maxHeartbeats 4000000 in
set_option maxRecDepth 100000 in
theorem good_rest : Good Tryz.prog 76 sp_rest := by
  refine good_ofF Tryz.func76 rfl _ rfl _ rfl (tab []) (fun X cs os0 K hok hos hK => ?_)
  clear hos; unfold sp_rest at hK
  split at hK
  case h_2 => exact hK.elim
  rename_i x p
  refine ⟨by simp, by simp, ?_⟩
  simp only [go_sem] at hK hok
  simp (maxSteps := 4000000) only [go_sem, Tryz.f76, ↓brB_t, ↓brB_f, Nat.reduceAdd, Int.reduceLE, Int.reduceLT, Int.reduceNeg, decide_true, decide_false, Bool.and_self, Nat.succ_eq_add_one, Int.toNat_natCast, Nat.beq_refl, Bool.and_true, Bool.true_and, Bool.false_or, Bool.or_true, List.all_cons, List.all_nil, Nat.reduceMul, Nat.add_zero, Nat.zero_add, List.length_nil, List.length_cons, dite_true, List.nil_append, Nat.reduceBEq, reduceDIte, reduceIte, reduceCtorEq, Bool.or_false, Bool.true_or, Bool.and_false, Bool.false_and, Bool.not_true, Bool.not_false, Option.isSome_some, Option.isSome_none, Option.getD_some, List.getElem?_cons_zero, List.getElem?_cons_succ, eq_self, and_self, List.take_succ_cons, List.take_zero, List.drop_succ_cons, List.drop_zero]
  clear hok
  exact ⟨hK.1, hK.1, ret0 hK.2⟩
def c_rest : Ctr Tryz.prog := ⟨76, ent Tryz.func76 rfl rfl, [], sp_rest, good_rest, []⟩
@[go_sem] theorem c_rest_f : c_rest.f = 76 := rfl
@[go_sem] theorem c_rest_ms : c_rest.ms = [] := rfl
@[go_sem] theorem c_rest_sp : c_rest.spec = sp_rest := rfl
@[go_sem] theorem c_rest_fz : c_rest.fz = [] := rfl
attribute [go_sem] sp_rest
theorem modI_e {p : Int} (h0 : 0 < p) (h1 : p ≤ 1000) (x : Int) : modI p x = x % p := by
  unfold modI
  have h2 : x.tmod p = x % p ∨ x.tmod p = x % p - p := by
    rw [Int.tmod_eq_emod]
    split
    · left; omega
    · right
      have : (p.natAbs : Int) = p := Int.natAbs_of_nonneg (by omega)
      omega
  have h3 := Int.emod_nonneg x (show p ≠ 0 by omega)
  have h4 := Int.emod_lt_of_pos x h0
  rw [w64_id (by omega) (by omega), Int.tmod_eq_emod_of_nonneg (by omega)]
  rcases h2 with h | h <;> rw [h]
  · rw [Int.add_emod_right, Int.emod_emod]
  · rw [Int.sub_add_cancel, Int.emod_emod]
end Go.Proofs.YthfmlelodmcgkaaGreat.V
end
section
namespace Go.Proofs.YthfmlelodmcgkaaGreat.V
open Go
theorem sub_flat {P : Program} {i : Nat} {t : TypeId} {k : Kn} {s : S} (h : lk s.os i = some (.drow t k [])) : Sub P s ⟨s.n, s.rs, (i, .row t k []) :: s.os⟩ := by
  rintro X a w ⟨E, rfl, hI, hr⟩
  have hD := (hI.dom i).2 (by rw [h]; rfl)
  obtain ⟨xs, φ', h1, h2, h3, h4, h5⟩ := hI.obj i _ h
  obtain ⟨rfl, h6⟩ := h2
  obtain ⟨m1, m2⟩ := hI.set i (E.σ i) (E.φ i) (E.ι i) (.row t k []) (fun _ => ⟨rfl, rfl⟩) (fun _ h => absurd hD h) ⟨[], h1, rfl, Nat.zero_le _, fun b => by rw [h4]; simp [h6]⟩
    (fun _ b hb => ⟨(hI.nof i _ h rfl b hb).1, (hI.nof i _ h rfl b hb).2, fun j o hj hlk hlo => hI.dis i j _ _ (Ne.symm hj) h hlk rfl hlo b hb⟩)
  exact ⟨E.at i (E.σ i) (E.φ i) (E.ι i), rfl, m1, hr.defers, hr.size, fun t => RV.mono m2 (hr.reg t)⟩
theorem sub_part {P : Program} {i : Nat} {t : TypeId} {k : Kn} {l : List k.T} {s : S} (h : lk s.os i = some (.drow t k l)) : Sub P s ⟨s.n, s.rs, (i, .part t k l 0) :: s.os⟩ := by
  rintro X a w ⟨E, rfl, hI, hr⟩
  have hD := (hI.dom i).2 (by rw [h]; rfl)
  obtain ⟨xs, φ', h1, h2, h3, h4, h5⟩ := hI.obj i _ h
  obtain ⟨m1, m2⟩ := hI.set i (E.σ i) (E.φ i) (E.ι i) (.part t k l 0) (fun _ => ⟨rfl, rfl⟩) (fun _ h => absurd hD h) ⟨xs, φ', h1, by rw [Nat.zero_mul]; exact h2, h3, h4, h5⟩
    (fun _ b hb => ⟨(hI.nof i _ h rfl b hb).1, (hI.nof i _ h rfl b hb).2, fun j o hj hlk hlo => hI.dis i j _ _ (Ne.symm hj) h hlk rfl hlo b hb⟩)
  exact ⟨E.at i (E.σ i) (E.φ i) (E.ι i), rfl, m1, hr.defers, hr.size, fun t => RV.mono m2 (hr.reg t)⟩
def mvA (i j : Nat) (a : A) : A := match a with
  | .own k => match Nat.beq k i with | true => .own j | false => .own k
  | a => a
theorem mvA_ok {P : Program} {E : Env} {i j : Nat} (hD : E.D j) (hs : E.σ j = E.σ i) {a : A} {u : Value} (h : AV P E a u) : AV P E (mvA i j a) u := by
  unfold mvA
  split
  · rename_i k
    split
    · rename_i e
      have e := Nat.eq_of_beq_eq_true e
      subst e
      exact ⟨hD, by rw [hs]; exact h.2⟩
    · exact h
  · exact h
theorem mvL_ok {P : Program} {E : Env} {i j : Nat} (hD : E.D j) (hs : E.σ j = E.σ i) : ∀ {az_ : List A} {us : List Value}, All2 (AV P E) az_ us → All2 (AV P E) (az_.map (mvA i j)) us
  | [], [], h => h
  | _ :: _, _ :: _, ⟨h1, h2⟩ => ⟨mvA_ok hD hs h1, mvL_ok hD hs h2⟩
theorem sub_move {P : Program} {i j c : Nat} {o : Obj'} {t : TypeId} {az_ : List A} {s : S} (h : lk s.os i = some o) (hl : o.live = true) (hj : lk s.os j = none) (h16 : 16 ≤ j) (hc : lk s.os c = some (.box t az_)) (hci : Nat.beq c i = false) :
    Sub P s ⟨s.n, s.rs, (c, .box t (az_.map (mvA i j))) :: (j, o) :: (i, .dead) :: s.os⟩ := by
  rintro X a w ⟨E, rfl, hI, hr⟩
  have hX : ¬ X.D j := fun h => by have := hI.pin _ h; omega
  have hne : i ≠ c := fun e => by subst e; simp at hci
  have hjc : j ≠ c := fun e => by rw [e, hc] at hj; cases hj
  obtain ⟨E1, h1, h2, h3, h4, h5⟩ := hI.move (i := i) (d := j) h hl hj hX (grown_refl E.w none) (fun b hb => by cases hb) (E.σ i) (E.φ i) (E.ι i) o (fun b hb => .inl hb) (fun E' hle hw => OSat.mono hle (fun _ b _ => by rw [hw]) (hI.obj i _ h))
  have hD : E.D i := (hI.dom i).2 (by rw [h]; rfl)
  have hs : E1.σ j = E1.σ i := by rw [h5, h2.σ i hD]
  have hc1 : lk ((j, o) :: (i, .dead) :: s.os) c = some (.box t az_) := by rw [lk_ne _ _ hjc, lk_ne _ _ hne]; exact hc
  obtain ⟨b, us, k1, k2, k3, k4, k5⟩ := h3.obj c _ hc1
  obtain ⟨E2, m1, m2, m3⟩ := h3.upd (b := b) (w' := E1.w) hc1 rfl ((k5 b).2 (by rw [k1]; rfl)) (grown_refl _ _) (.box t (az_.map (mvA i j))) (fun E' hle hw => ⟨b, us, k1, by rw [hw]; exact k2, (mvL_ok h4 hs k3).imp (fun _ _ h => AV.mono hle h), k4, k5⟩)
  exact ⟨E2, m1.trans h1, m3, hr.defers, hr.size, fun t => RV.mono m2 (RV.mono h2 (hr.reg t))⟩
theorem good_ex {P : Program} {f : FuncId} {α : Type} {sp : List Cv → List Obj' → Tree} {sps : α → List Cv → List Obj' → Tree} (h : ∀ x, Good P f (sps x)) (hs : ∀ cs os K, (sp cs os).run K → ∃ x, (sps x cs os).run K) : Good P f sp := by
  intro E0 cs os0 vs K hF hD h16 hO hdis hnof ha hK
  obtain ⟨x, hx⟩ := hs cs os0 K hK
  exact h x E0 cs os0 vs K hF hD h16 hO hdis hnof ha hx
def nilR (k : Kn) : Cv → Cv
  | .one (.v (.slice none 0 0)) => .one (.ro k [])
  | c => c
theorem nilR_ok {P : Program} {E : Env} {k : Kn} {c : Cv} {u : Value} (h : CV P E c u) : CV P E (nilR k c) u := by
  unfold nilR
  split
  · obtain ⟨⟨rfl, h1⟩, h2⟩ := h
    exact ⟨⟨none, 0, rfl, Nat.le_refl _, Nat.zero_le _, fun j hj => absurd hj (Nat.not_lt_zero j)⟩, h2⟩
  · exact h
theorem nilR_all {P : Program} {E : Env} {k : Kn} : ∀ {cs : List Cv} {us : List Value}, All2 (CV P E) cs us → All2 (CV P E) (cs.map (nilR k)) us
  | [], [], h => h
  | _ :: _, _ :: _, ⟨h1, h2⟩ => ⟨nilR_ok h1, nilR_all h2⟩
theorem good_nil {P : Program} {f : FuncId} (k : Kn) {sp sp' : List Cv → List Obj' → Tree} (h : Good P f sp) (hs : ∀ cs os K, (sp' cs os).run K → (sp (cs.map (nilR k)) os).run K) : Good P f sp' :=
  fun E0 cs os0 vs K hF hD h16 hO hdis hnof ha hK => h E0 _ os0 vs K hF hD h16 hO hdis hnof (nilR_all ha) (hs cs os0 K hK)
end Go.Proofs.YthfmlelodmcgkaaGreat.V
end
