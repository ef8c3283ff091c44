/- Packed texts of this session's: KBase, KShort, KPure, KRows, KMap, KEv, KWord, PAx0, PAx1, PAx2, PAx3, PAx4, PAx5, KWordLaw, KSlices, KGauss, KRenum, PAx10. Conditions: in each. -/
import Derived.Test.YtihfncjpfgdhoaaProg
import Derived.Test.YtihfncjpfgdhoaaWMore
import Derived.Test.YtihfncjpfgdhoaaWLast
import Derived.Test.YtihfncjpfgdhoaaWWords
import Derived.Test.YtihfncjpfgdhoaaWTab
import Derived.Test.YtihfncjpfgdhoaaWApart
import Derived.Test.YtihfncjpfgdhoaaWArr
import Derived.Test.YtihfncjpfgdhoaaWZeros
import Derived.Test.YtihfncjpfgdhoaaWFoot
import Derived.Test.YtihfncjpfgdhoaaWKept
import Derived.Test.YtihfncjpfgdhoaaWShare
import Derived.Test.YtihfncjpfgdhoaaWN
import Derived.Test.YtihfncjpfgdhoaaWRepsOne
import Derived.Test.YtihfncjpfgdhoaaWGuard
import Derived.Test.YtihfncjpfgdhoaaWNEv
import Derived.Maps.OwnOps
import Derived.Maps.OwnSet
import Derived.Maps.Ext
import Derived.Maps.RangeWalk
import Derived.Below
import Derived.Deep.Draws
import Derived.Deep.AppendLies
import Derived.Maps.AppendAt
import Derived.OwnWalk
import Derived.Laws.BytesArg
import Derived.Laws.MakeOwn
import Derived.Laws.OwnMore
import Derived.Deep.OwnRows
import Derived.Tactics
import Derived.Lib.ConvBytes
import Derived.Laws.Slices
import Derived.WalkKit
import Derived.KernelRfl
import Derived.RowKit3
import Derived.Deep.LoopGhost
import Derived.Deep.QuietTactic
import Derived.BigQuiet
import Derived.WideLaws
import Derived.Deep.DeepCutAuto
import Derived.Deep.CutBlock
import Derived.Deep.RegionHeld3
import Derived.Laws.Rows
import Derived.Lib.AppendStr
import Derived.ArgAppend
import Derived.Laws.IdiomCopy
import Derived.OrdersHeld
import Derived.Laws.BitsLemmas
import Derived.RowKit
import Derived.Deep.RegionLaw
import Derived.Lib.SliceRun
import Derived.Lib.Walk
set_option linter.unusedVariables false
set_option linter.unusedSimpArgs false
set_option linter.unusedSectionVars false
section
namespace Go.Proofs.Ytihfncjpfgdhoaa.K
open Go.RowKit Go.Proofs.YtihfncjpfgdhoaaW.PrintWords Go.Proofs.YtihfncjpfgdhoaaW.PrintLast Go.Proofs.YtihfncjpfgdhoaaW.PrintMore
def Runs (P : Program) (fv : Value) (args : Array Value) (w : World) (Q : Ending → World → Prop) : Prop :=
  ∃ (k : Nat) (fn : Func) (first cap : Array Value), fv = .func (.func k) first cap ∧ P.funcs[k]? = some fn ∧ (fn.name == "runtime.NumGoroutine") = false ∧ fn.body.isSome = true ∧ Calls P k (first ++ args ++ cap) w Q
theorem Runs.mono {P : Program} {fv : Value} {args : Array Value} {w : World} {Q Q' : Ending → World → Prop} (h : Runs P fv args w Q) (hq : ∀ e w', Q e w' → Q' e w') : Runs P fv args w Q' := by
  obtain ⟨k, fn, first, cap, h1, h2, h3, h4, h5⟩ := h
  exact ⟨k, fn, first, cap, h1, h2, h3, h4, h5.mono hq⟩
theorem goesV {P : Program} {ops : Array Oper} {Q : Exit → Act → World → Prop} {rest : List Oper} {oi : Oper} {a : Act} {w : World} (N : Option Tmp) (hd : oi.dst = N) (hg : oi.guard = none) {fo : Operand} {aa : Array Operand} {ts : Array TypeId}
    (hop : oi.op = .call { callee := .value fo, args := aa, argTypes := ts }) {fv : Value} (hfv : a.eval fo = fv) (args : Array Value) (hargs : aa.map a.eval = args)
    (h : Runs P fv args w fun e w' => ∃ v, e = .returned v ∧ wpList P ops Q rest (a.put N v) w') : wpList P ops Q (oi :: rest) a w := by
  obtain ⟨k, fn, first, cap, rfl, hf, hname, hb, hc⟩ := h
  refine wpList_plain hg fun K hK => ?_
  have he := enters_ hf hname hb (first ++ args ++ cap) w
  have hrun : (execOp a.eval oi).run P w = .ok (.enter k (first ++ args ++ cap)) w := by
    unfold execOp
    simp [hop, resolve, Deferred.ofValue, invoke, hargs, hfv]
    rw [← Array.append_assoc]
    exact he
  unfold Oper.wp
  rw [hrun, Oper.upon_enter]
  refine hc.mono fun e w'' hh => ?_
  obtain ⟨v, rfl, hk⟩ := hh
  subst hd
  exact hK _ _ hk
structure Step (R : World → World → Prop) : Prop where
  refl : ∀ w, R w w
  trans : ∀ {w1 w2 w3}, R w1 w2 → R w2 w3 → R w1 w3
  draw : ∀ w n, R w (w.drewN n)
  below : ∀ {w w'}, R w w' → Below w.heap.size w w'
theorem drawn_trans {w1 w2 w3 : World} (h : Drawn0 w1 w2) (k : Drawn0 w2 w3) : Drawn0 w1 w3 := by
  obtain ⟨m, rfl⟩ := h
  obtain ⟨n, rfl⟩ := k
  exact ⟨⟨m + n, World.drewN_drewN ..⟩⟩
theorem step_drawn : Step Drawn0 := ⟨Drawn0.refl, fun h k => drawn_trans h k, fun w n => ⟨⟨n, rfl⟩⟩, fun h => h.below⟩
structure Bel (w w' : World) : Prop where mk :: (out : Below w.heap.size w w')
theorem step_bel : Step Bel := ⟨fun w => ⟨Below.refl _ _⟩, fun h k => ⟨below_then h.out h.out.size k.out⟩, fun w n => ⟨pw_below_drewN (Below.refl _ _) n⟩, fun h => h.out⟩
end Go.Proofs.Ytihfncjpfgdhoaa.K
end
section
namespace Go.Proofs.Ytihfncjpfgdhoaa.K
open Go.RowKit Go.Proofs.YtihfncjpfgdhoaaW.PrintWords Go.Proofs.YtihfncjpfgdhoaaW.PrintLast Go.Proofs.YtihfncjpfgdhoaaW.PrintMore
abbrev nb (k : Nat) (A : Option Addr) {α : Type} (l : List α) (c : Nat) : Prop := some k ≠ (.slice A l.length c : Value).ownBlock
theorem far3 {α : Type} {d : Kd α} {e base : Nat} {ok : Nat → Prop} {W : World} {v : Value} {xs : List α} (h : Kd.R d e W base ok v xs) {g t : Nat} {cells : Array Value} (hb : W.heap[g]? = some (.cells cells t (0, 0))) (ht : ∀ q, q ∈ e :: d.E → q ≠ t) (u0 u1 u2 : Value) :
    Kd.R d e (((W.setCell ⟨g, 0, none⟩ u0).setCell ⟨g, 1, none⟩ u1).setCell ⟨g, 2, none⟩ u2) base ok v xs :=
  Kd.R_mono (Kd.R_far (p := ⟨g, 2, none⟩) (Kd.R_far (p := ⟨g, 1, none⟩) (Kd.R_far (p := ⟨g, 0, none⟩) (Kd.R_types h hb ht) (fun _ hk => hk.2) u0) (fun _ hk => hk.2) u1) (fun _ hk => hk.2) u2) (fun _ h_ => h_.1)
theorem fa {α : Type} {d : Kd α} {e base : Nat} {ok : Nat → Prop} {W : World} {v : Value} {xs : List α} (h : Kd.R d e W base ok v xs) {g t : Nat} {cells : Array Value} (hb : W.heap[g]? = some (.cells cells t (0, 0))) {u0 u1 u2 : Value} (ht : ∀ q, q ∈ e :: d.E → q ≠ t := by decide) :
    Kd.R d e (((W.setCell ⟨g, 0, none⟩ u0).setCell ⟨g, 1, none⟩ u1).setCell ⟨g, 2, none⟩ u2) base ok v xs := far3 h hb ht u0 u1 u2
theorem bc3 {W : World} {g t : Nat} {u0 u1 u2 : Value} (h : W.heap[g]? = some (.cells #[u0, u1, u2] t (0, 0))) : W.cell? ⟨g, 0, none⟩ = some u0 ∧ W.cell? ⟨g, 1, none⟩ = some u1 ∧ W.cell? ⟨g, 2, none⟩ = some u2 := ⟨(blk_cell h 0).trans rfl, (blk_cell h 1).trans rfl, (blk_cell h 2).trans rfl⟩
theorem bf3 {W : World} {g t : Nat} {u0 u1 u2 : Value} (h : W.heap[g]? = some (.cells #[u0, u1, u2] t (0, 0))) : W.frozen? ⟨g, 0, none⟩ = false ∧ W.frozen? ⟨g, 1, none⟩ = false ∧ W.frozen? ⟨g, 2, none⟩ = false := ⟨blk_frozen h 0, blk_frozen h 1, blk_frozen h 2⟩
theorem mk0 {p : Prop} (h : p) : Aside0 p := ⟨h⟩
end Go.Proofs.Ytihfncjpfgdhoaa.K
end
section
namespace Go.Proofs.Ytihfncjpfgdhoaa.K
open Go.RowKit Go.Proofs.YtihfncjpfgdhoaaW.PrintWords Go.Proofs.YtihfncjpfgdhoaaW.PrintMore
theorem rd_mem (l : List Int) (k : Nat) (h : k < l.length) : rd l k ∈ l := by
  unfold rd
  rw [List.getD_eq_getElem?_getD, Int.toNat_natCast, List.getElem?_eq_getElem h]
  exact List.getElem_mem _
theorem drop_at (l : List Int) (k : Nat) (h : k < l.length) : l.drop k = rd l k :: l.drop (k + 1) := by
  rw [List.drop_eq_getElem_cons h]
  unfold rd
  rw [List.getD_eq_getElem?_getD, Int.toNat_natCast, List.getElem?_eq_getElem h]
  rfl
def inB (n lo hi : Int) : Bool := decide (lo ≤ n) && decide (n ≤ hi)
end Go.Proofs.Ytihfncjpfgdhoaa.K
end
section
namespace Go.Proofs.Ytihfncjpfgdhoaa.K
open Go.RowKit Go.Proofs.YtihfncjpfgdhoaaW.PrintWords Go.Proofs.YtihfncjpfgdhoaaW.PrintLast Go.Proofs.YtihfncjpfgdhoaaW.PrintMore
theorem info2 : (Try.prog.info? 2).map (fun i => (i.zero, i.size, i.bytes)) = some (some (.int .i64 0), 1, 8) := by kernel_rfl
abbrev RI (w : World) (base : Nat) (ok : Nat → Prop) (v : Value) (xs : List Int) : Prop := Kd.R (Kd.int .i64) 2 w base ok v xs
abbrev CI (w : World) (A : Option Addr) (n : Nat) (xs : List Int) : Prop := Kd.C (Kd.int .i64) w A n xs
theorem ret_int {k : IntKind} {a b : Int} (h : a = b) : Ending.returned (.int k a) = .returned (.int k b) := by rw [h]
theorem Bel.refl (w : World) : Bel w w := ⟨Below.refl _ _⟩
theorem Bel.trans {a b c : World} (h : Bel a b) (k : Bel b c) : Bel a c := step_bel.trans h k
theorem Bel.of {a b : World} (h : Below a.heap.size a b) : Bel a b := ⟨h⟩
section
variable {ops : Array Oper} {rest : List Oper} {o : Oper} {a : Act} {Q : Exit → Act → World → Prop}
theorem lit0 {w0 W : World} (base : Nat) {ok : Nat → Prop} (hgd : o.guard = none) {N : Tmp} (hd : o.dst = some N) (ho : o.op = .buildSlice 22 0 #[]) (hfresh : ok W.heap.size) (HB : Below base w0 W) (hbase : base ≤ W.heap.size)
    (h : ∀ v1 w1, RI w1 base ok v1 [] → Below base w0 w1 → W.grownBy w1 none → (∃ b, v1.ownBlock = some b ∧ W.heap.size ≤ b) → wpList Try.prog ops Q rest (a.put o.dst v1) w1) : wpList Try.prog ops Q (o :: rest) a W := by
  refine Kd.R_lit (Kd.int .i64) base 2 hgd hd (xs := []) (inner := []) (okp := fun _ => False) ?_ (Reps.none _ _) (fun _ h => h.elim) hfresh HB hbase (by simp) h
  unfold execOp
  rw [ho]
  go_simp
theorem putI {w0 W : World} {base : Nat} {ok : Nat → Prop} (hN : o.dst = none) (hgd : o.guard = none) {p x : Operand} (ho : o.op = .store 2 p x) {g n cap o' : Nat} (i : Int) (xs : List Int) (y : Int)
    (haddr : a.eval p = .pointer (some ⟨g, o', none⟩)) (hoff : o' = i.toNat) (hx : a.eval x = .int .i64 y) (HO : RI W base ok (.slice (some ⟨g, 0, none⟩) n cap) xs) (h0 : 0 ≤ i) (hi : i < n) (HB : Below base w0 W)
    (h : ∀ w1, RI w1 base ok (.slice (some ⟨g, 0, none⟩) n cap) (xs.set i.toNat y) → Below base w0 w1 → W.grownBy w1 (some g) → wpList Try.prog ops Q rest a w1) : wpList Try.prog ops Q (o :: rest) a W := by
  obtain ⟨ad, hA, hc⟩ := Kd.at_int (Kd.R_reads' HO).2.2 i h0 (by have := (Kd.R_reads' HO).1; omega)
  obtain rfl := Option.some.inj hA
  rw [add_plain] at hc
  refine Kd.R_store (Kd.int .i64) base hN hgd 2 p x ho 2 i 0 xs y (.int .i64 y) [.int .i64 y] [.int .i64 (rd xs i)] ok (fun _ => False) haddr (by rw [hoff]; show i.toNat = i.toNat * 1 + 0; omega) hx rfl (by kernel_rfl) (by intro q hq; rw [List.mem_singleton.1 hq]; rfl) HO h0 hi rfl ?_ (Nat.le_refl 1) rfl (fun _ h => h.elim) HB h
  intro j u hj
  match j, hj with
  | 0, hj =>
    simp only [List.getElem?_cons_zero, Option.some.injEq] at hj
    subst hj
    show W.cell? ⟨g, i.toNat * 1 + 0, none⟩ = _
    rw [Nat.mul_one, Nat.add_zero]
    exact hc
theorem appI {w0 W : World} {base : Nat} {ok : Nat → Prop} (hgd : o.guard = none) {s x : Operand} (ho : o.op = .call { callee := .builtin .append, args := #[s, x], argTypes := #[22, 22] })
    (v : Value) (xs : List Int) (y : Int) (hs : a.eval s = v) (hx : a.eval x = .slice (some ⟨W.heap.size, 0, none⟩) 1 1) (hfresh : ∀ k, W.heap.size ≤ k → ok k)
    (HO : RI W base ok v xs) (HB : Below base w0 W) (hbase : base ≤ W.heap.size) (hl : xs.length < 17592186044416)
    (h : ∀ v1 w1, RI w1 base ok v1 (xs ++ [y]) → Below base w0 w1 → W.grownBy w1 v.ownBlock → (v1.ownBlock = v.ownBlock ∨ ∃ b, v1.ownBlock = some b ∧ W.heap.size ≤ b) → wpList Try.prog ops Q rest (a.put o.dst v1) w1) :
    wpList Try.prog ops Q (o :: rest) a (W.alloc (.cells #[.int .i64 y] 2)) :=
  Kd.R_append (Kd.int .i64) base hgd s x 22 2 (.int .i64 0) 8 ho Try.underlying22 info2 rfl (by decide) (by omega) v xs y [.int .i64 y] ok (fun _ => False) hs hx rfl (fun _ h => h.elim) hfresh HO HB hbase (by omega) h
end
end Go.Proofs.Ytihfncjpfgdhoaa.K
end
section
namespace Go.Proofs.Ytihfncjpfgdhoaa.K
open Go.RowKit Go.Proofs.YtihfncjpfgdhoaaW.PrintWords Go.Proofs.YtihfncjpfgdhoaaW.PrintLast Go.Proofs.YtihfncjpfgdhoaaW.PrintMore
open Go.Maps (Keyed)
def hR (v : Value) : Option (DataW Value × List MemPlace) := some (.held v, [])
def MapV (w : World) (P : Program) (k : TypeId) (b s : Nat) (m : Lit → Option Value) : Prop :=
  ∃ D, w.ownsMap P k hR b s D ∧ Maps.size D = s ∧ ∀ kl, WideAt.IsKeyLit kl → Maps.has D kl = (m kl).isSome ∧ ∀ v, m kl = some v → ∀ z, D.atKey kl z = .held v
section
variable {P : Program} {k : TypeId} {w w1 : World} {b s : Nat} {m : Lit → Option Value}
theorem MapV.made (w : World) (P : Program) (k : TypeId) : MapV (w.alloc (.map #[] 0)) P k w.heap.size 0 fun _ => none :=
  ⟨.map [], World.ownsMap_made _ _ _ _, rfl, fun kl _ => ⟨rfl, fun v h => by cases h⟩⟩
theorem MapV.lt (h : MapV w P k b s m) : b < w.heap.size := by
  obtain ⟨D, hD, _⟩ := h
  exact hD.lt
theorem MapV.kept (h : MapV w P k b s m) {row : Option Nat} (hg : w.grownBy w1 row) (hne : some b ≠ row) : MapV w1 P k b s m := by
  obtain ⟨D, hD, hs, hm⟩ := h
  exact ⟨D, hD.kept hg hne, hs, hm⟩
theorem MapV.block (h : MapV w P k b s m) (hb : w1.heap[b]? = w.heap[b]?) : MapV w1 P k b s m := by
  obtain ⟨D, ⟨es, clock, h1, h2⟩, hs, hm⟩ := h
  exact ⟨D, ⟨es, clock, hb.trans h1, h2⟩, hs, hm⟩
theorem MapV.below (h : MapV w P k b s m) (hb : Below w.heap.size w w1) : MapV w1 P k b s m := h.block (hb.block b h.lt)
theorem MapV.congr (h : MapV w P k b s m) {m' : Lit → Option Value} (he : ∀ kl, WideAt.IsKeyLit kl → m' kl = m kl) : MapV w P k b s m' := by
  obtain ⟨D, hD, hs, hm⟩ := h
  exact ⟨D, hD, hs, fun kl hk => by rw [he kl hk]; exact hm kl hk⟩
variable {ops : Array Oper} {rest : List Oper} {o : Oper} {a : Act} {Q : Exit → Act → World → Prop} {W : World}
theorem mapMake {t e : TypeId} (hgd : o.guard = none) {N : Tmp} (hd : o.dst = some N) (ho : o.op = .makeMap t none) (ht : P.underlying t = some (.map k e))
    (h : ∀ w1, MapV w1 P k W.heap.size 0 (fun _ => none) → W.grownBy w1 none → Below W.heap.size W w1 → w1.heap.size = W.heap.size + 1 → wpList P ops Q rest (a.put o.dst (.map (some W.heap.size))) w1) : wpList P ops Q (o :: rest) a W := by
  refine Kd.event_run hgd ?_ (h (W.alloc (.map #[] 0)) (MapV.made _ _ _) (World.grownBy_alloc W _ none) (below_alloc (Below.refl _ _) _) (by simp))
  unfold execOp
  have hmm := @run_makeMap P
  simp [ho, hmm, Result.andThen]
theorem mapLookOk {t e : TypeId} (hgd : o.guard = none) {mm x : Operand} (ho : o.op = .lookup t mm x true) (K : Keyed P k) (ht : P.underlying t = some (.map k e)) {z : Value} (hz : (zeroValue e).run P W = .ok z W)
    (hM : MapV W P k b s m) (hm : a.eval mm = .map (some b)) (key : Value) (kl : Lit) (hx : a.eval x = key) (hkey : keyOf P k key = some kl) (hkl : WideAt.IsKeyLit kl)
    (h : wpList P ops Q rest (a.put o.dst (.tuple #[(m kl).getD z, .bool (m kl).isSome])) W) : wpList P ops Q (o :: rest) a W := by
  obtain ⟨D, hD, hs, hmm⟩ := hM
  obtain ⟨h1, h2⟩ := hmm kl hkl
  refine wpList_lookup_own_ok W hgd mm x t ho k e K ht hR hz (.held z) [] rfl b s D hm hD key kl hx hkey fun v ps hv => ?_
  have hv2 : DataW.held v = D.atKey kl (.held z) := (Prod.mk.inj (Option.some.inj hv)).1
  rw [h1]
  cases e1 : m kl with
  | none =>
    rw [e1] at h1 h
    rw [Maps.atKey_of_not_has h1] at hv2
    injection hv2 with hv2
    subst hv2
    exact h
  | some u =>
    rw [e1] at h
    rw [h2 u e1] at hv2
    injection hv2 with hv2
    subst hv2
    exact h
theorem mapLook {t e : TypeId} (hgd : o.guard = none) {mm x : Operand} (ho : o.op = .lookup t mm x false) (K : Keyed P k) (ht : P.underlying t = some (.map k e)) {z : Value} (hz : (zeroValue e).run P W = .ok z W)
    (hM : MapV W P k b s m) (hm : a.eval mm = .map (some b)) (key : Value) (kl : Lit) (hx : a.eval x = key) (hkey : keyOf P k key = some kl) (hkl : WideAt.IsKeyLit kl)
    (h : wpList P ops Q rest (a.put o.dst ((m kl).getD z)) W) : wpList P ops Q (o :: rest) a W := by
  obtain ⟨D, hD, hs, hmm⟩ := hM
  obtain ⟨h1, h2⟩ := hmm kl hkl
  obtain ⟨v, ps, hrun, hv⟩ := hD.lookup K ht hz (zd := .held z) (zp := []) rfl hkey
  have hv2 : DataW.held v = D.atKey kl (.held z) := (Prod.mk.inj (Option.some.inj hv)).1
  have hv3 : (m kl).getD z = v := by
    cases e1 : m kl with
    | none =>
      rw [e1] at h1
      rw [Maps.atKey_of_not_has h1] at hv2
      injection hv2 with hv2
      exact hv2.symm
    | some u =>
      rw [h2 u e1] at hv2
      injection hv2 with hv2
      exact hv2.symm
  rw [hv3] at h
  refine Kd.event_run hgd ?_ h
  unfold execOp
  simp [ho, hm, hx, hrun, Result.andThen]
theorem mapStore {t e : TypeId} (hgd : o.guard = none) {mm x y : Operand} (ho : o.op = .mapUpdate t mm x y) (K : Keyed P k) (ht : P.underlying t = some (.map k e))
    (hM : MapV W P k b s m) (hs : s < 1099511627776) (hm : a.eval mm = .map (some b)) (key val : Value) (kl : Lit) (hx : a.eval x = key) (hv : a.eval y = val) (hkey : keyOf P k key = some kl) (hkl : WideAt.IsKeyLit kl)
    (h : ∀ w', MapV w' P k b (if (m kl).isSome then s else s + 1) (fun l => if l.sameKey kl = true then some val else m l) → W.grownBy w' (some b) → wpList P ops Q rest (a.put o.dst undef) w') : wpList P ops Q (o :: rest) a W := by
  obtain ⟨D, hD, hsz, hmm⟩ := hM
  refine wpList_mapUpdate_own W hgd mm x y t ho k e K ht hR b s D hm hD (by simp only [maxLen]; omega) key val kl hx hv hkey (.held val) [] rfl fun w' hD' hg => h w' ⟨D.put kl (.held val), ?_, ?_, ?_⟩ hg
  · have ht2 := hD.tidy K
    have e1 : Maps.size (D.put kl (.held val)) = if (m kl).isSome then s else s + 1 := by rw [Maps.size_put ht2, (hmm kl hkl).1, hsz]
    obtain ⟨es, clock, hb, F, hle, hDe⟩ := hD'
    refine ⟨es, clock, hb, F, ?_, hDe⟩
    have : es.size = Maps.size (D.put kl (.held val)) := by rw [hDe]; simp [Maps.size, length_sorted]
    rw [this, e1]
    exact Nat.le_refl _
  · rw [Maps.size_put (hD.tidy K), (hmm kl hkl).1, hsz]
  · intro kl' hk'
    dsimp only
    by_cases he : kl' = kl
    · subst he
      refine ⟨by rw [Maps.has_put_same hD.isMap hk', if_pos (WideAt.sameKey_self hk')]; rfl, fun v hv z => ?_⟩
      rw [if_pos (WideAt.sameKey_self hk')] at hv
      obtain rfl := Option.some.inj hv
      exact Maps.atKey_put_same hD.isMap hk' _ _
    · have hes : ¬ kl'.sameKey kl = true := fun h => he (WideAt.sameKey_eq h)
      refine ⟨by rw [Maps.has_put_other he, if_neg hes]; exact (hmm kl' hk').1, fun v hv z => ?_⟩
      rw [if_neg hes] at hv
      rw [Maps.atKey_put_other he]
      exact (hmm kl' hk').2 v hv z
theorem mapLen {t e : TypeId} (hgd : o.guard = none) {mm : Operand} (ho : o.op = .call { callee := .builtin .len, args := #[mm], argTypes := #[t] }) (ht : P.underlying t = some (.map k e))
    (hM : MapV W P k b s m) (hm : a.eval mm = .map (some b)) (h : wpList P ops Q rest (a.put o.dst (.int .i64 s)) W) : wpList P ops Q (o :: rest) a W := by
  obtain ⟨D, hD, hs, _⟩ := hM
  subst hs
  exact wpList_len_own W hgd mm t ho k e ht hR b _ D hm hD h
def MapR (w : World) (P : Program) (k : TypeId) (b r : Nat) (m : Lit → Option Value) (left : Lit → Bool) (cnt : Nat) : Prop :=
  ∃ D n, w.ranges P k hR b r n D left cnt ∧ ∀ kl, WideAt.IsKeyLit kl → Maps.has D kl = (m kl).isSome ∧ ∀ v, m kl = some v → ∀ z, D.atKey kl z = .held v
theorem MapR.left_eq {left : Lit → Bool} {r cnt : Nat} (h : MapR w P k b r m left cnt) : w.rangeLeft b r = cnt := by
  obtain ⟨D, n, h, _⟩ := h
  exact h.left_eq
theorem MapR.kept {left : Lit → Bool} {r cnt : Nat} (h : MapR w P k b r m left cnt) {row : Option Nat} (hg : w.grownBy w1 row) (hb : some b ≠ row) (hr : some r ≠ row) : MapR w1 P k b r m left cnt := by
  obtain ⟨D, n, h, hm⟩ := h
  exact ⟨D, n, h.kept hg hb hr, hm⟩
theorem MapR.lt {left : Lit → Bool} {r cnt : Nat} (h : MapR w P k b r m left cnt) : b < w.heap.size ∧ r < w.heap.size := by
  obtain ⟨D, n, h, hm⟩ := h
  exact ⟨h.owns.lt, h.lt⟩
theorem MapR.below {left : Lit → Bool} {r cnt : Nat} (h : MapR w P k b r m left cnt) (hb : Below w.heap.size w w1) : MapR w1 P k b r m left cnt :=
  h.kept (grown_of_below hb none) (by simp) (by simp)
theorem mapRange {t e : TypeId} (hgd : o.guard = none) {mm : Operand} (ho : o.op = .range t mm) (K : Keyed P k) (ht : P.underlying t = some (.map k e)) (hM : MapV W P k b s m) (hm : a.eval mm = .map (some b))
    (h : ∀ w' left, (∀ kl, WideAt.IsKeyLit kl → left kl = (m kl).isSome) → MapR w' P k b W.heap.size m left s → W.grownBy w' none → w'.heap.size = W.heap.size + 1 → wpList P ops Q rest (a.put o.dst (.pointer (some ⟨W.heap.size, 0, none⟩))) w') : wpList P ops Q (o :: rest) a W := by
  obtain ⟨D, hD, hs, hmm⟩ := hM
  subst hs
  exact wpList_range_own W hgd mm t ho k e K ht hR b _ D hm hD fun w' h1 h2 h3 => h w' _ (fun kl hk => (hmm kl hk).1) ⟨D, _, h1, hmm⟩ h2 h3
theorem mapNext (hgd : o.guard = none) {it : Operand} (ho : o.op = .next it false) (K : Keyed P k) {r cnt : Nat} {left : Lit → Bool} (hM : MapR W P k b r m left cnt) (hit : a.eval it = .pointer (some ⟨r, 0, none⟩))
    (hDone : cnt = 0 → (∀ kl, left kl = false) → wpList P ops Q rest (a.put o.dst (.tuple #[.bool false])) W)
    (hMore : ∀ key v kl w' cnt', keyOf P k key = some kl → WideAt.IsKeyLit kl → left kl = true → m kl = some v → MapR w' P k b r m (fun z => left z && !z.sameKey kl) cnt' → cnt' < cnt → W.grownBy w' (some r) → w'.heap.size = W.heap.size →
      (Instr.entry (.pointer (some ⟨r, 0, none⟩))).run P w' = .ok (.tuple #[key, v]) w' → wpList P ops Q rest (a.put o.dst (.tuple #[.bool true, key, v])) w') : wpList P ops Q (o :: rest) a W := by
  obtain ⟨D, n, hD, hmm⟩ := hM
  refine wpList_next_ranges W hgd it ho k K hR id id (fun key kl _ => ⟨key, rfl⟩) (fun v y _ => ⟨v, rfl⟩) b r n D left cnt hit hD hDone ?_
  intro key v kl y w' cnt' hkey hl hv hat hD' hc hg hsz hen
  have hkl := K.key hkey
  have hy : y.1 = .held v := by
    have := Option.some.inj hv
    rw [← this]
    rfl
  have hmk : m kl = some v := by
    obtain ⟨h1, h2⟩ := hmm kl hkl
    cases e1 : m kl with
    | none =>
      rw [e1] at h1
      have h3 := hat .nil
      rw [Maps.atKey_of_not_has h1, hy] at h3
      cases h3
    | some u =>
      have h3 := h2 u e1 .nil
      rw [hat .nil, hy] at h3
      injection h3 with h3
      rw [h3]
  exact hMore key v kl w' cnt' hkey hkl hl hmk ⟨D, n, hD', hmm⟩ hc hg hsz hen
end
end Go.Proofs.Ytihfncjpfgdhoaa.K
end
section
namespace Go.Proofs.Ytihfncjpfgdhoaa.K
open Go.RowKit Go.Proofs.YtihfncjpfgdhoaaW.PrintWords Go.Proofs.YtihfncjpfgdhoaaW.PrintLast Go.Proofs.YtihfncjpfgdhoaaW.PrintMore
theorem ev_of {α : Type} {g : Nat → Option α} {r : α} (hg : ∀ k, LeO (g k) (g (k + 1))) (h : ∃ k, g k = some r) : Ev g r := by
  obtain ⟨k, h⟩ := h
  exact Ev.of hg h
theorem ev_some {α : Type} (r : α) : Ev (fun _ => some r) r := Ev.now r
theorem ev_if {α : Type} {c : Prop} [Decidable c] {f g : Nat → Option α} {r : α} (h1 : c → Ev f r) (h2 : ¬ c → Ev g r) : Ev (fun k => if c then f k else g k) r := by
  by_cases h : c
  · obtain ⟨K, hk⟩ := h1 h
    exact ⟨K, fun k hK => by simp only [if_pos h]; exact hk k hK⟩
  · obtain ⟨K, hk⟩ := h2 h
    exact ⟨K, fun k hK => by simp only [if_neg h]; exact hk k hK⟩
theorem ev_pos {α : Type} {c : Prop} [Decidable c] {f g : Nat → Option α} {r : α} (h : c) (h1 : Ev f r) : Ev (fun k => if c then f k else g k) r := ev_if (fun _ => h1) (fun h2 => absurd h h2)
theorem ev_neg {α : Type} {c : Prop} [Decidable c] {f g : Nat → Option α} {r : α} (h : ¬ c) (h1 : Ev g r) : Ev (fun k => if c then f k else g k) r := ev_if (fun h2 => absurd h2 h) (fun _ => h1)
theorem ev_const {α β : Type} {x : Option α} {f : Nat → α → Option β} {a : α} {r : β} (h : x = some a) (k : Ev (fun n => f n a) r) : Ev (fun n => x.bind (f n)) r := by
  subst h
  exact k
theorem ev_eq {α : Type} {g : Nat → Option α} {r r' : α} (h : Ev g r) (e : r = r') : Ev g r' := e ▸ h
theorem wrap_id {x : Int} (h0 : -9223372036854775808 ≤ x) (h1 : x ≤ 9223372036854775807) : wrap64 x = x := by unfold wrap64; omega
end Go.Proofs.Ytihfncjpfgdhoaa.K
end
section
namespace Go.Proofs.Ytihfncjpfgdhoaa.K
open Go.RowKit Go.Proofs.YtihfncjpfgdhoaaW.PrintWords Go.Proofs.YtihfncjpfgdhoaaW.PrintLast Go.Proofs.YtihfncjpfgdhoaaW.PrintMore
def normFrom (met : List Int) : List Int → List Int
  | [] => []
  | x :: r => match met.idxOf? x with
    | some j => (j : Int) :: normFrom met r
    | none => (met.length : Int) :: normFrom (met ++ [x]) r
def normalL (l : List Int) : List Int := normFrom [] l
def metBy (met : List Int) : List Int → List Int
  | [] => met
  | x :: r => match met.idxOf? x with
    | some j => metBy met r
    | none => metBy (met ++ [x]) r
theorem normFrom_length (l : List Int) : ∀ met, (normFrom met l).length = l.length := by
  induction l with
  | nil => intro met; rfl
  | cons x r ih => intro met; rw [normFrom]; split <;> simp [ih]
theorem normalL_length (l : List Int) : (normalL l).length = l.length := normFrom_length _ _
theorem idxOf?_lt {met : List Int} {x : Int} {j : Nat} (h : met.idxOf? x = some j) : j < met.length := by
  rw [List.idxOf?, List.findIdx?_eq_some_iff_findIdx_eq] at h
  exact h.1
theorem idxOf?_snoc (met : List Int) (x y : Int) (h : met.idxOf? x = none) : (met ++ [x]).idxOf? y = if y = x then some met.length else met.idxOf? y := by
  have h2 : x ∉ met := by simpa [List.idxOf?_eq_none_iff] using h
  by_cases e : y = x
  · subst e
    rw [if_pos rfl]
    simp only [List.idxOf?, List.findIdx?_append]
    have : List.findIdx? (fun z => z == y) met = none := h
    simp [this]
  · rw [if_neg e]
    simp only [List.idxOf?, List.findIdx?_append]
    cases h3 : List.findIdx? (fun z => z == y) met with
    | some j => simp
    | none => simp [Ne.symm e]
theorem law_i64 : Go.Maps.Keyed Try.prog 2 := Go.Maps.int_keyed Try.underlying2
theorem zero_i64 (w : World) : (zeroValue 2).run Try.prog w = .ok (.int .i64 0) w := by kernel_rfl
theorem zero_int (w : World) : (zeroValue 3).run Try.prog w = .ok (.int .i64 0) w := by kernel_rfl
theorem key_i64 {x : Int} (h : (Lit.int .i64 x).wf = true) : keyOf Try.prog 2 (.int .i64 x) = some (.int .i64 x) := Go.Maps.keyOf_int_mk Try.underlying2 h
def in64 (x : Int) : Prop := -9223372036854775808 ≤ x ∧ x ≤ 9223372036854775807
def Ok64 (l : List Int) : Prop := ∀ x ∈ l, in64 x
theorem in64_wf {x : Int} (h : in64 x) : (Lit.int .i64 x).wf = true := WalkArith.wf_i64 h
theorem wf_in64 {x : Int} (h : (Lit.int .i64 x).wf = true) : in64 x := by
  have hmin : IntKind.i64.min = -9223372036854775808 := rfl
  have hmax : IntKind.i64.max = 9223372036854775807 := rfl
  simp only [Lit.wf, Bool.and_eq_true, decide_eq_true_eq] at h
  unfold in64
  omega
theorem drop_at' (l : List Int) (k : Int) (h0 : 0 ≤ k) (h : k < l.length) : l.drop ((k + 1).toNat - 1) = rd l k :: l.drop (k + 1).toNat := by
  have := drop_at l k.toNat (by omega)
  rw [show ((k.toNat : Nat) : Int) = k by omega] at this
  rw [show (k + 1).toNat - 1 = k.toNat by omega, this, show (k + 1).toNat = k.toNat + 1 by omega]
def namesOf (met : List Int) : Lit → Option Value
  | .int .i64 x => (met.idxOf? x).map fun (j : Nat) => Value.int .i64 (j : Int)
  | _ => none
theorem namesOf_snoc (met : List Int) (x : Int) (h : met.idxOf? x = none) (kl : Lit) :
    namesOf (met ++ [x]) kl = if kl.sameKey (.int .i64 x) = true then some (.int .i64 (met.length : Int)) else namesOf met kl := by
  cases kl with
  | int q y =>
    cases q <;> simp [namesOf, Lit.sameKey]
    rw [idxOf?_snoc met x y h]
    split <;> simp
  | _ => simp [namesOf, Lit.sameKey]
set_option maxHeartbeats 1000000 in
set_option maxRecDepth 100000 in
theorem c_normal (A0 : Option Addr) (c0 : Nat) (l : List Int) (w : World) (hl : l.length < 1099511627776) (h64 : Ok64 l) (hr : CI w A0 l.length l) :
    Calls Try.prog 92 #[.slice A0 l.length c0] w fun e w' => ∃ v : Value, e = .returned v ∧ RI w' w.heap.size (fun _ => True) v (normalL l) ∧ Below w.heap.size w w' := by
  have HR := Aside0.mk hr
  have H64 := Aside0.mk h64
  clear hr h64
  go_enter Try.func92, Try.ntmps92
  go_wp2_with (first
    | ((with_reducible refine gate_dst (N := 9) rfl ?_); refine mapMake rfl rfl rfl Try.underlying101 ?_; intro w1 hM hg hb hsz; have HM := Aside0.mk hM; have HB := Aside0.mk hb; clear hM hb hg)
    | ((with_reducible refine gate_dst (N := 10) rfl ?_); refine lit0 (w0 := w) w.heap.size (ok := fun k => k ≠ w.heap.size) rfl rfl rfl (by show w1.heap.size ≠ w.heap.size; omega) HB.out HB.out.size ?_; intro v2 w2 hv hb2 hgr hnew; have HO := Aside0.mk hv; have HM2 := Aside0.mk (HM.out.kept hgr (by simp)); clear HM HB hv hgr hnew; have HM := HM2; have HB := Aside0.mk hb2; clear hb2 HM2))
  go_loopw [4, 13] (fun vo i wr => ∃ (k : Int) (vO : Value), 0 ≤ k ∧ k ≤ l.length ∧ vo = vO ∧ i = .int .i64 k ∧ Aside0 (∃ met os, os.length = k.toNat ∧ met.length ≤ k.toNat ∧ os ++ normFrom met (l.drop k.toNat) = normalL l ∧ MapV wr Try.prog 2 w.heap.size met.length (namesOf met) ∧ RI wr w.heap.size (fun k => k ≠ w.heap.size) vO os ∧ Below w.heap.size w wr)) (fun _ i _ => l.length - (intOf i).toNat)
  case atStart => exact ⟨0, v2, by omega, by omega, rfl, rfl, ⟨[], [], rfl, Nat.le_refl _, rfl, HM.out.congr (fun kl _ => by cases kl with | int q x => cases q <;> rfl | _ => rfl), HO.out, HB.out⟩⟩
  case round =>
    clear HM HO HB
    obtain ⟨k, vO, hk0, hk, rfl, rfl, ⟨met, os, hol, hml, hos, hM, hO, hB⟩⟩ := hrel
    have HM := Aside0.mk hM
    have HO := Aside0.mk hO
    have HB := Aside0.mk hB
    have HU := Aside0.mk (And.intro hol (And.intro hml hos))
    have hbs := hM.lt
    clear hM hO hB hol hml hos
    by_cases hlt : k < l.length
    · obtain ⟨ad, hA, hc⟩ := Kd.at_int (Kd.C_below HR.out HB.out) k (by omega) (by omega)
      subst hA
      obtain ⟨x, hx⟩ : ∃ x, x = rd l k := ⟨_, rfl⟩
      rw [← hx] at hc
      have HX := Aside0.mk hx
      have hxm : in64 x := by
        have := rd_mem l k.toNat (by omega)
        rw [show ((k.toNat : Nat) : Int) = k by omega, ← hx] at this
        exact H64.out x this
      have HK := Aside0.mk (key_i64 (in64_wf hxm))
      clear hx hxm
      cases hmx : met.idxOf? x with
      | some j =>
        have HE := Aside0.mk (show namesOf met (.int .i64 x) = some (.int .i64 (j : Int)) by simp [namesOf, hmx])
        have HMX := Aside0.mk hmx
        clear hmx
        go_wp2_with (first
          | ((with_reducible refine gate_dst (N := 20) rfl ?_); refine mapLookOk rfl rfl law_i64 Try.underlying101 (zero_i64 _) HM.out rfl (.int .i64 x) (.int .i64 x) rfl HK.out trivial ?_; simp only [HE.out, Option.getD_some, Option.isSome_some])
          | ((with_reducible refine gate_builtin (b := .append) (xs := #[.tmp 30, .tmp 32]) rfl ?_); refine appI (w0 := w) rfl rfl _ os (j : Int) rfl rfl (fun k hk => Nat.ne_of_gt (Nat.lt_of_lt_of_le hbs hk)) HO.out HB.out HB.out.size (by have := HU.out.1; omega) ?_; intro v3 w3 ho3 hb3 hg3 _; have HM3 := Aside0.mk (HM.out.kept hg3 (fun h => HO.out.1 _ h.symm rfl)); have HO3 := Aside0.mk ho3; have HB3 := Aside0.mk hb3; clear ho3 hb3 hg3))
        go_roundw
        case rel =>
          obtain ⟨hol, hml, hos⟩ := HU.out
          refine ⟨k + 1, v3, by omega, by omega, rfl, rfl, ⟨met, os ++ [(j : Int)], by simp; omega, by omega, ?_, HM3.out, HO3.out, HB3.out⟩⟩
          rw [← hos, show k.toNat = (k + 1).toNat - 1 by omega, drop_at' l k hk0 hlt, ← HX.out, normFrom, HMX.out]
          simp
        case measure => simp [intOf]; omega
      | none =>
        have HE := Aside0.mk (show namesOf met (.int .i64 x) = none by simp [namesOf, hmx])
        have HMX := Aside0.mk hmx
        clear hmx
        go_wp2_with (first
          | ((with_reducible refine gate_dst (N := 20) rfl ?_); refine mapLookOk rfl rfl law_i64 Try.underlying101 (zero_i64 _) HM.out rfl (.int .i64 x) (.int .i64 x) rfl HK.out trivial ?_; simp only [HE.out, Option.getD_none, Option.isSome_none])
          | ((with_reducible refine gate_dst (N := 26) rfl ?_); refine mapLen rfl rfl Try.underlying101 HM.out rfl ?_)
          | (at_mapUpdate; refine mapStore rfl rfl law_i64 Try.underlying101 HM.out (by have := HU.out.2.1; omega) rfl (.int .i64 x) (.int .i64 (met.length : Int)) (.int .i64 x) rfl rfl HK.out trivial ?_; intro w2 hM2 hg2; have HM2 := Aside0.mk ((show MapV w2 Try.prog 2 w.heap.size (met ++ [x]).length _ by rw [HE.out] at hM2; simpa using hM2).congr (fun kl _ => namesOf_snoc met x HMX.out kl)); have HO2 := Aside0.mk (Kd.R_grown HO.out hg2 (fun k hk h => hk (Option.some.inj h))); have HB2 := Aside0.mk (HB.out.grown hg2 HB.out.size (fun k hk => by cases hk; exact Nat.le_refl _)); have hbs2 := HM2.out.lt; clear HM HO HB hM2 hg2)
          | ((with_reducible refine gate_builtin (b := .append) (xs := #[.tmp 30, .tmp 32]) rfl ?_); refine appI (w0 := w) rfl rfl _ os (met.length : Int) rfl rfl (fun k hk => Nat.ne_of_gt (Nat.lt_of_lt_of_le hbs2 hk)) HO2.out HB2.out HB2.out.size (by have := HU.out.1; omega) ?_; intro v3 w3 ho3 hb3 hg3 _; have HM3 := Aside0.mk (HM2.out.kept hg3 (fun h => HO2.out.1 _ h.symm rfl)); have HO3 := Aside0.mk ho3; have HB3 := Aside0.mk hb3; clear ho3 hb3 hg3))
        go_roundw
        case rel =>
          obtain ⟨hol, hml, hos⟩ := HU.out
          refine ⟨k + 1, v3, by omega, by omega, rfl, rfl, ⟨met ++ [x], os ++ [(met.length : Int)], by simp; omega, by simp; omega, ?_, HM3.out, HO3.out, HB3.out⟩⟩
          rw [← hos, show k.toNat = (k + 1).toNat - 1 by omega, drop_at' l k hk0 hlt, ← HX.out, normFrom, HMX.out]
          simp
        case measure => simp [intOf]; omega
    · obtain rfl : k = l.length := by omega
      go_wp2
      go_ret
      obtain ⟨hol, hml, hos⟩ := HU.out
      rw [List.drop_of_length_le (by omega), normFrom, List.append_nil] at hos
      rw [← hos]
      exact ⟨_, rfl, Kd.R_mono HO.out (fun _ _ => trivial), HB.out⟩
end Go.Proofs.Ytihfncjpfgdhoaa.K
namespace Go.Proofs.Ytihfncjpfgdhoaa.K
open Go.RowKit Go.Proofs.YtihfncjpfgdhoaaW.PrintWords Go.Proofs.YtihfncjpfgdhoaaW.PrintLast Go.Proofs.YtihfncjpfgdhoaaW.PrintMore
def twiceL (l : List Int) : Bool := l.all fun x => l.count x == 2
def cntsOf (t : List Int) : Lit → Option Value
  | .int .i64 x => if t.count x = 0 then none else some (.int .i64 (t.count x : Int))
  | _ => none
theorem cntsOf_get (t : List Int) (x : Int) : (cntsOf t (.int .i64 x)).getD (.int .i64 0) = .int .i64 (t.count x : Int) := by
  simp only [cntsOf]
  split <;> rename_i h
  · rw [h]; rfl
  · rfl
theorem cntsOf_snoc (t : List Int) (x : Int) (kl : Lit) :
    cntsOf (t ++ [x]) kl = if kl.sameKey (.int .i64 x) = true then some (.int .i64 ((t.count x : Int) + 1)) else cntsOf t kl := by
  cases kl with
  | int q y =>
    cases q <;> simp [cntsOf, Lit.sameKey]
    by_cases e : y = x
    · subst e; simp
    · have h2 : List.count y [x] = 0 := List.count_eq_zero.mpr (by simpa using e)
      simp [h2, e]
  | _ => simp [cntsOf, Lit.sameKey]
theorem cntsOf_true (l : List Int) (h : ∀ kl v, cntsOf l kl = some v → v = .int .i64 2) : twiceL l = true := by
  refine List.all_eq_true.mpr fun x hx => ?_
  have := h (.int .i64 x) (.int .i64 (l.count x : Int)) (by simp [cntsOf, List.count_eq_zero]; exact hx)
  injection this with _ h2
  simpa using (by omega : l.count x = 2)
theorem cntsOf_false (l : List Int) (kl : Lit) (v : Value) (h : cntsOf l kl = some v) (hv : v ≠ .int .i64 2) : twiceL l = false := by
  cases kl with
  | int q y =>
    cases q <;> simp [cntsOf] at h
    obtain ⟨h1, rfl⟩ := h
    refine Bool.eq_false_iff.mpr fun h2 => hv ?_
    have h3 := List.all_eq_true.mp h2 y (List.count_pos_iff.mp (Nat.pos_of_ne_zero h1))
    have h4 : l.count y = 2 := by simpa using h3
    rw [h4]; rfl
  | _ => simp [cntsOf] at h
theorem take_snoc' (l : List Int) (k : Int) (h0 : 0 ≤ k) (h : k < l.length) : l.take (k + 1).toNat = l.take k.toNat ++ [rd l k] := by
  have := drop_at l k.toNat (by omega)
  rw [show ((k.toNat : Nat) : Int) = k by omega] at this
  rw [show (k + 1).toNat = k.toNat + 1 by omega, List.take_add_one]
  have h2 : l[k.toNat]? = some (rd l k) := by
    have := congrArg List.head? this
    simpa [List.head?_drop] using this
  rw [h2]
  rfl
set_option maxHeartbeats 1000000 in
set_option maxRecDepth 100000 in
theorem c_twice (A0 : Option Addr) (c0 : Nat) (l : List Int) (w : World) (hl : l.length < 1099511627776) (h64 : Ok64 l) (hr : CI w A0 l.length l) :
    Calls Try.prog 90 #[.slice A0 l.length c0] w fun e w' => e = .returned (.bool (twiceL l)) ∧ Below w.heap.size w w' := by
  have HR := Aside0.mk hr
  have H64 := Aside0.mk h64
  clear hr h64
  go_enter Try.func90, Try.ntmps90
  go_wp2_with (first
    | ((with_reducible refine gate_dst (N := 8) rfl ?_); refine mapMake rfl rfl rfl Try.underlying100 ?_; intro w1 hM hg hb hsz; have HM := Aside0.mk hM; have HB := Aside0.mk hb; clear hM hb hg))
  go_loopw [11] (fun i wr => ∃ (k : Int), 0 ≤ k ∧ k ≤ l.length ∧ i = .int .i64 k ∧ Aside0 (∃ s, s ≤ k.toNat ∧ MapV wr Try.prog 2 w.heap.size s (cntsOf (l.take k.toNat)) ∧ Below w.heap.size w wr)) (fun i _ => l.length - (intOf i).toNat)
  case atStart => exact ⟨0, by omega, by omega, rfl, ⟨0, Nat.zero_le _, HM.out.congr (fun kl _ => by cases kl with | int q x => cases q <;> simp [cntsOf] | _ => rfl), HB.out⟩⟩
  case round =>
    clear HM HB
    obtain ⟨k, hk0, hk, rfl, ⟨s, hs, hM, hB⟩⟩ := hrel
    have HM := Aside0.mk hM
    have HB := Aside0.mk hB
    have HS := Aside0.mk hs
    have hbs := hM.lt
    clear hM hB hs
    by_cases hlt : k < l.length
    · obtain ⟨ad, hA, hc⟩ := Kd.at_int (Kd.C_below HR.out HB.out) k (by omega) (by omega)
      subst hA
      have HT := Aside0.mk (take_snoc' l k hk0 hlt)
      obtain ⟨x, hx⟩ : ∃ x, x = rd l k := ⟨_, rfl⟩
      rw [← hx] at hc HT
      have hxm : in64 x := by
        have := rd_mem l k.toNat (by omega)
        rw [show ((k.toNat : Nat) : Int) = k by omega, ← hx] at this
        exact H64.out x this
      have HK := Aside0.mk (key_i64 (in64_wf hxm))
      clear hx hxm
      have HG := Aside0.mk (cntsOf_get (l.take k.toNat) x)
      have hcn : (l.take k.toNat).count x < 1099511627776 := Nat.lt_of_le_of_lt List.count_le_length (by rw [List.length_take]; omega)
      obtain ⟨c, hcE⟩ : ∃ c : Int, c = ((l.take k.toNat).count x : Int) := ⟨_, rfl⟩
      have hc0 : 0 ≤ c ∧ c < 1099511627776 := by omega
      rw [← hcE] at HG
      have HC := Aside0.mk hcE
      clear hcn hcE
      have HW := Aside0.mk (wrap_id (x := c + 1) (by omega) (by omega))
      go_wp2_with (first
        | ((with_reducible refine gate_dst (N := 17) rfl ?_); refine mapLook rfl rfl law_i64 Try.underlying100 (zero_int _) HM.out rfl (.int .i64 x) (.int .i64 x) rfl HK.out trivial ?_; rw [HG.out])
        | (at_mapUpdate; refine mapStore rfl rfl law_i64 Try.underlying100 HM.out (by have := HS.out; omega) rfl (.int .i64 x) (.int .i64 (c + 1)) (.int .i64 x) rfl rfl HK.out trivial ?_; intro w2 hM2 hg2; have HM2 := Aside0.mk (hM2.congr (m' := cntsOf (l.take k.toNat ++ [x])) (fun kl _ => by rw [cntsOf_snoc, HC.out])); have HB2 := Aside0.mk (HB.out.grown hg2 HB.out.size (fun k hk => by cases hk; exact Nat.le_refl _)); clear HM HB hM2 hg2))
      go_roundw
      case rel =>
        refine ⟨k + 1, by omega, by omega, rfl, ⟨_, ?_, by rw [HT.out]; exact HM2.out, HB2.out⟩⟩
        have := HS.out
        split <;> omega
      case measure => simp [intOf]; omega
    · obtain rfl : k = l.length := by omega
      rw [show ((l.length : Int)).toNat = l.length by omega, List.take_length] at HM
      have hbs2 : wr.heap.size ≠ w.heap.size := by omega
      go_wp2_with (first
        | ((with_reducible refine gate_dst (N := 21) rfl ?_); refine mapRange rfl rfl law_i64 Try.underlying100 HM.out rfl ?_; intro w2 left hleft hR hg2 hs2; have HR2 := Aside0.mk hR; have HL := Aside0.mk hleft; have HB2 := Aside0.mk (HB.out.grown hg2 HB.out.size (by simp)); clear HM HB hR hg2 hleft))
      go_loopw [22] (fun _ w' => Aside0 (∃ left cnt, MapR w' Try.prog 2 w.heap.size wr.heap.size (cntsOf l) left cnt ∧ (∀ kl v, left kl = false → cntsOf l kl = some v → v = .int .i64 2) ∧ Below w.heap.size w w')) (fun _ w' => w'.rangeLeft w.heap.size wr.heap.size)
      case atStart =>
        refine ⟨⟨left, s, HR2.out, ?_, HB2.out⟩⟩
        intro kl v h1 h2
        have : left kl = true := by
          rw [HL.out kl (by cases kl <;> first | trivial | (simp [cntsOf] at h2)), h2]; rfl
        rw [this] at h1
        cases h1
      case round =>
        clear HR2 HB2 HL
        obtain ⟨left, cnt, hR, hL, hB⟩ := hrel
        have HR2 := Aside0.mk hR
        have HL := Aside0.mk hL
        have HB2 := Aside0.mk hB
        have hbs3 := hR.lt
        clear hR hL hB
        go_wp2_with (first
          | ((with_reducible refine gate_dst (N := 22) rfl ?_); refine mapNext rfl rfl law_i64 HR2.out rfl ?_ ?_))
        · intro hc0 hl0
          have HL0 := Aside0.mk hl0
          clear hl0
          go_wp2
          go_ret
          refine ⟨?_, HB2.out⟩
          rw [cntsOf_true l (fun kl v h => HL.out kl v (HL0.out kl) h)]
          rfl
        · intro key v kl w' cnt' hkey hkl hlk hmk hR' hlt' hg' hsz' hen
          obtain ⟨c, rfl⟩ : ∃ c, v = .int .i64 c := by
            cases kl with
            | int q y => cases q <;> simp [cntsOf] at hmk; exact ⟨_, hmk.2.symm⟩
            | _ => simp [cntsOf] at hmk
          have HMK := Aside0.mk hmk
          have HR3 := Aside0.mk hR'
          have HB3 := Aside0.mk (HB2.out.grown hg' HB2.out.size (fun k hk => by cases hk; omega))
          have hlq := HR2.out.left_eq
          have HKL := Aside0.mk hkl
          have HLK := Aside0.mk hlk
          clear hkey hkl hlk hmk hR' hg' HB2
          by_cases hc2 : c = 2
          · subst hc2
            go_wp2
            go_roundw
            case rel =>
              refine ⟨⟨_, cnt', HR3.out, ?_, HB3.out⟩⟩
              intro kl' v' h1 h2
              simp only [Bool.and_eq_false_iff, Bool.not_eq_false'] at h1
              rcases h1 with h1 | h1
              · exact HL.out kl' v' h1 h2
              · obtain rfl := WideAt.sameKey_eq h1
                exact (Option.some.inj (h2.symm.trans HMK.out))
            case measure =>
              rw [HR3.out.left_eq, hlq]; exact hlt'
          · have hd := beq_eq_false_iff_ne.mpr hc2
            have hd2 := bne_iff_ne.mpr hc2
            go_wp2
            go_ret
            refine ⟨?_, HB3.out⟩
            rw [cntsOf_false l kl _ HMK.out (by intro h; injection h with _ h; exact hc2 h)]
            rfl
end Go.Proofs.Ytihfncjpfgdhoaa.K
namespace Go.Proofs.Ytihfncjpfgdhoaa.K
open Go.RowKit Go.Proofs.YtihfncjpfgdhoaaW.PrintWords Go.Proofs.YtihfncjpfgdhoaaW.PrintLast Go.Proofs.YtihfncjpfgdhoaaW.PrintMore
instance (x : Int) : Decidable (in64 x) := by unfold in64; infer_instance
instance (l : List Int) : Decidable (Ok64 l) := by unfold Ok64; infer_instance
def impl_twice.f (l0 : List Int) : Option Bool := if l0.length < 1099511627776 ∧ Ok64 l0 then some (twiceL l0) else none
theorem impl_twice.calls (A0 : Option Addr) (c0 : Nat) (l0 : List Int) (r : Bool) (w : World) (hr0 : Kd.C (Kd.int .i64) w A0 l0.length l0) (hc0 : l0.length ≤ c0) (h : impl_twice.f l0 = some r) :
    Calls Try.prog 90 #[.slice A0 l0.length c0] w fun e w' => e = .returned (.bool r) ∧ Below w.heap.size w w' := by
  unfold impl_twice.f at h
  split at h
  · rename_i hh
    obtain rfl := Option.some.inj h
    exact c_twice A0 c0 l0 w hh.1 hh.2 hr0
  · cases h
def impl_normal.f (l0 : List Int) : Option (List Int) := if l0.length < 1099511627776 ∧ Ok64 l0 then some (normalL l0) else none
theorem impl_normal.calls (A0 : Option Addr) (c0 : Nat) (l0 : List Int) (r : List Int) (w : World) (hr0 : Kd.C (Kd.int .i64) w A0 l0.length l0) (hc0 : l0.length ≤ c0) (h : impl_normal.f l0 = some r) :
    Calls Try.prog 92 #[.slice A0 l0.length c0] w fun e w' => ∃ v0_ : Value, e = .returned (v0_) ∧ Kd.R (Kd.int .i64) 2 w' w.heap.size (fun _ => True) v0_ r ∧ Below w.heap.size w w' := by
  unfold impl_normal.f at h
  split at h
  · rename_i hh
    obtain rfl := Option.some.inj h
    exact c_normal A0 c0 l0 w hh.1 hh.2 hr0
  · cases h
end Go.Proofs.Ytihfncjpfgdhoaa.K
end
section
namespace Go.Proofs.Ytihfncjpfgdhoaa.PA
open Go.RowKit Go.Proofs.YtihfncjpfgdhoaaW.PrintWords Go.Proofs.YtihfncjpfgdhoaaW.PrintLast Go.Proofs.YtihfncjpfgdhoaaW.PrintMore
attribute [local go_sem] max2_int min2_int max_two min_two max_three min_three max_four min_four   -- for this text's walks alone
open Go.Proofs.Ytihfncjpfgdhoaa.K
def errW : Option Int → Value
  | none => .nilIface
  | some c => .iface 0 (.int .i64 c)
theorem errW_none : errW none = .nilIface := rfl
theorem errW_some (c : Int) : errW (some c) = .iface 0 (.int .i64 c) := rfl
theorem info2 : (Try.prog.info? 2).map (fun i => (i.zero, i.size, i.bytes)) = some (some (.int .i64 0), 1, 8) := by kernel_rfl
theorem info4 : (Try.prog.info? 4).map (fun i => (i.zero, i.size, i.bytes)) = some (some (.bool false), 1, 1) := by kernel_rfl
end Go.Proofs.Ytihfncjpfgdhoaa.PA
end
section
namespace Go.Proofs.Ytihfncjpfgdhoaa.PA
open Go.RowKit Go.Proofs.YtihfncjpfgdhoaaW.PrintWords Go.Proofs.YtihfncjpfgdhoaaW.PrintLast Go.Proofs.YtihfncjpfgdhoaaW.PrintMore
attribute [local go_sem] max2_int min2_int max_two min_two max_three min_three max_four min_four   -- for this text's walks alone
open Go.Proofs.Ytihfncjpfgdhoaa.K
/-! ### spec_l01In: function 49 -/
def spec_l01In.f (a0 : Int) (a1 : Int) (a2 : Int) : Option (Bool) := if a0 ≥ a1 then (some (decide (a0 ≤ a2))) else (some false)
set_option maxHeartbeats 8000000 in
set_option maxRecDepth 100000 in
theorem spec_l01In.calls (a0 : Int) (a1 : Int) (a2 : Int) (r : Bool) (w : World) (h : spec_l01In.f a0 a1 a2 = some r) :
    Calls Try.prog 49 #[.int .i64 a0, .int .i64 a1, .int .i64 a2] w fun e w' => e = .returned (.bool r) ∧ Drawn0 w w' := by
  have H : (if a0 ≥ a1 then (some (decide (a0 ≤ a2))) else (some false)) = some r := h
  clear h
  by_cases c4 : a0 ≥ a1
  · rw [if_pos c4] at H
    have c4b0 : decide (a1 ≤ a0) = true := decide_eq_true c4
    clear c4
    obtain rfl := Option.some.inj H
    go_enter Try.func49, Try.ntmps49
    go_wp2
    go_ret
    exact ⟨by first | rfl | (simp; done) | (simp [*]; done), by repeat (first | exact Drawn0.refl _ | apply Drawn0.step)⟩
  · rw [if_neg c4] at H
    have c4b0 : decide (a1 ≤ a0) = false := decide_eq_false c4
    clear c4
    obtain rfl := Option.some.inj H
    go_enter Try.func49, Try.ntmps49
    go_wp2
    go_ret
    exact ⟨by first | rfl | (simp; done) | (simp [*]; done), by repeat (first | exact Drawn0.refl _ | apply Drawn0.step)⟩
/-! ### spec_l01Normal: function 89 -/
mutual
def spec_l01Normal.l0 : Nat → List Int → List Int → List Int → Int → Option (List Int)
  | 0, _, _, _, _ => none
  | k + 1, x0, x3, x4, x5 => if x5 < (x0.length : Int) then (spec_l01Normal.l1 k x0 x3 x4 x5 (-1) 0) else (some x4)
def spec_l01Normal.l1 : Nat → List Int → List Int → List Int → Int → Int → Int → Option (List Int)
  | 0, _, _, _, _, _, _ => none
  | k + 1, x0, x3, x4, x5, x6, x7 => if x7 < (x3.length : Int) then (if 0 ≤ x7 then (if 0 ≤ x5 then (if x5 < (x0.length : Int) then (if (rd x3 x7) = (rd x0 x5) then (spec_l01Normal.l1 k x0 x3 x4 x5 x7 (wrap64 (x7 + 1))) else (spec_l01Normal.l1 k x0 x3 x4 x5 x6 (wrap64 (x7 + 1)))) else (none)) else (none)) else (none)) else (if x6 < 0 then (if 0 ≤ x5 then (if x5 < (x0.length : Int) then (if x3.length < 17592186044416 then (if x4.length < 17592186044416 then (spec_l01Normal.l0 k x0 (x3 ++ [rd x0 x5]) (x4 ++ [(x3.length : Int)]) (wrap64 (x5 + 1))) else (none)) else (none)) else (none)) else (none)) else (if x4.length < 17592186044416 then (spec_l01Normal.l0 k x0 x3 (x4 ++ [x6]) (wrap64 (x5 + 1))) else (none)))
end
def spec_l01Normal.f (k : Nat) (l0 : List Int) : Option (List Int) := spec_l01Normal.l0 k l0 (([] : List Int)) (([] : List Int)) 0
theorem spec_l01Normal.mono_l : ∀ k, (∀ y0 y1 y2 y3, LeO (spec_l01Normal.l0 k y0 y1 y2 y3) (spec_l01Normal.l0 (k + 1) y0 y1 y2 y3)) ∧ (∀ y0 y1 y2 y3 y4 y5, LeO (spec_l01Normal.l1 k y0 y1 y2 y3 y4 y5) (spec_l01Normal.l1 (k + 1) y0 y1 y2 y3 y4 y5))
  | 0 => ⟨fun _ _ _ _ r h => by simp [spec_l01Normal.l0] at h, fun _ _ _ _ _ _ r h => by simp [spec_l01Normal.l1] at h⟩
  | k + 1 => by
    obtain ⟨ih0, ih1⟩ := spec_l01Normal.mono_l k
    refine ⟨?_, ?_⟩
    · intro y0 y1 y2 y3
      unfold spec_l01Normal.l0
      repeat' first
      | (with_reducible exact ih0 _ _ _ _)
      | (with_reducible exact ih1 _ _ _ _ _ _)
      | (with_reducible exact LeO.refl _)
      | (with_reducible exact LeO.none _)
      | (with_reducible refine LeO.ite ?_ ?_)
      | (with_reducible refine LeO.bind ?_ (fun _ => ?_))
      | exact ih0 _ _ _ _
      | exact ih1 _ _ _ _ _ _
      | exact LeO.none _
      | refine LeO.ite ?_ ?_
      | refine LeO.bind ?_ (fun _ => ?_)
    · intro y0 y1 y2 y3 y4 y5
      unfold spec_l01Normal.l1
      repeat' first
      | (with_reducible exact ih0 _ _ _ _)
      | (with_reducible exact ih1 _ _ _ _ _ _)
      | (with_reducible exact LeO.refl _)
      | (with_reducible exact LeO.none _)
      | (with_reducible refine LeO.ite ?_ ?_)
      | (with_reducible refine LeO.bind ?_ (fun _ => ?_))
      | exact ih0 _ _ _ _
      | exact ih1 _ _ _ _ _ _
      | exact LeO.none _
      | refine LeO.ite ?_ ?_
      | refine LeO.bind ?_ (fun _ => ?_)
theorem spec_l01Normal.mono : ∀ a0 k, LeO (spec_l01Normal.f k a0) (spec_l01Normal.f (k + 1) a0) := by
  intro a0 k
  obtain ⟨ih0, ih1⟩ := spec_l01Normal.mono_l k
  unfold spec_l01Normal.f
  repeat' first
      | (with_reducible exact ih0 _ _ _ _)
      | (with_reducible exact ih1 _ _ _ _ _ _)
      | (with_reducible exact LeO.refl _)
      | (with_reducible exact LeO.none _)
      | (with_reducible refine LeO.ite ?_ ?_)
      | (with_reducible refine LeO.bind ?_ (fun _ => ?_))
      | exact ih0 _ _ _ _
      | exact ih1 _ _ _ _ _ _
      | exact LeO.none _
      | refine LeO.ite ?_ ?_
      | refine LeO.bind ?_ (fun _ => ?_)
set_option maxHeartbeats 8000000 in
set_option maxRecDepth 100000 in
theorem spec_l01Normal.calls (k : Nat) (A0 : Option Addr) (c0 : Nat) (l0 : List Int) (r : List Int) (w : World) (hr0 : Kd.C (Kd.int .i64) w A0 l0.length l0) (hc0 : l0.length ≤ c0) (h : spec_l01Normal.f k l0 = some r) :
    Calls Try.prog 89 #[.slice A0 l0.length c0] w fun e w' => ∃ v0_ : Value, e = .returned (v0_) ∧ Kd.R (Kd.int .i64) 2 w' w.heap.size (fun _ => True) v0_ r ∧ Below w.heap.size w w' := by
  have HR0 := Aside0.mk hr0
  have HC0 := Aside0.mk hc0
  clear hr0 hc0
  have HB := mk0 (Below.refl w.heap.size w)
  have H : (spec_l01Normal.l0 k l0 (([] : List Int)) (([] : List Int)) 0) = some r := h
  clear h
  obtain ⟨y101, hy101⟩ : ∃ y_ : List Int, y_ = (([] : List Int)) := ⟨_, rfl⟩
  replace H : (spec_l01Normal.l0 k l0 y101 (([] : List Int)) 0) = some r := by first | (rw [hy101]; with_reducible exact H) | (have H2_ := (Option.bind_some _ _).symm.trans H; rw [hy101]; with_reducible exact H2_) | (have H2_ := (Option.bind_some _ _).symm.trans H; with_reducible exact H2_) | with_reducible exact H | (rw [hy101]; exact H) | exact H
  have Ny101 := Aside0.mk hy101
  clear hy101
  obtain ⟨y104, hy104⟩ : ∃ y_ : List Int, y_ = (([] : List Int)) := ⟨_, rfl⟩
  replace H : (spec_l01Normal.l0 k l0 y101 y104 0) = some r := by first | (rw [hy104]; with_reducible exact H) | (have H2_ := (Option.bind_some _ _).symm.trans H; rw [hy104]; with_reducible exact H2_) | (have H2_ := (Option.bind_some _ _).symm.trans H; with_reducible exact H2_) | with_reducible exact H | (rw [hy104]; exact H) | exact H
  have Ny104 := Aside0.mk hy104
  clear hy104
  have H' := Aside0.mk H
  clear H
  go_enter Try.func89, Try.ntmps89
  go_wp2_with (first | ((with_reducible refine gate_dst (N := 8) rfl ?_); refine Kd.R_lit (Kd.int .i64) _ 2 ?hg (N := 8) ?hd (xs := ([] : List Int)) (inner := []) (ok := fun _ => True) (okp := fun _ => True) ?hr ?hp (fun _ hk => hk) trivial (Below.refl _ _) (Nat.le_refl _) (by simp) ?_; (case hd => rfl); (case hg => rfl); (case hr => first | (go_simp; done) | (go_simp; rfl)); (case hp => exact (Reps.none _ _)); intro v102 w2 ho3 hb hg_ hnew_; clear hg_ hnew_; (first | rw [← Ny101.out] at ho3 | (simp only [Int.reduceToNat] at ho3; rw [← Ny101.out] at ho3)); have n0_ := mk0 (Kd.R_lower ho3 (below_size (by repeat (first | exact HB.out | apply below_alloc | apply pw_below_drewN | apply below_drew1)))); have n1_ := mk0 (below_step (by repeat (first | exact HB.out | apply below_alloc | apply pw_below_drewN | apply below_drew1)) hb); clear HB; have HO103 := n0_; have HB := n1_; clear n0_ n1_; clear hb ho3) | ((with_reducible refine gate_dst (N := 9) rfl ?_); refine Kd.R_lit (Kd.int .i64) _ 2 ?hg (N := 9) ?hd (xs := ([] : List Int)) (inner := []) (ok := fun _ => True) (okp := fun _ => True) ?hr ?hp (fun _ hk => hk) trivial (Below.refl _ _) (Nat.le_refl _) (by simp) ?_; (case hd => rfl); (case hg => rfl); (case hr => first | (go_simp; done) | (go_simp; rfl)); (case hp => exact (Reps.none _ _)); intro v105 w4 ho5 hb hg_ hnew_; clear hg_ hnew_; (first | rw [← Ny104.out] at ho5 | (simp only [Int.reduceToNat] at ho5; rw [← Ny104.out] at ho5)); have n0_ := mk0 (Kd.R_elder' HO103.out (Kd.R_base ho5) hb); have n1_ := mk0 (Kd.R_lower (Kd.R_new' ho5 (Kd.R_lt HO103.out)) (below_size (by repeat (first | exact HB.out | apply below_alloc | apply pw_below_drewN | apply below_drew1)))); have n2_ := mk0 (below_step (by repeat (first | exact HB.out | apply below_alloc | apply pw_below_drewN | apply below_drew1)) hb); clear HO103; clear HB; have HO103 := n0_; have HO106 := n1_; have HB := n2_; clear n0_ n1_ n2_; clear hb ho5))
  repeat (go_quiet (first | ((with_reducible refine gate_dst (N := 8) rfl ?_); refine Kd.R_lit (Kd.int .i64) _ 2 ?hg (N := 8) ?hd (xs := ([] : List Int)) (inner := []) (ok := fun _ => True) (okp := fun _ => True) ?hr ?hp (fun _ hk => hk) trivial (Below.refl _ _) (Nat.le_refl _) (by simp) ?_; (case hd => rfl); (case hg => rfl); (case hr => first | (go_simp; done) | (go_simp; rfl)); (case hp => exact (Reps.none _ _)); intro v102 w2 ho3 hb hg_ hnew_; clear hg_ hnew_; (first | rw [← Ny101.out] at ho3 | (simp only [Int.reduceToNat] at ho3; rw [← Ny101.out] at ho3)); have n0_ := mk0 (Kd.R_lower ho3 (below_size (by repeat (first | exact HB.out | apply below_alloc | apply pw_below_drewN | apply below_drew1)))); have n1_ := mk0 (below_step (by repeat (first | exact HB.out | apply below_alloc | apply pw_below_drewN | apply below_drew1)) hb); clear HB; have HO103 := n0_; have HB := n1_; clear n0_ n1_; clear hb ho3) | ((with_reducible refine gate_dst (N := 9) rfl ?_); refine Kd.R_lit (Kd.int .i64) _ 2 ?hg (N := 9) ?hd (xs := ([] : List Int)) (inner := []) (ok := fun _ => True) (okp := fun _ => True) ?hr ?hp (fun _ hk => hk) trivial (Below.refl _ _) (Nat.le_refl _) (by simp) ?_; (case hd => rfl); (case hg => rfl); (case hr => first | (go_simp; done) | (go_simp; rfl)); (case hp => exact (Reps.none _ _)); intro v105 w4 ho5 hb hg_ hnew_; clear hg_ hnew_; (first | rw [← Ny104.out] at ho5 | (simp only [Int.reduceToNat] at ho5; rw [← Ny104.out] at ho5)); have n0_ := mk0 (Kd.R_elder' HO103.out (Kd.R_base ho5) hb); have n1_ := mk0 (Kd.R_lower (Kd.R_new' ho5 (Kd.R_lt HO103.out)) (below_size (by repeat (first | exact HB.out | apply below_alloc | apply pw_below_drewN | apply below_drew1)))); have n2_ := mk0 (below_step (by repeat (first | exact HB.out | apply below_alloc | apply pw_below_drewN | apply below_drew1)) hb); clear HO103; clear HB; have HO103 := n0_; have HO106 := n1_; have HB := n2_; clear n0_ n1_ n2_; clear hb ho5)); try go_wp2_with (first | ((with_reducible refine gate_dst (N := 8) rfl ?_); refine Kd.R_lit (Kd.int .i64) _ 2 ?hg (N := 8) ?hd (xs := ([] : List Int)) (inner := []) (ok := fun _ => True) (okp := fun _ => True) ?hr ?hp (fun _ hk => hk) trivial (Below.refl _ _) (Nat.le_refl _) (by simp) ?_; (case hd => rfl); (case hg => rfl); (case hr => first | (go_simp; done) | (go_simp; rfl)); (case hp => exact (Reps.none _ _)); intro v102 w2 ho3 hb hg_ hnew_; clear hg_ hnew_; (first | rw [← Ny101.out] at ho3 | (simp only [Int.reduceToNat] at ho3; rw [← Ny101.out] at ho3)); have n0_ := mk0 (Kd.R_lower ho3 (below_size (by repeat (first | exact HB.out | apply below_alloc | apply pw_below_drewN | apply below_drew1)))); have n1_ := mk0 (below_step (by repeat (first | exact HB.out | apply below_alloc | apply pw_below_drewN | apply below_drew1)) hb); clear HB; have HO103 := n0_; have HB := n1_; clear n0_ n1_; clear hb ho3) | ((with_reducible refine gate_dst (N := 9) rfl ?_); refine Kd.R_lit (Kd.int .i64) _ 2 ?hg (N := 9) ?hd (xs := ([] : List Int)) (inner := []) (ok := fun _ => True) (okp := fun _ => True) ?hr ?hp (fun _ hk => hk) trivial (Below.refl _ _) (Nat.le_refl _) (by simp) ?_; (case hd => rfl); (case hg => rfl); (case hr => first | (go_simp; done) | (go_simp; rfl)); (case hp => exact (Reps.none _ _)); intro v105 w4 ho5 hb hg_ hnew_; clear hg_ hnew_; (first | rw [← Ny104.out] at ho5 | (simp only [Int.reduceToNat] at ho5; rw [← Ny104.out] at ho5)); have n0_ := mk0 (Kd.R_elder' HO103.out (Kd.R_base ho5) hb); have n1_ := mk0 (Kd.R_lower (Kd.R_new' ho5 (Kd.R_lt HO103.out)) (below_size (by repeat (first | exact HB.out | apply below_alloc | apply pw_below_drewN | apply below_drew1)))); have n2_ := mk0 (below_step (by repeat (first | exact HB.out | apply below_alloc | apply pw_below_drewN | apply below_drew1)) hb); clear HO103; clear HB; have HO103 := n0_; have HO106 := n1_; have HB := n2_; clear n0_ n1_ n2_; clear hb ho5)))
  go_loopg [3, 4, 5] k (fun kq v3 v4 v5 w' => ∃ (x3_1 : List Int) (x4_1 : List Int) (x5_1 : Int), v5 = .int .i64 x5_1 ∧ Aside0 (spec_l01Normal.l0 kq l0 x3_1 x4_1 x5_1 = some r) ∧ Aside0 (kq ≤ k) ∧ Aside0 (Kd.R (Kd.int .i64) 2 w' w.heap.size (fun k_ => some k_ ≠ (v4 : Value).ownBlock) v3 x3_1) ∧ Aside0 (Kd.R (Kd.int .i64) 2 w' w.heap.size (fun k_ => some k_ ≠ (v3 : Value).ownBlock) v4 x4_1) ∧ Aside0 (Below w.heap.size w w'))
  case atStart => exact ⟨(y101), (y104), (0), (by first | rfl | (simp; done) | (simp [*]; done)), H', ⟨Nat.le_refl _⟩, ⟨by exact Kd.R_mono HO103.out (fun _ hk => hk.2)⟩, ⟨by exact Kd.R_mono HO106.out (fun _ hk => hk.2)⟩, ⟨by repeat (first | exact HB.out | apply below_alloc | apply pw_below_drewN | apply below_drew1)⟩⟩
  case round =>
    clear H'
    try clear p2
    obtain ⟨x3_1, x4_1, x5_1, rfl, HA, HK1, HO_3, HO_4, HB⟩ := hrel
    cases gk with
    | zero => exact absurd HA.out (by simp [spec_l01Normal.l0])
    | succ k1 =>
      have H := HA.out
      clear HA
      simp only [spec_l01Normal.l0] at H
      by_cases c6 : x5_1 < (l0.length : Int)
      · rw [if_pos c6] at H
        have c6b0 : decide (x5_1 < (l0.length : Int)) = true := decide_eq_true c6
        clear c6
        have H' := Aside0.mk H
        clear H
        go_wp2
        repeat (go_quiet (fail); try go_wp2)
        go_loopg [6, 7] k1 (fun kq v6 v7 w' => ∃ (x6_2 : Int) (x7_2 : Int), v6 = .int .i64 x6_2 ∧ v7 = .int .i64 x7_2 ∧ Aside0 (spec_l01Normal.l1 kq l0 x3_1 x4_1 x5_1 x6_2 x7_2 = some r) ∧ Aside0 (kq ≤ k1) ∧ Aside0 (Kd.R (Kd.int .i64) 2 w' w.heap.size (fun k_ => some k_ ≠ (u4 : Value).ownBlock) u3 x3_1) ∧ Aside0 (Kd.R (Kd.int .i64) 2 w' w.heap.size (fun k_ => some k_ ≠ (u3 : Value).ownBlock) u4 x4_1) ∧ Aside0 (Below w.heap.size w w'))
        case atStart => exact ⟨((-1)), (0), (by first | rfl | (simp; done) | (simp [*]; done)), (by first | rfl | (simp; done) | (simp [*]; done)), H', ⟨Nat.le_refl _⟩, ⟨by exact HO_3.out⟩, ⟨by exact HO_4.out⟩, ⟨by repeat (first | exact HB.out | apply below_alloc | apply pw_below_drewN | apply below_drew1)⟩⟩
        case round =>
          clear H'
          try clear p2
          try clear c6
          try clear c6b0
          try clear p2
          obtain ⟨x6_2, x7_2, rfl, rfl, HA, HK2, HO_3, HO_4, HB⟩ := hrel
          cases gk with
          | zero => exact absurd HA.out (by simp [spec_l01Normal.l1])
          | succ k2 =>
            have H := HA.out
            clear HA
            simp only [spec_l01Normal.l1] at H
            by_cases c7 : x7_2 < (x3_1.length : Int)
            · rw [if_pos c7] at H
              have c7b0 : decide (x7_2 < (x3_1.length : Int)) = true := decide_eq_true c7
              clear c7
              by_cases c8 : 0 ≤ x7_2
              · rw [if_pos c8] at H
                have c8b0 : decide (0 ≤ x7_2) = true := decide_eq_true c8
                clear c8
                by_cases c9 : 0 ≤ x5_1
                · rw [if_pos c9] at H
                  have c9b0 : decide (0 ≤ x5_1) = true := decide_eq_true c9
                  clear c9
                  by_cases c10 : x5_1 < (l0.length : Int)
                  · rw [if_pos c10] at H
                    have c10b0 : decide (x5_1 < (l0.length : Int)) = true := decide_eq_true c10
                    clear c10
                    by_cases c11 : (rd x3_1 x7_2) = (rd l0 x5_1)
                    · rw [if_pos c11] at H
                      have c11b0 : ((rd x3_1 x7_2) == (rd l0 x5_1)) = true := beq_iff_eq.mpr c11
                      have c11b1 : ((rd x3_1 x7_2) != (rd l0 x5_1)) = false := bne_eq_false_iff_eq.mpr c11
                      clear c11
                      have H' := Aside0.mk H
                      clear H
                      obtain ⟨Ao12, co12, eo12⟩ := Kd.R_slice HO_3.out
                      subst eo12
                      have p107 : 0 ≤ (x7_2 : Int) := of_decide_eq_true (by first | (with_reducible assumption) | assumption)
                      have q107 : x7_2 < (x3_1.length : Int) := of_decide_eq_true (by first | (with_reducible assumption) | assumption)
                      obtain ⟨ad107, e107, hx107_0⟩ := Kd.at_int (Kd.R_reads' HO_3.out).2.2 x7_2 p107 q107
                      cases e107
                      replace p107 := eq_true p107
                      replace q107 := eq_true q107
                      have p108 : 0 ≤ (x5_1 : Int) := of_decide_eq_true (by first | (with_reducible assumption) | assumption)
                      have q108 : x5_1 < (l0.length : Int) := of_decide_eq_true (by first | (with_reducible assumption) | assumption)
                      obtain ⟨ad108, e108, hx108_0⟩ := Kd.at_int HR0.out x5_1 p108 q108
                      cases e108
                      replace hx108_0 := (HB.out.cell (World.block_lt_of_cell? w _ hx108_0)).trans hx108_0
                      replace p108 := eq_true p108
                      replace q108 := eq_true q108
                      go_wp2
                      repeat (go_quiet (fail); try go_wp2)
                      go_roundg k2
                      case measure => have := HK1.out; have := HK2.out; omega
                      case rel => exact ⟨(x7_2), (wrap64 (x7_2 + 1)), (by first | rfl | (simp; done) | (simp [*]; done)), (by first | rfl | (simp; done) | (simp [*]; done)), H', ⟨by have := HK1.out; have := HK2.out; omega⟩, ⟨by exact HO_3.out⟩, ⟨by exact HO_4.out⟩, ⟨by repeat (first | exact HB.out | apply below_alloc | apply pw_below_drewN | apply below_drew1)⟩⟩
                    · rw [if_neg c11] at H
                      have c11b0 : ((rd x3_1 x7_2) == (rd l0 x5_1)) = false := beq_eq_false_iff_ne.mpr c11
                      have c11b1 : ((rd x3_1 x7_2) != (rd l0 x5_1)) = true := bne_iff_ne.mpr c11
                      have H' := Aside0.mk H
                      clear H
                      obtain ⟨Ao13, co13, eo13⟩ := Kd.R_slice HO_3.out
                      subst eo13
                      have p107 : 0 ≤ (x7_2 : Int) := of_decide_eq_true (by first | (with_reducible assumption) | assumption)
                      have q107 : x7_2 < (x3_1.length : Int) := of_decide_eq_true (by first | (with_reducible assumption) | assumption)
                      obtain ⟨ad107, e107, hx107_0⟩ := Kd.at_int (Kd.R_reads' HO_3.out).2.2 x7_2 p107 q107
                      cases e107
                      replace p107 := eq_true p107
                      replace q107 := eq_true q107
                      have p108 : 0 ≤ (x5_1 : Int) := of_decide_eq_true (by first | (with_reducible assumption) | assumption)
                      have q108 : x5_1 < (l0.length : Int) := of_decide_eq_true (by first | (with_reducible assumption) | assumption)
                      obtain ⟨ad108, e108, hx108_0⟩ := Kd.at_int HR0.out x5_1 p108 q108
                      cases e108
                      replace hx108_0 := (HB.out.cell (World.block_lt_of_cell? w _ hx108_0)).trans hx108_0
                      replace p108 := eq_true p108
                      replace q108 := eq_true q108
                      go_wp2
                      repeat (go_quiet (fail); try go_wp2)
                      go_roundg k2
                      case measure => have := HK1.out; have := HK2.out; omega
                      case rel => exact ⟨(x6_2), (wrap64 (x7_2 + 1)), (by first | rfl | (simp; done) | (simp [*]; done)), (by first | rfl | (simp; done) | (simp [*]; done)), H', ⟨by have := HK1.out; have := HK2.out; omega⟩, ⟨by exact HO_3.out⟩, ⟨by exact HO_4.out⟩, ⟨by repeat (first | exact HB.out | apply below_alloc | apply pw_below_drewN | apply below_drew1)⟩⟩
                  · rw [if_neg c10] at H
                    exact absurd H (by simp)
                · rw [if_neg c9] at H
                  exact absurd H (by simp)
              · rw [if_neg c8] at H
                exact absurd H (by simp)
            · rw [if_neg c7] at H
              have c7b0 : decide (x7_2 < (x3_1.length : Int)) = false := decide_eq_false c7
              clear c7
              by_cases c14 : x6_2 < 0
              · rw [if_pos c14] at H
                have c14b0 : decide (x6_2 < 0) = true := decide_eq_true c14
                clear c14
                by_cases c15 : 0 ≤ x5_1
                · rw [if_pos c15] at H
                  have c15b0 : decide (0 ≤ x5_1) = true := decide_eq_true c15
                  clear c15
                  by_cases c16 : x5_1 < (l0.length : Int)
                  · rw [if_pos c16] at H
                    have c16b0 : decide (x5_1 < (l0.length : Int)) = true := decide_eq_true c16
                    clear c16
                    by_cases c17 : x3_1.length < 17592186044416
                    · rw [if_pos c17] at H
                      have LMc17 := Aside0.mk c17
                      clear c17
                      obtain ⟨y110, hy110⟩ : ∃ y_ : List Int, y_ = (x3_1 ++ [rd l0 x5_1]) := ⟨_, rfl⟩
                      replace H : (if x4_1.length < 17592186044416 then (spec_l01Normal.l0 k2 l0 y110 (x4_1 ++ [(x3_1.length : Int)]) (wrap64 (x5_1 + 1))) else (none)) = some r := by first | (rw [hy110]; with_reducible exact H) | (have H2_ := (Option.bind_some _ _).symm.trans H; rw [hy110]; with_reducible exact H2_) | (have H2_ := (Option.bind_some _ _).symm.trans H; with_reducible exact H2_) | with_reducible exact H | (rw [hy110]; exact H) | exact H
                      have Ny110 := Aside0.mk hy110
                      clear hy110
                      by_cases c18 : x4_1.length < 17592186044416
                      · rw [if_pos c18] at H
                        have LMc18 := Aside0.mk c18
                        clear c18
                        obtain ⟨y113, hy113⟩ : ∃ y_ : List Int, y_ = (x4_1 ++ [(x3_1.length : Int)]) := ⟨_, rfl⟩
                        replace H : (spec_l01Normal.l0 k2 l0 y110 y113 (wrap64 (x5_1 + 1))) = some r := by first | (rw [hy113]; with_reducible exact H) | (have H2_ := (Option.bind_some _ _).symm.trans H; rw [hy113]; with_reducible exact H2_) | (have H2_ := (Option.bind_some _ _).symm.trans H; with_reducible exact H2_) | with_reducible exact H | (rw [hy113]; exact H) | exact H
                        have Ny113 := Aside0.mk hy113
                        clear hy113
                        have H' := Aside0.mk H
                        clear H
                        obtain ⟨Ao19, co19, eo19⟩ := Kd.R_slice HO_3.out
                        subst eo19
                        have p109 : 0 ≤ (x5_1 : Int) := of_decide_eq_true (by first | (with_reducible assumption) | assumption)
                        have q109 : x5_1 < (l0.length : Int) := of_decide_eq_true (by first | (with_reducible assumption) | assumption)
                        obtain ⟨ad109, e109, hx109_0⟩ := Kd.at_int HR0.out x5_1 p109 q109
                        cases e109
                        replace hx109_0 := (HB.out.cell (World.block_lt_of_cell? w _ hx109_0)).trans hx109_0
                        replace p109 := eq_true p109
                        replace q109 := eq_true q109
                        go_wp2_with (first | ((with_reducible refine gate_builtin (b := .append) (xs := #[.tmp 36, .tmp 41]) rfl ?_); at_builtin; refine Kd.R_append (Kd.int .i64) (w0 := w) w.heap.size rfl (.tmp 36) (.tmp 41) 22 2 (.int .i64 0) 8 rfl Try.underlying22 info2 rfl (by decide) (by omega) (.slice Ao19 x3_1.length co19) x3_1 (rd l0 x5_1) [.int .i64 (rd l0 x5_1)] (fun k_ => some k_ ≠ (u4 : Value).ownBlock) (fun _ => False) rfl rfl ?aP (fun _ hk => hk.elim) ?aF ?aO ?aB ?aS ?aL ?_; (case aP => exact rfl); (case aB => exact (by repeat (first | exact HB.out | apply below_alloc | apply pw_below_drewN | apply below_drew1))); (case aF => exact (fun k_ hk => Kd.fresh' (Kd.R_lt HO_4.out) k_ hk)); (case aO => exact HO_3.out); (case aS => exact (below_size (by repeat (first | exact HB.out | apply below_alloc | apply pw_below_drewN | apply below_drew1)))); (case aL => have := LMc17.out; omega); intro v111 w20 ho hb hg hat; rw [← Ny110.out] at ho; have n0_ := mk0 (Kd.R_after (ok := (fun _ => True)) (by exact Kd.R_mono HO_4.out (fun _ hk => ⟨trivial, hk⟩)) hg hat); have n1_ := mk0 (hb); have n2_ := mk0 (ho); clear HO_4; clear HB; clear HO_3; have HO_4 := n0_; have HB := n1_; have HO112 := n2_; clear n0_ n1_ n2_; clear ho hb hg hat) | ((with_reducible refine gate_builtin (b := .append) (xs := #[.tmp 43, .tmp 45]) rfl ?_); at_builtin; refine Kd.R_append (Kd.int .i64) (w0 := w) w.heap.size rfl (.tmp 43) (.tmp 45) 22 2 (.int .i64 0) 8 rfl Try.underlying22 info2 rfl (by decide) (by omega) u4 x4_1 (x3_1.length : Int) [.int .i64 (x3_1.length : Int)] (fun k_ => some k_ ≠ (v111 : Value).ownBlock) (fun _ => False) rfl rfl ?aP (fun _ hk => hk.elim) ?aF ?aO ?aB ?aS ?aL ?_; (case aP => exact rfl); (case aB => exact (by repeat (first | exact HB.out | apply below_alloc | apply pw_below_drewN | apply below_drew1))); (case aF => exact (fun k_ hk => Kd.fresh' (Kd.R_lt HO112.out) k_ hk)); (case aO => exact (by exact Kd.R_mono HO_4.out (fun _ hk => hk.2))); (case aS => exact (below_size (by repeat (first | exact HB.out | apply below_alloc | apply pw_below_drewN | apply below_drew1)))); (case aL => have := LMc18.out; omega); intro v114 w21 ho hb hg hat; rw [← Ny113.out] at ho; have n0_ := mk0 (Kd.R_after (ok := (fun _ => True)) (by exact Kd.R_mono HO112.out (fun _ hk => ⟨trivial, hk⟩)) hg hat); have n1_ := mk0 (hb); have n2_ := mk0 (ho); clear HO112; clear HB; clear HO_4; have HO112 := n0_; have HB := n1_; have HO115 := n2_; clear n0_ n1_ n2_; clear ho hb hg hat))
                        repeat (go_quiet (first | ((with_reducible refine gate_builtin (b := .append) (xs := #[.tmp 36, .tmp 41]) rfl ?_); at_builtin; refine Kd.R_append (Kd.int .i64) (w0 := w) w.heap.size rfl (.tmp 36) (.tmp 41) 22 2 (.int .i64 0) 8 rfl Try.underlying22 info2 rfl (by decide) (by omega) (.slice Ao19 x3_1.length co19) x3_1 (rd l0 x5_1) [.int .i64 (rd l0 x5_1)] (fun k_ => some k_ ≠ (u4 : Value).ownBlock) (fun _ => False) rfl rfl ?aP (fun _ hk => hk.elim) ?aF ?aO ?aB ?aS ?aL ?_; (case aP => exact rfl); (case aB => exact (by repeat (first | exact HB.out | apply below_alloc | apply pw_below_drewN | apply below_drew1))); (case aF => exact (fun k_ hk => Kd.fresh' (Kd.R_lt HO_4.out) k_ hk)); (case aO => exact HO_3.out); (case aS => exact (below_size (by repeat (first | exact HB.out | apply below_alloc | apply pw_below_drewN | apply below_drew1)))); (case aL => have := LMc17.out; omega); intro v111 w20 ho hb hg hat; rw [← Ny110.out] at ho; have n0_ := mk0 (Kd.R_after (ok := (fun _ => True)) (by exact Kd.R_mono HO_4.out (fun _ hk => ⟨trivial, hk⟩)) hg hat); have n1_ := mk0 (hb); have n2_ := mk0 (ho); clear HO_4; clear HB; clear HO_3; have HO_4 := n0_; have HB := n1_; have HO112 := n2_; clear n0_ n1_ n2_; clear ho hb hg hat) | ((with_reducible refine gate_builtin (b := .append) (xs := #[.tmp 43, .tmp 45]) rfl ?_); at_builtin; refine Kd.R_append (Kd.int .i64) (w0 := w) w.heap.size rfl (.tmp 43) (.tmp 45) 22 2 (.int .i64 0) 8 rfl Try.underlying22 info2 rfl (by decide) (by omega) u4 x4_1 (x3_1.length : Int) [.int .i64 (x3_1.length : Int)] (fun k_ => some k_ ≠ (v111 : Value).ownBlock) (fun _ => False) rfl rfl ?aP (fun _ hk => hk.elim) ?aF ?aO ?aB ?aS ?aL ?_; (case aP => exact rfl); (case aB => exact (by repeat (first | exact HB.out | apply below_alloc | apply pw_below_drewN | apply below_drew1))); (case aF => exact (fun k_ hk => Kd.fresh' (Kd.R_lt HO112.out) k_ hk)); (case aO => exact (by exact Kd.R_mono HO_4.out (fun _ hk => hk.2))); (case aS => exact (below_size (by repeat (first | exact HB.out | apply below_alloc | apply pw_below_drewN | apply below_drew1)))); (case aL => have := LMc18.out; omega); intro v114 w21 ho hb hg hat; rw [← Ny113.out] at ho; have n0_ := mk0 (Kd.R_after (ok := (fun _ => True)) (by exact Kd.R_mono HO112.out (fun _ hk => ⟨trivial, hk⟩)) hg hat); have n1_ := mk0 (hb); have n2_ := mk0 (ho); clear HO112; clear HB; clear HO_4; have HO112 := n0_; have HB := n1_; have HO115 := n2_; clear n0_ n1_ n2_; clear ho hb hg hat)); try go_wp2_with (first | ((with_reducible refine gate_builtin (b := .append) (xs := #[.tmp 36, .tmp 41]) rfl ?_); at_builtin; refine Kd.R_append (Kd.int .i64) (w0 := w) w.heap.size rfl (.tmp 36) (.tmp 41) 22 2 (.int .i64 0) 8 rfl Try.underlying22 info2 rfl (by decide) (by omega) (.slice Ao19 x3_1.length co19) x3_1 (rd l0 x5_1) [.int .i64 (rd l0 x5_1)] (fun k_ => some k_ ≠ (u4 : Value).ownBlock) (fun _ => False) rfl rfl ?aP (fun _ hk => hk.elim) ?aF ?aO ?aB ?aS ?aL ?_; (case aP => exact rfl); (case aB => exact (by repeat (first | exact HB.out | apply below_alloc | apply pw_below_drewN | apply below_drew1))); (case aF => exact (fun k_ hk => Kd.fresh' (Kd.R_lt HO_4.out) k_ hk)); (case aO => exact HO_3.out); (case aS => exact (below_size (by repeat (first | exact HB.out | apply below_alloc | apply pw_below_drewN | apply below_drew1)))); (case aL => have := LMc17.out; omega); intro v111 w20 ho hb hg hat; rw [← Ny110.out] at ho; have n0_ := mk0 (Kd.R_after (ok := (fun _ => True)) (by exact Kd.R_mono HO_4.out (fun _ hk => ⟨trivial, hk⟩)) hg hat); have n1_ := mk0 (hb); have n2_ := mk0 (ho); clear HO_4; clear HB; clear HO_3; have HO_4 := n0_; have HB := n1_; have HO112 := n2_; clear n0_ n1_ n2_; clear ho hb hg hat) | ((with_reducible refine gate_builtin (b := .append) (xs := #[.tmp 43, .tmp 45]) rfl ?_); at_builtin; refine Kd.R_append (Kd.int .i64) (w0 := w) w.heap.size rfl (.tmp 43) (.tmp 45) 22 2 (.int .i64 0) 8 rfl Try.underlying22 info2 rfl (by decide) (by omega) u4 x4_1 (x3_1.length : Int) [.int .i64 (x3_1.length : Int)] (fun k_ => some k_ ≠ (v111 : Value).ownBlock) (fun _ => False) rfl rfl ?aP (fun _ hk => hk.elim) ?aF ?aO ?aB ?aS ?aL ?_; (case aP => exact rfl); (case aB => exact (by repeat (first | exact HB.out | apply below_alloc | apply pw_below_drewN | apply below_drew1))); (case aF => exact (fun k_ hk => Kd.fresh' (Kd.R_lt HO112.out) k_ hk)); (case aO => exact (by exact Kd.R_mono HO_4.out (fun _ hk => hk.2))); (case aS => exact (below_size (by repeat (first | exact HB.out | apply below_alloc | apply pw_below_drewN | apply below_drew1)))); (case aL => have := LMc18.out; omega); intro v114 w21 ho hb hg hat; rw [← Ny113.out] at ho; have n0_ := mk0 (Kd.R_after (ok := (fun _ => True)) (by exact Kd.R_mono HO112.out (fun _ hk => ⟨trivial, hk⟩)) hg hat); have n1_ := mk0 (hb); have n2_ := mk0 (ho); clear HO112; clear HB; clear HO_4; have HO112 := n0_; have HB := n1_; have HO115 := n2_; clear n0_ n1_ n2_; clear ho hb hg hat)))
                        go_roundg k2
                        case measure => have := HK1.out; have := HK2.out; omega
                        case rel => exact ⟨(y110), (y113), (wrap64 (x5_1 + 1)), (by first | rfl | (simp; done) | (simp [*]; done)), H', ⟨by have := HK1.out; have := HK2.out; omega⟩, ⟨by exact Kd.R_mono HO112.out (fun _ hk => hk.2)⟩, ⟨by exact HO115.out⟩, ⟨by repeat (first | exact HB.out | apply below_alloc | apply pw_below_drewN | apply below_drew1)⟩⟩
                      · rw [if_neg c18] at H
                        exact absurd H (by simp)
                    · rw [if_neg c17] at H
                      exact absurd H (by simp)
                  · rw [if_neg c16] at H
                    exact absurd H (by simp)
                · rw [if_neg c15] at H
                  exact absurd H (by simp)
              · rw [if_neg c14] at H
                have c14b0 : decide (x6_2 < 0) = false := decide_eq_false c14
                clear c14
                by_cases c22 : x4_1.length < 17592186044416
                · rw [if_pos c22] at H
                  have LMc22 := Aside0.mk c22
                  clear c22
                  obtain ⟨y116, hy116⟩ : ∃ y_ : List Int, y_ = (x4_1 ++ [x6_2]) := ⟨_, rfl⟩
                  replace H : (spec_l01Normal.l0 k2 l0 x3_1 y116 (wrap64 (x5_1 + 1))) = some r := by first | (rw [hy116]; with_reducible exact H) | (have H2_ := (Option.bind_some _ _).symm.trans H; rw [hy116]; with_reducible exact H2_) | (have H2_ := (Option.bind_some _ _).symm.trans H; with_reducible exact H2_) | with_reducible exact H | (rw [hy116]; exact H) | exact H
                  have Ny116 := Aside0.mk hy116
                  clear hy116
                  have H' := Aside0.mk H
                  clear H
                  obtain ⟨Ao23, co23, eo23⟩ := Kd.R_slice HO_3.out
                  subst eo23
                  go_wp2_with (first | ((with_reducible refine gate_builtin (b := .append) (xs := #[.tmp 43, .tmp 45]) rfl ?_); at_builtin; refine Kd.R_append (Kd.int .i64) (w0 := w) w.heap.size rfl (.tmp 43) (.tmp 45) 22 2 (.int .i64 0) 8 rfl Try.underlying22 info2 rfl (by decide) (by omega) u4 x4_1 x6_2 [.int .i64 x6_2] (fun k_ => some k_ ≠ (.slice Ao23 x3_1.length co23 : Value).ownBlock) (fun _ => False) rfl rfl ?aP (fun _ hk => hk.elim) ?aF ?aO ?aB ?aS ?aL ?_; (case aP => exact rfl); (case aB => exact (by repeat (first | exact HB.out | apply below_alloc | apply pw_below_drewN | apply below_drew1))); (case aF => exact (fun k_ hk => Kd.fresh' (Kd.R_lt HO_3.out) k_ hk)); (case aO => exact HO_4.out); (case aS => exact (below_size (by repeat (first | exact HB.out | apply below_alloc | apply pw_below_drewN | apply below_drew1)))); (case aL => have := LMc22.out; omega); intro v117 w24 ho hb hg hat; rw [← Ny116.out] at ho; have n0_ := mk0 (Kd.R_after (ok := (fun _ => True)) (by exact Kd.R_mono HO_3.out (fun _ hk => ⟨trivial, hk⟩)) hg hat); have n1_ := mk0 (hb); have n2_ := mk0 (ho); clear HO_3; clear HB; clear HO_4; have HO_3 := n0_; have HB := n1_; have HO118 := n2_; clear n0_ n1_ n2_; clear ho hb hg hat))
                  repeat (go_quiet (first | ((with_reducible refine gate_builtin (b := .append) (xs := #[.tmp 43, .tmp 45]) rfl ?_); at_builtin; refine Kd.R_append (Kd.int .i64) (w0 := w) w.heap.size rfl (.tmp 43) (.tmp 45) 22 2 (.int .i64 0) 8 rfl Try.underlying22 info2 rfl (by decide) (by omega) u4 x4_1 x6_2 [.int .i64 x6_2] (fun k_ => some k_ ≠ (.slice Ao23 x3_1.length co23 : Value).ownBlock) (fun _ => False) rfl rfl ?aP (fun _ hk => hk.elim) ?aF ?aO ?aB ?aS ?aL ?_; (case aP => exact rfl); (case aB => exact (by repeat (first | exact HB.out | apply below_alloc | apply pw_below_drewN | apply below_drew1))); (case aF => exact (fun k_ hk => Kd.fresh' (Kd.R_lt HO_3.out) k_ hk)); (case aO => exact HO_4.out); (case aS => exact (below_size (by repeat (first | exact HB.out | apply below_alloc | apply pw_below_drewN | apply below_drew1)))); (case aL => have := LMc22.out; omega); intro v117 w24 ho hb hg hat; rw [← Ny116.out] at ho; have n0_ := mk0 (Kd.R_after (ok := (fun _ => True)) (by exact Kd.R_mono HO_3.out (fun _ hk => ⟨trivial, hk⟩)) hg hat); have n1_ := mk0 (hb); have n2_ := mk0 (ho); clear HO_3; clear HB; clear HO_4; have HO_3 := n0_; have HB := n1_; have HO118 := n2_; clear n0_ n1_ n2_; clear ho hb hg hat)); try go_wp2_with (first | ((with_reducible refine gate_builtin (b := .append) (xs := #[.tmp 43, .tmp 45]) rfl ?_); at_builtin; refine Kd.R_append (Kd.int .i64) (w0 := w) w.heap.size rfl (.tmp 43) (.tmp 45) 22 2 (.int .i64 0) 8 rfl Try.underlying22 info2 rfl (by decide) (by omega) u4 x4_1 x6_2 [.int .i64 x6_2] (fun k_ => some k_ ≠ (.slice Ao23 x3_1.length co23 : Value).ownBlock) (fun _ => False) rfl rfl ?aP (fun _ hk => hk.elim) ?aF ?aO ?aB ?aS ?aL ?_; (case aP => exact rfl); (case aB => exact (by repeat (first | exact HB.out | apply below_alloc | apply pw_below_drewN | apply below_drew1))); (case aF => exact (fun k_ hk => Kd.fresh' (Kd.R_lt HO_3.out) k_ hk)); (case aO => exact HO_4.out); (case aS => exact (below_size (by repeat (first | exact HB.out | apply below_alloc | apply pw_below_drewN | apply below_drew1)))); (case aL => have := LMc22.out; omega); intro v117 w24 ho hb hg hat; rw [← Ny116.out] at ho; have n0_ := mk0 (Kd.R_after (ok := (fun _ => True)) (by exact Kd.R_mono HO_3.out (fun _ hk => ⟨trivial, hk⟩)) hg hat); have n1_ := mk0 (hb); have n2_ := mk0 (ho); clear HO_3; clear HB; clear HO_4; have HO_3 := n0_; have HB := n1_; have HO118 := n2_; clear n0_ n1_ n2_; clear ho hb hg hat)))
                  go_roundg k2
                  case measure => have := HK1.out; have := HK2.out; omega
                  case rel => exact ⟨(x3_1), (y116), (wrap64 (x5_1 + 1)), (by first | rfl | (simp; done) | (simp [*]; done)), H', ⟨by have := HK1.out; have := HK2.out; omega⟩, ⟨by exact Kd.R_mono HO_3.out (fun _ hk => hk.2)⟩, ⟨by exact HO118.out⟩, ⟨by repeat (first | exact HB.out | apply below_alloc | apply pw_below_drewN | apply below_drew1)⟩⟩
                · rw [if_neg c22] at H
                  exact absurd H (by simp)
      · rw [if_neg c6] at H
        have c6b0 : decide (x5_1 < (l0.length : Int)) = false := decide_eq_false c6
        clear c6
        obtain rfl := Option.some.inj H
        go_wp2
        repeat (go_quiet (fail); try go_wp2)
        go_ret
        exact ⟨_, by first | rfl | (simp [errW_none, errW_some] <;> rfl) | (simp [*, errW_none, errW_some] <;> rfl), by exact Kd.R_mono HO_4.out (fun _ hk => trivial), by repeat (first | exact HB.out | apply below_alloc | apply pw_below_drewN | apply below_drew1)⟩
end Go.Proofs.Ytihfncjpfgdhoaa.PA
end
section
namespace Go.Proofs.Ytihfncjpfgdhoaa.PA
open Go.RowKit Go.Proofs.YtihfncjpfgdhoaaW.PrintWords Go.Proofs.YtihfncjpfgdhoaaW.PrintLast Go.Proofs.YtihfncjpfgdhoaaW.PrintMore
attribute [local go_sem] max2_int min2_int max_two min_two max_three min_three max_four min_four   -- for this text's walks alone
open Go.Proofs.Ytihfncjpfgdhoaa.K
/-! ### spec_l01Same: function 95 -/
def spec_l01Same.l0 : Nat → List Int → List Int → Int → Option (Bool)
  | 0, _, _, _ => none
  | k + 1, x0, x1, x5 => if x5 < (x0.length : Int) then (if 0 ≤ x5 then (if x5 < (x1.length : Int) then (if (rd x0 x5) = (rd x1 x5) then (spec_l01Same.l0 k x0 x1 (wrap64 (x5 + 1))) else (some false)) else (none)) else (none)) else (some true)
def spec_l01Same.f (k : Nat) (l0 : List Int) (l1 : List Int) : Option (Bool) := if (l0.length : Int) = (l1.length : Int) then (spec_l01Same.l0 k l0 l1 0) else (some false)
theorem spec_l01Same.mono_l : ∀ k, (∀ y0 y1 y2, LeO (spec_l01Same.l0 k y0 y1 y2) (spec_l01Same.l0 (k + 1) y0 y1 y2))
  | 0 => fun _ _ _ r h => by simp [spec_l01Same.l0] at h
  | k + 1 => by
    have ih0 := spec_l01Same.mono_l k
    · intro y0 y1 y2
      unfold spec_l01Same.l0
      repeat' first
      | (with_reducible exact ih0 _ _ _)
      | (with_reducible exact LeO.refl _)
      | (with_reducible exact LeO.none _)
      | (with_reducible refine LeO.ite ?_ ?_)
      | (with_reducible refine LeO.bind ?_ (fun _ => ?_))
      | exact ih0 _ _ _
      | exact LeO.none _
      | refine LeO.ite ?_ ?_
      | refine LeO.bind ?_ (fun _ => ?_)
theorem spec_l01Same.mono : ∀ a0 a1 k, LeO (spec_l01Same.f k a0 a1) (spec_l01Same.f (k + 1) a0 a1) := by
  intro a0 a1 k
  have ih0 := spec_l01Same.mono_l k
  unfold spec_l01Same.f
  repeat' first
      | (with_reducible exact ih0 _ _ _)
      | (with_reducible exact LeO.refl _)
      | (with_reducible exact LeO.none _)
      | (with_reducible refine LeO.ite ?_ ?_)
      | (with_reducible refine LeO.bind ?_ (fun _ => ?_))
      | exact ih0 _ _ _
      | exact LeO.none _
      | refine LeO.ite ?_ ?_
      | refine LeO.bind ?_ (fun _ => ?_)
set_option maxHeartbeats 8000000 in
set_option maxRecDepth 100000 in
theorem spec_l01Same.calls (k : Nat) (A0 : Option Addr) (c0 : Nat) (l0 : List Int) (A1 : Option Addr) (c1 : Nat) (l1 : List Int) (r : Bool) (w : World) (hr0 : Kd.C (Kd.int .i64) w A0 l0.length l0) (hc0 : l0.length ≤ c0) (hr1 : Kd.C (Kd.int .i64) w A1 l1.length l1) (hc1 : l1.length ≤ c1) (h : spec_l01Same.f k l0 l1 = some r) :
    Calls Try.prog 95 #[.slice A0 l0.length c0, .slice A1 l1.length c1] w fun e w' => e = .returned (.bool r) ∧ Drawn0 w w' := by
  have HR0 := Aside0.mk hr0
  have HC0 := Aside0.mk hc0
  clear hr0 hc0
  have HR1 := Aside0.mk hr1
  have HC1 := Aside0.mk hc1
  clear hr1 hc1
  have H : (if (l0.length : Int) = (l1.length : Int) then (spec_l01Same.l0 k l0 l1 0) else (some false)) = some r := h
  clear h
  by_cases c3 : (l0.length : Int) = (l1.length : Int)
  · rw [if_pos c3] at H
    have c3b0 : ((l0.length : Int) == (l1.length : Int)) = true := beq_iff_eq.mpr c3
    have c3b1 : ((l0.length : Int) != (l1.length : Int)) = false := bne_eq_false_iff_eq.mpr c3
    have c3b2 : (l0.length == l1.length) = true := by first | simpa using c3 | (simp at c3 ⊢; omega)
    clear c3
    have H' := Aside0.mk H
    clear H
    go_enter Try.func95, Try.ntmps95
    go_wp2
    repeat (go_quiet (fail); try go_wp2)
    go_loopg [5] k (fun kq v5 w' => ∃ (x5_1 : Int), v5 = .int .i64 x5_1 ∧ Aside0 (spec_l01Same.l0 kq l0 l1 x5_1 = some r) ∧ Aside0 (kq ≤ k) ∧ Drawn0 w w')
    case atStart => exact ⟨(0), (by first | rfl | (simp; done) | (simp [*]; done)), H', ⟨Nat.le_refl _⟩, by repeat (first | exact Drawn0.refl _ | apply Drawn0.step)⟩
    case round =>
      clear H'
      try clear c1
      try clear p2
      try clear c3
      try clear c3b0
      try clear c3b1
      try clear c3b2
      obtain ⟨x5_1, rfl, HA, HK1, ⟨m1, rfl⟩⟩ := hrel
      cases gk with
      | zero => exact absurd HA.out (by simp [spec_l01Same.l0])
      | succ k1 =>
        have H := HA.out
        clear HA
        simp only [spec_l01Same.l0] at H
        by_cases c4 : x5_1 < (l0.length : Int)
        · rw [if_pos c4] at H
          have c4b0 : decide (x5_1 < (l0.length : Int)) = true := decide_eq_true c4
          clear c4
          by_cases c5 : 0 ≤ x5_1
          · rw [if_pos c5] at H
            have c5b0 : decide (0 ≤ x5_1) = true := decide_eq_true c5
            clear c5
            by_cases c6 : x5_1 < (l1.length : Int)
            · rw [if_pos c6] at H
              have c6b0 : decide (x5_1 < (l1.length : Int)) = true := decide_eq_true c6
              clear c6
              by_cases c7 : (rd l0 x5_1) = (rd l1 x5_1)
              · rw [if_pos c7] at H
                have c7b0 : ((rd l0 x5_1) == (rd l1 x5_1)) = true := beq_iff_eq.mpr c7
                have c7b1 : ((rd l0 x5_1) != (rd l1 x5_1)) = false := bne_eq_false_iff_eq.mpr c7
                clear c7
                have H' := Aside0.mk H
                clear H
                have p119 : 0 ≤ (x5_1 : Int) := of_decide_eq_true (by first | (with_reducible assumption) | assumption)
                have q119 : x5_1 < (l0.length : Int) := of_decide_eq_true (by first | (with_reducible assumption) | assumption)
                obtain ⟨ad119, e119, hx119_0⟩ := Kd.at_int HR0.out x5_1 p119 q119
                cases e119
                replace p119 := eq_true p119
                replace q119 := eq_true q119
                have p120 : 0 ≤ (x5_1 : Int) := of_decide_eq_true (by first | (with_reducible assumption) | assumption)
                have q120 : x5_1 < (l1.length : Int) := of_decide_eq_true (by first | (with_reducible assumption) | assumption)
                obtain ⟨ad120, e120, hx120_0⟩ := Kd.at_int HR1.out x5_1 p120 q120
                cases e120
                replace p120 := eq_true p120
                replace q120 := eq_true q120
                go_wp2
                repeat (go_quiet (fail); try go_wp2)
                go_roundg k1
                case measure => have := HK1.out; omega
                case rel => exact ⟨(wrap64 (x5_1 + 1)), (by first | rfl | (simp; done) | (simp [*]; done)), H', ⟨by have := HK1.out; omega⟩, by repeat (first | exact Drawn0.refl _ | apply Drawn0.step)⟩
              · rw [if_neg c7] at H
                have c7b0 : ((rd l0 x5_1) == (rd l1 x5_1)) = false := beq_eq_false_iff_ne.mpr c7
                have c7b1 : ((rd l0 x5_1) != (rd l1 x5_1)) = true := bne_iff_ne.mpr c7
                obtain rfl := Option.some.inj H
                have p119 : 0 ≤ (x5_1 : Int) := of_decide_eq_true (by first | (with_reducible assumption) | assumption)
                have q119 : x5_1 < (l0.length : Int) := of_decide_eq_true (by first | (with_reducible assumption) | assumption)
                obtain ⟨ad119, e119, hx119_0⟩ := Kd.at_int HR0.out x5_1 p119 q119
                cases e119
                replace p119 := eq_true p119
                replace q119 := eq_true q119
                have p120 : 0 ≤ (x5_1 : Int) := of_decide_eq_true (by first | (with_reducible assumption) | assumption)
                have q120 : x5_1 < (l1.length : Int) := of_decide_eq_true (by first | (with_reducible assumption) | assumption)
                obtain ⟨ad120, e120, hx120_0⟩ := Kd.at_int HR1.out x5_1 p120 q120
                cases e120
                replace p120 := eq_true p120
                replace q120 := eq_true q120
                go_wp2
                repeat (go_quiet (fail); try go_wp2)
                go_ret
                exact ⟨by first | rfl | (simp; done) | (simp [*]; done), by repeat (first | exact Drawn0.refl _ | apply Drawn0.step)⟩
            · rw [if_neg c6] at H
              exact absurd H (by simp)
          · rw [if_neg c5] at H
            exact absurd H (by simp)
        · rw [if_neg c4] at H
          have c4b0 : decide (x5_1 < (l0.length : Int)) = false := decide_eq_false c4
          clear c4
          obtain rfl := Option.some.inj H
          go_wp2
          repeat (go_quiet (fail); try go_wp2)
          go_ret
          exact ⟨by first | rfl | (simp; done) | (simp [*]; done), by repeat (first | exact Drawn0.refl _ | apply Drawn0.step)⟩
  · rw [if_neg c3] at H
    have c3b0 : ((l0.length : Int) == (l1.length : Int)) = false := beq_eq_false_iff_ne.mpr c3
    have c3b1 : ((l0.length : Int) != (l1.length : Int)) = true := bne_iff_ne.mpr c3
    have c3b2 : (l0.length == l1.length) = false := by first | simpa using c3 | (simp at c3 ⊢; omega)
    obtain rfl := Option.some.inj H
    go_enter Try.func95, Try.ntmps95
    go_wp2
    repeat (go_quiet (fail); try go_wp2)
    go_ret
    exact ⟨by first | rfl | (simp; done) | (simp [*]; done), by repeat (first | exact Drawn0.refl _ | apply Drawn0.step)⟩
/-! ### spec_l01Twice: function 110 -/
mutual
def spec_l01Twice.l0 : Nat → List Int → Int → Option (Bool)
  | 0, _, _ => none
  | k + 1, x0, x3 => if x3 < (x0.length : Int) then (spec_l01Twice.l1 k x0 x3 0 0) else (some true)
def spec_l01Twice.l1 : Nat → List Int → Int → Int → Int → Option (Bool)
  | 0, _, _, _, _ => none
  | k + 1, x0, x3, x4, x5 => if x5 < (x0.length : Int) then (if 0 ≤ x5 then (if 0 ≤ x3 then (if x3 < (x0.length : Int) then (if (rd x0 x5) = (rd x0 x3) then (spec_l01Twice.l1 k x0 x3 (wrap64 (x4 + 1)) (wrap64 (x5 + 1))) else (spec_l01Twice.l1 k x0 x3 x4 (wrap64 (x5 + 1)))) else (none)) else (none)) else (none)) else (if x4 = 2 then (spec_l01Twice.l0 k x0 (wrap64 (x3 + 1))) else (some false))
end
def spec_l01Twice.f (k : Nat) (l0 : List Int) : Option (Bool) := spec_l01Twice.l0 k l0 0
theorem spec_l01Twice.mono_l : ∀ k, (∀ y0 y1, LeO (spec_l01Twice.l0 k y0 y1) (spec_l01Twice.l0 (k + 1) y0 y1)) ∧ (∀ y0 y1 y2 y3, LeO (spec_l01Twice.l1 k y0 y1 y2 y3) (spec_l01Twice.l1 (k + 1) y0 y1 y2 y3))
  | 0 => ⟨fun _ _ r h => by simp [spec_l01Twice.l0] at h, fun _ _ _ _ r h => by simp [spec_l01Twice.l1] at h⟩
  | k + 1 => by
    obtain ⟨ih0, ih1⟩ := spec_l01Twice.mono_l k
    refine ⟨?_, ?_⟩
    · intro y0 y1
      unfold spec_l01Twice.l0
      repeat' first
      | (with_reducible exact ih0 _ _)
      | (with_reducible exact ih1 _ _ _ _)
      | (with_reducible exact LeO.refl _)
      | (with_reducible exact LeO.none _)
      | (with_reducible refine LeO.ite ?_ ?_)
      | (with_reducible refine LeO.bind ?_ (fun _ => ?_))
      | exact ih0 _ _
      | exact ih1 _ _ _ _
      | exact LeO.none _
      | refine LeO.ite ?_ ?_
      | refine LeO.bind ?_ (fun _ => ?_)
    · intro y0 y1 y2 y3
      unfold spec_l01Twice.l1
      repeat' first
      | (with_reducible exact ih0 _ _)
      | (with_reducible exact ih1 _ _ _ _)
      | (with_reducible exact LeO.refl _)
      | (with_reducible exact LeO.none _)
      | (with_reducible refine LeO.ite ?_ ?_)
      | (with_reducible refine LeO.bind ?_ (fun _ => ?_))
      | exact ih0 _ _
      | exact ih1 _ _ _ _
      | exact LeO.none _
      | refine LeO.ite ?_ ?_
      | refine LeO.bind ?_ (fun _ => ?_)
theorem spec_l01Twice.mono : ∀ a0 k, LeO (spec_l01Twice.f k a0) (spec_l01Twice.f (k + 1) a0) := by
  intro a0 k
  obtain ⟨ih0, ih1⟩ := spec_l01Twice.mono_l k
  unfold spec_l01Twice.f
  repeat' first
      | (with_reducible exact ih0 _ _)
      | (with_reducible exact ih1 _ _ _ _)
      | (with_reducible exact LeO.refl _)
      | (with_reducible exact LeO.none _)
      | (with_reducible refine LeO.ite ?_ ?_)
      | (with_reducible refine LeO.bind ?_ (fun _ => ?_))
      | exact ih0 _ _
      | exact ih1 _ _ _ _
      | exact LeO.none _
      | refine LeO.ite ?_ ?_
      | refine LeO.bind ?_ (fun _ => ?_)
set_option maxHeartbeats 8000000 in
set_option maxRecDepth 100000 in
theorem spec_l01Twice.calls (k : Nat) (A0 : Option Addr) (c0 : Nat) (l0 : List Int) (r : Bool) (w : World) (hr0 : Kd.C (Kd.int .i64) w A0 l0.length l0) (hc0 : l0.length ≤ c0) (h : spec_l01Twice.f k l0 = some r) :
    Calls Try.prog 110 #[.slice A0 l0.length c0] w fun e w' => e = .returned (.bool r) ∧ Drawn0 w w' := by
  have HR0 := Aside0.mk hr0
  have HC0 := Aside0.mk hc0
  clear hr0 hc0
  have H : (spec_l01Twice.l0 k l0 0) = some r := h
  clear h
  have H' := Aside0.mk H
  clear H
  go_enter Try.func110, Try.ntmps110
  go_wp2
  repeat (go_quiet (fail); try go_wp2)
  go_loopg [3] k (fun kq v3 w' => ∃ (x3_1 : Int), v3 = .int .i64 x3_1 ∧ Aside0 (spec_l01Twice.l0 kq l0 x3_1 = some r) ∧ Aside0 (kq ≤ k) ∧ Drawn0 w w')
  case atStart => exact ⟨(0), (by first | rfl | (simp; done) | (simp [*]; done)), H', ⟨Nat.le_refl _⟩, by repeat (first | exact Drawn0.refl _ | apply Drawn0.step)⟩
  case round =>
    clear H'
    try clear c1
    obtain ⟨x3_1, rfl, HA, HK1, ⟨m1, rfl⟩⟩ := hrel
    cases gk with
    | zero => exact absurd HA.out (by simp [spec_l01Twice.l0])
    | succ k1 =>
      have H := HA.out
      clear HA
      simp only [spec_l01Twice.l0] at H
      by_cases c2 : x3_1 < (l0.length : Int)
      · rw [if_pos c2] at H
        have c2b0 : decide (x3_1 < (l0.length : Int)) = true := decide_eq_true c2
        clear c2
        have H' := Aside0.mk H
        clear H
        go_wp2
        repeat (go_quiet (fail); try go_wp2)
        go_loopg [4, 5] k1 (fun kq v4 v5 w' => ∃ (x4_2 : Int) (x5_2 : Int), v4 = .int .i64 x4_2 ∧ v5 = .int .i64 x5_2 ∧ Aside0 (spec_l01Twice.l1 kq l0 x3_1 x4_2 x5_2 = some r) ∧ Aside0 (kq ≤ k1) ∧ Drawn0 w w')
        case atStart => exact ⟨(0), (0), (by first | rfl | (simp; done) | (simp [*]; done)), (by first | rfl | (simp; done) | (simp [*]; done)), H', ⟨Nat.le_refl _⟩, by repeat (first | exact Drawn0.refl _ | apply Drawn0.step)⟩
        case round =>
          clear H'
          try clear c1
          try clear c2
          try clear c2b0
          try clear p2
          obtain ⟨x4_2, x5_2, rfl, rfl, HA, HK2, ⟨m2, rfl⟩⟩ := hrel
          cases gk with
          | zero => exact absurd HA.out (by simp [spec_l01Twice.l1])
          | succ k2 =>
            have H := HA.out
            clear HA
            simp only [spec_l01Twice.l1] at H
            by_cases c3 : x5_2 < (l0.length : Int)
            · rw [if_pos c3] at H
              have c3b0 : decide (x5_2 < (l0.length : Int)) = true := decide_eq_true c3
              clear c3
              by_cases c4 : 0 ≤ x5_2
              · rw [if_pos c4] at H
                have c4b0 : decide (0 ≤ x5_2) = true := decide_eq_true c4
                clear c4
                by_cases c5 : 0 ≤ x3_1
                · rw [if_pos c5] at H
                  have c5b0 : decide (0 ≤ x3_1) = true := decide_eq_true c5
                  clear c5
                  by_cases c6 : x3_1 < (l0.length : Int)
                  · rw [if_pos c6] at H
                    have c6b0 : decide (x3_1 < (l0.length : Int)) = true := decide_eq_true c6
                    clear c6
                    by_cases c7 : (rd l0 x5_2) = (rd l0 x3_1)
                    · rw [if_pos c7] at H
                      have c7b0 : ((rd l0 x5_2) == (rd l0 x3_1)) = true := beq_iff_eq.mpr c7
                      have c7b1 : ((rd l0 x5_2) != (rd l0 x3_1)) = false := bne_eq_false_iff_eq.mpr c7
                      clear c7
                      have H' := Aside0.mk H
                      clear H
                      have p121 : 0 ≤ (x5_2 : Int) := of_decide_eq_true (by first | (with_reducible assumption) | assumption)
                      have q121 : x5_2 < (l0.length : Int) := of_decide_eq_true (by first | (with_reducible assumption) | assumption)
                      obtain ⟨ad121, e121, hx121_0⟩ := Kd.at_int HR0.out x5_2 p121 q121
                      cases e121
                      replace p121 := eq_true p121
                      replace q121 := eq_true q121
                      have p122 : 0 ≤ (x3_1 : Int) := of_decide_eq_true (by first | (with_reducible assumption) | assumption)
                      have q122 : x3_1 < (l0.length : Int) := of_decide_eq_true (by first | (with_reducible assumption) | assumption)
                      obtain ⟨ad122, e122, hx122_0⟩ := Kd.at_int HR0.out x3_1 p122 q122
                      obtain rfl : ad121 = ad122 := (by injection e122)
                      replace p122 := eq_true p122
                      replace q122 := eq_true q122
                      go_wp2
                      repeat (go_quiet (fail); try go_wp2)
                      go_roundg k2
                      case measure => have := HK1.out; have := HK2.out; omega
                      case rel => exact ⟨(wrap64 (x4_2 + 1)), (wrap64 (x5_2 + 1)), (by first | rfl | (simp; done) | (simp [*]; done)), (by first | rfl | (simp; done) | (simp [*]; done)), H', ⟨by have := HK1.out; have := HK2.out; omega⟩, by repeat (first | exact Drawn0.refl _ | apply Drawn0.step)⟩
                    · rw [if_neg c7] at H
                      have c7b0 : ((rd l0 x5_2) == (rd l0 x3_1)) = false := beq_eq_false_iff_ne.mpr c7
                      have c7b1 : ((rd l0 x5_2) != (rd l0 x3_1)) = true := bne_iff_ne.mpr c7
                      have H' := Aside0.mk H
                      clear H
                      have p121 : 0 ≤ (x5_2 : Int) := of_decide_eq_true (by first | (with_reducible assumption) | assumption)
                      have q121 : x5_2 < (l0.length : Int) := of_decide_eq_true (by first | (with_reducible assumption) | assumption)
                      obtain ⟨ad121, e121, hx121_0⟩ := Kd.at_int HR0.out x5_2 p121 q121
                      cases e121
                      replace p121 := eq_true p121
                      replace q121 := eq_true q121
                      have p122 : 0 ≤ (x3_1 : Int) := of_decide_eq_true (by first | (with_reducible assumption) | assumption)
                      have q122 : x3_1 < (l0.length : Int) := of_decide_eq_true (by first | (with_reducible assumption) | assumption)
                      obtain ⟨ad122, e122, hx122_0⟩ := Kd.at_int HR0.out x3_1 p122 q122
                      obtain rfl : ad121 = ad122 := (by injection e122)
                      replace p122 := eq_true p122
                      replace q122 := eq_true q122
                      go_wp2
                      repeat (go_quiet (fail); try go_wp2)
                      go_roundg k2
                      case measure => have := HK1.out; have := HK2.out; omega
                      case rel => exact ⟨(x4_2), (wrap64 (x5_2 + 1)), (by first | rfl | (simp; done) | (simp [*]; done)), (by first | rfl | (simp; done) | (simp [*]; done)), H', ⟨by have := HK1.out; have := HK2.out; omega⟩, by repeat (first | exact Drawn0.refl _ | apply Drawn0.step)⟩
                  · rw [if_neg c6] at H
                    exact absurd H (by simp)
                · rw [if_neg c5] at H
                  exact absurd H (by simp)
              · rw [if_neg c4] at H
                exact absurd H (by simp)
            · rw [if_neg c3] at H
              have c3b0 : decide (x5_2 < (l0.length : Int)) = false := decide_eq_false c3
              clear c3
              by_cases c8 : x4_2 = 2
              · rw [if_pos c8] at H
                have c8b0 : (x4_2 == 2) = true := beq_iff_eq.mpr c8
                have c8b1 : (x4_2 != 2) = false := bne_eq_false_iff_eq.mpr c8
                clear c8
                have H' := Aside0.mk H
                clear H
                go_wp2
                repeat (go_quiet (fail); try go_wp2)
                go_roundg k2
                case measure => have := HK1.out; have := HK2.out; omega
                case rel => exact ⟨(wrap64 (x3_1 + 1)), (by first | rfl | (simp; done) | (simp [*]; done)), H', ⟨by have := HK1.out; have := HK2.out; omega⟩, by repeat (first | exact Drawn0.refl _ | apply Drawn0.step)⟩
              · rw [if_neg c8] at H
                have c8b0 : (x4_2 == 2) = false := beq_eq_false_iff_ne.mpr c8
                have c8b1 : (x4_2 != 2) = true := bne_iff_ne.mpr c8
                obtain rfl := Option.some.inj H
                go_wp2
                repeat (go_quiet (fail); try go_wp2)
                go_ret
                exact ⟨by first | rfl | (simp; done) | (simp [*]; done), by repeat (first | exact Drawn0.refl _ | apply Drawn0.step)⟩
      · rw [if_neg c2] at H
        have c2b0 : decide (x3_1 < (l0.length : Int)) = false := decide_eq_false c2
        clear c2
        obtain rfl := Option.some.inj H
        go_wp2
        repeat (go_quiet (fail); try go_wp2)
        go_ret
        exact ⟨by first | rfl | (simp; done) | (simp [*]; done), by repeat (first | exact Drawn0.refl _ | apply Drawn0.step)⟩
end Go.Proofs.Ytihfncjpfgdhoaa.PA
end
section
namespace Go.Proofs.Ytihfncjpfgdhoaa.PA
open Go.RowKit Go.Proofs.YtihfncjpfgdhoaaW.PrintWords Go.Proofs.YtihfncjpfgdhoaaW.PrintLast Go.Proofs.YtihfncjpfgdhoaaW.PrintMore
attribute [local go_sem] max2_int min2_int max_two min_two max_three min_three max_four min_four   -- for this text's walks alone
open Go.Proofs.Ytihfncjpfgdhoaa.K
/-! ### spec_l01Is: function 85 -/
def spec_l01Is.f (k : Nat) (l0 : List Int) : Option (Bool) := if (l0.length : Int) ≤ 12 then ((spec_l01Twice.f k l0).bind fun t123 => (if t123 = true then ((spec_l01Normal.f k l0).bind fun t124 => ((spec_l01Same.f k t124 l0).bind fun t127 => (some t127))) else (some false))) else (some false)
theorem spec_l01Is.mono : ∀ a0 k, LeO (spec_l01Is.f k a0) (spec_l01Is.f (k + 1) a0) := by
  intro a0 k
  unfold spec_l01Is.f
  repeat' first
      | (with_reducible exact spec_l01Normal.mono _ _)
      | (with_reducible exact spec_l01Same.mono _ _ _)
      | (with_reducible exact spec_l01Twice.mono _ _)
      | (with_reducible exact LeO.refl _)
      | (with_reducible exact LeO.none _)
      | (with_reducible refine LeO.ite ?_ ?_)
      | (with_reducible refine LeO.bind ?_ (fun _ => ?_))
      | exact spec_l01Normal.mono _ _
      | exact spec_l01Same.mono _ _ _
      | exact spec_l01Twice.mono _ _
      | exact LeO.none _
      | refine LeO.ite ?_ ?_
      | refine LeO.bind ?_ (fun _ => ?_)
set_option maxHeartbeats 8000000 in
set_option maxRecDepth 100000 in
theorem spec_l01Is.calls (k : Nat) (A0 : Option Addr) (c0 : Nat) (l0 : List Int) (r : Bool) (w : World) (hr0 : Kd.C (Kd.int .i64) w A0 l0.length l0) (hc0 : l0.length ≤ c0) (h : spec_l01Is.f k l0 = some r) :
    Calls Try.prog 85 #[.slice A0 l0.length c0] w fun e w' => e = .returned (.bool r) ∧ Below w.heap.size w w' := by
  have HR0 := Aside0.mk hr0
  have HC0 := Aside0.mk hc0
  clear hr0 hc0
  have HB := mk0 (Below.refl w.heap.size w)
  have H : (if (l0.length : Int) ≤ 12 then ((spec_l01Twice.f k l0).bind fun t123 => (if t123 = true then ((spec_l01Normal.f k l0).bind fun t124 => ((spec_l01Same.f k t124 l0).bind fun t127 => (some t127))) else (some false))) else (some false)) = some r := h
  clear h
  by_cases c2 : (l0.length : Int) ≤ 12
  · rw [if_pos c2] at H
    have c2b0 : decide ((l0.length : Int) ≤ 12) = true := decide_eq_true c2
    have c2b1 : decide (l0.length ≤ 12) = true := decide_eq_true (by omega)
    clear c2
    replace H := Option.bind_eq_some_iff.mp H
    obtain ⟨t123, A30, H⟩ := H
    replace H : (if t123 = true then ((spec_l01Normal.f k l0).bind fun t124 => ((spec_l01Same.f k t124 l0).bind fun t127 => (some t127))) else (some false)) = some r := H
    have A3 := Aside0.mk A30
    clear A30
    by_cases c4 : t123 = true
    · subst c4
      have H1 : ((spec_l01Normal.f k l0).bind fun t124 => ((spec_l01Same.f k t124 l0).bind fun t127 => (some t127))) = some r := by rw [if_pos rfl] at H; exact H
      clear H
      have H := H1
      clear H1
      replace H := Option.bind_eq_some_iff.mp H
      obtain ⟨t124, A50, H⟩ := H
      replace H : ((spec_l01Same.f k t124 l0).bind fun t127 => (some t127)) = some r := H
      have A5 := Aside0.mk A50
      clear A50
      replace H := Option.bind_eq_some_iff.mp H
      obtain ⟨t127, A60, H⟩ := H
      replace H : (some t127) = some r := H
      have A6 := Aside0.mk A60
      clear A60
      obtain rfl := Option.some.inj H
      go_enter Try.func85, Try.ntmps85
      go_wp2_with (first | (go_at_call 110; (with_reducible refine (spec_l01Twice.calls k _ _ l0 true _ ?side1 ?side2 A3.out).mono ?_); (case side1 => exact HR0.out); (case side2 => exact HC0.out); rintro e w' ⟨rfl, ⟨nd, rfl⟩⟩) | (go_at_call 89; (with_reducible refine (spec_l01Normal.calls k _ _ l0 t124 _ ?side1 ?side2 A5.out).mono ?_); (case side1 => exact HR0.out); (case side2 => exact HC0.out); rintro e w7 ⟨v125, rfl, ho0, hb⟩; have n0_ := mk0 (Kd.R_lower ho0 (below_size (by repeat (first | exact HB.out | apply below_alloc | apply pw_below_drewN | apply below_drew1)))); have n1_ := mk0 (below_step (by repeat (first | exact HB.out | apply below_alloc | apply pw_below_drewN | apply below_drew1)) hb); clear HB; have HO126 := n0_; have HB := n1_; clear n0_ n1_; (try clear hb); (try clear hb2); (try clear hk); (try clear hi); (try clear ho0); obtain ⟨Ao8, co8, eo8⟩ := Kd.R_slice HO126.out; subst eo8) | (go_at_call 95; (with_reducible refine (spec_l01Same.calls k _ _ t124 _ _ l0 t127 _ ?side1 ?side2 ?side3 ?side4 A6.out).mono ?_); (case side1 => exact (Kd.R_reads' HO126.out).2.2); (case side2 => exact (Kd.R_reads' HO126.out).2.1); (case side3 => exact (Kd.C_below HR0.out HB.out)); (case side4 => exact HC0.out); rintro e w' ⟨rfl, ⟨nd, rfl⟩⟩))
      go_ret
      exact ⟨by first | rfl | (simp [errW_none, errW_some] <;> rfl) | (simp [*, errW_none, errW_some] <;> rfl), by repeat (first | exact HB.out | apply below_alloc | apply pw_below_drewN | apply below_drew1)⟩
    · replace c4 := Bool.eq_false_iff.mpr c4
      subst c4
      have H1 : (some false) = some r := by rw [if_neg (show ¬ (false = true) by decide)] at H; exact H
      clear H
      have H := H1
      clear H1
      obtain rfl := Option.some.inj H
      go_enter Try.func85, Try.ntmps85
      go_wp2_with (first | (go_at_call 110; (with_reducible refine (spec_l01Twice.calls k _ _ l0 false _ ?side1 ?side2 A3.out).mono ?_); (case side1 => exact HR0.out); (case side2 => exact HC0.out); rintro e w' ⟨rfl, ⟨nd, rfl⟩⟩))
      go_ret
      exact ⟨by first | rfl | (simp [errW_none, errW_some] <;> rfl) | (simp [*, errW_none, errW_some] <;> rfl), by repeat (first | exact HB.out | apply below_alloc | apply pw_below_drewN | apply below_drew1)⟩
  · rw [if_neg c2] at H
    have c2b0 : decide ((l0.length : Int) ≤ 12) = false := decide_eq_false c2
    have c2b1 : decide (l0.length ≤ 12) = false := decide_eq_false (by omega)
    clear c2
    obtain rfl := Option.some.inj H
    go_enter Try.func85, Try.ntmps85
    go_wp2
    go_ret
    exact ⟨by first | rfl | (simp [errW_none, errW_some] <;> rfl) | (simp [*, errW_none, errW_some] <;> rfl), by repeat (first | exact HB.out | apply below_alloc | apply pw_below_drewN | apply below_drew1)⟩
end Go.Proofs.Ytihfncjpfgdhoaa.PA
end
section
namespace Go.Proofs.Ytihfncjpfgdhoaa.PA
open Go.RowKit Go.Proofs.YtihfncjpfgdhoaaW.PrintWords Go.Proofs.YtihfncjpfgdhoaaW.PrintLast Go.Proofs.YtihfncjpfgdhoaaW.PrintMore
attribute [local go_sem] max2_int min2_int max_two min_two max_three min_three max_four min_four   -- for this text's walks alone
open Go.Proofs.Ytihfncjpfgdhoaa.K
/-! ### laws_toInt64S: function 16 -/
def laws_toInt64S.l0 : Nat → List Int → List Int → Int → Option (List Int)
  | 0, _, _, _ => none
  | k + 1, x0, x3, x4 => if x4 < (x0.length : Int) then (if 0 ≤ x4 then (if x4 < (x3.length : Int) then (laws_toInt64S.l0 k x0 (x3.set (x4 : Int).toNat (rd x0 x4)) (wrap64 (x4 + 1))) else (none)) else (none)) else (some x3)
def laws_toInt64S.f (k : Nat) (l0 : List Int) : Option (List Int) := if 0 ≤ (l0.length : Int) then (if ((l0.length : Int) : Int).toNat ≤ 35184372088832 then (laws_toInt64S.l0 k l0 (List.replicate ((l0.length : Int) : Int).toNat 0) 0) else (none)) else (none)
theorem laws_toInt64S.mono_l : ∀ k, (∀ y0 y1 y2, LeO (laws_toInt64S.l0 k y0 y1 y2) (laws_toInt64S.l0 (k + 1) y0 y1 y2))
  | 0 => fun _ _ _ r h => by simp [laws_toInt64S.l0] at h
  | k + 1 => by
    have ih0 := laws_toInt64S.mono_l k
    · intro y0 y1 y2
      unfold laws_toInt64S.l0
      repeat' first
      | (with_reducible exact ih0 _ _ _)
      | (with_reducible exact LeO.refl _)
      | (with_reducible exact LeO.none _)
      | (with_reducible refine LeO.ite ?_ ?_)
      | (with_reducible refine LeO.bind ?_ (fun _ => ?_))
      | exact ih0 _ _ _
      | exact LeO.none _
      | refine LeO.ite ?_ ?_
      | refine LeO.bind ?_ (fun _ => ?_)
theorem laws_toInt64S.mono : ∀ a0 k, LeO (laws_toInt64S.f k a0) (laws_toInt64S.f (k + 1) a0) := by
  intro a0 k
  have ih0 := laws_toInt64S.mono_l k
  unfold laws_toInt64S.f
  repeat' first
      | (with_reducible exact ih0 _ _ _)
      | (with_reducible exact LeO.refl _)
      | (with_reducible exact LeO.none _)
      | (with_reducible refine LeO.ite ?_ ?_)
      | (with_reducible refine LeO.bind ?_ (fun _ => ?_))
      | exact ih0 _ _ _
      | exact LeO.none _
      | refine LeO.ite ?_ ?_
      | refine LeO.bind ?_ (fun _ => ?_)
set_option maxHeartbeats 8000000 in
set_option maxRecDepth 100000 in
theorem laws_toInt64S.calls (k : Nat) (A0 : Option Addr) (c0 : Nat) (l0 : List Int) (r : List Int) (w : World) (hr0 : Kd.C (Kd.int .i64) w A0 l0.length l0) (hc0 : l0.length ≤ c0) (h : laws_toInt64S.f k l0 = some r) :
    Calls Try.prog 16 #[.slice A0 l0.length c0] w fun e w' => ∃ v0_ : Value, e = .returned (v0_) ∧ Kd.R (Kd.int .i64) 2 w' w.heap.size (fun _ => True) v0_ r ∧ Below w.heap.size w w' := by
  have HR0 := Aside0.mk hr0
  have HC0 := Aside0.mk hc0
  clear hr0 hc0
  have HB := mk0 (Below.refl w.heap.size w)
  have H : (if 0 ≤ (l0.length : Int) then (if ((l0.length : Int) : Int).toNat ≤ 35184372088832 then (laws_toInt64S.l0 k l0 (List.replicate ((l0.length : Int) : Int).toNat 0) 0) else (none)) else (none)) = some r := h
  clear h
  by_cases c2 : 0 ≤ (l0.length : Int)
  · rw [if_pos c2] at H
    have c2b0 := eq_true c2
    have c2b1 : decide (0 ≤ (l0.length : Int)) = true := decide_eq_true c2
    clear c2
    by_cases c3 : ((l0.length : Int) : Int).toNat ≤ 35184372088832
    · rw [if_pos c3] at H
      have c3b0 := eq_true c3
      have c3b1 : decide (((l0.length : Int) : Int).toNat ≤ 35184372088832) = true := decide_eq_true c3
      clear c3
      obtain ⟨y162, hy162⟩ : ∃ y_ : List Int, y_ = (List.replicate ((l0.length : Int) : Int).toNat 0) := ⟨_, rfl⟩
      replace H : (laws_toInt64S.l0 k l0 y162 0) = some r := by first | (rw [hy162]; with_reducible exact H) | (have H2_ := (Option.bind_some _ _).symm.trans H; rw [hy162]; with_reducible exact H2_) | (have H2_ := (Option.bind_some _ _).symm.trans H; with_reducible exact H2_) | with_reducible exact H | (rw [hy162]; exact H) | exact H
      have Ny162 := Aside0.mk hy162
      clear hy162
      have H' := Aside0.mk H
      clear H
      go_enter Try.func16, Try.ntmps16
      go_wp2_with (first | ((with_reducible refine gate_dst (N := 7) rfl ?_); refine Kd.R_make (Kd.int .i64) _ 2 rfl (N := 7) rfl 22 _ _ rfl (l0.length : Int) rfl rfl Try.underlying22 (.int .i64 0) 8 info2 rfl (by decide) (by omega) 0 (ok := fun _ => True) (okp := fun _ => True) rfl (fun _ hk => hk) trivial (of_decide_eq_true (by first | (with_reducible assumption) | assumption)) (Nat.le_trans (Nat.mul_le_mul_right _ (of_decide_eq_true (by first | (with_reducible assumption) | assumption) : (l0.length : Int).toNat ≤ 35184372088832)) (by omega)) (Below.refl _ _) (Nat.le_refl _) ?_; intro v163 w4 ho5 hb hg_ hnew_; clear hg_ hnew_; (first | rw [← Ny162.out] at ho5 | (simp only [Int.reduceToNat] at ho5; rw [← Ny162.out] at ho5)); have n0_ := mk0 (Kd.R_lower ho5 (below_size HB.out)); have n1_ := mk0 (below_step HB.out hb); clear HB; have HO164 := n0_; have HB := n1_; clear n0_ n1_; clear hb ho5))
      go_loopg [4] k (fun kq v4 w' => ∃ (x3_1 : List Int) (x4_1 : Int), v4 = .int .i64 x4_1 ∧ Aside0 (laws_toInt64S.l0 kq l0 x3_1 x4_1 = some r) ∧ Aside0 (kq ≤ k) ∧ Aside0 (Kd.R (Kd.int .i64) 2 w' w.heap.size (fun _ => True) v163 x3_1) ∧ Aside0 (Below w.heap.size w w'))
      case atStart => exact ⟨(y162), (0), (by first | rfl | (simp; done) | (simp [*]; done)), H', ⟨Nat.le_refl _⟩, ⟨by exact HO164.out⟩, ⟨by exact HB.out⟩⟩
      case round =>
        clear H'
        try clear c1
        try clear c2
        try clear c2b0
        try clear c2b1
        try clear p2
        try clear c3
        try clear c3b0
        try clear c3b1
        obtain ⟨x3_1, x4_1, rfl, HA, HK1, HO_3, HB⟩ := hrel
        cases gk with
        | zero => exact absurd HA.out (by simp [laws_toInt64S.l0])
        | succ k1 =>
          have H := HA.out
          clear HA
          simp only [laws_toInt64S.l0] at H
          by_cases c6 : x4_1 < (l0.length : Int)
          · rw [if_pos c6] at H
            have c6b0 : decide (x4_1 < (l0.length : Int)) = true := decide_eq_true c6
            clear c6
            by_cases c7 : 0 ≤ x4_1
            · rw [if_pos c7] at H
              have c7b0 : decide (0 ≤ x4_1) = true := decide_eq_true c7
              clear c7
              by_cases c8 : x4_1 < (x3_1.length : Int)
              · rw [if_pos c8] at H
                have c8b0 : decide (x4_1 < (x3_1.length : Int)) = true := decide_eq_true c8
                clear c8
                obtain ⟨y166, hy166⟩ : ∃ y_ : List Int, y_ = (x3_1.set (x4_1 : Int).toNat (rd l0 x4_1)) := ⟨_, rfl⟩
                replace H : (laws_toInt64S.l0 k1 l0 y166 (wrap64 (x4_1 + 1))) = some r := by first | (rw [hy166]; with_reducible exact H) | (have H2_ := (Option.bind_some _ _).symm.trans H; rw [hy166]; with_reducible exact H2_) | (have H2_ := (Option.bind_some _ _).symm.trans H; with_reducible exact H2_) | with_reducible exact H | (rw [hy166]; exact H) | exact H
                have Ny166 := Aside0.mk hy166
                clear hy166
                have H' := Aside0.mk H
                clear H
                have p165 : 0 ≤ (x4_1 : Int) := of_decide_eq_true (by first | (with_reducible assumption) | assumption)
                have q165 : x4_1 < (l0.length : Int) := of_decide_eq_true (by first | (with_reducible assumption) | assumption)
                obtain ⟨ad165, e165, hx165_0⟩ := Kd.at_int HR0.out x4_1 p165 q165
                cases e165
                replace hx165_0 := (HB.out.cell (World.block_lt_of_cell? w _ hx165_0)).trans hx165_0
                replace p165 := eq_true p165
                replace q165 := eq_true q165
                have p9 : 0 ≤ (x4_1 : Int) := of_decide_eq_true (by first | (with_reducible assumption) | assumption)
                have q9 : (x4_1 : Int) < ((x3_1.length : Int) : Int) := of_decide_eq_true (by first | (with_reducible assumption) | assumption)
                obtain ⟨go9, co9, eo9, gb9, gl9, cl9, HG9⟩ := Kd.R_form HO_3.out (by omega)
                (first | cases eo9 | (injection eo9 with ea_ en_ ec_; (first | subst ea_ | (injection ea_ with ea_; subst ea_)); subst ec_; clear en_))
                have GB9 := Aside0.mk gb9
                have GG9 := Aside0.mk HG9
                clear gb9 gl9 HG9
                obtain ⟨hx9_0, hf9_0⟩ := Kd.R_celln 0 HO_3.out (x4_1 : Int) p9 q9
                replace p9 := eq_true p9
                replace q9 := eq_true q9
                have HP10 := Kd.R_putg HO_3.out (x4_1 : Int) (rd l0 x4_1)
                go_wp2_with (first | ((with_reducible refine gate_store (t := 2) (p := 20) rfl ?_); refine store_event (t := 2) (p := 20) (v := ?vo_w11) (w1 := (wr.setCell ⟨go9, (x4_1 : Int).toNat, none⟩ (.int .i64 (rd l0 x4_1)))) ?hg ?ho ?hn ?hr ?_; (case ho => rfl); (case hg => rfl); (case hn => rfl); (case hr => first | (go_simp; done) | (go_simp; rfl)); intro w11 hw; have hg : wr.grownBy w11 (some go9) := (by rw [hw]; exact HP10.2); have hp_ : Kd.R (Kd.int .i64) 2 w11 w.heap.size (fun _ => True) (.slice (some ⟨go9, 0, none⟩) x3_1.length co9) y166 := (by rw [hw, Ny166.out]; exact HP10.1); clear HP10; have n0_ := mk0 (hp_); have n1_ := mk0 ((by rw [hw]; exact below_set (HB.out) GB9.out : Below w.heap.size w w11)); clear HO_3; clear HB; have HO_3 := n0_; have HB := n1_; clear n0_ n1_; clear hg hw hp_))
                go_roundg k1
                case measure => have := HK1.out; omega
                case rel => exact ⟨(y166), (wrap64 (x4_1 + 1)), (by first | rfl | (simp; done) | (simp [*]; done)), H', ⟨by have := HK1.out; omega⟩, ⟨by exact HO_3.out⟩, ⟨by exact HB.out⟩⟩
              · rw [if_neg c8] at H
                exact absurd H (by simp)
            · rw [if_neg c7] at H
              exact absurd H (by simp)
          · rw [if_neg c6] at H
            have c6b0 : decide (x4_1 < (l0.length : Int)) = false := decide_eq_false c6
            clear c6
            obtain rfl := Option.some.inj H
            go_wp2
            go_ret
            exact ⟨_, by first | rfl | (simp [errW_none, errW_some] <;> rfl) | (simp [*, errW_none, errW_some] <;> rfl), by exact HO_3.out, by exact HB.out⟩
    · rw [if_neg c3] at H
      exact absurd H (by simp)
  · rw [if_neg c2] at H
    exact absurd H (by simp)
/-! ### slices_Equal_int64_int64: function 91 -/
def slices_Equal_int64_int64.l0 : Nat → List Int → List Int → Int → Int → Option (Bool)
  | 0, _, _, _, _ => none
  | k + 1, x0, x1, x12, x13 => if x13 < x12 then (if 0 ≤ x13 then (if x13 < (x0.length : Int) then (if x13 < (x1.length : Int) then (if (rd x0 x13) = (rd x1 x13) then (slices_Equal_int64_int64.l0 k x0 x1 x12 (wrap64 (x13 + 1))) else (some false)) else (none)) else (none)) else (none)) else (some true)
def slices_Equal_int64_int64.f (k : Nat) (l0 : List Int) (l1 : List Int) : Option (Bool) := if (l0.length : Int) = (l1.length : Int) then (slices_Equal_int64_int64.l0 k l0 l1 (l0.length : Int) 0) else (some false)
theorem slices_Equal_int64_int64.mono_l : ∀ k, (∀ y0 y1 y2 y3, LeO (slices_Equal_int64_int64.l0 k y0 y1 y2 y3) (slices_Equal_int64_int64.l0 (k + 1) y0 y1 y2 y3))
  | 0 => fun _ _ _ _ r h => by simp [slices_Equal_int64_int64.l0] at h
  | k + 1 => by
    have ih0 := slices_Equal_int64_int64.mono_l k
    · intro y0 y1 y2 y3
      unfold slices_Equal_int64_int64.l0
      repeat' first
      | (with_reducible exact ih0 _ _ _ _)
      | (with_reducible exact LeO.refl _)
      | (with_reducible exact LeO.none _)
      | (with_reducible refine LeO.ite ?_ ?_)
      | (with_reducible refine LeO.bind ?_ (fun _ => ?_))
      | exact ih0 _ _ _ _
      | exact LeO.none _
      | refine LeO.ite ?_ ?_
      | refine LeO.bind ?_ (fun _ => ?_)
theorem slices_Equal_int64_int64.mono : ∀ a0 a1 k, LeO (slices_Equal_int64_int64.f k a0 a1) (slices_Equal_int64_int64.f (k + 1) a0 a1) := by
  intro a0 a1 k
  have ih0 := slices_Equal_int64_int64.mono_l k
  unfold slices_Equal_int64_int64.f
  repeat' first
      | (with_reducible exact ih0 _ _ _ _)
      | (with_reducible exact LeO.refl _)
      | (with_reducible exact LeO.none _)
      | (with_reducible refine LeO.ite ?_ ?_)
      | (with_reducible refine LeO.bind ?_ (fun _ => ?_))
      | exact ih0 _ _ _ _
      | exact LeO.none _
      | refine LeO.ite ?_ ?_
      | refine LeO.bind ?_ (fun _ => ?_)
set_option maxHeartbeats 8000000 in
set_option maxRecDepth 100000 in
theorem slices_Equal_int64_int64.calls (k : Nat) (A0 : Option Addr) (c0 : Nat) (l0 : List Int) (A1 : Option Addr) (c1 : Nat) (l1 : List Int) (r : Bool) (w : World) (hr0 : Kd.C (Kd.int .i64) w A0 l0.length l0) (hc0 : l0.length ≤ c0) (hr1 : Kd.C (Kd.int .i64) w A1 l1.length l1) (hc1 : l1.length ≤ c1) (h : slices_Equal_int64_int64.f k l0 l1 = some r) :
    Calls Try.prog 91 #[.slice A0 l0.length c0, .slice A1 l1.length c1] w fun e w' => e = .returned (.bool r) ∧ Drawn0 w w' := by
  have HR0 := Aside0.mk hr0
  have HC0 := Aside0.mk hc0
  clear hr0 hc0
  have HR1 := Aside0.mk hr1
  have HC1 := Aside0.mk hc1
  clear hr1 hc1
  have H : (if (l0.length : Int) = (l1.length : Int) then (slices_Equal_int64_int64.l0 k l0 l1 (l0.length : Int) 0) else (some false)) = some r := h
  clear h
  by_cases c3 : (l0.length : Int) = (l1.length : Int)
  · rw [if_pos c3] at H
    have c3b0 : ((l0.length : Int) == (l1.length : Int)) = true := beq_iff_eq.mpr c3
    have c3b1 : ((l0.length : Int) != (l1.length : Int)) = false := bne_eq_false_iff_eq.mpr c3
    have c3b2 : (l0.length == l1.length) = true := by first | simpa using c3 | (simp at c3 ⊢; omega)
    clear c3
    have H' := Aside0.mk H
    clear H
    go_enter Try.func91, Try.ntmps91
    go_wp2
    repeat (go_quiet (fail); try go_wp2)
    go_loopg [13] k (fun kq v13 w' => ∃ (x13_1 : Int), v13 = .int .i64 x13_1 ∧ Aside0 (slices_Equal_int64_int64.l0 kq l0 l1 (l0.length : Int) x13_1 = some r) ∧ Aside0 (kq ≤ k) ∧ Drawn0 w w')
    case atStart => exact ⟨(0), (by first | rfl | (simp; done) | (simp [*]; done)), H', ⟨Nat.le_refl _⟩, by repeat (first | exact Drawn0.refl _ | apply Drawn0.step)⟩
    case round =>
      clear H'
      try clear c1
      try clear p2
      try clear c3
      try clear c3b0
      try clear c3b1
      try clear c3b2
      obtain ⟨x13_1, rfl, HA, HK1, ⟨m1, rfl⟩⟩ := hrel
      cases gk with
      | zero => exact absurd HA.out (by simp [slices_Equal_int64_int64.l0])
      | succ k1 =>
        have H := HA.out
        clear HA
        simp only [slices_Equal_int64_int64.l0] at H
        by_cases c4 : x13_1 < (l0.length : Int)
        · rw [if_pos c4] at H
          have c4b0 : decide (x13_1 < (l0.length : Int)) = true := decide_eq_true c4
          clear c4
          by_cases c5 : 0 ≤ x13_1
          · rw [if_pos c5] at H
            have c5b0 : decide (0 ≤ x13_1) = true := decide_eq_true c5
            clear c5
            by_cases c6 : x13_1 < (l0.length : Int)
            · rw [if_pos c6] at H
              have c6b0 : decide (x13_1 < (l0.length : Int)) = true := decide_eq_true c6
              clear c6
              by_cases c7 : x13_1 < (l1.length : Int)
              · rw [if_pos c7] at H
                have c7b0 : decide (x13_1 < (l1.length : Int)) = true := decide_eq_true c7
                clear c7
                by_cases c8 : (rd l0 x13_1) = (rd l1 x13_1)
                · rw [if_pos c8] at H
                  have c8b0 : ((rd l0 x13_1) == (rd l1 x13_1)) = true := beq_iff_eq.mpr c8
                  have c8b1 : ((rd l0 x13_1) != (rd l1 x13_1)) = false := bne_eq_false_iff_eq.mpr c8
                  clear c8
                  have H' := Aside0.mk H
                  clear H
                  have p167 : 0 ≤ (x13_1 : Int) := of_decide_eq_true (by first | (with_reducible assumption) | assumption)
                  have q167 : x13_1 < (l0.length : Int) := of_decide_eq_true (by first | (with_reducible assumption) | assumption)
                  obtain ⟨ad167, e167, hx167_0⟩ := Kd.at_int HR0.out x13_1 p167 q167
                  cases e167
                  replace p167 := eq_true p167
                  replace q167 := eq_true q167
                  have p168 : 0 ≤ (x13_1 : Int) := of_decide_eq_true (by first | (with_reducible assumption) | assumption)
                  have q168 : x13_1 < (l1.length : Int) := of_decide_eq_true (by first | (with_reducible assumption) | assumption)
                  obtain ⟨ad168, e168, hx168_0⟩ := Kd.at_int HR1.out x13_1 p168 q168
                  cases e168
                  replace p168 := eq_true p168
                  replace q168 := eq_true q168
                  go_wp2
                  repeat (go_quiet (fail); try go_wp2)
                  go_roundg k1
                  case measure => have := HK1.out; omega
                  case rel => exact ⟨(wrap64 (x13_1 + 1)), (by first | rfl | (simp; done) | (simp [*]; done)), H', ⟨by have := HK1.out; omega⟩, by repeat (first | exact Drawn0.refl _ | apply Drawn0.step)⟩
                · rw [if_neg c8] at H
                  have c8b0 : ((rd l0 x13_1) == (rd l1 x13_1)) = false := beq_eq_false_iff_ne.mpr c8
                  have c8b1 : ((rd l0 x13_1) != (rd l1 x13_1)) = true := bne_iff_ne.mpr c8
                  obtain rfl := Option.some.inj H
                  have p167 : 0 ≤ (x13_1 : Int) := of_decide_eq_true (by first | (with_reducible assumption) | assumption)
                  have q167 : x13_1 < (l0.length : Int) := of_decide_eq_true (by first | (with_reducible assumption) | assumption)
                  obtain ⟨ad167, e167, hx167_0⟩ := Kd.at_int HR0.out x13_1 p167 q167
                  cases e167
                  replace p167 := eq_true p167
                  replace q167 := eq_true q167
                  have p168 : 0 ≤ (x13_1 : Int) := of_decide_eq_true (by first | (with_reducible assumption) | assumption)
                  have q168 : x13_1 < (l1.length : Int) := of_decide_eq_true (by first | (with_reducible assumption) | assumption)
                  obtain ⟨ad168, e168, hx168_0⟩ := Kd.at_int HR1.out x13_1 p168 q168
                  cases e168
                  replace p168 := eq_true p168
                  replace q168 := eq_true q168
                  go_wp2
                  repeat (go_quiet (fail); try go_wp2)
                  go_ret
                  exact ⟨by first | rfl | (simp; done) | (simp [*]; done), by repeat (first | exact Drawn0.refl _ | apply Drawn0.step)⟩
              · rw [if_neg c7] at H
                exact absurd H (by simp)
            · rw [if_neg c6] at H
              exact absurd H (by simp)
          · rw [if_neg c5] at H
            exact absurd H (by simp)
        · rw [if_neg c4] at H
          have c4b0 : decide (x13_1 < (l0.length : Int)) = false := decide_eq_false c4
          clear c4
          obtain rfl := Option.some.inj H
          go_wp2
          repeat (go_quiet (fail); try go_wp2)
          go_ret
          exact ⟨by first | rfl | (simp; done) | (simp [*]; done), by repeat (first | exact Drawn0.refl _ | apply Drawn0.step)⟩
  · rw [if_neg c3] at H
    have c3b0 : ((l0.length : Int) == (l1.length : Int)) = false := beq_eq_false_iff_ne.mpr c3
    have c3b1 : ((l0.length : Int) != (l1.length : Int)) = true := bne_iff_ne.mpr c3
    have c3b2 : (l0.length == l1.length) = false := by first | simpa using c3 | (simp at c3 ⊢; omega)
    obtain rfl := Option.some.inj H
    go_enter Try.func91, Try.ntmps91
    go_wp2
    repeat (go_quiet (fail); try go_wp2)
    go_ret
    exact ⟨by first | rfl | (simp; done) | (simp [*]; done), by repeat (first | exact Drawn0.refl _ | apply Drawn0.step)⟩
end Go.Proofs.Ytihfncjpfgdhoaa.PA
end
section
namespace Go.Proofs.Ytihfncjpfgdhoaa.PA
open Go.RowKit Go.Proofs.YtihfncjpfgdhoaaW.PrintWords Go.Proofs.YtihfncjpfgdhoaaW.PrintLast Go.Proofs.YtihfncjpfgdhoaaW.PrintMore
attribute [local go_sem] max2_int min2_int max_two min_two max_three min_three max_four min_four   -- for this text's walks alone
open Go.Proofs.Ytihfncjpfgdhoaa.K
/-! ### impl_IsWord: function 51 -/
def impl_IsWord.f (k : Nat) (l0 : List Int) : Option (Bool) := if (l0.length : Int) ≤ 12 then ((impl_twice.f l0).bind fun t169 => (if t169 = true then ((impl_normal.f l0).bind fun t170 => ((slices_Equal_int64_int64.f k t170 l0).bind fun t173 => (some t173))) else (some false))) else (some false)
theorem impl_IsWord.mono : ∀ a0 k, LeO (impl_IsWord.f k a0) (impl_IsWord.f (k + 1) a0) := by
  intro a0 k
  unfold impl_IsWord.f
  repeat' first
      | (with_reducible exact slices_Equal_int64_int64.mono _ _ _)
      | (with_reducible exact LeO.refl _)
      | (with_reducible exact LeO.none _)
      | (with_reducible refine LeO.ite ?_ ?_)
      | (with_reducible refine LeO.bind ?_ (fun _ => ?_))
      | exact slices_Equal_int64_int64.mono _ _ _
      | exact LeO.none _
      | refine LeO.ite ?_ ?_
      | refine LeO.bind ?_ (fun _ => ?_)
set_option maxHeartbeats 8000000 in
set_option maxRecDepth 100000 in
theorem impl_IsWord.calls (k : Nat) (A0 : Option Addr) (c0 : Nat) (l0 : List Int) (r : Bool) (w : World) (hr0 : Kd.C (Kd.int .i64) w A0 l0.length l0) (hc0 : l0.length ≤ c0) (h : impl_IsWord.f k l0 = some r) :
    Calls Try.prog 51 #[.slice A0 l0.length c0] w fun e w' => e = .returned (.bool r) ∧ Below w.heap.size w w' := by
  have HR0 := Aside0.mk hr0
  have HC0 := Aside0.mk hc0
  clear hr0 hc0
  have HB := mk0 (Below.refl w.heap.size w)
  have H : (if (l0.length : Int) ≤ 12 then ((impl_twice.f l0).bind fun t169 => (if t169 = true then ((impl_normal.f l0).bind fun t170 => ((slices_Equal_int64_int64.f k t170 l0).bind fun t173 => (some t173))) else (some false))) else (some false)) = some r := h
  clear h
  by_cases c2 : (l0.length : Int) ≤ 12
  · rw [if_pos c2] at H
    have c2b0 : decide ((l0.length : Int) ≤ 12) = true := decide_eq_true c2
    have c2b1 : decide (l0.length ≤ 12) = true := decide_eq_true (by omega)
    clear c2
    replace H := Option.bind_eq_some_iff.mp H
    obtain ⟨t169, A30, H⟩ := H
    replace H : (if t169 = true then ((impl_normal.f l0).bind fun t170 => ((slices_Equal_int64_int64.f k t170 l0).bind fun t173 => (some t173))) else (some false)) = some r := H
    have A3 := Aside0.mk A30
    clear A30
    by_cases c4 : t169 = true
    · subst c4
      have H1 : ((impl_normal.f l0).bind fun t170 => ((slices_Equal_int64_int64.f k t170 l0).bind fun t173 => (some t173))) = some r := by rw [if_pos rfl] at H; exact H
      clear H
      have H := H1
      clear H1
      replace H := Option.bind_eq_some_iff.mp H
      obtain ⟨t170, A50, H⟩ := H
      replace H : ((slices_Equal_int64_int64.f k t170 l0).bind fun t173 => (some t173)) = some r := H
      have A5 := Aside0.mk A50
      clear A50
      replace H := Option.bind_eq_some_iff.mp H
      obtain ⟨t173, A60, H⟩ := H
      replace H : (some t173) = some r := H
      have A6 := Aside0.mk A60
      clear A60
      obtain rfl := Option.some.inj H
      go_enter Try.func51, Try.ntmps51
      go_wp2_with (first | (go_at_call 90; (with_reducible refine (impl_twice.calls _ _ l0 true _ ?side1 ?side2 A3.out).mono ?_); (case side1 => exact HR0.out); (case side2 => exact HC0.out); rintro e w7 ⟨rfl, hb⟩; have n0_ := mk0 (below_step (by repeat (first | exact HB.out | apply below_alloc | apply pw_below_drewN | apply below_drew1)) hb); clear HB; have HB := n0_; clear n0_; (try clear hb); (try clear hb2); (try clear hk); (try clear hi)) | (go_at_call 92; (with_reducible refine (impl_normal.calls _ _ l0 t170 _ ?side1 ?side2 A5.out).mono ?_); (case side1 => exact (Kd.C_below HR0.out HB.out)); (case side2 => exact HC0.out); rintro e w8 ⟨v171, rfl, ho0, hb⟩; have n0_ := mk0 (Kd.R_lower ho0 (below_size (by repeat (first | exact HB.out | apply below_alloc | apply pw_below_drewN | apply below_drew1)))); have n1_ := mk0 (below_step (by repeat (first | exact HB.out | apply below_alloc | apply pw_below_drewN | apply below_drew1)) hb); clear HB; have HO172 := n0_; have HB := n1_; clear n0_ n1_; (try clear hb); (try clear hb2); (try clear hk); (try clear hi); (try clear ho0); obtain ⟨Ao9, co9, eo9⟩ := Kd.R_slice HO172.out; subst eo9) | (go_at_call 91; (with_reducible refine (slices_Equal_int64_int64.calls k _ _ t170 _ _ l0 t173 _ ?side1 ?side2 ?side3 ?side4 A6.out).mono ?_); (case side1 => exact (Kd.R_reads' HO172.out).2.2); (case side2 => exact (Kd.R_reads' HO172.out).2.1); (case side3 => exact (Kd.C_below HR0.out HB.out)); (case side4 => exact HC0.out); rintro e w' ⟨rfl, ⟨nd, rfl⟩⟩))
      go_ret
      exact ⟨by first | rfl | (simp [errW_none, errW_some] <;> rfl) | (simp [*, errW_none, errW_some] <;> rfl), by repeat (first | exact HB.out | apply below_alloc | apply pw_below_drewN | apply below_drew1)⟩
    · replace c4 := Bool.eq_false_iff.mpr c4
      subst c4
      have H1 : (some false) = some r := by rw [if_neg (show ¬ (false = true) by decide)] at H; exact H
      clear H
      have H := H1
      clear H1
      obtain rfl := Option.some.inj H
      go_enter Try.func51, Try.ntmps51
      go_wp2_with (first | (go_at_call 90; (with_reducible refine (impl_twice.calls _ _ l0 false _ ?side1 ?side2 A3.out).mono ?_); (case side1 => exact HR0.out); (case side2 => exact HC0.out); rintro e w10 ⟨rfl, hb⟩; have n0_ := mk0 (below_step (by repeat (first | exact HB.out | apply below_alloc | apply pw_below_drewN | apply below_drew1)) hb); clear HB; have HB := n0_; clear n0_; (try clear hb); (try clear hb2); (try clear hk); (try clear hi)))
      go_ret
      exact ⟨by first | rfl | (simp [errW_none, errW_some] <;> rfl) | (simp [*, errW_none, errW_some] <;> rfl), by repeat (first | exact HB.out | apply below_alloc | apply pw_below_drewN | apply below_drew1)⟩
  · rw [if_neg c2] at H
    have c2b0 : decide ((l0.length : Int) ≤ 12) = false := decide_eq_false c2
    have c2b1 : decide (l0.length ≤ 12) = false := decide_eq_false (by omega)
    clear c2
    obtain rfl := Option.some.inj H
    go_enter Try.func51, Try.ntmps51
    go_wp2
    go_ret
    exact ⟨by first | rfl | (simp [errW_none, errW_some] <;> rfl) | (simp [*, errW_none, errW_some] <;> rfl), by repeat (first | exact HB.out | apply below_alloc | apply pw_below_drewN | apply below_drew1)⟩
/-! ### impl_chords: function 53 -/
def impl_chords.f (l0 : List Int) : Option (Int) := some (wrap64 ((l0.length : Int) / 2))
set_option maxHeartbeats 8000000 in
set_option maxRecDepth 100000 in
theorem impl_chords.calls (A0 : Option Addr) (c0 : Nat) (l0 : List Int) (r : Int) (w : World) (hr0 : Kd.C (Kd.int .i64) w A0 l0.length l0) (hc0 : l0.length ≤ c0) (h : impl_chords.f l0 = some r) :
    Calls Try.prog 53 #[.slice A0 l0.length c0] w fun e w' => e = .returned (.int .i64 r) ∧ Drawn0 w w' := by
  have HR0 := Aside0.mk hr0
  have HC0 := Aside0.mk hc0
  clear hr0 hc0
  have H : (some (wrap64 ((l0.length : Int) / 2))) = some r := h
  clear h
  obtain rfl := Option.some.inj H
  go_enter Try.func53, Try.ntmps53
  go_wp2
  go_ret
  exact ⟨by first | rfl | (simp; done) | (simp [*]; done), by repeat (first | exact Drawn0.refl _ | apply Drawn0.step)⟩
end Go.Proofs.Ytihfncjpfgdhoaa.PA
end
section
namespace Go.Proofs.Ytihfncjpfgdhoaa.K
open Go.RowKit Go.Proofs.YtihfncjpfgdhoaaW.PrintWords Go.Proofs.YtihfncjpfgdhoaaW.PrintLast Go.Proofs.YtihfncjpfgdhoaaW.PrintMore Go.Proofs.Ytihfncjpfgdhoaa.PA
def isWordL (l : List Int) : Bool := decide (l.length ≤ 12) && (twiceL l && decide (normalL l = l))
theorem rd_lt (l : List Int) (i : Nat) (h : i < l.length) : rd l i = l[i] := by
  unfold rd
  rw [Int.toNat_natCast, List.getD_eq_getElem?_getD, List.getElem?_eq_getElem h]
  rfl
theorem take_snoc (l : List Int) (i : Nat) (h : i < l.length) : l.take (i + 1) = l.take i ++ [rd l i] := by
  rw [rd_lt l i h, List.take_succ_eq_append_getElem h]
theorem twice_l1 (l : List Int) (hl : l.length ≤ 4096) (i : Nat) (hi : i < l.length) (b : Bool) (hb : l.count (rd l i) = 2 → ∃ n, spec_l01Twice.l0 n l ((i : Int) + 1) = some b) (hb2 : l.count (rd l i) ≠ 2 → b = false) (d : Nat) :
    ∀ (j : Nat) (c : Int), l.length - j = d → j ≤ l.length → c = ((l.take j).count (rd l i) : Int) → ∃ n, spec_l01Twice.l1 n l i c j = some b := by
  induction d with
  | zero =>
    intro j c hd hj hc
    rw [List.take_of_length_le (by omega)] at hc
    by_cases h2 : l.count (rd l i) = 2
    · obtain ⟨n, hn⟩ := hb h2
      refine ⟨n + 1, ?_⟩
      simp only [spec_l01Twice.l1]
      rw [if_neg (by omega), if_pos (by omega), wrap_id (by omega) (by omega)]
      exact hn
    · refine ⟨1, ?_⟩
      simp only [spec_l01Twice.l1]
      rw [if_neg (by omega), if_neg (by omega), hb2 h2]
  | succ d ih =>
    intro j c hd hj hc
    have hlt : j < l.length := by omega
    have hcl : (l.take j).count (rd l i) ≤ 4096 := Nat.le_trans List.count_le_length (by rw [List.length_take]; omega)
    by_cases he : rd l j = rd l i
    · obtain ⟨n, hn⟩ := ih (j + 1) (c + 1) (by omega) (by omega) (by rw [take_snoc l j hlt, List.count_append, he]; simp; omega)
      refine ⟨n + 1, ?_⟩
      simp only [spec_l01Twice.l1]
      rw [if_pos (by omega), if_pos (by omega), if_pos (by omega), if_pos (by omega), if_pos he, wrap_id (by omega) (by omega), wrap_id (by omega) (by omega)]
      exact hn
    · obtain ⟨n, hn⟩ := ih (j + 1) c (by omega) (by omega) (by
        have h0 : List.count (rd l i) [rd l j] = 0 := List.count_eq_zero.mpr (by simpa using fun h => he h.symm)
        rw [take_snoc l j hlt, List.count_append, h0]; omega)
      refine ⟨n + 1, ?_⟩
      simp only [spec_l01Twice.l1]
      rw [if_pos (by omega), if_pos (by omega), if_pos (by omega), if_pos (by omega), if_neg he, wrap_id (by omega) (by omega)]
      exact hn
theorem twice_l0 (l : List Int) (hl : l.length ≤ 4096) (d : Nat) : ∀ (i : Nat), l.length - i = d → i ≤ l.length →
    ∃ n, spec_l01Twice.l0 n l i = some ((l.drop i).all fun x => l.count x == 2) := by
  induction d with
  | zero =>
    intro i hd hi
    refine ⟨1, ?_⟩
    simp only [spec_l01Twice.l0]
    rw [if_neg (by omega), List.drop_of_length_le (by omega)]
    rfl
  | succ d ih =>
    intro i hd hi
    have hlt : i < l.length := by omega
    obtain ⟨n, hn⟩ := twice_l1 l hl i hlt ((l.drop i).all fun x => l.count x == 2) (fun h2 => by
      obtain ⟨n, hn⟩ := ih (i + 1) (by omega) (by omega)
      refine ⟨n, ?_⟩
      rw [drop_at l i hlt, List.all_cons, h2]
      simpa using hn) (fun h2 => by rw [drop_at l i hlt, List.all_cons]; simp [h2]) l.length 0 0 (by omega) (by omega) (by simp)
    refine ⟨n + 1, ?_⟩
    simp only [spec_l01Twice.l0]
    rw [if_pos (by omega)]
    exact hn
theorem ev_specTwice (l : List Int) (hl : l.length ≤ 4096) : Ev (fun k => spec_l01Twice.f k l) (twiceL l) := by
  refine ev_of (fun k => spec_l01Twice.mono _ _) ?_
  obtain ⟨n, hn⟩ := twice_l0 l hl l.length 0 (by omega) (by omega)
  exact ⟨n, by simpa [spec_l01Twice.f, twiceL] using hn⟩
theorem normal_l1 (l : List Int) (met out : List Int) (i : Nat) (hi : i < l.length) (hm : met.length ≤ i) (ho : out.length = i) (hl : l.length ≤ 4096) (hnd : met.Nodup) (r : List Int)
    (h1 : ∀ p, met.idxOf? (rd l i) = some p → ∃ n, spec_l01Normal.l0 n l met (out ++ [(p : Int)]) ((i : Int) + 1) = some r)
    (h2 : met.idxOf? (rd l i) = none → ∃ n, spec_l01Normal.l0 n l (met ++ [rd l i]) (out ++ [(met.length : Int)]) ((i : Int) + 1) = some r) (d : Nat) :
    ∀ (j : Nat) (a : Int), met.length - j = d → j ≤ met.length → (a = -1 ∧ ¬ rd l i ∈ met.take j ∨ ∃ p : Nat, a = p ∧ p < j ∧ met.idxOf? (rd l i) = some p) → ∃ n, spec_l01Normal.l1 n l met out i a j = some r := by
  induction d with
  | zero =>
    intro j a hd hj ha
    rcases ha with ⟨ha, hno⟩ | ⟨p, ha, hp, hidx⟩
    · rw [List.take_of_length_le (by omega)] at hno
      obtain ⟨n, hn⟩ := h2 (by simpa [List.idxOf?_eq_none_iff] using hno)
      refine ⟨n + 1, ?_⟩
      simp only [spec_l01Normal.l1]
      rw [if_neg (by omega), if_pos (by omega), if_pos (by omega), if_pos (by omega), if_pos (by omega), if_pos (by omega), wrap_id (by omega) (by omega)]
      exact hn
    · obtain ⟨n, hn⟩ := h1 p hidx
      refine ⟨n + 1, ?_⟩
      simp only [spec_l01Normal.l1]
      rw [if_neg (by omega), if_neg (by omega), if_pos (by omega), wrap_id (by omega) (by omega), ha]
      exact hn
  | succ d ih =>
    intro j a hd hj ha
    have hlt : j < met.length := by clear ha; omega
    have hd1 : met.length - (j + 1) = d := by clear ha; omega
    have hj1 : j + 1 ≤ met.length := by clear ha; omega
    by_cases he : rd met j = rd l i
    · have hget : met[j] = rd l i := by rw [← rd_lt met j hlt, he]
      obtain ⟨n, hn⟩ := ih (j + 1) j hd1 hj1 (Or.inr ⟨j, rfl, Nat.lt_succ_self j, by
        rw [List.idxOf?, List.findIdx?_eq_some_iff_findIdx_eq]
        refine ⟨hlt, ?_⟩
        rw [List.findIdx_eq hlt]
        refine ⟨by simp [hget], fun q hq => ?_⟩
        have : met[q] ≠ met[j] := (List.pairwise_iff_getElem.mp hnd) q j (by omega) hlt hq
        rw [hget] at this
        simpa using this⟩)
      refine ⟨n + 1, ?_⟩
      simp only [spec_l01Normal.l1]
      rw [if_pos (by omega), if_pos (by omega), if_pos (by omega), if_pos (by omega), if_pos he, wrap_id (by omega) (by omega)]
      exact hn
    · obtain ⟨n, hn⟩ := ih (j + 1) a hd1 hj1 (by
        rcases ha with ⟨ha, hno⟩ | ⟨p, ha, hp, hidx⟩
        · refine Or.inl ⟨ha, ?_⟩
          rw [take_snoc met j hlt]
          simp only [List.mem_append, List.mem_singleton, not_or]
          exact ⟨hno, fun h => he h.symm⟩
        · exact Or.inr ⟨p, ha, by omega, hidx⟩)
      refine ⟨n + 1, ?_⟩
      simp only [spec_l01Normal.l1]
      rw [if_pos (by omega), if_pos (by omega), if_pos (by omega), if_pos (by omega), if_neg he, wrap_id (by omega) (by omega)]
      exact hn
theorem normal_l0 (l : List Int) (hl : l.length ≤ 4096) (d : Nat) : ∀ (met out : List Int) (i : Nat), l.length - i = d → i ≤ l.length → met.length ≤ i → out.length = i → met.Nodup →
    ∃ n, spec_l01Normal.l0 n l met out i = some (out ++ normFrom met (l.drop i)) := by
  induction d with
  | zero =>
    intro met out i hd hi hm ho hnd
    refine ⟨1, ?_⟩
    simp only [spec_l01Normal.l0]
    rw [if_neg (by omega), List.drop_of_length_le (by omega), normFrom, List.append_nil]
  | succ d ih =>
    intro met out i hd hi hm ho hnd
    have hlt : i < l.length := by omega
    obtain ⟨n, hn⟩ := normal_l1 l met out i hlt hm ho hl hnd (out ++ normFrom met (l.drop i)) (fun p hp => by
        obtain ⟨n, hn⟩ := ih met (out ++ [(p : Int)]) (i + 1) (by omega) (by omega) (by omega) (by simp; omega) hnd
        refine ⟨n, ?_⟩
        rw [drop_at l i hlt, normFrom, hp]
        simpa using hn) (fun hp => by
        obtain ⟨n, hn⟩ := ih (met ++ [rd l i]) (out ++ [(met.length : Int)]) (i + 1) (by omega) (by omega) (by simp; omega) (by simp; omega) (by
          rw [List.nodup_append]
          refine ⟨hnd, by simp, ?_⟩
          intro a ha b hb e
          obtain rfl : b = rd l i := by simpa using hb
          subst e
          exact (List.idxOf?_eq_none_iff.mp hp) ha)
        refine ⟨n, ?_⟩
        rw [drop_at l i hlt, normFrom, hp]
        simpa using hn) met.length 0 (-1) (by omega) (by omega) (Or.inl ⟨rfl, by simp⟩)
    refine ⟨n + 1, ?_⟩
    simp only [spec_l01Normal.l0]
    rw [if_pos (by omega)]
    exact hn
theorem ev_specNormal (l : List Int) (hl : l.length ≤ 4096) : Ev (fun k => spec_l01Normal.f k l) (normalL l) := by
  refine ev_of (fun k => spec_l01Normal.mono _ _) ?_
  obtain ⟨n, hn⟩ := normal_l0 l hl l.length [] [] 0 (by omega) (by omega) (by simp) rfl (by simp)
  exact ⟨n, by simpa [spec_l01Normal.f, normalL] using hn⟩
theorem same_l0 (a b : List Int) (hl : a.length < 1099511627776) (hab : a.length = b.length) (d : Nat) : ∀ (i : Nat), a.length - i = d → i ≤ a.length →
    ∃ n, spec_l01Same.l0 n a b i = some (decide (a.drop i = b.drop i)) := by
  induction d with
  | zero =>
    intro i hd hi
    refine ⟨1, ?_⟩
    simp only [spec_l01Same.l0]
    rw [if_neg (by omega), List.drop_of_length_le (by omega), List.drop_of_length_le (by omega)]
    rfl
  | succ d ih =>
    intro i hd hi
    have hlt : i < a.length := by omega
    obtain ⟨n, hn⟩ := ih (i + 1) (by omega) (by omega)
    refine ⟨n + 1, ?_⟩
    simp only [spec_l01Same.l0]
    rw [if_pos (by omega), if_pos (by omega), if_pos (by omega), wrap_id (by omega) (by omega), drop_at a i hlt, drop_at b i (by omega)]
    by_cases h : rd a i = rd b i
    · rw [if_pos h]
      refine (show spec_l01Same.l0 n a b ((i : Int) + 1) = _ from hn).trans ?_
      simp [h]
    · rw [if_neg h]
      simp [h]
theorem ev_specSame (a b : List Int) (hl : a.length < 1099511627776) : Ev (fun k => spec_l01Same.f k a b) (decide (a = b)) := by
  refine ev_of (fun k => spec_l01Same.mono _ _ _) ?_
  by_cases h : a.length = b.length
  · obtain ⟨n, hn⟩ := same_l0 a b hl h a.length 0 (by omega) (by omega)
    refine ⟨n, ?_⟩
    unfold spec_l01Same.f
    rw [if_pos (by omega)]
    exact hn
  · refine ⟨0, ?_⟩
    unfold spec_l01Same.f
    rw [if_neg (by omega)]
    have : ¬ a = b := fun e => h (by rw [e])
    simp [this]
theorem equal_l0 (a b : List Int) (hl : a.length < 1099511627776) (hab : a.length = b.length) (d : Nat) : ∀ (i : Nat), a.length - i = d → i ≤ a.length →
    ∃ n, slices_Equal_int64_int64.l0 n a b a.length i = some (decide (a.drop i = b.drop i)) := by
  induction d with
  | zero =>
    intro i hd hi
    refine ⟨1, ?_⟩
    simp only [slices_Equal_int64_int64.l0]
    rw [if_neg (by omega), List.drop_of_length_le (by omega), List.drop_of_length_le (by omega)]
    rfl
  | succ d ih =>
    intro i hd hi
    have hlt : i < a.length := by omega
    obtain ⟨n, hn⟩ := ih (i + 1) (by omega) (by omega)
    refine ⟨n + 1, ?_⟩
    simp only [slices_Equal_int64_int64.l0]
    rw [if_pos (by omega), if_pos (by omega), if_pos (by omega), if_pos (by omega), wrap_id (by omega) (by omega), drop_at a i hlt, drop_at b i (by omega)]
    by_cases h : rd a i = rd b i
    · rw [if_pos h]
      refine (show slices_Equal_int64_int64.l0 n a b a.length ((i : Int) + 1) = _ from hn).trans ?_
      simp [h]
    · rw [if_neg h]
      simp [h]
theorem ev_equal (a b : List Int) (hl : a.length < 1099511627776) : Ev (fun k => slices_Equal_int64_int64.f k a b) (decide (a = b)) := by
  refine ev_of (fun k => slices_Equal_int64_int64.mono _ _ _) ?_
  by_cases h : a.length = b.length
  · obtain ⟨n, hn⟩ := equal_l0 a b hl h a.length 0 (by omega) (by omega)
    refine ⟨n, ?_⟩
    unfold slices_Equal_int64_int64.f
    rw [if_pos (by omega)]
    exact hn
  · refine ⟨0, ?_⟩
    unfold slices_Equal_int64_int64.f
    rw [if_neg (by omega)]
    have : ¬ a = b := fun e => h (by rw [e])
    simp [this]
theorem ev_specIs (l : List Int) : Ev (fun k => spec_l01Is.f k l) (isWordL l) := by
  unfold spec_l01Is.f isWordL
  refine ev_if (fun h => ?_) (fun h => ?_)
  · rw [show decide (l.length ≤ 12) = true from decide_eq_true (by omega), Bool.true_and]
    refine Ev.bind (ev_specTwice l (by omega)) ?_
    refine ev_if (fun ht => ?_) (fun ht => ?_)
    · rw [ht, Bool.true_and]
      refine Ev.bind (ev_specNormal l (by omega)) (Ev.bind (ev_specSame _ _ (by rw [normalL_length]; omega)) (ev_some _))
    · rw [Bool.eq_false_iff.mpr ht, Bool.false_and]
      exact ev_some _
  · rw [show decide (l.length ≤ 12) = false from decide_eq_false (by omega), Bool.false_and]
    exact ev_some _
theorem ev_isWord (l : List Int) (h64 : Ok64 l) : Ev (fun k => impl_IsWord.f k l) (isWordL l) := by
  unfold impl_IsWord.f isWordL
  refine ev_if (fun h => ?_) (fun h => ?_)
  · rw [show decide (l.length ≤ 12) = true from decide_eq_true (by omega), Bool.true_and]
    refine ev_const (show impl_twice.f l = some (twiceL l) by unfold impl_twice.f; rw [if_pos ⟨by omega, h64⟩]) ?_
    refine ev_if (fun ht => ?_) (fun ht => ?_)
    · rw [ht, Bool.true_and]
      refine ev_const (show impl_normal.f l = some (normalL l) by unfold impl_normal.f; rw [if_pos ⟨by omega, h64⟩]) (Ev.bind (ev_equal _ _ (by rw [normalL_length]; omega)) (ev_some _))
    · rw [Bool.eq_false_iff.mpr ht, Bool.false_and]
      exact ev_some _
  · rw [show decide (l.length ≤ 12) = false from decide_eq_false (by omega), Bool.false_and]
    exact ev_some _
structure Word (l : List Int) (n : Nat) : Prop where
  len : l.length = 2 * n
  small : n ≤ 6
  range : ∀ j, j < l.length → 0 ≤ rd l j ∧ rd l j < n
  two : ∀ i, i < n → l.count (i : Int) = 2
theorem normFrom_range (l : List Int) : ∀ met, ∀ y ∈ normFrom met l, 0 ≤ y ∧ y < ((metBy met l).length : Int) := by
  have hmono : ∀ (l : List Int) (met : List Int), met.length ≤ (metBy met l).length := by
    intro l
    induction l with
    | nil => intro met; exact Nat.le_refl _
    | cons x r ih =>
      intro met
      rw [metBy]
      split
      · exact ih met
      · have := ih (met ++ [x])
        simp at this
        omega
  induction l with
  | nil => intro met y hy; simp [normFrom] at hy
  | cons x r ih =>
    intro met y hy
    rw [normFrom] at hy
    rw [metBy]
    cases h : met.idxOf? x with
    | some j =>
      rw [h] at hy
      simp only at hy ⊢
      rcases List.mem_cons.mp hy with rfl | hy
      · have h1 := idxOf?_lt h
        have h2 := hmono r met
        omega
      · exact ih met y hy
    | none =>
      rw [h] at hy
      simp only at hy ⊢
      rcases List.mem_cons.mp hy with rfl | hy
      · have h2 := hmono r (met ++ [x])
        simp at h2
        omega
      · exact ih (met ++ [x]) y hy
theorem normFrom_onto (l : List Int) : ∀ met (k : Nat), met.length ≤ k → k < (metBy met l).length → (k : Int) ∈ normFrom met l := by
  induction l with
  | nil => intro met k h1 h2; simp [metBy] at h2; omega
  | cons x r ih =>
    intro met k h1 h2
    rw [metBy] at h2
    rw [normFrom]
    cases h : met.idxOf? x with
    | some j =>
      rw [h] at h2
      exact List.mem_cons_of_mem _ (ih met k h1 h2)
    | none =>
      rw [h] at h2
      simp only at h2 ⊢
      by_cases e : k = met.length
      · subst e; exact List.mem_cons_self
      · exact List.mem_cons_of_mem _ (ih (met ++ [x]) k (by simp; omega) h2)
theorem length_of_counts (n : Nat) : ∀ (l : List Int), (∀ y ∈ l, 0 ≤ y ∧ y < (n : Int)) → (∀ i : Nat, i < n → l.count (i : Int) = 2) → l.length = 2 * n := by
  induction n with
  | zero =>
    intro l h _
    cases l with
    | nil => rfl
    | cons y r =>
      have := h y List.mem_cons_self
      omega
  | succ n ih =>
    intro l h h2
    have h3 := ih (l.filter (fun y => y != (n : Int))) (fun y hy => by
      obtain ⟨hy1, hy2⟩ := List.mem_filter.mp hy
      have := h y hy1
      have : y ≠ (n : Int) := by simpa using hy2
      omega) (fun i hi => by
      rw [List.count_filter (by have : (i : Int) ≠ n := by omega
                                simpa using this)]
      exact h2 i (by omega))
    have h4 : l.length = (l.filter (fun y => y != (n : Int))).length + l.count (n : Int) := by
      clear h h2 h3 ih
      induction l with
      | nil => rfl
      | cons y r ihr =>
        by_cases e : y = (n : Int)
        · subst e; simp; omega
        · have h5 : (y != (n : Int)) = true := by simpa using e
          rw [List.filter_cons, if_pos h5, List.count_cons]
          simp [e]
          omega
    have := h2 n (by omega)
    omega
theorem word_of (l : List Int) (h : isWordL l = true) : ∃ n, Word l n := by
  unfold isWordL at h
  simp only [Bool.and_eq_true, decide_eq_true_eq] at h
  obtain ⟨h12, ht, hn⟩ := h
  have hr : ∀ y ∈ l, 0 ≤ y ∧ y < ((metBy [] l).length : Int) := by
    intro y hy
    exact normFrom_range l [] y (by
      have : normFrom [] l = l := hn
      rw [this]; exact hy)
  have hc : ∀ i : Nat, i < (metBy [] l).length → l.count (i : Int) = 2 := by
    intro i hi
    have hm : (i : Int) ∈ l := by
      have h5 := normFrom_onto l [] i (by simp) hi
      have : normFrom [] l = l := hn
      rw [this] at h5
      exact h5
    have := List.all_eq_true.mp ht _ hm
    simpa using this
  have hlen := length_of_counts _ l hr hc
  exact ⟨_, hlen, by omega, fun j hj => hr _ (rd_mem l j hj), hc⟩
end Go.Proofs.Ytihfncjpfgdhoaa.K
end
section
namespace Go.Proofs.Ytihfncjpfgdhoaa.K
open Go.RowKit Go.Proofs.YtihfncjpfgdhoaaW.PrintWords Go.Proofs.YtihfncjpfgdhoaaW.PrintLast Go.Proofs.YtihfncjpfgdhoaaW.PrintMore
def idxFrom (p : Int → Bool) (l : List Int) (i : Nat) : Int := match l.findIdx? p with | some j => (i + j : Nat) | none => -1
def PredOn (P : Program) (R : World → World → Prop) (fv : Value) (p : Int → Bool) (l : List Int) (w : World) : Prop :=
  ∀ x ∈ l, ∀ w1, R w w1 → Runs P fv #[.int .i64 x] w1 fun e w2 => e = .returned (.bool (p x)) ∧ R w1 w2
theorem idxFrom_hit (p : Int → Bool) (l : List Int) (k : Nat) (h : k < l.length) (hp : p (rd l k) = true) : idxFrom p (l.drop k) k = k := by
  rw [drop_at l k h]
  simp [idxFrom, List.findIdx?_cons, hp]
theorem idxFrom_miss (p : Int → Bool) (l : List Int) (k : Nat) (h : k < l.length) (hp : p (rd l k) = false) : idxFrom p (l.drop k) k = idxFrom p (l.drop (k + 1)) (k + 1) := by
  rw [drop_at l k h]
  simp only [idxFrom, List.findIdx?_cons, hp]
  cases h : (l.drop (k + 1)).findIdx? p with
  | none => simp [h]
  | some j => simp [h]; omega
theorem idx_any (p : Int → Bool) (l : List Int) : decide (0 ≤ idxFrom p l 0) = l.any p := by
  unfold idxFrom
  cases h : l.findIdx? p with
  | none =>
    rw [List.findIdx?_eq_none_iff] at h
    have : l.any p = false := by simpa using h
    rw [this]
    rfl
  | some j =>
    have h2 : l.any p = true := by
      have := List.findIdx?_isSome (xs := l) (p := p)
      rw [h] at this
      simpa using this.symm
    rw [h2]
    simp
set_option maxHeartbeats 1000000 in
set_option maxRecDepth 100000 in
theorem indexFunc {R : World → World → Prop} (hR : Step R) (A0 : Option Addr) (c0 : Nat) (l : List Int) (fv : Value) (p : Int → Bool) (w : World)
    (hr : Kd.C (Kd.int .i64) w A0 l.length l) (hp : PredOn Try.prog R fv p l w) :
    Calls Try.prog 122 #[.slice A0 l.length c0, fv] w fun e w' => e = .returned (.int .i64 (idxFrom p l 0)) ∧ R w w' := by
  have HR := Aside0.mk hr
  have HP := Aside0.mk hp
  have hm : l.length ≤ 9223372036854775807 := hr.2.1
  clear hr hp
  go_enter Try.func122, Try.ntmps122
  go_wp2
  go_loopw [8] (fun i wr => ∃ k : Nat, k ≤ l.length ∧ i = .int .i64 k ∧ Aside0 (idxFrom p l 0 = idxFrom p (l.drop k) k) ∧ Aside0 (R w wr)) (fun i _ => l.length - (intOf i).toNat)
  case atStart => exact ⟨0, Nat.zero_le _, rfl, ⟨rfl⟩, ⟨hR.refl _⟩⟩
  case round =>
    obtain ⟨k, hk, rfl, HI, HW⟩ := hrel
    by_cases hlt : k < l.length
    · obtain ⟨ad, hA, hc⟩ := Kd.at_int (Kd.C_below HR.out (hR.below HW.out)) k (by omega) (by omega)
      subst hA
      have hrun := Aside0.mk (HP.out (rd l k) (rd_mem l k hlt) wr HW.out)
      simp only [Int.toNat_natCast] at hc
      go_wp2_with ((with_reducible refine gate_dst (N := 16) rfl ?_); refine goesV (some 16) rfl rfl rfl (fv := fv) rfl #[.int .i64 (rd l k)] (by (try simp only [List.map_toArray, List.map_cons, List.map_nil]); rfl) ?_; refine hrun.out.mono ?_; rintro e w2 ⟨rfl, h2⟩; have H2 := Aside0.mk h2; clear h2; refine ⟨_, rfl, ?_⟩)
      · have hpt : p (rd l k) = true := by assumption
        go_ret
        exact ⟨by rw [HI.out, idxFrom_hit p l k hlt hpt]; rfl, hR.trans HW.out H2.out⟩
      · have hpf : p (rd l k) = false := by assumption
        go_roundw
        case rel => exact ⟨k + 1, hlt, by go_num, ⟨by rw [HI.out, idxFrom_miss p l k hlt hpf]⟩, ⟨hR.trans HW.out H2.out⟩⟩
        case measure => simp [intOf]; omega
    · have hke : k = l.length := by omega
      go_wp2
      go_ret
      exact ⟨by rw [HI.out, hke, List.drop_length]; rfl, HW.out⟩
theorem containsFunc {R : World → World → Prop} (hR : Step R) (A0 : Option Addr) (c0 : Nat) (l : List Int) (fv : Value) (p : Int → Bool) (w : World)
    (hr : Kd.C (Kd.int .i64) w A0 l.length l) (hp : PredOn Try.prog R fv p l w) :
    Calls Try.prog 96 #[.slice A0 l.length c0, fv] w fun e w' => e = .returned (.bool (l.any p)) ∧ R w w' := by
  have HR := Aside0.mk hr
  have HP := Aside0.mk hp
  clear hr hp
  have HE := Aside0.mk (idx_any p l)
  go_enter Try.func96, Try.ntmps96
  go_wp2_with (go_at_call 122; refine (indexFunc hR A0 c0 l fv p _ HR.out HP.out).mono ?_; rintro e w1 ⟨rfl, h1⟩; have H1 := Aside0.mk h1; clear h1)
  go_ret
  exact ⟨by rw [← HE.out]; rfl, H1.out⟩
end Go.Proofs.Ytihfncjpfgdhoaa.K
end
section
namespace Go.Proofs.Ytihfncjpfgdhoaa.K
open Go.RowKit Go.Proofs.YtihfncjpfgdhoaaW.PrintWords Go.Proofs.YtihfncjpfgdhoaaW.PrintLast Go.Proofs.YtihfncjpfgdhoaaW.PrintMore
theorem c_inG (a b c : Int) (w : World) : Calls Try.prog 81 #[.int .i64 a, .int .i64 b, .int .i64 c] w fun e w' => e = .returned (.bool (inB a b c)) ∧ w = w' := by
  by_cases h : b ≤ a
  · have hd : decide (b ≤ a) = true := decide_eq_true h
    clear h
    go_enter Try.func81, Try.ntmps81
    go_wp2
    go_ret
    exact ⟨by rw [inB, hd]; rfl, rfl⟩
  · have hd : decide (b ≤ a) = false := decide_eq_false h
    clear h
    go_enter Try.func81, Try.ntmps81
    go_wp2
    go_ret
    exact ⟨by rw [inB, hd]; rfl, rfl⟩
def isHeadB (x : Int) : Bool := inB x 0 1
def isSignB (x : Int) : Bool := (x == 1) || (x == -1)
theorem c_isHead (a : Int) (w : World) : Calls Try.prog 76 #[.int .i64 a] w fun e w' => e = .returned (.bool (isHeadB a)) ∧ w = w' := by
  go_enter Try.func76, Try.ntmps76
  go_wp2_with (go_at_call 81; refine (c_inG _ _ _ _).mono ?_; rintro e w1 ⟨rfl, rfl⟩)
  go_ret
  exact ⟨rfl, rfl⟩
theorem c_isSign (a : Int) (w : World) : Calls Try.prog 77 #[.int .i64 a] w fun e w' => e = .returned (.bool (isSignB a)) ∧ w = w' := by
  by_cases h : a = 1
  · subst h
    go_enter Try.func77, Try.ntmps77
    go_wp2
    go_ret
    exact ⟨rfl, rfl⟩
  · have h1 : (a == 1) = false := beq_eq_false_iff_ne.mpr h
    have hs : isSignB a = (a == -1) := by unfold isSignB; rw [h1, Bool.false_or]
    go_enter Try.func77, Try.ntmps77
    go_wp2
    go_ret
    rw [hs]
    exact ⟨rfl, rfl⟩
theorem r_IG1 (x : Int) (w : World) : Runs Try.prog (.func (.func 97) #[] #[]) #[.int .i64 x] w fun e w' => e = .returned (.bool (!isHeadB x)) ∧ Drawn0 w w' := by
  refine ⟨97, _, _, _, rfl, Try.func97, by kernel_rfl, rfl, ?_⟩
  show Calls _ _ #[.int .i64 x] _ _
  go_enter Try.func97, Try.ntmps97
  go_wp2_with (go_at_call 76; refine (c_isHead _ _).mono ?_; rintro e w1 ⟨rfl, rfl⟩)
  go_ret
  exact ⟨rfl, Drawn0.refl _⟩
theorem r_IG2 (x : Int) (w : World) : Runs Try.prog (.func (.func 98) #[] #[]) #[.int .i64 x] w fun e w' => e = .returned (.bool (!isSignB x)) ∧ Drawn0 w w' := by
  refine ⟨98, _, _, _, rfl, Try.func98, by kernel_rfl, rfl, ?_⟩
  show Calls _ _ #[.int .i64 x] _ _
  go_enter Try.func98, Try.ntmps98
  go_wp2_with (go_at_call 77; refine (c_isSign _ _).mono ?_; rintro e w1 ⟨rfl, rfl⟩)
  go_ret
  exact ⟨rfl, Drawn0.refl _⟩
def anyNoHead.f (l0 : List Int) : Option Bool := some (l0.any fun x => !isHeadB x)
theorem anyNoHead.calls (A0 : Option Addr) (c0 : Nat) (l0 : List Int) (r : Bool) (w : World) (hr0 : Kd.C (Kd.int .i64) w A0 l0.length l0) (hc0 : l0.length ≤ c0) (h : anyNoHead.f l0 = some r) :
    Calls Try.prog 96 #[.slice A0 l0.length c0, .func (.func 97) #[] #[]] w fun e w' => e = .returned (.bool r) ∧ Drawn0 w w' := by
  obtain rfl := Option.some.inj h
  exact containsFunc step_drawn A0 c0 l0 _ _ w hr0 (fun x _ w1 hw1 => (r_IG1 x w1).mono fun e w2 hh => hh)
def anyNoSign.f (l0 : List Int) : Option Bool := some (l0.any fun x => !isSignB x)
theorem anyNoSign.calls (A0 : Option Addr) (c0 : Nat) (l0 : List Int) (r : Bool) (w : World) (hr0 : Kd.C (Kd.int .i64) w A0 l0.length l0) (hc0 : l0.length ≤ c0) (h : anyNoSign.f l0 = some r) :
    Calls Try.prog 96 #[.slice A0 l0.length c0, .func (.func 98) #[] #[]] w fun e w' => e = .returned (.bool r) ∧ Drawn0 w w' := by
  obtain rfl := Option.some.inj h
  exact containsFunc step_drawn A0 c0 l0 _ _ w hr0 (fun x _ w1 hw1 => (r_IG2 x w1).mono fun e w2 hh => hh)
end Go.Proofs.Ytihfncjpfgdhoaa.K
end
section
namespace Go.Proofs.Ytihfncjpfgdhoaa.K
open Go.RowKit Go.Proofs.YtihfncjpfgdhoaaW.PrintWords Go.Proofs.YtihfncjpfgdhoaaW.PrintLast Go.Proofs.YtihfncjpfgdhoaaW.PrintMore
theorem law_map_bool : Try.prog.underlying 84 = some (.map 2 4) := Try.underlying84
theorem zero_bool (w : World) : (zeroValue 4).run Try.prog w = .ok (.bool false) w := by kernel_rfl
def seenOf (met : List Int) : Lit → Option Value
  | .int .i64 x => if x ∈ met then some (.bool true) else none
  | _ => none
theorem seenOf_get (met : List Int) (x : Int) : (seenOf met (.int .i64 x)).getD (.bool false) = .bool (decide (x ∈ met)) := by
  simp only [seenOf]
  split <;> rename_i h <;> simp [h]
theorem seenOf_snoc (met : List Int) (x : Int) (kl : Lit) : seenOf (met ++ [x]) kl = if kl.sameKey (.int .i64 x) = true then some (.bool true) else seenOf met kl := by
  cases kl with
  | int q y => cases q <;> simp [seenOf, Lit.sameKey]; by_cases e : y = x <;> simp [e]
  | _ => simp [seenOf, Lit.sameKey]
theorem seenOf_again (met : List Int) (x : Int) (hx : x ∈ met) (kl : Lit) : seenOf met kl = if kl.sameKey (.int .i64 x) = true then some (.bool true) else seenOf met kl := by
  cases kl with
  | int q y => cases q <;> simp [seenOf, Lit.sameKey]; intro e; subst e; simp [hx]
  | _ => simp [seenOf, Lit.sameKey]
def Sep (u v : Value) : Prop := ∀ k, u.ownBlock = some k → some k ≠ v.ownBlock
structure RenSt (w W : World) (mb gb gr : Nat) (v7 cH cS vH vS : Value) (N H S : List Int) (s : Nat) (m : Lit → Option Value) : Prop where
  map : MapV W Try.prog 2 mb s m
  blk : W.heap[gb]? = some (.cells #[v7, cH, cS] 34 (0, 0))
  res : W.heap[gr]? = some (.cells #[.slice none 0 0, .slice none 0 0, .slice none 0 0] 34 (0, 0))
  r7 : RI W w.heap.size (fun _ => True) v7 N
  rH : RI W w.heap.size (fun _ => True) vH H
  rS : RI W w.heap.size (fun _ => True) vS S
  s7H : Sep vH v7
  s7S : Sep vS v7
  sHS : Sep vH vS
  sSH : Sep vS vH
  bel : Below w.heap.size w W
  gB : w.heap.size ≤ gb
  mB : w.heap.size ≤ mb
  ne : gr ≠ gb
theorem blk_of_map {W : World} {P : Program} {k : TypeId} {b s : Nat} {m : Lit → Option Value} (h : MapV W P k b s m) {g : Nat} {cs : Array Value} {t : TypeId} {fr : Nat × Nat} (hb : W.heap[g]? = some (.cells cs t fr)) : g ≠ b := by
  obtain ⟨D, ⟨es, clock, h1, _⟩, _⟩ := h
  intro e
  subst e
  rw [hb] at h1
  cases h1
section
variable {w W W2 : World} {mb gb gr : Nat} {v7 cH cS vH vS : Value} {N H S : List Int} {s : Nat} {m : Lit → Option Value}
theorem RenSt.map_ne (h : RenSt w W mb gb gr v7 cH cS vH vS N H S s m) {v : Value} {l : List Int} (hv : RI W w.heap.size (fun _ => True) v l) : some mb ≠ v.ownBlock := by
  intro e
  obtain ⟨cells, hc⟩ := Kd.R_typed hv mb e.symm
  exact blk_of_map h.map hc rfl
theorem RenSt.blk_ne (h : RenSt w W mb gb gr v7 cH cS vH vS N H S s m) {v : Value} {l : List Int} (hv : RI W w.heap.size (fun _ => True) v l) : some gb ≠ v.ownBlock ∧ some gr ≠ v.ownBlock :=
  ⟨Kd.R_ne hv h.blk (by decide), Kd.R_ne hv h.res (by decide)⟩
theorem RenSt.below (h : RenSt w W mb gb gr v7 cH cS vH vS N H S s m) (hb : Below W.heap.size W W2) : RenSt w W2 mb gb gr v7 cH cS vH vS N H S s m :=
  ⟨h.map.below hb, (hb.block gb (blk_lt h.blk)).trans h.blk, (hb.block gr (blk_lt h.res)).trans h.res, Kd.R_below h.r7 hb, Kd.R_below h.rH hb, Kd.R_below h.rS hb, h.s7H, h.s7S, h.sHS, h.sSH, below_then h.bel h.bel.size hb, h.gB, h.mB, h.ne⟩
theorem RenSt.stored (h : RenSt w W mb gb gr v7 cH cS vH vS N H S s m) {s2 : Nat} {m2 : Lit → Option Value} (hm : MapV W2 Try.prog 2 mb s2 m2) (hg : W.grownBy W2 (some mb)) : RenSt w W2 mb gb gr v7 cH cS vH vS N H S s2 m2 := by
  have nb := blk_of_map h.map h.blk
  have nr := blk_of_map h.map h.res
  refine ⟨hm, (hg.block gb (blk_lt h.blk) (by simpa using nb)).trans h.blk, (hg.block gr (blk_lt h.res) (by simpa using nr)).trans h.res, Kd.R_grown2 h.r7 rfl hg ?_, Kd.R_grown2 h.rH rfl hg ?_, Kd.R_grown2 h.rS rfl hg ?_, h.s7H, h.s7S, h.sHS, h.sSH, h.bel.grown hg h.bel.size ?_, h.gB, h.mB, h.ne⟩
  · intro k hk; cases hk; exact h.map_ne h.r7
  · intro k hk; cases hk; exact h.map_ne h.rH
  · intro k hk; cases hk; exact h.map_ne h.rS
  · intro k hk; cases hk; exact h.mB
theorem RenSt.appH (h : RenSt w W mb gb gr v7 cH cS vH vS N H S s m) {v : Value} {H2 : List Int} (hr : RI W2 w.heap.size (fun _ => True) v H2) (hb : Below w.heap.size w W2) (hg : W.grownBy W2 vH.ownBlock) (hat : v.ownBlock = vH.ownBlock ∨ ∃ b, v.ownBlock = some b ∧ W.heap.size ≤ b) : RenSt w W2 mb gb gr v7 cH cS v vS N H2 S s m := by
  have hx := h.blk_ne h.rH
  have hmb := h.map_ne h.rH
  have new : ∀ {u : Value} {l : List Int}, RI W w.heap.size (fun _ => True) u l → Sep vH u → Sep v u ∧ Sep u v := fun {u l} hu hs => by
    have key : ∀ k, v.ownBlock = some k → some k ≠ u.ownBlock := fun k hk => by
      rcases hat with e | ⟨b, e, hle⟩
      · exact hs k (e ▸ hk)
      · intro e2
        have h1 := Kd.R_lt hu k e2.symm
        rw [e] at hk
        injection hk with hk
        omega
    exact ⟨key, fun k hk e => key k e.symm hk.symm⟩
  refine ⟨h.map.kept hg hmb, (hg.block gb (blk_lt h.blk) hx.1).trans h.blk, (hg.block gr (blk_lt h.res) hx.2).trans h.res, Kd.R_grown2 h.r7 rfl hg (fun k hk => h.s7H k hk), hr, Kd.R_grown2 h.rS rfl hg (fun k hk => h.sHS k hk), (new h.r7 h.s7H).1, h.s7S, (new h.rS h.sHS).1, (new h.rS h.sHS).2, hb, h.gB, h.mB, h.ne⟩
theorem RenSt.swap_ (h : RenSt w W mb gb gr v7 cH cS vH vS N H S s m) {v : Value} {S2 : List Int} (hr : RI W2 w.heap.size (fun _ => True) v S2) (hb : Below w.heap.size w W2) (hg : W.grownBy W2 vS.ownBlock) (hat : v.ownBlock = vS.ownBlock ∨ ∃ b, v.ownBlock = some b ∧ W.heap.size ≤ b) : RenSt w W2 mb gb gr v7 cH cS vH v N H S2 s m := by
  have hx := h.blk_ne h.rS
  have hmb := h.map_ne h.rS
  have new : ∀ {u : Value} {l : List Int}, RI W w.heap.size (fun _ => True) u l → Sep vS u → Sep v u ∧ Sep u v := fun {u l} hu hs => by
    have key : ∀ k, v.ownBlock = some k → some k ≠ u.ownBlock := fun k hk => by
      rcases hat with e | ⟨b, e, hle⟩
      · exact hs k (e ▸ hk)
      · intro e2
        have h1 := Kd.R_lt hu k e2.symm
        rw [e] at hk
        injection hk with hk
        omega
    exact ⟨key, fun k hk e => key k e.symm hk.symm⟩
  refine ⟨h.map.kept hg hmb, (hg.block gb (blk_lt h.blk) hx.1).trans h.blk, (hg.block gr (blk_lt h.res) hx.2).trans h.res, Kd.R_grown2 h.r7 rfl hg (fun k hk => h.s7S k hk), Kd.R_grown2 h.rH rfl hg (fun k hk => h.sSH k hk), hr, h.s7H, (new h.r7 h.s7S).1, (new h.rH h.sSH).2, (new h.rH h.sSH).1, hb, h.gB, h.mB, h.ne⟩
theorem heap_put (W : World) (g j : Nat) (u : Value) (k : Nat) (h : k ≠ g) : (W.setCell ⟨g, j, none⟩ u).heap[k]? = W.heap[k]? := Below.heap_setCell W ⟨g, j, none⟩ u k h
theorem RenSt.puts (h : RenSt w W mb gb gr v7 cH cS vH vS N H S s m) : RenSt w ((W.setCell ⟨gb, 1, none⟩ vH).setCell ⟨gb, 2, none⟩ vS) mb gb gr v7 vH vS vH vS N H S s m := by
  have nb := blk_of_map h.map h.blk
  have row : ∀ {v : Value} {l : List Int}, RI W w.heap.size (fun _ => True) v l → RI ((W.setCell ⟨gb, 1, none⟩ vH).setCell ⟨gb, 2, none⟩ vS) w.heap.size (fun _ => True) v l := fun {v l} hv =>
    Kd.R_mono (Kd.R_far (Kd.R_far (Kd.R_far1 hv rfl (h.blk_ne hv).1) (p := ⟨gb, 1, none⟩) (fun _ hk => hk.2) vH) (p := ⟨gb, 2, none⟩) (fun _ hk => hk.2) vS) (fun _ _ => trivial)
  refine ⟨h.map.block ((heap_put _ _ _ _ _ (Ne.symm nb)).trans (heap_put _ _ _ _ _ (Ne.symm nb))), blk_put (cs := #[v7, vH, cS]) (blk_put h.blk 1 vH rfl) 2 vS rfl, ((heap_put _ _ _ _ _ h.ne).trans (heap_put _ _ _ _ _ h.ne)).trans h.res, row h.r7, row h.rH, row h.rS, h.s7H, h.s7S, h.sHS, h.sSH, below_set (below_set h.bel h.gB) h.gB, h.gB, h.mB, h.ne⟩
theorem bel_of_grown (hg : W.grownBy W2 none) : Below W.heap.size W W2 := ⟨hg.os, hg.tape, hg.output, hg.size, fun i hi => hg.block i hi (by simp)⟩
theorem held_ (h : RenSt w W mb gb gr v7 cH cS vH vS N H S s m) {a1 a2 : Addr} {u1 u2 : Value} (h1 : w.cell? a1 = some u1) (h2 : w.cell? a2 = some u2) : W.cell? ⟨gb, 1, none⟩ = some cH ∧ W.cell? ⟨gb, 2, none⟩ = some cS ∧ W.cell? a1 = some u1 ∧ W.cell? a2 = some u2 :=
  ⟨(blk_cell h.blk 1).trans rfl, (blk_cell h.blk 2).trans rfl, (h.bel.cell (World.block_lt_of_cell? w _ h1)).trans h1, (h.bel.cell (World.block_lt_of_cell? w _ h2)).trans h2⟩
end
theorem repsI {W : World} {base : Nat} (y : Int) : Reps ((Kd.int .i64).M W base fun _ => False) (Kd.int .i64).sz [y] [.int .i64 y] := Reps.one (p := y) (v := .int .i64 y) rfl (Reps.none _ _)
theorem metBy_length (l : List Int) : ∀ met, (metBy met l).length ≤ met.length + l.length := by
  induction l with
  | nil => intro met; exact Nat.le_refl _
  | cons x r ih =>
    intro met
    rw [metBy]
    split
    · have := ih met; simp only [List.length_cons]; omega
    · have := ih (met ++ [x]); simp only [List.length_cons, List.length_append, List.length_nil] at this ⊢; omega
def firsts (l hs : List Int) : List Int := (metBy [] l).map fun x => rd hs x
theorem metBy_append (l t : List Int) : ∀ met, metBy met (l ++ t) = metBy (metBy met l) t := by
  induction l with
  | nil => intro met; rfl
  | cons x r ih =>
    intro met
    rw [List.cons_append, metBy, metBy]
    split <;> exact ih _
theorem metBy_one (met : List Int) (x : Int) : metBy met [x] = if x ∈ met then met else met ++ [x] := by
  rw [metBy]
  cases h : met.idxOf? x with
  | some j =>
    have hx : x ∈ met := by
      have : ¬ met.idxOf? x = none := by rw [h]; simp
      rw [List.idxOf?_eq_none_iff] at this
      simpa using this
    simp [hx, metBy]
  | none =>
    have hx : x ∉ met := by simpa [List.idxOf?_eq_none_iff] using h
    simp [hx, metBy]
theorem metBy_snoc (l : List Int) (k : Int) (h0 : 0 ≤ k) (h : k < l.length) : metBy [] (l.take (k + 1).toNat) = if rd l k ∈ metBy [] (l.take k.toNat) then metBy [] (l.take k.toNat) else metBy [] (l.take k.toNat) ++ [rd l k] := by
  rw [take_snoc' l k h0 h, metBy_append, metBy_one]
set_option maxHeartbeats 2000000 in
set_option maxRecDepth 100000 in
theorem c_renumbered (A0 A1 A2 : Option Addr) (c0 c1 c2 : Nat) (l hs ss : List Int) (w : World) (hl : l.length < 1099511627776) (h64 : Ok64 l) (hr0 : CI w A0 l.length l) (hr1 : CI w A1 hs.length hs) (hr2 : CI w A2 ss.length ss)
    (hin : ∀ x ∈ l, 0 ≤ x ∧ x < hs.length ∧ x < ss.length) :
    Calls Try.prog 71 #[.slice A0 l.length c0, .slice A1 hs.length c1, .slice A2 ss.length c2] w fun e w' => ∃ v0_ v1_ v2_ : Value, e = .returned (.agg #[v0_, v1_, v2_]) ∧
      RI w' w.heap.size (fun _ => True) v0_ (normalL l) ∧ RI w' w.heap.size (fun _ => True) v1_ (firsts l hs) ∧ RI w' w.heap.size (fun _ => True) v2_ (firsts l ss) ∧ Sep v1_ v0_ ∧ Sep v2_ v0_ ∧ Sep v1_ v2_ ∧ Sep v2_ v1_ ∧ Below w.heap.size w w' := by
  have HR := Aside0.mk hr0
  have HR1 := Aside0.mk hr1
  have HR2 := Aside0.mk hr2
  have H64 := Aside0.mk h64
  have HIN := Aside0.mk hin
  clear hr0 hr1 hr2 h64 hin
  go_enter Try.func71, Try.ntmps71
  go_wp2_with (first
    | (go_at_call 92; refine (c_normal A0 c0 l _ hl H64.out (Kd.C_alloc HR.out _)).mono ?_; rintro e w1 ⟨v7, rfl, ho, hb⟩; have HO := Aside0.mk ho; have HB := Aside0.mk hb; clear ho hb; obtain ⟨A7, c7, e7⟩ := Kd.R_slice HO.out; subst e7)
    | ((with_reducible refine gate_dst (N := 14) rfl ?_); refine mapMake rfl rfl rfl law_map_bool ?_; intro w2 hM hg hb hsz; have HM := Aside0.mk hM; have HG := Aside0.mk hb; clear hM hg hb))
  have hsz1 : w.heap.size + 1 ≤ w1.heap.size := by have := HB.out.size; simpa using this
  have h0st : RenSt w (w2.alloc (.cells #[.slice A7 (normalL l).length c7, .slice none 0 0, .slice none 0 0] 34)) w1.heap.size (w1.heap.size + 1) w.heap.size (.slice A7 (normalL l).length c7) (.slice none 0 0) (.slice none 0 0) (.slice none 0 0) (.slice none 0 0) (normalL l) [] [] 0 (seenOf []) := by
    have hbel1 : Below w.heap.size w w1 := by
      have h1 : Below w.heap.size w (w.alloc (.cells #[.slice none 0 0, .slice none 0 0, .slice none 0 0] 34)) := below_alloc (Below.refl _ _) _
      exact below_then h1 h1.size HB.out
    have hbel2 : Below w.heap.size w w2 := below_then hbel1 hbel1.size HG.out
    have hal : Below w2.heap.size w2 (w2.alloc (.cells #[.slice A7 (normalL l).length c7, .slice none 0 0, .slice none 0 0] 34)) := below_alloc (Below.refl _ _) _
    refine ⟨(HM.out.congr (fun kl _ => by cases kl with | int q x => cases q <;> rfl | _ => rfl)).below hal, ?_, ?_, Kd.R_below (Kd.R_below (Kd.R_lower HO.out (by simp)) HG.out) hal, Kd.R_nil _ _ _ _ _, Kd.R_nil _ _ _ _ _, ?_, ?_, ?_, ?_, below_then hbel2 hbel2.size hal, by omega, by omega, by omega⟩
    · rw [← hsz]; exact heap_alloc_new _ _
    · rw [hal.block _ (by omega), HG.out.block _ (by omega), HB.out.block _ (by simp)]; exact heap_alloc_new _ _
    all_goals (intro k hk; simp [Value.ownBlock] at hk)
  have HST := Aside0.mk h0st
  clear h0st HM HO HG
  go_loopw [19] (fun i wr => ∃ (k : Int), 0 ≤ k ∧ k ≤ l.length ∧ i = .int .i64 k ∧ Aside0 (∃ s AH cH AS cS, s ≤ k.toNat ∧ RenSt w wr w1.heap.size (w1.heap.size + 1) w.heap.size (.slice A7 (normalL l).length c7) (.slice AH (firsts (l.take k.toNat) hs).length cH) (.slice AS (firsts (l.take k.toNat) ss).length cS) (.slice AH (firsts (l.take k.toNat) hs).length cH) (.slice AS (firsts (l.take k.toNat) ss).length cS) (normalL l) (firsts (l.take k.toNat) hs) (firsts (l.take k.toNat) ss) s (seenOf (metBy [] (l.take k.toNat))))) (fun i _ => l.length - (intOf i).toNat)
  case atStart => exact ⟨0, by omega, by omega, rfl, ⟨0, none, 0, none, 0, Nat.le_refl _, HST.out⟩⟩
  case round =>
    clear HST HB
    obtain ⟨k, hk0, hk, rfl, ⟨s, AH, cH, AS, cS, hs1, hst⟩⟩ := hrel
    have HST := Aside0.mk hst
    have HS := Aside0.mk hs1
    clear hst hs1
    by_cases hlt : k < l.length
    · obtain ⟨ad, hA, hc⟩ := Kd.at_int (Kd.C_below HR.out HST.out.bel) k (by omega) (by omega)
      subst hA
      have HMS := Aside0.mk (metBy_snoc l k hk0 hlt)
      obtain ⟨x, hx⟩ : ∃ x, x = rd l k := ⟨_, rfl⟩
      rw [← hx] at hc HMS
      have hxm : x ∈ l := by
        have := rd_mem l k.toNat (by omega)
        rw [show ((k.toNat : Nat) : Int) = k by omega, ← hx] at this
        exact this
      have HK := Aside0.mk (key_i64 (in64_wf (H64.out x hxm)))
      have hxr := HIN.out x hxm
      clear hx hxm
      have HGT := Aside0.mk (seenOf_get (metBy [] (l.take k.toNat)) x)
      by_cases hin : x ∈ metBy [] (l.take k.toNat)
      · rw [decide_eq_true hin] at HGT
        rw [if_pos hin] at HMS
        have HIX := Aside0.mk hin
        clear hin
        go_wp2_with (first
          | ((with_reducible refine gate_dst (N := 25) rfl ?_); refine mapLook rfl rfl law_i64 law_map_bool (zero_bool _) HST.out.map rfl (.int .i64 x) (.int .i64 x) rfl HK.out trivial ?_; rw [HGT.out])
          | (at_mapUpdate; refine mapStore rfl rfl law_i64 law_map_bool HST.out.map (by have := HS.out; omega) rfl (.int .i64 x) (.bool true) (.int .i64 x) rfl rfl HK.out trivial ?_; intro w3 hM3 hg3; obtain ⟨s2, hs2, hM4⟩ : ∃ s2, s2 ≤ s + 1 ∧ MapV w3 Try.prog 2 w1.heap.size s2 (seenOf (metBy [] (l.take k.toNat))) := ⟨_, by split <;> omega, hM3.congr (fun kl _ => seenOf_again _ x HIX.out kl)⟩; have HST3 := Aside0.mk (HST.out.stored hM4 hg3); have HS2 := Aside0.mk hs2; clear HST hM3 hM4 hg3 hs2))
        go_roundw
        case rel =>
          refine ⟨k + 1, by omega, by omega, rfl, ⟨s2, AH, cH, AS, cS, by have := HS.out; have := HS2.out; omega, ?_⟩⟩
          have e1 : firsts (l.take (k + 1).toNat) hs = firsts (l.take k.toNat) hs := by unfold firsts; rw [HMS.out]
          have e2 : firsts (l.take (k + 1).toNat) ss = firsts (l.take k.toNat) ss := by unfold firsts; rw [HMS.out]
          rw [e1, e2, HMS.out]
          exact HST3.out
        case measure => simp [intOf]; omega
      · rw [decide_eq_false hin] at HGT
        rw [if_neg hin] at HMS
        have HIX := Aside0.mk hin
        clear hin
        go_wp2_with (first
          | ((with_reducible refine gate_dst (N := 25) rfl ?_); refine mapLook rfl rfl law_i64 law_map_bool (zero_bool _) HST.out.map rfl (.int .i64 x) (.int .i64 x) rfl HK.out trivial ?_; rw [HGT.out]))
        have HLT := Aside0.mk (metBy_length (l.take k.toNat) [])
        obtain ⟨ad1, hA1, hh1⟩ := Kd.at_int HR1.out x hxr.1 hxr.2.1
        obtain ⟨ad2, hA2, hh2⟩ := Kd.at_int HR2.out x hxr.1 hxr.2.2
        subst hA1 hA2
        have HA1 := Aside0.mk hh1
        have HA2 := Aside0.mk hh2
        have d0 := eq_true hxr.1
        have d1 := eq_true hxr.2.1
        have d2 := eq_true hxr.2.2
        clear hh1 hh2 hxr
        have HN1 : Aside0 (firsts (l.take (k + 1).toNat) hs = firsts (l.take k.toNat) hs ++ [rd hs x]) := ⟨by unfold firsts; rw [HMS.out, List.map_append]; rfl⟩
        have HN2 : Aside0 (firsts (l.take (k + 1).toNat) ss = firsts (l.take k.toNat) ss ++ [rd ss x]) := ⟨by unfold firsts; rw [HMS.out, List.map_append]; rfl⟩
        have HLN : Aside0 ((firsts (l.take k.toNat) hs).length < 1099511627776 ∧ (firsts (l.take k.toNat) ss).length < 1099511627776) := ⟨by
          have h1 := HLT.out
          rw [List.length_take, List.length_nil] at h1
          unfold firsts
          rw [List.length_map, List.length_map]
          omega⟩
        obtain ⟨met, hmet⟩ : ∃ met, met = metBy [] (l.take k.toNat) := ⟨_, rfl⟩
        obtain ⟨Hl, hHl⟩ : ∃ Hl, Hl = firsts (l.take k.toNat) hs := ⟨_, rfl⟩
        obtain ⟨Sl, hSl⟩ : ∃ Sl, Sl = firsts (l.take k.toNat) ss := ⟨_, rfl⟩
        rw [← hmet, ← hHl, ← hSl] at HST
        rw [← hHl] at HN1
        rw [← hSl] at HN2
        rw [← hHl, ← hSl] at HLN
        rw [← hmet] at HMS HIX
        clear HGT HLT hmet hHl hSl
        -- REGION 7: laid by gen_renum.py
        refine start_ (n := 20) (S := fun w' => w'.cell? ⟨w1.heap.size + 1, 1, none⟩ = some (.slice AH Hl.length cH) ∧ w'.cell? ⟨w1.heap.size + 1, 2, none⟩ = some (.slice AS Sl.length cS) ∧ w'.cell? (ad1.add x.toNat) = some (.int .i64 (rd hs x)) ∧ w'.cell? (ad2.add x.toNat) = some (.int .i64 (rd ss x))) (ds := [17, 19]) #[false, false, false, false, false, false, false, false, false, false, false, false, false, false, false, false, false, false, false, false] (by kernel_rfl) rfl rfl (held_ (HST.out.below (below_drew1 (Below.refl _ _))) HA1.out HA2.out) (fun hHeld => ?_)
        have n0_ := Aside0.mk (HST.out.below (below_drew1 (Below.refl _ _)))
        clear HST
        have HST := n0_
        clear n0_
        generalize wr.drew = wd at HST hHeld ⊢
        refine pure_ (i := 0) (N := some 27) (v := ?_) (a' := ?_) #[true, false, false, false, false, false, false, false, false, false, false, false, false, false, false, false, false, false, false, false] rfl rfl (by kernel_rfl) (fun _ _ _ h => h) (Or.inl ⟨by rfl, ?_⟩) ?_ ?_
        rotate_left
        · intro w'
          go_simp
          with_reducible rfl
        rotate_left
        · simp only [Act.put, List.setIfInBounds_toArray, List.set_cons_zero, List.set_cons_succ, i64_w, i32_w]
          rfl
        refine pure_ (i := 2) (N := some 29) (v := ?_) (a' := ?_) #[true, false, true, false, false, false, false, false, false, false, false, false, false, false, false, false, false, false, false, false] rfl rfl (by kernel_rfl) (fun _ _ _ h => h) (Or.inl ⟨by rfl, ?_⟩) ?_ ?_
        rotate_left
        · intro w'
          go_simp
          with_reducible rfl
        rotate_left
        · simp only [Act.put, List.setIfInBounds_toArray, List.set_cons_zero, List.set_cons_succ, i64_w, i32_w]
          rfl
        refine pure_ (i := 3) (N := some 30) (v := ?_) (a' := ?_) #[true, false, true, true, false, false, false, false, false, false, false, false, false, false, false, false, false, false, false, false] rfl rfl (by kernel_rfl) (fun _ _ _ h => h) (Or.inl ⟨by rfl, ?_⟩) ?_ ?_
        rotate_left
        · intro w'
          go_simp
          with_reducible rfl
        rotate_left
        · simp only [Act.put, List.setIfInBounds_toArray, List.set_cons_zero, List.set_cons_succ, i64_w, i32_w]
          rfl
        refine pure_ (i := 8) (N := some 35) (v := ?_) (a' := ?_) #[true, false, true, true, false, false, false, false, true, false, false, false, false, false, false, false, false, false, false, false] rfl rfl (by kernel_rfl) (fun _ _ _ h => h) (Or.inl ⟨by rfl, ?_⟩) ?_ ?_
        rotate_left
        · intro w'
          go_simp
          with_reducible rfl
        rotate_left
        · simp only [Act.put, List.setIfInBounds_toArray, List.set_cons_zero, List.set_cons_succ, i64_w, i32_w]
          rfl
        refine pure_ (i := 10) (N := some 37) (v := ?_) (a' := ?_) #[true, false, true, true, false, false, false, false, true, false, true, false, false, false, false, false, false, false, false, false] rfl rfl (by kernel_rfl) (fun _ _ _ h => h) (Or.inl ⟨by rfl, ?_⟩) ?_ ?_
        rotate_left
        · intro w'
          go_simp
          with_reducible rfl
        rotate_left
        · simp only [Act.put, List.setIfInBounds_toArray, List.set_cons_zero, List.set_cons_succ, i64_w, i32_w]
          rfl
        refine pure_ (i := 11) (N := some 38) (v := ?_) (a' := ?_) #[true, false, true, true, false, false, false, false, true, false, true, true, false, false, false, false, false, false, false, false] rfl rfl (by kernel_rfl) (fun _ _ _ h => h) (Or.inl ⟨by rfl, ?_⟩) ?_ ?_
        rotate_left
        · intro w'
          go_simp
          with_reducible rfl
        rotate_left
        · simp only [Act.put, List.setIfInBounds_toArray, List.set_cons_zero, List.set_cons_succ, i64_w, i32_w]
          rfl
        refine take_ (i := 1) (N := some 28) (v := ?_) (a' := ?_) #[true, true, true, true, false, false, false, false, true, false, true, true, false, false, false, false, false, false, false, false] rfl rfl (by kernel_rfl) (fun _ _ _ h => h) (Or.inl ⟨by rfl, ?_⟩) hHeld ?_ ?_
        rotate_left
        · rintro w' ⟨s0, s1, s2, s3⟩
          go_simp
          with_reducible rfl
        rotate_left
        · simp only [Act.put, List.setIfInBounds_toArray, List.set_cons_zero, List.set_cons_succ, i64_w, i32_w]
          rfl
        refine take_ (i := 4) (N := some 31) (v := ?_) (a' := ?_) #[true, true, true, true, true, false, false, false, true, false, true, true, false, false, false, false, false, false, false, false] rfl rfl (by kernel_rfl) (fun _ _ _ h => h) (Or.inl ⟨by rfl, ?_⟩) hHeld ?_ ?_
        rotate_left
        · rintro w' ⟨s0, s1, s2, s3⟩
          go_simp
          with_reducible rfl
        rotate_left
        · simp only [Act.put, List.setIfInBounds_toArray, List.set_cons_zero, List.set_cons_succ, i64_w, i32_w]
          rfl
        refine take_ (i := 5) (N := some 32) (v := ?_) (a' := ?_) #[true, true, true, true, true, true, false, false, true, false, true, true, false, false, false, false, false, false, false, false] rfl rfl (by kernel_rfl) (fun _ _ _ h => h) (Or.inl ⟨by rfl, ?_⟩) hHeld ?_ ?_
        rotate_left
        · rintro w' ⟨s0, s1, s2, s3⟩
          go_simp
          with_reducible rfl
        rotate_left
        · simp only [Act.put, List.setIfInBounds_toArray, List.set_cons_zero, List.set_cons_succ, i64_w, i32_w]
          rfl
        refine take_ (i := 9) (N := some 36) (v := ?_) (a' := ?_) #[true, true, true, true, true, true, false, false, true, true, true, true, false, false, false, false, false, false, false, false] rfl rfl (by kernel_rfl) (fun _ _ _ h => h) (Or.inl ⟨by rfl, ?_⟩) hHeld ?_ ?_
        rotate_left
        · rintro w' ⟨s0, s1, s2, s3⟩
          go_simp
          with_reducible rfl
        rotate_left
        · simp only [Act.put, List.setIfInBounds_toArray, List.set_cons_zero, List.set_cons_succ, i64_w, i32_w]
          rfl
        refine take_ (i := 12) (N := some 39) (v := ?_) (a' := ?_) #[true, true, true, true, true, true, false, false, true, true, true, true, true, false, false, false, false, false, false, false] rfl rfl (by kernel_rfl) (fun _ _ _ h => h) (Or.inl ⟨by rfl, ?_⟩) hHeld ?_ ?_
        rotate_left
        · rintro w' ⟨s0, s1, s2, s3⟩
          go_simp
          with_reducible rfl
        rotate_left
        · simp only [Act.put, List.setIfInBounds_toArray, List.set_cons_zero, List.set_cons_succ, i64_w, i32_w]
          rfl
        refine take_ (i := 13) (N := some 40) (v := ?_) (a' := ?_) #[true, true, true, true, true, true, false, false, true, true, true, true, true, true, false, false, false, false, false, false] rfl rfl (by kernel_rfl) (fun _ _ _ h => h) (Or.inl ⟨by rfl, ?_⟩) hHeld ?_ ?_
        rotate_left
        · rintro w' ⟨s0, s1, s2, s3⟩
          go_simp
          with_reducible rfl
        rotate_left
        · simp only [Act.put, List.setIfInBounds_toArray, List.set_cons_zero, List.set_cons_succ, i64_w, i32_w]
          rfl
        obtain ⟨B0, hB0⟩ : ∃ B0, B0 = wd.heap.size := ⟨_, rfl⟩
        have HBH : Aside0 (∀ k_, (Value.slice AH Hl.length cH).ownBlock = some k_ → k_ < B0) := ⟨fun k_ hk_ => by rw [hB0]; exact Kd.R_lt HST.out.rH k_ hk_⟩
        have HBS : Aside0 (∀ k_, (Value.slice AS Sl.length cS).ownBlock = some k_ → k_ < B0) := ⟨fun k_ hk_ => by rw [hB0]; exact Kd.R_lt HST.out.rS k_ hk_⟩
        have HZ : Aside0 (B0 ≤ wd.heap.size) := ⟨by rw [hB0]; exact Nat.le_refl _⟩
        clear hB0
        refine join_ (σ := Value × Value × (Option Addr × Nat) × (Option Addr × Nat)) 3 #[true, true, true, true, true, true, true, true, true, true, true, true, true, true, true, true, true, false, false, false] (fun s_ => [(33, s_.1), (41, s_.2.1), (43, .pointer (some ⟨w1.heap.size + 1, 1, none⟩)), (34, .slice s_.2.2.1.1 (Hl ++ [rd hs x]).length s_.2.2.1.2), (42, .slice s_.2.2.2.1 (Sl ++ [rd ss x]).length s_.2.2.2.2)]) (fun s_ w' => RenSt w w' w1.heap.size (w1.heap.size + 1) w.heap.size (.slice A7 (normalL l).length c7) (.slice AH Hl.length cH) (.slice AS Sl.length cS) (.slice s_.2.2.1.1 (Hl ++ [rd hs x]).length s_.2.2.1.2) (.slice s_.2.2.2.1 (Sl ++ [rd ss x]).length s_.2.2.2.2) (normalL l) (Hl ++ [rd hs x]) (Sl ++ [rd ss x]) s (seenOf met)) ?_ ?_
        rotate_left
        · intro hCont
          refine two_ (i := 6) (j := 14) (Ni := some 33) (Nj := some 41) #[true, true, true, true, true, true, true, false, true, true, true, true, true, true, false, false, false, false, false, false] #[true, true, true, true, true, true, false, false, true, true, true, true, true, true, true, false, false, false, false, false] rfl rfl rfl rfl (by kernel_rfl) (by decide) (by decide) (fun K hK => ?_) (fun K hK => ?_)
          · skip
            refine Kd.R_lit_step (Kd.int .i64) w.heap.size 2 (w0 := w) (by rfl) (N := 33) rfl (xs := [(rd hs x)]) (inner := [.int .i64 (rd hs x)]) (ok := fun k_ => B0 ≤ k_) (okp := fun _ => False) ?hr (repsI (rd hs x)) (fun _ h => h.elim) HZ.out HST.out.bel HST.out.bel.size (by simp) ?_
            case hr => first | (go_simp; done) | (go_simp; rfl)
            intro v33 w33 ho hb hg hnew
            have hbw := bel_of_grown hg
            have n0_ := Aside0.mk (HST.out.below hbw)
            have n1_ := Aside0.mk (Nat.le_trans HZ.out hbw.size)
            have n2_ := Aside0.mk ho
            clear HST HZ 
            have HST := n0_
            have HZ := n1_
            have HF33 := n2_
            clear n0_ n1_ n2_ ho hb hg hnew hbw 
            obtain ⟨A33, c33, e33⟩ := Kd.R_slice HF33.out
            subst e33
            refine hK.out _ _ (held_ HST.out HA1.out HA2.out) (fun hHeld => ?_)
            clear hK K
            refine norm_ (a' := ?_) ?_ ?_
            rotate_left
            · show Act.put _ (some 33) _ = _
              simp only [Act.put, List.setIfInBounds_toArray, List.set_cons_zero, List.set_cons_succ, i64_w, i32_w]
              rfl
            refine two_ (i := 7) (j := 14) (Ni := some 34) (Nj := some 41) #[true, true, true, true, true, true, true, true, true, true, true, true, true, true, false, false, false, false, false, false] #[true, true, true, true, true, true, true, false, true, true, true, true, true, true, true, false, false, false, false, false] rfl rfl rfl rfl (by kernel_rfl) (by decide) (by decide) (fun K hK => ?_) (fun K hK => ?_)
            · skip
              refine Kd.R_append_rows_step (Kd.int .i64) (w0 := w) w.heap.size (by rfl) (.tmp 28) (.tmp 33) 22 2 (.int .i64 0) 8 rfl Try.underlying22 info2 rfl (by decide) (by omega) (.slice AH Hl.length cH) Hl [(rd hs x)] A33 1 c33 (fun _ => True) (fun _ => False) rfl rfl HST.out.rH (Kd.R_reads' HF33.out).2.2 (fun _ _ h => h) (fun _ h => h.elim) (fun _ _ => trivial) HST.out.bel HST.out.bel.size (by have := HLN.out; omega) ?_
              intro v34 w34 ho hb hg hat
              obtain ⟨A34, c34, e34⟩ := Kd.R_slice ho
              subst e34
              have n0_ := Aside0.mk (HST.out.appH ho hb hg hat)
              have n1_ := Aside0.mk (Nat.le_trans HZ.out hg.size)
              clear HST HZ HF33
              have HST := n0_
              have HZ := n1_
              clear n0_ n1_ ho hb hg hat 
              refine hK.out _ _ (held_ HST.out HA1.out HA2.out) (fun hHeld => ?_)
              clear hK K
              refine norm_ (a' := ?_) ?_ ?_
              rotate_left
              · show Act.put _ (some 34) _ = _
                simp only [Act.put, List.setIfInBounds_toArray, List.set_cons_zero, List.set_cons_succ, i64_w, i32_w]
                rfl
              refine pure_ (i := 16) (N := some 43) (v := ?_) (a' := ?_) #[true, true, true, true, true, true, true, true, true, true, true, true, true, true, false, false, true, false, false, false] rfl rfl (by kernel_rfl) (fun _ _ _ h => h) (Or.inl ⟨by rfl, ?_⟩) ?_ ?_
              rotate_left
              · intro w'
                go_simp
                with_reducible rfl
              rotate_left
              · simp only [Act.put, List.setIfInBounds_toArray, List.set_cons_zero, List.set_cons_succ, i64_w, i32_w]
                rfl
              refine one_ (i := 14) (N := some 41) #[true, true, true, true, true, true, true, true, true, true, true, true, true, true, true, false, true, false, false, false] rfl rfl (by kernel_rfl) (by decide) (fun K hK => ?_)
              refine Kd.R_lit_step (Kd.int .i64) w.heap.size 2 (w0 := w) (by rfl) (N := 41) rfl (xs := [(rd ss x)]) (inner := [.int .i64 (rd ss x)]) (ok := fun k_ => B0 ≤ k_) (okp := fun _ => False) ?hr (repsI (rd ss x)) (fun _ h => h.elim) HZ.out HST.out.bel HST.out.bel.size (by simp) ?_
              case hr => first | (go_simp; done) | (go_simp; rfl)
              intro v41 w41 ho hb hg hnew
              have hbw := bel_of_grown hg
              have n0_ := Aside0.mk (HST.out.below hbw)
              have n1_ := Aside0.mk (Nat.le_trans HZ.out hbw.size)
              have n2_ := Aside0.mk ho
              clear HST HZ 
              have HST := n0_
              have HZ := n1_
              have HF41 := n2_
              clear n0_ n1_ n2_ ho hb hg hnew hbw 
              obtain ⟨A41, c41, e41⟩ := Kd.R_slice HF41.out
              subst e41
              refine hK.out _ _ (held_ HST.out HA1.out HA2.out) (fun hHeld => ?_)
              clear hK K
              refine norm_ (a' := ?_) ?_ ?_
              rotate_left
              · show Act.put _ (some 41) _ = _
                simp only [Act.put, List.setIfInBounds_toArray, List.set_cons_zero, List.set_cons_succ, i64_w, i32_w]
                rfl
              refine one_ (i := 15) (N := some 42) #[true, true, true, true, true, true, true, true, true, true, true, true, true, true, true, true, true, false, false, false] rfl rfl (by kernel_rfl) (by decide) (fun K hK => ?_)
              refine Kd.R_append_rows_step (Kd.int .i64) (w0 := w) w.heap.size (by rfl) (.tmp 36) (.tmp 41) 22 2 (.int .i64 0) 8 rfl Try.underlying22 info2 rfl (by decide) (by omega) (.slice AS Sl.length cS) Sl [(rd ss x)] A41 1 c41 (fun _ => True) (fun _ => False) rfl rfl HST.out.rS (Kd.R_reads' HF41.out).2.2 (fun _ _ h => h) (fun _ h => h.elim) (fun _ _ => trivial) HST.out.bel HST.out.bel.size (by have := HLN.out; omega) ?_
              intro v42 w42 ho hb hg hat
              obtain ⟨A42, c42, e42⟩ := Kd.R_slice ho
              subst e42
              have n0_ := Aside0.mk (HST.out.swap_ ho hb hg hat)
              have n1_ := Aside0.mk (Nat.le_trans HZ.out hg.size)
              clear HST HZ HF41
              have HST := n0_
              have HZ := n1_
              clear n0_ n1_ ho hb hg hat 
              refine hK.out _ _ (held_ HST.out HA1.out HA2.out) (fun hHeld => ?_)
              clear hK K
              refine norm_ (a' := ?_) ?_ ?_
              rotate_left
              · show Act.put _ (some 42) _ = _
                simp only [Act.put, List.setIfInBounds_toArray, List.set_cons_zero, List.set_cons_succ, i64_w, i32_w]
                rfl
              exact norm_ (by simp only [putAll, Act.put, List.setIfInBounds_toArray, List.set_cons_zero, List.set_cons_succ]) (hCont (.slice A33 [rd hs x].length c33, .slice A41 [rd ss x].length c41, (A34, c34), (A42, c42)) _ HST.out)
            · skip
              refine Kd.R_lit_step (Kd.int .i64) w.heap.size 2 (w0 := w) (by rfl) (N := 41) rfl (xs := [(rd ss x)]) (inner := [.int .i64 (rd ss x)]) (ok := fun k_ => B0 ≤ k_) (okp := fun _ => False) ?hr (repsI (rd ss x)) (fun _ h => h.elim) HZ.out HST.out.bel HST.out.bel.size (by simp) ?_
              case hr => first | (go_simp; done) | (go_simp; rfl)
              intro v41 w41 ho hb hg hnew
              have hbw := bel_of_grown hg
              have n0_ := Aside0.mk (HST.out.below hbw)
              have n1_ := Aside0.mk (Nat.le_trans HZ.out hbw.size)
              have mHF33_ := Aside0.mk (Kd.R_below HF33.out hbw)
              have n2_ := Aside0.mk ho
              clear HST HZ HF33
              have HST := n0_
              have HZ := n1_
              have HF33 := mHF33_
              have HF41 := n2_
              clear n0_ n1_ n2_ ho hb hg hnew hbw mHF33_
              obtain ⟨A41, c41, e41⟩ := Kd.R_slice HF41.out
              subst e41
              refine hK.out _ _ (held_ HST.out HA1.out HA2.out) (fun hHeld => ?_)
              clear hK K
              refine norm_ (a' := ?_) ?_ ?_
              rotate_left
              · show Act.put _ (some 41) _ = _
                simp only [Act.put, List.setIfInBounds_toArray, List.set_cons_zero, List.set_cons_succ, i64_w, i32_w]
                rfl
              refine one_ (i := 7) (N := some 34) #[true, true, true, true, true, true, true, true, true, true, true, true, true, true, true, false, false, false, false, false] rfl rfl (by kernel_rfl) (by decide) (fun K hK => ?_)
              refine Kd.R_append_rows_step (Kd.int .i64) (w0 := w) w.heap.size (by rfl) (.tmp 28) (.tmp 33) 22 2 (.int .i64 0) 8 rfl Try.underlying22 info2 rfl (by decide) (by omega) (.slice AH Hl.length cH) Hl [(rd hs x)] A33 1 c33 (fun _ => True) (fun _ => False) rfl rfl HST.out.rH (Kd.R_reads' HF33.out).2.2 (fun _ _ h => h) (fun _ h => h.elim) (fun _ _ => trivial) HST.out.bel HST.out.bel.size (by have := HLN.out; omega) ?_
              intro v34 w34 ho hb hg hat
              obtain ⟨A34, c34, e34⟩ := Kd.R_slice ho
              subst e34
              have n0_ := Aside0.mk (HST.out.appH ho hb hg hat)
              have n1_ := Aside0.mk (Nat.le_trans HZ.out hg.size)
              have mHF41_ := Aside0.mk (Kd.R_grown HF41.out hg (fun k_ hk_ e_ => Nat.not_lt.2 hk_ (HBH.out k_ e_.symm)))
              clear HST HZ HF33 HF41
              have HST := n0_
              have HZ := n1_
              have HF41 := mHF41_
              clear n0_ n1_ ho hb hg hat mHF41_
              refine hK.out _ _ (held_ HST.out HA1.out HA2.out) (fun hHeld => ?_)
              clear hK K
              refine norm_ (a' := ?_) ?_ ?_
              rotate_left
              · show Act.put _ (some 34) _ = _
                simp only [Act.put, List.setIfInBounds_toArray, List.set_cons_zero, List.set_cons_succ, i64_w, i32_w]
                rfl
              refine pure_ (i := 16) (N := some 43) (v := ?_) (a' := ?_) #[true, true, true, true, true, true, true, true, true, true, true, true, true, true, true, false, true, false, false, false] rfl rfl (by kernel_rfl) (fun _ _ _ h => h) (Or.inl ⟨by rfl, ?_⟩) ?_ ?_
              rotate_left
              · intro w'
                go_simp
                with_reducible rfl
              rotate_left
              · simp only [Act.put, List.setIfInBounds_toArray, List.set_cons_zero, List.set_cons_succ, i64_w, i32_w]
                rfl
              refine one_ (i := 15) (N := some 42) #[true, true, true, true, true, true, true, true, true, true, true, true, true, true, true, true, true, false, false, false] rfl rfl (by kernel_rfl) (by decide) (fun K hK => ?_)
              refine Kd.R_append_rows_step (Kd.int .i64) (w0 := w) w.heap.size (by rfl) (.tmp 36) (.tmp 41) 22 2 (.int .i64 0) 8 rfl Try.underlying22 info2 rfl (by decide) (by omega) (.slice AS Sl.length cS) Sl [(rd ss x)] A41 1 c41 (fun _ => True) (fun _ => False) rfl rfl HST.out.rS (Kd.R_reads' HF41.out).2.2 (fun _ _ h => h) (fun _ h => h.elim) (fun _ _ => trivial) HST.out.bel HST.out.bel.size (by have := HLN.out; omega) ?_
              intro v42 w42 ho hb hg hat
              obtain ⟨A42, c42, e42⟩ := Kd.R_slice ho
              subst e42
              have n0_ := Aside0.mk (HST.out.swap_ ho hb hg hat)
              have n1_ := Aside0.mk (Nat.le_trans HZ.out hg.size)
              clear HST HZ HF41
              have HST := n0_
              have HZ := n1_
              clear n0_ n1_ ho hb hg hat 
              refine hK.out _ _ (held_ HST.out HA1.out HA2.out) (fun hHeld => ?_)
              clear hK K
              refine norm_ (a' := ?_) ?_ ?_
              rotate_left
              · show Act.put _ (some 42) _ = _
                simp only [Act.put, List.setIfInBounds_toArray, List.set_cons_zero, List.set_cons_succ, i64_w, i32_w]
                rfl
              exact norm_ (by simp only [putAll, Act.put, List.setIfInBounds_toArray, List.set_cons_zero, List.set_cons_succ]) (hCont (.slice A33 [rd hs x].length c33, .slice A41 [rd ss x].length c41, (A34, c34), (A42, c42)) _ HST.out)
          · skip
            refine Kd.R_lit_step (Kd.int .i64) w.heap.size 2 (w0 := w) (by rfl) (N := 41) rfl (xs := [(rd ss x)]) (inner := [.int .i64 (rd ss x)]) (ok := fun k_ => B0 ≤ k_) (okp := fun _ => False) ?hr (repsI (rd ss x)) (fun _ h => h.elim) HZ.out HST.out.bel HST.out.bel.size (by simp) ?_
            case hr => first | (go_simp; done) | (go_simp; rfl)
            intro v41 w41 ho hb hg hnew
            have hbw := bel_of_grown hg
            have n0_ := Aside0.mk (HST.out.below hbw)
            have n1_ := Aside0.mk (Nat.le_trans HZ.out hbw.size)
            have n2_ := Aside0.mk ho
            clear HST HZ 
            have HST := n0_
            have HZ := n1_
            have HF41 := n2_
            clear n0_ n1_ n2_ ho hb hg hnew hbw 
            obtain ⟨A41, c41, e41⟩ := Kd.R_slice HF41.out
            subst e41
            refine hK.out _ _ (held_ HST.out HA1.out HA2.out) (fun hHeld => ?_)
            clear hK K
            refine norm_ (a' := ?_) ?_ ?_
            rotate_left
            · show Act.put _ (some 41) _ = _
              simp only [Act.put, List.setIfInBounds_toArray, List.set_cons_zero, List.set_cons_succ, i64_w, i32_w]
              rfl
            refine one_ (i := 6) (N := some 33) #[true, true, true, true, true, true, true, false, true, true, true, true, true, true, true, false, false, false, false, false] rfl rfl (by kernel_rfl) (by decide) (fun K hK => ?_)
            refine Kd.R_lit_step (Kd.int .i64) w.heap.size 2 (w0 := w) (by rfl) (N := 33) rfl (xs := [(rd hs x)]) (inner := [.int .i64 (rd hs x)]) (ok := fun k_ => B0 ≤ k_) (okp := fun _ => False) ?hr (repsI (rd hs x)) (fun _ h => h.elim) HZ.out HST.out.bel HST.out.bel.size (by simp) ?_
            case hr => first | (go_simp; done) | (go_simp; rfl)
            intro v33 w33 ho hb hg hnew
            have hbw := bel_of_grown hg
            have n0_ := Aside0.mk (HST.out.below hbw)
            have n1_ := Aside0.mk (Nat.le_trans HZ.out hbw.size)
            have mHF41_ := Aside0.mk (Kd.R_below HF41.out hbw)
            have n2_ := Aside0.mk ho
            clear HST HZ HF41
            have HST := n0_
            have HZ := n1_
            have HF41 := mHF41_
            have HF33 := n2_
            clear n0_ n1_ n2_ ho hb hg hnew hbw mHF41_
            obtain ⟨A33, c33, e33⟩ := Kd.R_slice HF33.out
            subst e33
            refine hK.out _ _ (held_ HST.out HA1.out HA2.out) (fun hHeld => ?_)
            clear hK K
            refine norm_ (a' := ?_) ?_ ?_
            rotate_left
            · show Act.put _ (some 33) _ = _
              simp only [Act.put, List.setIfInBounds_toArray, List.set_cons_zero, List.set_cons_succ, i64_w, i32_w]
              rfl
            refine one_ (i := 7) (N := some 34) #[true, true, true, true, true, true, true, true, true, true, true, true, true, true, true, false, false, false, false, false] rfl rfl (by kernel_rfl) (by decide) (fun K hK => ?_)
            refine Kd.R_append_rows_step (Kd.int .i64) (w0 := w) w.heap.size (by rfl) (.tmp 28) (.tmp 33) 22 2 (.int .i64 0) 8 rfl Try.underlying22 info2 rfl (by decide) (by omega) (.slice AH Hl.length cH) Hl [(rd hs x)] A33 1 c33 (fun _ => True) (fun _ => False) rfl rfl HST.out.rH (Kd.R_reads' HF33.out).2.2 (fun _ _ h => h) (fun _ h => h.elim) (fun _ _ => trivial) HST.out.bel HST.out.bel.size (by have := HLN.out; omega) ?_
            intro v34 w34 ho hb hg hat
            obtain ⟨A34, c34, e34⟩ := Kd.R_slice ho
            subst e34
            have n0_ := Aside0.mk (HST.out.appH ho hb hg hat)
            have n1_ := Aside0.mk (Nat.le_trans HZ.out hg.size)
            have mHF41_ := Aside0.mk (Kd.R_grown HF41.out hg (fun k_ hk_ e_ => Nat.not_lt.2 hk_ (HBH.out k_ e_.symm)))
            clear HST HZ HF33 HF41
            have HST := n0_
            have HZ := n1_
            have HF41 := mHF41_
            clear n0_ n1_ ho hb hg hat mHF41_
            refine hK.out _ _ (held_ HST.out HA1.out HA2.out) (fun hHeld => ?_)
            clear hK K
            refine norm_ (a' := ?_) ?_ ?_
            rotate_left
            · show Act.put _ (some 34) _ = _
              simp only [Act.put, List.setIfInBounds_toArray, List.set_cons_zero, List.set_cons_succ, i64_w, i32_w]
              rfl
            refine pure_ (i := 16) (N := some 43) (v := ?_) (a' := ?_) #[true, true, true, true, true, true, true, true, true, true, true, true, true, true, true, false, true, false, false, false] rfl rfl (by kernel_rfl) (fun _ _ _ h => h) (Or.inl ⟨by rfl, ?_⟩) ?_ ?_
            rotate_left
            · intro w'
              go_simp
              with_reducible rfl
            rotate_left
            · simp only [Act.put, List.setIfInBounds_toArray, List.set_cons_zero, List.set_cons_succ, i64_w, i32_w]
              rfl
            refine one_ (i := 15) (N := some 42) #[true, true, true, true, true, true, true, true, true, true, true, true, true, true, true, true, true, false, false, false] rfl rfl (by kernel_rfl) (by decide) (fun K hK => ?_)
            refine Kd.R_append_rows_step (Kd.int .i64) (w0 := w) w.heap.size (by rfl) (.tmp 36) (.tmp 41) 22 2 (.int .i64 0) 8 rfl Try.underlying22 info2 rfl (by decide) (by omega) (.slice AS Sl.length cS) Sl [(rd ss x)] A41 1 c41 (fun _ => True) (fun _ => False) rfl rfl HST.out.rS (Kd.R_reads' HF41.out).2.2 (fun _ _ h => h) (fun _ h => h.elim) (fun _ _ => trivial) HST.out.bel HST.out.bel.size (by have := HLN.out; omega) ?_
            intro v42 w42 ho hb hg hat
            obtain ⟨A42, c42, e42⟩ := Kd.R_slice ho
            subst e42
            have n0_ := Aside0.mk (HST.out.swap_ ho hb hg hat)
            have n1_ := Aside0.mk (Nat.le_trans HZ.out hg.size)
            clear HST HZ HF41
            have HST := n0_
            have HZ := n1_
            clear n0_ n1_ ho hb hg hat 
            refine hK.out _ _ (held_ HST.out HA1.out HA2.out) (fun hHeld => ?_)
            clear hK K
            refine norm_ (a' := ?_) ?_ ?_
            rotate_left
            · show Act.put _ (some 42) _ = _
              simp only [Act.put, List.setIfInBounds_toArray, List.set_cons_zero, List.set_cons_succ, i64_w, i32_w]
              rfl
            exact norm_ (by simp only [putAll, Act.put, List.setIfInBounds_toArray, List.set_cons_zero, List.set_cons_succ]) (hCont (.slice A33 [rd hs x].length c33, .slice A41 [rd ss x].length c41, (A34, c34), (A42, c42)) _ HST.out)
        rintro ⟨v33, v41, ⟨A34, c34⟩, ⟨A42, c42⟩⟩ w5 h5
        have h5' : RenSt w w5 w1.heap.size (w1.heap.size + 1) w.heap.size (.slice A7 (normalL l).length c7) (.slice AH Hl.length cH) (.slice AS Sl.length cS) (.slice A34 (Hl ++ [rd hs x]).length c34) (.slice A42 (Sl ++ [rd ss x]).length c42) (normalL l) (Hl ++ [rd hs x]) (Sl ++ [rd ss x]) s (seenOf met) := h5
        have HST5 := Aside0.mk h5'
        clear h5 h5' HST HZ HBH HBS hHeld
        have hc0 : w5.cell? ⟨w1.heap.size + 1, 0, none⟩ = some (.slice A7 (normalL l).length c7) := (blk_cell HST5.out.blk 0).trans rfl
        have hc1 : w5.cell? ⟨w1.heap.size + 1, 1, none⟩ = some (.slice AH Hl.length cH) := (blk_cell HST5.out.blk 1).trans rfl
        have hc2 : w5.cell? ⟨w1.heap.size + 1, 2, none⟩ = some (.slice AS Sl.length cS) := (blk_cell HST5.out.blk 2).trans rfl
        have hf1 := blk_frozen HST5.out.blk 1
        have hf2 := blk_frozen HST5.out.blk 2
        refine norm_ (a' := ?_) ?_ ?_
        rotate_left
        · simp only [putAll, Act.put, List.setIfInBounds_toArray, List.set_cons_zero, List.set_cons_succ]
          rfl
        obtain ⟨nH, hnH⟩ : ∃ n_, n_ = (Hl ++ [rd hs x]).length := ⟨_, rfl⟩
        obtain ⟨nS, hnS⟩ : ∃ n_, n_ = (Sl ++ [rd ss x]).length := ⟨_, rfl⟩
        rw [← hnH, ← hnS] at HST5 ⊢
        have HNH := Aside0.mk hnH
        have HNS := Aside0.mk hnS
        clear hnH hnS
        refine last_ (i := 17) (N := none) #[true, true, true, true, true, true, true, true, true, true, true, true, true, true, true, true, true, true, false, false] rfl rfl (by kernel_rfl) (by decide) (fun K hK => ?_)
        refine skip_ (w1 := ?_) (by rfl) rfl ?_ ?_
        rotate_left
        · go_simp
          rfl
        refine hK.out _ _ ?_
        clear hK K
        refine pure_ (i := 18) (N := some 44) (v := ?_) (a' := ?_) #[true, true, true, true, true, true, true, true, true, true, true, true, true, true, true, true, true, true, true, false] rfl rfl (by kernel_rfl) (fun _ _ _ h => h) (Or.inl ⟨by rfl, ?_⟩) ?_ ?_
        rotate_left
        · intro w'
          go_simp
          with_reducible rfl
        rotate_left
        · simp only [Act.put, List.setIfInBounds_toArray, List.set_cons_zero, List.set_cons_succ, i64_w, i32_w]
          rfl
        refine last_ (i := 19) (N := none) #[true, true, true, true, true, true, true, true, true, true, true, true, true, true, true, true, true, true, true, true] rfl rfl (by kernel_rfl) (by decide) (fun K hK => ?_)
        refine skip_ (w1 := ?_) (by rfl) rfl ?_ ?_
        rotate_left
        · go_simp
          rfl
        refine hK.out _ _ ?_
        clear hK K
        refine done_ (by kernel_rfl) ?_
        have HST6 := Aside0.mk HST5.out.puts
        clear hc0 hc1 hc2 hf1 hf2 HST5
        -- END OF REGION 7
        go_wp2_with (first
          | (at_mapUpdate; refine mapStore rfl rfl law_i64 law_map_bool HST6.out.map (by have := HS.out; omega) rfl (.int .i64 x) (.bool true) (.int .i64 x) rfl rfl HK.out trivial ?_; intro w3 hM3 hg3; obtain ⟨s2, hs2, hM4⟩ : ∃ s2, s2 ≤ s + 1 ∧ MapV w3 Try.prog 2 w1.heap.size s2 (seenOf (met ++ [x])) := ⟨_, by split <;> omega, hM3.congr (fun kl _ => seenOf_snoc _ x kl)⟩; have HST7 := Aside0.mk (HST6.out.stored hM4 hg3); have HS2 := Aside0.mk hs2; clear HST6 hM3 hM4 hg3 hs2))
        go_roundw
        case rel =>
          refine ⟨k + 1, by omega, by omega, rfl, ⟨s2, A34, c34, A42, c42, by have := HS.out; have := HS2.out; omega, ?_⟩⟩
          rw [HN1.out, HN2.out, HMS.out]
          have h7 := HST7.out
          rw [HNH.out, HNS.out] at h7
          exact h7
        case measure => simp [intOf]; omega
    · obtain rfl : k = l.length := by omega
      have e1 : l.take ((l.length : Int)).toNat = l := by rw [show ((l.length : Int)).toNat = l.length by omega, List.take_length]
      rw [e1] at HST
      have hb1 := HST.out.blk
      have hb2 := HST.out.res
      have hne := HST.out.ne
      have hc0 : wr.cell? ⟨w1.heap.size + 1, 0, none⟩ = some (.slice A7 (normalL l).length c7) := (blk_cell hb1 0).trans rfl
      have hc1 : wr.cell? ⟨w1.heap.size + 1, 1, none⟩ = some (.slice AH (firsts l hs).length cH) := (blk_cell hb1 1).trans rfl
      have hc2 : wr.cell? ⟨w1.heap.size + 1, 2, none⟩ = some (.slice AS (firsts l ss).length cS) := (blk_cell hb1 2).trans rfl
      have hd0 : wr.cell? ⟨w.heap.size, 0, none⟩ = some (.slice none 0 0) := (blk_cell hb2 0).trans rfl
      have hd1 : wr.cell? ⟨w.heap.size, 1, none⟩ = some (.slice none 0 0) := (blk_cell hb2 1).trans rfl
      have hd2 : wr.cell? ⟨w.heap.size, 2, none⟩ = some (.slice none 0 0) := (blk_cell hb2 2).trans rfl
      have hf0 := blk_frozen hb2 0
      have hf1 := blk_frozen hb2 1
      have hf2 := blk_frozen hb2 2
      have HB1 := Aside0.mk hb1
      have HB2 := Aside0.mk hb2
      clear hb1 hb2
      go_wp2
      refine bodyPost_ret (results_cell_row rfl _ _ w.heap.size 34 #[.slice A7 (normalL l).length c7, .slice AH (firsts l hs).length cH, .slice AS (firsts l ss).length cS] (0, 0) _ rfl (blk_put (cs := #[.slice A7 (normalL l).length c7, .slice AH (firsts l hs).length cH, .slice none 0 0]) (blk_put (cs := #[.slice A7 (normalL l).length c7, .slice none 0 0, .slice none 0 0]) (blk_put HB2.out 0 _ rfl) 1 _ rfl) 2 _ rfl) Try.underlying34 rfl (by kernel_rfl)) rfl ?_
      have row : ∀ {v : Value} {l_ : List Int}, RI wr w.heap.size (fun _ => True) v l_ → some w.heap.size ≠ v.ownBlock → ∀ u0 u1 u2, RI (((wr.setCell ⟨w.heap.size, 0, none⟩ u0).setCell ⟨w.heap.size, 1, none⟩ u1).setCell ⟨w.heap.size, 2, none⟩ u2) w.heap.size (fun _ => True) v l_ := fun {v l_} hv hne u0 u1 u2 =>
        Kd.R_mono (Kd.R_far (Kd.R_far (Kd.R_far (Kd.R_far1 hv rfl hne) (p := ⟨w.heap.size, 0, none⟩) (fun _ hk => hk.2) u0) (p := ⟨w.heap.size, 1, none⟩) (fun _ hk => hk.2) u1) (p := ⟨w.heap.size, 2, none⟩) (fun _ hk => hk.2) u2) (fun _ _ => trivial)
      exact ⟨_, _, _, rfl, row HST.out.r7 (HST.out.blk_ne HST.out.r7).2 _ _ _, row HST.out.rH (HST.out.blk_ne HST.out.rH).2 _ _ _, row HST.out.rS (HST.out.blk_ne HST.out.rS).2 _ _ _, HST.out.s7H, HST.out.s7S, HST.out.sHS, HST.out.sSH, below_set (below_set (below_set HST.out.bel (Nat.le_refl _)) (Nat.le_refl _)) (Nat.le_refl _)⟩
def impl_renumbered.f (l0 l1 l2 : List Int) : Option (List Int × List Int × List Int) := if l0.length < 1099511627776 ∧ Ok64 l0 ∧ (∀ x ∈ l0, 0 ≤ x ∧ x < l1.length ∧ x < l2.length) then some (normalL l0, firsts l0 l1, firsts l0 l2) else none
theorem impl_renumbered.calls (A0 : Option Addr) (c0 : Nat) (l0 : List Int) (A1 : Option Addr) (c1 : Nat) (l1 : List Int) (A2 : Option Addr) (c2 : Nat) (l2 : List Int) (r1 : List Int) (r2 : List Int) (r3 : List Int) (w : World) (hr0 : Kd.C (Kd.int .i64) w A0 l0.length l0) (hc0 : l0.length ≤ c0) (hr1 : Kd.C (Kd.int .i64) w A1 l1.length l1) (hc1 : l1.length ≤ c1) (hr2 : Kd.C (Kd.int .i64) w A2 l2.length l2) (hc2 : l2.length ≤ c2) (h : impl_renumbered.f l0 l1 l2 = some (r1, r2, r3)) :
    Calls Try.prog 71 #[.slice A0 l0.length c0, .slice A1 l1.length c1, .slice A2 l2.length c2] w fun e w' => ∃ v0_ v1_ v2_ : Value, e = .returned (.agg #[v0_, v1_, v2_]) ∧ Kd.R (Kd.int .i64) 2 w' w.heap.size (fun k_ => some k_ ≠ (v1_ : Value).ownBlock ∧ some k_ ≠ (v2_ : Value).ownBlock) v0_ r1 ∧ Kd.R (Kd.int .i64) 2 w' w.heap.size (fun k_ => some k_ ≠ (v0_ : Value).ownBlock ∧ some k_ ≠ (v2_ : Value).ownBlock) v1_ r2 ∧ Kd.R (Kd.int .i64) 2 w' w.heap.size (fun k_ => some k_ ≠ (v0_ : Value).ownBlock ∧ some k_ ≠ (v1_ : Value).ownBlock) v2_ r3 ∧ Below w.heap.size w w' := by
  unfold impl_renumbered.f at h
  split at h
  case isFalse => cases h
  rename_i hh
  simp only [Option.some.injEq, Prod.mk.injEq] at h
  obtain ⟨rfl, rfl, rfl⟩ := h
  refine (c_renumbered A0 A1 A2 c0 c1 c2 l0 l1 l2 w hh.1 hh.2.1 hr0 hr1 hr2 hh.2.2).mono ?_
  rintro e w' ⟨v0, v1, v2, rfl, h0, h1, h2, s10, s20, s12, s21, hb⟩
  have sep : ∀ {u v : Value} {lu : List Int}, Kd.R (Kd.int .i64) 2 w' w.heap.size (fun _ => True) u lu → ∀ k, u.ownBlock = some k → k < w'.heap.size := fun hu k hk => Kd.R_lt hu k hk
  refine ⟨v0, v1, v2, rfl, ?_, ?_, ?_, hb⟩
  · exact ⟨fun k hk => ⟨fun e => s10 k e.symm hk.symm, fun e => s20 k e.symm hk.symm⟩, h0.2⟩
  · exact ⟨fun k hk => ⟨s10 k hk, s12 k hk⟩, h1.2⟩
  · exact ⟨fun k hk => ⟨s20 k hk, s21 k hk⟩, h2.2⟩
end Go.Proofs.Ytihfncjpfgdhoaa.K
end
section
namespace Go.Proofs.Ytihfncjpfgdhoaa.PA
open Go.RowKit Go.Proofs.YtihfncjpfgdhoaaW.PrintWords Go.Proofs.YtihfncjpfgdhoaaW.PrintLast Go.Proofs.YtihfncjpfgdhoaaW.PrintMore
attribute [local go_sem] max2_int min2_int max_two min_two max_three min_three max_four min_four   -- for this text's walks alone
open Go.Proofs.Ytihfncjpfgdhoaa.K
/-! ### spec_l07Order: function 103 -/
mutual
def spec_l07Order.l0 : Nat → List Int → List Int → Int → Option (List Int)
  | 0, _, _, _ => none
  | k + 1, x0, x3, x4 => if x4 < (x0.length : Int) then (spec_l07Order.l1 k x0 x3 x4 false 0) else (some x3)
def spec_l07Order.l1 : Nat → List Int → List Int → Int → Bool → Int → Option (List Int)
  | 0, _, _, _, _, _ => none
  | k + 1, x0, x3, x4, x5, x6 => if x6 < (x3.length : Int) then (if x5 = true then (spec_l07Order.l1 k x0 x3 x4 true (wrap64 (x6 + 1))) else (if 0 ≤ x6 then (if 0 ≤ x4 then (if x4 < (x0.length : Int) then (spec_l07Order.l1 k x0 x3 x4 ((rd x3 x6) == (rd x0 x4)) (wrap64 (x6 + 1))) else (none)) else (none)) else (none))) else (if x5 = true then (spec_l07Order.l0 k x0 x3 (wrap64 (x4 + 1))) else (if 0 ≤ x4 then (if x4 < (x0.length : Int) then (if x3.length < 17592186044416 then (spec_l07Order.l0 k x0 (x3 ++ [rd x0 x4]) (wrap64 (x4 + 1))) else (none)) else (none)) else (none)))
end
def spec_l07Order.f (k : Nat) (l0 : List Int) : Option (List Int) := spec_l07Order.l0 k l0 (([] : List Int)) 0
theorem spec_l07Order.mono_l : ∀ k, (∀ y0 y1 y2, LeO (spec_l07Order.l0 k y0 y1 y2) (spec_l07Order.l0 (k + 1) y0 y1 y2)) ∧ (∀ y0 y1 y2 y3 y4, LeO (spec_l07Order.l1 k y0 y1 y2 y3 y4) (spec_l07Order.l1 (k + 1) y0 y1 y2 y3 y4))
  | 0 => ⟨fun _ _ _ r h => by simp [spec_l07Order.l0] at h, fun _ _ _ _ _ r h => by simp [spec_l07Order.l1] at h⟩
  | k + 1 => by
    obtain ⟨ih0, ih1⟩ := spec_l07Order.mono_l k
    refine ⟨?_, ?_⟩
    · intro y0 y1 y2
      unfold spec_l07Order.l0
      repeat' first
      | (with_reducible exact ih0 _ _ _)
      | (with_reducible exact ih1 _ _ _ _ _)
      | (with_reducible exact LeO.refl _)
      | (with_reducible exact LeO.none _)
      | (with_reducible refine LeO.ite ?_ ?_)
      | (with_reducible refine LeO.bind ?_ (fun _ => ?_))
      | exact ih0 _ _ _
      | exact ih1 _ _ _ _ _
      | exact LeO.none _
      | refine LeO.ite ?_ ?_
      | refine LeO.bind ?_ (fun _ => ?_)
    · intro y0 y1 y2 y3 y4
      unfold spec_l07Order.l1
      repeat' first
      | (with_reducible exact ih0 _ _ _)
      | (with_reducible exact ih1 _ _ _ _ _)
      | (with_reducible exact LeO.refl _)
      | (with_reducible exact LeO.none _)
      | (with_reducible refine LeO.ite ?_ ?_)
      | (with_reducible refine LeO.bind ?_ (fun _ => ?_))
      | exact ih0 _ _ _
      | exact ih1 _ _ _ _ _
      | exact LeO.none _
      | refine LeO.ite ?_ ?_
      | refine LeO.bind ?_ (fun _ => ?_)
theorem spec_l07Order.mono : ∀ a0 k, LeO (spec_l07Order.f k a0) (spec_l07Order.f (k + 1) a0) := by
  intro a0 k
  obtain ⟨ih0, ih1⟩ := spec_l07Order.mono_l k
  unfold spec_l07Order.f
  repeat' first
      | (with_reducible exact ih0 _ _ _)
      | (with_reducible exact ih1 _ _ _ _ _)
      | (with_reducible exact LeO.refl _)
      | (with_reducible exact LeO.none _)
      | (with_reducible refine LeO.ite ?_ ?_)
      | (with_reducible refine LeO.bind ?_ (fun _ => ?_))
      | exact ih0 _ _ _
      | exact ih1 _ _ _ _ _
      | exact LeO.none _
      | refine LeO.ite ?_ ?_
      | refine LeO.bind ?_ (fun _ => ?_)
set_option maxHeartbeats 8000000 in
set_option maxRecDepth 100000 in
theorem spec_l07Order.calls (k : Nat) (A0 : Option Addr) (c0 : Nat) (l0 : List Int) (r : List Int) (w : World) (hr0 : Kd.C (Kd.int .i64) w A0 l0.length l0) (hc0 : l0.length ≤ c0) (h : spec_l07Order.f k l0 = some r) :
    Calls Try.prog 103 #[.slice A0 l0.length c0] w fun e w' => ∃ v0_ : Value, e = .returned (v0_) ∧ Kd.R (Kd.int .i64) 2 w' w.heap.size (fun _ => True) v0_ r ∧ Below w.heap.size w w' := by
  have HR0 := Aside0.mk hr0
  have HC0 := Aside0.mk hc0
  clear hr0 hc0
  have HB := mk0 (Below.refl w.heap.size w)
  have H : (spec_l07Order.l0 k l0 (([] : List Int)) 0) = some r := h
  clear h
  obtain ⟨y226, hy226⟩ : ∃ y_ : List Int, y_ = (([] : List Int)) := ⟨_, rfl⟩
  replace H : (spec_l07Order.l0 k l0 y226 0) = some r := by first | (rw [hy226]; with_reducible exact H) | (have H2_ := (Option.bind_some _ _).symm.trans H; rw [hy226]; with_reducible exact H2_) | (have H2_ := (Option.bind_some _ _).symm.trans H; with_reducible exact H2_) | with_reducible exact H | (rw [hy226]; exact H) | exact H
  have Ny226 := Aside0.mk hy226
  clear hy226
  have H' := Aside0.mk H
  clear H
  go_enter Try.func103, Try.ntmps103
  go_wp2_with (first | ((with_reducible refine gate_dst (N := 7) rfl ?_); refine Kd.R_lit (Kd.int .i64) _ 2 ?hg (N := 7) ?hd (xs := ([] : List Int)) (inner := []) (ok := fun _ => True) (okp := fun _ => True) ?hr ?hp (fun _ hk => hk) trivial (Below.refl _ _) (Nat.le_refl _) (by simp) ?_; (case hd => rfl); (case hg => rfl); (case hr => first | (go_simp; done) | (go_simp; rfl)); (case hp => exact (Reps.none _ _)); intro v227 w2 ho3 hb hg_ hnew_; clear hg_ hnew_; (first | rw [← Ny226.out] at ho3 | (simp only [Int.reduceToNat] at ho3; rw [← Ny226.out] at ho3)); have n0_ := mk0 (Kd.R_lower ho3 (below_size (by repeat (first | exact HB.out | apply below_alloc | apply pw_below_drewN | apply below_drew1)))); have n1_ := mk0 (below_step (by repeat (first | exact HB.out | apply below_alloc | apply pw_below_drewN | apply below_drew1)) hb); clear HB; have HO228 := n0_; have HB := n1_; clear n0_ n1_; clear hb ho3))
  repeat (go_quiet (first | ((with_reducible refine gate_dst (N := 7) rfl ?_); refine Kd.R_lit (Kd.int .i64) _ 2 ?hg (N := 7) ?hd (xs := ([] : List Int)) (inner := []) (ok := fun _ => True) (okp := fun _ => True) ?hr ?hp (fun _ hk => hk) trivial (Below.refl _ _) (Nat.le_refl _) (by simp) ?_; (case hd => rfl); (case hg => rfl); (case hr => first | (go_simp; done) | (go_simp; rfl)); (case hp => exact (Reps.none _ _)); intro v227 w2 ho3 hb hg_ hnew_; clear hg_ hnew_; (first | rw [← Ny226.out] at ho3 | (simp only [Int.reduceToNat] at ho3; rw [← Ny226.out] at ho3)); have n0_ := mk0 (Kd.R_lower ho3 (below_size (by repeat (first | exact HB.out | apply below_alloc | apply pw_below_drewN | apply below_drew1)))); have n1_ := mk0 (below_step (by repeat (first | exact HB.out | apply below_alloc | apply pw_below_drewN | apply below_drew1)) hb); clear HB; have HO228 := n0_; have HB := n1_; clear n0_ n1_; clear hb ho3)); try go_wp2_with (first | ((with_reducible refine gate_dst (N := 7) rfl ?_); refine Kd.R_lit (Kd.int .i64) _ 2 ?hg (N := 7) ?hd (xs := ([] : List Int)) (inner := []) (ok := fun _ => True) (okp := fun _ => True) ?hr ?hp (fun _ hk => hk) trivial (Below.refl _ _) (Nat.le_refl _) (by simp) ?_; (case hd => rfl); (case hg => rfl); (case hr => first | (go_simp; done) | (go_simp; rfl)); (case hp => exact (Reps.none _ _)); intro v227 w2 ho3 hb hg_ hnew_; clear hg_ hnew_; (first | rw [← Ny226.out] at ho3 | (simp only [Int.reduceToNat] at ho3; rw [← Ny226.out] at ho3)); have n0_ := mk0 (Kd.R_lower ho3 (below_size (by repeat (first | exact HB.out | apply below_alloc | apply pw_below_drewN | apply below_drew1)))); have n1_ := mk0 (below_step (by repeat (first | exact HB.out | apply below_alloc | apply pw_below_drewN | apply below_drew1)) hb); clear HB; have HO228 := n0_; have HB := n1_; clear n0_ n1_; clear hb ho3)))
  go_loopg [3, 4] k (fun kq v3 v4 w' => ∃ (x3_1 : List Int) (x4_1 : Int), v4 = .int .i64 x4_1 ∧ Aside0 (spec_l07Order.l0 kq l0 x3_1 x4_1 = some r) ∧ Aside0 (kq ≤ k) ∧ Aside0 (Kd.R (Kd.int .i64) 2 w' w.heap.size (fun _ => True) v3 x3_1) ∧ Aside0 (Below w.heap.size w w'))
  case atStart => exact ⟨(y226), (0), (by first | rfl | (simp; done) | (simp [*]; done)), H', ⟨Nat.le_refl _⟩, ⟨by exact HO228.out⟩, ⟨by repeat (first | exact HB.out | apply below_alloc | apply pw_below_drewN | apply below_drew1)⟩⟩
  case round =>
    clear H'
    try clear c1
    try clear p2
    obtain ⟨x3_1, x4_1, rfl, HA, HK1, HO_3, HB⟩ := hrel
    cases gk with
    | zero => exact absurd HA.out (by simp [spec_l07Order.l0])
    | succ k1 =>
      have H := HA.out
      clear HA
      simp only [spec_l07Order.l0] at H
      by_cases c4 : x4_1 < (l0.length : Int)
      · rw [if_pos c4] at H
        have c4b0 : decide (x4_1 < (l0.length : Int)) = true := decide_eq_true c4
        clear c4
        have H' := Aside0.mk H
        clear H
        go_wp2
        repeat (go_quiet (fail); try go_wp2)
        go_loopg [5, 6] k1 (fun kq v5 v6 w' => ∃ (x5_2 : Bool) (x6_2 : Int), v5 = .bool x5_2 ∧ v6 = .int .i64 x6_2 ∧ Aside0 (spec_l07Order.l1 kq l0 x3_1 x4_1 x5_2 x6_2 = some r) ∧ Aside0 (kq ≤ k1) ∧ Aside0 (Kd.R (Kd.int .i64) 2 w' w.heap.size (fun _ => True) u3 x3_1) ∧ Aside0 (Below w.heap.size w w'))
        case atStart => exact ⟨(false), (0), (by first | rfl | (simp; done) | (simp [*]; done)), (by first | rfl | (simp; done) | (simp [*]; done)), H', ⟨Nat.le_refl _⟩, ⟨by exact HO_3.out⟩, ⟨by repeat (first | exact HB.out | apply below_alloc | apply pw_below_drewN | apply below_drew1)⟩⟩
        case round =>
          clear H'
          try clear c1
          try clear p2
          try clear c4
          try clear c4b0
          try clear p2
          obtain ⟨x5_2, x6_2, rfl, rfl, HA, HK2, HO_3, HB⟩ := hrel
          cases gk with
          | zero => exact absurd HA.out (by simp [spec_l07Order.l1])
          | succ k2 =>
            have H := HA.out
            clear HA
            simp only [spec_l07Order.l1] at H
            by_cases c5 : x6_2 < (x3_1.length : Int)
            · rw [if_pos c5] at H
              have c5b0 : decide (x6_2 < (x3_1.length : Int)) = true := decide_eq_true c5
              clear c5
              by_cases c6 : x5_2 = true
              · subst c6
                have H1 : (spec_l07Order.l1 k2 l0 x3_1 x4_1 true (wrap64 (x6_2 + 1))) = some r := by rw [if_pos rfl] at H; exact H
                clear H
                have H := H1
                clear H1
                have H' := Aside0.mk H
                clear H
                obtain ⟨Ao7, co7, eo7⟩ := Kd.R_slice HO_3.out
                subst eo7
                go_wp2
                repeat (go_quiet (fail); try go_wp2)
                go_roundg k2
                case measure => have := HK1.out; have := HK2.out; omega
                case rel => exact ⟨(true), (wrap64 (x6_2 + 1)), (by first | rfl | (simp; done) | (simp [*]; done)), (by first | rfl | (simp; done) | (simp [*]; done)), H', ⟨by have := HK1.out; have := HK2.out; omega⟩, ⟨by exact HO_3.out⟩, ⟨by repeat (first | exact HB.out | apply below_alloc | apply pw_below_drewN | apply below_drew1)⟩⟩
              · replace c6 := Bool.eq_false_iff.mpr c6
                subst c6
                have H1 : (if 0 ≤ x6_2 then (if 0 ≤ x4_1 then (if x4_1 < (l0.length : Int) then (spec_l07Order.l1 k2 l0 x3_1 x4_1 ((rd x3_1 x6_2) == (rd l0 x4_1)) (wrap64 (x6_2 + 1))) else (none)) else (none)) else (none)) = some r := by rw [if_neg (show ¬ (false = true) by decide)] at H; exact H
                clear H
                have H := H1
                clear H1
                by_cases c8 : 0 ≤ x6_2
                · rw [if_pos c8] at H
                  have c8b0 : decide (0 ≤ x6_2) = true := decide_eq_true c8
                  clear c8
                  by_cases c9 : 0 ≤ x4_1
                  · rw [if_pos c9] at H
                    have c9b0 : decide (0 ≤ x4_1) = true := decide_eq_true c9
                    clear c9
                    by_cases c10 : x4_1 < (l0.length : Int)
                    · rw [if_pos c10] at H
                      have c10b0 : decide (x4_1 < (l0.length : Int)) = true := decide_eq_true c10
                      clear c10
                      have H' := Aside0.mk H
                      clear H
                      obtain ⟨Ao11, co11, eo11⟩ := Kd.R_slice HO_3.out
                      subst eo11
                      have p229 : 0 ≤ (x6_2 : Int) := of_decide_eq_true (by first | (with_reducible assumption) | assumption)
                      have q229 : x6_2 < (x3_1.length : Int) := of_decide_eq_true (by first | (with_reducible assumption) | assumption)
                      obtain ⟨ad229, e229, hx229_0⟩ := Kd.at_int (Kd.R_reads' HO_3.out).2.2 x6_2 p229 q229
                      cases e229
                      replace p229 := eq_true p229
                      replace q229 := eq_true q229
                      have p230 : 0 ≤ (x4_1 : Int) := of_decide_eq_true (by first | (with_reducible assumption) | assumption)
                      have q230 : x4_1 < (l0.length : Int) := of_decide_eq_true (by first | (with_reducible assumption) | assumption)
                      obtain ⟨ad230, e230, hx230_0⟩ := Kd.at_int HR0.out x4_1 p230 q230
                      cases e230
                      replace hx230_0 := (HB.out.cell (World.block_lt_of_cell? w _ hx230_0)).trans hx230_0
                      replace p230 := eq_true p230
                      replace q230 := eq_true q230
                      go_wp2
                      repeat (go_quiet (fail); try go_wp2)
                      go_roundg k2
                      case measure => have := HK1.out; have := HK2.out; omega
                      case rel => exact ⟨(((rd x3_1 x6_2) == (rd l0 x4_1))), (wrap64 (x6_2 + 1)), (by first | rfl | (simp; done) | (simp [*]; done)), (by first | rfl | (simp; done) | (simp [*]; done)), H', ⟨by have := HK1.out; have := HK2.out; omega⟩, ⟨by exact HO_3.out⟩, ⟨by repeat (first | exact HB.out | apply below_alloc | apply pw_below_drewN | apply below_drew1)⟩⟩
                    · rw [if_neg c10] at H
                      exact absurd H (by simp)
                  · rw [if_neg c9] at H
                    exact absurd H (by simp)
                · rw [if_neg c8] at H
                  exact absurd H (by simp)
            · rw [if_neg c5] at H
              have c5b0 : decide (x6_2 < (x3_1.length : Int)) = false := decide_eq_false c5
              clear c5
              by_cases c12 : x5_2 = true
              · subst c12
                have H1 : (spec_l07Order.l0 k2 l0 x3_1 (wrap64 (x4_1 + 1))) = some r := by rw [if_pos rfl] at H; exact H
                clear H
                have H := H1
                clear H1
                have H' := Aside0.mk H
                clear H
                obtain ⟨Ao13, co13, eo13⟩ := Kd.R_slice HO_3.out
                subst eo13
                go_wp2
                repeat (go_quiet (fail); try go_wp2)
                go_roundg k2
                case measure => have := HK1.out; have := HK2.out; omega
                case rel => exact ⟨(x3_1), (wrap64 (x4_1 + 1)), (by first | rfl | (simp; done) | (simp [*]; done)), H', ⟨by have := HK1.out; have := HK2.out; omega⟩, ⟨by exact HO_3.out⟩, ⟨by repeat (first | exact HB.out | apply below_alloc | apply pw_below_drewN | apply below_drew1)⟩⟩
              · replace c12 := Bool.eq_false_iff.mpr c12
                subst c12
                have H1 : (if 0 ≤ x4_1 then (if x4_1 < (l0.length : Int) then (if x3_1.length < 17592186044416 then (spec_l07Order.l0 k2 l0 (x3_1 ++ [rd l0 x4_1]) (wrap64 (x4_1 + 1))) else (none)) else (none)) else (none)) = some r := by rw [if_neg (show ¬ (false = true) by decide)] at H; exact H
                clear H
                have H := H1
                clear H1
                by_cases c14 : 0 ≤ x4_1
                · rw [if_pos c14] at H
                  have c14b0 : decide (0 ≤ x4_1) = true := decide_eq_true c14
                  clear c14
                  by_cases c15 : x4_1 < (l0.length : Int)
                  · rw [if_pos c15] at H
                    have c15b0 : decide (x4_1 < (l0.length : Int)) = true := decide_eq_true c15
                    clear c15
                    by_cases c16 : x3_1.length < 17592186044416
                    · rw [if_pos c16] at H
                      have LMc16 := Aside0.mk c16
                      clear c16
                      obtain ⟨y232, hy232⟩ : ∃ y_ : List Int, y_ = (x3_1 ++ [rd l0 x4_1]) := ⟨_, rfl⟩
                      replace H : (spec_l07Order.l0 k2 l0 y232 (wrap64 (x4_1 + 1))) = some r := by first | (rw [hy232]; with_reducible exact H) | (have H2_ := (Option.bind_some _ _).symm.trans H; rw [hy232]; with_reducible exact H2_) | (have H2_ := (Option.bind_some _ _).symm.trans H; with_reducible exact H2_) | with_reducible exact H | (rw [hy232]; exact H) | exact H
                      have Ny232 := Aside0.mk hy232
                      clear hy232
                      have H' := Aside0.mk H
                      clear H
                      obtain ⟨Ao17, co17, eo17⟩ := Kd.R_slice HO_3.out
                      subst eo17
                      have p231 : 0 ≤ (x4_1 : Int) := of_decide_eq_true (by first | (with_reducible assumption) | assumption)
                      have q231 : x4_1 < (l0.length : Int) := of_decide_eq_true (by first | (with_reducible assumption) | assumption)
                      obtain ⟨ad231, e231, hx231_0⟩ := Kd.at_int HR0.out x4_1 p231 q231
                      cases e231
                      replace hx231_0 := (HB.out.cell (World.block_lt_of_cell? w _ hx231_0)).trans hx231_0
                      replace p231 := eq_true p231
                      replace q231 := eq_true q231
                      go_wp2_with (first | ((with_reducible refine gate_builtin (b := .append) (xs := #[.tmp 34, .tmp 39]) rfl ?_); at_builtin; refine Kd.R_append (Kd.int .i64) (w0 := w) w.heap.size rfl (.tmp 34) (.tmp 39) 22 2 (.int .i64 0) 8 rfl Try.underlying22 info2 rfl (by decide) (by omega) (.slice Ao17 x3_1.length co17) x3_1 (rd l0 x4_1) [.int .i64 (rd l0 x4_1)] (fun _ => True) (fun _ => False) rfl rfl ?aP (fun _ hk => hk.elim) ?aF ?aO ?aB ?aS ?aL ?_; (case aP => exact rfl); (case aB => exact (by repeat (first | exact HB.out | apply below_alloc | apply pw_below_drewN | apply below_drew1))); (case aF => exact (fun _ _ => trivial)); (case aO => exact HO_3.out); (case aS => exact (below_size (by repeat (first | exact HB.out | apply below_alloc | apply pw_below_drewN | apply below_drew1)))); (case aL => have := LMc16.out; omega); intro v233 w18 ho hb hg hat; rw [← Ny232.out] at ho; have n0_ := mk0 (hb); have n1_ := mk0 (ho); clear HB; clear HO_3; have HB := n0_; have HO234 := n1_; clear n0_ n1_; clear ho hb hg hat))
                      repeat (go_quiet (first | ((with_reducible refine gate_builtin (b := .append) (xs := #[.tmp 34, .tmp 39]) rfl ?_); at_builtin; refine Kd.R_append (Kd.int .i64) (w0 := w) w.heap.size rfl (.tmp 34) (.tmp 39) 22 2 (.int .i64 0) 8 rfl Try.underlying22 info2 rfl (by decide) (by omega) (.slice Ao17 x3_1.length co17) x3_1 (rd l0 x4_1) [.int .i64 (rd l0 x4_1)] (fun _ => True) (fun _ => False) rfl rfl ?aP (fun _ hk => hk.elim) ?aF ?aO ?aB ?aS ?aL ?_; (case aP => exact rfl); (case aB => exact (by repeat (first | exact HB.out | apply below_alloc | apply pw_below_drewN | apply below_drew1))); (case aF => exact (fun _ _ => trivial)); (case aO => exact HO_3.out); (case aS => exact (below_size (by repeat (first | exact HB.out | apply below_alloc | apply pw_below_drewN | apply below_drew1)))); (case aL => have := LMc16.out; omega); intro v233 w18 ho hb hg hat; rw [← Ny232.out] at ho; have n0_ := mk0 (hb); have n1_ := mk0 (ho); clear HB; clear HO_3; have HB := n0_; have HO234 := n1_; clear n0_ n1_; clear ho hb hg hat)); try go_wp2_with (first | ((with_reducible refine gate_builtin (b := .append) (xs := #[.tmp 34, .tmp 39]) rfl ?_); at_builtin; refine Kd.R_append (Kd.int .i64) (w0 := w) w.heap.size rfl (.tmp 34) (.tmp 39) 22 2 (.int .i64 0) 8 rfl Try.underlying22 info2 rfl (by decide) (by omega) (.slice Ao17 x3_1.length co17) x3_1 (rd l0 x4_1) [.int .i64 (rd l0 x4_1)] (fun _ => True) (fun _ => False) rfl rfl ?aP (fun _ hk => hk.elim) ?aF ?aO ?aB ?aS ?aL ?_; (case aP => exact rfl); (case aB => exact (by repeat (first | exact HB.out | apply below_alloc | apply pw_below_drewN | apply below_drew1))); (case aF => exact (fun _ _ => trivial)); (case aO => exact HO_3.out); (case aS => exact (below_size (by repeat (first | exact HB.out | apply below_alloc | apply pw_below_drewN | apply below_drew1)))); (case aL => have := LMc16.out; omega); intro v233 w18 ho hb hg hat; rw [← Ny232.out] at ho; have n0_ := mk0 (hb); have n1_ := mk0 (ho); clear HB; clear HO_3; have HB := n0_; have HO234 := n1_; clear n0_ n1_; clear ho hb hg hat)))
                      go_roundg k2
                      case measure => have := HK1.out; have := HK2.out; omega
                      case rel => exact ⟨(y232), (wrap64 (x4_1 + 1)), (by first | rfl | (simp; done) | (simp [*]; done)), H', ⟨by have := HK1.out; have := HK2.out; omega⟩, ⟨by exact HO234.out⟩, ⟨by repeat (first | exact HB.out | apply below_alloc | apply pw_below_drewN | apply below_drew1)⟩⟩
                    · rw [if_neg c16] at H
                      exact absurd H (by simp)
                  · rw [if_neg c15] at H
                    exact absurd H (by simp)
                · rw [if_neg c14] at H
                  exact absurd H (by simp)
      · rw [if_neg c4] at H
        have c4b0 : decide (x4_1 < (l0.length : Int)) = false := decide_eq_false c4
        clear c4
        obtain rfl := Option.some.inj H
        go_wp2
        repeat (go_quiet (fail); try go_wp2)
        go_ret
        exact ⟨_, by first | rfl | (simp [errW_none, errW_some] <;> rfl) | (simp [*, errW_none, errW_some] <;> rfl), by exact HO_3.out, by repeat (first | exact HB.out | apply below_alloc | apply pw_below_drewN | apply below_drew1)⟩
end Go.Proofs.Ytihfncjpfgdhoaa.PA
end
