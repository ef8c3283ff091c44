/- Own words: calls of function values, steps of worlds, predicates that closures compute. Conditions: none; for any program. Plain words and laws on lists: what the functions of the program compute. No program in it. Conditions: none. Laws for rows of int64 of a call's own, at this program's types: make, literals, stores, appends, reads. Conditions: in each. -/
import Derived.Test.YtbnmjhcokdhjmaaWMore
import Derived.Test.YtbnmjhcokdhjmaaWLast
import Derived.Test.YtbnmjhcokdhjmaaWWords
import Derived.Test.YtbnmjhcokdhjmaaProg
set_option linter.unusedVariables false
set_option linter.unusedSimpArgs false
namespace Go.Proofs.Ytbnmjhcokdhjmaa.K
open Go.RowKit Go.Proofs.YtbnmjhcokdhjmaaW.PrintWords Go.Proofs.YtbnmjhcokdhjmaaW.PrintLast Go.Proofs.YtbnmjhcokdhjmaaW.PrintMore

/-- A function value, called with these arguments, ends so. -/
def Runs (P : Program) (fv : Value) (args : Array Value) (w : World) (Q : Ending → World → Prop) : Prop :=
  ∃ (k : Nat) (fn : Func) (first cap : Array Value), fv = .func (.func k) first cap ∧ P.funcs[k]? = some fn ∧ (fn.name == "runtime.NumGoroutine") = false ∧ fn.body.isSome = true ∧ Calls P k (first ++ args ++ cap) w Q

theorem Runs.mono {P : Program} {fv : Value} {args : Array Value} {w : World} {Q Q' : Ending → World → Prop} (h : Runs P fv args w Q) (hq : ∀ e w', Q e w' → Q' e w') : Runs P fv args w Q' := by
  obtain ⟨k, fn, first, cap, h1, h2, h3, h4, h5⟩ := h
  exact ⟨k, fn, first, cap, h1, h2, h3, h4, h5.mono hq⟩

/-- A call of a function value, in a plain region. -/
theorem goesV {P : Program} {ops : Array Oper} {Q : Exit → Act → World → Prop} {rest : List Oper} {oi : Oper} {a : Act} {w : World} (N : Option Tmp) (hd : oi.dst = N) (hg : oi.guard = none) {fo : Operand} {aa : Array Operand} {ts : Array TypeId}
    (hop : oi.op = .call { callee := .value fo, args := aa, argTypes := ts }) {fv : Value} (hfv : a.eval fo = fv) (args : Array Value) (hargs : aa.map a.eval = args)
    (h : Runs P fv args w fun e w' => ∃ v, e = .returned v ∧ wpList P ops Q rest (a.put N v) w') : wpList P ops Q (oi :: rest) a w := by
  obtain ⟨k, fn, first, cap, rfl, hf, hname, hb, hc⟩ := h
  refine wpList_plain hg fun K hK => ?_
  have he := enters_ hf hname hb (first ++ args ++ cap) w
  have hrun : (execOp a.eval oi).run P w = .ok (.enter k (first ++ args ++ cap)) w := by
    unfold execOp
    simp [hop, resolve, Deferred.ofValue, invoke, hargs, hfv]
    rw [← Array.append_assoc]
    exact he
  unfold Oper.wp
  rw [hrun, Oper.upon_enter]
  refine hc.mono fun e w'' hh => ?_
  obtain ⟨v, rfl, hk⟩ := hh
  subst hd
  exact hK _ _ hk

/-- What a call may do to the world: a relation that is kept by steps and leaves old memory alone. -/
structure Step (R : World → World → Prop) : Prop where
  refl : ∀ w, R w w
  trans : ∀ {w1 w2 w3}, R w1 w2 → R w2 w3 → R w1 w3
  draw : ∀ w n, R w (w.drewN n)
  below : ∀ {w w'}, R w w' → Below w.heap.size w w'

theorem drawn_trans {w1 w2 w3 : World} (h : Drawn0 w1 w2) (k : Drawn0 w2 w3) : Drawn0 w1 w3 := by
  obtain ⟨m, rfl⟩ := h
  obtain ⟨n, rfl⟩ := k
  exact ⟨⟨m + n, World.drewN_drewN ..⟩⟩

theorem step_drawn : Step Drawn0 := ⟨Drawn0.refl, fun h k => drawn_trans h k, fun w n => ⟨⟨n, rfl⟩⟩, fun h => h.below⟩

/-- Old memory stands. -/
structure Bel (w w' : World) : Prop where mk :: (out : Below w.heap.size w w')
theorem step_bel : Step Bel := ⟨fun w => ⟨Below.refl _ _⟩, fun h k => ⟨below_then h.out h.out.size k.out⟩, fun w n => ⟨pw_below_drewN (Below.refl _ _) n⟩, fun h => h.out⟩

end Go.Proofs.Ytbnmjhcokdhjmaa.K

set_option linter.unusedVariables false
set_option linter.unusedSimpArgs false
namespace Go.Proofs.Ytbnmjhcokdhjmaa.K
open Go.RowKit Go.Proofs.YtbnmjhcokdhjmaaW.PrintWords Go.Proofs.YtbnmjhcokdhjmaaW.PrintMore

theorem rd_mem (l : List Int) (k : Nat) (h : k < l.length) : rd l k ∈ l := by
  unfold rd
  rw [List.getD_eq_getElem?_getD, Int.toNat_natCast, List.getElem?_eq_getElem h]
  exact List.getElem_mem _
theorem drop_at (l : List Int) (k : Nat) (h : k < l.length) : l.drop k = rd l k :: l.drop (k + 1) := by
  rw [List.drop_eq_getElem_cons h]
  unfold rd
  rw [List.getD_eq_getElem?_getD, Int.toNat_natCast, List.getElem?_eq_getElem h]
  rfl

/-- Is n from lo to hi? -/
def inB (n lo hi : Int) : Bool := decide (lo ≤ n) && decide (n ≤ hi)

/-- One pass of 1 / (1 - t^k) over a list, from place i on, numbers staying at 2000000000. -/
def passFrom (l : List Int) (k i : Nat) : Nat → List Int
  | 0 => l
  | d + 1 => passFrom (l.set i (min (l.getD i 0 + l.getD (i - k) 0) 2000000000)) k (i + 1) d
def pass (l : List Int) (k : Nat) : List Int := passFrom l k k (l.length - k)
def passes (l : List Int) (k : Nat) : Nat → List Int
  | 0 => l
  | n + 1 => passes (pass l k) k n
theorem passFrom_length (k d : Nat) : ∀ (l : List Int) (i : Nat), (passFrom l k i d).length = l.length := by
  induction d with
  | zero => intro l i; rfl
  | succ d ih => intro l i; rw [passFrom, ih]; simp
theorem pass_length (l : List Int) (k : Nat) : (pass l k).length = l.length := passFrom_length _ _ _ _
theorem passes_length (k n : Nat) : ∀ l : List Int, (passes l k n).length = l.length := by
  induction n with
  | zero => intro l; rfl
  | succ n ih => intro l; rw [passes, ih, pass_length]

/-- All passes of a list of numbers: for its element number i, so many with k = i + 1. -/
def allPasses (out : List Int) (i : Nat) : List Int → List Int
  | [] => out
  | a :: r => allPasses (passes out (i + 1) a.toNat) (i + 1) r
theorem allPasses_length (r : List Int) : ∀ (out : List Int) (i : Nat), (allPasses out i r).length = out.length := by
  induction r with
  | nil => intro out i; rfl
  | cons a r ih => intro out i; rw [allPasses, ih, passes_length]

/-- The greatest of a list of numbers that begins with m. -/
def maxL (m : Int) (l : List Int) : Int := l.foldl (fun a b => if a < b then b else a) m
/-- The greatest of a list that is not empty. -/
def maxOf (l : List Int) : Int := maxL (l.headD 0) l.tail

def badIn (hi : Int) (l : List Int) : Bool := l.any fun n => !inB n 0 hi
def startL (n : Nat) : List Int := 1 :: List.replicate n 0
def transL (l : List Int) : List Int := allPasses (startL l.length) 0 l
def transI (l : List Int) : List Int × Int :=
  if 20 < l.length ∨ badIn 1000 l = true then ([], 2) else if 1000000000 < maxOf (transL l) then ([], 3) else (transL l, 0)

theorem transI_length (l : List Int) (h : l.length ≤ 1048576) : (transI l).1.length ≤ 1048577 := by
  unfold transI
  split
  · simp
  · split
    · simp
    · simp only [transL, allPasses_length, startL, List.length_cons, List.length_replicate]; omega

/-- The loop of the inverse: what is left of the list's numbers from place k on, the series so far, the result so far. -/
def untransFrom (l now out : List Int) (k : Nat) : Nat → List Int × Int
  | 0 => (out, 0)
  | d + 1 => if inB (l.getD k 0 - now.getD k 0) 0 1000 = true then untransFrom l (passes now k (l.getD k 0 - now.getD k 0).toNat) (out ++ [l.getD k 0 - now.getD k 0]) (k + 1) d else ([], 5)
def untransI (l : List Int) : List Int × Int :=
  if l.length < 1 ∨ 21 < l.length ∨ badIn 1000000000 l = true ∨ l.getD 0 0 ≠ 1 then ([], 2) else untransFrom l (startL (l.length - 1)) [] 1 (l.length - 1)
theorem untransFrom_length (l : List Int) (d : Nat) : ∀ (now out : List Int) (k : Nat), (untransFrom l now out k d).1.length ≤ out.length + d := by
  induction d with
  | zero => intro now out k; exact Nat.le_refl _
  | succ d ih =>
    intro now out k
    rw [untransFrom]
    split
    · refine Nat.le_trans (ih _ _ _) ?_
      simp; omega
    · simp
theorem untransI_length (l : List Int) : (untransI l).1.length ≤ 1048577 := by
  unfold untransI
  split
  · simp
  · rename_i h
    simp only [not_or] at h
    refine Nat.le_trans (untransFrom_length _ _ _ _ _) ?_
    simp; omega
end Go.Proofs.Ytbnmjhcokdhjmaa.K

set_option linter.unusedVariables false
set_option linter.unusedSimpArgs false
namespace Go.Proofs.Ytbnmjhcokdhjmaa.K
open Go.RowKit Go.Proofs.YtbnmjhcokdhjmaaW.PrintWords Go.Proofs.YtbnmjhcokdhjmaaW.PrintLast Go.Proofs.YtbnmjhcokdhjmaaW.PrintMore

theorem info2 : (Try.prog.info? 2).map (fun i => (i.zero, i.size, i.bytes)) = some (some (.int .i64 0), 1, 8) := by kernel_rfl
abbrev RI (w : World) (base : Nat) (ok : Nat → Prop) (v : Value) (xs : List Int) : Prop := Kd.R (Kd.int .i64) 2 w base ok v xs
abbrev CI (w : World) (A : Option Addr) (n : Nat) (xs : List Int) : Prop := Kd.C (Kd.int .i64) w A n xs
theorem ret_int {k : IntKind} {a b : Int} (h : a = b) : Ending.returned (.int k a) = .returned (.int k b) := by rw [h]
theorem ret_bool {a b : Bool} (h : a = b) : Ending.returned (.bool a) = .returned (.bool b) := by rw [h]
/-- Nothing was done. -/
theorem Bel.refl (w : World) : Bel w w := ⟨Below.refl _ _⟩
theorem Bel.trans {a b c : World} (h : Bel a b) (k : Bel b c) : Bel a c := step_bel.trans h k
theorem Bel.of {a b : World} (h : Below a.heap.size a b) : Bel a b := ⟨h⟩

section
variable {ops : Array Oper} {rest : List Oper} {o : Oper} {a : Act} {Q : Exit → Act → World → Prop}
/-- make([]int64, n). -/
theorem mkI {w0 W : World} (base : Nat) {ok : Nat → Prop} (hgd : o.guard = none) {N : Tmp} (hd : o.dst = some N) {x y : Operand} (ho : o.op = .makeSlice 27 x y) (n : Int) (hx : a.eval x = .int .i64 n) (hy : a.eval y = .int .i64 n)
    (h0 : 0 ≤ n) (hl : n.toNat * 8 ≤ 281474976710656) (hfresh : ok W.heap.size) (HB : Below base w0 W) (hbase : base ≤ W.heap.size)
    (h : ∀ v1 w1, RI w1 base ok v1 (List.replicate n.toNat 0) → Below base w0 w1 → W.grownBy w1 none → (∃ b, v1.ownBlock = some b ∧ W.heap.size ≤ b) → wpList Try.prog ops Q rest (a.put o.dst v1) w1) : wpList Try.prog ops Q (o :: rest) a W :=
  Kd.R_make (Kd.int .i64) base 2 hgd hd 27 x y ho n hx hy Try.underlying27 (.int .i64 0) 8 info2 rfl (by decide) (by omega) 0 (okp := fun _ => False) rfl (fun _ h => h.elim) hfresh h0 hl HB hbase h
/-- []int64{}. -/
theorem lit0 {w0 W : World} (base : Nat) {ok : Nat → Prop} (hgd : o.guard = none) {N : Tmp} (hd : o.dst = some N) (ho : o.op = .buildSlice 27 0 #[]) (hfresh : ok W.heap.size) (HB : Below base w0 W) (hbase : base ≤ W.heap.size)
    (h : ∀ v1 w1, RI w1 base ok v1 [] → Below base w0 w1 → W.grownBy w1 none → (∃ b, v1.ownBlock = some b ∧ W.heap.size ≤ b) → wpList Try.prog ops Q rest (a.put o.dst v1) w1) : wpList Try.prog ops Q (o :: rest) a W := by
  refine Kd.R_lit (Kd.int .i64) base 2 hgd hd (xs := []) (inner := []) (okp := fun _ => False) ?_ (Reps.none _ _) (fun _ h => h.elim) hfresh HB hbase (by simp) h
  unfold execOp
  rw [ho]
  go_simp
/-- out[i] = y. -/
theorem putI {w0 W : World} {base : Nat} {ok : Nat → Prop} (hN : o.dst = none) (hgd : o.guard = none) {p x : Operand} (ho : o.op = .store 2 p x) {g n cap o' : Nat} (i : Int) (xs : List Int) (y : Int)
    (haddr : a.eval p = .pointer (some ⟨g, o', none⟩)) (hoff : o' = i.toNat) (hx : a.eval x = .int .i64 y) (HO : RI W base ok (.slice (some ⟨g, 0, none⟩) n cap) xs) (h0 : 0 ≤ i) (hi : i < n) (HB : Below base w0 W)
    (h : ∀ w1, RI w1 base ok (.slice (some ⟨g, 0, none⟩) n cap) (xs.set i.toNat y) → Below base w0 w1 → W.grownBy w1 (some g) → wpList Try.prog ops Q rest a w1) : wpList Try.prog ops Q (o :: rest) a W := by
  obtain ⟨ad, hA, hc⟩ := Kd.at_int (Kd.R_reads' HO).2.2 i h0 (by have := (Kd.R_reads' HO).1; omega)
  obtain rfl := Option.some.inj hA
  rw [add_plain] at hc
  refine Kd.R_store (Kd.int .i64) base hN hgd 2 p x ho 2 i 0 xs y (.int .i64 y) [.int .i64 y] [.int .i64 (rd xs i)] ok (fun _ => False) haddr (by rw [hoff]; show i.toNat = i.toNat * 1 + 0; omega) hx rfl (by kernel_rfl) (by intro q hq; rw [List.mem_singleton.1 hq]; rfl) HO h0 hi rfl ?_ (Nat.le_refl 1) rfl (fun _ h => h.elim) HB h
  intro j u hj
  match j, hj with
  | 0, hj =>
    simp only [List.getElem?_cons_zero, Option.some.injEq] at hj
    subst hj
    show W.cell? ⟨g, i.toNat * 1 + 0, none⟩ = _
    rw [Nat.mul_one, Nat.add_zero]
    exact hc
/-- out = append(out, y). -/
theorem appI {w0 W : World} {base : Nat} {ok : Nat → Prop} (hgd : o.guard = none) {s x : Operand} (ho : o.op = .call { callee := .builtin .append, args := #[s, x], argTypes := #[27, 27] })
    (v : Value) (xs : List Int) (y : Int) (hs : a.eval s = v) (hx : a.eval x = .slice (some ⟨W.heap.size, 0, none⟩) 1 1) (hfresh : ∀ k, W.heap.size ≤ k → ok k)
    (HO : RI W base ok v xs) (HB : Below base w0 W) (hbase : base ≤ W.heap.size) (hl : xs.length < 17592186044416)
    (h : ∀ v1 w1, RI w1 base ok v1 (xs ++ [y]) → Below base w0 w1 → W.grownBy w1 v.ownBlock → (v1.ownBlock = v.ownBlock ∨ ∃ b, v1.ownBlock = some b ∧ W.heap.size ≤ b) → wpList Try.prog ops Q rest (a.put o.dst v1) w1) :
    wpList Try.prog ops Q (o :: rest) a (W.alloc (.cells #[.int .i64 y] 2)) :=
  Kd.R_append (Kd.int .i64) base hgd s x 27 2 (.int .i64 0) 8 ho Try.underlying27 info2 rfl (by decide) (by omega) v xs y [.int .i64 y] ok (fun _ => False) hs hx rfl (fun _ h => h.elim) hfresh HO HB hbase (by omega) h
end
end Go.Proofs.Ytbnmjhcokdhjmaa.K
