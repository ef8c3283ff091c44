/- A logic of symbolic states over the walk's laws: the kinds of values, what a state says of memory. Conditions: none. How a state's memory is carried along: a block written, an object made, an object left. Conditions: none. What an operation does to a state, told by a program; and that it does so. Conditions: in each. The operations on memory: what each does to a state. Conditions: in each. The operations that write, make and append. Conditions: in each. The operations that make objects and append to them. Conditions: in each. Append, lengths, places, parts of slices. Conditions: in each. -/
import Derived.WalkKit
import Derived.Orders
import Derived.Below
import Derived.Great.BuildSlice
import Derived.Maps.Range
import Derived.Sort.MapsRangeIn
import Derived.Carry
set_option linter.unusedVariables false
set_option linter.unusedSimpArgs false
set_option linter.unusedSectionVars false
namespace Go.Proofs.YthfmlelodmcgkaaGreat.V
open Go
/-! ### kinds of data -/
inductive Kn where
  | int (k : IntKind) | bool | str | sl (t : TypeId) (e : Kn) | pr (a b : Kn)
  deriving DecidableEq
abbrev Kn.T : Kn → Type
  | .int _ => Int | .bool => Bool | .str => ByteArray | .sl _ e => List e.T | .pr a b => a.T × b.T
def Kn.cells : Kn → Nat
  | .pr a b => a.cells + b.cells | .int _ => 1 | .bool => 1 | .str => 1 | .sl _ _ => 1
def Kn.dflt : (k : Kn) → k.T
  | .int _ => (0 : Int) | .bool => false | .str => ByteArray.empty | .sl _ _ => [] | .pr a b => (a.dflt, b.dflt)
def Kn.flat : Kn → Bool
  | .pr a b => a.flat && b.flat | .sl _ _ => false | _ => true
/-- A number is of its kind. -/
def okI : IntKind → Int → Prop
  | .i64, n => -9223372036854775808 ≤ n ∧ n ≤ 9223372036854775807
  | .i32, n => -2147483648 ≤ n ∧ n ≤ 2147483647
  | .i16, n => -32768 ≤ n ∧ n ≤ 32767
  | .i8, n => -128 ≤ n ∧ n ≤ 127
  | .u64, n => 0 ≤ n ∧ n ≤ 18446744073709551615
  | .u32, n => 0 ≤ n ∧ n ≤ 4294967295
  | .u16, n => 0 ≤ n ∧ n ≤ 65535
  | .u8, n => 0 ≤ n ∧ n ≤ 255
def in64 : Int → Bool
  | .ofNat m => Nat.ble m 9223372036854775807
  | .negSucc m => Nat.ble m 9223372036854775807
/-- The number of 64 bits of a sum (told so that the kernel, when it compares two of them, sticks at once: it has nothing to count down). -/
def w64 (x : Int) : Int :=
  match in64 x with
  | true => x
  | false => Int.bmod x 18446744073709551616
theorem w64_def (x : Int) : w64 x = (x + 9223372036854775808) % 18446744073709551616 - 9223372036854775808 := by
  unfold w64
  split
  · rename_i h
    cases x with
    | ofNat m =>
      have h := Nat.le_of_ble_eq_true h
      have e : Int.ofNat m = (m : Int) := rfl
      rw [e]; omega
    | negSucc m =>
      have h := Nat.le_of_ble_eq_true h
      rw [Int.negSucc_eq]; omega
  · rw [Int.bmod_def]
    split <;> omega
def wrapK : IntKind → Int → Int
  | .i64, x => w64 x
  | .u8, x => x % 256
  | k, x => k.wrap x
theorem wrapK_eq (k : IntKind) (x : Int) : wrapK k x = k.wrap x := by
  cases k <;> simp only [wrapK, w64_def, IntKind.wrap, IntKind.bits, IntKind.signed]
  all_goals simp
  split <;> omega
theorem okI_wrap (k : IntKind) (x : Int) : okI k (wrapK k x) := by
  rw [wrapK_eq]
  cases k <;> simp [okI, IntKind.wrap, IntKind.bits, IntKind.signed] <;> (try split) <;> omega
theorem okI_tmod (k : IntKind) (x y : Int) (h : okI k x) : okI k (x.tmod y) := by
  have h1 : (x.tmod y).natAbs ≤ x.natAbs := by rw [Int.natAbs_tmod]; exact Nat.mod_le _ _
  have h2 : 0 ≤ x → 0 ≤ x.tmod y := fun h => Int.tmod_nonneg _ h
  have h3 : x ≤ 0 → x.tmod y ≤ 0 := fun h => by
    have := Int.tmod_nonneg y (show 0 ≤ -x by omega)
    rw [Int.neg_tmod] at this
    omega
  cases k <;> simp only [okI] at h ⊢ <;> omega
theorem okI_shr (k : IntKind) (x : Int) (n : Nat) (h : okI k x) : okI k (x.fdiv (2 ^ n)) := by
  have hp : (0 : Int) < 2 ^ n := by exact_mod_cast Nat.two_pow_pos n
  rw [Int.fdiv_eq_ediv_of_nonneg _ (Int.le_of_lt hp)]
  have h1 : 0 ≤ x → 0 ≤ x / 2 ^ n ∧ x / 2 ^ n ≤ x := fun h0 => ⟨Int.ediv_nonneg h0 (Int.le_of_lt hp), Int.ediv_le_self _ h0⟩
  have h2 : x < 0 → x ≤ x / 2 ^ n ∧ x / 2 ^ n < 0 := fun h0 => ⟨by
    rw [Int.le_ediv_iff_mul_le hp]
    have : (1 : Int) ≤ 2 ^ n := by omega
    calc x * 2 ^ n ≤ x * 1 := Int.mul_le_mul_of_nonpos_left (by omega) this
      _ = x := Int.mul_one x, Int.ediv_neg_of_neg_of_pos h0 hp⟩
  cases k <;> simp only [okI] at h ⊢ <;> omega
def okV : Value → Prop
  | .int k n => okI k n
  | _ => True
/-- Arguments' data. -/
def HT : List Kn → Type
  | [] => Unit
  | k :: ks => k.T × HT ks
/-! ### values as a state knows them -/
inductive A where
  | undef
  | v (x : Value)
  | ro (k : Kn) (l : List k.T)
  | own (i : Nat)
  | ptr (i off : Nat)
  | elr (k : Kn) (l : List k.T) (n off : Nat)
  | elt (k : Kn) (i n off : Nat)
  | clip (k : Kn) (l : List k.T)
  | inn (i n : Nat)
  | pf (ks : List Kn) (r : Kn) (f : HT ks → Option r.T)
  | pp (ks : List Kn) (r : Kn) (f : HT ks → Option r.T)
  | fn (f : FuncId) (caps : List Nat)
inductive Cv where
  | one (a : A)
  | agg (as : List A)
inductive Rv where
  | val (c : Cv)
  | tup (cs : List Cv)
abbrev Rv.one (a : A) : Rv := .val (.one a)
inductive Obj' where
  | row (t : TypeId) (k : Kn) (l : List k.T)
  | fz (k : Kn) (l : List k.T)
  | fb (k : Kn) (x : k.T)
  | fp (ks : List Kn) (r : Kn) (f : HT ks → Option r.T)
  | box (t : TypeId) (as : List A)
  | drow (t : TypeId) (k : Kn) (l : List k.T)
  | hole (t : TypeId) (k : Kn) (l : List k.T) (n off j : Nat)
  | part (t : TypeId) (k : Kn) (l : List k.T) (m : Nat)
  | mp (t : TypeId) (e : Kn) (z : e.T) (l : List (ByteArray × e.T))
  | mit (e : Kn) (l : List (ByteArray × e.T)) (cur : Option (ByteArray × e.T))
  | dead
def Obj'.live : Obj' → Bool
  | .row .. => true | .box .. => true | .drow .. => true | .hole .. => true | .part .. => true | .mp .. => true | .mit .. => true | _ => false
/-- What the state's names stand for. -/
structure Env where
  w : World
  F : Nat → Prop
  σ : Nat → Value
  D : Nat → Prop
  φ : Nat → Nat → Prop
  ι : Nat → Nat → Value
def All2 {α β : Type} (R : α → β → Prop) : List α → List β → Prop
  | [], [] => True
  | a :: as, b :: bs => R a b ∧ All2 R as bs
  | _, _ => False
theorem All2.imp {α β : Type} {R R' : α → β → Prop} (h : ∀ a b, R a b → R' a b) : ∀ {as : List α} {bs : List β}, All2 R as bs → All2 R' as bs
  | [], [], _ => trivial
  | _ :: _, _ :: _, ⟨h1, h2⟩ => ⟨h _ _ h1, All2.imp h h2⟩
theorem All2.length {α β : Type} {R : α → β → Prop} : ∀ {as : List α} {bs : List β}, All2 R as bs → as.length = bs.length
  | [], [], _ => rfl
  | _ :: _, _ :: _, ⟨_, h2⟩ => by simp [All2.length h2]
theorem All2.append {α β : Type} {R : α → β → Prop} : ∀ {as as' : List α} {bs bs' : List β}, All2 R as bs → All2 R as' bs' → All2 R (as ++ as') (bs ++ bs')
  | [], _, [], _, _, h => h
  | _ :: _, _, _ :: _, _, ⟨h1, h2⟩, h => ⟨h1, All2.append h2 h⟩
theorem All2.take {α β : Type} {R : α → β → Prop} : ∀ (n : Nat) {as : List α} {bs : List β}, All2 R as bs → All2 R (as.take n) (bs.take n)
  | 0, _, _, _ => by simp [All2]
  | n + 1, [], [], _ => by simp [All2]
  | n + 1, _ :: _, _ :: _, ⟨h1, h2⟩ => ⟨h1, All2.take n h2⟩
theorem All2.drop {α β : Type} {R : α → β → Prop} : ∀ (n : Nat) {as : List α} {bs : List β}, All2 R as bs → All2 R (as.drop n) (bs.drop n)
  | 0, _, _, h => h
  | n + 1, [], [], _ => by simp [All2]
  | n + 1, _ :: _, _ :: _, ⟨h1, h2⟩ => All2.drop n h2
theorem All2.get {α β : Type} {R : α → β → Prop} : ∀ {as : List α} {bs : List β}, All2 R as bs → ∀ (i : Nat) (a : α), as[i]? = some a → ∃ b, bs[i]? = some b ∧ R a b
  | [], [], _, i, a, h => by simp at h
  | x :: _, y :: _, ⟨h1, h2⟩, 0, a, h => ⟨y, rfl, by simp at h; exact h ▸ h1⟩
  | _ :: _, _ :: _, ⟨h1, h2⟩, i + 1, a, h => by simp at h; simpa using All2.get h2 i a h
/-- A slice that reads as a list, out of blocks of F. -/
def RO {α : Type} (F : Nat → Prop) (w : World) (R : α → List Value → Prop) (sz : Nat) (l : List α) (u : Value) : Prop :=
  ∃ ad c, u = .slice ad l.length c ∧ l.length ≤ c ∧ l.length ≤ maxLen ∧ ∀ j (h : j < l.length), ∃ b o cs, ad = some ⟨b, o, none⟩ ∧ F b ∧ R l[j] cs ∧ cs.length = sz ∧
    ∀ i (hi : i < cs.length), w.cell? ⟨b, o + (j * sz + i), none⟩ = some cs[i]
def Rep (F : Nat → Prop) (w : World) : (k : Kn) → k.T → List Value → Prop
  | .int k, x, cs => cs = [.int k x] ∧ okI k x
  | .bool, b, cs => cs = [.bool b]
  | .str, s, cs => cs = [.string s]
  | .sl _ e, l, cs => ∃ u, cs = [u] ∧ RO F w (Rep F w e) e.cells l u
  | .pr a b, p, cs => ∃ c1 c2, cs = c1 ++ c2 ∧ Rep F w a p.1 c1 ∧ Rep F w b p.2 c2
theorem Rep.length {F : Nat → Prop} {w : World} : ∀ {k : Kn} {x : k.T} {cs : List Value}, Rep F w k x cs → cs.length = k.cells
  | .int _, _, _, h => by rw [h.1]; rfl
  | .bool, _, _, h => by rw [h]; rfl
  | .str, _, _, h => by rw [h]; rfl
  | .sl _ _, _, _, ⟨u, h, _⟩ => by rw [h]; rfl
  | .pr a b, _, _, ⟨c1, c2, h, h1, h2⟩ => by rw [h, List.length_append, h1.length, h2.length]; rfl
theorem RO.mono {α : Type} {F F' : Nat → Prop} {w w' : World} {R R' : α → List Value → Prop} {sz : Nat} {l : List α} {u : Value} (h : RO F w R sz l u)
    (hF : ∀ b, F b → b < w.heap.size → F' b) (hw : ∀ b, F b → w'.heap[b]? = w.heap[b]?) (hR : ∀ x cs, R x cs → R' x cs) (h0 : 0 < sz) : RO F' w' R' sz l u := by
  obtain ⟨ad, c, h1, h2, h3, h4⟩ := h
  refine ⟨ad, c, h1, h2, h3, fun j hj => ?_⟩
  obtain ⟨b, o, cs, h5, h6, h7, h8, h9⟩ := h4 j hj
  have h10 := h9 0 (by omega)
  exact ⟨b, o, cs, h5, hF b h6 (World.block_lt_of_cell? w _ h10), hR _ _ h7, h8, fun i hi => (World.cell?_of_block (hw b h6)).trans (h9 i hi)⟩
theorem Kn.cells_pos : ∀ k : Kn, 0 < k.cells
  | .int _ => by simp [Kn.cells]
  | .bool => by simp [Kn.cells]
  | .str => by simp [Kn.cells]
  | .sl _ _ => by simp [Kn.cells]
  | .pr a b => by have := a.cells_pos; simp [Kn.cells]; omega
theorem Rep.mono {F F' : Nat → Prop} {w w' : World} (hF : ∀ b, F b → b < w.heap.size → F' b) (hw : ∀ b, F b → w'.heap[b]? = w.heap[b]?) : ∀ {k : Kn} {x : k.T} {cs : List Value}, Rep F w k x cs → Rep F' w' k x cs
  | .int _, _, _, h => h
  | .bool, _, _, h => h
  | .str, _, _, h => h
  | .sl _ e, _, _, ⟨u, h, h1⟩ => ⟨u, h, h1.mono hF hw (fun _ _ h => Rep.mono hF hw h) e.cells_pos⟩
  | .pr a b, _, _, ⟨c1, c2, h, h1, h2⟩ => ⟨c1, c2, h, Rep.mono hF hw h1, Rep.mono hF hw h2⟩
theorem Rep.flat {F F' : Nat → Prop} {w w' : World} : ∀ {k : Kn} {x : k.T} {cs : List Value}, k.flat = true → Rep F w k x cs → Rep F' w' k x cs
  | .int _, _, _, _, h => h
  | .bool, _, _, _, h => h
  | .str, _, _, _, h => h
  | .pr a b, _, _, hf, ⟨c1, c2, h, h1, h2⟩ => by
    simp only [Kn.flat, Bool.and_eq_true] at hf
    exact ⟨c1, c2, h, Rep.flat hf.1 h1, Rep.flat hf.2 h2⟩
/-- The cells of a list's elements. -/
def Reps (F : Nat → Prop) (w : World) (k : Kn) : List k.T → List Value → Prop
  | [], cs => cs = []
  | x :: l, cs => ∃ c1 c2, cs = c1 ++ c2 ∧ Rep F w k x c1 ∧ Reps F w k l c2
theorem Reps.imp {F F' : Nat → Prop} {w w' : World} {k : Kn} (h : ∀ x cs, Rep F w k x cs → Rep F' w' k x cs) : ∀ {l : List k.T} {cs : List Value}, Reps F w k l cs → Reps F' w' k l cs
  | [], _, h0 => h0
  | _ :: _, _, ⟨c1, c2, h0, h1, h2⟩ => ⟨c1, c2, h0, h _ _ h1, Reps.imp h h2⟩
theorem Reps.length {F : Nat → Prop} {w : World} {k : Kn} : ∀ {l : List k.T} {cs : List Value}, Reps F w k l cs → cs.length = l.length * k.cells
  | [], _, h => by rw [h]; simp
  | _ :: l, _, ⟨c1, c2, h, h1, h2⟩ => by rw [h, List.length_append, h1.length, Reps.length h2, List.length_cons, Nat.add_mul]; omega
theorem Reps.append {F : Nat → Prop} {w : World} {k : Kn} : ∀ {l m : List k.T} {cs ds : List Value}, Reps F w k l cs → Reps F w k m ds → Reps F w k (l ++ m) (cs ++ ds)
  | [], _, _, _, h, h' => by rw [h]; simpa using h'
  | _ :: _, _, _, _, ⟨c1, c2, h, h1, h2⟩, h' => ⟨c1, c2 ++ _, by rw [h, List.append_assoc], h1, Reps.append h2 h'⟩
theorem Reps.get {F : Nat → Prop} {w : World} {k : Kn} : ∀ {l : List k.T} {cs : List Value}, Reps F w k l cs → ∀ j (hj : j < l.length), ∃ c, Rep F w k l[j] c ∧ c.length = k.cells ∧ ∀ i, i < k.cells → cs[j * k.cells + i]? = c[i]?
  | [], _, _, j, hj => by simp at hj
  | x :: l, _, ⟨c1, c2, h, h1, h2⟩, 0, hj => ⟨c1, h1, h1.length, fun i hi => by rw [h, List.getElem?_append_left (by rw [h1.length]; omega)]; simp⟩
  | x :: l, _, ⟨c1, c2, h, h1, h2⟩, j + 1, hj => by
    obtain ⟨c, h3, h4, h5⟩ := Reps.get h2 j (by simpa using hj)
    refine ⟨c, h3, h4, fun i hi => ?_⟩
    rw [h, List.getElem?_append_right (by rw [h1.length, Nat.add_mul]; omega), h1.length, ← h5 i hi]
    congr 1
    rw [Nat.add_mul]; omega
theorem Reps.set {F : Nat → Prop} {w : World} {k : Kn} {y : k.T} {ds : List Value} (hy : Rep F w k y ds) : ∀ {l : List k.T} {cs : List Value}, Reps F w k l cs → ∀ j, j < l.length → Reps F w k (l.set j y) (cs.take (j * k.cells) ++ ds ++ cs.drop (j * k.cells + k.cells))
  | [], _, _, j, hj => by simp at hj
  | x :: l, _, ⟨c1, c2, h, h1, h2⟩, 0, _ => ⟨ds, c2, by rw [h]; simp [← h1.length], hy, h2⟩
  | x :: l, _, ⟨c1, c2, h, h1, h2⟩, j + 1, hj => by
    refine ⟨c1, _, ?_, h1, Reps.set hy h2 j (by simpa using hj)⟩
    have e : (j + 1) * k.cells = c1.length + j * k.cells := by rw [h1.length, Nat.add_mul]; omega
    rw [h, e, Nat.add_assoc, List.take_length_add_append, List.drop_length_add_append]
    simp
/-- A value of a kind. -/
def RepV (F : Nat → Prop) (w : World) (k : Kn) (x : k.T) (v : Value) : Prop :=
  Rep F w k x v.cells.toList ∧ match k with | .pr _ _ => ∃ cs, v = .agg cs | _ => v.oneCell' = true
def RepVs (F : Nat → Prop) (w : World) : (ks : List Kn) → HT ks → List Value → Prop
  | [], _, vs => vs = []
  | k :: ks, x, vs => ∃ v r, vs = v :: r ∧ RepV F w k x.1 v ∧ RepVs F w ks x.2 r
/-- A function value's call. -/
def EntB (P : Program) (f : FuncId) : Prop := ∃ fn, P.funcs[f]? = some fn ∧ (fn.name == "runtime.NumGoroutine") = false ∧ fn.body.isSome = true
theorem EntB.enter {P : Program} {f : FuncId} (h : EntB P f) (args : Array Value) (w : World) : (callFunc f args).run P w = .ok (.enter f args) w := by
  obtain ⟨fn, hf, hn, hb⟩ := h
  have h1 : ¬ (fn.name = "runtime.NumGoroutine") := by simpa using hn
  obtain ⟨c, hc⟩ := Option.isSome_iff_exists.1 hb
  simp [callFunc, hf, h1, hc]
def RunsV (P : Program) (fv : Value) (args : List Value) (w : World) (Q : Ending → World → Prop) : Prop :=
  ∃ f first cap, fv = .func (.func f) first cap ∧ EntB P f ∧ Calls P f (first ++ args.toArray ++ cap) w Q
/-- A function value that only reckons. -/
def PFun (P : Program) (F : Nat → Prop) (w : World) (ks : List Kn) (r : Kn) (f : HT ks → Option r.T) (u : Value) : Prop :=
  ∀ (w' : World) (F' : Nat → Prop), (∀ b, F b → w'.heap[b]? = w.heap[b]?) → (∀ b, F b → F' b) → (∀ b, F' b → b < w'.heap.size) → ∀ (xs : HT ks) (y : r.T) (vs : List Value), RepVs F' w' ks xs vs → f xs = some y →
    RunsV P u vs w' fun e w'' => ∃ v F'', e = .returned v ∧ RepV F'' w'' r y v ∧ w'.grownBy w'' none ∧ (∀ b, F' b → F'' b) ∧ (∀ b, F'' b → F' b ∨ (w'.heap.size ≤ b ∧ b < w''.heap.size))
/-- A pointer to a function value that only reckons. -/
def PPtr (P : Program) (F : Nat → Prop) (w : World) (ks : List Kn) (r : Kn) (f : HT ks → Option r.T) (u : Value) : Prop :=
  ∃ b v, u = .pointer (some ⟨b, 0, none⟩) ∧ F b ∧ w.cell? ⟨b, 0, none⟩ = some v ∧ v.oneCell' = true ∧ PFun P F w ks r f v
/-- A value as the state knows it. -/
def AV (P : Program) (E : Env) : A → Value → Prop
  | .undef, _ => True
  | .v x, u => u = x ∧ okV x
  | .ro k l, u => RO E.F E.w (Rep E.F E.w k) k.cells l u
  | .own i, u => E.D i ∧ u = E.σ i
  | .ptr i off, u => E.D i ∧ ∃ b, E.σ i = .pointer (some ⟨b, 0, none⟩) ∧ u = .pointer (some ⟨b, off, none⟩)
  | .elr k l n off, u => n < l.length ∧ ∃ b o c, RO E.F E.w (Rep E.F E.w k) k.cells l (.slice (some ⟨b, o, none⟩) l.length c) ∧ u = .pointer (some ⟨b, o + (n * k.cells + off), none⟩)
  | .elt k i n off, u => E.D i ∧ ∃ b len c, E.σ i = .slice (some ⟨b, 0, none⟩) len c ∧ n < len ∧ u = .pointer (some ⟨b, n * k.cells + off, none⟩)
  | .clip k l, u => RO E.F E.w (Rep E.F E.w k) k.cells l u ∧ ∃ ad, u = .slice ad l.length l.length
  | .inn i n, u => E.D i ∧ u = E.ι i n
  | .pf ks r f, u => PFun P E.F E.w ks r f u
  | .pp ks r f, u => PPtr P E.F E.w ks r f u
  | .fn f caps, u => ∃ us : List Value, u = .func (.func f) #[] us.toArray ∧ All2 (fun i x => E.D i ∧ (∃ b, E.σ i = .pointer (some ⟨b, 0, none⟩)) ∧ x = E.σ i) caps us
def CV (P : Program) (E : Env) : Cv → Value → Prop
  | .one a, u => AV P E a u ∧ u.oneCell' = true
  | .agg as, u => ∃ us : List Value, u = .agg us.toArray ∧ All2 (AV P E) as us ∧ ∀ x ∈ us, x.oneCell' = true
def RV (P : Program) (E : Env) : Rv → Value → Prop
  | .val (.one .undef), _ => True
  | .val c, u => CV P E c u
  | .tup cs, u => ∃ us : List Value, u = .tuple us.toArray ∧ All2 (CV P E) cs us
/-- What an elder environment knows stands in a younger one. -/
structure Env.le (E E' : Env) : Prop where
  F : ∀ b, E.F b → E'.F b
  w : ∀ b, E.F b → E'.w.heap[b]? = E.w.heap[b]?
  D : ∀ i, E.D i → E'.D i
  σ : ∀ i, E.D i → E'.σ i = E.σ i
  ι : ∀ i, E.D i → E'.ι i = E.ι i
theorem Env.le.refl (E : Env) : E.le E := ⟨fun _ h => h, fun _ _ => rfl, fun _ h => h, fun _ _ => rfl, fun _ _ => rfl⟩
theorem Env.le.trans {E E' E'' : Env} (h : E.le E') (k : E'.le E'') : E.le E'' :=
  ⟨fun b hb => k.F b (h.F b hb), fun b hb => (k.w b (h.F b hb)).trans (h.w b hb), fun i hi => k.D i (h.D i hi), fun i hi => (k.σ i (h.D i hi)).trans (h.σ i hi), fun i hi => (k.ι i (h.D i hi)).trans (h.ι i hi)⟩
theorem PFun.mono {P : Program} {F F' : Nat → Prop} {w w1 : World} {ks : List Kn} {r : Kn} {f : HT ks → Option r.T} {u : Value} (hF : ∀ b, F b → F' b) (hw : ∀ b, F b → w1.heap[b]? = w.heap[b]?) (h : PFun P F w ks r f u) : PFun P F' w1 ks r f u :=
  fun w' G h1 h2 h3 => h w' G (fun b hb => (h1 b (hF b hb)).trans (hw b hb)) (fun b hb => h2 b (hF b hb)) h3
theorem PPtr.mono {P : Program} {F F' : Nat → Prop} {w w1 : World} {ks : List Kn} {r : Kn} {f : HT ks → Option r.T} {u : Value} (hF : ∀ b, F b → F' b) (hw : ∀ b, F b → w1.heap[b]? = w.heap[b]?) (h : PPtr P F w ks r f u) : PPtr P F' w1 ks r f u := by
  obtain ⟨b, v, h1, h2, h3, h4, h5⟩ := h
  exact ⟨b, v, h1, hF b h2, (World.cell?_of_block (hw b h2)).trans h3, h4, PFun.mono hF hw h5⟩
theorem AV.mono {P : Program} {E E' : Env} (h : E.le E') : ∀ {a : A} {u : Value}, AV P E a u → AV P E' a u
  | .undef, _, _ => trivial
  | .v _, _, h1 => h1
  | .ro k l, _, h1 => RO.mono h1 (fun b hb _ => h.F b hb) h.w (fun _ _ h2 => Rep.mono (fun b hb _ => h.F b hb) h.w h2) k.cells_pos
  | .own i, _, ⟨h1, h2⟩ => ⟨h.D i h1, by rw [h.σ i h1]; exact h2⟩
  | .ptr i off, _, ⟨h1, h2⟩ => ⟨h.D i h1, by rw [h.σ i h1]; exact h2⟩
  | .elr k l n off, _, ⟨h0, b, o, c, h1, h2⟩ => ⟨h0, b, o, c, RO.mono h1 (fun b hb _ => h.F b hb) h.w (fun _ _ h2 => Rep.mono (fun b hb _ => h.F b hb) h.w h2) k.cells_pos, h2⟩
  | .elt k i n off, _, ⟨h1, h2⟩ => ⟨h.D i h1, by rw [h.σ i h1]; exact h2⟩
  | .clip k l, _, ⟨h1, h3⟩ => ⟨RO.mono h1 (fun b hb _ => h.F b hb) h.w (fun _ _ h2 => Rep.mono (fun b hb _ => h.F b hb) h.w h2) k.cells_pos, h3⟩
  | .inn i n, _, ⟨h1, h2⟩ => ⟨h.D i h1, by rw [h.ι i h1]; exact h2⟩
  | .pf ks r f, _, h1 => PFun.mono h.F h.w h1
  | .pp ks r f, _, h1 => PPtr.mono h.F h.w h1
  | .fn f caps, _, ⟨us, h1, h2⟩ => ⟨us, h1, h2.imp (fun i x ⟨h3, h4, h5⟩ => ⟨h.D i h3, by rw [h.σ i h3]; exact h4, by rw [h.σ i h3]; exact h5⟩)⟩
theorem CV.mono {P : Program} {E E' : Env} (h : E.le E') : ∀ {c : Cv} {u : Value}, CV P E c u → CV P E' c u
  | .one _, _, h1 => ⟨AV.mono h h1.1, h1.2⟩
  | .agg _, _, ⟨us, h1, h2, h3⟩ => ⟨us, h1, h2.imp (fun _ _ h4 => AV.mono h h4), h3⟩
theorem RV.mono {P : Program} {E E' : Env} (h : E.le E') {r : Rv} {u : Value} (h1 : RV P E r u) : RV P E' r u := by
  rcases r with (a | as) | cs
  · cases a <;> first | trivial | exact CV.mono h (c := .one _) h1
  · exact CV.mono h (c := .agg _) h1
  · obtain ⟨us, h2, h3⟩ := h1
    exact ⟨us, h2, h3.imp (fun _ _ h4 => CV.mono h h4)⟩
def blkOf : Value → Option Nat
  | .slice (some a) _ _ => some a.block
  | .pointer (some a) => some a.block
  | .map (some r) => some r
  | _ => none
/-- Data whose rows are all an object's own: φ its blocks. -/
def DR {α : Type} (R : (Nat → Prop) → α → List Value → Prop) : (Nat → Prop) → List α → List Value → Prop
  | φ, [], cs => cs = [] ∧ ∀ b, ¬ φ b
  | φ, x :: l, cs => ∃ c1 c2 φ1 φ2, cs = c1 ++ c2 ∧ R φ1 x c1 ∧ DR R φ2 l c2 ∧ (∀ b, φ b ↔ φ1 b ∨ φ2 b) ∧ ∀ b, φ1 b → ¬ φ2 b
def DRep (w : World) : (k : Kn) → (Nat → Prop) → k.T → List Value → Prop
  | .int k, φ, x, cs => cs = [.int k x] ∧ okI k x ∧ ∀ b, ¬ φ b
  | .bool, φ, b, cs => cs = [.bool b] ∧ ∀ b, ¬ φ b
  | .str, φ, s, cs => cs = [.string s] ∧ ∀ b, ¬ φ b
  | .sl t e, φ, l, cs => ∃ u xs φ', cs = [u] ∧ w.ownsRow 0 t e.cells u l.length xs ∧ DR (DRep w e) φ' l xs ∧ l.length ≤ maxLen ∧ (∀ b, φ b ↔ blkOf u = some b ∨ φ' b) ∧ ∀ b, blkOf u = some b → ¬ φ' b
  | .pr a b, φ, p, cs => ∃ c1 c2 φ1 φ2, cs = c1 ++ c2 ∧ DRep w a φ1 p.1 c1 ∧ DRep w b φ2 p.2 c2 ∧ (∀ b, φ b ↔ φ1 b ∨ φ2 b) ∧ ∀ b, φ1 b → ¬ φ2 b
/-- Data as DRep, but the row at a place is another's: its value is v. -/
def DRepH (w : World) : (k : Kn) → Nat → Value → (Nat → Prop) → k.T → List Value → Prop
  | .sl _ _, off, v, φ, _, cs => off = 0 ∧ cs = [v] ∧ ∀ b, ¬ φ b
  | .pr a b, off, v, φ, p, cs => ∃ c1 c2 φ1 φ2, cs = c1 ++ c2 ∧ ((off < a.cells ∧ DRepH w a off v φ1 p.1 c1 ∧ DRep w b φ2 p.2 c2) ∨ (a.cells ≤ off ∧ DRep w a φ1 p.1 c1 ∧ DRepH w b (off - a.cells) v φ2 p.2 c2)) ∧ (∀ b, φ b ↔ φ1 b ∨ φ2 b) ∧ ∀ b, φ1 b → ¬ φ2 b
  | _, _, _, _, _, _ => False
def DRH {α : Type} (R RH : (Nat → Prop) → α → List Value → Prop) : (Nat → Prop) → List α → Nat → List Value → Prop
  | _, [], _, _ => False
  | φ, x :: l, 0, cs => ∃ c1 c2 φ1 φ2, cs = c1 ++ c2 ∧ RH φ1 x c1 ∧ DR R φ2 l c2 ∧ (∀ b, φ b ↔ φ1 b ∨ φ2 b) ∧ ∀ b, φ1 b → ¬ φ2 b
  | φ, x :: l, n + 1, cs => ∃ c1 c2 φ1 φ2, cs = c1 ++ c2 ∧ R φ1 x c1 ∧ DRH R RH φ2 l n c2 ∧ (∀ b, φ b ↔ φ1 b ∨ φ2 b) ∧ ∀ b, φ1 b → ¬ φ2 b
/-! ### maps whose keys are texts -/
def hR (v : Value) : Option (DataW Value × List MemPlace) := some (.held v, [])
def keyL (s : ByteArray) : Lit := .string s.data.toList
/-- What a map's entries are at a key. -/
def mOf : List (ByteArray × Value) → Lit → Option Value
  | [], _ => none
  | p :: r, kl => match kl.sameKey (keyL p.1) with | true => some p.2 | false => mOf r kl
def Ents (F : Nat → Prop) (w : World) (e : Kn) (l : List (ByteArray × e.T)) (ps : List (ByteArray × Value)) : Prop := All2 (fun p q => p.1 = q.1 ∧ RepV F w e p.2 q.2) l ps
def Holds' (D : DataW Value) (ps : List (ByteArray × Value)) : Prop := ∀ kl v, WideAt.IsKeyLit kl → mOf ps kl = some v → ∀ z, D.atKey kl z = .held v
def CurOk (P : Program) (F : Nat → Prop) (w : World) (e : Kn) (r : Nat) : Option (ByteArray × e.T) → Prop
  | none => True
  | some p => ∃ v, (Instr.entry (.pointer (some ⟨r, 0, none⟩))).run P w = .ok (.tuple #[.string p.1, v]) w ∧ RepV F w e p.2 v
/-- An object of the state in memory: its value, its blocks, its cells' values. -/
def OSat (P : Program) (E : Env) (u : Value) (φ : Nat → Prop) (ι : Nat → Value) : Obj' → Prop
  | .row t k l => ∃ xs, E.w.ownsRow 0 t k.cells u l.length xs ∧ Reps E.F E.w k l xs ∧ l.length ≤ maxLen ∧ ∀ b, φ b ↔ blkOf u = some b
  | .fz k l => RO E.F E.w (Rep E.F E.w k) k.cells l u
  | .fp ks r f => PPtr P E.F E.w ks r f u
  | .fb k x => ∃ b, u = .pointer (some ⟨b, 0, none⟩) ∧ RO E.F E.w (Rep E.F E.w k) k.cells [x] (.slice (some ⟨b, 0, none⟩) 1 1)
  | .box t as => ∃ b us, u = .pointer (some ⟨b, 0, none⟩) ∧ E.w.heap[b]? = some (.cells (us : List Value).toArray t (0, 0)) ∧ All2 (AV P E) as us ∧ (∀ x ∈ us, x.oneCell' = true) ∧ ∀ c, φ c ↔ blkOf u = some c
  | .drow t k l => ∃ xs φ', E.w.ownsRow 0 t k.cells u l.length xs ∧ DR (DRep E.w k) φ' l xs ∧ l.length ≤ maxLen ∧ (∀ b, φ b ↔ blkOf u = some b ∨ φ' b) ∧ ∀ b, blkOf u = some b → ¬ φ' b
  | .hole t k l n off j => ∃ xs φ', E.w.ownsRow 0 t k.cells u l.length xs ∧ E.D j ∧ DRH (DRep E.w k) (DRepH E.w k off (E.σ j)) φ' l n xs ∧ l.length ≤ maxLen ∧ (∀ b, φ b ↔ blkOf u = some b ∨ φ' b) ∧ ∀ b, blkOf u = some b → ¬ φ' b
  | .part t k l m => ∃ xs φ', E.w.ownsRow 0 t k.cells u l.length xs ∧ DR (DRep E.w k) φ' (l.drop m) (xs.drop (m * k.cells)) ∧ l.length ≤ maxLen ∧ (∀ b, φ b ↔ blkOf u = some b ∨ φ' b) ∧ ∀ b, blkOf u = some b → ¬ φ' b
  | .mp t e z l => ∃ b kt et zv D ps, u = .map (some b) ∧ P.underlying t = some (.map kt et) ∧ P.underlying kt = some .string ∧ E.w.ownsMap P kt hR b l.length D ∧ Maps.size D = l.length ∧
    (∀ kl, WideAt.IsKeyLit kl → Maps.has D kl = (mOf ps kl).isSome) ∧ Holds' D ps ∧ Ents E.F E.w e l ps ∧ (l.map (·.1)).Nodup ∧ (∀ w, (zeroValue et).run P w = .ok zv w) ∧ RepV E.F E.w e z zv ∧ ∀ c, φ c ↔ blkOf u = some c
  | .mit e l cur => ∃ b r kt n D left cnt ps, u = .pointer (some ⟨r, 0, none⟩) ∧ P.underlying kt = some .string ∧ E.w.ranges P kt hR b r n D left cnt ∧ (∀ kl, WideAt.IsKeyLit kl → left kl = (mOf ps kl).isSome) ∧ Holds' D ps ∧
    Ents E.F E.w e l ps ∧ (l.map (·.1)).Nodup ∧ CurOk P E.F E.w e r cur ∧ ∀ c, φ c ↔ c = b ∨ c = r
  | .dead => True
/-- The world that a call began in, the blocks that do not change, the blocks that it may write, the objects that came in. -/
structure Ctx where
  w : World
  F : Nat → Prop
  O : Nat → Prop
  D : Nat → Prop
  σ : Nat → Value
  ι : Nat → Nat → Value
def lk {α : Type} : List (Nat × α) → Nat → Option α
  | [], _ => none
  | (j, x) :: r, i => match Nat.beq j i with | true => some x | false => lk r i
theorem lk_same {α : Type} (i : Nat) (x : α) (r : List (Nat × α)) : lk ((i, x) :: r) i = some x := by simp [lk]
theorem lk_ne {α : Type} {i j : Nat} (x : α) (r : List (Nat × α)) (h : j ≠ i) : lk ((j, x) :: r) i = lk r i := by
  have : Nat.beq j i = false := by rw [← Bool.not_eq_true, Nat.beq_eq]; exact h
  simp [lk, this]
/-- Memory as the state knows it. -/
structure Inv (P : Program) (X : Ctx) (os : List (Nat × Obj')) (E : Env) : Prop where
  dom : ∀ i, E.D i ↔ (lk os i).isSome = true
  obj : ∀ i o, lk os i = some o → OSat P E (E.σ i) (E.φ i) (E.ι i) o
  dis : ∀ i j o o', i ≠ j → lk os i = some o → lk os j = some o' → o.live = true → o'.live = true → ∀ b, E.φ i b → ¬ E.φ j b
  nof : ∀ i o, lk os i = some o → o.live = true → ∀ b, E.φ i b → ¬ E.F b ∧ (X.w.heap.size ≤ b ∨ X.O b)
  flt : ∀ b, E.F b → b < E.w.heap.size
  fsub : ∀ b, E.F b → X.F b ∨ X.w.heap.size ≤ b ∨ X.O b
  fsup : ∀ b, X.F b → E.F b
  os : E.w.os = X.w.os
  tape : E.w.tape = X.w.tape
  output : E.w.output = X.w.output
  size : X.w.heap.size ≤ E.w.heap.size
  frm : ∀ b, b < X.w.heap.size → ¬ X.O b → E.w.heap[b]? = X.w.heap[b]?
  pin : ∀ i, X.D i → i < 16
  par : ∀ i, X.D i → E.D i → E.σ i = X.σ i ∧ E.ι i = X.ι i
/-- A state: registers, objects. -/
structure S where
  n : Nat
  rs : List (Nat × Rv)
  os : List (Nat × Obj')
def S.ρ (s : S) (t : Nat) : Rv := match lk s.rs t with | some r => r | none => .val (.one .undef)
structure Regs (P : Program) (E : Env) (n : Nat) (ρ : Nat → Rv) (a : Act) : Prop where
  defers : a.defers = []
  size : a.tmps.size = n
  reg : ∀ t, RV P E (ρ t) (a.tmps.getD t undef)
def Sat (P : Program) (X : Ctx) (s : S) (a : Act) (w : World) : Prop := ∃ E, E.w = w ∧ Inv P X s.os E ∧ Regs P E s.n s.ρ a
/-- The words of operations: what they read, make, owe. -/
inductive M where
  | ret (r : Rv)
  | need (p : Prop) (k : M)
  | br (b : Bool) (k1 k2 : M)
  | get (i : Nat) (k : Obj' → M)
  | put (i : Nat) (o : Obj') (k : M)
  | new (i : Nat) (o : Obj') (k : M)
  | all (n : Nat) (k : Nat → M)
  | any (p : List Int → Prop) (k : List Int → M)
  | fail
def brB : Bool → Prop → Prop → Prop
  | true, p, _ => p
  | false, _, q => q
theorem brB_intro {b : Bool} {p q : Prop} (h1 : b = true → p) (h2 : b = false → q) : brB b p q := by
  cases b
  · exact h2 rfl
  · exact h1 rfl
def M.run : M → List (Nat × Obj') → (Rv → List (Nat × Obj') → Prop) → Prop
  | .ret r, os, K => K r os
  | .need p k, os, K => p ∧ k.run os K
  | .br b k1 k2, os, K => brB b (k1.run os K) (k2.run os K)
  | .get i k, os, K => match lk os i with | some o => (k o).run os K | none => False
  | .put i o k, os, K => match lk os i with | some _ => k.run ((i, o) :: os) K | none => False
  | .new i o k, os, K => match lk os i with | none => k.run ((i, o) :: os) K | some _ => False
  | .all n k, os, K => ∀ j, j < n → (k j).run os K
  | .any p k, os, K => ∀ x, p x → (k x).run os K
  | .fail, _, _ => False
/-- What a function tells of its arguments: results, and objects (named 0, 1, ..: those that came in, then those that it makes). -/
inductive Tree where
  | ret (r : Rv) (os : List Obj')
  | need (p : Prop) (k : Tree)
  | br (b : Bool) (k1 k2 : Tree)
  | any (p : List Int → Prop) (k : List Int → Tree)
  | fail
def Tree.run : Tree → (Rv → List Obj' → Prop) → Prop
  | .ret r os, K => K r os
  | .need p k, K => p ∧ k.run K
  | .br b k1 k2, K => brB b (k1.run K) (k2.run K)
  | .any p k, K => ∀ x, p x → (k x).run K
  | .fail, _ => False
def numb {α : Type} : Nat → List α → List (Nat × α)
  | _, [] => []
  | n, x :: r => (n, x) :: numb (n + 1) r
/-- A function's contract: whatever it is called with, it comes to what its tree tells. -/
def Good (P : Program) (f : FuncId) (sp : List Cv → List Obj' → Tree) : Prop :=
  ∀ (E0 : Env) (cs : List Cv) (os0 : List Obj') (vs : List Value) (K : Rv → List Obj' → Prop),
    (∀ b, E0.F b → b < E0.w.heap.size) → (∀ j, E0.D j ↔ j < os0.length) → os0.length ≤ 16 → (∀ j (h : j < os0.length), OSat P E0 (E0.σ j) (E0.φ j) (E0.ι j) os0[j] ∧ os0[j].live = true) →
    (∀ i j, i < os0.length → j < os0.length → i ≠ j → ∀ b, E0.φ i b → ¬ E0.φ j b) → (∀ j, j < os0.length → ∀ b, E0.φ j b → ¬ E0.F b) →
    All2 (CV P E0) cs vs → (sp cs os0).run K →
    Calls P f vs.toArray E0.w fun e w' => ∃ r u os E, e = .returned u ∧ K r os ∧ os0.length ≤ os.length ∧ E.w = w' ∧ Inv P ⟨E0.w, E0.F, fun b => ∃ j, j < os0.length ∧ E0.φ j b, E0.D, E0.σ, E0.ι⟩ (numb 0 os) E ∧ RV P E r u
end Go.Proofs.YthfmlelodmcgkaaGreat.V

set_option linter.unusedVariables false
set_option linter.unusedSimpArgs false
set_option linter.unusedSectionVars false
namespace Go.Proofs.YthfmlelodmcgkaaGreat.V
open Go
theorem ownsRow_move {w w1 : World} {base : Nat} {e : TypeId} {size n : Nat} {v : Value} {xs : List Value} (h : w.ownsRow base e size v n xs) (hm : ∀ k, blkOf v = some k → w1.heap[k]? = w.heap[k]?) : w1.ownsRow base e size v n xs := by
  obtain ⟨h1, h2⟩ := h
  refine ⟨h1, ?_⟩
  rcases h2 with h2 | ⟨g, cap, cur, rfl, hg, hh, r⟩
  · exact .inl h2
  · exact .inr ⟨g, cap, cur, rfl, hg, (hm g (by simp [blkOf])).trans hh, r⟩
theorem ownsRow_lt {w : World} {base : Nat} {e : TypeId} {size n : Nat} {v : Value} {xs : List Value} (h : w.ownsRow base e size v n xs) : ∀ b, blkOf v = some b → b < w.heap.size := by
  intro b hb
  obtain ⟨_, h2⟩ := h
  rcases h2 with ⟨rfl, _⟩ | ⟨g, cap, cur, rfl, _, hh, _⟩
  · simp [blkOf] at hb
  · have : g = b := by simpa [blkOf] using hb
    subst this
    rcases Nat.lt_or_ge g w.heap.size with h | h
    · exact h
    · rw [Array.getElem?_eq_none h] at hh; cases hh
section
variable {α : Type}
theorem DR.imp {R R' : (Nat → Prop) → α → List Value → Prop} : ∀ {φ : Nat → Prop} {l : List α} {cs : List Value}, (∀ ψ x c, (∀ b, ψ b → φ b) → R ψ x c → R' ψ x c) → DR R φ l cs → DR R' φ l cs
  | φ, [], cs, _, h => h
  | φ, x :: l, cs, hR, ⟨c1, c2, φ1, φ2, h1, h2, h3, h4, h5⟩ => ⟨c1, c2, φ1, φ2, h1, hR _ _ _ (fun b hb => (h4 b).2 (.inl hb)) h2, DR.imp (fun ψ x c hψ => hR ψ x c (fun b hb => (h4 b).2 (.inr (hψ b hb)))) h3, h4, h5⟩
theorem DR.all {R : (Nat → Prop) → α → List Value → Prop} {p : Nat → Prop} : ∀ {φ : Nat → Prop} {l : List α} {cs : List Value}, (∀ ψ x c, R ψ x c → ∀ b, ψ b → p b) → DR R φ l cs → ∀ b, φ b → p b
  | φ, [], cs, _, h, b, hb => absurd hb (h.2 b)
  | φ, x :: l, cs, hR, ⟨c1, c2, φ1, φ2, h1, h2, h3, h4, h5⟩, b, hb => ((h4 b).1 hb).elim (hR _ _ _ h2 b) (DR.all hR h3 b)
end
theorem DRep.move {w w1 : World} : ∀ {k : Kn} {φ : Nat → Prop} {x : k.T} {cs : List Value}, (∀ b, φ b → w1.heap[b]? = w.heap[b]?) → DRep w k φ x cs → DRep w1 k φ x cs
  | .int _, _, _, _, _, h => h
  | .bool, _, _, _, _, h => h
  | .str, _, _, _, _, h => h
  | .sl t e, φ, l, cs, hw, ⟨u, xs, φ', h1, h2, h3, h4, h5, h6⟩ => ⟨u, xs, φ', h1, ownsRow_move h2 (fun b hb => hw b ((h5 b).2 (.inl hb))), h3.imp (fun ψ x c hψ h => DRep.move (fun b hb => hw b ((h5 b).2 (.inr (hψ b hb)))) h), h4, h5, h6⟩
  | .pr a b, φ, p, cs, hw, ⟨c1, c2, φ1, φ2, h1, h2, h3, h4, h5⟩ => ⟨c1, c2, φ1, φ2, h1, DRep.move (fun b hb => hw b ((h4 b).2 (.inl hb))) h2, DRep.move (fun b hb => hw b ((h4 b).2 (.inr hb))) h3, h4, h5⟩
theorem DRep.lt {w : World} : ∀ {k : Kn} {φ : Nat → Prop} {x : k.T} {cs : List Value}, DRep w k φ x cs → ∀ b, φ b → b < w.heap.size
  | .int _, _, _, _, h, b, hb => absurd hb (h.2.2 b)
  | .bool, _, _, _, h, b, hb => absurd hb (h.2 b)
  | .str, _, _, _, h, b, hb => absurd hb (h.2 b)
  | .sl t e, φ, l, cs, ⟨u, xs, φ', h1, h2, h3, h4, h5, h6⟩, b, hb => ((h5 b).1 hb).elim (ownsRow_lt h2 b) (h3.all (fun ψ x c h => DRep.lt h) b)
  | .pr a b, φ, p, cs, ⟨c1, c2, φ1, φ2, h1, h2, h3, h4, h5⟩, b', hb => ((h4 b').1 hb).elim (DRep.lt h2 b') (DRep.lt h3 b')
theorem DRepH.move {w w1 : World} {v : Value} : ∀ {k : Kn} {off : Nat} {φ : Nat → Prop} {x : k.T} {cs : List Value}, (∀ b, φ b → w1.heap[b]? = w.heap[b]?) → DRepH w k off v φ x cs → DRepH w1 k off v φ x cs
  | .sl _ _, _, _, _, _, _, h => h
  | .pr a b, off, φ, p, cs, hw, ⟨c1, c2, φ1, φ2, h1, h2, h4, h5⟩ => ⟨c1, c2, φ1, φ2, h1, h2.imp (fun ⟨q, k1, k2⟩ => ⟨q, DRepH.move (fun b hb => hw b ((h4 b).2 (.inl hb))) k1, DRep.move (fun b hb => hw b ((h4 b).2 (.inr hb))) k2⟩) (fun ⟨q, k1, k2⟩ => ⟨q, DRep.move (fun b hb => hw b ((h4 b).2 (.inl hb))) k1, DRepH.move (fun b hb => hw b ((h4 b).2 (.inr hb))) k2⟩), h4, h5⟩
  | .int _, _, _, _, _, _, h => h.elim
  | .bool, _, _, _, _, _, h => h.elim
  | .str, _, _, _, _, _, h => h.elim
theorem DRepH.lt {w : World} {v : Value} : ∀ {k : Kn} {off : Nat} {φ : Nat → Prop} {x : k.T} {cs : List Value}, DRepH w k off v φ x cs → ∀ b, φ b → b < w.heap.size
  | .sl _ _, _, _, _, _, h, b, hb => absurd hb (h.2.2 b)
  | .pr a b, off, φ, p, cs, ⟨c1, c2, φ1, φ2, h1, h2, h4, h5⟩, b', hb => by
    rcases h2 with ⟨_, k1, k2⟩ | ⟨_, k1, k2⟩
    · exact ((h4 b').1 hb).elim (DRepH.lt k1 b') (DRep.lt k2 b')
    · exact ((h4 b').1 hb).elim (DRep.lt k1 b') (DRepH.lt k2 b')
  | .int _, _, _, _, _, h, _, _ => h.elim
  | .bool, _, _, _, _, h, _, _ => h.elim
  | .str, _, _, _, _, h, _, _ => h.elim
section
variable {α : Type}
theorem DRH.imp {R R' RH RH' : (Nat → Prop) → α → List Value → Prop} : ∀ {φ : Nat → Prop} {l : List α} {n : Nat} {cs : List Value}, (∀ ψ x c, (∀ b, ψ b → φ b) → R ψ x c → R' ψ x c) → (∀ ψ x c, (∀ b, ψ b → φ b) → RH ψ x c → RH' ψ x c) → DRH R RH φ l n cs → DRH R' RH' φ l n cs
  | _, [], _, _, _, _, h => h
  | φ, x :: l, 0, cs, h1, h2, ⟨c1, c2, φ1, φ2, k1, k2, k3, k4, k5⟩ => ⟨c1, c2, φ1, φ2, k1, h2 _ _ _ (fun b hb => (k4 b).2 (.inl hb)) k2, DR.imp (fun ψ x c hψ => h1 ψ x c (fun b hb => (k4 b).2 (.inr (hψ b hb)))) k3, k4, k5⟩
  | φ, x :: l, n + 1, cs, h1, h2, ⟨c1, c2, φ1, φ2, k1, k2, k3, k4, k5⟩ => ⟨c1, c2, φ1, φ2, k1, h1 _ _ _ (fun b hb => (k4 b).2 (.inl hb)) k2, DRH.imp (fun ψ x c hψ => h1 ψ x c (fun b hb => (k4 b).2 (.inr (hψ b hb)))) (fun ψ x c hψ => h2 ψ x c (fun b hb => (k4 b).2 (.inr (hψ b hb)))) k3, k4, k5⟩
theorem DRH.all {R RH : (Nat → Prop) → α → List Value → Prop} {p : Nat → Prop} : ∀ {φ : Nat → Prop} {l : List α} {n : Nat} {cs : List Value}, (∀ ψ x c, R ψ x c → ∀ b, ψ b → p b) → (∀ ψ x c, RH ψ x c → ∀ b, ψ b → p b) → DRH R RH φ l n cs → ∀ b, φ b → p b
  | _, [], _, _, _, _, h, _, _ => h.elim
  | φ, x :: l, 0, cs, h1, h2, ⟨c1, c2, φ1, φ2, k1, k2, k3, k4, k5⟩, b, hb => ((k4 b).1 hb).elim (h2 _ _ _ k2 b) (DR.all h1 k3 b)
  | φ, x :: l, n + 1, cs, h1, h2, ⟨c1, c2, φ1, φ2, k1, k2, k3, k4, k5⟩, b, hb => ((k4 b).1 hb).elim (h1 _ _ _ k2 b) (DRH.all h1 h2 k3 b)
end
theorem DRep.length {w : World} : ∀ {k : Kn} {φ : Nat → Prop} {x : k.T} {cs : List Value}, DRep w k φ x cs → cs.length = k.cells
  | .int _, _, _, _, h => by rw [h.1]; rfl
  | .bool, _, _, _, h => by rw [h.1]; rfl
  | .str, _, _, _, h => by rw [h.1]; rfl
  | .sl _ _, _, _, _, ⟨u, xs, φ', h1, _⟩ => by rw [h1]; rfl
  | .pr a b, _, _, _, ⟨c1, c2, _, _, h, h1, h2, _⟩ => by rw [h, List.length_append, h1.length, h2.length]; rfl
/-- The cells of a row, read. -/
theorem own_cells {w : World} {t : TypeId} {sz n : Nat} {v : Value} {xs : List Value} (h : w.ownsRow 0 t sz v n xs) : ∃ ad c, v = .slice ad n c ∧ n ≤ c ∧ (xs ≠ [] → ∃ b, ad = some ⟨b, 0, none⟩ ∧ blkOf v = some b ∧ ∀ j (h : j < xs.length), w.cell? ⟨b, j, none⟩ = some xs[j]) := by
  obtain ⟨h1, h2⟩ := h
  rcases h2 with ⟨rfl, rfl⟩ | ⟨g, cap, cur, rfl, _, h5, h6, h7, h8, h9⟩
  · exact ⟨none, 0, rfl, Nat.le_refl _, fun h => absurd (List.eq_nil_of_length_eq_zero (by simpa using h1)) h⟩
  · refine ⟨_, cap, rfl, h6, fun _ => ⟨g, rfl, rfl, fun j hj => ?_⟩⟩
    rw [World.cell?, h5]
    have e : xs[j]? = some xs[j] := List.getElem?_eq_getElem hj
    have hj' : j < n * sz := by omega
    rw [← e, ← h9, List.getElem?_take, if_pos hj']
    simp
/-- A row with unchanging elements reads as a slice. -/
theorem RO.of_row {F : Nat → Prop} {w : World} {t : TypeId} {k : Kn} {l : List k.T} {u : Value} {xs : List Value} (h : w.ownsRow 0 t k.cells u l.length xs) (hr : Reps F w k l xs) (hl : l.length ≤ maxLen) (hF : ∀ b, blkOf u = some b → F b) : RO F w (Rep F w k) k.cells l u := by
  obtain ⟨ad, c, h1, h2, h3⟩ := own_cells h
  refine ⟨ad, c, h1, h2, hl, fun j hj => ?_⟩
  obtain ⟨cs, h10, h11, h12⟩ := hr.get j hj
  have hp := k.cells_pos
  have hx : xs.length = l.length * k.cells := hr.length
  have hlt : j * k.cells + k.cells ≤ xs.length := by rw [hx, ← Nat.succ_mul]; exact Nat.mul_le_mul_right _ hj
  obtain ⟨b, h4, h5, h6⟩ := h3 (fun e => by rw [e] at hlt; simp at hlt; omega)
  refine ⟨b, 0, cs, h4, hF b h5, h10, h11, fun m hm => ?_⟩
  rw [Nat.zero_add, h6 (j * k.cells + m) (by omega)]
  have e := h12 m (by omega)
  rw [List.getElem?_eq_getElem hm, List.getElem?_eq_getElem (by omega)] at e
  exact e
theorem DR.reps {F : Nat → Prop} {w : World} {k : Kn} : ∀ {φ : Nat → Prop} {l : List k.T} {cs : List Value}, (∀ ψ x c, (∀ b, ψ b → φ b) → DRep w k ψ x c → Rep F w k x c) → DR (DRep w k) φ l cs → Reps F w k l cs
  | φ, [], cs, _, h => h.1
  | φ, x :: l, cs, hR, ⟨c1, c2, φ1, φ2, h1, h2, h3, h4, h5⟩ => ⟨c1, c2, h1, hR _ _ _ (fun b hb => (h4 b).2 (.inl hb)) h2, DR.reps (fun ψ x c hψ h => hR ψ x c (fun b hb => (h4 b).2 (.inr (hψ b hb))) h) h3⟩
theorem DRep.rep {F : Nat → Prop} {w : World} : ∀ {k : Kn} {φ : Nat → Prop} {x : k.T} {cs : List Value}, (∀ b, φ b → F b) → DRep w k φ x cs → Rep F w k x cs
  | .int _, _, _, _, _, h => ⟨h.1, h.2.1⟩
  | .bool, _, _, _, _, h => h.1
  | .str, _, _, _, _, h => h.1
  | .sl t e, φ, l, cs, hF, ⟨u, xs, φ', h1, h2, h3, h4, h5, h6⟩ => ⟨u, h1, RO.of_row h2 (h3.reps (fun ψ x c hψ h => DRep.rep (fun b hb => hF b ((h5 b).2 (.inr (hψ b hb)))) h)) h4 (fun b hb => hF b ((h5 b).2 (.inl hb)))⟩
  | .pr a b, φ, p, cs, hF, ⟨c1, c2, φ1, φ2, h1, h2, h3, h4, h5⟩ => ⟨c1, c2, h1, DRep.rep (fun b hb => hF b ((h4 b).2 (.inl hb))) h2, DRep.rep (fun b hb => hF b ((h4 b).2 (.inr hb))) h3⟩
theorem RepV.mono {F F' : Nat → Prop} {w w' : World} {k : Kn} {x : k.T} {v : Value} (hF : ∀ b, F b → F' b) (hw : ∀ b, F b → w'.heap[b]? = w.heap[b]?) (h : RepV F w k x v) : RepV F' w' k x v := ⟨Rep.mono (fun b hb _ => hF b hb) hw h.1, h.2⟩
theorem Ents.mono {F F' : Nat → Prop} {w w' : World} {e : Kn} {l : List (ByteArray × e.T)} {ps : List (ByteArray × Value)} (hF : ∀ b, F b → F' b) (hw : ∀ b, F b → w'.heap[b]? = w.heap[b]?) (h : Ents F w e l ps) : Ents F' w' e l ps :=
  All2.imp (fun _ _ h => ⟨h.1, RepV.mono hF hw h.2⟩) h
theorem ownsMap_block {P : Program} {k : TypeId} {R : Value → Option (DataW Value × List MemPlace)} {w w1 : World} {b n : Nat} {D : DataW Value} (h : w.ownsMap P k R b n D) (hb : w1.heap[b]? = w.heap[b]?) : w1.ownsMap P k R b n D := by
  obtain ⟨es, clock, h1, h2⟩ := h
  exact ⟨es, clock, hb.trans h1, h2⟩
theorem ranges_block {P : Program} {k : TypeId} {R : Value → Option (DataW Value × List MemPlace)} {w w1 : World} {b r n : Nat} {D : DataW Value} {left : Lit → Bool} {cnt : Nat} (h : w.ranges P k R b r n D left cnt) (hb : w1.heap[b]? = w.heap[b]?) (hr : w1.heap[r]? = w.heap[r]?) : w1.ranges P k R b r n D left cnt := by
  obtain ⟨es, clock, since, seen, c0, h1, F, hs, hD, h2, rest⟩ := h
  exact ⟨es, clock, since, seen, c0, hb.trans h1, F, hs, hD, hr.trans h2, rest⟩
theorem entry_block {P : Program} {k : TypeId} {R : Value → Option (DataW Value × List MemPlace)} {w w1 : World} {b r n : Nat} {D : DataW Value} {left : Lit → Bool} {cnt : Nat} (h : w.ranges P k R b r n D left cnt) (hb : w1.heap[b]? = w.heap[b]?) (hr : w1.heap[r]? = w.heap[r]?) {x : Value}
    (hx : (Instr.entry (.pointer (some ⟨r, 0, none⟩))).run P w = .ok x w) : (Instr.entry (.pointer (some ⟨r, 0, none⟩))).run P w1 = .ok x w1 := by
  obtain ⟨es, clock, since, seen, c0, h1, F, hs, hD, h2, rest⟩ := h
  rw [h1] at hb
  rw [h2] at hr
  cases hs : seen.back? with
  | none => simp [Instr.entry, getObj, Sem.run_bind, Sem.run, h1, h2, Result.andThen, hs, stuck] at hx
  | some st =>
    by_cases hc : clock = c0
    · cases hf : es.find? (·.born == st) with
      | none => simp [Instr.entry, getObj, Sem.run_bind, Sem.run, h1, h2, Result.andThen, hs, hc, hf, unsupported] at hx
      | some e =>
        simp [Instr.entry, getObj, Sem.run_bind, Sem.run, h1, h2, Result.andThen, hs, hc, hf] at hx
        subst hx
        simp [Instr.entry, getObj, Sem.run_bind, Sem.run, hb, hr, Result.andThen, hs, hc, hf]
    · simp [Instr.entry, getObj, Sem.run_bind, Sem.run, h1, h2, Result.andThen, hs, hc, unsupported] at hx
theorem CurOk.mono {P : Program} {k : TypeId} {R : Value → Option (DataW Value × List MemPlace)} {F F' : Nat → Prop} {w w' : World} {e : Kn} {b r n : Nat} {D : DataW Value} {left : Lit → Bool} {cnt : Nat} (hF : ∀ b, F b → F' b) (hw : ∀ b, F b → w'.heap[b]? = w.heap[b]?)
    (h : w.ranges P k R b r n D left cnt) (hb : w'.heap[b]? = w.heap[b]?) (hr : w'.heap[r]? = w.heap[r]?) : ∀ {cur : Option (ByteArray × e.T)}, CurOk P F w e r cur → CurOk P F' w' e r cur
  | none, _ => trivial
  | some p, ⟨v, h1, h2⟩ => ⟨v, entry_block h hb hr h1, RepV.mono hF hw h2⟩
section
variable {P : Program} {X : Ctx} {os : List (Nat × Obj')} {E : Env}
theorem OSat.mono {E' : Env} (h : E.le E') {u : Value} {φ : Nat → Prop} {ι : Nat → Value} {o : Obj'} (hb : o.live = true → ∀ b, φ b → E'.w.heap[b]? = E.w.heap[b]?) (h1 : OSat P E u φ ι o) : OSat P E' u φ ι o := by
  cases o with
  | row t k l =>
    obtain ⟨xs, h2, h3, h4, h5⟩ := h1
    exact ⟨xs, ownsRow_move h2 (fun b h6 => hb rfl b ((h5 b).2 h6)), h3.imp (fun _ _ h5 => Rep.mono (fun b hb _ => h.F b hb) h.w h5), h4, h5⟩
  | fz k l => exact RO.mono h1 (fun b hb _ => h.F b hb) h.w (fun _ _ h2 => Rep.mono (fun b hb _ => h.F b hb) h.w h2) k.cells_pos
  | fp ks r f => exact PPtr.mono h.F h.w h1
  | fb k x =>
    obtain ⟨b, h2, h3⟩ := h1
    exact ⟨b, h2, RO.mono h3 (fun b hb _ => h.F b hb) h.w (fun _ _ h2 => Rep.mono (fun b hb _ => h.F b hb) h.w h2) k.cells_pos⟩
  | box t as =>
    obtain ⟨b, us, rfl, h3, h4, h5, h6⟩ := h1
    exact ⟨b, us, rfl, (hb rfl b ((h6 b).2 rfl)).trans h3, h4.imp (fun _ _ h5 => AV.mono h h5), h5, h6⟩
  | drow t k l =>
    obtain ⟨xs, φ', h2, h3, h4, h5, h6⟩ := h1
    exact ⟨xs, φ', ownsRow_move h2 (fun b h8 => hb rfl b ((h5 b).2 (.inl h8))), h3.imp (fun ψ x c hψ h => DRep.move (fun b h8 => hb rfl b ((h5 b).2 (.inr (hψ b h8)))) h), h4, h5, h6⟩
  | hole t k l n off j =>
    obtain ⟨xs, φ', h2, hD, h3, h4, h5, h6⟩ := h1
    exact ⟨xs, φ', ownsRow_move h2 (fun b h8 => hb rfl b ((h5 b).2 (.inl h8))), h.D j hD, h3.imp (fun ψ x c hψ h => DRep.move (fun b h8 => hb rfl b ((h5 b).2 (.inr (hψ b h8)))) h) (fun ψ x c hψ h' => by rw [h.σ j hD]; exact DRepH.move (fun b h8 => hb rfl b ((h5 b).2 (.inr (hψ b h8)))) h'), h4, h5, h6⟩
  | part t k l m =>
    obtain ⟨xs, φ', h2, h3, h4, h5, h6⟩ := h1
    exact ⟨xs, φ', ownsRow_move h2 (fun b h8 => hb rfl b ((h5 b).2 (.inl h8))), h3.imp (fun ψ x c hψ h => DRep.move (fun b h8 => hb rfl b ((h5 b).2 (.inr (hψ b h8)))) h), h4, h5, h6⟩
  | mp t e z l =>
    obtain ⟨b, kt, et, zv, D, ps, rfl, h2, h3, h4, h5, h6, h7, h8, h9, h10, h11, h12⟩ := h1
    exact ⟨b, kt, et, zv, D, ps, rfl, h2, h3, ownsMap_block h4 (hb rfl b ((h12 b).2 rfl)), h5, h6, h7, h8.mono h.F h.w, h9, h10, h11.mono h.F h.w, h12⟩
  | mit e l cur =>
    obtain ⟨b, r, kt, n, D, left, cnt, ps, rfl, h3, h4, h5, h6, h7, h8, h9, h10⟩ := h1
    have e1 := hb rfl b ((h10 b).2 (.inl rfl))
    have e2 := hb rfl r ((h10 r).2 (.inr rfl))
    exact ⟨b, r, kt, n, D, left, cnt, ps, rfl, h3, ranges_block h4 e1 e2, h5, h6, h7.mono h.F h.w, h8, CurOk.mono h.F h.w h4 e1 e2 h9, h10⟩
  | dead => trivial
/-- A live object's blocks are there. -/
theorem OSat.lt {u : Value} {φ : Nat → Prop} {ι : Nat → Value} {o : Obj'} (h : OSat P E u φ ι o) (hl : o.live = true) : ∀ b, φ b → b < E.w.heap.size := by
  intro b hb
  cases o with
  | row t k l =>
    obtain ⟨xs, h2, _, _, h5⟩ := h
    exact ownsRow_lt h2 b ((h5 b).1 hb)
  | box t as =>
    obtain ⟨g, us, rfl, hh, _, _, h5⟩ := h
    have : g = b := by simpa [blkOf] using (h5 b).1 hb
    subst this
    rcases Nat.lt_or_ge g E.w.heap.size with h | h
    · exact h
    · rw [Array.getElem?_eq_none h] at hh; cases hh
  | drow t k l =>
    obtain ⟨xs, φ', h2, h3, _, h5, _⟩ := h
    exact ((h5 b).1 hb).elim (ownsRow_lt h2 b) (h3.all (fun ψ x c h => DRep.lt h) b)
  | hole t k l n off j =>
    obtain ⟨xs, φ', h2, _, h3, _, h5, _⟩ := h
    exact ((h5 b).1 hb).elim (ownsRow_lt h2 b) (h3.all (fun ψ x c h => DRep.lt h) (fun ψ x c h => DRepH.lt h) b)
  | part t k l m =>
    obtain ⟨xs, φ', h2, h3, _, h5, _⟩ := h
    exact ((h5 b).1 hb).elim (ownsRow_lt h2 b) (h3.all (fun ψ x c h => DRep.lt h) b)
  | mp t e z l =>
    obtain ⟨g, kt, et, zv, D, ps, rfl, h2, h3, h4, h5, h6, h7, h8, h9, h10, h11, h12⟩ := h
    have : g = b := by simpa [blkOf] using (h12 b).1 hb
    subst this
    exact h4.lt
  | mit e l cur =>
    obtain ⟨g, r, kt, n, D, left, cnt, ps, rfl, h3, h4, h5, h6, h7, h8, h9, h10⟩ := h
    rcases (h10 b).1 hb with rfl | rfl
    · exact h4.owns.lt
    · exact h4.lt
  | fz k l => cases hl
  | fb k x => cases hl
  | fp ks r f => cases hl
  | dead => cases hl
theorem Inv.lt (hI : Inv P X os E) : ∀ j o, lk os j = some o → o.live = true → ∀ b, E.φ j b → b < E.w.heap.size := fun j o hj hl b hb => OSat.lt (hI.obj j o hj) hl b hb
/-- The world goes on: no block of F, no block of a live object changes. -/
theorem Inv.world (hI : Inv P X os E) {w' : World} {row : Option Nat} (hg : E.w.grownBy w' row)
    (hr : ∀ b, row = some b → ¬ E.F b ∧ (X.w.heap.size ≤ b ∨ X.O b) ∧ ∀ j o, lk os j = some o → o.live = true → ¬ E.φ j b) :
    Inv P X os { E with w := w' } ∧ E.le { E with w := w' } := by
  have hF : ∀ b, E.F b → w'.heap[b]? = E.w.heap[b]? := fun b hb => hg.block b (hI.flt b hb) (fun e => (hr b e.symm).1 hb)
  have hle : E.le { E with w := w' } := ⟨fun _ h => h, hF, fun _ h => h, fun _ _ => rfl, fun _ _ => rfl⟩
  refine ⟨⟨hI.dom, fun i o hi => OSat.mono hle (fun hl b hb => hg.block b (hI.lt i o hi hl b hb) (fun e => (hr b e.symm).2.2 i o hi hl hb)) (hI.obj i o hi), hI.dis, hI.nof,
    fun b hb => Nat.lt_of_lt_of_le (hI.flt b hb) hg.size, hI.fsub, hI.fsup, hg.os.trans hI.os, hg.tape.trans hI.tape, hg.output.trans hI.output, Nat.le_trans hI.size hg.size, fun b hb ho => ?_, hI.pin, hI.par⟩, hle⟩
  refine (hg.block b (Nat.lt_of_lt_of_le hb hI.size) (fun e => ?_)).trans (hI.frm b hb ho)
  rcases (hr b e.symm).2.1 with h | h
  · omega
  · exact ho h
/-- The environment with an object's value, blocks, cells told anew. -/
def Env.at (E : Env) (i : Nat) (u : Value) (φ : Nat → Prop) (ι : Nat → Value) : Env :=
  { E with σ := fun j => if j = i then u else E.σ j, D := fun j => j = i ∨ E.D j, φ := fun j => if j = i then φ else E.φ j, ι := fun j => if j = i then ι else E.ι j }
theorem Env.at_le {i : Nat} {u : Value} {φ : Nat → Prop} {ι : Nat → Value} (h : E.D i → E.σ i = u ∧ E.ι i = ι) : E.le (E.at i u φ ι) := by
  refine ⟨fun _ h => h, fun _ _ => rfl, fun _ h => .inr h, fun j hj => ?_, fun j hj => ?_⟩
  · show (if j = i then u else E.σ j) = E.σ j
    split
    · rename_i e; subst e; exact (h hj).1.symm
    · rfl
  · show (if j = i then ι else E.ι j) = E.ι j
    split
    · rename_i e; subst e; exact (h hj).2.symm
    · rfl
/-- An object is laid, or laid anew. -/
theorem Inv.set (hI : Inv P X os E) (i : Nat) (u : Value) (φ : Nat → Prop) (ι : Nat → Value) (o' : Obj') (hσ : E.D i → E.σ i = u ∧ E.ι i = ι) (hX : X.D i → ¬ E.D i → u = X.σ i ∧ ι = X.ι i)
    (hsat : OSat P (E.at i u φ ι) u φ ι o')
    (hl : o'.live = true → ∀ b, φ b → ¬ E.F b ∧ (X.w.heap.size ≤ b ∨ X.O b) ∧ ∀ j o, j ≠ i → lk os j = some o → o.live = true → ¬ E.φ j b) :
    Inv P X ((i, o') :: os) (E.at i u φ ι) ∧ E.le (E.at i u φ ι) := by
  have hle := Env.at_le (φ := φ) hσ
  have s1 : (E.at i u φ ι).σ i = u := by simp [Env.at]
  have p1 : (E.at i u φ ι).φ i = φ := by simp [Env.at]
  have i1 : (E.at i u φ ι).ι i = ι := by simp [Env.at]
  have s2 : ∀ j, j ≠ i → (E.at i u φ ι).σ j = E.σ j := fun j h => by simp [Env.at, h]
  have p2 : ∀ j, j ≠ i → (E.at i u φ ι).φ j = E.φ j := fun j h => by simp [Env.at, h]
  have i2 : ∀ j, j ≠ i → (E.at i u φ ι).ι j = E.ι j := fun j h => by simp [Env.at, h]
  have look : ∀ j o, lk ((i, o') :: os) j = some o → (j = i ∧ o = o') ∨ (j ≠ i ∧ lk os j = some o) := fun j o hj => by
    by_cases e : i = j
    · subst e
      rw [lk_same] at hj
      injection hj with hj
      exact .inl ⟨rfl, hj.symm⟩
    · rw [lk_ne _ _ e] at hj
      exact .inr ⟨Ne.symm e, hj⟩
  refine ⟨⟨fun j => ?_, fun j o hj => ?_, fun j j' o o2 hne hj hj' h1 h2 b hb => ?_, fun j o hj h1 b hb => ?_, hI.flt, hI.fsub, hI.fsup, hI.os, hI.tape, hI.output, hI.size, hI.frm, hI.pin, fun j hX' hj => ?_⟩, hle⟩
  · by_cases e : i = j
    · subst e; simp [lk_same, Env.at]
    · rw [lk_ne _ _ e]
      have := hI.dom j
      simp only [← this, Env.at]
      exact ⟨fun h => h.resolve_left (fun e' => e e'.symm), .inr⟩
  · rcases look j o hj with ⟨rfl, rfl⟩ | ⟨hne, hj⟩
    · rw [s1, p1, i1]; exact hsat
    · rw [s2 j hne, p2 j hne, i2 j hne]
      exact OSat.mono hle (fun _ _ _ => rfl) (hI.obj j o hj)
  · rcases look j o hj with ⟨rfl, rfl⟩ | ⟨hne1, k1⟩
    · rcases look j' o2 hj' with ⟨rfl, rfl⟩ | ⟨hne2, k2⟩
      · exact absurd rfl hne
      · rw [p1] at hb
        rw [p2 j' hne2]
        exact (hl h1 b hb).2.2 j' o2 hne2 k2 h2
    · rw [p2 j hne1] at hb
      rcases look j' o2 hj' with ⟨rfl, rfl⟩ | ⟨hne2, k2⟩
      · rw [p1]
        exact fun hb' => (hl h2 b hb').2.2 j o hne1 k1 h1 hb
      · rw [p2 j' hne2]
        exact hI.dis j j' o o2 hne k1 k2 h1 h2 b hb
  · rcases look j o hj with ⟨rfl, rfl⟩ | ⟨hne1, hj⟩
    · rw [p1] at hb
      exact ⟨(hl h1 b hb).1, (hl h1 b hb).2.1⟩
    · rw [p2 j hne1] at hb
      exact hI.nof j o hj h1 b hb
  · by_cases e : j = i
    · subst e
      rw [s1, i1]
      by_cases hD : E.D j
      · rw [← (hσ hD).1, ← (hσ hD).2]; exact hI.par j hX' hD
      · exact hX hX' hD
    · rw [s2 j e, i2 j e]
      exact hI.par j hX' (hj.resolve_left e)
/-- An object is left. -/
theorem Inv.kill (hI : Inv P X os E) (i : Nat) (hi : E.D i) : Inv P X ((i, .dead) :: os) E := by
  have look : ∀ j o, lk ((i, Obj'.dead) :: os) j = some o → (j = i ∧ o = .dead) ∨ (j ≠ i ∧ lk os j = some o) := fun j o hj => by
    by_cases e : i = j
    · subst e
      rw [lk_same] at hj
      injection hj with hj
      exact .inl ⟨rfl, hj.symm⟩
    · rw [lk_ne _ _ e] at hj
      exact .inr ⟨Ne.symm e, hj⟩
  refine ⟨fun j => ?_, fun j o hj => ?_, fun j j' o o2 hne hj hj' h1 h2 => ?_, fun j o hj h1 => ?_, hI.flt, hI.fsub, hI.fsup, hI.os, hI.tape, hI.output, hI.size, hI.frm, hI.pin, hI.par⟩
  · by_cases e : i = j
    · subst e; simp [lk_same, hi]
    · rw [lk_ne _ _ e]; exact hI.dom j
  · rcases look j o hj with ⟨rfl, rfl⟩ | ⟨hne, hj⟩
    · trivial
    · exact hI.obj j o hj
  · rcases look j o hj with ⟨rfl, rfl⟩ | ⟨hne1, hj⟩
    · cases h1
    · rcases look j' o2 hj' with ⟨rfl, rfl⟩ | ⟨hne2, hj'⟩
      · cases h2
      · exact hI.dis j j' o o2 hne hj hj' h1 h2
  · rcases look j o hj with ⟨rfl, rfl⟩ | ⟨hne, hj⟩
    · cases h1
    · exact hI.nof j o hj h1
theorem grown_alloc (w : World) (o : Obj) : w.grownBy (w.alloc o) none := ⟨rfl, rfl, rfl, by simp, fun k hk _ => heap_alloc_old w o hk⟩
theorem grown_row (w : World) (g : Nat) (cs : Array Value) : w.grownBy (w.setRow g cs) (some g) := ⟨rfl, rfl, rfl, by simp, fun k _ hk => setRow_other w g k _ (fun e => hk (by rw [e]))⟩
/-- Where an operation has come to. -/
def Out (P : Program) (X : Ctx) (E : Env) (K : Rv → List (Nat × Obj') → Prop) (v : Value) (w' : World) : Prop :=
  ∃ E' r os', E'.w = w' ∧ E.le E' ∧ Inv P X os' E' ∧ RV P E' r v ∧ K r os'
/-- A new object in blocks of its own. -/
theorem Inv.made (hI : Inv P X os E) {w' : World} (hg : E.w.grownBy w' none) (i : Nat) (hi : lk os i = none) (hX : ¬ X.D i) (u : Value) (φ : Nat → Prop) (ι : Nat → Value) (o' : Obj')
    (hb : ∀ b, φ b → E.w.heap.size ≤ b)
    (hsat : ∀ E' : Env, E.le E' → E'.w = w' → OSat P E' u φ ι o') :
    ∃ E', E'.w = w' ∧ E.le E' ∧ Inv P X ((i, o') :: os) E' ∧ E'.D i ∧ E'.σ i = u := by
  obtain ⟨h1, h2⟩ := hI.world hg (fun b h => by cases h)
  have hD : ¬ E.D i := by rw [hI.dom, hi]; simp
  obtain ⟨h3, h4⟩ := h1.set i u φ ι o' (fun h => absurd h hD) (fun h => absurd h hX) (hsat _ (h2.trans (Env.at_le (fun h => absurd h hD))) rfl) (fun _ b hb' => ⟨fun hF => by have := hI.flt b hF; have := hb b hb'; omega, .inl (Nat.le_trans hI.size (hb b hb')), fun j o hne hj hl h => by
      have := hI.lt j o hj hl b h; have := hb b hb'; omega⟩)
  exact ⟨_, rfl, h2.trans h4, h3, .inl rfl, by simp [Env.at]⟩
end
end Go.Proofs.YthfmlelodmcgkaaGreat.V

set_option linter.unusedVariables false
set_option linter.unusedSimpArgs false
set_option linter.unusedSectionVars false
namespace Go.Proofs.YthfmlelodmcgkaaGreat.V
open Go
theorem rv_v {P : Program} {E : Env} {x : Value} (h1 : okV x) (h2 : x.oneCell' = true) : RV P E (.val (.one (.v x))) x := show CV P E (.one (.v x)) x from ⟨⟨rfl, h1⟩, h2⟩
/-! ### types -/
inductive TD where
  | bool | int (k : IntKind) | str | sl (e : Nat) | st (fs : List (Nat × Nat)) | ptr (e : Nat) | arr (n e : Nat) | map (k e : Nat) | other
def TD.of : TypeDesc → TD
  | .bool => .bool | .int k => .int k | .string => .str | .slice e => .sl e | .struct fs => .st (fs.toList.map fun f => (f.type, f.offset)) | .pointer e => .ptr e | .array n e => .arr n e | .map k e => .map k e | _ => .other
def TD.agg : TD → Bool
  | .st _ => true | .arr _ _ => true | _ => false
structure Ty where
  t : Nat
  d : TD
  size : Nat
  bytes : Nat
  zs : List Value
  k : Kn
def Ty.zero (y : Ty) : Value := match y.d.agg with | true => .agg y.zs.toArray | false => y.zs.headD undef
def TyOk (P : Program) (y : Ty) : Prop := (P.underlying y.t).map TD.of = some y.d ∧ (P.info? y.t).map (fun i => (i.size, i.bytes, i.zero)) = some (y.size, y.bytes, some y.zero)
def ty? : List Ty → Nat → Option Ty
  | [], _ => none
  | y :: r, t => match Nat.beq y.t t with | true => some y | false => ty? r t
theorem ty?_ok {P : Program} {tys : List Ty} (h : ∀ y ∈ tys, TyOk P y) {t : Nat} {y : Ty} (hy : ty? tys t = some y) : TyOk P y ∧ y.t = t := by
  induction tys with
  | nil => cases hy
  | cons z r ih =>
    simp only [ty?] at hy
    split at hy
    · rename_i e
      injection hy with hy
      subst hy
      exact ⟨h _ List.mem_cons_self, Nat.eq_of_beq_eq_true e⟩
    · exact ih (fun y hy => h y (List.mem_cons_of_mem _ hy)) hy
theorem TyOk.info {P : Program} {y : Ty} (h : TyOk P y) : ∃ i, P.info? y.t = some i ∧ i.size = y.size ∧ i.bytes = y.bytes ∧ i.zero = some y.zero := by
  have := h.2
  cases hi : P.info? y.t with
  | none => simp [hi] at this
  | some i =>
    simp [hi] at this
    exact ⟨i, rfl, this.1, this.2.1, this.2.2⟩
theorem TyOk.und {P : Program} {y : Ty} (h : TyOk P y) : ∃ d, P.underlying y.t = some d ∧ TD.of d = y.d := by
  have := h.1
  cases hi : P.underlying y.t with
  | none => simp [hi] at this
  | some d => simp [hi] at this; exact ⟨d, rfl, this⟩
theorem TyOk.isAgg {P : Program} {y : Ty} (h : TyOk P y) (w : World) : (isAgg y.t).run P w = .ok y.d.agg w := by
  obtain ⟨d, h1, h2⟩ := h.und
  unfold Go.isAgg
  rw [Sem.run_bind, run_underlying h1 w]
  rw [← h2]
  cases d <;> rfl
theorem TyOk.sizeOf {P : Program} {y : Ty} (h : TyOk P y) (w : World) : (sizeOf y.t).run P w = .ok y.size w := by
  obtain ⟨i, h1, h2, _⟩ := h.info
  simp [Go.sizeOf, typeInfo, h1, h2]
theorem TyOk.zeroValue {P : Program} {y : Ty} (h : TyOk P y) (w : World) : (zeroValue y.t).run P w = .ok y.zero w := by
  obtain ⟨i, h1, _, _, h2⟩ := h.info
  simp [Go.zeroValue, typeInfo, h1, h2]
/-! ### operands -/
def okIB : IntKind → Int → Bool
  | .i64, n => decide (-9223372036854775808 ≤ n) && decide (n ≤ 9223372036854775807)
  | .u8, n => decide (0 ≤ n) && decide (n ≤ 255)
  | .i32, n => decide (-2147483648 ≤ n) && decide (n ≤ 2147483647)
  | .u64, n => decide (0 ≤ n) && decide (n ≤ 18446744073709551615)
  | _, _ => false
theorem okIB_ok {k : IntKind} {n : Int} (h : okIB k n = true) : okI k n := by
  cases k <;> simp [okIB] at h <;> simp [okI, h]
def plainB : Value → Bool
  | .bool _ => true | .int k n => okIB k n | .string _ => true | .slice none _ _ => true | .pointer none => true | .nilFunc => true | .nilIface => true | .map none => true | _ => false
theorem plainB_ok {x : Value} (h : plainB x = true) : okV x ∧ x.oneCell' = true := by
  cases x <;> simp [plainB] at h <;> first | exact ⟨okIB_ok h, rfl⟩ | exact ⟨trivial, rfl⟩ | (refine ⟨trivial, ?_⟩; rfl)
def ev (ρ : Nat → Rv) : Operand → Rv
  | .tmp t => ρ t
  | .const c => match plainB c with | true => .val (.one (.v c)) | false => .val (.one .undef)
  | .func f => .val (.one (.v (.func (.func f) #[] #[])))
  | .global _ => .val (.one .undef)
theorem ev_ok {P : Program} {E : Env} {n : Nat} {ρ : Nat → Rv} {a : Act} (hr : Regs P E n ρ a) (x : Operand) : RV P E (ev ρ x) (a.eval x) := by
  cases x with
  | tmp t => exact hr.reg t
  | const c =>
    simp only [ev]
    split
    · rename_i h; exact ⟨⟨rfl, (plainB_ok h).1⟩, (plainB_ok h).2⟩
    · trivial
  | func f => exact ⟨⟨rfl, trivial⟩, rfl⟩
  | global g => trivial
/-- Operations' outcome. -/
def Outcome (P : Program) (o : Oper) (a : Act) (w : World) (G : Value → World → Prop) : Prop :=
  (∃ v w', (execOp a.eval o).run P w = .ok (.value v) w' ∧ G v w') ∨ (∃ w', (execOp a.eval o).run P w = .ok .skip w' ∧ G undef w') ∨
  (∃ f args w', (execOp a.eval o).run P w = .ok (.enter f args) w' ∧ Calls P f args w' fun e w'' => ∃ v, e = .returned v ∧ G v w'')
theorem Outcome.wp {P : Program} {o : Oper} {a : Act} {w : World} {G : Value → World → Prop} {Q : Exit → Act → World → Prop} {K : Act → World → Prop} (h : Outcome P o a w G) (hK : ∀ v w', G v w' → K (a.put o.dst v) w') : o.wp P a w K Q := by
  unfold Oper.wp
  rcases h with ⟨v, w', h1, h2⟩ | ⟨w', h1, h2⟩ | ⟨f, args, w', h1, h2⟩
  · rw [h1]; exact hK v w' h2
  · rw [h1]; exact hK _ w' h2
  · rw [h1]
    refine Calls.mono h2 ?_
    rintro e w'' ⟨v, rfl, h3⟩
    exact hK v w'' h3
theorem Outcome.mono {P : Program} {o : Oper} {a : Act} {w : World} {G G' : Value → World → Prop} (h : Outcome P o a w G) (hG : ∀ v w', G v w' → G' v w') : Outcome P o a w G' := by
  rcases h with ⟨v, w', h1, h2⟩ | ⟨w', h1, h2⟩ | ⟨f, args, w', h1, h2⟩
  · exact .inl ⟨v, w', h1, hG _ _ h2⟩
  · exact .inr (.inl ⟨w', h1, hG _ _ h2⟩)
  · exact .inr (.inr ⟨f, args, w', h1, Calls.mono h2 (fun e w'' ⟨v, h3, h4⟩ => ⟨v, h3, hG _ _ h4⟩)⟩)
/-! ### words for numbers -/
abbrev M.int (k : IntKind) (n : Int) : M := .ret (.val (.one (.v (.int k n))))
abbrev M.bool (b : Bool) : M := .ret (.val (.one (.v (.bool b))))
abbrev M.string (s : ByteArray) : M := .ret (.val (.one (.v (.string s))))
def ikB : IntKind → IntKind → Bool
  | .i8, .i8 => true | .i16, .i16 => true | .i32, .i32 => true | .i64, .i64 => true | .u8, .u8 => true | .u16, .u16 => true | .u32, .u32 => true | .u64, .u64 => true | _, _ => false
theorem ikB_eq {k k' : IntKind} (h : ikB k k' = true) : k = k' := by cases k <;> cases k' <;> first | rfl | cases h
def bitsI (k : IntKind) (f : BitVec k.bits → BitVec k.bits → BitVec k.bits) (x y : Int) : Int := wrapK k ((f (BitVec.ofInt k.bits x) (BitVec.ofInt k.bits y)).toNat : Int)
def andK (k : IntKind) (x y : Int) : Int := bitsI k (· &&& ·) x y
def orK (k : IntKind) (x y : Int) : Int := bitsI k (· ||| ·) x y
def xorK (k : IntKind) (x y : Int) : Int := bitsI k (· ^^^ ·) x y
def shlI (k : IntKind) (x y : Int) : Int := wrapK k (x * 2 ^ min y.toNat k.bits)
def shrI (k : IntKind) (x y : Int) : Int := x.fdiv (2 ^ min y.toNat k.bits)
def binI (op : BinOp) (k : IntKind) (x y : Int) : M :=
  match op with
  | .add => .int k (wrapK k (x + y))
  | .sub => .int k (wrapK k (x - y))
  | .mul => .int k (wrapK k (x * y))
  | .quo => .need (y ≠ 0) (.int k (wrapK k (x.tdiv y)))
  | .rem => .need (y ≠ 0) (.int k (x.tmod y))
  | .and => .int k (andK k x y)
  | .or => .int k (orK k x y)
  | .xor => .int k (xorK k x y)
  | .eql => .bool (decide (x = y))
  | .neq => .bool (!decide (x = y))
  | .lss => .bool (decide (x < y))
  | .leq => .bool (decide (x ≤ y))
  | .gtr => .bool (decide (y < x))
  | .geq => .bool (decide (y ≤ x))
  | _ => .fail
def binM (op : BinOp) (a b : Rv) : M :=
  match a, b with
  | .val (.one (.v (.int k x))), .val (.one (.v (.int k' y))) =>
    match op with
    | .shl => .need (0 ≤ y) (.int k (shlI k x y))
    | .shr => .need (0 ≤ y) (.int k (shrI k x y))
    | op => match ikB k k' with | true => binI op k x y | false => .fail
  | .val (.one (.v (.string x))), .val (.one (.v (.string y))) =>
    match op with
    | .eql => .bool (x.toList == y.toList)
    | .neq => .bool !(x.toList == y.toList)
    | .add => .need (x.size + y.size ≤ 1099511627776) (.string (x ++ y))
    | _ => .fail
  | _, _ => .fail
theorem okI_bits (k : IntKind) (f : BitVec k.bits → BitVec k.bits → BitVec k.bits) (x y : Int) : okI k (bitsI k f x y) := okI_wrap _ _
section
variable {P : Program} {X : Ctx} {os : List (Nat × Obj')} {E : Env} {n : Nat} {ρ : Nat → Rv} {a : Act} {o : Oper} {K : Rv → List (Nat × Obj') → Prop}
theorem out_pure (hI : Inv P X os E) {r : Rv} {v : Value} (h : (execOp a.eval o).run P E.w = .ok (.value v) E.w) (hv : RV P E r v) (hK : K r os) : Outcome P o a E.w (Out P X E K) :=
  .inl ⟨v, E.w, h, E, r, os, rfl, .refl E, hI, hv, hK⟩
theorem bin_ok {op : BinOp} {t : TypeId} {x y : Operand} {r1 r2 : Rv} {u1 u2 : Value} (hx : RV P E r1 u1) (hy : RV P E r2 u2) (h : (binM op r1 r2).run os K) (w : World) :
    ∃ v r, (do eqGuard op t x y u1 u2; binOp op t u1 u2 : Sem Value).run P w = .ok v w ∧ RV P E r v ∧ K r os := by
  have cls : ∀ {v : Value}, okV v → v.oneCell' = true → K (.val (.one (.v v))) os → (do eqGuard op t x y u1 u2; binOp op t u1 u2 : Sem Value).run P w = .ok v w → ∃ v r, (do eqGuard op t x y u1 u2; binOp op t u1 u2 : Sem Value).run P w = .ok v w ∧ RV P E r v ∧ K r os :=
    fun h1 h2 h3 h4 => ⟨_, _, h4, rv_v h1 h2, h3⟩
  unfold binM at h
  split at h
  · rename_i k a k' b
    obtain ⟨⟨rfl, ox⟩, _⟩ := hx
    obtain ⟨⟨rfl, oy⟩, _⟩ := hy
    have ox' : okI k a := ox
    split at h
    · obtain ⟨h0, hK⟩ := h
      refine cls (v := .int k (shlI k a b)) (okI_wrap _ _) rfl hK ?_
      have h0' : ¬ b < 0 := by omega
      simp [eqGuard, binOp, Op.shift, h0', shlI, wrapK_eq]
    · obtain ⟨h0, hK⟩ := h
      refine cls (v := .int k (shrI k a b)) (okI_shr _ _ _ ox') rfl hK ?_
      have h0' : ¬ b < 0 := by omega
      simp [eqGuard, binOp, Op.shift, h0', shrI]
    · split at h
      · rename_i hk
        obtain rfl := ikB_eq hk
        rename_i h1 h2 _
        cases op <;> simp only [binI, M.run] at h <;> (try (exact absurd rfl h1)) <;> (try (exact absurd rfl h2)) <;> (try (exact h.elim))
        case quo => 
          refine cls (v := .int k (wrapK k (a.tdiv b))) (okI_wrap _ _) rfl h.2 ?_
          simp [eqGuard, binOp, Op.intDiv, h.1, wrapK_eq]
        case rem => 
          refine cls (v := .int k (a.tmod b)) (okI_tmod _ _ _ ox') rfl h.2 ?_
          simp [eqGuard, binOp, Op.intDiv, h.1]
        all_goals
          refine cls ?_ ?_ h ?_
          all_goals first
            | exact okI_wrap _ _
            | exact okI_bits _ _ _ _
            | trivial
            | rfl
            | (simp [eqGuard, binOp, Op.intArith, Op.intBits, Op.intCmp, wrapK_eq, andK, orK, xorK, bitsI]; done)
            | (simp [eqGuard, binOp, Op.intArith, Op.intBits, Op.intCmp, wrapK_eq, andK, orK, xorK, bitsI]; rfl)
      · exact h.elim
  · obtain ⟨⟨rfl, ox⟩, _⟩ := hx
    obtain ⟨⟨rfl, oy⟩, _⟩ := hy
    split at h
    · refine cls ?_ ?_ h ?_
      all_goals first
        | trivial
        | rfl
        | simp [eqGuard, binOp, Op.stringOp]
    · refine cls ?_ ?_ h ?_
      all_goals first
        | trivial
        | rfl
        | simp [eqGuard, binOp, Op.stringOp]
    · obtain ⟨h0, hK⟩ := h
      refine cls ?_ ?_ hK ?_
      · trivial
      · rfl
      · simp [eqGuard, binOp, Op.stringOp]
        omega
    · exact h.elim
  · exact h.elim
end
/-! ### data and cells -/
theorem All2.all_v {P : Program} {E : Env} : ∀ {zs : List Value}, zs.all plainB = true → All2 (AV P E) (zs.map .v) zs ∧ ∀ x ∈ zs, x.oneCell' = true
  | [], _ => ⟨trivial, fun _ h => by cases h⟩
  | z :: r, h => by
    simp only [List.all_cons, Bool.and_eq_true] at h
    obtain ⟨h1, h2⟩ := All2.all_v h.2 (P := P) (E := E)
    exact ⟨⟨⟨rfl, (plainB_ok h.1).1⟩, h1⟩, fun x hx => by
      rcases List.mem_cons.1 hx with rfl | hx
      · exact (plainB_ok h.1).2
      · exact h2 x hx⟩
def Kn.toAs : (k : Kn) → k.T → List A
  | .int k, x => [.v (.int k x)]
  | .bool, b => [.v (.bool b)]
  | .str, s => [.v (.string s)]
  | .sl _ e, l => [.ro e l]
  | .pr a b, p => a.toAs p.1 ++ b.toAs p.2
def castK {e' e : Kn} (h : e' = e) (l : List e'.T) : List e.T := cast (by rw [h]) l
theorem castK_rfl {e : Kn} (h : e = e) (l : List e.T) : castK h l = l := rfl
def asI (k : IntKind) : List A → Option Int
  | [.v (.int k' n)] => match ikB k k' with | true => some n | false => none
  | _ => none
def asB : List A → Option Bool
  | [.v (.bool b)] => some b
  | _ => none
def asS : List A → Option ByteArray
  | [.v (.string b)] => some b
  | _ => none
def asL (e : Kn) : List A → Option (List e.T)
  | [.ro e' l] => if h : e' = e then some (castK h l) else none
  | [.v (.slice none 0 0)] => some []
  | _ => none
def Kn.ofAs : (k : Kn) → List A → Option k.T
  | .int k, as => asI k as
  | .bool, as => asB as
  | .str, as => asS as
  | .sl _ e, as => asL e as
  | .pr a b, as => match a.ofAs (as.take a.cells), b.ofAs (as.drop a.cells) with
    | some x, some y => some (x, y)
    | _, _ => none
theorem Kn.toAs_length : ∀ (k : Kn) (x : k.T), (k.toAs x).length = k.cells
  | .int _, _ => rfl
  | .bool, _ => rfl
  | .str, _ => rfl
  | .sl _ _, _ => rfl
  | .pr a b, p => by simp only [Kn.toAs, List.length_append, a.toAs_length, b.toAs_length, Kn.cells]
theorem toAs_ok {P : Program} {E : Env} : ∀ {k : Kn} {x : k.T} {cs : List Value}, Rep E.F E.w k x cs → All2 (AV P E) (k.toAs x) cs ∧ ∀ u ∈ cs, u.oneCell' = true
  | .int _, _, _, h => by rw [h.1]; exact ⟨⟨⟨rfl, h.2⟩, trivial⟩, by simp [Value.oneCell']⟩
  | .bool, _, _, h => by rw [h]; exact ⟨⟨⟨rfl, trivial⟩, trivial⟩, by simp [Value.oneCell']⟩
  | .str, _, _, h => by rw [h]; exact ⟨⟨⟨rfl, trivial⟩, trivial⟩, by simp [Value.oneCell']⟩
  | .sl _ e, _, _, ⟨u, h, h1⟩ => by
    rw [h]
    refine ⟨⟨h1, trivial⟩, ?_⟩
    obtain ⟨ad, c, h2, _⟩ := h1
    subst h2
    simp [Value.oneCell']
  | .pr a b, _, _, ⟨c1, c2, h, h1, h2⟩ => by
    rw [h]
    obtain ⟨h3, h4⟩ := toAs_ok (P := P) h1
    obtain ⟨h5, h6⟩ := toAs_ok (P := P) h2
    refine ⟨h3.append h5, fun u hu => ?_⟩
    rcases List.mem_append.1 hu with hu | hu
    · exact h4 u hu
    · exact h6 u hu
theorem All2.sing {P : Program} {E : Env} {a : A} {us : List Value} (h : All2 (AV P E) [a] us) : ∃ u, us = [u] ∧ AV P E a u := by
  rcases us with _ | ⟨u, _ | ⟨_, _⟩⟩
  · exact h.elim
  · exact ⟨u, rfl, h.1⟩
  · exact h.2.elim
theorem ofAs_ok {P : Program} {E : Env} : ∀ {k : Kn} {as : List A} {us : List Value} {x : k.T}, All2 (AV P E) as us → k.ofAs as = some x → Rep E.F E.w k x us
  | .int k, as, us, x, h, hx => by
    simp only [Kn.ofAs, asI] at hx
    split at hx
    · split at hx
      · rename_i h2
        injection hx with hx
        subst hx
        obtain rfl := ikB_eq h2
        obtain ⟨u, rfl, rfl, h3⟩ := h.sing
        exact ⟨rfl, h3⟩
      · cases hx
    · cases hx
  | .bool, as, us, x, h, hx => by
    simp only [Kn.ofAs, asB] at hx
    split at hx
    · injection hx with hx
      subst hx
      obtain ⟨u, rfl, rfl, h3⟩ := h.sing
      rfl
    · cases hx
  | .str, as, us, x, h, hx => by
    simp only [Kn.ofAs, asS] at hx
    split at hx
    · injection hx with hx
      subst hx
      obtain ⟨u, rfl, rfl, h3⟩ := h.sing
      rfl
    · cases hx
  | .sl t e, as, us, x, h, hx => by
    simp only [Kn.ofAs, asL] at hx
    split at hx
    · split at hx
      · rename_i h2
        injection hx with hx
        subst hx
        subst h2
        obtain ⟨u, rfl, h3⟩ := h.sing
        exact ⟨u, rfl, h3⟩
      · cases hx
    · injection hx with hx
      subst hx
      obtain ⟨u, rfl, rfl, h3⟩ := h.sing
      exact ⟨_, rfl, none, 0, rfl, Nat.le_refl _, Nat.zero_le _, fun j hj => by simp at hj⟩
    · cases hx
  | .pr a b, as, us, x, h, hx => by
    simp only [Kn.ofAs] at hx
    split at hx
    · rename_i y z h1 h2
      injection hx with hx
      subst hx
      exact ⟨us.take a.cells, us.drop a.cells, (List.take_append_drop _ _).symm, ofAs_ok (h.take _) h1, ofAs_ok (h.drop _) h2⟩
    · cases hx
end Go.Proofs.YthfmlelodmcgkaaGreat.V

set_option linter.unusedVariables false
set_option linter.unusedSimpArgs false
set_option linter.unusedSectionVars false
namespace Go.Proofs.YthfmlelodmcgkaaGreat.V
open Go
/-- The name of an object that the operation with destination d makes. -/
def oid (d j : Nat) : Nat := 16 * d + 16 + j
def dof : Option Nat → Nat
  | some d => d
  | none => 0
def tk {α : Type} : Nat → List α → List α
  | 0, _ => []
  | _ + 1, [] => []
  | n + 1, a :: r => a :: tk n r
theorem tk_eq {α : Type} : ∀ (n : Nat) (l : List α), tk n l = l.take n
  | 0, _ => by simp [tk]
  | _ + 1, [] => by simp [tk]
  | n + 1, a :: r => by simp [tk, tk_eq n r]
def dr {α : Type} : Nat → List α → List α
  | 0, l => l
  | _ + 1, [] => []
  | n + 1, _ :: r => dr n r
theorem dr_eq {α : Type} : ∀ (n : Nat) (l : List α), dr n l = l.drop n
  | 0, _ => by simp [dr]
  | _ + 1, [] => by simp [dr]
  | n + 1, a :: r => by simp [dr, dr_eq n r]
def ln {α : Type} : List α → Nat
  | [] => 0
  | _ :: r => ln r + 1
theorem ln_eq {α : Type} : ∀ (l : List α), ln l = l.length
  | [] => rfl
  | a :: r => by simp [ln, ln_eq r]
/-- What a place of a type reads as, its cells being known. -/
def ldR (y : Ty) (as : List A) : M :=
  match y.d.agg with
  | true => match Nat.beq (ln (tk y.size as)) y.size with | true => .ret (.val (.agg (tk y.size as))) | false => .fail
  | false => match as with
    | .undef :: _ => .fail
    | a :: _ => .ret (.val (.one a))
    | [] => .fail
def cellsOf : Rv → Option (List A)
  | .val (.one .undef) => none
  | .val (.one a) => some [a]
  | .val (.agg as) => some as
  | .tup _ => none
def loadM (tys : List Ty) (t : Nat) (r : Rv) : M :=
  match ty? tys t with
  | none => .fail
  | some y => match r with
    | .val (.one (.ptr i off)) => .get i fun o => match o with
      | .box _ as => ldR y (dr off as)
      | .fb k x => ldR y (dr off (k.toAs x))
      | .fp ks r f => match y.d.agg, Nat.beq off 0 with
        | false, true => .ret (.val (.one (.pf ks r f)))
        | _, _ => .fail
      | _ => .fail
    | .val (.one (.pp ks r f)) => match y.d.agg with
      | false => .ret (.val (.one (.pf ks r f)))
      | true => .fail
    | .val (.one (.elr k l n off)) => ldR y (dr off (k.toAs (l.getD n k.dflt)))
    | .val (.one (.elt k i n off)) => .get i fun o => match o with
      | .row _ k' l => match Nat.beq k.cells k'.cells with
        | true => ldR y (dr off (k'.toAs (l.getD n k'.dflt)))
        | false => .fail
      | _ => .fail
    | _ => .fail
section
variable {P : Program} {X : Ctx} {os : List (Nat × Obj')} {E : Env} {n : Nat} {ρ : Nat → Rv} {a : Act} {o : Oper} {K : Rv → List (Nat × Obj') → Prop}
theorem rv_one {a : A} {u : Value} (h : AV P E a u) (h1 : u.oneCell' = true) : RV P E (.val (.one a)) u := by
  cases a <;> first | trivial | exact ⟨h, h1⟩
theorem run_loadAt {y : Ty} (hy : TyOk P y) {w : World} {b off : Nat} {us : List Value} {as : List A} (hc : ∀ j (h : j < us.length), w.cell? ⟨b, off + j, none⟩ = some us[j])
    (hw : w = E.w) (ha : All2 (AV P E) as us) (h1 : ∀ u ∈ us, u.oneCell' = true) (h : (ldR y as).run os K) :
    ∃ v r, (Instr.loadAt y.t (.pointer (some ⟨b, off, none⟩))).run P w = .ok v w ∧ RV P E r v ∧ K r os := by
  unfold ldR at h
  have hag := hy.isAgg w
  have hsz := hy.sizeOf w
  split at h
  · rename_i hg
    split at h
    · rename_i hl
      have hl' := Nat.eq_of_beq_eq_true hl
      rw [ln_eq, tk_eq] at hl'
      have hlu : (us.take y.size).length = y.size := by rw [← (ha.take y.size).length]; exact hl'
      refine ⟨.agg (us.take y.size).toArray, _, ?_, ?_, h⟩
      · have := run_loadCells_list (P := P) w ⟨b, off, none⟩ (us.take y.size) (fun j v hv => by
          rw [Addr.add_lit]
          rw [List.getElem?_take] at hv
          split at hv
          · have hj : j < us.length := by
              rcases Nat.lt_or_ge j us.length with h | h
              · exact h
              · rw [List.getElem?_eq_none h] at hv; cases hv
            rw [hc j hj]
            rw [List.getElem?_eq_getElem hj] at hv
            exact hv
          · cases hv)
        rw [hlu] at this
        simp [Instr.loadAt, Instr.sureAddr, loadVar, hag, hg, hsz, this]
      · rw [tk_eq]
        exact ⟨_, rfl, ha.take _, fun x hx => h1 x (List.mem_of_mem_take hx)⟩
    · exact h.elim
  · rename_i hg
    split at h
    · exact h.elim
    · rename_i a r _
      rcases us with _ | ⟨u, us⟩
      · exact ha.elim
      · refine ⟨u, _, ?_, rv_one ha.1 (h1 u List.mem_cons_self), h⟩
        have := hc 0 (by simp)
        simp only [Nat.add_zero, List.getElem_cons_zero] at this
        simp [Instr.loadAt, Instr.sureAddr, loadVar, hag, hg, this]
    · exact h.elim
theorem load_ok {tys : List Ty} (ht : ∀ y ∈ tys, TyOk P y) (hI : Inv P X os E) {t : Nat} {r : Rv} {u : Value} (hr : RV P E r u) (h : (loadM tys t r).run os K) :
    ∃ v r, (Instr.loadAt t u).run P E.w = .ok v E.w ∧ RV P E r v ∧ K r os := by
  unfold loadM at h
  split at h
  · exact h.elim
  · rename_i y hy
    obtain ⟨hok, rfl⟩ := ty?_ok ht hy
    split at h
    · rename_i i off
      obtain ⟨⟨hD, b, hs, rfl⟩, _⟩ := hr
      simp only [M.run] at h
      split at h
      · rename_i o ho
        split at h
        · rename_i t' as _
          obtain ⟨b', us, h1, h2, h3, h4, _⟩ := hI.obj i _ ho
          have : b' = b := by rw [hs] at h1; simpa using h1.symm
          subst this
          rw [dr_eq] at h
          refine run_loadAt (us := us.drop off) hok (fun j hj => ?_) rfl (h3.drop off) (fun u hu => h4 u (List.mem_of_mem_drop hu)) h
          rw [World.cell?, h2]
          simp only [List.getElem_drop]
          simp at hj
          simp [List.getElem?_eq_getElem (show off + j < us.length by omega)]
        · rename_i k x _
          obtain ⟨b', h1, ad, c, h2, _, _, h4⟩ := hI.obj i _ ho
          obtain ⟨b2, o2, cs, h5, h6, h7, h8, h9⟩ := h4 0 (by simp)
          have : b' = b := by rw [hs] at h1; simpa using h1.symm
          subst this
          injection h2 with h2 _ _
          rw [← h2] at h5
          obtain ⟨rfl, rfl⟩ : b' = b2 ∧ 0 = o2 := by simpa using h5
          obtain ⟨h10, h11⟩ := toAs_ok (P := P) h7
          simp only [List.getElem_cons_zero] at h10
          rw [dr_eq] at h
          refine run_loadAt (us := cs.drop off) hok (fun j hj => ?_) rfl (h10.drop off) (fun u hu => h11 u (List.mem_of_mem_drop hu)) h
          simp at hj
          have := h9 (off + j) (by omega)
          rw [List.getElem_drop]
          rw [← this]
          congr 2
          omega
        · rename_i ks r f
          split at h
          · rename_i hg ho0
            obtain ⟨b', v, h1, _, h3, h4, h5⟩ := hI.obj i _ ho
            have : b' = b := by rw [hs] at h1; simpa using h1.symm
            subst this
            have := Nat.eq_of_beq_eq_true ho0
            subst this
            exact ⟨v, .val (.one (.pf ks r f)), by simp [Instr.loadAt, Instr.sureAddr, loadVar, hok.isAgg, hg, h3], ⟨h5, h4⟩, h⟩
          · exact h.elim
        · exact h.elim
      · exact h.elim
    · rename_i ks r f
      split at h
      · rename_i hg
        obtain ⟨⟨b, v, rfl, _, h3, h4, h5⟩, _⟩ := hr
        exact ⟨v, .val (.one (.pf ks r f)), by simp [Instr.loadAt, Instr.sureAddr, loadVar, hok.isAgg, hg, h3], ⟨h5, h4⟩, h⟩
      · exact h.elim
    · rename_i k l n off
      obtain ⟨⟨hn, b, o, c, hR, rfl⟩, _⟩ := hr
      obtain ⟨ad, c', h1, h2, h3, h4⟩ := hR
      obtain ⟨b', o', cs, h5, h6, h7, h8, h9⟩ := h4 n hn
      have he : ad = some ⟨b, o, none⟩ := by injection h1 with h1; exact h1.symm
      rw [he] at h5
      obtain ⟨rfl, rfl⟩ : b = b' ∧ o = o' := by simpa using h5
      obtain ⟨h10, h11⟩ := toAs_ok (P := P) h7
      have hg : l.getD n k.dflt = l[n] := by simp [List.getD_eq_getElem?_getD, hn]
      rw [hg, dr_eq] at h
      refine run_loadAt (us := cs.drop off) hok (fun j hj => ?_) rfl (h10.drop off) (fun u hu => h11 u (List.mem_of_mem_drop hu)) h
      simp at hj
      have := h9 (off + j) (by omega)
      rw [List.getElem_drop]
      rw [← this]
      congr 2
      omega
    · rename_i k i n off
      obtain ⟨⟨hD, b, len, c, hs, hn, rfl⟩, _⟩ := hr
      simp only [M.run] at h
      split at h
      · rename_i o ho
        split at h
        · rename_i t' k' l
          split at h
          · rename_i hk
            have hk := Nat.eq_of_beq_eq_true hk
            obtain ⟨xs, ⟨h1, h2⟩, h3, h4, _⟩ := hI.obj i _ ho
            rw [hs] at h2
            rcases h2 with ⟨h2, _⟩ | ⟨g, cap, cur, h2, _, h5, h6, h7, h8, h9⟩
            · cases h2
            · injection h2 with h2 h2' _
              obtain rfl : b = g := by simpa using h2
              subst h2'
              obtain ⟨cs, h10, h11, h12⟩ := h3.get n hn
              obtain ⟨h13, h14⟩ := toAs_ok (P := P) h10
              have hg : l.getD n k'.dflt = l[n] := by simp [List.getD_eq_getElem?_getD, hn]
              rw [hg, dr_eq] at h
              refine run_loadAt (us := cs.drop off) hok (fun j hj => ?_) rfl (h13.drop off) (fun u hu => h14 u (List.mem_of_mem_drop hu)) h
              simp at hj
              have e := h12 (off + j) (by omega)
              have hlt : off + j < cs.length := by omega
              rw [List.getElem?_eq_getElem hlt] at e
              rw [List.getElem_drop, World.cell?, h5]
              simp only [Option.isSome_none, Bool.false_eq_true, if_false]
              rw [← h9, List.getElem?_take] at e
              split at e
              · rw [← e, hk]
                simp [Nat.add_assoc]
              · cases e
          · exact h.elim
        · exact h.elim
      · exact h.elim
    · exact h.elim
end
end Go.Proofs.YthfmlelodmcgkaaGreat.V

set_option linter.unusedVariables false
set_option linter.unusedSimpArgs false
set_option linter.unusedSectionVars false
namespace Go.Proofs.YthfmlelodmcgkaaGreat.V
open Go
section
variable {P : Program} {X : Ctx} {os : List (Nat × Obj')} {E : Env}
theorem Inv.congr {os' : List (Nat × Obj')} (h : ∀ j, lk os' j = lk os j) (hI : Inv P X os E) : Inv P X os' E :=
  ⟨fun i => by rw [h]; exact hI.dom i, fun i o hi => hI.obj i o (by rw [← h]; exact hi), fun i j o o' hne hi hj => hI.dis i j o o' hne (by rw [← h]; exact hi) (by rw [← h]; exact hj),
    fun i o hi => hI.nof i o (by rw [← h]; exact hi), hI.flt, hI.fsub, hI.fsup, hI.os, hI.tape, hI.output, hI.size, hI.frm, hI.pin, hI.par⟩
theorem dead_ne {os : List (Nat × Obj')} {i j : Nat} {o : Obj'} (h : lk ((i, .dead) :: os) j = some o) (hl : o.live = true) : j ≠ i ∧ lk os j = some o := by
  by_cases e : i = j
  · subst e
    rw [lk_same] at h
    injection h with h
    subst h
    cases hl
  · rw [lk_ne _ _ e] at h
    exact ⟨Ne.symm e, h⟩
theorem take_mid {α : Type} (cur us : List α) (a L : Nat) (h : a + us.length ≤ L) (h2 : L ≤ cur.length) :
    (cur.take a ++ us ++ cur.drop (a + us.length)).take L = (cur.take L).take a ++ us ++ (cur.take L).drop (a + us.length) := by
  have e : (cur.take a ++ us).length = a + us.length := by simp; omega
  rw [List.take_append, List.take_of_length_le (by omega), e, List.drop_take, List.take_take, Nat.min_eq_left (by omega)]
theorem Inv.noX (hI : Inv P X os E) (d j : Nat) : ¬ X.D (oid d j) := fun h => by have := hI.pin _ h; unfold oid at this; omega
/-- A live object's blocks are written. -/
theorem Inv.upd (hI : Inv P X os E) {i : Nat} {o : Obj'} (hi : lk os i = some o) (hl : o.live = true) {b : Nat} (hb : E.φ i b) {w' : World} (hg : E.w.grownBy w' (some b)) (o' : Obj')
    (hsat : ∀ E' : Env, E.le E' → E'.w = w' → OSat P E' (E.σ i) (E.φ i) (E.ι i) o') : ∃ E', E'.w = w' ∧ E.le E' ∧ Inv P X ((i, o') :: os) E' := by
  have hD : E.D i := (hI.dom i).2 (by rw [hi]; rfl)
  have hk := hI.kill i hD
  have far : ∀ c, E.φ i c → ∀ j o2, lk ((i, .dead) :: os) j = some o2 → o2.live = true → ¬ E.φ j c := fun c hc j o2 hj h2 => by
    obtain ⟨hne, hj⟩ := dead_ne hj h2
    exact hI.dis i j o o2 (Ne.symm hne) hi hj hl h2 c hc
  obtain ⟨h1, h2⟩ := hk.world hg (fun c hc => by
    injection hc with hc
    subst hc
    exact ⟨(hI.nof i o hi hl b hb).1, (hI.nof i o hi hl b hb).2, far b hb⟩)
  obtain ⟨h3, h4⟩ := h1.set i (E.σ i) (E.φ i) (E.ι i) o' (fun _ => ⟨rfl, rfl⟩) (fun _ h => absurd hD h) (hsat _ (h2.trans (Env.at_le (fun _ => ⟨rfl, rfl⟩))) rfl) (fun _ c hc =>
    ⟨(hI.nof i o hi hl c hc).1, (hI.nof i o hi hl c hc).2, fun j o2 hne hj h2 => far c hc j o2 hj h2⟩)
  refine ⟨_, rfl, h2.trans h4, Inv.congr (fun j => ?_) h3⟩
  by_cases e : i = j
  · subst e; rw [lk_same, lk_same]
  · rw [lk_ne _ _ e, lk_ne _ _ e, lk_ne _ _ e]
/-- A live object goes over into another one, in its blocks or in new ones. -/
theorem Inv.move (hI : Inv P X os E) {i d : Nat} {o : Obj'} (hi : lk os i = some o) (hl : o.live = true) (hd : lk os d = none) (hX : ¬ X.D d) {w' : World} {row : Option Nat} (hg : E.w.grownBy w' row) (hrow : ∀ b, row = some b → E.φ i b) (v' : Value) (φ' : Nat → Prop) (ι' : Nat → Value) (o' : Obj')
    (hb : ∀ b, φ' b → E.φ i b ∨ E.w.heap.size ≤ b) (hsat : ∀ E' : Env, E.le E' → E'.w = w' → OSat P E' v' φ' ι' o') :
    ∃ E', E'.w = w' ∧ E.le E' ∧ Inv P X ((d, o') :: (i, .dead) :: os) E' ∧ E'.D d ∧ E'.σ d = v' := by
  have hD : E.D i := (hI.dom i).2 (by rw [hi]; rfl)
  have hnd : ¬ E.D d := by rw [hI.dom, hd]; simp
  have hk := hI.kill i hD
  have far : ∀ b, E.φ i b → ∀ j o2, lk ((i, .dead) :: os) j = some o2 → o2.live = true → ¬ E.φ j b := fun b hb j o2 hj h2 => by
    obtain ⟨hne, hj⟩ := dead_ne hj h2
    exact hI.dis i j o o2 (Ne.symm hne) hi hj hl h2 b hb
  obtain ⟨h1, h2⟩ := hk.world hg (fun c hc => ⟨(hI.nof i o hi hl c (hrow c hc)).1, (hI.nof i o hi hl c (hrow c hc)).2, far c (hrow c hc)⟩)
  obtain ⟨h3, h4⟩ := h1.set d v' φ' ι' o' (fun h => absurd h hnd) (fun h => absurd h hX) (hsat _ (h2.trans (Env.at_le (fun h => absurd h hnd))) rfl) (fun _ c hc => by
      rcases hb c hc with h | h
      · exact ⟨(hI.nof i o hi hl c h).1, (hI.nof i o hi hl c h).2, fun j o2 hne hj h2 => far c h j o2 hj h2⟩
      · exact ⟨fun hF => by have := hI.flt c hF; omega, .inl (Nat.le_trans hI.size h), fun j o2 hne hj h2 hc' => by
          have := hk.lt j o2 hj h2 c hc'; omega⟩)
  exact ⟨_, rfl, h2.trans h4, h3, .inl rfl, by simp [Env.at]⟩
theorem cells_ok {r : Rv} {u : Value} {zs : List A} (h : cellsOf r = some zs) (hr : RV P E r u) : ∃ us : List Value, u.cells = us.toArray ∧ All2 (AV P E) zs us ∧ ∀ x ∈ us, x.oneCell' = true := by
  unfold cellsOf at h
  split at h
  · cases h
  · rename_i a hne
    injection h with h
    subst h
    have hr' : CV P E (.one a) u := by cases a <;> first | exact absurd rfl hne | exact hr
    refine ⟨[u], ?_, ⟨hr'.1, trivial⟩, by simpa using hr'.2⟩
    have := hr'.2
    cases u <;> first | rfl | cases this
  · injection h with h
    subst h
    obtain ⟨us, rfl, h1, h2⟩ := hr
    exact ⟨us, rfl, h1, h2⟩
  · cases h
theorem run_storeAt {y : Ty} (hy : TyOk P y) {w : World} {b off : Nat} {cur : Array Value} {t : TypeId} {v : Value} {us : List Value} (hc : v.cells = us.toArray) (hl : us.length = y.size)
    (hh : w.heap[b]? = some (.cells cur t (0, 0))) (hf : off + us.length ≤ cur.size) (h1 : ∀ u ∈ us, u.oneCell' = true) :
    (Instr.storeAt y.t (.pointer (some ⟨b, off, none⟩)) v).run P w = .ok () (w.setRow b (cur.toList.take off ++ us ++ cur.toList.drop (off + us.length)).toArray) := by
  have := run_storeCells_at P b off t us 0 cur w hh (by simpa using hf) h1
  simp only [Nat.add_zero] at this
  simp [Instr.storeAt, Instr.sureAddr, storeVar, hy.sizeOf w, hc, hl, this]
end
def storeM (tys : List Ty) (t : Nat) (x z : Rv) : M :=
  match ty? tys t, cellsOf z with
  | some y, some zs => match Nat.beq (ln zs) y.size with
    | true => match x with
      | .val (.one (.ptr i off)) => .get i fun o => match o with
        | .box t' as => match Nat.ble (off + y.size) (ln as) with
          | true => .put i (.box t' (tk off as ++ zs ++ dr (off + y.size) as)) (.ret (.val (.one .undef)))
          | false => .fail
        | _ => .fail
      | .val (.one (.elt k i n 0)) => .get i fun o => match o with
        | .row t' k' l => match Nat.beq k.cells k'.cells, k'.ofAs zs with
          | true, some z => .put i (.row t' k' (l.set n z)) (.ret (.val (.one .undef)))
          | _, _ => .fail
        | _ => .fail
      | _ => .fail
    | false => .fail
  | _, _ => .fail
section
variable {P : Program} {X : Ctx} {os : List (Nat × Obj')} {E : Env} {K : Rv → List (Nat × Obj') → Prop}
theorem store_ok {tys : List Ty} (ht : ∀ y ∈ tys, TyOk P y) (hI : Inv P X os E) {t : Nat} {x z : Rv} {ux uz : Value} (hx : RV P E x ux) (hz : RV P E z uz) (h : (storeM tys t x z).run os K) :
    ∃ w', (Instr.storeAt t ux uz).run P E.w = .ok () w' ∧ Out P X E K undef w' := by
  unfold storeM at h
  split at h
  · rename_i y zs hy hzs
    obtain ⟨hok, rfl⟩ := ty?_ok ht hy
    obtain ⟨us, hu, ha, h1⟩ := cells_ok hzs hz
    split at h
    · rename_i hl
      have hl := Nat.eq_of_beq_eq_true hl
      rw [ln_eq, ha.length] at hl
      split at h
      · rename_i i off
        obtain ⟨⟨hD, b, hs, rfl⟩, _⟩ := hx
        simp only [M.run] at h
        split at h
        · rename_i o ho
          split at h
          · rename_i t' as
            split at h
            · rename_i hle
              have hle := Nat.le_of_ble_eq_true hle
              rw [ln_eq] at hle
              simp only [M.run, ho] at h
              obtain ⟨b', vs, h2, h3, h4, h5, hφ⟩ := hI.obj i _ ho
              have : b' = b := by rw [hs] at h2; simpa using h2.symm
              subst this
              have hlen := h4.length
              have hr := run_storeAt (v := uz) (off := off) hok hu hl h3 (by simp; omega) h1
              refine ⟨_, hr, ?_⟩
              obtain ⟨E', h6, h7, h8⟩ := hI.upd (i := i) (b := b') ho rfl ((hφ b').2 (by rw [hs]; rfl)) (grown_row E.w b' _) (.box t' (tk off as ++ zs ++ dr (off + y.size) as)) (fun E' hle' hw => by
                refine ⟨b', vs.take off ++ us ++ vs.drop (off + us.length), by rw [hs], ?_, ?_, ?_, hφ⟩
                · rw [hw]
                  exact setRow_heap E.w b' _ _ t' _ h3
                · rw [tk_eq, dr_eq, ← hl]
                  exact ((h4.take _).append ha |>.append (h4.drop _)).imp (fun _ _ h => AV.mono hle' h)
                · intro u hu
                  rcases List.mem_append.1 hu with hu | hu
                  · rcases List.mem_append.1 hu with hu | hu
                    · exact h5 u (List.mem_of_mem_take hu)
                    · exact h1 u hu
                  · exact h5 u (List.mem_of_mem_drop hu))
              exact ⟨E', .val (.one .undef), _, h6, h7, h8, trivial, h⟩
            · exact h.elim
          · exact h.elim
        · exact h.elim
      · rename_i k i n
        obtain ⟨⟨hD, b, len, c, hs, hn, rfl⟩, _⟩ := hx
        simp only [M.run] at h
        split at h
        · rename_i o ho
          split at h
          · rename_i t' k' l
            split at h
            · rename_i z hk hz'
              have hk := Nat.eq_of_beq_eq_true hk
              simp only [M.run, ho] at h
              have hrep := ofAs_ok ha hz'
              have hul : us.length = k'.cells := hrep.length
              obtain ⟨xs, ⟨h2, h3⟩, h4, h5, hφ⟩ := hI.obj i _ ho
              rw [hs] at h3
              rcases h3 with ⟨h3, _⟩ | ⟨g, cap, cur, h3, _, h6, h7, h8, h9, h10⟩
              · cases h3
              · injection h3 with h3 h3' h3''
                obtain rfl : b = g := by simpa using h3
                subst h3'
                subst h3''
                have hxl := h4.length
                have hmul : n * k'.cells + k'.cells ≤ l.length * k'.cells := by rw [← Nat.succ_mul]; exact Nat.mul_le_mul_right _ hn
                have hmul2 : l.length * k'.cells ≤ c * k'.cells := Nat.mul_le_mul_right _ h7
                have hr := run_storeAt (v := uz) (off := n * k'.cells + 0) hok hu hl h6 (by omega) h1
                rw [hk]
                refine ⟨_, hr, ?_⟩
                obtain ⟨E', h11, h12, h13⟩ := hI.upd (i := i) (b := b) ho rfl ((hφ b).2 (by rw [hs]; rfl)) (grown_row E.w b (cur.toList.take (n * k'.cells + 0) ++ us ++ cur.toList.drop (n * k'.cells + 0 + us.length)).toArray) (.row t' k' (l.set n z)) (fun E' hle' hw => by
                  refine ⟨xs.take (n * k'.cells) ++ us ++ xs.drop (n * k'.cells + k'.cells), ?_, ?_, by simpa using h5, hφ⟩
                  · rw [hs, hw]
                    refine ⟨by simp; omega, .inr ⟨b, c, _, by simp, Nat.zero_le _, setRow_heap E.w b _ _ t' _ h6, by simpa using h7, h8, ?_, ?_⟩⟩
                    · simp; omega
                    · rw [← h10]
                      simp only [List.length_set, Nat.add_zero, hul]
                      have := take_mid cur.toList us (n * k'.cells) (l.length * k'.cells) (by omega) (by simp; omega)
                      rw [hul] at this
                      simpa using this
                  · exact (Reps.set hrep h4 n hn).imp (fun _ _ h => Rep.mono (fun b hb _ => hle'.F b hb) hle'.w h))
                exact ⟨E', .val (.one .undef), _, h11, h12, h13, trivial, h⟩
            · exact h.elim
          · exact h.elim
        · exact h.elim
      · exact h.elim
    · exact h.elim
  · exact h.elim
end
end Go.Proofs.YthfmlelodmcgkaaGreat.V

set_option linter.unusedVariables false
set_option linter.unusedSimpArgs false
set_option linter.unusedSectionVars false
namespace Go.Proofs.YthfmlelodmcgkaaGreat.V
open Go
theorem maxLen_ge : 1099511627776 ≤ maxLen := by decide
theorem Reps.of_get {F : Nat → Prop} {w : World} {k : Kn} : ∀ {l : List k.T} {cs : List Value}, cs.length = l.length * k.cells → (∀ j (h : j < l.length), Rep F w k l[j] ((cs.drop (j * k.cells)).take k.cells)) → Reps F w k l cs
  | [], cs, h, _ => List.eq_nil_of_length_eq_zero (by simpa using h)
  | x :: l, cs, h, h1 => by
    refine ⟨cs.take k.cells, cs.drop k.cells, (List.take_append_drop _ _).symm, by have h := h1 0 (by simp); simp only [Nat.zero_mul, List.drop_zero] at h; exact h, Reps.of_get ?_ (fun j hj => ?_)⟩
    · simp only [List.length_drop, h, List.length_cons, Nat.add_mul]; omega
    · have := h1 (j + 1) (by simpa using hj)
      simp only [List.getElem_cons_succ] at this
      rwa [List.drop_drop, Nat.add_comm k.cells, ← Nat.succ_mul]
theorem Reps.made {F : Nat → Prop} {w : World} {k : Kn} {x : k.T} {z : Array Value} (hz : z.size = k.cells) (h : Rep F w k x z.toList) (n : Nat) : Reps F w k (List.replicate n x) (madeCells z (n * k.cells)).toList := by
  refine Reps.of_get (by simp [size_madeCells]) (fun j hj => ?_)
  have hp := k.cells_pos
  simp only [List.length_replicate] at hj
  have : (((madeCells z (n * k.cells)).toList.drop (j * k.cells)).take k.cells) = z.toList := by
    apply List.ext_getElem
    · have : j * k.cells + k.cells ≤ n * k.cells := by rw [← Nat.succ_mul]; exact Nat.mul_le_mul_right _ hj
      simp [size_madeCells]; omega
    · intro i h1 h2
      simp only [Array.length_toList] at h2
      simp [madeCells, hz, Nat.mul_comm j, Nat.mul_add_mod, Nat.mod_eq_of_lt (show i < k.cells by omega), getElem!_pos z i h2]
  rw [this]
  simpa using h
def sliceE (tys : List Ty) (t : Nat) : Option Ty :=
  match ty? tys t with
  | some y => match y.d with
    | .sl e => ty? tys e
    | _ => none
  | none => none
theorem sliceE_ok {P : Program} {tys : List Ty} (ht : ∀ y ∈ tys, TyOk P y) {t : Nat} {y : Ty} (h : sliceE tys t = some y) : TyOk P y ∧ P.underlying t = some (.slice y.t) := by
  unfold sliceE at h
  split at h
  · rename_i y0 h0
    obtain ⟨h1, rfl⟩ := ty?_ok ht h0
    split at h
    · rename_i e he
      obtain ⟨h2, rfl⟩ := ty?_ok ht h
      obtain ⟨d, h3, h4⟩ := h1.und
      rw [he] at h4
      cases d <;> simp [TD.of] at h4
      subst h4
      exact ⟨h2, h3⟩
    · cases h
  · cases h
def allocM (tys : List Ty) (d t : Nat) : M :=
  match ty? tys t with
  | some y => match y.zs.all plainB, y.d.agg || Nat.beq (ln y.zs) 1 with
    | true, true => .new (oid d 0) (.box t (y.zs.map .v)) (.ret (.val (.one (.ptr (oid d 0) 0))))
    | _, _ => .fail
  | none => .fail
def boxM (d t : Nat) (r : Rv) : M :=
  match cellsOf r with
  | some as => .new (oid d 0) (.box t as) (.ret (.val (.one (.ptr (oid d 0) 0))))
  | none => .fail
def makeM (tys : List Ty) (d t : Nat) (l c : Rv) : M :=
  match sliceE tys t, l, c with
  | some y, .val (.one (.v (.int _ x))), .val (.one (.v (.int _ z))) => match y.zs.all plainB, Nat.beq (ln y.zs) y.k.cells && (y.d.agg || Nat.beq (ln y.zs) 1) && Nat.beq y.size y.k.cells && Nat.ble y.bytes 256, y.k.ofAs (y.zs.map .v) with
    | true, true, some z0 => .need (0 ≤ x ∧ x ≤ 1099511627776 ∧ z = x) (.new (oid d 0) (.row y.t y.k (List.replicate x.toNat z0)) (.ret (.val (.one (.own (oid d 0))))))
    | _, _, _ => .fail
  | _, _, _ => .fail
/-- Rows inside are left as they are from now on. -/
def frA (a : A) (K : A → M) : M :=
  match a with
  | .own i => .get i fun o => match o with
    | .row _ k l => .put i (.fz k l) (K (.ro k l))
    | .drow _ k l => .put i (.fz k l) (K (.ro k l))
    | .fz k l => K (.ro k l)
    | _ => .fail
  | a => K a
def frL : List A → (List A → M) → M
  | [], K => K []
  | a :: r, K => frA a fun a' => frL r fun r' => K (a' :: r')
def elems (k : Kn) (ρ : Nat → Rv) : Nat → List (Nat × Operand) → (List k.T → M) → M
  | _, [], K => K []
  | i, (j, x) :: r, K => match Nat.beq i j, cellsOf (ev ρ x) with
    | true, some as => frL as fun as' => match k.ofAs as' with
      | some z => elems k ρ (i + 1) r fun zs => K (z :: zs)
      | none => .fail
    | _, _ => .fail
def plainF : A → Bool
  | .own _ => false | _ => true
def plL : List A → Bool
  | [] => true
  | a :: r => plainF a && plL r
def plO (k : Kn) (r : Rv) : Option k.T := match cellsOf r with
  | some as => match plL as with
    | true => k.ofAs as
    | false => none
  | none => none
/-- The elements of a literal that owns no rows: told without what is done with them. -/
def valsV (k : Kn) (ρ : Nat → Rv) : Nat → List (Nat × Operand) → Option (List k.T)
  | _, [] => some []
  | i, (j, x) :: r => match Nat.beq i j, plO k (ev ρ x), valsV k ρ (i + 1) r with
    | true, some z, some zs => some (z :: zs)
    | _, _, _ => none
theorem frL_pl : ∀ {as : List A} {K : List A → M}, plL as = true → frL as K = K as
  | [], K, _ => rfl
  | a :: r, K, h => by
    have h : (plainF a && plL r) = true := h
    rw [Bool.and_eq_true] at h
    have e : ∀ (a : A) (K : A → M), plainF a = true → frA a K = K a := fun a K h => by
      cases a <;> first | rfl | cases h
    rw [frL, e a _ h.1, frL_pl h.2]
theorem valsV_ok {k : Kn} {ρ : Nat → Rv} : ∀ {parts : List (Nat × Operand)} {i : Nat} {zs : List k.T} {K : List k.T → M}, valsV k ρ i parts = some zs → elems k ρ i parts K = K zs
  | [], i, zs, K, h => by injection h with h; subst h; rfl
  | (j, x) :: r, i, zs, K, h => by
    unfold valsV at h
    split at h
    · rename_i z zs' h1 h2 h3
      injection h with h; subst h
      unfold plO at h2
      split at h2
      · rename_i as' h4
        split at h2
        · rename_i h5
          simp only [elems, h1, h4, frL_pl h5, h2]
          exact valsV_ok h3
        · cases h2
      · cases h2
    · cases h
def litM (tys : List Ty) (ρ : Nat → Rv) (d t n : Nat) (parts : Array (Nat × Operand)) : M :=
  match sliceE tys t with
  | some y => match Nat.beq (ln parts.toList) n && Nat.beq y.size y.k.cells && Nat.ble (n * y.size) 16777216 with
    | true => match valsV y.k ρ 0 parts.toList with
      | some zs => .new (oid d 0) (.row y.t y.k zs) (.ret (.val (.one (.own (oid d 0)))))
      | none => elems y.k ρ 0 parts.toList fun zs => .new (oid d 0) (.row y.t y.k zs) (.ret (.val (.one (.own (oid d 0)))))
    | false => .fail
  | none => .fail
section
variable {P : Program} {X : Ctx} {os : List (Nat × Obj')} {E : Env} {K : Rv → List (Nat × Obj') → Prop}
theorem zero_cells {y : Ty} (h : (y.d.agg || Nat.beq (ln y.zs) 1) = true) (hp : y.zs.all plainB = true) : y.zero.cells = y.zs.toArray := by
  unfold Ty.zero
  split
  · rfl
  · rename_i hg
    rw [hg, Bool.false_or, ln_eq] at h
    have h := Nat.eq_of_beq_eq_true h
    rcases hz : y.zs with _ | ⟨z, _ | ⟨_, _⟩⟩
    · rw [hz] at h; cases h
    · rw [hz] at hp
      simp only [List.all_cons, List.all_nil, Bool.and_true] at hp
      have := (plainB_ok hp).2
      simp only [List.headD_cons]
      cases z <;> first | rfl | cases this
    · rw [hz] at h; simp at h
theorem alloc_ok {tys : List Ty} (ht : ∀ y ∈ tys, TyOk P y) (hI : Inv P X os E) {d t : Nat} (h : (allocM tys d t).run os K) :
    ∃ v w', (Instr.alloc t true (.tuple #[])).run P E.w = .ok v w' ∧ Out P X E K v w' := by
  unfold allocM at h
  split at h
  · rename_i y hy
    obtain ⟨hok, rfl⟩ := ty?_ok ht hy
    split at h
    · rename_i hp hs
      simp only [M.run] at h
      split at h
      · rename_i hi
        have hz := zero_cells hs hp
        obtain ⟨h1, h2⟩ := All2.all_v (P := P) (E := E) hp
        obtain ⟨E', h3, h4, h5, h6, h7⟩ := hI.made (grown_alloc E.w (.cells y.zs.toArray y.t)) (oid d 0) hi (hI.noX d 0) (.pointer (some ⟨E.w.heap.size, 0, none⟩)) (fun b => blkOf (.pointer (some ⟨E.w.heap.size, 0, none⟩)) = some b) (fun _ => undef) (.box y.t (y.zs.map .v)) (fun b hb => by
          have : E.w.heap.size = b := by simpa [blkOf] using hb
          omega) (fun E' hle hw => ⟨E.w.heap.size, y.zs, rfl, by rw [hw]; exact heap_alloc_new E.w _, h1.imp (fun _ _ h => AV.mono hle h), h2, fun _ => Iff.rfl⟩)
        refine ⟨.pointer (some ⟨E.w.heap.size, 0, none⟩), E.w.alloc (.cells y.zs.toArray y.t), ?_, E', .val (.one (.ptr (oid d 0) 0)), _, h3, h4, h5, ⟨⟨h6, E.w.heap.size, h7, rfl⟩, rfl⟩, h⟩
        simp [Instr.alloc, hok.zeroValue E.w, newVar, newRow, hz]
      · exact h.elim
    · exact h.elim
  · exact h.elim
theorem box_ok (hI : Inv P X os E) {d t : Nat} {r : Rv} {u : Value} (hr : RV P E r u) (h : (boxM d t r).run os K) :
    ∃ v w', (Instr.box t u).run P E.w = .ok v w' ∧ Out P X E K v w' := by
  unfold boxM at h
  split at h
  · rename_i as has
    obtain ⟨us, hu, h1, h2⟩ := cells_ok has hr
    simp only [M.run] at h
    split at h
    · rename_i hi
      obtain ⟨E', h3, h4, h5, h6, h7⟩ := hI.made (grown_alloc E.w (.cells us.toArray t)) (oid d 0) hi (hI.noX d 0) (.pointer (some ⟨E.w.heap.size, 0, none⟩)) (fun b => blkOf (.pointer (some ⟨E.w.heap.size, 0, none⟩)) = some b) (fun _ => undef) (.box t as) (fun b hb => by
        have : E.w.heap.size = b := by simpa [blkOf] using hb
        omega) (fun E' hle hw => ⟨E.w.heap.size, us, rfl, by rw [hw]; exact heap_alloc_new E.w _, h1.imp (fun _ _ h => AV.mono hle h), h2, fun _ => Iff.rfl⟩)
      refine ⟨.pointer (some ⟨E.w.heap.size, 0, none⟩), E.w.alloc (.cells us.toArray t), ?_, E', .val (.one (.ptr (oid d 0) 0)), _, h3, h4, h5, ⟨⟨h6, E.w.heap.size, h7, rfl⟩, rfl⟩, h⟩
      simp [Instr.box, newVar, newRow, hu]
    · exact h.elim
  · exact h.elim
/-- A row in a new block. -/
theorem Inv.lit (hI : Inv P X os E) {i : Nat} (hi : lk os i = none) (hX : ¬ X.D i) (t : TypeId) (k : Kn) (l : List k.T) (cs : List Value) (hr : Reps E.F E.w k l cs) (hl : l.length ≤ maxLen) :
    ∃ E', E'.w = E.w.alloc (.cells cs.toArray t) ∧ E.le E' ∧ Inv P X ((i, .row t k l) :: os) E' ∧ RV P E' (.val (.one (.own i))) (.slice (some ⟨E.w.heap.size, 0, none⟩) l.length l.length) := by
  obtain ⟨E', h3, h4, h5, h6, h7⟩ := hI.made (grown_alloc E.w (.cells cs.toArray t)) i hi hX (.slice (some ⟨E.w.heap.size, 0, none⟩) l.length l.length) (fun b => blkOf (.slice (some ⟨E.w.heap.size, 0, none⟩) l.length l.length) = some b) (fun _ => undef) (.row t k l) (fun b hb => by
    have : E.w.heap.size = b := by simpa [blkOf] using hb
    omega) (fun E' hle hw => ⟨cs, ⟨hr.length, .inr ⟨E.w.heap.size, l.length, cs.toArray, rfl, Nat.zero_le _, by rw [hw]; exact heap_alloc_new E.w _, Nat.le_refl _, hl, by simpa using hr.length, by
      simp [← hr.length]⟩⟩, hr.imp (fun _ _ h => Rep.mono (fun b hb _ => hle.F b hb) hle.w h), hl, fun _ => Iff.rfl⟩)
  exact ⟨E', h3, h4, h5, ⟨h6, h7.symm⟩, rfl⟩
theorem make_ok {tys : List Ty} (ht : ∀ y ∈ tys, TyOk P y) (hI : Inv P X os E) {d t : Nat} {l c : Rv} {ul uc : Value} (hl : RV P E l ul) (hc : RV P E c uc) (h : (makeM tys d t l c).run os K) :
    ∃ v w', (Instr.makeSlice t ul uc).run P E.w = .ok v w' ∧ Out P X E K v w' := by
  unfold makeM at h
  split at h
  · rename_i y kl x kc z hy
    obtain ⟨hok, hu⟩ := sliceE_ok ht hy
    obtain ⟨⟨rfl, _⟩, _⟩ := hl
    obtain ⟨⟨rfl, _⟩, _⟩ := hc
    split at h
    · rename_i z0 hp hs hz0
      simp only [Bool.and_eq_true] at hs
      obtain ⟨⟨⟨hs1, hs2⟩, hs3⟩, hs4⟩ := hs
      have hs1 := Nat.eq_of_beq_eq_true hs1
      have hs3 := Nat.eq_of_beq_eq_true hs3
      have hs4 := Nat.le_of_ble_eq_true hs4
      rw [ln_eq] at hs1
      simp only [M.run] at h
      obtain ⟨⟨h0, h40, hzx⟩, h⟩ := h
      obtain rfl : x = z := hzx.symm
      split at h
      · rename_i hi
        obtain ⟨i, hinfo, hsz, hby, hz⟩ := hok.info
        have hzc := zero_cells hs2 hp
        have hbt : (i.bytes : Int) * x ≤ 281474976710656 := by
          rw [hby]
          have : (y.bytes : Int) ≤ 256 := by omega
          calc (y.bytes : Int) * x ≤ 256 * x := Int.mul_le_mul_of_nonneg_right this h0
            _ ≤ _ := by omega
        have hr := run_make (P := P) E.w t y.t i y.zero hu hinfo hz kl kc x x h0 (Int.le_refl _) hbt (by omega)
        have hrep := ofAs_ok (All2.all_v (P := P) (E := E) hp).1 hz0
        have hre := Reps.made (z := y.zs.toArray) (by rw [List.size_toArray]; exact hs1) (by exact hrep) x.toNat
        obtain ⟨E', h3, h4, h5, h6⟩ := hI.lit hi (hI.noX d 0) y.t y.k (List.replicate x.toNat z0) _ hre (by rw [List.length_replicate]; exact Nat.le_trans (by omega) maxLen_ge)
        simp only [List.length_replicate] at h6
        rw [hzc, hsz, hs3] at hr
        exact ⟨_, _, hr, E', .val (.one (.own (oid d 0))), _, by rw [h3], h4, h5, h6, h⟩
      · exact h.elim
    · exact h.elim
  · exact h.elim
/-- An object is left as it is. -/
theorem Inv.still (hI : Inv P X os E) {i : Nat} {o o' : Obj'} (hi : lk os i = some o) (hlv : o.live = true) (hd : o'.live = false) (hsat : OSat P { E with F := fun b => E.F b ∨ E.φ i b } (E.σ i) (E.φ i) (E.ι i) o') :
    ∃ E', E'.w = E.w ∧ E.le E' ∧ Inv P X ((i, o') :: os) E' ∧ OSat P E' (E.σ i) (E.φ i) (E.ι i) o' := by
  let E1 : Env := { E with F := fun b => E.F b ∨ E.φ i b }
  have hle : E.le E1 := ⟨fun _ h => .inl h, fun _ _ => rfl, fun _ h => h, fun _ _ => rfl, fun _ _ => rfl⟩
  have look : ∀ j o2, lk ((i, o') :: os) j = some o2 → (j = i ∧ o2 = o') ∨ (j ≠ i ∧ lk os j = some o2) := fun j o hj => by
    by_cases e : i = j
    · subst e
      rw [lk_same] at hj
      injection hj with hj
      exact .inl ⟨rfl, hj.symm⟩
    · rw [lk_ne _ _ e] at hj
      exact .inr ⟨Ne.symm e, hj⟩
  refine ⟨E1, rfl, hle, ⟨fun j => ?_, fun j o hj => ?_, fun j j' o o2 hne hj hj' h1 h2 => ?_, fun j o hj hl b hb => ?_, ?_, ?_, fun b hb => .inl (hI.fsup b hb), hI.os, hI.tape, hI.output, hI.size, hI.frm, hI.pin, hI.par⟩, hsat⟩
  · by_cases e : i = j
    · subst e
      rw [lk_same]
      simpa using (hI.dom i).2 (by rw [hi]; rfl)
    · rw [lk_ne _ _ e]
      exact hI.dom j
  · rcases look j o hj with ⟨rfl, rfl⟩ | ⟨hne, hj⟩
    · exact hsat
    · exact OSat.mono hle (fun _ _ _ => rfl) (hI.obj j o hj)
  · rcases look j o hj with ⟨rfl, rfl⟩ | ⟨hne1, k1⟩
    · rw [hd] at h1; cases h1
    · rcases look j' o2 hj' with ⟨rfl, rfl⟩ | ⟨hne2, k2⟩
      · rw [hd] at h2; cases h2
      · exact hI.dis j j' o o2 hne k1 k2 h1 h2
  · rcases look j o hj with ⟨rfl, rfl⟩ | ⟨hne1, hj⟩
    · rw [hd] at hl; cases hl
    · obtain ⟨h5, h6⟩ := hI.nof j o hj hl b hb
      exact ⟨fun h => h.elim h5 (hI.dis j i o _ hne1 hj hi hl hlv b hb), h6⟩
  · rintro b (hb | hb)
    · exact hI.flt b hb
    · exact hI.lt i _ hi hlv b hb
  · rintro b (hb | hb)
    · exact hI.fsub b hb
    · exact .inr (hI.nof i _ hi hlv b hb).2
theorem Inv.freezeO (hI : Inv P X os E) {i : Nat} {o : Obj'} {k : Kn} {l : List k.T} (hi : lk os i = some o) (hlv : o.live = true) (hro : RO (fun b => E.F b ∨ E.φ i b) E.w (Rep (fun b => E.F b ∨ E.φ i b) E.w k) k.cells l (E.σ i)) :
    ∃ E', E'.w = E.w ∧ E.le E' ∧ Inv P X ((i, .fz k l) :: os) E' ∧ AV P E' (.ro k l) (E.σ i) :=
  hI.still (o' := .fz k l) hi hlv rfl hro
theorem Inv.freeze (hI : Inv P X os E) {i : Nat} {t : TypeId} {k : Kn} {l : List k.T} (hi : lk os i = some (.row t k l)) :
    ∃ E', E'.w = E.w ∧ E.le E' ∧ Inv P X ((i, .fz k l) :: os) E' ∧ AV P E' (.ro k l) (E.σ i) := by
  obtain ⟨xs, h1, h3, h4, hφ⟩ := hI.obj i _ hi
  exact hI.freezeO hi rfl (RO.of_row h1 (h3.imp (fun _ _ h => Rep.mono (fun b hb _ => .inl hb) (fun _ _ => rfl) h)) h4 (fun b hb => .inr ((hφ b).2 hb)))
theorem Inv.freezeD (hI : Inv P X os E) {i : Nat} {t : TypeId} {k : Kn} {l : List k.T} (hi : lk os i = some (.drow t k l)) :
    ∃ E', E'.w = E.w ∧ E.le E' ∧ Inv P X ((i, .fz k l) :: os) E' ∧ AV P E' (.ro k l) (E.σ i) := by
  obtain ⟨xs, φ', h1, h3, h4, hφ, _⟩ := hI.obj i _ hi
  exact hI.freezeO hi rfl (RO.of_row h1 (h3.reps (fun ψ x c hψ h => DRep.rep (fun b hb => .inr ((hφ b).2 (.inr (hψ b hb)))) h)) h4 (fun b hb => .inr ((hφ b).2 (.inl hb))))
theorem frA_ok {a : A} {u : Value} {Kf : A → M} (hI : Inv P X os E) (ha : AV P E a u) (h : (frA a Kf).run os K) :
    ∃ E' os' a', E'.w = E.w ∧ E.le E' ∧ Inv P X os' E' ∧ AV P E' a' u ∧ (Kf a').run os' K := by
  unfold frA at h
  split at h
  · rename_i i
    simp only [M.run] at h
    split at h
    · rename_i o ho
      split at h
      · simp only [M.run, ho] at h
        obtain ⟨E', h1, h2, h3, h4⟩ := hI.freeze ho
        rw [← ha.2] at h4
        exact ⟨E', _, _, h1, h2, h3, h4, h⟩
      · simp only [M.run, ho] at h
        obtain ⟨E', h1, h2, h3, h4⟩ := hI.freezeD ho
        rw [← ha.2] at h4
        exact ⟨E', _, _, h1, h2, h3, h4, h⟩
      · rename_i k l
        refine ⟨E, os, _, rfl, .refl E, hI, ?_, h⟩
        rw [ha.2]
        exact hI.obj i _ ho
      · exact h.elim
    · exact h.elim
  · exact ⟨E, os, a, rfl, .refl E, hI, ha, h⟩
theorem frL_ok : ∀ {as : List A} {us : List Value} {Kf : List A → M} {os : List (Nat × Obj')} {E : Env} (hI : Inv P X os E) (ha : All2 (AV P E) as us) (h : (frL as Kf).run os K),
    ∃ E' os' as', E'.w = E.w ∧ E.le E' ∧ Inv P X os' E' ∧ All2 (AV P E') as' us ∧ (Kf as').run os' K
  | [], us, Kf, os, E, hI, ha, h => ⟨E, os, [], rfl, .refl E, hI, ha, h⟩
  | a :: r, [], Kf, os, E, hI, ha, h => ha.elim
  | a :: r, u :: us, Kf, os, E, hI, ha, h => by
    obtain ⟨E1, os1, a', h1, h2, h3, h4, h5⟩ := frA_ok hI ha.1 h
    obtain ⟨E2, os2, as', h6, h7, h8, h9, h10⟩ := frL_ok h3 (ha.2.imp (fun _ _ h => AV.mono h2 h)) h5
    exact ⟨E2, os2, a' :: as', h6.trans h1, h2.trans h7, h8, ⟨AV.mono h7 h4, h9⟩, h10⟩
theorem elems_ok {y : Ty} {n : Nat} {ρ : Nat → Rv} {a : Act} : ∀ {parts : List (Nat × Operand)} {i : Nat} {os : List (Nat × Obj')} {E : Env} {Kf : List y.k.T → M} (hI : Inv P X os E) (hr : Regs P E n ρ a)
    (h : (elems y.k ρ i parts Kf).run os K), ∃ E' os' zs vs, E'.w = E.w ∧ E.le E' ∧ Inv P X os' E' ∧ (Kf zs).run os' K ∧ zs.length = parts.length ∧ (vs : List Value).length = parts.length ∧
      parts.map (fun p => (p.1, a.eval p.2)) = (vs.zipIdx i).map (fun x => (x.2, x.1)) ∧ (∀ v ∈ vs, v.cells.size = y.k.cells) ∧ Reps E'.F E'.w y.k zs (vs.flatMap fun v => v.cells.toList)
  | [], i, os, E, Kf, hI, hr, h => ⟨E, os, [], [], rfl, .refl E, hI, h, rfl, rfl, rfl, (fun _ h => by cases h), rfl⟩
  | (j, x) :: r, i, os, E, Kf, hI, hr, h => by
    unfold elems at h
    split at h
    · rename_i as hj has
      have hj := Nat.eq_of_beq_eq_true hj
      subst hj
      obtain ⟨us, hu, h1, h2⟩ := cells_ok has (ev_ok hr x)
      obtain ⟨E1, os1, as', h3, h4, h5, h6, h7⟩ := frL_ok hI h1 h
      split at h7
      · rename_i z hz
        have hrep := ofAs_ok h6 hz
        obtain ⟨E2, os2, zs, vs, h8, h9, h10, h11, h12, h13, h14, h15, h16⟩ := elems_ok h5 ⟨hr.defers, hr.size, fun t => RV.mono h4 (hr.reg t)⟩ h7
        have hcl : (a.eval x).cells.toList = us := by rw [hu]
        refine ⟨E2, os2, z :: zs, a.eval x :: vs, h8.trans h3, h4.trans h9, h10, h11, by simp [h12], by simp [h13], ?_, fun v hv => ?_, us, _, ?_, Rep.mono (fun b hb _ => h9.F b hb) h9.w hrep, h16⟩
        · simp [h14, List.zipIdx_cons]
        · rcases List.mem_cons.1 hv with rfl | hv
          · rw [hu, List.size_toArray]; exact hrep.length
          · exact h15 v hv
        · simp [hcl]
      · exact h7.elim
    · exact h.elim
theorem lit_ok {tys : List Ty} (ht : ∀ y ∈ tys, TyOk P y) (hI : Inv P X os E) {nn : Nat} {ρ : Nat → Rv} {a : Act} (hr : Regs P E nn ρ a) {d t n : Nat} {parts : Array (Nat × Operand)} (h : (litM tys ρ d t n parts).run os K) :
    ∃ v w', (Instr.buildSlice t n (parts.map fun (i, x) => (i, a.eval x))).run P E.w = .ok v w' ∧ Out P X E K v w' := by
  unfold litM at h
  split at h
  · rename_i y hy
    obtain ⟨hok, hu⟩ := sliceE_ok ht hy
    split at h
    · rename_i hs
      have h : (elems y.k ρ 0 parts.toList fun zs => .new (oid d 0) (.row y.t y.k zs) (.ret (.val (.one (.own (oid d 0)))))).run os K := by
        cases hv : valsV y.k ρ 0 parts.toList with
        | some zs =>
          rw [hv] at h
          rw [valsV_ok hv]
          exact h
        | none =>
          rw [hv] at h
          exact h
      simp only [Bool.and_eq_true] at hs
      obtain ⟨⟨hs1, hs2⟩, hs3⟩ := hs
      have hs1 := Nat.eq_of_beq_eq_true hs1
      have hs2 := Nat.eq_of_beq_eq_true hs2
      have hs3 := Nat.le_of_ble_eq_true hs3
      rw [ln_eq] at hs1
      obtain ⟨E1, os1, zs, vs, h3, h4, h5, h6, h7, h8, h9, h10, h11⟩ := elems_ok hI hr h
      obtain ⟨i, hinfo, hsz, hby, hz⟩ := hok.info
      have hp := y.k.cells_pos
      simp only [M.run] at h6
      split at h6
      · rename_i hi
        have hrun : (Instr.buildSlice t n (parts.map fun (i, x) => (i, a.eval x))).run P E.w = .ok (.slice (some ⟨E.w.heap.size, 0, none⟩) n n) (E.w.alloc (.cells (vs.flatMap fun v => v.cells.toList).toArray y.t)) := by
          have e : (parts.map fun (i, x) => (i, a.eval x)).toList = (vs.zipIdx 0).map (fun x => (x.2, x.1)) := by
            rw [Array.toList_map]; exact h9
          by_cases hn : n * i.size = 0
          · have hn0 : n = 0 := by
              rw [hsz, hs2] at hn
              rcases Nat.mul_eq_zero.1 hn with h | h
              · exact h
              · omega
            subst hn0
            have hv0 : vs = [] := List.eq_nil_of_length_eq_zero (by omega)
            subst hv0
            have hp0 := List.eq_nil_of_length_eq_zero hs1
            simp [Instr.buildSlice, run_underlying hu, Go.sizeOf, typeInfo, hinfo, newRow, hp0, Instr.fill, Array.range_zero']
          · refine run_buildSlice E.w t y.t n _ _ i y.zero hu hinfo hz (by rw [hsz]; omega) hn ?_
            rw [e, hsz, hs2]
            exact Great.fill_whole hp vs _ h10 (by simp [h8, hs1])
        obtain ⟨E2, h12, h13, h14, h15⟩ := h5.lit hi (h5.noX d 0) y.t y.k zs _ h11 (by
          have : zs.length ≤ zs.length * y.size := Nat.le_mul_of_pos_right _ (by omega)
          rw [h7, hs1] at this
          rw [h7, hs1]
          exact Nat.le_trans (Nat.le_trans this (Nat.le_trans hs3 (by omega))) maxLen_ge)
        rw [h7, hs1] at h15
        rw [h3] at h15 h12
        exact ⟨_, _, hrun, E2, .val (.one (.own (oid d 0))), _, h12, h4.trans h13, h14, h15, h6⟩
      · exact h6.elim
    · exact h.elim
  · exact h.elim
end
end Go.Proofs.YthfmlelodmcgkaaGreat.V

set_option linter.unusedVariables false
set_option linter.unusedSimpArgs false
set_option linter.unusedSectionVars false
namespace Go.Proofs.YthfmlelodmcgkaaGreat.V
open Go
/-- What an append reads. -/
def SrcOk (E : Env) (k : Kn) (m : List k.T) (u : Value) : Prop :=
  ∃ ad c news, u = .slice ad m.length c ∧ Reps E.F E.w k m news ∧ (∀ x ∈ news, x.oneCell' = true) ∧ m.length ≤ maxLen ∧ (m ≠ [] → ∃ b o, ad = some ⟨b, o, none⟩ ∧ ∀ j (h : j < news.length), E.w.cell? ⟨b, o + j, none⟩ = some news[j])
theorem Rep.one {P : Program} {E : Env} {k : Kn} {x : k.T} {cs : List Value} (h : Rep E.F E.w k x cs) : ∀ u ∈ cs, u.oneCell' = true := (toAs_ok (P := P) h).2
theorem Reps.one {E : Env} {k : Kn} : ∀ {l : List k.T} {cs : List Value}, Reps E.F E.w k l cs → ∀ u ∈ cs, u.oneCell' = true
  | [], _, h, u, hu => by rw [h] at hu; cases hu
  | _ :: _, _, ⟨c1, c2, h, h1, h2⟩, u, hu => by
    rw [h] at hu
    rcases List.mem_append.1 hu with hu | hu
    · exact Rep.one (P := default) h1 u hu
    · exact Reps.one h2 u hu
theorem row_reads {w : World} {t : TypeId} {sz n : Nat} {v : Value} {xs : List Value} (h : w.ownsRow 0 t sz v n xs) : ∃ ad c, v = .slice ad n c ∧ n ≤ c ∧ (xs ≠ [] → ∃ b, ad = some ⟨b, 0, none⟩ ∧ ∀ j (h : j < xs.length), w.cell? ⟨b, j, none⟩ = some xs[j]) := by
  obtain ⟨ad, c, h1, h2, h3⟩ := own_cells h
  exact ⟨ad, c, h1, h2, fun hx => by obtain ⟨b, h4, _, h5⟩ := h3 hx; exact ⟨b, h4, h5⟩⟩
theorem src_row {P : Program} {E : Env} {t : TypeId} {k : Kn} {l : List k.T} {u : Value} {φ : Nat → Prop} {ι : Nat → Value} (h : OSat P E u φ ι (.row t k l)) : SrcOk E k l u := by
  obtain ⟨xs, h1, h2, h3, _⟩ := h
  obtain ⟨ad, c, rfl, _, h5⟩ := row_reads h1
  refine ⟨ad, c, xs, rfl, h2, h2.one, h3, fun hne => ?_⟩
  have hx : xs ≠ [] := fun e => by
    have := h2.length
    rw [e] at this
    have hp := k.cells_pos
    have : l.length = 0 := by
      rcases Nat.mul_eq_zero.1 this.symm with h | h
      · exact h
      · omega
    exact hne (List.eq_nil_of_length_eq_zero this)
  obtain ⟨b, hb, hc⟩ := h5 hx
  exact ⟨b, 0, hb, fun j hj => by rw [Nat.zero_add]; exact hc j hj⟩
theorem src_ro_aux {E : Env} {k : Kn} {ad : Option Addr} {l : List k.T} (h4 : ∀ j (h : j < l.length), ∃ b o cs, ad = some ⟨b, o, none⟩ ∧ E.F b ∧ Rep E.F E.w k l[j] cs ∧ cs.length = k.cells ∧ ∀ i (hi : i < cs.length), E.w.cell? ⟨b, o + (j * k.cells + i), none⟩ = some cs[i]) :
    ∀ n, n ≤ l.length → ∃ news, Reps E.F E.w k (l.take n) news ∧ news.length = n * k.cells ∧ (∀ b o, ad = some ⟨b, o, none⟩ → ∀ j (h : j < news.length), E.w.cell? ⟨b, o + j, none⟩ = some news[j])
  | 0, _ => ⟨[], by rw [List.take_zero]; rfl, by simp, fun _ _ _ j h => by simp at h⟩
  | n + 1, hn => by
    obtain ⟨news, h1, h2, h3⟩ := src_ro_aux h4 n (by omega)
    obtain ⟨b, o, cs, h5, h6, h7, h8, h9⟩ := h4 n (by omega)
    refine ⟨news ++ cs, ?_, by rw [List.length_append, h2, h8, Nat.succ_mul], fun b' o' hb j hj => ?_⟩
    · rw [List.take_succ_eq_append_getElem (by omega)]
      exact h1.append ⟨cs, [], by simp, h7, rfl⟩
    · by_cases hlt : j < news.length
      · rw [List.getElem_append_left hlt]; exact h3 b' o' hb j hlt
      · rw [h5] at hb
        obtain ⟨rfl, rfl⟩ : b = b' ∧ o = o' := by simpa using hb
        rw [List.getElem_append_right (by omega)]
        have hj2 : j - news.length < cs.length := by rw [List.length_append] at hj; omega
        have := h9 (j - news.length) hj2
        rw [← this]
        congr 2
        rw [h2] at hlt ⊢
        omega
theorem src_ro {E : Env} {k : Kn} {l : List k.T} {u : Value} (h : RO E.F E.w (Rep E.F E.w k) k.cells l u) : SrcOk E k l u := by
  obtain ⟨ad, c, rfl, h2, h3, h4⟩ := h
  obtain ⟨news, h5, h6, h7⟩ := src_ro_aux h4 l.length (Nat.le_refl _)
  rw [List.take_length] at h5
  refine ⟨ad, c, news, rfl, h5, h5.one, h3, fun hne => ?_⟩
  have hp : 0 < l.length := List.length_pos_iff.2 hne
  obtain ⟨b, o, cs, h8, _⟩ := h4 0 hp
  exact ⟨b, o, h8, h7 b o h8⟩
def srcM (k : Kn) (r : Rv) (K : List k.T → M) : M :=
  match r with
  | .val (.one (.own j)) => .get j fun o => match o with
    | .row _ k' m => if h : k' = k then K (castK h m) else .fail
    | .fz k' m => if h : k' = k then K (castK h m) else .fail
    | _ => .fail
  | .val (.one (.ro k' m)) => if h : k' = k then K (castK h m) else .fail
  | .val (.one (.v (.slice none 0 0))) => K []
  | _ => .fail
def appM (tys : List Ty) (d t t2 : Nat) (s x : Rv) : M :=
  match sliceE tys t, Nat.beq t t2 with
  | some y, true => match Nat.beq y.size y.k.cells && Nat.ble y.bytes 128 && (y.d.agg || Nat.beq (ln y.zs) 1) && Nat.beq (ln y.zs) y.size && y.zs.all plainB with
    | true => match s with
      | .val (.one (.own i)) => .get i fun o => match o with
        | .row e k l => match Nat.beq e y.t with
          | true => if h : k = y.k then srcM y.k x fun m => .need (l.length + m.length ≤ 1099511627776) (.put i .dead (.new (oid d 0) (.row y.t y.k (castK h l ++ m)) (.ret (.val (.one (.own (oid d 0))))))) else .fail
          | false => .fail
        | _ => .fail
      | .val (.one (.v (.slice none 0 0))) => srcM y.k x fun m => .need (m.length ≤ 1099511627776) (.new (oid d 0) (.row y.t y.k m) (.ret (.val (.one (.own (oid d 0))))))
      | .val (.one (.clip k l)) => if h : k = y.k then srcM y.k x fun m => .need (1 ≤ m.length ∧ l.length + m.length ≤ 1099511627776) (.new (oid d 0) (.row y.t y.k (castK h l ++ m)) (.ret (.val (.one (.own (oid d 0)))))) else .fail
      | _ => .fail
    | false => .fail
  | _, _ => .fail
section
variable {P : Program} {X : Ctx} {os : List (Nat × Obj')} {E : Env} {K : Rv → List (Nat × Obj') → Prop}
theorem srcM_ok (hI : Inv P X os E) {k : Kn} {r : Rv} {u : Value} {Kf : List k.T → M} (hr : RV P E r u) (h : (srcM k r Kf).run os K) : ∃ m, SrcOk E k m u ∧ (Kf m).run os K := by
  unfold srcM at h
  split at h
  · rename_i j
    obtain ⟨⟨hD, rfl⟩, _⟩ := hr
    simp only [M.run] at h
    split at h
    · rename_i o ho
      split at h
      · split at h
        · rename_i hk
          subst hk
          exact ⟨_, src_row (hI.obj j _ ho), h⟩
        · exact h.elim
      · split at h
        · rename_i hk
          subst hk
          exact ⟨_, src_ro (hI.obj j _ ho), h⟩
        · exact h.elim
      · exact h.elim
    · exact h.elim
  · split at h
    · rename_i hk
      subst hk
      exact ⟨_, src_ro hr.1, h⟩
    · exact h.elim
  · obtain ⟨⟨rfl, _⟩, _⟩ := hr
    exact ⟨[], ⟨none, 0, [], rfl, rfl, (fun _ h => by cases h), Nat.zero_le _, fun h => absurd rfl h⟩, h⟩
  · exact h.elim
/-- Append: in room, or in a new row. -/
theorem run_app (w : World) (t ty e : TypeId) (i : TypeInfo) (z : Value) (size : Nat) (ht : P.underlying t = some (.slice e)) (hi : P.info? e = some i) (hz : i.zero = some z)
    (hsize : i.size = size) (hzs : z.cells.size = size) (hsz : 0 < size) (hby : i.bytes ≤ 128)
    (v : Value) (n : Nat) (xs : List Value) (hown : w.ownsRow 0 e size v n xs)
    (ad : Option Addr) (m c : Nat) (news : List Value) (hl : news.length = m * size) (hn : 0 < m → ∃ b o, ad = some ⟨b, o, none⟩ ∧ ∀ j (h : j < news.length), w.cell? ⟨b, o + j, none⟩ = some news[j]) (h1 : ∀ u ∈ news, u.oneCell' = true)
    (h40 : n + m ≤ 1099511627776) :
    ∃ v' w', (Builtin.append_ #[t, t] ty #[v, .slice ad m c]).run P w = .ok v' w' ∧ w'.ownsRow 0 e size v' (n + m) (xs ++ news) ∧ w.grownBy w' (blkOf v) ∧ (∀ b, blkOf v' = some b → blkOf v = some b ∨ w.heap.size ≤ b) := by
  subst hsize
  have hlen : (xs ++ news).length = (n + m) * i.size := by rw [List.length_append, hown.1, hl, Nat.add_mul]
  rcases Nat.eq_zero_or_pos m with hm | hm
  · subst hm
    have hnews : news = [] := List.eq_nil_of_length_eq_zero (by simpa using hl)
    subst hnews
    refine ⟨v, w, ?_, by simpa using hown, ⟨rfl, rfl, rfl, Nat.le_refl _, fun _ _ _ => rfl⟩, fun b hb => .inl hb⟩
    have hf : (Builtin.firstCells i.size 0 (.slice ad 0 c)).run P w = .ok #[] w := by
      cases ad <;> simp [Builtin.firstCells, loadCells, loadCellsFrom]
    rcases hown.2 with ⟨rfl, rfl⟩ | ⟨g, cap, cur, rfl, _, hg, hnc, _⟩
    · simp [Builtin.append_, run_underlying ht, Go.sizeOf, typeInfo, hi, Builtin.lenOf, hf]
    · simp [Builtin.append_, run_underlying ht, Go.sizeOf, typeInfo, hi, Builtin.lenOf, hf, hnc, storeCells]
  · obtain ⟨b, o, rfl, hcell⟩ := hn hm
    have hnews : ∀ j u, news[j]? = some u → w.cell? ((⟨b, o, none⟩ : Addr).add j) = some u := fun j u hu => by
      rw [Addr.add_lit]
      obtain ⟨hj, he⟩ := List.getElem?_eq_some_iff.1 hu
      rw [hcell j hj, he]
    have grown : ∀ (old : Nat) (row : Option Nat), (w.drew.alloc (.cells (xs.toArray ++ news.toArray ++ Builtin.zeroCells z.cells (grownCap w (n + m) old e - (n + m))) e)).ownsRow 0 e i.size
          (.slice (some ⟨w.heap.size, 0, none⟩) (n + m) (grownCap w (n + m) old e)) (n + m) (xs ++ news) ∧
        w.grownBy (w.drew.alloc (.cells (xs.toArray ++ news.toArray ++ Builtin.zeroCells z.cells (grownCap w (n + m) old e - (n + m))) e)) row := by
      intro old row
      have hge := grownCap_ge w (n + m) old e
      have hcm : grownCap w (n + m) old e ≤ maxLen := grownCap_le_maxLen w (n + m) old e (Nat.le_trans h40 maxLen_ge)
      refine ⟨⟨hlen, .inr ⟨w.heap.size, _, _, rfl, Nat.zero_le _, heap_alloc_new w.drew _, hge, hcm, ?_, ?_⟩⟩, ⟨rfl, rfl, rfl, by simp, fun k hk _ => heap_alloc_old w.drew _ hk⟩⟩
      · simp only [Array.size_append, List.size_toArray, size_zeroCells, hzs, hown.1, hl, ← Nat.add_mul]
        congr 1
        omega
      · simp only [Array.toList_append, List.append_assoc]
        rw [← List.append_assoc, ← hlen]
        exact List.take_left
    have hbt : (n + m) * i.bytes ≤ 140737488355328 := Nat.le_trans (Nat.mul_le_mul h40 hby) (by omega)
    rcases hown.2 with ⟨rfl, rfl⟩ | ⟨g, cap, cur, rfl, _, hg, hnc, hcm, hcs, htake⟩
    · have hx : xs = [] := List.eq_nil_of_length_eq_zero (by simpa using hown.1)
      subst hx
      have hr := run_append_nil (P := P) w t ty e i z ht hi hz ⟨b, o, none⟩ m c news hl hnews hm (by omega) (by rw [Nat.zero_add] at hbt; omega)
      have hgr := grown 0 (blkOf (.slice none 0 0))
      simp only [Nat.zero_add, List.nil_append, Array.empty_append] at hgr ⊢
      exact ⟨_, _, hr, hgr.1, hgr.2, fun b' hb => .inr (by
        have : w.heap.size = b' := by simpa [blkOf] using hb
        omega)⟩
    · by_cases hroom : n + m ≤ cap
      · have hfit : n * i.size + news.length ≤ cur.size := by rw [hl, hcs, ← Nat.add_mul]; exact Nat.mul_le_mul_right _ hroom
        have hr := run_append_room (P := P) w t ty e i ht hi g n cap cur hg ⟨b, o, none⟩ m c news hl hnews h1 hroom hfit
        refine ⟨_, _, hr, ⟨hlen, .inr ⟨g, cap, _, rfl, Nat.zero_le _, setRow_heap w g cur _ e _ hg, hroom, hcm, ?_, ?_⟩⟩, ⟨rfl, rfl, rfl, by simp, fun k _ hk => setRow_other w g k _ (fun e => hk (by simp [blkOf, e]))⟩, fun b' hb => .inl hb⟩
        · simp only [List.size_toArray, List.length_append, List.length_take, List.length_drop, Array.length_toList]
          omega
        · rw [htake, ← hlen]
          exact List.take_left
      · have holds : ∀ j u, xs[j]? = some u → w.cell? ((⟨g, 0, none⟩ : Addr).add j) = some u := hown.cells (g := g) rfl
        have hr := run_append_grow (P := P) w t ty e i z ht hi hz ⟨g, 0, none⟩ n cap xs hown.1 holds ⟨b, o, none⟩ m c news hl hnews (by omega) (by omega) (growslice_fits (by omega) hbt)
        have hgr := grown cap (blkOf (.slice (some ⟨g, 0, none⟩) n cap))
        exact ⟨_, _, hr, hgr.1, hgr.2, fun b' hb => .inr (by
          have : w.heap.size = b' := by simpa [blkOf] using hb
          omega)⟩
theorem run_appC (w : World) (t ty e : TypeId) (i : TypeInfo) (z : Value) (size : Nat) (ht : P.underlying t = some (.slice e)) (hi : P.info? e = some i) (hz : i.zero = some z)
    (hsize : i.size = size) (hzs : z.cells.size = size) (hsz : 0 < size) (hby : i.bytes ≤ 128)
    (a0 : Option Addr) (n : Nat) (xs : List Value) (hx : xs.length = n * size) (hx0 : 0 < n → ∃ b o, a0 = some ⟨b, o, none⟩ ∧ ∀ j (h : j < xs.length), w.cell? ⟨b, o + j, none⟩ = some xs[j])
    (ad : Option Addr) (m c : Nat) (news : List Value) (hl : news.length = m * size) (hn : 0 < m → ∃ b o, ad = some ⟨b, o, none⟩ ∧ ∀ j (h : j < news.length), w.cell? ⟨b, o + j, none⟩ = some news[j])
    (hm : 1 ≤ m) (h40 : n + m ≤ 1099511627776) :
    ∃ v' w', (Builtin.append_ #[t, t] ty #[.slice a0 n n, .slice ad m c]).run P w = .ok v' w' ∧ w'.ownsRow 0 e size v' (n + m) (xs ++ news) ∧ w.grownBy w' none ∧ ∀ b, blkOf v' = some b → w.heap.size ≤ b := by
  subst hsize
  have hlen : (xs ++ news).length = (n + m) * i.size := by rw [List.length_append, hx, hl, Nat.add_mul]
  obtain ⟨b, o, rfl, hcell⟩ := hn hm
  have hnews : ∀ j u, news[j]? = some u → w.cell? ((⟨b, o, none⟩ : Addr).add j) = some u := fun j u hu => by
    rw [Addr.add_lit]
    obtain ⟨hj, he⟩ := List.getElem?_eq_some_iff.1 hu
    rw [hcell j hj, he]
  have grown : ∀ (old : Nat) (row : Option Nat), (w.drew.alloc (.cells (xs.toArray ++ news.toArray ++ Builtin.zeroCells z.cells (grownCap w (n + m) old e - (n + m))) e)).ownsRow 0 e i.size
        (.slice (some ⟨w.heap.size, 0, none⟩) (n + m) (grownCap w (n + m) old e)) (n + m) (xs ++ news) ∧
      w.grownBy (w.drew.alloc (.cells (xs.toArray ++ news.toArray ++ Builtin.zeroCells z.cells (grownCap w (n + m) old e - (n + m))) e)) row := by
    intro old row
    have hge := grownCap_ge w (n + m) old e
    have hcm : grownCap w (n + m) old e ≤ maxLen := grownCap_le_maxLen w (n + m) old e (Nat.le_trans h40 maxLen_ge)
    refine ⟨⟨hlen, .inr ⟨w.heap.size, _, _, rfl, Nat.zero_le _, heap_alloc_new w.drew _, hge, hcm, ?_, ?_⟩⟩, ⟨rfl, rfl, rfl, by simp, fun k hk _ => heap_alloc_old w.drew _ hk⟩⟩
    · simp only [Array.size_append, List.size_toArray, size_zeroCells, hzs, hx, hl, ← Nat.add_mul]
      congr 1
      omega
    · simp only [Array.toList_append, List.append_assoc]
      rw [← List.append_assoc, ← hlen]
      exact List.take_left
  have hbt : (n + m) * i.bytes ≤ 140737488355328 := Nat.le_trans (Nat.mul_le_mul h40 hby) (by omega)
  have hnew : ∀ (L C : Nat) b', blkOf (.slice (some ⟨w.heap.size, 0, none⟩) L C) = some b' → w.heap.size ≤ b' := fun L C b' hb => by
    have : w.heap.size = b' := by simpa [blkOf] using hb
    omega
  cases a0 with
  | none =>
    have h0 : n = 0 := Nat.eq_zero_of_not_pos fun h => by obtain ⟨_, _, e, _⟩ := hx0 h; cases e
    subst h0
    have hx : xs = [] := List.eq_nil_of_length_eq_zero (by simpa using hx)
    subst hx
    have hr := run_append_nil (P := P) w t ty e i z ht hi hz ⟨b, o, none⟩ m c news hl hnews hm (by omega) (by rw [Nat.zero_add] at hbt; omega)
    have hgr := grown 0 none
    simp only [Nat.zero_add, List.nil_append, Array.empty_append] at hgr ⊢
    exact ⟨_, _, hr, hgr.1, hgr.2, hnew _ _⟩
  | some a =>
    have holds : ∀ j u, xs[j]? = some u → w.cell? (a.add j) = some u := fun j u hu => by
      obtain ⟨hj, he⟩ := List.getElem?_eq_some_iff.1 hu
      have hn0 : 0 < n := Nat.pos_of_ne_zero fun e => by subst e; omega
      obtain ⟨b', o', e, hc⟩ := hx0 hn0
      obtain rfl := Option.some.inj e
      rw [Addr.add_lit, hc j hj, he]
    have hr := run_append_grow (P := P) w t ty e i z ht hi hz a n n xs hx holds ⟨b, o, none⟩ m c news hl hnews (by omega) (by omega) (growslice_fits (by omega) hbt)
    have hgr := grown n none
    exact ⟨_, _, hr, hgr.1, hgr.2, hnew _ _⟩
theorem app_ok {tys : List Ty} (ht : ∀ y ∈ tys, TyOk P y) (hI : Inv P X os E) {d t t2 ty : Nat} {s x : Rv} {us ux : Value} (hs : RV P E s us) (hx : RV P E x ux) (h : (appM tys d t t2 s x).run os K) :
    ∃ v w', (Builtin.append_ #[t, t2] ty #[us, ux]).run P E.w = .ok v w' ∧ Out P X E K v w' := by
  unfold appM at h
  split at h
  · rename_i y hy ht2
    obtain rfl := Nat.eq_of_beq_eq_true ht2
    obtain ⟨hok, hu⟩ := sliceE_ok ht hy
    split at h
    · rename_i hc
      simp only [Bool.and_eq_true] at hc
      obtain ⟨⟨⟨⟨hc1, hc2⟩, hc3⟩, hc4⟩, hc5⟩ := hc
      have hc1 := Nat.eq_of_beq_eq_true hc1
      have hc2 := Nat.le_of_ble_eq_true hc2
      have hc4 := Nat.eq_of_beq_eq_true hc4
      rw [ln_eq] at hc4
      obtain ⟨i, hinfo, hsz, hby, hz⟩ := hok.info
      have hzc := zero_cells hc3 hc5
      have hzs : y.zero.cells.size = y.k.cells := by rw [hzc, List.size_toArray, hc4, hc1]
      have app := fun (v : Value) (n : Nat) (xs : List Value) hown ad m c news hl hn h1 h40 => run_app (P := P) E.w t ty y.t i y.zero y.k.cells hu hinfo hz (hsz.trans hc1) hzs y.k.cells_pos (by omega) v n xs hown ad m c news hl hn h1 h40
      split at h
      · rename_i j
        obtain ⟨⟨hD, rfl⟩, _⟩ := hs
        simp only [M.run] at h
        split at h
        · rename_i o ho
          split at h
          · rename_i e k l
            split at h
            · rename_i he
              have he := Nat.eq_of_beq_eq_true he
              split at h
              · rename_i hk
                subst hk
                subst he
                obtain ⟨m, ⟨ad, c, news, rfl, h2, h3, h4, h5⟩, h⟩ := srcM_ok hI hx h
                simp only [M.run, ho] at h
                obtain ⟨h40, h⟩ := h
                split at h
                · rename_i hd
                  obtain ⟨xs, h6, h7, h8, hφ⟩ := hI.obj j _ ho
                  obtain ⟨v', w', h9, h10, h11, h12⟩ := app (E.σ j) l.length xs h6 ad m.length c news h2.length (fun hp => h5 (fun e => by rw [e] at hp; simp at hp)) h3 h40
                  have hdj : lk os (oid d 0) = none := by
                    by_cases e : j = oid d 0
                    · rw [e, lk_same] at hd; cases hd
                    · rw [lk_ne _ _ e] at hd; exact hd
                  obtain ⟨E', h13, h14, h15, h16, h17⟩ := hI.move ho rfl hdj (hI.noX d 0) h11 (fun b hb => (hφ b).2 hb) v' (fun b => blkOf v' = some b) (fun _ => undef) (.row y.t y.k (castK rfl l ++ m)) (fun b hb => (h12 b hb).imp (fun h => (hφ b).2 h) id) (fun E' hle hw => by
                    refine ⟨xs ++ news, ?_, ?_, ?_, fun _ => Iff.rfl⟩
                    · rw [hw, castK_rfl, List.length_append]; exact h10
                    · exact (h7.append h2).imp (fun _ _ h => Rep.mono (fun b hb _ => hle.F b hb) hle.w h)
                    · rw [castK_rfl, List.length_append]; exact Nat.le_trans h40 maxLen_ge)
                  obtain ⟨ad', c', hv, _⟩ := row_reads h10
                  exact ⟨v', w', h9, E', .val (.one (.own (oid d 0))), _, h13, h14, h15, ⟨⟨h16, h17.symm⟩, by rw [hv]; rfl⟩, h⟩
                · exact h.elim
              · exact h.elim
            · exact h.elim
          · exact h.elim
        · exact h.elim
      · obtain ⟨⟨rfl, _⟩, _⟩ := hs
        obtain ⟨m, ⟨ad, c, news, rfl, h2, h3, h4, h5⟩, h⟩ := srcM_ok hI hx h
        simp only [M.run] at h
        obtain ⟨h40, h⟩ := h
        split at h
        · rename_i hd
          obtain ⟨v', w', h9, h10, h11, h12⟩ := app (.slice none 0 0) 0 [] (World.ownsRow_nil _ _ _ _) ad m.length c news h2.length (fun hp => h5 (fun e => by rw [e] at hp; simp at hp)) h3 (by omega)
          obtain ⟨E', h13, h14, h15, h16, h17⟩ := hI.made h11 (oid d 0) hd (hI.noX d 0) v' (fun b => blkOf v' = some b) (fun _ => undef) (.row y.t y.k m) (fun b hb => (h12 b hb).resolve_left (by simp [blkOf])) (fun E' hle hw => by
            rw [Nat.zero_add, List.nil_append] at h10
            exact ⟨news, by rw [hw]; exact h10, h2.imp (fun _ _ h => Rep.mono (fun b hb _ => hle.F b hb) hle.w h), h4, fun _ => Iff.rfl⟩)
          obtain ⟨ad', c', hv, _⟩ := row_reads h10
          exact ⟨v', w', h9, E', .val (.one (.own (oid d 0))), _, h13, h14, h15, ⟨⟨h16, h17.symm⟩, by rw [hv]; rfl⟩, h⟩
        · exact h.elim
      · rename_i k l
        obtain ⟨⟨hro, a0, rfl⟩, _⟩ := hs
        split at h
        · rename_i hk
          subst hk
          obtain ⟨a1, c1, olds, e1, q2, q3, q4, q5⟩ := src_ro hro
          injection e1 with e1 _ e2
          subst e1
          obtain ⟨m, ⟨ad, c, news, rfl, h2, h3, h4, h5⟩, h⟩ := srcM_ok hI hx h
          simp only [M.run] at h
          obtain ⟨⟨hm1, h40⟩, h⟩ := h
          split at h
          · rename_i hd
            obtain ⟨v', w', h9, h10, h11, h12⟩ := run_appC (P := P) E.w t ty y.t i y.zero y.k.cells hu hinfo hz (hsz.trans hc1) hzs y.k.cells_pos (by omega) a0 l.length olds q2.length (fun hp => q5 (fun e => by rw [e] at hp; simp at hp)) ad m.length c news h2.length (fun hp => h5 (fun e => by rw [e] at hp; simp at hp)) hm1 h40
            obtain ⟨E', h13, h14, h15, h16, h17⟩ := hI.made h11 (oid d 0) hd (hI.noX d 0) v' (fun b => blkOf v' = some b) (fun _ => undef) (.row y.t y.k (castK rfl l ++ m)) (fun b hb => h12 b hb) (fun E' hle hw => by
              refine ⟨olds ++ news, ?_, ?_, ?_, fun _ => Iff.rfl⟩
              · rw [hw, castK_rfl, List.length_append]; exact h10
              · exact (q2.append h2).imp (fun _ _ h => Rep.mono (fun b hb _ => hle.F b hb) hle.w h)
              · rw [castK_rfl, List.length_append]; exact Nat.le_trans h40 maxLen_ge)
            obtain ⟨ad', c', hv, _⟩ := row_reads h10
            exact ⟨v', w', h9, E', .val (.one (.own (oid d 0))), _, h13, h14, h15, ⟨⟨h16, h17.symm⟩, by rw [hv]; rfl⟩, h⟩
          · exact h.elim
        · exact h.elim
      · exact h.elim
    · exact h.elim
  · exact h.elim
end
end Go.Proofs.YthfmlelodmcgkaaGreat.V
