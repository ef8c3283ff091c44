/- Own words: calls of function values, steps of worlds, predicates that closures compute. Conditions: none; for any program. -/
import Derived.Test.YtokcklkjnjffnaaWMore
import Derived.Test.YtokcklkjnjffnaaWLast
set_option linter.unusedVariables false
set_option linter.unusedSimpArgs false
namespace Go.Proofs.Ytokcklkjnjffnaa.K
open Go.RowKit Go.Proofs.YtokcklkjnjffnaaW.PrintWords Go.Proofs.YtokcklkjnjffnaaW.PrintLast Go.Proofs.YtokcklkjnjffnaaW.PrintMore

/-- A function value, called with these arguments, ends so. -/
def Runs (P : Program) (fv : Value) (args : Array Value) (w : World) (Q : Ending → World → Prop) : Prop :=
  ∃ (k : Nat) (fn : Func) (first cap : Array Value), fv = .func (.func k) first cap ∧ P.funcs[k]? = some fn ∧ (fn.name == "runtime.NumGoroutine") = false ∧ fn.body.isSome = true ∧ Calls P k (first ++ args ++ cap) w Q

theorem Runs.mono {P : Program} {fv : Value} {args : Array Value} {w : World} {Q Q' : Ending → World → Prop} (h : Runs P fv args w Q) (hq : ∀ e w', Q e w' → Q' e w') : Runs P fv args w Q' := by
  obtain ⟨k, fn, first, cap, h1, h2, h3, h4, h5⟩ := h
  exact ⟨k, fn, first, cap, h1, h2, h3, h4, h5.mono hq⟩

/-- A call of a function value, in a plain region. -/
theorem goesV {P : Program} {ops : Array Oper} {Q : Exit → Act → World → Prop} {rest : List Oper} {oi : Oper} {a : Act} {w : World} (N : Option Tmp) (hd : oi.dst = N) (hg : oi.guard = none) {fo : Operand} {as : Array Operand} {ts : Array TypeId}
    (hop : oi.op = .call { callee := .value fo, args := as, argTypes := ts }) {fv : Value} (hfv : a.eval fo = fv) (args : Array Value) (hargs : as.map a.eval = args)
    (h : Runs P fv args w fun e w' => ∃ v, e = .returned v ∧ wpList P ops Q rest (a.put N v) w') : wpList P ops Q (oi :: rest) a w := by
  obtain ⟨k, fn, first, cap, rfl, hf, hname, hb, hc⟩ := h
  refine wpList_plain hg fun K hK => ?_
  have he := enters_ hf hname hb (first ++ args ++ cap) w
  have hrun : (execOp a.eval oi).run P w = .ok (.enter k (first ++ args ++ cap)) w := by
    unfold execOp
    simp [hop, resolve, Deferred.ofValue, invoke, hargs, hfv]
    rw [← Array.append_assoc]
    exact he
  unfold Oper.wp
  rw [hrun, Oper.upon_enter]
  refine hc.mono fun e w'' hh => ?_
  obtain ⟨v, rfl, hk⟩ := hh
  subst hd
  exact hK _ _ hk

/-- What a call may do to the world: a relation that is kept by steps and leaves old memory alone. -/
structure Step (R : World → World → Prop) : Prop where
  refl : ∀ w, R w w
  trans : ∀ {w1 w2 w3}, R w1 w2 → R w2 w3 → R w1 w3
  draw : ∀ w n, R w (w.drewN n)
  below : ∀ {w w'}, R w w' → Below w.heap.size w w'

theorem drawn_trans {w1 w2 w3 : World} (h : Drawn0 w1 w2) (k : Drawn0 w2 w3) : Drawn0 w1 w3 := by
  obtain ⟨m, rfl⟩ := h
  obtain ⟨n, rfl⟩ := k
  exact ⟨⟨m + n, World.drewN_drewN ..⟩⟩

theorem step_drawn : Step Drawn0 := ⟨Drawn0.refl, fun h k => drawn_trans h k, fun w n => ⟨⟨n, rfl⟩⟩, fun h => h.below⟩

/-- Old memory stands. -/
structure Bel (w w' : World) : Prop where mk :: (out : Below w.heap.size w w')
theorem step_bel : Step Bel := ⟨fun w => ⟨Below.refl _ _⟩, fun h k => ⟨below_then h.out h.out.size k.out⟩, fun w n => ⟨pw_below_drewN (Below.refl _ _) n⟩, fun h => h.out⟩

end Go.Proofs.Ytokcklkjnjffnaa.K
