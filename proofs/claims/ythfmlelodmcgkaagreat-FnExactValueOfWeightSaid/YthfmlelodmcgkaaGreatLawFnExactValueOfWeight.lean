/- The law FnExactValueOfWeight, for every input. Conditions: none. -/
import Derived.Test.YthfmlelodmcgkaaGreatRows
import Derived.Test.YthfmlelodmcgkaaGreatZvw2
import Derived.WalkKit
import Derived.ProofKit
import Derived.OpenShut
import Derived.ShutString
import Derived.ChangeOld
import Derived.Below
import Derived.SizedLaws
import Derived.Lib.SmallJoins
namespace Go.Proofs.YthfmlelodmcgkaaGreat.fnExactValueOfWeight
open Go.ChangeShapes Go.WideShapes Go.ChangeAt Go.RowKit Go.Joins
open Go.ChangeMaps (open_string shut_string)
open Go.Proofs.YthfmlelodmcgkaaGreat.V Go.Proofs.YthfmlelodmcgkaaGreatW.PrintWords Go.Proofs.YthfmlelodmcgkaaGreatW.PrintLast Go.Proofs.YthfmlelodmcgkaaGreatW.PrintMore
set_option linter.unusedVariables false
theorem own : ownKnob Tryz.prog.godebug = none := by kernel_rfl
theorem laidOut : laidOutB Tryz.prog = true := by kernel_rfl
def IsRow (k : IntKind) (w : World) (a : Option Addr) (len cap : Nat) (zs : List Int) : Prop :=
  (a = none ∧ len = 0 ∧ cap = 0 ∧ zs = []) ∨
  ∃ x, a = some x ∧ len ≤ cap ∧ cap ≤ maxLen ∧ zs.length = cap ∧ (∀ i, i < zs.length → w.cell? (x.add i) = some (.int k (zs.getD i 0))) ∧ ∀ n ∈ zs, (Lit.int k n).wf = true
theorem row_of {H : Type} {enc : TypeId × Value → H} {W : World} {base : Nat} {held : Bool} {n : Nat} {c : Value} {y : DataW H × List MemPlace} (hf : DataW.trod enc Tryz.prog W base (fun _ => true) held n 26 [c] = some y) :
    ∃ a len cap zs, c = .slice a len cap ∧ IsRow .i64 W a len cap zs := by
  rcases open_ints Tryz.underlying26 Tryz.underlying2 (by kernel_rfl) hf with ⟨hcs, _⟩ | ⟨x, l, c, zs, hcs, _, hl, hm, hz, _, hcell, hwz⟩
  · injection hcs with hcs _
    exact ⟨none, 0, 0, [], hcs, .inl ⟨rfl, rfl, rfl, rfl⟩⟩
  · injection hcs with hcs _
    exact ⟨some x, _, _, zs, hcs, .inr ⟨_, rfl, hl, hm, by simpa using hz, hcell, hwz⟩⟩
set_option maxRecDepth 100000 in
theorem lifted (os : Os) (started : os.Started) (H : Type) (enc : TypeId × Value → H) :
    ReturnsInHanded {} Tryz.checked os 4 .any (Rows.fnExactValueOfWeightSpec.pre6 enc Tryz.prog Tryz.f4 Rows.fnExactValueOfWeightRow.domain false) (Rows.fnExactValueOfWeightSpec.post enc Tryz.prog Tryz.f4 false true false false) := by
  refine returnsInHanded_of_change_sized (C := Tryz.checked) own started (by kernel_rfl) Tryz.func4
    (ChangeSpec.witness6 (enc := enc) (C := Tryz.checked) false ⟨#[], #[.int .i64 0, .slice none 0 0, .agg #[.int .i64 0, .slice none 0 0]], []⟩ 8 (by kernel_rfl) (by kernel_rfl) (by kernel_rfl) (by kernel_rfl)) ?_
  intro W base args ds gs before hval0 hW hcnd hsz0 _
  have hval : ∀ (j : Nat) t v, Tryz.f4.params[j]? = some t → args[j]? = some v → Value.okWide Tryz.prog W .any base t v := hval0
  have hW' := hW
  obtain ⟨p, q, hA0, hV, rfl, hfz, hnd⟩ := hW
  have hA : DataW.TrodAll enc Tryz.prog W 0 (fun _ => true) true Tryz.f4.params.toList args.toList ds p := hA0
  rw [Tryz.params4] at hA hval
  obtain ⟨v0, vs0, d0, ds0, p0, q0, hargs, rfl, rfl, h0, r0⟩ := trodAll_cons hA
  obtain ⟨v1, vs1, d1, ds1, p1, q1, rfl, rfl, rfl, h1, r1⟩ := trodAll_cons r0
  obtain ⟨v2, vs2, d2, ds2, p2, q2, rfl, rfl, rfl, h2, r2⟩ := trodAll_cons r1
  obtain ⟨rfl, rfl, rfl⟩ := trodAll_nil r2
  obtain rfl : args = #[v0, v1, v2] := by cases args; simp_all
  obtain ⟨rfl, rfl⟩ := trodVars_none hV
  obtain ⟨b0, rfl, rfl, rfl, w0⟩ := open_int Tryz.underlying2 (hval 0 2 v0 rfl rfl) h0
  have k1 := h1
  have lt1 : ∀ x ∈ p1, x.block < W.heap.size := by obtain ⟨m, hm⟩ := k1; exact DataW.trod_lt m _ _ _ hm
  obtain ⟨a1, len1, cap1, rfl⟩ := okWide_slice Tryz.underlying26 (hval 1 26 v1 rfl rfl)
  obtain ⟨z1, w1⟩ : ∃ zs, IsRow .i64 W a1 len1 cap1 zs := by
    obtain ⟨fuel, hf⟩ := h1
    rcases open_ints Tryz.underlying26 Tryz.underlying2 (by kernel_rfl) hf with ⟨hcs, _⟩ | ⟨x, l, c, zs, hcs, _, hl, hm, hz, _, hcell, hwz⟩
    · simp [Value.cells] at hcs
      obtain ⟨rfl, rfl, rfl⟩ := hcs
      exact ⟨[], .inl ⟨rfl, rfl, rfl, rfl⟩⟩
    · simp [Value.cells] at hcs
      obtain ⟨rfl, rfl, rfl⟩ := hcs
      exact ⟨zs, .inr ⟨_, rfl, hl, hm, by simpa using hz, hcell, hwz⟩⟩
  have k2 := h2
  have lt2 : ∀ x ∈ p2, x.block < W.heap.size := by obtain ⟨m, hm⟩ := k2; exact DataW.trod_lt m _ _ _ hm
  have oi2 : V.Opens Tryz.prog W 2 (.int .i64) := V.opens_int Tryz.underlying2
  have ow2 : V.Opens Tryz.prog W 26 (.sl 2 (.int .i64)) := V.opens_sl Tryz.underlying26 (by kernel_rfl) oi2
  have om2 : V.Opens Tryz.prog W 84 (.pr (.sl 2 (.int .i64)) (.int .i64)) := V.opens_pr Tryz.underlying84 (by kernel_rfl) (by kernel_rfl) (by kernel_rfl) rfl rfl ow2 oi2
  have os2 : V.Opens Tryz.prog W 22 (.sl 84 (.pr (.sl 2 (.int .i64)) (.int .i64))) := V.opens_sl Tryz.underlying22 (by kernel_rfl) om2
  have oz2 : V.Opens Tryz.prog W 24 (.pr (.int .i64) (.sl 84 (.pr (.sl 2 (.int .i64)) (.int .i64)))) := V.opens_pr Tryz.underlying24 (by kernel_rfl) (by kernel_rfl) (by kernel_rfl) rfl rfl oi2 os2
  obtain ⟨y2, cv2⟩ := V.opens_cv Tryz.underlying24 oz2 (hval 2 24 v2 rfl rfl) h2
  clear hA0 hval0 hsz0
  obtain ⟨l1, hr1⟩ := V.row_in (P := Tryz.prog) w1
  refine (V.law_of V.good_lawValueOfWeight W [.one (.v (.int .i64 b0)), .one (.ro (.int .i64) l1), .agg [.v (.int .i64 y2.1), .ro (.pr (.sl 2 (.int .i64)) (.int .i64)) y2.2]] [_, _, _] ⟨V.cv_i w0, V.cv_one hr1, cv2, trivial⟩ rfl).mono fun e W' ⟨he, bel⟩ => ?_
  subst he
  exact ⟨_, rfl, _, _, _, [], _, [], hW', trodAll_mk1 (shut_bool Tryz.underlying4 _), (trodAll_cons_mk (shut_int Tryz.underlying2 w0) (trodAll_cons_mk (Below.trod laidOut (by kernel_rfl) (of_decide_eq_true (by kernel_rfl)) k1 bel lt1) (trodAll_cons_mk (Below.trod laidOut (by kernel_rfl) (of_decide_eq_true (by kernel_rfl)) k2 bel lt2) trodAll_mk0))), rfl, bel.frame _, fun h => by cases h⟩
theorem over : Rows.fnExactValueOfWeightRow.holds Tryz.pinned (OpenSpec.ofChange Rows.fnExactValueOfWeightSpec) :=
  OpenClaim.holds_of_wide 4 Tryz.f4 rfl rfl rfl rfl rfl rfl rfl ⟨rfl, rfl, rfl, rfl, rfl⟩ rfl rfl rfl rfl rfl (by kernel_rfl) Tryz.func4 (by kernel_rfl)
    (of_decide_eq_true (by kernel_rfl)) (by unfold Func.isWrapper; first | (rw [if_pos (by decide +kernel)]; kernel_rfl) | (rw [if_neg (by decide +kernel)]; exact ⟨rfl, rfl⟩))
    (fun os started H enc _ => lifted os started H enc)
theorem proved : Rows.FnExactValueOfWeightSaid := over
#print axioms proved
end Go.Proofs.YthfmlelodmcgkaaGreat.fnExactValueOfWeight
namespace Go.Proofs.YthfmlelodmcgkaaGreat
/-- The row, under a short name, for the claim. -/
theorem fnExactValueOfWeight_holds : Rows.FnExactValueOfWeightSaid := fnExactValueOfWeight.proved
end Go.Proofs.YthfmlelodmcgkaaGreat
