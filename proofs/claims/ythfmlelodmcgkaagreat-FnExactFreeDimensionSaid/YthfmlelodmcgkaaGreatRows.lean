/-
  No cell of these rows narrows 'for every input' (looked for: loops, veiled, ifaces, maps, wideKeys, modest, calm, conditions, laid).
  DERIVED. THE GIVEN ROWS OF THIS SEAT. 10 by the template 'for every input the law returns true; each argument reads behind the call as it read before'; 0 by the template 'total and deterministic' (their statements: YthfmlelodmcgkaaGreatTotals.lean).
  GIVEN WITH THE SEED: the statements are not yours to turn. If you find one false, say at which input.
  Laid BY PROGRAM, IN A SANDBOX (cutbox-rows.mjs): the forced cells as the released guide's own fill.sh prints them over the translation f3404afc7de57e56… (all of the seat's roots in one cut). By AI agents, Wed Nov 11 2026. No macro, syntax, notation, axiom, sorry.
-/
import Derived.Test.YthfmlelodmcgkaaGreatChecked
import GoSem.Claim
import GoSem.ClaimJoined
import GoSem.ClaimMapViews
import Derived.JoinedTies
import Derived.KernelRfl
namespace Go.Proofs.YthfmlelodmcgkaaGreat
/- THE CELL 'sum', in the pinned program and in every row, IS THE sha256 OF THE DUMP (.gsa) THAT YthfmlelodmcgkaaGreatProg.lean LOADS. Nothing in Lean hashes anything: it is a label: what it is worth is what the hold of that sum in a sandbox is worth. -/
noncomputable def Tryz.pinned : Pinned := { name := "ythfmlelodmcgkaagreat", sum := "f3404afc7de57e56fdf62d1b94470652e17c72811f3b8b7712b9efa96764503a", checked := Tryz.checked }
namespace Rows
def none {H : Type} : Left H := { results := [], args := [] }

/-- 'laws.FnExactDiagramRow': WHATEVER THE INPUT: true; the input reads as it did. -/
def fnExactDiagramRowSpec : ChangeSpec := { name := "fnExactDiagramRow", fn := fun _ => fun
  | [d1, d2] => { results := [.lit (.bool true)], args := [d1, d2] }
  | _ => none }
def fnExactDiagramRowRow : OpenClaim := { program := "ythfmlelodmcgkaagreat", sum := "f3404afc7de57e56fdf62d1b94470652e17c72811f3b8b7712b9efa96764503a", func := "loop.example/g01303/laws.FnExactDiagramRow", spec := "fnExactDiagramRow", unfollowed := true, recurses := true, apart := false }
def FnExactDiagramRowSaid : Prop := fnExactDiagramRowRow.holds Tryz.pinned (OpenSpec.ofChange fnExactDiagramRowSpec)

/-- ITS FALSE NEIGHBOUR: 'it returns false'. Refute it at one input. -/
def fnExactDiagramRowWrong : ChangeSpec := { name := "fnExactDiagramRow", fn := fun _ => fun
  | [d1, d2] => { results := [.lit (.bool false)], args := [d1, d2] }
  | _ => none }
def FnExactDiagramRowWrongFalsely : Prop := fnExactDiagramRowRow.holds Tryz.pinned (OpenSpec.ofChange fnExactDiagramRowWrong)

/-- 'laws.FnExactValueOfWeight': WHATEVER THE INPUT: true; the input reads as it did. -/
def fnExactValueOfWeightSpec : ChangeSpec := { name := "fnExactValueOfWeight", fn := fun _ => fun
  | [d1, d2, d3] => { results := [.lit (.bool true)], args := [d1, d2, d3] }
  | _ => none }
def fnExactValueOfWeightRow : OpenClaim := { program := "ythfmlelodmcgkaagreat", sum := "f3404afc7de57e56fdf62d1b94470652e17c72811f3b8b7712b9efa96764503a", func := "loop.example/g01303/laws.FnExactValueOfWeight", spec := "fnExactValueOfWeight", unfollowed := true, recurses := true, apart := false }
def FnExactValueOfWeightSaid : Prop := fnExactValueOfWeightRow.holds Tryz.pinned (OpenSpec.ofChange fnExactValueOfWeightSpec)

/-- ITS FALSE NEIGHBOUR: 'it returns false'. Refute it at one input. -/
def fnExactValueOfWeightWrong : ChangeSpec := { name := "fnExactValueOfWeight", fn := fun _ => fun
  | [d1, d2, d3] => { results := [.lit (.bool false)], args := [d1, d2, d3] }
  | _ => none }
def FnExactValueOfWeightWrongFalsely : Prop := fnExactValueOfWeightRow.holds Tryz.pinned (OpenSpec.ofChange fnExactValueOfWeightWrong)

/-- 'laws.FnExactDimensionOf': WHATEVER THE INPUT: true; the input reads as it did. -/
def fnExactDimensionOfSpec : ChangeSpec := { name := "fnExactDimensionOf", fn := fun _ => fun
  | [d1, d2] => { results := [.lit (.bool true)], args := [d1, d2] }
  | _ => none }
def fnExactDimensionOfRow : OpenClaim := { program := "ythfmlelodmcgkaagreat", sum := "f3404afc7de57e56fdf62d1b94470652e17c72811f3b8b7712b9efa96764503a", func := "loop.example/g01303/laws.FnExactDimensionOf", spec := "fnExactDimensionOf", inPlace := ["slices.overlaps[int64]"], unfollowed := true, recurses := true, apart := false }
def FnExactDimensionOfSaid : Prop := fnExactDimensionOfRow.holds Tryz.pinned (OpenSpec.ofChange fnExactDimensionOfSpec)

/-- ITS FALSE NEIGHBOUR: 'it returns false'. Refute it at one input. -/
def fnExactDimensionOfWrong : ChangeSpec := { name := "fnExactDimensionOf", fn := fun _ => fun
  | [d1, d2] => { results := [.lit (.bool false)], args := [d1, d2] }
  | _ => none }
def FnExactDimensionOfWrongFalsely : Prop := fnExactDimensionOfRow.holds Tryz.pinned (OpenSpec.ofChange fnExactDimensionOfWrong)

/-- 'laws.FnExactFreeDimension': WHATEVER THE INPUT: true; the input reads as it did. -/
def fnExactFreeDimensionSpec : ChangeSpec := { name := "fnExactFreeDimension", fn := fun _ => fun
  | [d1, d2] => { results := [.lit (.bool true)], args := [d1, d2] }
  | _ => none }
def fnExactFreeDimensionRow : OpenClaim := { program := "ythfmlelodmcgkaagreat", sum := "f3404afc7de57e56fdf62d1b94470652e17c72811f3b8b7712b9efa96764503a", func := "loop.example/g01303/laws.FnExactFreeDimension", spec := "fnExactFreeDimension", inPlace := ["slices.overlaps[int64]"], unfollowed := true, recurses := true, apart := false }
def FnExactFreeDimensionSaid : Prop := fnExactFreeDimensionRow.holds Tryz.pinned (OpenSpec.ofChange fnExactFreeDimensionSpec)

/-- ITS FALSE NEIGHBOUR: 'it returns false'. Refute it at one input. -/
def fnExactFreeDimensionWrong : ChangeSpec := { name := "fnExactFreeDimension", fn := fun _ => fun
  | [d1, d2] => { results := [.lit (.bool false)], args := [d1, d2] }
  | _ => none }
def FnExactFreeDimensionWrongFalsely : Prop := fnExactFreeDimensionRow.holds Tryz.pinned (OpenSpec.ofChange fnExactFreeDimensionWrong)

/-- 'laws.FnExactFreeRelationRows': WHATEVER THE INPUT: true; the input reads as it did. -/
def fnExactFreeRelationRowsSpec : ChangeSpec := { name := "fnExactFreeRelationRows", fn := fun _ => fun
  | [d1, d2] => { results := [.lit (.bool true)], args := [d1, d2] }
  | _ => none }
def fnExactFreeRelationRowsRow : OpenClaim := { program := "ythfmlelodmcgkaagreat", sum := "f3404afc7de57e56fdf62d1b94470652e17c72811f3b8b7712b9efa96764503a", func := "loop.example/g01303/laws.FnExactFreeRelationRows", spec := "fnExactFreeRelationRows", inPlace := ["slices.overlaps[int64]"], unfollowed := true, recurses := true, apart := false }
def FnExactFreeRelationRowsSaid : Prop := fnExactFreeRelationRowsRow.holds Tryz.pinned (OpenSpec.ofChange fnExactFreeRelationRowsSpec)

/-- ITS FALSE NEIGHBOUR: 'it returns false'. Refute it at one input. -/
def fnExactFreeRelationRowsWrong : ChangeSpec := { name := "fnExactFreeRelationRows", fn := fun _ => fun
  | [d1, d2] => { results := [.lit (.bool false)], args := [d1, d2] }
  | _ => none }
def FnExactFreeRelationRowsWrongFalsely : Prop := fnExactFreeRelationRowsRow.holds Tryz.pinned (OpenSpec.ofChange fnExactFreeRelationRowsWrong)

/-- 'laws.FnExactRelationRows': WHATEVER THE INPUT: true; the input reads as it did. -/
def fnExactRelationRowsSpec : ChangeSpec := { name := "fnExactRelationRows", fn := fun _ => fun
  | [d1, d2] => { results := [.lit (.bool true)], args := [d1, d2] }
  | _ => none }
def fnExactRelationRowsRow : OpenClaim := { program := "ythfmlelodmcgkaagreat", sum := "f3404afc7de57e56fdf62d1b94470652e17c72811f3b8b7712b9efa96764503a", func := "loop.example/g01303/laws.FnExactRelationRows", spec := "fnExactRelationRows", inPlace := ["slices.overlaps[int64]"], unfollowed := true, recurses := true, apart := false }
def FnExactRelationRowsSaid : Prop := fnExactRelationRowsRow.holds Tryz.pinned (OpenSpec.ofChange fnExactRelationRowsSpec)

/-- ITS FALSE NEIGHBOUR: 'it returns false'. Refute it at one input. -/
def fnExactRelationRowsWrong : ChangeSpec := { name := "fnExactRelationRows", fn := fun _ => fun
  | [d1, d2] => { results := [.lit (.bool false)], args := [d1, d2] }
  | _ => none }
def FnExactRelationRowsWrongFalsely : Prop := fnExactRelationRowsRow.holds Tryz.pinned (OpenSpec.ofChange fnExactRelationRowsWrong)

/-- 'laws.FnExactIsWeightSystem': WHATEVER THE INPUT: true; the input reads as it did. -/
def fnExactIsWeightSystemSpec : ChangeSpec := { name := "fnExactIsWeightSystem", fn := fun _ => fun
  | [d1, d2, d3] => { results := [.lit (.bool true)], args := [d1, d2, d3] }
  | _ => none }
def fnExactIsWeightSystemRow : OpenClaim := { program := "ythfmlelodmcgkaagreat", sum := "f3404afc7de57e56fdf62d1b94470652e17c72811f3b8b7712b9efa96764503a", func := "loop.example/g01303/laws.FnExactIsWeightSystem", spec := "fnExactIsWeightSystem", inPlace := ["slices.overlaps[int64]"], unfollowed := true, recurses := true, apart := false }
def FnExactIsWeightSystemSaid : Prop := fnExactIsWeightSystemRow.holds Tryz.pinned (OpenSpec.ofChange fnExactIsWeightSystemSpec)

/-- ITS FALSE NEIGHBOUR: 'it returns false'. Refute it at one input. -/
def fnExactIsWeightSystemWrong : ChangeSpec := { name := "fnExactIsWeightSystem", fn := fun _ => fun
  | [d1, d2, d3] => { results := [.lit (.bool false)], args := [d1, d2, d3] }
  | _ => none }
def FnExactIsWeightSystemWrongFalsely : Prop := fnExactIsWeightSystemRow.holds Tryz.pinned (OpenSpec.ofChange fnExactIsWeightSystemWrong)

/-- 'laws.FnExactWeightBasis': WHATEVER THE INPUT: true; the input reads as it did. -/
def fnExactWeightBasisSpec : ChangeSpec := { name := "fnExactWeightBasis", fn := fun _ => fun
  | [d1, d2] => { results := [.lit (.bool true)], args := [d1, d2] }
  | _ => none }
def fnExactWeightBasisRow : OpenClaim := { program := "ythfmlelodmcgkaagreat", sum := "f3404afc7de57e56fdf62d1b94470652e17c72811f3b8b7712b9efa96764503a", func := "loop.example/g01303/laws.FnExactWeightBasis", spec := "fnExactWeightBasis", inPlace := ["slices.overlaps[int64]"], unfollowed := true, recurses := true, apart := false }
def FnExactWeightBasisSaid : Prop := fnExactWeightBasisRow.holds Tryz.pinned (OpenSpec.ofChange fnExactWeightBasisSpec)

/-- ITS FALSE NEIGHBOUR: 'it returns false'. Refute it at one input. -/
def fnExactWeightBasisWrong : ChangeSpec := { name := "fnExactWeightBasis", fn := fun _ => fun
  | [d1, d2] => { results := [.lit (.bool false)], args := [d1, d2] }
  | _ => none }
def FnExactWeightBasisWrongFalsely : Prop := fnExactWeightBasisRow.holds Tryz.pinned (OpenSpec.ofChange fnExactWeightBasisWrong)

/-- 'laws.FnExactReduceFreely': WHATEVER THE INPUT: true; the input reads as it did. -/
def fnExactReduceFreelySpec : ChangeSpec := { name := "fnExactReduceFreely", fn := fun _ => fun
  | [d] => { results := [.lit (.bool true)], args := [d] }
  | _ => none }
def fnExactReduceFreelyRow : OpenClaim := { program := "ythfmlelodmcgkaagreat", sum := "f3404afc7de57e56fdf62d1b94470652e17c72811f3b8b7712b9efa96764503a", func := "loop.example/g01303/laws.FnExactReduceFreely", spec := "fnExactReduceFreely", inPlace := ["slices.overlaps[int64]"], unfollowed := true, recurses := true, apart := false }
def FnExactReduceFreelySaid : Prop := fnExactReduceFreelyRow.holds Tryz.pinned (OpenSpec.ofChange fnExactReduceFreelySpec)

/-- ITS FALSE NEIGHBOUR: 'it returns false'. Refute it at one input. -/
def fnExactReduceFreelyWrong : ChangeSpec := { name := "fnExactReduceFreely", fn := fun _ => fun
  | [d] => { results := [.lit (.bool false)], args := [d] }
  | _ => none }
def FnExactReduceFreelyWrongFalsely : Prop := fnExactReduceFreelyRow.holds Tryz.pinned (OpenSpec.ofChange fnExactReduceFreelyWrong)

/-- 'laws.FnExactReduceSum': WHATEVER THE INPUT: true; the input reads as it did. -/
def fnExactReduceSumSpec : ChangeSpec := { name := "fnExactReduceSum", fn := fun _ => fun
  | [d] => { results := [.lit (.bool true)], args := [d] }
  | _ => none }
def fnExactReduceSumRow : OpenClaim := { program := "ythfmlelodmcgkaagreat", sum := "f3404afc7de57e56fdf62d1b94470652e17c72811f3b8b7712b9efa96764503a", func := "loop.example/g01303/laws.FnExactReduceSum", spec := "fnExactReduceSum", inPlace := ["slices.overlaps[int64]"], unfollowed := true, recurses := true, apart := false }
def FnExactReduceSumSaid : Prop := fnExactReduceSumRow.holds Tryz.pinned (OpenSpec.ofChange fnExactReduceSumSpec)

/-- ITS FALSE NEIGHBOUR: 'it returns false'. Refute it at one input. -/
def fnExactReduceSumWrong : ChangeSpec := { name := "fnExactReduceSum", fn := fun _ => fun
  | [d] => { results := [.lit (.bool false)], args := [d] }
  | _ => none }
def FnExactReduceSumWrongFalsely : Prop := fnExactReduceSumRow.holds Tryz.pinned (OpenSpec.ofChange fnExactReduceSumWrong)

/- THE SECOND FORM. 'bulk': how many values and letters a reading holds, each counted each time it is reached (what is shared counts as often as it is met; a slice's spare places count too). A statement '..UptoSaid' is the law's where the arguments, and the package variables that the reading takes, are together of bulk at most 1048576: NARROWER than '..Said'. Prove '..Said' where nothing that the law and all that it calls make is longer than what came in: it says more and counts as full. Else prove '..UptoSaid'. A law counts once. -/
mutual
def uptoBulk {H : Type} : DataW H → Nat
  | .lit (.string bytes) => bytes.length + 1
  | .lit _ => 1
  | .nil => 1
  | .ptr d => uptoBulk d + 1
  | .slice elems spare => uptoBulkAll elems + uptoBulkAll spare + 1
  | .agg parts => uptoBulkAll parts + 1
  | .iface _ d => uptoBulk d + 1
  | .map entries => uptoBulkEntries entries + 1
  | .held _ => 1
def uptoBulkAll {H : Type} : List (DataW H) → Nat
  | [] => 0
  | d :: r => uptoBulk d + uptoBulkAll r
def uptoBulkEntries {H : Type} : List (Lit × DataW H) → Nat
  | [] => 0
  | x :: r => uptoBulkEntry x + uptoBulkEntries r
def uptoBulkEntry {H : Type} : Lit × DataW H → Nat
  | (.string bytes, d) => bytes.length + uptoBulk d + 1
  | (_, d) => uptoBulk d + 1
 end
def uptoSmall : (H : Type) → List (DataW H) → Bool := fun _ ds => decide (uptoBulkAll ds ≤ 1048576)
def OpenSpec.upto (s : _root_.Go.ChangeSpec) : _root_.Go.OpenSpec := { _root_.Go.OpenSpec.ofChange s with cond := some uptoSmall }

/-- 'laws.FnExactDiagramRow', WHERE WHAT IT READS IS OF BULK AT MOST 1048576: true; the input reads as it did. -/
def fnExactDiagramRowUptoRow : OpenClaim := { program := "ythfmlelodmcgkaagreat", sum := "f3404afc7de57e56fdf62d1b94470652e17c72811f3b8b7712b9efa96764503a", func := "loop.example/g01303/laws.FnExactDiagramRow", spec := "fnExactDiagramRow", unfollowed := true, recurses := true, apart := false, narrowed := true }
def FnExactDiagramRowUptoSaid : Prop := fnExactDiagramRowUptoRow.holds Tryz.pinned (OpenSpec.upto fnExactDiagramRowSpec)

/-- 'laws.FnExactValueOfWeight', WHERE WHAT IT READS IS OF BULK AT MOST 1048576: true; the input reads as it did. -/
def fnExactValueOfWeightUptoRow : OpenClaim := { program := "ythfmlelodmcgkaagreat", sum := "f3404afc7de57e56fdf62d1b94470652e17c72811f3b8b7712b9efa96764503a", func := "loop.example/g01303/laws.FnExactValueOfWeight", spec := "fnExactValueOfWeight", unfollowed := true, recurses := true, apart := false, narrowed := true }
def FnExactValueOfWeightUptoSaid : Prop := fnExactValueOfWeightUptoRow.holds Tryz.pinned (OpenSpec.upto fnExactValueOfWeightSpec)

/-- 'laws.FnExactDimensionOf', WHERE WHAT IT READS IS OF BULK AT MOST 1048576: true; the input reads as it did. -/
def fnExactDimensionOfUptoRow : OpenClaim := { program := "ythfmlelodmcgkaagreat", sum := "f3404afc7de57e56fdf62d1b94470652e17c72811f3b8b7712b9efa96764503a", func := "loop.example/g01303/laws.FnExactDimensionOf", spec := "fnExactDimensionOf", inPlace := ["slices.overlaps[int64]"], unfollowed := true, recurses := true, apart := false, narrowed := true }
def FnExactDimensionOfUptoSaid : Prop := fnExactDimensionOfUptoRow.holds Tryz.pinned (OpenSpec.upto fnExactDimensionOfSpec)

/-- 'laws.FnExactFreeDimension', WHERE WHAT IT READS IS OF BULK AT MOST 1048576: true; the input reads as it did. -/
def fnExactFreeDimensionUptoRow : OpenClaim := { program := "ythfmlelodmcgkaagreat", sum := "f3404afc7de57e56fdf62d1b94470652e17c72811f3b8b7712b9efa96764503a", func := "loop.example/g01303/laws.FnExactFreeDimension", spec := "fnExactFreeDimension", inPlace := ["slices.overlaps[int64]"], unfollowed := true, recurses := true, apart := false, narrowed := true }
def FnExactFreeDimensionUptoSaid : Prop := fnExactFreeDimensionUptoRow.holds Tryz.pinned (OpenSpec.upto fnExactFreeDimensionSpec)

/-- 'laws.FnExactFreeRelationRows', WHERE WHAT IT READS IS OF BULK AT MOST 1048576: true; the input reads as it did. -/
def fnExactFreeRelationRowsUptoRow : OpenClaim := { program := "ythfmlelodmcgkaagreat", sum := "f3404afc7de57e56fdf62d1b94470652e17c72811f3b8b7712b9efa96764503a", func := "loop.example/g01303/laws.FnExactFreeRelationRows", spec := "fnExactFreeRelationRows", inPlace := ["slices.overlaps[int64]"], unfollowed := true, recurses := true, apart := false, narrowed := true }
def FnExactFreeRelationRowsUptoSaid : Prop := fnExactFreeRelationRowsUptoRow.holds Tryz.pinned (OpenSpec.upto fnExactFreeRelationRowsSpec)

/-- 'laws.FnExactRelationRows', WHERE WHAT IT READS IS OF BULK AT MOST 1048576: true; the input reads as it did. -/
def fnExactRelationRowsUptoRow : OpenClaim := { program := "ythfmlelodmcgkaagreat", sum := "f3404afc7de57e56fdf62d1b94470652e17c72811f3b8b7712b9efa96764503a", func := "loop.example/g01303/laws.FnExactRelationRows", spec := "fnExactRelationRows", inPlace := ["slices.overlaps[int64]"], unfollowed := true, recurses := true, apart := false, narrowed := true }
def FnExactRelationRowsUptoSaid : Prop := fnExactRelationRowsUptoRow.holds Tryz.pinned (OpenSpec.upto fnExactRelationRowsSpec)

/-- 'laws.FnExactIsWeightSystem', WHERE WHAT IT READS IS OF BULK AT MOST 1048576: true; the input reads as it did. -/
def fnExactIsWeightSystemUptoRow : OpenClaim := { program := "ythfmlelodmcgkaagreat", sum := "f3404afc7de57e56fdf62d1b94470652e17c72811f3b8b7712b9efa96764503a", func := "loop.example/g01303/laws.FnExactIsWeightSystem", spec := "fnExactIsWeightSystem", inPlace := ["slices.overlaps[int64]"], unfollowed := true, recurses := true, apart := false, narrowed := true }
def FnExactIsWeightSystemUptoSaid : Prop := fnExactIsWeightSystemUptoRow.holds Tryz.pinned (OpenSpec.upto fnExactIsWeightSystemSpec)

/-- 'laws.FnExactWeightBasis', WHERE WHAT IT READS IS OF BULK AT MOST 1048576: true; the input reads as it did. -/
def fnExactWeightBasisUptoRow : OpenClaim := { program := "ythfmlelodmcgkaagreat", sum := "f3404afc7de57e56fdf62d1b94470652e17c72811f3b8b7712b9efa96764503a", func := "loop.example/g01303/laws.FnExactWeightBasis", spec := "fnExactWeightBasis", inPlace := ["slices.overlaps[int64]"], unfollowed := true, recurses := true, apart := false, narrowed := true }
def FnExactWeightBasisUptoSaid : Prop := fnExactWeightBasisUptoRow.holds Tryz.pinned (OpenSpec.upto fnExactWeightBasisSpec)

/-- 'laws.FnExactReduceFreely', WHERE WHAT IT READS IS OF BULK AT MOST 1048576: true; the input reads as it did. -/
def fnExactReduceFreelyUptoRow : OpenClaim := { program := "ythfmlelodmcgkaagreat", sum := "f3404afc7de57e56fdf62d1b94470652e17c72811f3b8b7712b9efa96764503a", func := "loop.example/g01303/laws.FnExactReduceFreely", spec := "fnExactReduceFreely", inPlace := ["slices.overlaps[int64]"], unfollowed := true, recurses := true, apart := false, narrowed := true }
def FnExactReduceFreelyUptoSaid : Prop := fnExactReduceFreelyUptoRow.holds Tryz.pinned (OpenSpec.upto fnExactReduceFreelySpec)

/-- 'laws.FnExactReduceSum', WHERE WHAT IT READS IS OF BULK AT MOST 1048576: true; the input reads as it did. -/
def fnExactReduceSumUptoRow : OpenClaim := { program := "ythfmlelodmcgkaagreat", sum := "f3404afc7de57e56fdf62d1b94470652e17c72811f3b8b7712b9efa96764503a", func := "loop.example/g01303/laws.FnExactReduceSum", spec := "fnExactReduceSum", inPlace := ["slices.overlaps[int64]"], unfollowed := true, recurses := true, apart := false, narrowed := true }
def FnExactReduceSumUptoSaid : Prop := fnExactReduceSumUptoRow.holds Tryz.pinned (OpenSpec.upto fnExactReduceSumSpec)

end Rows
end Go.Proofs.YthfmlelodmcgkaaGreat
