/-
  No cell of these rows narrows 'for every input' (looked for: loops, veiled, ifaces, maps, wideKeys, modest, calm, conditions, laid).
  DERIVED. THE GIVEN ROWS OF THIS SEAT. 11 by the template 'for every input the law returns true; each argument reads behind the call as it read before'; 0 by the template 'total and deterministic' (their statements: YtokcklkjnjffnaaTotals.lean).
  GIVEN WITH THE SEED: the statements are not yours to turn. If you find one false, say at which input.
  Laid BY PROGRAM, IN A SANDBOX (cutbox-rows.mjs): the forced cells as the released guide's own fill.sh prints them over the translation 9b38ff31e9b98619… (all of the seat's roots in one cut). By AI agents, Wed Nov 11 2026. No macro, syntax, notation, axiom, sorry.
-/
import Derived.Test.YtokcklkjnjffnaaChecked
import GoSem.Claim
import GoSem.ClaimJoined
import GoSem.ClaimMapViews
import Derived.JoinedTies
import Derived.KernelRfl
namespace Go.Proofs.Ytokcklkjnjffnaa
/- THE CELL 'sum', in the pinned program and in every row, IS THE sha256 OF THE DUMP (.gsa) THAT YtokcklkjnjffnaaProg.lean LOADS. Nothing in Lean hashes anything: it is a label: what it is worth is what the hold of that sum in a sandbox is worth. -/
noncomputable def Try.pinned : Pinned := { name := "ytokcklkjnjffnaa", sum := "9b38ff31e9b98619f62dec36a9ae360be383e21e3e44018d0032548bc7bcdafa", checked := Try.checked }
namespace Rows
def none {H : Type} : Left H := { results := [], args := [] }

/-- 'laws.FnExactDivisionsOf': WHATEVER THE INPUT: true; the input reads as it did. -/
def fnExactDivisionsOfSpec : ChangeSpec := { name := "fnExactDivisionsOf", fn := fun _ => fun
  | [d] => { results := [.lit (.bool true)], args := [d] }
  | _ => none }
def fnExactDivisionsOfRow : OpenClaim := { program := "ytokcklkjnjffnaa", sum := "9b38ff31e9b98619f62dec36a9ae360be383e21e3e44018d0032548bc7bcdafa", func := "loop.example/g01303/laws.FnExactDivisionsOf", spec := "fnExactDivisionsOf", unfollowed := true, recurses := true, apart := false }
def FnExactDivisionsOfSaid : Prop := fnExactDivisionsOfRow.holds Try.pinned (OpenSpec.ofChange fnExactDivisionsOfSpec)

/-- ITS FALSE NEIGHBOUR: 'it returns false'. Refute it at one input. -/
def fnExactDivisionsOfWrong : ChangeSpec := { name := "fnExactDivisionsOf", fn := fun _ => fun
  | [d] => { results := [.lit (.bool false)], args := [d] }
  | _ => none }
def FnExactDivisionsOfWrongFalsely : Prop := fnExactDivisionsOfRow.holds Try.pinned (OpenSpec.ofChange fnExactDivisionsOfWrong)

/-- 'laws.FnExactUntransformCounts': WHATEVER THE INPUT: true; the input reads as it did. -/
def fnExactUntransformCountsSpec : ChangeSpec := { name := "fnExactUntransformCounts", fn := fun _ => fun
  | [d] => { results := [.lit (.bool true)], args := [d] }
  | _ => none }
def fnExactUntransformCountsRow : OpenClaim := { program := "ytokcklkjnjffnaa", sum := "9b38ff31e9b98619f62dec36a9ae360be383e21e3e44018d0032548bc7bcdafa", func := "loop.example/g01303/laws.FnExactUntransformCounts", spec := "fnExactUntransformCounts", unfollowed := true, recurses := true, apart := false }
def FnExactUntransformCountsSaid : Prop := fnExactUntransformCountsRow.holds Try.pinned (OpenSpec.ofChange fnExactUntransformCountsSpec)

/-- ITS FALSE NEIGHBOUR: 'it returns false'. Refute it at one input. -/
def fnExactUntransformCountsWrong : ChangeSpec := { name := "fnExactUntransformCounts", fn := fun _ => fun
  | [d] => { results := [.lit (.bool false)], args := [d] }
  | _ => none }
def FnExactUntransformCountsWrongFalsely : Prop := fnExactUntransformCountsRow.holds Try.pinned (OpenSpec.ofChange fnExactUntransformCountsWrong)

/-- 'laws.FnExactTransformCounts': WHATEVER THE INPUT: true; the input reads as it did. -/
def fnExactTransformCountsSpec : ChangeSpec := { name := "fnExactTransformCounts", fn := fun _ => fun
  | [d] => { results := [.lit (.bool true)], args := [d] }
  | _ => none }
def fnExactTransformCountsRow : OpenClaim := { program := "ytokcklkjnjffnaa", sum := "9b38ff31e9b98619f62dec36a9ae360be383e21e3e44018d0032548bc7bcdafa", func := "loop.example/g01303/laws.FnExactTransformCounts", spec := "fnExactTransformCounts", unfollowed := true, recurses := true, apart := false }
def FnExactTransformCountsSaid : Prop := fnExactTransformCountsRow.holds Try.pinned (OpenSpec.ofChange fnExactTransformCountsSpec)

/-- ITS FALSE NEIGHBOUR: 'it returns false'. Refute it at one input. -/
def fnExactTransformCountsWrong : ChangeSpec := { name := "fnExactTransformCounts", fn := fun _ => fun
  | [d] => { results := [.lit (.bool false)], args := [d] }
  | _ => none }
def FnExactTransformCountsWrongFalsely : Prop := fnExactTransformCountsRow.holds Try.pinned (OpenSpec.ofChange fnExactTransformCountsWrong)

/-- 'laws.FnTransforms': WHATEVER THE INPUT: true; the input reads as it did. -/
def fnTransformsSpec : ChangeSpec := { name := "fnTransforms", fn := fun _ => fun
  | [d] => { results := [.lit (.bool true)], args := [d] }
  | _ => none }
def fnTransformsRow : OpenClaim := { program := "ytokcklkjnjffnaa", sum := "9b38ff31e9b98619f62dec36a9ae360be383e21e3e44018d0032548bc7bcdafa", func := "loop.example/g01303/laws.FnTransforms", spec := "fnTransforms", unfollowed := true, recurses := true, apart := false }
def FnTransformsSaid : Prop := fnTransformsRow.holds Try.pinned (OpenSpec.ofChange fnTransformsSpec)

/-- ITS FALSE NEIGHBOUR: 'it returns false'. Refute it at one input. -/
def fnTransformsWrong : ChangeSpec := { name := "fnTransforms", fn := fun _ => fun
  | [d] => { results := [.lit (.bool false)], args := [d] }
  | _ => none }
def FnTransformsWrongFalsely : Prop := fnTransformsRow.holds Try.pinned (OpenSpec.ofChange fnTransformsWrong)

/-- 'laws.FnExactConwayWeight': WHATEVER THE INPUT: true; the input reads as it did. -/
def fnExactConwayWeightSpec : ChangeSpec := { name := "fnExactConwayWeight", fn := fun _ => fun
  | [d] => { results := [.lit (.bool true)], args := [d] }
  | _ => none }
def fnExactConwayWeightRow : OpenClaim := { program := "ytokcklkjnjffnaa", sum := "9b38ff31e9b98619f62dec36a9ae360be383e21e3e44018d0032548bc7bcdafa", func := "loop.example/g01303/laws.FnExactConwayWeight", spec := "fnExactConwayWeight", unfollowed := true, recurses := true, apart := false }
def FnExactConwayWeightSaid : Prop := fnExactConwayWeightRow.holds Try.pinned (OpenSpec.ofChange fnExactConwayWeightSpec)

/-- ITS FALSE NEIGHBOUR: 'it returns false'. Refute it at one input. -/
def fnExactConwayWeightWrong : ChangeSpec := { name := "fnExactConwayWeight", fn := fun _ => fun
  | [d] => { results := [.lit (.bool false)], args := [d] }
  | _ => none }
def FnExactConwayWeightWrongFalsely : Prop := fnExactConwayWeightRow.holds Try.pinned (OpenSpec.ofChange fnExactConwayWeightWrong)

/-- 'laws.FnExactAddChord': WHATEVER THE INPUT: true; the input reads as it did. -/
def fnExactAddChordSpec : ChangeSpec := { name := "fnExactAddChord", fn := fun _ => fun
  | [d1, d2, d3] => { results := [.lit (.bool true)], args := [d1, d2, d3] }
  | _ => none }
def fnExactAddChordRow : OpenClaim := { program := "ytokcklkjnjffnaa", sum := "9b38ff31e9b98619f62dec36a9ae360be383e21e3e44018d0032548bc7bcdafa", func := "loop.example/g01303/laws.FnExactAddChord", spec := "fnExactAddChord", inPlace := ["slices.overlaps[int64]"], apart := false }
def FnExactAddChordSaid : Prop := fnExactAddChordRow.holds Try.pinned (OpenSpec.ofChange fnExactAddChordSpec)

/-- ITS FALSE NEIGHBOUR: 'it returns false'. Refute it at one input. -/
def fnExactAddChordWrong : ChangeSpec := { name := "fnExactAddChord", fn := fun _ => fun
  | [d1, d2, d3] => { results := [.lit (.bool false)], args := [d1, d2, d3] }
  | _ => none }
def FnExactAddChordWrongFalsely : Prop := fnExactAddChordRow.holds Try.pinned (OpenSpec.ofChange fnExactAddChordWrong)

/-- 'laws.FnExactReverseGauss': WHATEVER THE INPUT: true; the input reads as it did. -/
def fnExactReverseGaussSpec : ChangeSpec := { name := "fnExactReverseGauss", fn := fun _ => fun
  | [d] => { results := [.lit (.bool true)], args := [d] }
  | _ => none }
def fnExactReverseGaussRow : OpenClaim := { program := "ytokcklkjnjffnaa", sum := "9b38ff31e9b98619f62dec36a9ae360be383e21e3e44018d0032548bc7bcdafa", func := "loop.example/g01303/laws.FnExactReverseGauss", spec := "fnExactReverseGauss", unfollowed := true, recurses := true, apart := false }
def FnExactReverseGaussSaid : Prop := fnExactReverseGaussRow.holds Try.pinned (OpenSpec.ofChange fnExactReverseGaussSpec)

/-- ITS FALSE NEIGHBOUR: 'it returns false'. Refute it at one input. -/
def fnExactReverseGaussWrong : ChangeSpec := { name := "fnExactReverseGauss", fn := fun _ => fun
  | [d] => { results := [.lit (.bool false)], args := [d] }
  | _ => none }
def FnExactReverseGaussWrongFalsely : Prop := fnExactReverseGaussRow.holds Try.pinned (OpenSpec.ofChange fnExactReverseGaussWrong)

/-- 'laws.FnExactCountPattern': WHATEVER THE INPUT: true; the input reads as it did. -/
def fnExactCountPatternSpec : ChangeSpec := { name := "fnExactCountPattern", fn := fun _ => fun
  | [d1, d2] => { results := [.lit (.bool true)], args := [d1, d2] }
  | _ => none }
def fnExactCountPatternRow : OpenClaim := { program := "ytokcklkjnjffnaa", sum := "9b38ff31e9b98619f62dec36a9ae360be383e21e3e44018d0032548bc7bcdafa", func := "loop.example/g01303/laws.FnExactCountPattern", spec := "fnExactCountPattern", unfollowed := true, recurses := true, apart := false }
def FnExactCountPatternSaid : Prop := fnExactCountPatternRow.holds Try.pinned (OpenSpec.ofChange fnExactCountPatternSpec)

/-- ITS FALSE NEIGHBOUR: 'it returns false'. Refute it at one input. -/
def fnExactCountPatternWrong : ChangeSpec := { name := "fnExactCountPattern", fn := fun _ => fun
  | [d1, d2] => { results := [.lit (.bool false)], args := [d1, d2] }
  | _ => none }
def FnExactCountPatternWrongFalsely : Prop := fnExactCountPatternRow.holds Try.pinned (OpenSpec.ofChange fnExactCountPatternWrong)

/-- 'laws.FnExactSecondNumber': WHATEVER THE INPUT: true; the input reads as it did. -/
def fnExactSecondNumberSpec : ChangeSpec := { name := "fnExactSecondNumber", fn := fun _ => fun
  | [d] => { results := [.lit (.bool true)], args := [d] }
  | _ => none }
def fnExactSecondNumberRow : OpenClaim := { program := "ytokcklkjnjffnaa", sum := "9b38ff31e9b98619f62dec36a9ae360be383e21e3e44018d0032548bc7bcdafa", func := "loop.example/g01303/laws.FnExactSecondNumber", spec := "fnExactSecondNumber", unfollowed := true, recurses := true, apart := false }
def FnExactSecondNumberSaid : Prop := fnExactSecondNumberRow.holds Try.pinned (OpenSpec.ofChange fnExactSecondNumberSpec)

/-- ITS FALSE NEIGHBOUR: 'it returns false'. Refute it at one input. -/
def fnExactSecondNumberWrong : ChangeSpec := { name := "fnExactSecondNumber", fn := fun _ => fun
  | [d] => { results := [.lit (.bool false)], args := [d] }
  | _ => none }
def FnExactSecondNumberWrongFalsely : Prop := fnExactSecondNumberRow.holds Try.pinned (OpenSpec.ofChange fnExactSecondNumberWrong)

/-- 'laws.FnExactRemoveKink': WHATEVER THE INPUT: true; the input reads as it did. -/
def fnExactRemoveKinkSpec : ChangeSpec := { name := "fnExactRemoveKink", fn := fun _ => fun
  | [d1, d2] => { results := [.lit (.bool true)], args := [d1, d2] }
  | _ => none }
def fnExactRemoveKinkRow : OpenClaim := { program := "ytokcklkjnjffnaa", sum := "9b38ff31e9b98619f62dec36a9ae360be383e21e3e44018d0032548bc7bcdafa", func := "loop.example/g01303/laws.FnExactRemoveKink", spec := "fnExactRemoveKink", unfollowed := true, recurses := true, apart := false }
def FnExactRemoveKinkSaid : Prop := fnExactRemoveKinkRow.holds Try.pinned (OpenSpec.ofChange fnExactRemoveKinkSpec)

/-- ITS FALSE NEIGHBOUR: 'it returns false'. Refute it at one input. -/
def fnExactRemoveKinkWrong : ChangeSpec := { name := "fnExactRemoveKink", fn := fun _ => fun
  | [d1, d2] => { results := [.lit (.bool false)], args := [d1, d2] }
  | _ => none }
def FnExactRemoveKinkWrongFalsely : Prop := fnExactRemoveKinkRow.holds Try.pinned (OpenSpec.ofChange fnExactRemoveKinkWrong)

/-- 'laws.FnExactRotateGauss': WHATEVER THE INPUT: true; the input reads as it did. -/
def fnExactRotateGaussSpec : ChangeSpec := { name := "fnExactRotateGauss", fn := fun _ => fun
  | [d1, d2] => { results := [.lit (.bool true)], args := [d1, d2] }
  | _ => none }
def fnExactRotateGaussRow : OpenClaim := { program := "ytokcklkjnjffnaa", sum := "9b38ff31e9b98619f62dec36a9ae360be383e21e3e44018d0032548bc7bcdafa", func := "loop.example/g01303/laws.FnExactRotateGauss", spec := "fnExactRotateGauss", unfollowed := true, recurses := true, apart := false }
def FnExactRotateGaussSaid : Prop := fnExactRotateGaussRow.holds Try.pinned (OpenSpec.ofChange fnExactRotateGaussSpec)

/-- ITS FALSE NEIGHBOUR: 'it returns false'. Refute it at one input. -/
def fnExactRotateGaussWrong : ChangeSpec := { name := "fnExactRotateGauss", fn := fun _ => fun
  | [d1, d2] => { results := [.lit (.bool false)], args := [d1, d2] }
  | _ => none }
def FnExactRotateGaussWrongFalsely : Prop := fnExactRotateGaussRow.holds Try.pinned (OpenSpec.ofChange fnExactRotateGaussWrong)

/- THE SECOND FORM. 'bulk': how many values and letters a reading holds, each counted each time it is reached (what is shared counts as often as it is met; a slice's spare places count too). A statement '..UptoSaid' is the law's where the arguments, and the package variables that the reading takes, are together of bulk at most 1048576: NARROWER than '..Said'. Prove '..Said' where nothing that the law and all that it calls make is longer than what came in: it says more and counts as full. Else prove '..UptoSaid'. A law counts once. -/
mutual
def uptoBulk {H : Type} : DataW H → Nat
  | .lit (.string bytes) => bytes.length + 1
  | .lit _ => 1
  | .nil => 1
  | .ptr d => uptoBulk d + 1
  | .slice elems spare => uptoBulkAll elems + uptoBulkAll spare + 1
  | .agg parts => uptoBulkAll parts + 1
  | .iface _ d => uptoBulk d + 1
  | .map entries => uptoBulkEntries entries + 1
  | .held _ => 1
def uptoBulkAll {H : Type} : List (DataW H) → Nat
  | [] => 0
  | d :: r => uptoBulk d + uptoBulkAll r
def uptoBulkEntries {H : Type} : List (Lit × DataW H) → Nat
  | [] => 0
  | x :: r => uptoBulkEntry x + uptoBulkEntries r
def uptoBulkEntry {H : Type} : Lit × DataW H → Nat
  | (.string bytes, d) => bytes.length + uptoBulk d + 1
  | (_, d) => uptoBulk d + 1
 end
def uptoSmall : (H : Type) → List (DataW H) → Bool := fun _ ds => decide (uptoBulkAll ds ≤ 1048576)
def OpenSpec.upto (s : _root_.Go.ChangeSpec) : _root_.Go.OpenSpec := { _root_.Go.OpenSpec.ofChange s with cond := some uptoSmall }

/-- 'laws.FnExactDivisionsOf', WHERE WHAT IT READS IS OF BULK AT MOST 1048576: true; the input reads as it did. -/
def fnExactDivisionsOfUptoRow : OpenClaim := { program := "ytokcklkjnjffnaa", sum := "9b38ff31e9b98619f62dec36a9ae360be383e21e3e44018d0032548bc7bcdafa", func := "loop.example/g01303/laws.FnExactDivisionsOf", spec := "fnExactDivisionsOf", unfollowed := true, recurses := true, apart := false, narrowed := true }
def FnExactDivisionsOfUptoSaid : Prop := fnExactDivisionsOfUptoRow.holds Try.pinned (OpenSpec.upto fnExactDivisionsOfSpec)

/-- 'laws.FnExactUntransformCounts', WHERE WHAT IT READS IS OF BULK AT MOST 1048576: true; the input reads as it did. -/
def fnExactUntransformCountsUptoRow : OpenClaim := { program := "ytokcklkjnjffnaa", sum := "9b38ff31e9b98619f62dec36a9ae360be383e21e3e44018d0032548bc7bcdafa", func := "loop.example/g01303/laws.FnExactUntransformCounts", spec := "fnExactUntransformCounts", unfollowed := true, recurses := true, apart := false, narrowed := true }
def FnExactUntransformCountsUptoSaid : Prop := fnExactUntransformCountsUptoRow.holds Try.pinned (OpenSpec.upto fnExactUntransformCountsSpec)

/-- 'laws.FnExactTransformCounts', WHERE WHAT IT READS IS OF BULK AT MOST 1048576: true; the input reads as it did. -/
def fnExactTransformCountsUptoRow : OpenClaim := { program := "ytokcklkjnjffnaa", sum := "9b38ff31e9b98619f62dec36a9ae360be383e21e3e44018d0032548bc7bcdafa", func := "loop.example/g01303/laws.FnExactTransformCounts", spec := "fnExactTransformCounts", unfollowed := true, recurses := true, apart := false, narrowed := true }
def FnExactTransformCountsUptoSaid : Prop := fnExactTransformCountsUptoRow.holds Try.pinned (OpenSpec.upto fnExactTransformCountsSpec)

/-- 'laws.FnTransforms', WHERE WHAT IT READS IS OF BULK AT MOST 1048576: true; the input reads as it did. -/
def fnTransformsUptoRow : OpenClaim := { program := "ytokcklkjnjffnaa", sum := "9b38ff31e9b98619f62dec36a9ae360be383e21e3e44018d0032548bc7bcdafa", func := "loop.example/g01303/laws.FnTransforms", spec := "fnTransforms", unfollowed := true, recurses := true, apart := false, narrowed := true }
def FnTransformsUptoSaid : Prop := fnTransformsUptoRow.holds Try.pinned (OpenSpec.upto fnTransformsSpec)

/-- 'laws.FnExactConwayWeight', WHERE WHAT IT READS IS OF BULK AT MOST 1048576: true; the input reads as it did. -/
def fnExactConwayWeightUptoRow : OpenClaim := { program := "ytokcklkjnjffnaa", sum := "9b38ff31e9b98619f62dec36a9ae360be383e21e3e44018d0032548bc7bcdafa", func := "loop.example/g01303/laws.FnExactConwayWeight", spec := "fnExactConwayWeight", unfollowed := true, recurses := true, apart := false, narrowed := true }
def FnExactConwayWeightUptoSaid : Prop := fnExactConwayWeightUptoRow.holds Try.pinned (OpenSpec.upto fnExactConwayWeightSpec)

/-- 'laws.FnExactAddChord', WHERE WHAT IT READS IS OF BULK AT MOST 1048576: true; the input reads as it did. -/
def fnExactAddChordUptoRow : OpenClaim := { program := "ytokcklkjnjffnaa", sum := "9b38ff31e9b98619f62dec36a9ae360be383e21e3e44018d0032548bc7bcdafa", func := "loop.example/g01303/laws.FnExactAddChord", spec := "fnExactAddChord", inPlace := ["slices.overlaps[int64]"], apart := false, narrowed := true }
def FnExactAddChordUptoSaid : Prop := fnExactAddChordUptoRow.holds Try.pinned (OpenSpec.upto fnExactAddChordSpec)

/-- 'laws.FnExactReverseGauss', WHERE WHAT IT READS IS OF BULK AT MOST 1048576: true; the input reads as it did. -/
def fnExactReverseGaussUptoRow : OpenClaim := { program := "ytokcklkjnjffnaa", sum := "9b38ff31e9b98619f62dec36a9ae360be383e21e3e44018d0032548bc7bcdafa", func := "loop.example/g01303/laws.FnExactReverseGauss", spec := "fnExactReverseGauss", unfollowed := true, recurses := true, apart := false, narrowed := true }
def FnExactReverseGaussUptoSaid : Prop := fnExactReverseGaussUptoRow.holds Try.pinned (OpenSpec.upto fnExactReverseGaussSpec)

/-- 'laws.FnExactCountPattern', WHERE WHAT IT READS IS OF BULK AT MOST 1048576: true; the input reads as it did. -/
def fnExactCountPatternUptoRow : OpenClaim := { program := "ytokcklkjnjffnaa", sum := "9b38ff31e9b98619f62dec36a9ae360be383e21e3e44018d0032548bc7bcdafa", func := "loop.example/g01303/laws.FnExactCountPattern", spec := "fnExactCountPattern", unfollowed := true, recurses := true, apart := false, narrowed := true }
def FnExactCountPatternUptoSaid : Prop := fnExactCountPatternUptoRow.holds Try.pinned (OpenSpec.upto fnExactCountPatternSpec)

/-- 'laws.FnExactSecondNumber', WHERE WHAT IT READS IS OF BULK AT MOST 1048576: true; the input reads as it did. -/
def fnExactSecondNumberUptoRow : OpenClaim := { program := "ytokcklkjnjffnaa", sum := "9b38ff31e9b98619f62dec36a9ae360be383e21e3e44018d0032548bc7bcdafa", func := "loop.example/g01303/laws.FnExactSecondNumber", spec := "fnExactSecondNumber", unfollowed := true, recurses := true, apart := false, narrowed := true }
def FnExactSecondNumberUptoSaid : Prop := fnExactSecondNumberUptoRow.holds Try.pinned (OpenSpec.upto fnExactSecondNumberSpec)

/-- 'laws.FnExactRemoveKink', WHERE WHAT IT READS IS OF BULK AT MOST 1048576: true; the input reads as it did. -/
def fnExactRemoveKinkUptoRow : OpenClaim := { program := "ytokcklkjnjffnaa", sum := "9b38ff31e9b98619f62dec36a9ae360be383e21e3e44018d0032548bc7bcdafa", func := "loop.example/g01303/laws.FnExactRemoveKink", spec := "fnExactRemoveKink", unfollowed := true, recurses := true, apart := false, narrowed := true }
def FnExactRemoveKinkUptoSaid : Prop := fnExactRemoveKinkUptoRow.holds Try.pinned (OpenSpec.upto fnExactRemoveKinkSpec)

/-- 'laws.FnExactRotateGauss', WHERE WHAT IT READS IS OF BULK AT MOST 1048576: true; the input reads as it did. -/
def fnExactRotateGaussUptoRow : OpenClaim := { program := "ytokcklkjnjffnaa", sum := "9b38ff31e9b98619f62dec36a9ae360be383e21e3e44018d0032548bc7bcdafa", func := "loop.example/g01303/laws.FnExactRotateGauss", spec := "fnExactRotateGauss", unfollowed := true, recurses := true, apart := false, narrowed := true }
def FnExactRotateGaussUptoSaid : Prop := fnExactRotateGaussUptoRow.holds Try.pinned (OpenSpec.upto fnExactRotateGaussSpec)

end Rows
end Go.Proofs.Ytokcklkjnjffnaa
