/-
  No cell of these rows narrows 'for every input' (looked for: loops, veiled, ifaces, maps, wideKeys, modest, calm, conditions, laid).
  DERIVED. THE GIVEN ROWS OF THIS SEAT. 12 by the template 'for every input the law returns true; each argument reads behind the call as it read before'; 0 by the template 'total and deterministic' (their statements: YtihfncjpfgdhoaaTotals.lean).
  GIVEN WITH THE SEED: the statements are not yours to turn. If you find one false, say at which input.
  Laid BY PROGRAM, IN A SANDBOX (cutbox-rows.mjs): the forced cells as the released guide's own fill.sh prints them over the translation f8aa35f75f0492b3… (all of the seat's roots in one cut). By AI agents, Wed Nov 11 2026. No macro, syntax, notation, axiom, sorry.
-/
import Derived.Test.YtihfncjpfgdhoaaChecked
import GoSem.Claim
import GoSem.ClaimJoined
import GoSem.ClaimMapViews
import Derived.JoinedTies
import Derived.KernelRfl
namespace Go.Proofs.Ytihfncjpfgdhoaa
/- THE CELL 'sum', in the pinned program and in every row, IS THE sha256 OF THE DUMP (.gsa) THAT YtihfncjpfgdhoaaProg.lean LOADS. Nothing in Lean hashes anything: it is a label: what it is worth is what the hold of that sum in a sandbox is worth. -/
noncomputable def Try.pinned : Pinned := { name := "ytihfncjpfgdhoaa", sum := "f8aa35f75f0492b3c6a39bcf8199d3faecd912ee3c49fdde6163f3d531cc8a0f", checked := Try.checked }
namespace Rows
def none {H : Type} : Left H := { results := [], args := [] }

/-- 'laws.FnExactAddChord': WHATEVER THE INPUT: true; the input reads as it did. -/
def fnExactAddChordSpec : ChangeSpec := { name := "fnExactAddChord", fn := fun _ => fun
  | [d1, d2, d3] => { results := [.lit (.bool true)], args := [d1, d2, d3] }
  | _ => none }
def fnExactAddChordRow : OpenClaim := { program := "ytihfncjpfgdhoaa", sum := "f8aa35f75f0492b3c6a39bcf8199d3faecd912ee3c49fdde6163f3d531cc8a0f", func := "loop.example/g01303/laws.FnExactAddChord", spec := "fnExactAddChord", inPlace := ["slices.overlaps[int64]"], apart := false }
def FnExactAddChordSaid : Prop := fnExactAddChordRow.holds Try.pinned (OpenSpec.ofChange fnExactAddChordSpec)

/-- ITS FALSE NEIGHBOUR: 'it returns false'. Refute it at one input. -/
def fnExactAddChordWrong : ChangeSpec := { name := "fnExactAddChord", fn := fun _ => fun
  | [d1, d2, d3] => { results := [.lit (.bool false)], args := [d1, d2, d3] }
  | _ => none }
def FnExactAddChordWrongFalsely : Prop := fnExactAddChordRow.holds Try.pinned (OpenSpec.ofChange fnExactAddChordWrong)

/-- 'laws.FnExactCountPattern': WHATEVER THE INPUT: true; the input reads as it did. -/
def fnExactCountPatternSpec : ChangeSpec := { name := "fnExactCountPattern", fn := fun _ => fun
  | [d1, d2] => { results := [.lit (.bool true)], args := [d1, d2] }
  | _ => none }
def fnExactCountPatternRow : OpenClaim := { program := "ytihfncjpfgdhoaa", sum := "f8aa35f75f0492b3c6a39bcf8199d3faecd912ee3c49fdde6163f3d531cc8a0f", func := "loop.example/g01303/laws.FnExactCountPattern", spec := "fnExactCountPattern", unfollowed := true, recurses := true, apart := false }
def FnExactCountPatternSaid : Prop := fnExactCountPatternRow.holds Try.pinned (OpenSpec.ofChange fnExactCountPatternSpec)

/-- ITS FALSE NEIGHBOUR: 'it returns false'. Refute it at one input. -/
def fnExactCountPatternWrong : ChangeSpec := { name := "fnExactCountPattern", fn := fun _ => fun
  | [d1, d2] => { results := [.lit (.bool false)], args := [d1, d2] }
  | _ => none }
def FnExactCountPatternWrongFalsely : Prop := fnExactCountPatternRow.holds Try.pinned (OpenSpec.ofChange fnExactCountPatternWrong)

/-- 'laws.FnExactSecondNumber': WHATEVER THE INPUT: true; the input reads as it did. -/
def fnExactSecondNumberSpec : ChangeSpec := { name := "fnExactSecondNumber", fn := fun _ => fun
  | [d] => { results := [.lit (.bool true)], args := [d] }
  | _ => none }
def fnExactSecondNumberRow : OpenClaim := { program := "ytihfncjpfgdhoaa", sum := "f8aa35f75f0492b3c6a39bcf8199d3faecd912ee3c49fdde6163f3d531cc8a0f", func := "loop.example/g01303/laws.FnExactSecondNumber", spec := "fnExactSecondNumber", unfollowed := true, recurses := true, apart := false }
def FnExactSecondNumberSaid : Prop := fnExactSecondNumberRow.holds Try.pinned (OpenSpec.ofChange fnExactSecondNumberSpec)

/-- ITS FALSE NEIGHBOUR: 'it returns false'. Refute it at one input. -/
def fnExactSecondNumberWrong : ChangeSpec := { name := "fnExactSecondNumber", fn := fun _ => fun
  | [d] => { results := [.lit (.bool false)], args := [d] }
  | _ => none }
def FnExactSecondNumberWrongFalsely : Prop := fnExactSecondNumberRow.holds Try.pinned (OpenSpec.ofChange fnExactSecondNumberWrong)

/-- 'laws.FnExactRemoveKink': WHATEVER THE INPUT: true; the input reads as it did. -/
def fnExactRemoveKinkSpec : ChangeSpec := { name := "fnExactRemoveKink", fn := fun _ => fun
  | [d1, d2] => { results := [.lit (.bool true)], args := [d1, d2] }
  | _ => none }
def fnExactRemoveKinkRow : OpenClaim := { program := "ytihfncjpfgdhoaa", sum := "f8aa35f75f0492b3c6a39bcf8199d3faecd912ee3c49fdde6163f3d531cc8a0f", func := "loop.example/g01303/laws.FnExactRemoveKink", spec := "fnExactRemoveKink", unfollowed := true, recurses := true, apart := false }
def FnExactRemoveKinkSaid : Prop := fnExactRemoveKinkRow.holds Try.pinned (OpenSpec.ofChange fnExactRemoveKinkSpec)

/-- ITS FALSE NEIGHBOUR: 'it returns false'. Refute it at one input. -/
def fnExactRemoveKinkWrong : ChangeSpec := { name := "fnExactRemoveKink", fn := fun _ => fun
  | [d1, d2] => { results := [.lit (.bool false)], args := [d1, d2] }
  | _ => none }
def FnExactRemoveKinkWrongFalsely : Prop := fnExactRemoveKinkRow.holds Try.pinned (OpenSpec.ofChange fnExactRemoveKinkWrong)

/-- 'laws.FnExactRotateGauss': WHATEVER THE INPUT: true; the input reads as it did. -/
def fnExactRotateGaussSpec : ChangeSpec := { name := "fnExactRotateGauss", fn := fun _ => fun
  | [d1, d2] => { results := [.lit (.bool true)], args := [d1, d2] }
  | _ => none }
def fnExactRotateGaussRow : OpenClaim := { program := "ytihfncjpfgdhoaa", sum := "f8aa35f75f0492b3c6a39bcf8199d3faecd912ee3c49fdde6163f3d531cc8a0f", func := "loop.example/g01303/laws.FnExactRotateGauss", spec := "fnExactRotateGauss", unfollowed := true, recurses := true, apart := false }
def FnExactRotateGaussSaid : Prop := fnExactRotateGaussRow.holds Try.pinned (OpenSpec.ofChange fnExactRotateGaussSpec)

/-- ITS FALSE NEIGHBOUR: 'it returns false'. Refute it at one input. -/
def fnExactRotateGaussWrong : ChangeSpec := { name := "fnExactRotateGauss", fn := fun _ => fun
  | [d1, d2] => { results := [.lit (.bool false)], args := [d1, d2] }
  | _ => none }
def FnExactRotateGaussWrongFalsely : Prop := fnExactRotateGaussRow.holds Try.pinned (OpenSpec.ofChange fnExactRotateGaussWrong)

/-- 'laws.FnExactRemovePair': WHATEVER THE INPUT: true; the input reads as it did. -/
def fnExactRemovePairSpec : ChangeSpec := { name := "fnExactRemovePair", fn := fun _ => fun
  | [d1, d2, d3] => { results := [.lit (.bool true)], args := [d1, d2, d3] }
  | _ => none }
def fnExactRemovePairRow : OpenClaim := { program := "ytihfncjpfgdhoaa", sum := "f8aa35f75f0492b3c6a39bcf8199d3faecd912ee3c49fdde6163f3d531cc8a0f", func := "loop.example/g01303/laws.FnExactRemovePair", spec := "fnExactRemovePair", unfollowed := true, recurses := true, apart := false }
def FnExactRemovePairSaid : Prop := fnExactRemovePairRow.holds Try.pinned (OpenSpec.ofChange fnExactRemovePairSpec)

/-- ITS FALSE NEIGHBOUR: 'it returns false'. Refute it at one input. -/
def fnExactRemovePairWrong : ChangeSpec := { name := "fnExactRemovePair", fn := fun _ => fun
  | [d1, d2, d3] => { results := [.lit (.bool false)], args := [d1, d2, d3] }
  | _ => none }
def FnExactRemovePairWrongFalsely : Prop := fnExactRemovePairRow.holds Try.pinned (OpenSpec.ofChange fnExactRemovePairWrong)

/-- 'laws.FnExactAddKink': WHATEVER THE INPUT: true; the input reads as it did. -/
def fnExactAddKinkSpec : ChangeSpec := { name := "fnExactAddKink", fn := fun _ => fun
  | [d1, d2, d3, d4] => { results := [.lit (.bool true)], args := [d1, d2, d3, d4] }
  | _ => none }
def fnExactAddKinkRow : OpenClaim := { program := "ytihfncjpfgdhoaa", sum := "f8aa35f75f0492b3c6a39bcf8199d3faecd912ee3c49fdde6163f3d531cc8a0f", func := "loop.example/g01303/laws.FnExactAddKink", spec := "fnExactAddKink", inPlace := ["slices.overlaps[int64]"], unfollowed := true, recurses := true, apart := false }
def FnExactAddKinkSaid : Prop := fnExactAddKinkRow.holds Try.pinned (OpenSpec.ofChange fnExactAddKinkSpec)

/-- ITS FALSE NEIGHBOUR: 'it returns false'. Refute it at one input. -/
def fnExactAddKinkWrong : ChangeSpec := { name := "fnExactAddKink", fn := fun _ => fun
  | [d1, d2, d3, d4] => { results := [.lit (.bool false)], args := [d1, d2, d3, d4] }
  | _ => none }
def FnExactAddKinkWrongFalsely : Prop := fnExactAddKinkRow.holds Try.pinned (OpenSpec.ofChange fnExactAddKinkWrong)

/-- 'laws.FnExactAddPair': WHATEVER THE INPUT: true; the input reads as it did. -/
def fnExactAddPairSpec : ChangeSpec := { name := "fnExactAddPair", fn := fun _ => fun
  | [d1, d2, d3, d4, d5] => { results := [.lit (.bool true)], args := [d1, d2, d3, d4, d5] }
  | _ => none }
def fnExactAddPairRow : OpenClaim := { program := "ytihfncjpfgdhoaa", sum := "f8aa35f75f0492b3c6a39bcf8199d3faecd912ee3c49fdde6163f3d531cc8a0f", func := "loop.example/g01303/laws.FnExactAddPair", spec := "fnExactAddPair", inPlace := ["slices.overlaps[int64]"], unfollowed := true, recurses := true, apart := false }
def FnExactAddPairSaid : Prop := fnExactAddPairRow.holds Try.pinned (OpenSpec.ofChange fnExactAddPairSpec)

/-- ITS FALSE NEIGHBOUR: 'it returns false'. Refute it at one input. -/
def fnExactAddPairWrong : ChangeSpec := { name := "fnExactAddPair", fn := fun _ => fun
  | [d1, d2, d3, d4, d5] => { results := [.lit (.bool false)], args := [d1, d2, d3, d4, d5] }
  | _ => none }
def FnExactAddPairWrongFalsely : Prop := fnExactAddPairRow.holds Try.pinned (OpenSpec.ofChange fnExactAddPairWrong)

/-- 'laws.FnExactDivisionsOf': WHATEVER THE INPUT: true; the input reads as it did. -/
def fnExactDivisionsOfSpec : ChangeSpec := { name := "fnExactDivisionsOf", fn := fun _ => fun
  | [d] => { results := [.lit (.bool true)], args := [d] }
  | _ => none }
def fnExactDivisionsOfRow : OpenClaim := { program := "ytihfncjpfgdhoaa", sum := "f8aa35f75f0492b3c6a39bcf8199d3faecd912ee3c49fdde6163f3d531cc8a0f", func := "loop.example/g01303/laws.FnExactDivisionsOf", spec := "fnExactDivisionsOf", unfollowed := true, recurses := true, apart := false }
def FnExactDivisionsOfSaid : Prop := fnExactDivisionsOfRow.holds Try.pinned (OpenSpec.ofChange fnExactDivisionsOfSpec)

/-- ITS FALSE NEIGHBOUR: 'it returns false'. Refute it at one input. -/
def fnExactDivisionsOfWrong : ChangeSpec := { name := "fnExactDivisionsOf", fn := fun _ => fun
  | [d] => { results := [.lit (.bool false)], args := [d] }
  | _ => none }
def FnExactDivisionsOfWrongFalsely : Prop := fnExactDivisionsOfRow.holds Try.pinned (OpenSpec.ofChange fnExactDivisionsOfWrong)

/-- 'laws.FnExactFreeWeight': WHATEVER THE INPUT: true; the input reads as it did. -/
def fnExactFreeWeightSpec : ChangeSpec := { name := "fnExactFreeWeight", fn := fun _ => fun
  | [d] => { results := [.lit (.bool true)], args := [d] }
  | _ => none }
def fnExactFreeWeightRow : OpenClaim := { program := "ytihfncjpfgdhoaa", sum := "f8aa35f75f0492b3c6a39bcf8199d3faecd912ee3c49fdde6163f3d531cc8a0f", func := "loop.example/g01303/laws.FnExactFreeWeight", spec := "fnExactFreeWeight", unfollowed := true, recurses := true, apart := false }
def FnExactFreeWeightSaid : Prop := fnExactFreeWeightRow.holds Try.pinned (OpenSpec.ofChange fnExactFreeWeightSpec)

/-- ITS FALSE NEIGHBOUR: 'it returns false'. Refute it at one input. -/
def fnExactFreeWeightWrong : ChangeSpec := { name := "fnExactFreeWeight", fn := fun _ => fun
  | [d] => { results := [.lit (.bool false)], args := [d] }
  | _ => none }
def FnExactFreeWeightWrongFalsely : Prop := fnExactFreeWeightRow.holds Try.pinned (OpenSpec.ofChange fnExactFreeWeightWrong)

/-- 'laws.FnExactSoWeight': WHATEVER THE INPUT: true; the input reads as it did. -/
def fnExactSoWeightSpec : ChangeSpec := { name := "fnExactSoWeight", fn := fun _ => fun
  | [d] => { results := [.lit (.bool true)], args := [d] }
  | _ => none }
def fnExactSoWeightRow : OpenClaim := { program := "ytihfncjpfgdhoaa", sum := "f8aa35f75f0492b3c6a39bcf8199d3faecd912ee3c49fdde6163f3d531cc8a0f", func := "loop.example/g01303/laws.FnExactSoWeight", spec := "fnExactSoWeight", unfollowed := true, recurses := true, apart := false }
def FnExactSoWeightSaid : Prop := fnExactSoWeightRow.holds Try.pinned (OpenSpec.ofChange fnExactSoWeightSpec)

/-- ITS FALSE NEIGHBOUR: 'it returns false'. Refute it at one input. -/
def fnExactSoWeightWrong : ChangeSpec := { name := "fnExactSoWeight", fn := fun _ => fun
  | [d] => { results := [.lit (.bool false)], args := [d] }
  | _ => none }
def FnExactSoWeightWrongFalsely : Prop := fnExactSoWeightRow.holds Try.pinned (OpenSpec.ofChange fnExactSoWeightWrong)

/-- 'laws.FnExactWeightOfKind': WHATEVER THE INPUT: true; the input reads as it did. -/
def fnExactWeightOfKindSpec : ChangeSpec := { name := "fnExactWeightOfKind", fn := fun _ => fun
  | [d1, d2] => { results := [.lit (.bool true)], args := [d1, d2] }
  | _ => none }
def fnExactWeightOfKindRow : OpenClaim := { program := "ytihfncjpfgdhoaa", sum := "f8aa35f75f0492b3c6a39bcf8199d3faecd912ee3c49fdde6163f3d531cc8a0f", func := "loop.example/g01303/laws.FnExactWeightOfKind", spec := "fnExactWeightOfKind", unfollowed := true, recurses := true, apart := false }
def FnExactWeightOfKindSaid : Prop := fnExactWeightOfKindRow.holds Try.pinned (OpenSpec.ofChange fnExactWeightOfKindSpec)

/-- ITS FALSE NEIGHBOUR: 'it returns false'. Refute it at one input. -/
def fnExactWeightOfKindWrong : ChangeSpec := { name := "fnExactWeightOfKind", fn := fun _ => fun
  | [d1, d2] => { results := [.lit (.bool false)], args := [d1, d2] }
  | _ => none }
def FnExactWeightOfKindWrongFalsely : Prop := fnExactWeightOfKindRow.holds Try.pinned (OpenSpec.ofChange fnExactWeightOfKindWrong)

/- THE SECOND FORM. 'bulk': how many values and letters a reading holds, each counted each time it is reached (what is shared counts as often as it is met; a slice's spare places count too). A statement '..UptoSaid' is the law's where the arguments, and the package variables that the reading takes, are together of bulk at most 1048576: NARROWER than '..Said'. Prove '..Said' where nothing that the law and all that it calls make is longer than what came in: it says more and counts as full. Else prove '..UptoSaid'. A law counts once. -/
mutual
def uptoBulk {H : Type} : DataW H → Nat
  | .lit (.string bytes) => bytes.length + 1
  | .lit _ => 1
  | .nil => 1
  | .ptr d => uptoBulk d + 1
  | .slice elems spare => uptoBulkAll elems + uptoBulkAll spare + 1
  | .agg parts => uptoBulkAll parts + 1
  | .iface _ d => uptoBulk d + 1
  | .map entries => uptoBulkEntries entries + 1
  | .held _ => 1
def uptoBulkAll {H : Type} : List (DataW H) → Nat
  | [] => 0
  | d :: r => uptoBulk d + uptoBulkAll r
def uptoBulkEntries {H : Type} : List (Lit × DataW H) → Nat
  | [] => 0
  | x :: r => uptoBulkEntry x + uptoBulkEntries r
def uptoBulkEntry {H : Type} : Lit × DataW H → Nat
  | (.string bytes, d) => bytes.length + uptoBulk d + 1
  | (_, d) => uptoBulk d + 1
 end
def uptoSmall : (H : Type) → List (DataW H) → Bool := fun _ ds => decide (uptoBulkAll ds ≤ 1048576)
def OpenSpec.upto (s : _root_.Go.ChangeSpec) : _root_.Go.OpenSpec := { _root_.Go.OpenSpec.ofChange s with cond := some uptoSmall }

/-- 'laws.FnExactAddChord', WHERE WHAT IT READS IS OF BULK AT MOST 1048576: true; the input reads as it did. -/
def fnExactAddChordUptoRow : OpenClaim := { program := "ytihfncjpfgdhoaa", sum := "f8aa35f75f0492b3c6a39bcf8199d3faecd912ee3c49fdde6163f3d531cc8a0f", func := "loop.example/g01303/laws.FnExactAddChord", spec := "fnExactAddChord", inPlace := ["slices.overlaps[int64]"], apart := false, narrowed := true }
def FnExactAddChordUptoSaid : Prop := fnExactAddChordUptoRow.holds Try.pinned (OpenSpec.upto fnExactAddChordSpec)

/-- 'laws.FnExactCountPattern', WHERE WHAT IT READS IS OF BULK AT MOST 1048576: true; the input reads as it did. -/
def fnExactCountPatternUptoRow : OpenClaim := { program := "ytihfncjpfgdhoaa", sum := "f8aa35f75f0492b3c6a39bcf8199d3faecd912ee3c49fdde6163f3d531cc8a0f", func := "loop.example/g01303/laws.FnExactCountPattern", spec := "fnExactCountPattern", unfollowed := true, recurses := true, apart := false, narrowed := true }
def FnExactCountPatternUptoSaid : Prop := fnExactCountPatternUptoRow.holds Try.pinned (OpenSpec.upto fnExactCountPatternSpec)

/-- 'laws.FnExactSecondNumber', WHERE WHAT IT READS IS OF BULK AT MOST 1048576: true; the input reads as it did. -/
def fnExactSecondNumberUptoRow : OpenClaim := { program := "ytihfncjpfgdhoaa", sum := "f8aa35f75f0492b3c6a39bcf8199d3faecd912ee3c49fdde6163f3d531cc8a0f", func := "loop.example/g01303/laws.FnExactSecondNumber", spec := "fnExactSecondNumber", unfollowed := true, recurses := true, apart := false, narrowed := true }
def FnExactSecondNumberUptoSaid : Prop := fnExactSecondNumberUptoRow.holds Try.pinned (OpenSpec.upto fnExactSecondNumberSpec)

/-- 'laws.FnExactRemoveKink', WHERE WHAT IT READS IS OF BULK AT MOST 1048576: true; the input reads as it did. -/
def fnExactRemoveKinkUptoRow : OpenClaim := { program := "ytihfncjpfgdhoaa", sum := "f8aa35f75f0492b3c6a39bcf8199d3faecd912ee3c49fdde6163f3d531cc8a0f", func := "loop.example/g01303/laws.FnExactRemoveKink", spec := "fnExactRemoveKink", unfollowed := true, recurses := true, apart := false, narrowed := true }
def FnExactRemoveKinkUptoSaid : Prop := fnExactRemoveKinkUptoRow.holds Try.pinned (OpenSpec.upto fnExactRemoveKinkSpec)

/-- 'laws.FnExactRotateGauss', WHERE WHAT IT READS IS OF BULK AT MOST 1048576: true; the input reads as it did. -/
def fnExactRotateGaussUptoRow : OpenClaim := { program := "ytihfncjpfgdhoaa", sum := "f8aa35f75f0492b3c6a39bcf8199d3faecd912ee3c49fdde6163f3d531cc8a0f", func := "loop.example/g01303/laws.FnExactRotateGauss", spec := "fnExactRotateGauss", unfollowed := true, recurses := true, apart := false, narrowed := true }
def FnExactRotateGaussUptoSaid : Prop := fnExactRotateGaussUptoRow.holds Try.pinned (OpenSpec.upto fnExactRotateGaussSpec)

/-- 'laws.FnExactRemovePair', WHERE WHAT IT READS IS OF BULK AT MOST 1048576: true; the input reads as it did. -/
def fnExactRemovePairUptoRow : OpenClaim := { program := "ytihfncjpfgdhoaa", sum := "f8aa35f75f0492b3c6a39bcf8199d3faecd912ee3c49fdde6163f3d531cc8a0f", func := "loop.example/g01303/laws.FnExactRemovePair", spec := "fnExactRemovePair", unfollowed := true, recurses := true, apart := false, narrowed := true }
def FnExactRemovePairUptoSaid : Prop := fnExactRemovePairUptoRow.holds Try.pinned (OpenSpec.upto fnExactRemovePairSpec)

/-- 'laws.FnExactAddKink', WHERE WHAT IT READS IS OF BULK AT MOST 1048576: true; the input reads as it did. -/
def fnExactAddKinkUptoRow : OpenClaim := { program := "ytihfncjpfgdhoaa", sum := "f8aa35f75f0492b3c6a39bcf8199d3faecd912ee3c49fdde6163f3d531cc8a0f", func := "loop.example/g01303/laws.FnExactAddKink", spec := "fnExactAddKink", inPlace := ["slices.overlaps[int64]"], unfollowed := true, recurses := true, apart := false, narrowed := true }
def FnExactAddKinkUptoSaid : Prop := fnExactAddKinkUptoRow.holds Try.pinned (OpenSpec.upto fnExactAddKinkSpec)

/-- 'laws.FnExactAddPair', WHERE WHAT IT READS IS OF BULK AT MOST 1048576: true; the input reads as it did. -/
def fnExactAddPairUptoRow : OpenClaim := { program := "ytihfncjpfgdhoaa", sum := "f8aa35f75f0492b3c6a39bcf8199d3faecd912ee3c49fdde6163f3d531cc8a0f", func := "loop.example/g01303/laws.FnExactAddPair", spec := "fnExactAddPair", inPlace := ["slices.overlaps[int64]"], unfollowed := true, recurses := true, apart := false, narrowed := true }
def FnExactAddPairUptoSaid : Prop := fnExactAddPairUptoRow.holds Try.pinned (OpenSpec.upto fnExactAddPairSpec)

/-- 'laws.FnExactDivisionsOf', WHERE WHAT IT READS IS OF BULK AT MOST 1048576: true; the input reads as it did. -/
def fnExactDivisionsOfUptoRow : OpenClaim := { program := "ytihfncjpfgdhoaa", sum := "f8aa35f75f0492b3c6a39bcf8199d3faecd912ee3c49fdde6163f3d531cc8a0f", func := "loop.example/g01303/laws.FnExactDivisionsOf", spec := "fnExactDivisionsOf", unfollowed := true, recurses := true, apart := false, narrowed := true }
def FnExactDivisionsOfUptoSaid : Prop := fnExactDivisionsOfUptoRow.holds Try.pinned (OpenSpec.upto fnExactDivisionsOfSpec)

/-- 'laws.FnExactFreeWeight', WHERE WHAT IT READS IS OF BULK AT MOST 1048576: true; the input reads as it did. -/
def fnExactFreeWeightUptoRow : OpenClaim := { program := "ytihfncjpfgdhoaa", sum := "f8aa35f75f0492b3c6a39bcf8199d3faecd912ee3c49fdde6163f3d531cc8a0f", func := "loop.example/g01303/laws.FnExactFreeWeight", spec := "fnExactFreeWeight", unfollowed := true, recurses := true, apart := false, narrowed := true }
def FnExactFreeWeightUptoSaid : Prop := fnExactFreeWeightUptoRow.holds Try.pinned (OpenSpec.upto fnExactFreeWeightSpec)

/-- 'laws.FnExactSoWeight', WHERE WHAT IT READS IS OF BULK AT MOST 1048576: true; the input reads as it did. -/
def fnExactSoWeightUptoRow : OpenClaim := { program := "ytihfncjpfgdhoaa", sum := "f8aa35f75f0492b3c6a39bcf8199d3faecd912ee3c49fdde6163f3d531cc8a0f", func := "loop.example/g01303/laws.FnExactSoWeight", spec := "fnExactSoWeight", unfollowed := true, recurses := true, apart := false, narrowed := true }
def FnExactSoWeightUptoSaid : Prop := fnExactSoWeightUptoRow.holds Try.pinned (OpenSpec.upto fnExactSoWeightSpec)

/-- 'laws.FnExactWeightOfKind', WHERE WHAT IT READS IS OF BULK AT MOST 1048576: true; the input reads as it did. -/
def fnExactWeightOfKindUptoRow : OpenClaim := { program := "ytihfncjpfgdhoaa", sum := "f8aa35f75f0492b3c6a39bcf8199d3faecd912ee3c49fdde6163f3d531cc8a0f", func := "loop.example/g01303/laws.FnExactWeightOfKind", spec := "fnExactWeightOfKind", unfollowed := true, recurses := true, apart := false, narrowed := true }
def FnExactWeightOfKindUptoSaid : Prop := fnExactWeightOfKindUptoRow.holds Try.pinned (OpenSpec.upto fnExactWeightOfKindSpec)

end Rows
end Go.Proofs.Ytihfncjpfgdhoaa
