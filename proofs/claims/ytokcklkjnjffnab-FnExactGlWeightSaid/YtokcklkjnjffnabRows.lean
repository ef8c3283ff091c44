/-
  No cell of these rows narrows 'for every input' (looked for: loops, veiled, ifaces, maps, wideKeys, modest, calm, conditions, laid).
  DERIVED. THE GIVEN ROWS OF THIS SEAT. 10 by the template 'for every input the law returns true; each argument reads behind the call as it read before'; 0 by the template 'total and deterministic' (their statements: YtokcklkjnjffnabTotals.lean).
  GIVEN WITH THE SEED: the statements are not yours to turn. If you find one false, say at which input.
  Laid BY PROGRAM, IN A SANDBOX (cutbox-rows.mjs): the forced cells as the released guide's own fill.sh prints them over the translation 62c4cc77ff3eae28… (all of the seat's roots in one cut). By AI agents, Wed Nov 11 2026. No macro, syntax, notation, axiom, sorry.
-/
import Derived.Test.YtokcklkjnjffnabChecked
import GoSem.Claim
import GoSem.ClaimJoined
import GoSem.ClaimMapViews
import Derived.JoinedTies
import Derived.KernelRfl
namespace Go.Proofs.Ytokcklkjnjffnab
/- THE CELL 'sum', in the pinned program and in every row, IS THE sha256 OF THE DUMP (.gsa) THAT YtokcklkjnjffnabProg.lean LOADS. Nothing in Lean hashes anything: it is a label: what it is worth is what the hold of that sum in a sandbox is worth. -/
noncomputable def Try.pinned : Pinned := { name := "ytokcklkjnjffnab", sum := "62c4cc77ff3eae28ae04dd95756eda4136fe98995b45acbdf56e278846d996e9", checked := Try.checked }
namespace Rows
def none {H : Type} : Left H := { results := [], args := [] }

/-- 'laws.FnExactRemovePair': WHATEVER THE INPUT: true; the input reads as it did. -/
def fnExactRemovePairSpec : ChangeSpec := { name := "fnExactRemovePair", fn := fun _ => fun
  | [d1, d2, d3] => { results := [.lit (.bool true)], args := [d1, d2, d3] }
  | _ => none }
def fnExactRemovePairRow : OpenClaim := { program := "ytokcklkjnjffnab", sum := "62c4cc77ff3eae28ae04dd95756eda4136fe98995b45acbdf56e278846d996e9", func := "loop.example/g01303/laws.FnExactRemovePair", spec := "fnExactRemovePair", unfollowed := true, recurses := true, apart := false }
def FnExactRemovePairSaid : Prop := fnExactRemovePairRow.holds Try.pinned (OpenSpec.ofChange fnExactRemovePairSpec)

/-- ITS FALSE NEIGHBOUR: 'it returns false'. Refute it at one input. -/
def fnExactRemovePairWrong : ChangeSpec := { name := "fnExactRemovePair", fn := fun _ => fun
  | [d1, d2, d3] => { results := [.lit (.bool false)], args := [d1, d2, d3] }
  | _ => none }
def FnExactRemovePairWrongFalsely : Prop := fnExactRemovePairRow.holds Try.pinned (OpenSpec.ofChange fnExactRemovePairWrong)

/-- 'laws.FnExactAddKink': WHATEVER THE INPUT: true; the input reads as it did. -/
def fnExactAddKinkSpec : ChangeSpec := { name := "fnExactAddKink", fn := fun _ => fun
  | [d1, d2, d3, d4] => { results := [.lit (.bool true)], args := [d1, d2, d3, d4] }
  | _ => none }
def fnExactAddKinkRow : OpenClaim := { program := "ytokcklkjnjffnab", sum := "62c4cc77ff3eae28ae04dd95756eda4136fe98995b45acbdf56e278846d996e9", func := "loop.example/g01303/laws.FnExactAddKink", spec := "fnExactAddKink", inPlace := ["slices.overlaps[int64]"], unfollowed := true, recurses := true, apart := false }
def FnExactAddKinkSaid : Prop := fnExactAddKinkRow.holds Try.pinned (OpenSpec.ofChange fnExactAddKinkSpec)

/-- ITS FALSE NEIGHBOUR: 'it returns false'. Refute it at one input. -/
def fnExactAddKinkWrong : ChangeSpec := { name := "fnExactAddKink", fn := fun _ => fun
  | [d1, d2, d3, d4] => { results := [.lit (.bool false)], args := [d1, d2, d3, d4] }
  | _ => none }
def FnExactAddKinkWrongFalsely : Prop := fnExactAddKinkRow.holds Try.pinned (OpenSpec.ofChange fnExactAddKinkWrong)

/-- 'laws.FnExactAddPair': WHATEVER THE INPUT: true; the input reads as it did. -/
def fnExactAddPairSpec : ChangeSpec := { name := "fnExactAddPair", fn := fun _ => fun
  | [d1, d2, d3, d4, d5] => { results := [.lit (.bool true)], args := [d1, d2, d3, d4, d5] }
  | _ => none }
def fnExactAddPairRow : OpenClaim := { program := "ytokcklkjnjffnab", sum := "62c4cc77ff3eae28ae04dd95756eda4136fe98995b45acbdf56e278846d996e9", func := "loop.example/g01303/laws.FnExactAddPair", spec := "fnExactAddPair", inPlace := ["slices.overlaps[int64]"], unfollowed := true, recurses := true, apart := false }
def FnExactAddPairSaid : Prop := fnExactAddPairRow.holds Try.pinned (OpenSpec.ofChange fnExactAddPairSpec)

/-- ITS FALSE NEIGHBOUR: 'it returns false'. Refute it at one input. -/
def fnExactAddPairWrong : ChangeSpec := { name := "fnExactAddPair", fn := fun _ => fun
  | [d1, d2, d3, d4, d5] => { results := [.lit (.bool false)], args := [d1, d2, d3, d4, d5] }
  | _ => none }
def FnExactAddPairWrongFalsely : Prop := fnExactAddPairRow.holds Try.pinned (OpenSpec.ofChange fnExactAddPairWrong)

/-- 'laws.FnExactFreeWeight': WHATEVER THE INPUT: true; the input reads as it did. -/
def fnExactFreeWeightSpec : ChangeSpec := { name := "fnExactFreeWeight", fn := fun _ => fun
  | [d] => { results := [.lit (.bool true)], args := [d] }
  | _ => none }
def fnExactFreeWeightRow : OpenClaim := { program := "ytokcklkjnjffnab", sum := "62c4cc77ff3eae28ae04dd95756eda4136fe98995b45acbdf56e278846d996e9", func := "loop.example/g01303/laws.FnExactFreeWeight", spec := "fnExactFreeWeight", unfollowed := true, recurses := true, apart := false }
def FnExactFreeWeightSaid : Prop := fnExactFreeWeightRow.holds Try.pinned (OpenSpec.ofChange fnExactFreeWeightSpec)

/-- ITS FALSE NEIGHBOUR: 'it returns false'. Refute it at one input. -/
def fnExactFreeWeightWrong : ChangeSpec := { name := "fnExactFreeWeight", fn := fun _ => fun
  | [d] => { results := [.lit (.bool false)], args := [d] }
  | _ => none }
def FnExactFreeWeightWrongFalsely : Prop := fnExactFreeWeightRow.holds Try.pinned (OpenSpec.ofChange fnExactFreeWeightWrong)

/-- 'laws.FnExactGlWeight': WHATEVER THE INPUT: true; the input reads as it did. -/
def fnExactGlWeightSpec : ChangeSpec := { name := "fnExactGlWeight", fn := fun _ => fun
  | [d] => { results := [.lit (.bool true)], args := [d] }
  | _ => none }
def fnExactGlWeightRow : OpenClaim := { program := "ytokcklkjnjffnab", sum := "62c4cc77ff3eae28ae04dd95756eda4136fe98995b45acbdf56e278846d996e9", func := "loop.example/g01303/laws.FnExactGlWeight", spec := "fnExactGlWeight", unfollowed := true, recurses := true, apart := false }
def FnExactGlWeightSaid : Prop := fnExactGlWeightRow.holds Try.pinned (OpenSpec.ofChange fnExactGlWeightSpec)

/-- ITS FALSE NEIGHBOUR: 'it returns false'. Refute it at one input. -/
def fnExactGlWeightWrong : ChangeSpec := { name := "fnExactGlWeight", fn := fun _ => fun
  | [d] => { results := [.lit (.bool false)], args := [d] }
  | _ => none }
def FnExactGlWeightWrongFalsely : Prop := fnExactGlWeightRow.holds Try.pinned (OpenSpec.ofChange fnExactGlWeightWrong)

/-- 'laws.FnExactSoWeight': WHATEVER THE INPUT: true; the input reads as it did. -/
def fnExactSoWeightSpec : ChangeSpec := { name := "fnExactSoWeight", fn := fun _ => fun
  | [d] => { results := [.lit (.bool true)], args := [d] }
  | _ => none }
def fnExactSoWeightRow : OpenClaim := { program := "ytokcklkjnjffnab", sum := "62c4cc77ff3eae28ae04dd95756eda4136fe98995b45acbdf56e278846d996e9", func := "loop.example/g01303/laws.FnExactSoWeight", spec := "fnExactSoWeight", unfollowed := true, recurses := true, apart := false }
def FnExactSoWeightSaid : Prop := fnExactSoWeightRow.holds Try.pinned (OpenSpec.ofChange fnExactSoWeightSpec)

/-- ITS FALSE NEIGHBOUR: 'it returns false'. Refute it at one input. -/
def fnExactSoWeightWrong : ChangeSpec := { name := "fnExactSoWeight", fn := fun _ => fun
  | [d] => { results := [.lit (.bool false)], args := [d] }
  | _ => none }
def FnExactSoWeightWrongFalsely : Prop := fnExactSoWeightRow.holds Try.pinned (OpenSpec.ofChange fnExactSoWeightWrong)

/-- 'laws.FnExactWeightOfKind': WHATEVER THE INPUT: true; the input reads as it did. -/
def fnExactWeightOfKindSpec : ChangeSpec := { name := "fnExactWeightOfKind", fn := fun _ => fun
  | [d1, d2] => { results := [.lit (.bool true)], args := [d1, d2] }
  | _ => none }
def fnExactWeightOfKindRow : OpenClaim := { program := "ytokcklkjnjffnab", sum := "62c4cc77ff3eae28ae04dd95756eda4136fe98995b45acbdf56e278846d996e9", func := "loop.example/g01303/laws.FnExactWeightOfKind", spec := "fnExactWeightOfKind", unfollowed := true, recurses := true, apart := false }
def FnExactWeightOfKindSaid : Prop := fnExactWeightOfKindRow.holds Try.pinned (OpenSpec.ofChange fnExactWeightOfKindSpec)

/-- ITS FALSE NEIGHBOUR: 'it returns false'. Refute it at one input. -/
def fnExactWeightOfKindWrong : ChangeSpec := { name := "fnExactWeightOfKind", fn := fun _ => fun
  | [d1, d2] => { results := [.lit (.bool false)], args := [d1, d2] }
  | _ => none }
def FnExactWeightOfKindWrongFalsely : Prop := fnExactWeightOfKindRow.holds Try.pinned (OpenSpec.ofChange fnExactWeightOfKindWrong)

/-- 'laws.FnLists': WHATEVER THE INPUT: true; the input reads as it did. -/
def fnListsSpec : ChangeSpec := { name := "fnLists", fn := fun _ => fun
  | [d] => { results := [.lit (.bool true)], args := [d] }
  | _ => none }
def fnListsRow : OpenClaim := { program := "ytokcklkjnjffnab", sum := "62c4cc77ff3eae28ae04dd95756eda4136fe98995b45acbdf56e278846d996e9", func := "loop.example/g01303/laws.FnLists", spec := "fnLists", unfollowed := true, recurses := true, apart := false }
def FnListsSaid : Prop := fnListsRow.holds Try.pinned (OpenSpec.ofChange fnListsSpec)

/-- ITS FALSE NEIGHBOUR: 'it returns false'. Refute it at one input. -/
def fnListsWrong : ChangeSpec := { name := "fnLists", fn := fun _ => fun
  | [d] => { results := [.lit (.bool false)], args := [d] }
  | _ => none }
def FnListsWrongFalsely : Prop := fnListsRow.holds Try.pinned (OpenSpec.ofChange fnListsWrong)

/-- 'laws.FnWeightProducts': WHATEVER THE INPUT: true; the input reads as it did. -/
def fnWeightProductsSpec : ChangeSpec := { name := "fnWeightProducts", fn := fun _ => fun
  | [d] => { results := [.lit (.bool true)], args := [d] }
  | _ => none }
def fnWeightProductsRow : OpenClaim := { program := "ytokcklkjnjffnab", sum := "62c4cc77ff3eae28ae04dd95756eda4136fe98995b45acbdf56e278846d996e9", func := "loop.example/g01303/laws.FnWeightProducts", spec := "fnWeightProducts", unfollowed := true, recurses := true, apart := false }
def FnWeightProductsSaid : Prop := fnWeightProductsRow.holds Try.pinned (OpenSpec.ofChange fnWeightProductsSpec)

/-- ITS FALSE NEIGHBOUR: 'it returns false'. Refute it at one input. -/
def fnWeightProductsWrong : ChangeSpec := { name := "fnWeightProducts", fn := fun _ => fun
  | [d] => { results := [.lit (.bool false)], args := [d] }
  | _ => none }
def FnWeightProductsWrongFalsely : Prop := fnWeightProductsRow.holds Try.pinned (OpenSpec.ofChange fnWeightProductsWrong)

/-- 'laws.FnWords': WHATEVER THE INPUT: true; the input reads as it did. -/
def fnWordsSpec : ChangeSpec := { name := "fnWords", fn := fun _ => fun
  | [d] => { results := [.lit (.bool true)], args := [d] }
  | _ => none }
def fnWordsRow : OpenClaim := { program := "ytokcklkjnjffnab", sum := "62c4cc77ff3eae28ae04dd95756eda4136fe98995b45acbdf56e278846d996e9", func := "loop.example/g01303/laws.FnWords", spec := "fnWords", unfollowed := true, recurses := true, apart := false }
def FnWordsSaid : Prop := fnWordsRow.holds Try.pinned (OpenSpec.ofChange fnWordsSpec)

/-- ITS FALSE NEIGHBOUR: 'it returns false'. Refute it at one input. -/
def fnWordsWrong : ChangeSpec := { name := "fnWords", fn := fun _ => fun
  | [d] => { results := [.lit (.bool false)], args := [d] }
  | _ => none }
def FnWordsWrongFalsely : Prop := fnWordsRow.holds Try.pinned (OpenSpec.ofChange fnWordsWrong)

/- THE SECOND FORM. 'bulk': how many values and letters a reading holds, each counted each time it is reached (what is shared counts as often as it is met; a slice's spare places count too). A statement '..UptoSaid' is the law's where the arguments, and the package variables that the reading takes, are together of bulk at most 1048576: NARROWER than '..Said'. Prove '..Said' where nothing that the law and all that it calls make is longer than what came in: it says more and counts as full. Else prove '..UptoSaid'. A law counts once. -/
mutual
def uptoBulk {H : Type} : DataW H → Nat
  | .lit (.string bytes) => bytes.length + 1
  | .lit _ => 1
  | .nil => 1
  | .ptr d => uptoBulk d + 1
  | .slice elems spare => uptoBulkAll elems + uptoBulkAll spare + 1
  | .agg parts => uptoBulkAll parts + 1
  | .iface _ d => uptoBulk d + 1
  | .map entries => uptoBulkEntries entries + 1
  | .held _ => 1
def uptoBulkAll {H : Type} : List (DataW H) → Nat
  | [] => 0
  | d :: r => uptoBulk d + uptoBulkAll r
def uptoBulkEntries {H : Type} : List (Lit × DataW H) → Nat
  | [] => 0
  | x :: r => uptoBulkEntry x + uptoBulkEntries r
def uptoBulkEntry {H : Type} : Lit × DataW H → Nat
  | (.string bytes, d) => bytes.length + uptoBulk d + 1
  | (_, d) => uptoBulk d + 1
 end
def uptoSmall : (H : Type) → List (DataW H) → Bool := fun _ ds => decide (uptoBulkAll ds ≤ 1048576)
def OpenSpec.upto (s : _root_.Go.ChangeSpec) : _root_.Go.OpenSpec := { _root_.Go.OpenSpec.ofChange s with cond := some uptoSmall }

/-- 'laws.FnExactRemovePair', WHERE WHAT IT READS IS OF BULK AT MOST 1048576: true; the input reads as it did. -/
def fnExactRemovePairUptoRow : OpenClaim := { program := "ytokcklkjnjffnab", sum := "62c4cc77ff3eae28ae04dd95756eda4136fe98995b45acbdf56e278846d996e9", func := "loop.example/g01303/laws.FnExactRemovePair", spec := "fnExactRemovePair", unfollowed := true, recurses := true, apart := false, narrowed := true }
def FnExactRemovePairUptoSaid : Prop := fnExactRemovePairUptoRow.holds Try.pinned (OpenSpec.upto fnExactRemovePairSpec)

/-- 'laws.FnExactAddKink', WHERE WHAT IT READS IS OF BULK AT MOST 1048576: true; the input reads as it did. -/
def fnExactAddKinkUptoRow : OpenClaim := { program := "ytokcklkjnjffnab", sum := "62c4cc77ff3eae28ae04dd95756eda4136fe98995b45acbdf56e278846d996e9", func := "loop.example/g01303/laws.FnExactAddKink", spec := "fnExactAddKink", inPlace := ["slices.overlaps[int64]"], unfollowed := true, recurses := true, apart := false, narrowed := true }
def FnExactAddKinkUptoSaid : Prop := fnExactAddKinkUptoRow.holds Try.pinned (OpenSpec.upto fnExactAddKinkSpec)

/-- 'laws.FnExactAddPair', WHERE WHAT IT READS IS OF BULK AT MOST 1048576: true; the input reads as it did. -/
def fnExactAddPairUptoRow : OpenClaim := { program := "ytokcklkjnjffnab", sum := "62c4cc77ff3eae28ae04dd95756eda4136fe98995b45acbdf56e278846d996e9", func := "loop.example/g01303/laws.FnExactAddPair", spec := "fnExactAddPair", inPlace := ["slices.overlaps[int64]"], unfollowed := true, recurses := true, apart := false, narrowed := true }
def FnExactAddPairUptoSaid : Prop := fnExactAddPairUptoRow.holds Try.pinned (OpenSpec.upto fnExactAddPairSpec)

/-- 'laws.FnExactFreeWeight', WHERE WHAT IT READS IS OF BULK AT MOST 1048576: true; the input reads as it did. -/
def fnExactFreeWeightUptoRow : OpenClaim := { program := "ytokcklkjnjffnab", sum := "62c4cc77ff3eae28ae04dd95756eda4136fe98995b45acbdf56e278846d996e9", func := "loop.example/g01303/laws.FnExactFreeWeight", spec := "fnExactFreeWeight", unfollowed := true, recurses := true, apart := false, narrowed := true }
def FnExactFreeWeightUptoSaid : Prop := fnExactFreeWeightUptoRow.holds Try.pinned (OpenSpec.upto fnExactFreeWeightSpec)

/-- 'laws.FnExactGlWeight', WHERE WHAT IT READS IS OF BULK AT MOST 1048576: true; the input reads as it did. -/
def fnExactGlWeightUptoRow : OpenClaim := { program := "ytokcklkjnjffnab", sum := "62c4cc77ff3eae28ae04dd95756eda4136fe98995b45acbdf56e278846d996e9", func := "loop.example/g01303/laws.FnExactGlWeight", spec := "fnExactGlWeight", unfollowed := true, recurses := true, apart := false, narrowed := true }
def FnExactGlWeightUptoSaid : Prop := fnExactGlWeightUptoRow.holds Try.pinned (OpenSpec.upto fnExactGlWeightSpec)

/-- 'laws.FnExactSoWeight', WHERE WHAT IT READS IS OF BULK AT MOST 1048576: true; the input reads as it did. -/
def fnExactSoWeightUptoRow : OpenClaim := { program := "ytokcklkjnjffnab", sum := "62c4cc77ff3eae28ae04dd95756eda4136fe98995b45acbdf56e278846d996e9", func := "loop.example/g01303/laws.FnExactSoWeight", spec := "fnExactSoWeight", unfollowed := true, recurses := true, apart := false, narrowed := true }
def FnExactSoWeightUptoSaid : Prop := fnExactSoWeightUptoRow.holds Try.pinned (OpenSpec.upto fnExactSoWeightSpec)

/-- 'laws.FnExactWeightOfKind', WHERE WHAT IT READS IS OF BULK AT MOST 1048576: true; the input reads as it did. -/
def fnExactWeightOfKindUptoRow : OpenClaim := { program := "ytokcklkjnjffnab", sum := "62c4cc77ff3eae28ae04dd95756eda4136fe98995b45acbdf56e278846d996e9", func := "loop.example/g01303/laws.FnExactWeightOfKind", spec := "fnExactWeightOfKind", unfollowed := true, recurses := true, apart := false, narrowed := true }
def FnExactWeightOfKindUptoSaid : Prop := fnExactWeightOfKindUptoRow.holds Try.pinned (OpenSpec.upto fnExactWeightOfKindSpec)

/-- 'laws.FnLists', WHERE WHAT IT READS IS OF BULK AT MOST 1048576: true; the input reads as it did. -/
def fnListsUptoRow : OpenClaim := { program := "ytokcklkjnjffnab", sum := "62c4cc77ff3eae28ae04dd95756eda4136fe98995b45acbdf56e278846d996e9", func := "loop.example/g01303/laws.FnLists", spec := "fnLists", unfollowed := true, recurses := true, apart := false, narrowed := true }
def FnListsUptoSaid : Prop := fnListsUptoRow.holds Try.pinned (OpenSpec.upto fnListsSpec)

/-- 'laws.FnWeightProducts', WHERE WHAT IT READS IS OF BULK AT MOST 1048576: true; the input reads as it did. -/
def fnWeightProductsUptoRow : OpenClaim := { program := "ytokcklkjnjffnab", sum := "62c4cc77ff3eae28ae04dd95756eda4136fe98995b45acbdf56e278846d996e9", func := "loop.example/g01303/laws.FnWeightProducts", spec := "fnWeightProducts", unfollowed := true, recurses := true, apart := false, narrowed := true }
def FnWeightProductsUptoSaid : Prop := fnWeightProductsUptoRow.holds Try.pinned (OpenSpec.upto fnWeightProductsSpec)

/-- 'laws.FnWords', WHERE WHAT IT READS IS OF BULK AT MOST 1048576: true; the input reads as it did. -/
def fnWordsUptoRow : OpenClaim := { program := "ytokcklkjnjffnab", sum := "62c4cc77ff3eae28ae04dd95756eda4136fe98995b45acbdf56e278846d996e9", func := "loop.example/g01303/laws.FnWords", spec := "fnWords", unfollowed := true, recurses := true, apart := false, narrowed := true }
def FnWordsUptoSaid : Prop := fnWordsUptoRow.holds Try.pinned (OpenSpec.upto fnWordsSpec)

end Rows
end Go.Proofs.Ytokcklkjnjffnab
