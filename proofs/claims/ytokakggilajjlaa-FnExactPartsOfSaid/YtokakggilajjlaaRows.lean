/-
  No cell of these rows narrows 'for every input' (looked for: loops, veiled, ifaces, maps, wideKeys, modest, calm, conditions, laid).
  DERIVED. THE GIVEN ROWS OF THIS SEAT. 10 by the template 'for every input the law returns true; each argument reads behind the call as it read before'; 0 by the template 'total and deterministic' (their statements: YtokakggilajjlaaTotals.lean).
  GIVEN WITH THE SEED: the statements are not yours to turn. If you find one false, say at which input.
  Laid BY PROGRAM, IN A SANDBOX (cutbox-rows.mjs): the forced cells as the released guide's own fill.sh prints them over the translation 6b11bb7851a11d4f… (all of the seat's roots in one cut). By AI agents, Wed Nov 11 2026. No macro, syntax, notation, axiom, sorry.
-/
import Derived.Test.YtokakggilajjlaaChecked
import GoSem.Claim
import GoSem.ClaimJoined
import GoSem.ClaimMapViews
import Derived.JoinedTies
import Derived.KernelRfl
namespace Go.Proofs.Ytokakggilajjlaa
/- THE CELL 'sum', in the pinned program and in every row, IS THE sha256 OF THE DUMP (.gsa) THAT YtokakggilajjlaaProg.lean LOADS. Nothing in Lean hashes anything: it is a label: what it is worth is what the hold of that sum in a sandbox is worth. -/
noncomputable def Try.pinned : Pinned := { name := "ytokakggilajjlaa", sum := "6b11bb7851a11d4f6a77318205a8461f2d190997c7ec6488121c7805d07d4586", checked := Try.checked }
namespace Rows
def none {H : Type} : Left H := { results := [], args := [] }

/-- 'laws.FnExactPartOfSum': WHATEVER THE INPUT: true; the input reads as it did. -/
def fnExactPartOfSumSpec : ChangeSpec := { name := "fnExactPartOfSum", fn := fun _ => fun
  | [d1, d2] => { results := [.lit (.bool true)], args := [d1, d2] }
  | _ => none }
def fnExactPartOfSumRow : OpenClaim := { program := "ytokakggilajjlaa", sum := "6b11bb7851a11d4f6a77318205a8461f2d190997c7ec6488121c7805d07d4586", func := "loop.example/g01303/laws.FnExactPartOfSum", spec := "fnExactPartOfSum", unfollowed := true, recurses := true, plainKeys := false, apart := false }
def FnExactPartOfSumSaid : Prop := fnExactPartOfSumRow.holds Try.pinned (OpenSpec.ofChange fnExactPartOfSumSpec)

/-- ITS FALSE NEIGHBOUR: 'it returns false'. Refute it at one input. -/
def fnExactPartOfSumWrong : ChangeSpec := { name := "fnExactPartOfSum", fn := fun _ => fun
  | [d1, d2] => { results := [.lit (.bool false)], args := [d1, d2] }
  | _ => none }
def FnExactPartOfSumWrongFalsely : Prop := fnExactPartOfSumRow.holds Try.pinned (OpenSpec.ofChange fnExactPartOfSumWrong)

/-- 'laws.FnExactJoinSums': WHATEVER THE INPUT: true; the input reads as it did. -/
def fnExactJoinSumsSpec : ChangeSpec := { name := "fnExactJoinSums", fn := fun _ => fun
  | [d1, d2] => { results := [.lit (.bool true)], args := [d1, d2] }
  | _ => none }
def fnExactJoinSumsRow : OpenClaim := { program := "ytokakggilajjlaa", sum := "6b11bb7851a11d4f6a77318205a8461f2d190997c7ec6488121c7805d07d4586", func := "loop.example/g01303/laws.FnExactJoinSums", spec := "fnExactJoinSums", unfollowed := true, recurses := true, plainKeys := false, apart := false }
def FnExactJoinSumsSaid : Prop := fnExactJoinSumsRow.holds Try.pinned (OpenSpec.ofChange fnExactJoinSumsSpec)

/-- ITS FALSE NEIGHBOUR: 'it returns false'. Refute it at one input. -/
def fnExactJoinSumsWrong : ChangeSpec := { name := "fnExactJoinSums", fn := fun _ => fun
  | [d1, d2] => { results := [.lit (.bool false)], args := [d1, d2] }
  | _ => none }
def FnExactJoinSumsWrongFalsely : Prop := fnExactJoinSumsRow.holds Try.pinned (OpenSpec.ofChange fnExactJoinSumsWrong)

/-- 'laws.FnExactDerivativeOf': WHATEVER THE INPUT: true; the input reads as it did. -/
def fnExactDerivativeOfSpec : ChangeSpec := { name := "fnExactDerivativeOf", fn := fun _ => fun
  | [d] => { results := [.lit (.bool true)], args := [d] }
  | _ => none }
def fnExactDerivativeOfRow : OpenClaim := { program := "ytokakggilajjlaa", sum := "6b11bb7851a11d4f6a77318205a8461f2d190997c7ec6488121c7805d07d4586", func := "loop.example/g01303/laws.FnExactDerivativeOf", spec := "fnExactDerivativeOf", unfollowed := true, recurses := true, plainKeys := false, apart := false }
def FnExactDerivativeOfSaid : Prop := fnExactDerivativeOfRow.holds Try.pinned (OpenSpec.ofChange fnExactDerivativeOfSpec)

/-- ITS FALSE NEIGHBOUR: 'it returns false'. Refute it at one input. -/
def fnExactDerivativeOfWrong : ChangeSpec := { name := "fnExactDerivativeOf", fn := fun _ => fun
  | [d] => { results := [.lit (.bool false)], args := [d] }
  | _ => none }
def FnExactDerivativeOfWrongFalsely : Prop := fnExactDerivativeOfRow.holds Try.pinned (OpenSpec.ofChange fnExactDerivativeOfWrong)

/-- 'laws.FnExactFourTermSum': WHATEVER THE INPUT: true; the input reads as it did. -/
def fnExactFourTermSumSpec : ChangeSpec := { name := "fnExactFourTermSum", fn := fun _ => fun
  | [d1, d2, d3, d4] => { results := [.lit (.bool true)], args := [d1, d2, d3, d4] }
  | _ => none }
def fnExactFourTermSumRow : OpenClaim := { program := "ytokakggilajjlaa", sum := "6b11bb7851a11d4f6a77318205a8461f2d190997c7ec6488121c7805d07d4586", func := "loop.example/g01303/laws.FnExactFourTermSum", spec := "fnExactFourTermSum", inPlace := ["slices.overlaps[int64]"], unfollowed := true, recurses := true, plainKeys := false, apart := false }
def FnExactFourTermSumSaid : Prop := fnExactFourTermSumRow.holds Try.pinned (OpenSpec.ofChange fnExactFourTermSumSpec)

/-- ITS FALSE NEIGHBOUR: 'it returns false'. Refute it at one input. -/
def fnExactFourTermSumWrong : ChangeSpec := { name := "fnExactFourTermSum", fn := fun _ => fun
  | [d1, d2, d3, d4] => { results := [.lit (.bool false)], args := [d1, d2, d3, d4] }
  | _ => none }
def FnExactFourTermSumWrongFalsely : Prop := fnExactFourTermSumRow.holds Try.pinned (OpenSpec.ofChange fnExactFourTermSumWrong)

/-- 'laws.FnExactCoproductOf': WHATEVER THE INPUT: true; the input reads as it did. -/
def fnExactCoproductOfSpec : ChangeSpec := { name := "fnExactCoproductOf", fn := fun _ => fun
  | [d] => { results := [.lit (.bool true)], args := [d] }
  | _ => none }
def fnExactCoproductOfRow : OpenClaim := { program := "ytokakggilajjlaa", sum := "6b11bb7851a11d4f6a77318205a8461f2d190997c7ec6488121c7805d07d4586", func := "loop.example/g01303/laws.FnExactCoproductOf", spec := "fnExactCoproductOf", unfollowed := true, recurses := true, plainKeys := false, apart := false }
def FnExactCoproductOfSaid : Prop := fnExactCoproductOfRow.holds Try.pinned (OpenSpec.ofChange fnExactCoproductOfSpec)

/-- ITS FALSE NEIGHBOUR: 'it returns false'. Refute it at one input. -/
def fnExactCoproductOfWrong : ChangeSpec := { name := "fnExactCoproductOf", fn := fun _ => fun
  | [d] => { results := [.lit (.bool false)], args := [d] }
  | _ => none }
def FnExactCoproductOfWrongFalsely : Prop := fnExactCoproductOfRow.holds Try.pinned (OpenSpec.ofChange fnExactCoproductOfWrong)

/-- 'laws.FnExactIsGroupLike': WHATEVER THE INPUT: true; the input reads as it did. -/
def fnExactIsGroupLikeSpec : ChangeSpec := { name := "fnExactIsGroupLike", fn := fun _ => fun
  | [d1, d2] => { results := [.lit (.bool true)], args := [d1, d2] }
  | _ => none }
def fnExactIsGroupLikeRow : OpenClaim := { program := "ytokakggilajjlaa", sum := "6b11bb7851a11d4f6a77318205a8461f2d190997c7ec6488121c7805d07d4586", func := "loop.example/g01303/laws.FnExactIsGroupLike", spec := "fnExactIsGroupLike", unfollowed := true, recurses := true, plainKeys := false, apart := false }
def FnExactIsGroupLikeSaid : Prop := fnExactIsGroupLikeRow.holds Try.pinned (OpenSpec.ofChange fnExactIsGroupLikeSpec)

/-- ITS FALSE NEIGHBOUR: 'it returns false'. Refute it at one input. -/
def fnExactIsGroupLikeWrong : ChangeSpec := { name := "fnExactIsGroupLike", fn := fun _ => fun
  | [d1, d2] => { results := [.lit (.bool false)], args := [d1, d2] }
  | _ => none }
def FnExactIsGroupLikeWrongFalsely : Prop := fnExactIsGroupLikeRow.holds Try.pinned (OpenSpec.ofChange fnExactIsGroupLikeWrong)

/-- 'laws.FnExactIsPrimitive': WHATEVER THE INPUT: true; the input reads as it did. -/
def fnExactIsPrimitiveSpec : ChangeSpec := { name := "fnExactIsPrimitive", fn := fun _ => fun
  | [d] => { results := [.lit (.bool true)], args := [d] }
  | _ => none }
def fnExactIsPrimitiveRow : OpenClaim := { program := "ytokakggilajjlaa", sum := "6b11bb7851a11d4f6a77318205a8461f2d190997c7ec6488121c7805d07d4586", func := "loop.example/g01303/laws.FnExactIsPrimitive", spec := "fnExactIsPrimitive", unfollowed := true, recurses := true, plainKeys := false, apart := false }
def FnExactIsPrimitiveSaid : Prop := fnExactIsPrimitiveRow.holds Try.pinned (OpenSpec.ofChange fnExactIsPrimitiveSpec)

/-- ITS FALSE NEIGHBOUR: 'it returns false'. Refute it at one input. -/
def fnExactIsPrimitiveWrong : ChangeSpec := { name := "fnExactIsPrimitive", fn := fun _ => fun
  | [d] => { results := [.lit (.bool false)], args := [d] }
  | _ => none }
def FnExactIsPrimitiveWrongFalsely : Prop := fnExactIsPrimitiveRow.holds Try.pinned (OpenSpec.ofChange fnExactIsPrimitiveWrong)

/-- 'laws.FnExactWeightOfSum': WHATEVER THE INPUT: true; the input reads as it did. -/
def fnExactWeightOfSumSpec : ChangeSpec := { name := "fnExactWeightOfSum", fn := fun _ => fun
  | [d1, d2] => { results := [.lit (.bool true)], args := [d1, d2] }
  | _ => none }
def fnExactWeightOfSumRow : OpenClaim := { program := "ytokakggilajjlaa", sum := "6b11bb7851a11d4f6a77318205a8461f2d190997c7ec6488121c7805d07d4586", func := "loop.example/g01303/laws.FnExactWeightOfSum", spec := "fnExactWeightOfSum", unfollowed := true, recurses := true, plainKeys := false, apart := false }
def FnExactWeightOfSumSaid : Prop := fnExactWeightOfSumRow.holds Try.pinned (OpenSpec.ofChange fnExactWeightOfSumSpec)

/-- ITS FALSE NEIGHBOUR: 'it returns false'. Refute it at one input. -/
def fnExactWeightOfSumWrong : ChangeSpec := { name := "fnExactWeightOfSum", fn := fun _ => fun
  | [d1, d2] => { results := [.lit (.bool false)], args := [d1, d2] }
  | _ => none }
def FnExactWeightOfSumWrongFalsely : Prop := fnExactWeightOfSumRow.holds Try.pinned (OpenSpec.ofChange fnExactWeightOfSumWrong)

/-- 'laws.FnExactPartsOf': WHATEVER THE INPUT: true; the input reads as it did. -/
def fnExactPartsOfSpec : ChangeSpec := { name := "fnExactPartsOf", fn := fun _ => fun
  | [d] => { results := [.lit (.bool true)], args := [d] }
  | _ => none }
def fnExactPartsOfRow : OpenClaim := { program := "ytokakggilajjlaa", sum := "6b11bb7851a11d4f6a77318205a8461f2d190997c7ec6488121c7805d07d4586", func := "loop.example/g01303/laws.FnExactPartsOf", spec := "fnExactPartsOf", recurses := true, plainKeys := false, apart := false }
def FnExactPartsOfSaid : Prop := fnExactPartsOfRow.holds Try.pinned (OpenSpec.ofChange fnExactPartsOfSpec)

/-- ITS FALSE NEIGHBOUR: 'it returns false'. Refute it at one input. -/
def fnExactPartsOfWrong : ChangeSpec := { name := "fnExactPartsOf", fn := fun _ => fun
  | [d] => { results := [.lit (.bool false)], args := [d] }
  | _ => none }
def FnExactPartsOfWrongFalsely : Prop := fnExactPartsOfRow.holds Try.pinned (OpenSpec.ofChange fnExactPartsOfWrong)

/-- 'laws.FnExactCrossingRank': WHATEVER THE INPUT: true; the input reads as it did. -/
def fnExactCrossingRankSpec : ChangeSpec := { name := "fnExactCrossingRank", fn := fun _ => fun
  | [d] => { results := [.lit (.bool true)], args := [d] }
  | _ => none }
def fnExactCrossingRankRow : OpenClaim := { program := "ytokakggilajjlaa", sum := "6b11bb7851a11d4f6a77318205a8461f2d190997c7ec6488121c7805d07d4586", func := "loop.example/g01303/laws.FnExactCrossingRank", spec := "fnExactCrossingRank", unfollowed := true, recurses := true, plainKeys := false, apart := false }
def FnExactCrossingRankSaid : Prop := fnExactCrossingRankRow.holds Try.pinned (OpenSpec.ofChange fnExactCrossingRankSpec)

/-- ITS FALSE NEIGHBOUR: 'it returns false'. Refute it at one input. -/
def fnExactCrossingRankWrong : ChangeSpec := { name := "fnExactCrossingRank", fn := fun _ => fun
  | [d] => { results := [.lit (.bool false)], args := [d] }
  | _ => none }
def FnExactCrossingRankWrongFalsely : Prop := fnExactCrossingRankRow.holds Try.pinned (OpenSpec.ofChange fnExactCrossingRankWrong)

/- THE SECOND FORM. 'bulk': how many values and letters a reading holds, each counted each time it is reached (what is shared counts as often as it is met; a slice's spare places count too). A statement '..UptoSaid' is the law's where the arguments, and the package variables that the reading takes, are together of bulk at most 1048576: NARROWER than '..Said'. Prove '..Said' where nothing that the law and all that it calls make is longer than what came in: it says more and counts as full. Else prove '..UptoSaid'. A law counts once. -/
mutual
def uptoBulk {H : Type} : DataW H → Nat
  | .lit (.string bytes) => bytes.length + 1
  | .lit _ => 1
  | .nil => 1
  | .ptr d => uptoBulk d + 1
  | .slice elems spare => uptoBulkAll elems + uptoBulkAll spare + 1
  | .agg parts => uptoBulkAll parts + 1
  | .iface _ d => uptoBulk d + 1
  | .map entries => uptoBulkEntries entries + 1
  | .held _ => 1
def uptoBulkAll {H : Type} : List (DataW H) → Nat
  | [] => 0
  | d :: r => uptoBulk d + uptoBulkAll r
def uptoBulkEntries {H : Type} : List (Lit × DataW H) → Nat
  | [] => 0
  | x :: r => uptoBulkEntry x + uptoBulkEntries r
def uptoBulkEntry {H : Type} : Lit × DataW H → Nat
  | (.string bytes, d) => bytes.length + uptoBulk d + 1
  | (_, d) => uptoBulk d + 1
 end
def uptoSmall : (H : Type) → List (DataW H) → Bool := fun _ ds => decide (uptoBulkAll ds ≤ 1048576)
def OpenSpec.upto (s : _root_.Go.ChangeSpec) : _root_.Go.OpenSpec := { _root_.Go.OpenSpec.ofChange s with cond := some uptoSmall }

/-- 'laws.FnExactPartOfSum', WHERE WHAT IT READS IS OF BULK AT MOST 1048576: true; the input reads as it did. -/
def fnExactPartOfSumUptoRow : OpenClaim := { program := "ytokakggilajjlaa", sum := "6b11bb7851a11d4f6a77318205a8461f2d190997c7ec6488121c7805d07d4586", func := "loop.example/g01303/laws.FnExactPartOfSum", spec := "fnExactPartOfSum", unfollowed := true, recurses := true, plainKeys := false, apart := false, narrowed := true }
def FnExactPartOfSumUptoSaid : Prop := fnExactPartOfSumUptoRow.holds Try.pinned (OpenSpec.upto fnExactPartOfSumSpec)

/-- 'laws.FnExactJoinSums', WHERE WHAT IT READS IS OF BULK AT MOST 1048576: true; the input reads as it did. -/
def fnExactJoinSumsUptoRow : OpenClaim := { program := "ytokakggilajjlaa", sum := "6b11bb7851a11d4f6a77318205a8461f2d190997c7ec6488121c7805d07d4586", func := "loop.example/g01303/laws.FnExactJoinSums", spec := "fnExactJoinSums", unfollowed := true, recurses := true, plainKeys := false, apart := false, narrowed := true }
def FnExactJoinSumsUptoSaid : Prop := fnExactJoinSumsUptoRow.holds Try.pinned (OpenSpec.upto fnExactJoinSumsSpec)

/-- 'laws.FnExactDerivativeOf', WHERE WHAT IT READS IS OF BULK AT MOST 1048576: true; the input reads as it did. -/
def fnExactDerivativeOfUptoRow : OpenClaim := { program := "ytokakggilajjlaa", sum := "6b11bb7851a11d4f6a77318205a8461f2d190997c7ec6488121c7805d07d4586", func := "loop.example/g01303/laws.FnExactDerivativeOf", spec := "fnExactDerivativeOf", unfollowed := true, recurses := true, plainKeys := false, apart := false, narrowed := true }
def FnExactDerivativeOfUptoSaid : Prop := fnExactDerivativeOfUptoRow.holds Try.pinned (OpenSpec.upto fnExactDerivativeOfSpec)

/-- 'laws.FnExactFourTermSum', WHERE WHAT IT READS IS OF BULK AT MOST 1048576: true; the input reads as it did. -/
def fnExactFourTermSumUptoRow : OpenClaim := { program := "ytokakggilajjlaa", sum := "6b11bb7851a11d4f6a77318205a8461f2d190997c7ec6488121c7805d07d4586", func := "loop.example/g01303/laws.FnExactFourTermSum", spec := "fnExactFourTermSum", inPlace := ["slices.overlaps[int64]"], unfollowed := true, recurses := true, plainKeys := false, apart := false, narrowed := true }
def FnExactFourTermSumUptoSaid : Prop := fnExactFourTermSumUptoRow.holds Try.pinned (OpenSpec.upto fnExactFourTermSumSpec)

/-- 'laws.FnExactCoproductOf', WHERE WHAT IT READS IS OF BULK AT MOST 1048576: true; the input reads as it did. -/
def fnExactCoproductOfUptoRow : OpenClaim := { program := "ytokakggilajjlaa", sum := "6b11bb7851a11d4f6a77318205a8461f2d190997c7ec6488121c7805d07d4586", func := "loop.example/g01303/laws.FnExactCoproductOf", spec := "fnExactCoproductOf", unfollowed := true, recurses := true, plainKeys := false, apart := false, narrowed := true }
def FnExactCoproductOfUptoSaid : Prop := fnExactCoproductOfUptoRow.holds Try.pinned (OpenSpec.upto fnExactCoproductOfSpec)

/-- 'laws.FnExactIsGroupLike', WHERE WHAT IT READS IS OF BULK AT MOST 1048576: true; the input reads as it did. -/
def fnExactIsGroupLikeUptoRow : OpenClaim := { program := "ytokakggilajjlaa", sum := "6b11bb7851a11d4f6a77318205a8461f2d190997c7ec6488121c7805d07d4586", func := "loop.example/g01303/laws.FnExactIsGroupLike", spec := "fnExactIsGroupLike", unfollowed := true, recurses := true, plainKeys := false, apart := false, narrowed := true }
def FnExactIsGroupLikeUptoSaid : Prop := fnExactIsGroupLikeUptoRow.holds Try.pinned (OpenSpec.upto fnExactIsGroupLikeSpec)

/-- 'laws.FnExactIsPrimitive', WHERE WHAT IT READS IS OF BULK AT MOST 1048576: true; the input reads as it did. -/
def fnExactIsPrimitiveUptoRow : OpenClaim := { program := "ytokakggilajjlaa", sum := "6b11bb7851a11d4f6a77318205a8461f2d190997c7ec6488121c7805d07d4586", func := "loop.example/g01303/laws.FnExactIsPrimitive", spec := "fnExactIsPrimitive", unfollowed := true, recurses := true, plainKeys := false, apart := false, narrowed := true }
def FnExactIsPrimitiveUptoSaid : Prop := fnExactIsPrimitiveUptoRow.holds Try.pinned (OpenSpec.upto fnExactIsPrimitiveSpec)

/-- 'laws.FnExactWeightOfSum', WHERE WHAT IT READS IS OF BULK AT MOST 1048576: true; the input reads as it did. -/
def fnExactWeightOfSumUptoRow : OpenClaim := { program := "ytokakggilajjlaa", sum := "6b11bb7851a11d4f6a77318205a8461f2d190997c7ec6488121c7805d07d4586", func := "loop.example/g01303/laws.FnExactWeightOfSum", spec := "fnExactWeightOfSum", unfollowed := true, recurses := true, plainKeys := false, apart := false, narrowed := true }
def FnExactWeightOfSumUptoSaid : Prop := fnExactWeightOfSumUptoRow.holds Try.pinned (OpenSpec.upto fnExactWeightOfSumSpec)

/-- 'laws.FnExactPartsOf', WHERE WHAT IT READS IS OF BULK AT MOST 1048576: true; the input reads as it did. -/
def fnExactPartsOfUptoRow : OpenClaim := { program := "ytokakggilajjlaa", sum := "6b11bb7851a11d4f6a77318205a8461f2d190997c7ec6488121c7805d07d4586", func := "loop.example/g01303/laws.FnExactPartsOf", spec := "fnExactPartsOf", recurses := true, plainKeys := false, apart := false, narrowed := true }
def FnExactPartsOfUptoSaid : Prop := fnExactPartsOfUptoRow.holds Try.pinned (OpenSpec.upto fnExactPartsOfSpec)

/-- 'laws.FnExactCrossingRank', WHERE WHAT IT READS IS OF BULK AT MOST 1048576: true; the input reads as it did. -/
def fnExactCrossingRankUptoRow : OpenClaim := { program := "ytokakggilajjlaa", sum := "6b11bb7851a11d4f6a77318205a8461f2d190997c7ec6488121c7805d07d4586", func := "loop.example/g01303/laws.FnExactCrossingRank", spec := "fnExactCrossingRank", unfollowed := true, recurses := true, plainKeys := false, apart := false, narrowed := true }
def FnExactCrossingRankUptoSaid : Prop := fnExactCrossingRankUptoRow.holds Try.pinned (OpenSpec.upto fnExactCrossingRankSpec)

end Rows
end Go.Proofs.Ytokakggilajjlaa
