/- Laid by this session's myprint.py over the kit's printer: contracts of functions of the program. Conditions: in each. -/
import Derived.Test.YtmoodakaecmkgaaProg
import Derived.Below
import Derived.Deep.Draws
import Derived.Deep.AppendLies
import Derived.Maps.AppendAt
import Derived.OwnWalk
import Derived.Laws.BytesArg
import Derived.Laws.MakeOwn
import Derived.Laws.OwnMore
import Derived.Deep.OwnRows
import Derived.Tactics
import Derived.Lib.ConvBytes
import Derived.Laws.Slices
import Derived.WalkKit
import Derived.KernelRfl
import Derived.RowKit3
import Derived.Deep.LoopGhost
import Derived.Deep.QuietTactic
import Derived.BigQuiet
import Derived.WideLaws
import Derived.Deep.DeepCutAuto
import Derived.Deep.CutBlock
import Derived.Deep.RegionHeld3
import Derived.Laws.Rows
import Derived.Lib.AppendStr
import Derived.ArgAppend
import Derived.Laws.IdiomCopy
import Derived.OrdersHeld
import Derived.Laws.BitsLemmas
import Derived.RowKit
import Derived.Test.YtmoodakaecmkgaaWWords
import Derived.Test.YtmoodakaecmkgaaWLast
import Derived.Test.YtmoodakaecmkgaaWTab
import Derived.Test.YtmoodakaecmkgaaWFour
import Derived.Test.YtmoodakaecmkgaaWQPut
import Derived.Test.YtmoodakaecmkgaaWApart
import Derived.Test.YtmoodakaecmkgaaWArr
import Derived.Test.YtmoodakaecmkgaaWZeros
import Derived.Test.YtmoodakaecmkgaaWFoot
import Derived.Test.YtmoodakaecmkgaaWKept
import Derived.Test.YtmoodakaecmkgaaWShare
import Derived.Test.YtmoodakaecmkgaaWN
import Derived.Test.YtmoodakaecmkgaaWFootNe
import Derived.Test.YtmoodakaecmkgaaWAt
import Derived.Test.YtmoodakaecmkgaaWEqStruct
import Derived.Test.YtmoodakaecmkgaaWRepsOne
import Derived.Test.YtmoodakaecmkgaaWInv
import Derived.Test.YtmoodakaecmkgaaWInvWords
import Derived.Test.YtmoodakaecmkgaaWGuard
import Derived.Test.YtmoodakaecmkgaaWNEv
import Derived.Test.YtmoodakaecmkgaaWMore
namespace Go.Proofs.Ytmoodakaecmkgaa.PA
open Go.RowKit Go.Proofs.YtmoodakaecmkgaaW.PrintWords Go.Proofs.YtmoodakaecmkgaaW.PrintLast Go.Proofs.YtmoodakaecmkgaaW.PrintMore
attribute [local go_sem] max2_int min2_int max_two min_two max_three min_three max_four min_four   -- for this text's walks alone
set_option linter.unusedVariables false
set_option linter.unusedSimpArgs false



def errW : Option Int → Value
  | none => .nilIface
  | some c => .iface 0 (.int .i64 c)
theorem errW_none : errW none = .nilIface := rfl
theorem errW_some (c : Int) : errW (some c) = .iface 0 (.int .i64 c) := rfl

theorem info2 : (Try.prog.info? 2).map (fun i => (i.zero, i.size, i.bytes)) = some (some (.int .i64 0), 1, 8) := by kernel_rfl
theorem info3 : (Try.prog.info? 3).map (fun i => (i.zero, i.size, i.bytes)) = some (some (.int .i64 0), 1, 8) := by kernel_rfl
theorem info4 : (Try.prog.info? 4).map (fun i => (i.zero, i.size, i.bytes)) = some (some (.bool false), 1, 1) := by kernel_rfl
-- the values' own types

end Go.Proofs.Ytmoodakaecmkgaa.PA
