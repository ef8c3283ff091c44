/- Laid by this session's myprint.py over the kit's printer: contracts of functions of the program. Conditions: in each. -/
import Derived.Test.YtokcklkjnjffnaaProg
import Derived.Below
import Derived.Deep.Draws
import Derived.Deep.AppendLies
import Derived.Maps.AppendAt
import Derived.OwnWalk
import Derived.Laws.BytesArg
import Derived.Laws.MakeOwn
import Derived.Laws.OwnMore
import Derived.Deep.OwnRows
import Derived.Tactics
import Derived.Lib.ConvBytes
import Derived.Laws.Slices
import Derived.WalkKit
import Derived.KernelRfl
import Derived.RowKit3
import Derived.Deep.LoopGhost
import Derived.Deep.QuietTactic
import Derived.BigQuiet
import Derived.WideLaws
import Derived.Deep.DeepCutAuto
import Derived.Deep.CutBlock
import Derived.Deep.RegionHeld3
import Derived.Laws.Rows
import Derived.Lib.AppendStr
import Derived.ArgAppend
import Derived.Laws.IdiomCopy
import Derived.OrdersHeld
import Derived.Laws.BitsLemmas
import Derived.RowKit
import Derived.Test.YtokcklkjnjffnaaWWords
import Derived.Test.YtokcklkjnjffnaaWLast
import Derived.Test.YtokcklkjnjffnaaWTab
import Derived.Test.YtokcklkjnjffnaaWQPut
import Derived.Test.YtokcklkjnjffnaaWApart
import Derived.Test.YtokcklkjnjffnaaWArr
import Derived.Test.YtokcklkjnjffnaaWZeros
import Derived.Test.YtokcklkjnjffnaaWFoot
import Derived.Test.YtokcklkjnjffnaaWKept
import Derived.Test.YtokcklkjnjffnaaWShare
import Derived.Test.YtokcklkjnjffnaaWN
import Derived.Test.YtokcklkjnjffnaaWRepsOne
import Derived.Test.YtokcklkjnjffnaaWGuard
import Derived.Test.YtokcklkjnjffnaaWNEv
import Derived.Test.YtokcklkjnjffnaaWMore
import Derived.Test.YtokcklkjnjffnaaKBase
import Derived.Test.YtokcklkjnjffnaaPAx0
namespace Go.Proofs.Ytokcklkjnjffnaa.PE
open Go.RowKit Go.Proofs.YtokcklkjnjffnaaW.PrintWords Go.Proofs.YtokcklkjnjffnaaW.PrintLast Go.Proofs.YtokcklkjnjffnaaW.PrintMore
attribute [local go_sem] max2_int min2_int max_two min_two max_three min_three max_four min_four   -- for this text's walks alone
open Go.Proofs.Ytokcklkjnjffnaa.K Go.Proofs.Ytokcklkjnjffnaa.PA
set_option linter.unusedVariables false
set_option linter.unusedSimpArgs false



def errW : Option Int → Value
  | none => .nilIface
  | some c => .iface 0 (.int .i64 c)
theorem errW_none : errW none = .nilIface := rfl
theorem errW_some (c : Int) : errW (some c) = .iface 0 (.int .i64 c) := rfl

end Go.Proofs.Ytokcklkjnjffnaa.PE
