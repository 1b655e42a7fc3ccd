-- Made by wip/plug.py, a program of this session, through the kit's print.
import Derived.Test.YtabkalibgblahaaProg
import Derived.Below
import Derived.Deep.Draws
import Derived.Deep.AppendLies
import Derived.Maps.AppendAt
import Derived.OwnWalk
import Derived.Laws.BytesArg
import Derived.Laws.MakeOwn
import Derived.Laws.OwnMore
import Derived.Deep.OwnRows
import Derived.Tactics
import Derived.Lib.ConvBytes
import Derived.Laws.Slices
import Derived.WalkKit
import Derived.KernelRfl
import Derived.RowKit3
import Derived.Deep.LoopGhost
import Derived.Deep.QuietTactic
import Derived.BigQuiet
import Derived.WideLaws
import Derived.Deep.DeepCutAuto
import Derived.Deep.CutBlock
import Derived.Deep.RegionHeld3
import Derived.Laws.Rows
import Derived.Lib.AppendStr
import Derived.ArgAppend
import Derived.Laws.IdiomCopy
import Derived.OrdersHeld
import Derived.Laws.BitsLemmas
import Derived.RowKit
import Derived.Test.YtabkalibgblahaaWWords
import Derived.Test.YtabkalibgblahaaWLast
import Derived.Test.YtabkalibgblahaaWTab
import Derived.Test.YtabkalibgblahaaWFour
import Derived.Test.YtabkalibgblahaaWQPut
import Derived.Test.YtabkalibgblahaaWApart
import Derived.Test.YtabkalibgblahaaWArr
import Derived.Test.YtabkalibgblahaaWZeros
import Derived.Test.YtabkalibgblahaaWFoot
import Derived.Test.YtabkalibgblahaaWKept
import Derived.Test.YtabkalibgblahaaWShare
import Derived.Test.YtabkalibgblahaaWN
import Derived.Test.YtabkalibgblahaaWFootNe
import Derived.Test.YtabkalibgblahaaWAt
import Derived.Test.YtabkalibgblahaaWEqStruct
import Derived.Test.YtabkalibgblahaaWRepsOne
import Derived.Test.YtabkalibgblahaaWInv
import Derived.Test.YtabkalibgblahaaWInvWords
import Derived.Test.YtabkalibgblahaaWGuard
import Derived.Test.YtabkalibgblahaaWNEv
import Derived.Test.YtabkalibgblahaaWMore
namespace Go.Proofs.Ytabkalibgblahaa.PA
open Go.RowKit Go.Proofs.YtabkalibgblahaaW.PrintWords Go.Proofs.YtabkalibgblahaaW.PrintLast Go.Proofs.YtabkalibgblahaaW.PrintMore
attribute [local go_sem] max2_int min2_int max_two min_two max_three min_three max_four min_four   -- for this text's walks alone
set_option linter.unusedVariables false
set_option linter.unusedSimpArgs false



def errW : Option Int → Value
  | none => .nilIface
  | some c => .iface 0 (.int .i64 c)
theorem errW_none : errW none = .nilIface := rfl
theorem errW_some (c : Int) : errW (some c) = .iface 0 (.int .i64 c) := rfl

theorem info5 : (Try.prog.info? 5).map (fun i => (i.zero, i.size, i.bytes)) = some (some (.int .u8 0), 1, 1) := by kernel_rfl
-- the values' own types

end Go.Proofs.Ytabkalibgblahaa.PA
