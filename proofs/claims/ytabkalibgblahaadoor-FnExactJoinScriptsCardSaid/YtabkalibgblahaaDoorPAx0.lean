-- Made by wip/plug.py, a program of this session, through the kit's print.
import Derived.Test.YtabkalibgblahaaDoorProg
import Derived.Below
import Derived.Deep.Draws
import Derived.Deep.AppendLies
import Derived.Maps.AppendAt
import Derived.OwnWalk
import Derived.Laws.BytesArg
import Derived.Laws.MakeOwn
import Derived.Laws.OwnMore
import Derived.Deep.OwnRows
import Derived.Tactics
import Derived.Lib.ConvBytes
import Derived.Laws.Slices
import Derived.WalkKit
import Derived.KernelRfl
import Derived.RowKit3
import Derived.Deep.LoopGhost
import Derived.Deep.QuietTactic
import Derived.BigQuiet
import Derived.WideLaws
import Derived.Deep.DeepCutAuto
import Derived.Deep.CutBlock
import Derived.Deep.RegionHeld3
import Derived.Laws.Rows
import Derived.Lib.AppendStr
import Derived.ArgAppend
import Derived.Laws.IdiomCopy
import Derived.OrdersHeld
import Derived.Laws.BitsLemmas
import Derived.RowKit
import Derived.Test.YtabkalibgblahaaDoorWWords
import Derived.Test.YtabkalibgblahaaDoorWLast
import Derived.Test.YtabkalibgblahaaDoorWTab
import Derived.Test.YtabkalibgblahaaDoorWFour
import Derived.Test.YtabkalibgblahaaDoorWQPut
import Derived.Test.YtabkalibgblahaaDoorWApart
import Derived.Test.YtabkalibgblahaaDoorWArr
import Derived.Test.YtabkalibgblahaaDoorWZeros
import Derived.Test.YtabkalibgblahaaDoorWFoot
import Derived.Test.YtabkalibgblahaaDoorWKept
import Derived.Test.YtabkalibgblahaaDoorWShare
import Derived.Test.YtabkalibgblahaaDoorWN
import Derived.Test.YtabkalibgblahaaDoorWFootNe
import Derived.Test.YtabkalibgblahaaDoorWAt
import Derived.Test.YtabkalibgblahaaDoorWEqStruct
import Derived.Test.YtabkalibgblahaaDoorWRepsOne
import Derived.Test.YtabkalibgblahaaDoorWInv
import Derived.Test.YtabkalibgblahaaDoorWInvWords
import Derived.Test.YtabkalibgblahaaDoorWGuard
import Derived.Test.YtabkalibgblahaaDoorWNEv
import Derived.Test.YtabkalibgblahaaDoorWMore
namespace Go.Proofs.YtabkalibgblahaaDoor.PA
open Go.RowKit Go.Proofs.YtabkalibgblahaaDoorW.PrintWords Go.Proofs.YtabkalibgblahaaDoorW.PrintLast Go.Proofs.YtabkalibgblahaaDoorW.PrintMore
attribute [local go_sem] max2_int min2_int max_two min_two max_three min_three max_four min_four   -- for this text's walks alone
set_option linter.unusedVariables false
set_option linter.unusedSimpArgs false



def errW : Option Int → Value
  | none => .nilIface
  | some c => .iface 0 (.int .i64 c)
theorem errW_none : errW none = .nilIface := rfl
theorem errW_some (c : Int) : errW (some c) = .iface 0 (.int .i64 c) := rfl

theorem info9 : (Tryd.prog.info? 9).map (fun i => (i.zero, i.size, i.bytes)) = some (some (.string ⟨#[]⟩), 1, 16) := by kernel_rfl
-- the values' own types

end Go.Proofs.YtabkalibgblahaaDoor.PA
