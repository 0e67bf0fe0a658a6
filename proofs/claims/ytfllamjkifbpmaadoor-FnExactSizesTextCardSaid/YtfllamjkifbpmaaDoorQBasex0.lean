/- Walks for Base, written by a program of this session: each theorem '.calls' says what a call of one Go function returns whenever the Lean function '.f' of that name has an answer; the conditions stand in each statement. -/
import Derived.Test.YtfllamjkifbpmaaDoorProg
import Derived.Below
import Derived.Deep.Draws
import Derived.Deep.AppendLies
import Derived.Maps.AppendAt
import Derived.OwnWalk
import Derived.Laws.BytesArg
import Derived.Laws.MakeOwn
import Derived.Laws.OwnMore
import Derived.Deep.OwnRows
import Derived.Tactics
import Derived.Lib.ConvBytes
import Derived.Laws.Slices
import Derived.WalkKit
import Derived.KernelRfl
import Derived.RowKit3
import Derived.Deep.LoopGhost
import Derived.Deep.QuietTactic
import Derived.BigQuiet
import Derived.WideLaws
import Derived.Deep.DeepCutAuto
import Derived.Deep.CutBlock
import Derived.Deep.RegionHeld3
import Derived.Laws.Rows
import Derived.Lib.AppendStr
import Derived.ArgAppend
import Derived.Laws.IdiomCopy
import Derived.OrdersHeld
import Derived.Laws.BitsLemmas
import Derived.RowKit
import Derived.Test.YtfllamjkifbpmaaDoorWWords
import Derived.Test.YtfllamjkifbpmaaDoorWLast
import Derived.Test.YtfllamjkifbpmaaDoorWTab
import Derived.Test.YtfllamjkifbpmaaDoorWFour
import Derived.Test.YtfllamjkifbpmaaDoorWQPut
import Derived.Test.YtfllamjkifbpmaaDoorWApart
import Derived.Test.YtfllamjkifbpmaaDoorWArr
import Derived.Test.YtfllamjkifbpmaaDoorWZeros
import Derived.Test.YtfllamjkifbpmaaDoorWFoot
import Derived.Test.YtfllamjkifbpmaaDoorWKept
import Derived.Test.YtfllamjkifbpmaaDoorWShare
import Derived.Test.YtfllamjkifbpmaaDoorWN
import Derived.Test.YtfllamjkifbpmaaDoorWFootNe
import Derived.Test.YtfllamjkifbpmaaDoorWAt
import Derived.Test.YtfllamjkifbpmaaDoorWEqStruct
import Derived.Test.YtfllamjkifbpmaaDoorWRepsOne
import Derived.Test.YtfllamjkifbpmaaDoorWInv
import Derived.Test.YtfllamjkifbpmaaDoorWInvWords
import Derived.Test.YtfllamjkifbpmaaDoorWGuard
import Derived.Test.YtfllamjkifbpmaaDoorWNEv
import Derived.Test.YtfllamjkifbpmaaDoorWMore
namespace Go.Proofs.YtfllamjkifbpmaaDoor.QBase
open Go.RowKit Go.Proofs.YtfllamjkifbpmaaDoorW.PrintWords Go.Proofs.YtfllamjkifbpmaaDoorW.PrintLast Go.Proofs.YtfllamjkifbpmaaDoorW.PrintMore
attribute [local go_sem] max2_int min2_int max_two min_two max_three min_three max_four min_four   -- for this text's walks alone
set_option linter.unusedVariables false
set_option linter.unusedSimpArgs false



def errW : Option Int → Value
  | none => .nilIface
  | some c => .iface 0 (.int .i64 c)
theorem errW_none : errW none = .nilIface := rfl
theorem errW_some (c : Int) : errW (some c) = .iface 0 (.int .i64 c) := rfl

theorem info3 : (Tryd.prog.info? 3).map (fun i => (i.zero, i.size, i.bytes)) = some (some (.int .i64 0), 1, 8) := by kernel_rfl
-- the values' own types

end Go.Proofs.YtfllamjkifbpmaaDoor.QBase
