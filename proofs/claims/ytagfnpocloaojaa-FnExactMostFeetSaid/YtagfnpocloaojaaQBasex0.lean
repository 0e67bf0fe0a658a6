/- Walks for Base, written by a program of this session: each theorem '.calls' says what a call of one Go function returns whenever the Lean function '.f' of that name has an answer; the conditions stand in each statement. -/
import Derived.Test.YtagfnpocloaojaaProg
import Derived.Below
import Derived.Deep.Draws
import Derived.Deep.AppendLies
import Derived.Maps.AppendAt
import Derived.OwnWalk
import Derived.Laws.BytesArg
import Derived.Laws.MakeOwn
import Derived.Laws.OwnMore
import Derived.Deep.OwnRows
import Derived.Tactics
import Derived.Lib.ConvBytes
import Derived.Laws.Slices
import Derived.WalkKit
import Derived.KernelRfl
import Derived.RowKit3
import Derived.Deep.LoopGhost
import Derived.Deep.QuietTactic
import Derived.BigQuiet
import Derived.WideLaws
import Derived.Deep.DeepCutAuto
import Derived.Deep.CutBlock
import Derived.Deep.RegionHeld3
import Derived.Laws.Rows
import Derived.Lib.AppendStr
import Derived.ArgAppend
import Derived.Laws.IdiomCopy
import Derived.OrdersHeld
import Derived.Laws.BitsLemmas
import Derived.RowKit
import Derived.Test.YtagfnpocloaojaaWWords
import Derived.Test.YtagfnpocloaojaaWLast
import Derived.Test.YtagfnpocloaojaaWTab
import Derived.Test.YtagfnpocloaojaaWFour
import Derived.Test.YtagfnpocloaojaaWQPut
import Derived.Test.YtagfnpocloaojaaWApart
import Derived.Test.YtagfnpocloaojaaWArr
import Derived.Test.YtagfnpocloaojaaWZeros
import Derived.Test.YtagfnpocloaojaaWFoot
import Derived.Test.YtagfnpocloaojaaWKept
import Derived.Test.YtagfnpocloaojaaWShare
import Derived.Test.YtagfnpocloaojaaWN
import Derived.Test.YtagfnpocloaojaaWFootNe
import Derived.Test.YtagfnpocloaojaaWAt
import Derived.Test.YtagfnpocloaojaaWEqStruct
import Derived.Test.YtagfnpocloaojaaWRepsOne
import Derived.Test.YtagfnpocloaojaaWInv
import Derived.Test.YtagfnpocloaojaaWInvWords
import Derived.Test.YtagfnpocloaojaaWGuard
import Derived.Test.YtagfnpocloaojaaWNEv
import Derived.Test.YtagfnpocloaojaaWMore
namespace Go.Proofs.Ytagfnpocloaojaa.QBase
open Go.RowKit Go.Proofs.YtagfnpocloaojaaW.PrintWords Go.Proofs.YtagfnpocloaojaaW.PrintLast Go.Proofs.YtagfnpocloaojaaW.PrintMore
attribute [local go_sem] max2_int min2_int max_two min_two max_three min_three max_four min_four   -- for this text's walks alone
set_option linter.unusedVariables false
set_option linter.unusedSimpArgs false



def errW : Option Int → Value
  | none => .nilIface
  | some c => .iface 0 (.int .i64 c)
theorem errW_none : errW none = .nilIface := rfl
theorem errW_some (c : Int) : errW (some c) = .iface 0 (.int .i64 c) := rfl

theorem info3 : (Try.prog.info? 3).map (fun i => (i.zero, i.size, i.bytes)) = some (some (.int .i64 0), 1, 8) := by kernel_rfl
-- the values' own types

end Go.Proofs.Ytagfnpocloaojaa.QBase
