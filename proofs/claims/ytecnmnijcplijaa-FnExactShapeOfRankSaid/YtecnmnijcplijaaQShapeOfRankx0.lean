/- Walks for ShapeOfRank, written by a program of this session: each theorem '.calls' says what a call of one Go function returns whenever the Lean function '.f' of that name has an answer; the conditions stand in each statement. -/
import Derived.Test.YtecnmnijcplijaaProg
import Derived.Below
import Derived.Deep.Draws
import Derived.Deep.AppendLies
import Derived.Maps.AppendAt
import Derived.OwnWalk
import Derived.Laws.BytesArg
import Derived.Laws.MakeOwn
import Derived.Laws.OwnMore
import Derived.Deep.OwnRows
import Derived.Tactics
import Derived.Lib.ConvBytes
import Derived.Laws.Slices
import Derived.WalkKit
import Derived.KernelRfl
import Derived.RowKit3
import Derived.Deep.LoopGhost
import Derived.Deep.QuietTactic
import Derived.BigQuiet
import Derived.WideLaws
import Derived.Deep.DeepCutAuto
import Derived.Deep.CutBlock
import Derived.Deep.RegionHeld3
import Derived.Laws.Rows
import Derived.Lib.AppendStr
import Derived.ArgAppend
import Derived.Laws.IdiomCopy
import Derived.OrdersHeld
import Derived.Laws.BitsLemmas
import Derived.RowKit
import Derived.Test.YtecnmnijcplijaaWWords
import Derived.Test.YtecnmnijcplijaaWLast
import Derived.Test.YtecnmnijcplijaaWTab
import Derived.Test.YtecnmnijcplijaaWFour
import Derived.Test.YtecnmnijcplijaaWQPut
import Derived.Test.YtecnmnijcplijaaWApart
import Derived.Test.YtecnmnijcplijaaWArr
import Derived.Test.YtecnmnijcplijaaWZeros
import Derived.Test.YtecnmnijcplijaaWFoot
import Derived.Test.YtecnmnijcplijaaWKept
import Derived.Test.YtecnmnijcplijaaWShare
import Derived.Test.YtecnmnijcplijaaWN
import Derived.Test.YtecnmnijcplijaaWFootNe
import Derived.Test.YtecnmnijcplijaaWAt
import Derived.Test.YtecnmnijcplijaaWEqStruct
import Derived.Test.YtecnmnijcplijaaWRepsOne
import Derived.Test.YtecnmnijcplijaaWInv
import Derived.Test.YtecnmnijcplijaaWInvWords
import Derived.Test.YtecnmnijcplijaaWGuard
import Derived.Test.YtecnmnijcplijaaWNEv
import Derived.Test.YtecnmnijcplijaaWMore
import Derived.Test.YtecnmnijcplijaaQRestsx1
namespace Go.Proofs.Ytecnmnijcplijaa.QShapeOfRank
open Go.RowKit Go.Proofs.YtecnmnijcplijaaW.PrintWords Go.Proofs.YtecnmnijcplijaaW.PrintLast Go.Proofs.YtecnmnijcplijaaW.PrintMore
open Go.Proofs.Ytecnmnijcplijaa.QRests
attribute [local go_sem] max2_int min2_int max_two min_two max_three min_three max_four min_four   -- for this text's walks alone
set_option linter.unusedVariables false
set_option linter.unusedSimpArgs false



def errW : Option Int → Value
  | none => .nilIface
  | some c => .iface 0 (.int .i64 c)
theorem errW_none : errW none = .nilIface := rfl
theorem errW_some (c : Int) : errW (some c) = .iface 0 (.int .i64 c) := rfl

theorem info5 : (Try.prog.info? 5).map (fun i => (i.zero, i.size, i.bytes)) = some (some (.int .u8 0), 1, 1) := by kernel_rfl
-- the values' own types

end Go.Proofs.Ytecnmnijcplijaa.QShapeOfRank
