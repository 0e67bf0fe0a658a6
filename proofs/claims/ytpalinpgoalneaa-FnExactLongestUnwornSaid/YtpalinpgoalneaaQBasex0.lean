/- Walks for Base, written by a program of this session: each theorem '.calls' says what a call of one Go function returns whenever the Lean function '.f' of that name has an answer; the conditions stand in each statement. -/
import Derived.Test.YtpalinpgoalneaaProg
import Derived.Below
import Derived.Deep.Draws
import Derived.Deep.AppendLies
import Derived.Maps.AppendAt
import Derived.OwnWalk
import Derived.Laws.BytesArg
import Derived.Laws.MakeOwn
import Derived.Laws.OwnMore
import Derived.Deep.OwnRows
import Derived.Tactics
import Derived.Lib.ConvBytes
import Derived.Laws.Slices
import Derived.WalkKit
import Derived.KernelRfl
import Derived.RowKit3
import Derived.Deep.LoopGhost
import Derived.Deep.QuietTactic
import Derived.BigQuiet
import Derived.WideLaws
import Derived.Deep.DeepCutAuto
import Derived.Deep.CutBlock
import Derived.Deep.RegionHeld3
import Derived.Laws.Rows
import Derived.Lib.AppendStr
import Derived.ArgAppend
import Derived.Laws.IdiomCopy
import Derived.OrdersHeld
import Derived.Laws.BitsLemmas
import Derived.RowKit
import Derived.Test.YtpalinpgoalneaaWWords
import Derived.Test.YtpalinpgoalneaaWLast
import Derived.Test.YtpalinpgoalneaaWTab
import Derived.Test.YtpalinpgoalneaaWFour
import Derived.Test.YtpalinpgoalneaaWQPut
import Derived.Test.YtpalinpgoalneaaWApart
import Derived.Test.YtpalinpgoalneaaWArr
import Derived.Test.YtpalinpgoalneaaWZeros
import Derived.Test.YtpalinpgoalneaaWFoot
import Derived.Test.YtpalinpgoalneaaWKept
import Derived.Test.YtpalinpgoalneaaWShare
import Derived.Test.YtpalinpgoalneaaWN
import Derived.Test.YtpalinpgoalneaaWFootNe
import Derived.Test.YtpalinpgoalneaaWAt
import Derived.Test.YtpalinpgoalneaaWEqStruct
import Derived.Test.YtpalinpgoalneaaWRepsOne
import Derived.Test.YtpalinpgoalneaaWInv
import Derived.Test.YtpalinpgoalneaaWInvWords
import Derived.Test.YtpalinpgoalneaaWGuard
import Derived.Test.YtpalinpgoalneaaWNEv
import Derived.Test.YtpalinpgoalneaaWMore
namespace Go.Proofs.Ytpalinpgoalneaa.QBase
open Go.RowKit Go.Proofs.YtpalinpgoalneaaW.PrintWords Go.Proofs.YtpalinpgoalneaaW.PrintLast Go.Proofs.YtpalinpgoalneaaW.PrintMore
attribute [local go_sem] max2_int min2_int max_two min_two max_three min_three max_four min_four   -- for this text's walks alone
set_option linter.unusedVariables false
set_option linter.unusedSimpArgs false



def errW : Option Int → Value
  | none => .nilIface
  | some c => .iface 0 (.int .i64 c)
theorem errW_none : errW none = .nilIface := rfl
theorem errW_some (c : Int) : errW (some c) = .iface 0 (.int .i64 c) := rfl

theorem info3 : (Try.prog.info? 3).map (fun i => (i.zero, i.size, i.bytes)) = some (some (.int .i64 0), 1, 8) := by kernel_rfl
-- the values' own types

end Go.Proofs.Ytpalinpgoalneaa.QBase
