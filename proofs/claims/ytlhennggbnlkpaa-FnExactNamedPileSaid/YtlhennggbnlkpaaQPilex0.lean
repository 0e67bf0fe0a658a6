/- Walks for Pile, written by a program of this session: each theorem '.calls' says what a call of one Go function returns whenever the Lean function '.f' of that name has an answer; the conditions stand in each statement. -/
import Derived.Test.YtlhennggbnlkpaaProg
import Derived.Below
import Derived.Deep.Draws
import Derived.Deep.AppendLies
import Derived.Maps.AppendAt
import Derived.OwnWalk
import Derived.Laws.BytesArg
import Derived.Laws.MakeOwn
import Derived.Laws.OwnMore
import Derived.Deep.OwnRows
import Derived.Tactics
import Derived.Lib.ConvBytes
import Derived.Laws.Slices
import Derived.WalkKit
import Derived.KernelRfl
import Derived.RowKit3
import Derived.Deep.LoopGhost
import Derived.Deep.QuietTactic
import Derived.BigQuiet
import Derived.WideLaws
import Derived.Deep.DeepCutAuto
import Derived.Deep.CutBlock
import Derived.Deep.RegionHeld3
import Derived.Laws.Rows
import Derived.Lib.AppendStr
import Derived.ArgAppend
import Derived.Laws.IdiomCopy
import Derived.OrdersHeld
import Derived.Laws.BitsLemmas
import Derived.RowKit
import Derived.Test.YtlhennggbnlkpaaWWords
import Derived.Test.YtlhennggbnlkpaaWLast
import Derived.Test.YtlhennggbnlkpaaWTab
import Derived.Test.YtlhennggbnlkpaaWFour
import Derived.Test.YtlhennggbnlkpaaWQPut
import Derived.Test.YtlhennggbnlkpaaWApart
import Derived.Test.YtlhennggbnlkpaaWArr
import Derived.Test.YtlhennggbnlkpaaWZeros
import Derived.Test.YtlhennggbnlkpaaWFoot
import Derived.Test.YtlhennggbnlkpaaWKept
import Derived.Test.YtlhennggbnlkpaaWShare
import Derived.Test.YtlhennggbnlkpaaWN
import Derived.Test.YtlhennggbnlkpaaWFootNe
import Derived.Test.YtlhennggbnlkpaaWAt
import Derived.Test.YtlhennggbnlkpaaWEqStruct
import Derived.Test.YtlhennggbnlkpaaWRepsOne
import Derived.Test.YtlhennggbnlkpaaWInv
import Derived.Test.YtlhennggbnlkpaaWInvWords
import Derived.Test.YtlhennggbnlkpaaWGuard
import Derived.Test.YtlhennggbnlkpaaWNEv
import Derived.Test.YtlhennggbnlkpaaWMore
namespace Go.Proofs.Ytlhennggbnlkpaa.QPile
open Go.RowKit Go.Proofs.YtlhennggbnlkpaaW.PrintWords Go.Proofs.YtlhennggbnlkpaaW.PrintLast Go.Proofs.YtlhennggbnlkpaaW.PrintMore
attribute [local go_sem] max2_int min2_int max_two min_two max_three min_three max_four min_four   -- for this text's walks alone
set_option linter.unusedVariables false
set_option linter.unusedSimpArgs false



def errW : Option Int → Value
  | none => .nilIface
  | some c => .iface 0 (.int .i64 c)
theorem errW_none : errW none = .nilIface := rfl
theorem errW_some (c : Int) : errW (some c) = .iface 0 (.int .i64 c) := rfl

theorem info3 : (Try.prog.info? 3).map (fun i => (i.zero, i.size, i.bytes)) = some (some (.int .i64 0), 1, 8) := by kernel_rfl
theorem info5 : (Try.prog.info? 5).map (fun i => (i.zero, i.size, i.bytes)) = some (some (.int .u8 0), 1, 1) := by kernel_rfl
-- the values' own types

end Go.Proofs.Ytlhennggbnlkpaa.QPile
