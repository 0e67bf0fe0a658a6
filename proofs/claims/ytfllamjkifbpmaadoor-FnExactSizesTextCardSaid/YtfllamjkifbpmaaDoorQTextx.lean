/- Walks for Text, written by a program of this session: each theorem '.calls' says what a call of one Go function returns whenever the Lean function '.f' of that name has an answer; the conditions stand in each statement. -/
import Derived.Test.YtfllamjkifbpmaaDoorQTextx0
import Derived.Test.YtfllamjkifbpmaaDoorQTextx1
import Derived.Test.YtfllamjkifbpmaaDoorQTextx2
import Derived.Test.YtfllamjkifbpmaaDoorQTextx3
namespace Go.Proofs.YtfllamjkifbpmaaDoor.QText
open Go.RowKit Go.Proofs.YtfllamjkifbpmaaDoorW.PrintWords Go.Proofs.YtfllamjkifbpmaaDoorW.PrintLast Go.Proofs.YtfllamjkifbpmaaDoorW.PrintMore
open Go.Proofs.YtfllamjkifbpmaaDoor.QBase Go.Proofs.YtfllamjkifbpmaaDoor.XJoin
attribute [local go_sem] max2_int min2_int max_two min_two max_three min_three max_four min_four   -- for this text's walks alone
set_option linter.unusedVariables false
set_option linter.unusedSimpArgs false

end Go.Proofs.YtfllamjkifbpmaaDoor.QText
