/- Walks for Base, written by a program of this session: each theorem '.calls' says what a call of one Go function returns whenever the Lean function '.f' of that name has an answer; the conditions stand in each statement. -/
import Derived.Test.YtagfnpocloaojaaQBasex0
import Derived.Test.YtagfnpocloaojaaQBasex1
import Derived.Test.YtagfnpocloaojaaQBasex2
import Derived.Test.YtagfnpocloaojaaQBasex3
import Derived.Test.YtagfnpocloaojaaQBasex4
namespace Go.Proofs.Ytagfnpocloaojaa.QBase
open Go.RowKit Go.Proofs.YtagfnpocloaojaaW.PrintWords Go.Proofs.YtagfnpocloaojaaW.PrintLast Go.Proofs.YtagfnpocloaojaaW.PrintMore
attribute [local go_sem] max2_int min2_int max_two min_two max_three min_three max_four min_four   -- for this text's walks alone
set_option linter.unusedVariables false
set_option linter.unusedSimpArgs false

end Go.Proofs.Ytagfnpocloaojaa.QBase
