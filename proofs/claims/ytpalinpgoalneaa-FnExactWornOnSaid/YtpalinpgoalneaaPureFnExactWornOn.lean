/- The pure statement of the law FnExactWornOn: for every wash and day the program's pair that is worn is the reference's. No condition beside that the arguments are int64. -/
import Derived.Test.YtpalinpgoalneaaQWornOnx1
import Derived.Test.YtpalinpgoalneaaPureB0
import Derived.Test.YtpalinpgoalneaaXOn
import Derived.Test.YtpalinpgoalneaaXOs
namespace Go.Proofs.Ytpalinpgoalneaa.PureWornOn
open Go.RowKit Go.Proofs.YtpalinpgoalneaaW.PrintWords Go.Proofs.YtpalinpgoalneaaW.PrintLast Go.Proofs.YtpalinpgoalneaaW.PrintMore
open Go.Proofs.Ytpalinpgoalneaa.QBase Go.Proofs.Ytpalinpgoalneaa.PD Go.Proofs.Ytpalinpgoalneaa.XSu Go.Proofs.Ytpalinpgoalneaa.XDay Go.Proofs.Ytpalinpgoalneaa.XDayF Go.Proofs.Ytpalinpgoalneaa.PureB0 Go.Proofs.Ytpalinpgoalneaa.QWornOn Go.Proofs.Ytpalinpgoalneaa.XOn Go.Proofs.Ytpalinpgoalneaa.XOs
set_option linter.unusedVariables false
set_option linter.unusedSimpArgs false
theorem law_of (a b c d : Int) (r : Int) (ok : Bool) (hs : spec_WornOn.f a b c d = some (r, ok)) (hi : impl_WornOn.f a b c d = some (r, ok)) : laws_FnExactWornOn.f a b c d = some true := by
  have e : laws_FnExactWornOn.f a b c d = ((spec_WornOn.f a b c d).bind fun b1 => (impl_WornOn.f a b c d).bind fun b2 => if b2.1 = b1.1 then if (b2.2 != b1.2) = true then some false else some true else some false) := rfl
  rw [e, hs, hi]
  simp

theorem law : laws_FnExactWornOn.Pure := by
  intro a b c d _ _ _ _
  exact law_of a b c d _ _ rfl rfl

end Go.Proofs.Ytpalinpgoalneaa.PureWornOn
namespace Go.Proofs.Ytpalinpgoalneaa.Pure
theorem FnExactWornOn : Go.Proofs.Ytpalinpgoalneaa.QWornOn.laws_FnExactWornOn.Pure := Go.Proofs.Ytpalinpgoalneaa.PureWornOn.law
end Go.Proofs.Ytpalinpgoalneaa.Pure
