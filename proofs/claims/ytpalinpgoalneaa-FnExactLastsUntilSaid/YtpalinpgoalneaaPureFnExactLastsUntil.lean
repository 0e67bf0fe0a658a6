/- The pure statement of the law FnExactLastsUntil: for every wash and number of wears the program's first day in whose evening some pair has been worn so many times is the reference's. No condition beside that the arguments are int64. -/
import Derived.Test.YtpalinpgoalneaaQLastsUntilx1
import Derived.Test.YtpalinpgoalneaaPureB3
namespace Go.Proofs.Ytpalinpgoalneaa.PureLastsUntil
open Go.RowKit Go.Proofs.YtpalinpgoalneaaW.PrintWords Go.Proofs.YtpalinpgoalneaaW.PrintLast Go.Proofs.YtpalinpgoalneaaW.PrintMore
open Go.Proofs.Ytpalinpgoalneaa.QBase Go.Proofs.Ytpalinpgoalneaa.PD Go.Proofs.Ytpalinpgoalneaa.XSu Go.Proofs.Ytpalinpgoalneaa.XDay Go.Proofs.Ytpalinpgoalneaa.XDayF Go.Proofs.Ytpalinpgoalneaa.QPt Go.Proofs.Ytpalinpgoalneaa.PureB3 Go.Proofs.Ytpalinpgoalneaa.QLastsUntil
set_option linter.unusedVariables false
set_option linter.unusedSimpArgs false
theorem law_of (a b c d : Int) (r : Int) (ok : Bool) (hs : Ev (fun k => spec_LastsUntil.f k a b c d) (r, ok)) (hi : Ev (fun k => impl_LastsUntil.f k a b c d) (r, ok)) : Ev (fun k => laws_FnExactLastsUntil.f k a b c d) true := by
  refine Ev.congr (f := fun k => (spec_LastsUntil.f k a b c d).bind fun b1 => (impl_LastsUntil.f k a b c d).bind fun b2 => if b2.1 = b1.1 then if (b2.2 != b1.2) = true then some false else some true else some false) (fun k => rfl) ?_
  refine Ev.bind hs (Ev.bind hi ?_)
  simp only [if_true, bne_self_eq_false, Bool.false_eq_true, if_false]
  exact Ev.now _

theorem law : laws_FnExactLastsUntil.Pure := by
  intro a b c d _ _ _ _
  obtain ⟨r, ok, h2, h3⟩ := ev_LastsUntil a b c d
  exact Ev.rounds (law_of a b c d r ok h2 h3)

end Go.Proofs.Ytpalinpgoalneaa.PureLastsUntil
namespace Go.Proofs.Ytpalinpgoalneaa.Pure
theorem FnExactLastsUntil : Go.Proofs.Ytpalinpgoalneaa.QLastsUntil.laws_FnExactLastsUntil.Pure := Go.Proofs.Ytpalinpgoalneaa.PureLastsUntil.law
end Go.Proofs.Ytpalinpgoalneaa.Pure
