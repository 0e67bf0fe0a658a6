/- The pure statement of the law FnExactIsShape: for whatever text of at most 140737488351232 bytes the program's and the reference's IsShape answer alike. -/
import Derived.Test.YtfllamjkifbpmaaDoorQIsShapex1
import Derived.Test.YtfllamjkifbpmaaDoorPureShapes
namespace Go.Proofs.YtfllamjkifbpmaaDoor.PureIsShape
open Go.RowKit Go.Proofs.YtfllamjkifbpmaaDoor.QIsShape Go.Proofs.YtfllamjkifbpmaaDoorW.PrintWords Go.Proofs.YtfllamjkifbpmaaDoorW.PrintLast Go.Proofs.YtfllamjkifbpmaaDoorW.PrintMore Go.Proofs.YtfllamjkifbpmaaDoor.QBase Go.Proofs.YtfllamjkifbpmaaDoor.QShape Go.Proofs.YtfllamjkifbpmaaDoor.PureShapes
set_option linter.unusedVariables false
set_option linter.unusedSimpArgs false

theorem law : laws_FnExactIsShape.Pure := by
  intro s _
  apply Ev.rounds
  by_cases hs : s.size ≤ 1048576
  · refine Ev.congr (f := fun k => (spec_IsShape.f k s).bind fun t101 => (impl_IsShape.f k s).bind fun t102 => if (t102 != t101) = true then some false else some true) (fun k => ?_) (Ev.bind (Ev.bind (ev_piIs s) (Ev.now _)) (Ev.bind (ev_IsShape s hs) ?_))
    · unfold laws_FnExactIsShape.f
      rw [if_neg (by omega)]
    · simp only [bne_self_eq_false, Bool.false_eq_true, if_false]
      exact Ev.now _
  · refine Ev.congr (f := fun _ => some true) (fun k => ?_) (Ev.now _)
    unfold laws_FnExactIsShape.f
    rw [if_pos (by omega)]

end Go.Proofs.YtfllamjkifbpmaaDoor.PureIsShape
namespace Go.Proofs.YtfllamjkifbpmaaDoor.Pure
theorem FnExactIsShape : Go.Proofs.YtfllamjkifbpmaaDoor.QIsShape.laws_FnExactIsShape.Pure := Go.Proofs.YtfllamjkifbpmaaDoor.PureIsShape.law
end Go.Proofs.YtfllamjkifbpmaaDoor.Pure
