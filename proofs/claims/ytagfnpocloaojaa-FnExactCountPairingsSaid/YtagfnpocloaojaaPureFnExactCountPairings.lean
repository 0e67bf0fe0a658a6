/- The pure statement of the law FnExactCountPairings: for whatever two slices the program's and the reference's CountPairings answer alike, and the arguments read afterwards as before. -/
import Derived.Test.YtagfnpocloaojaaQCountPairingsx1
import Derived.Test.YtagfnpocloaojaaPureBests
namespace Go.Proofs.Ytagfnpocloaojaa.PureCountPairings
open Go.RowKit Go.Proofs.Ytagfnpocloaojaa.QCountPairings Go.Proofs.Ytagfnpocloaojaa.QBase Go.Proofs.Ytagfnpocloaojaa.QSizes Go.Proofs.Ytagfnpocloaojaa.QPairs Go.Proofs.Ytagfnpocloaojaa.XBests Go.Proofs.Ytagfnpocloaojaa.XLeasts Go.Proofs.Ytagfnpocloaojaa.PureBase Go.Proofs.Ytagfnpocloaojaa.PureSort Go.Proofs.Ytagfnpocloaojaa.PureBests Go.Proofs.YtagfnpocloaojaaW.PrintWords Go.Proofs.YtagfnpocloaojaaW.PrintLast Go.Proofs.YtagfnpocloaojaaW.PrintMore
set_option linter.unusedVariables false

/-! ### the law's own look at its arguments -/
theorem law_j0 (l r : List Int) (hl : l.length ≤ 1048576) (hr : r.length ≤ 1048576) : Ev (fun k => laws_FnExactCountPairings.j0 k l r l r false) true := by
  refine Ev.step (f := fun k => (laws_toIntS.f k l).bind fun t => (laws_eqIntS.f k l t).bind fun t2 => if t2 = true then ((laws_toIntS.f k r).bind fun t => (laws_eqIntS.f k r t).bind fun t2 => if t2 = true then some true else some false) else some false) (fun k => ?_) (Ev.bind (ev_toIntS l hl) (Ev.bind (ev_eqIntS l hl) ?_))
  · simp only [laws_FnExactCountPairings.j0, Bool.false_eq_true, if_false]
  · simp only [if_true]
    refine Ev.bind (ev_toIntS r hr) (Ev.bind (ev_eqIntS r hr) ?_)
    simp only [if_true]
    exact Ev.now _
theorem law_long (l r : List Int) (hl : ¬ l.length ≤ 1048576) : Ev (fun k => laws_FnExactCountPairings.f k l r) true := by
  refine Ev.congr (f := fun k => some true) (fun k => ?_) (Ev.now _)
  unfold laws_FnExactCountPairings.f
  rw [if_pos (by omega)]
theorem law_long' (l r : List Int) (hl : l.length ≤ 1048576) (hr : ¬ r.length ≤ 1048576) : Ev (fun k => laws_FnExactCountPairings.f k l r) true := by
  refine Ev.congr (f := fun k => some true) (fun k => ?_) (Ev.now _)
  unfold laws_FnExactCountPairings.f
  rw [if_neg (by omega), if_pos (by omega)]
theorem law_of (l r : List Int) (hl : l.length ≤ 1048576) (hr : r.length ≤ 1048576) (v : Int) (ok : Bool) (hs : Ev (fun k => spec_CountPairings.f k l r) (v, ok)) (hi : Ev (fun k => impl_CountPairings.f k l r) (v, ok)) : Ev (fun k => laws_FnExactCountPairings.f k l r) true := by
  refine Ev.congr (f := fun k => (laws_toIntS.f k l).bind fun t109 => (laws_toIntS.f k r).bind fun t112 => (spec_CountPairings.f k t109 t112).bind fun bt118 => (laws_toIntS.f k l).bind fun t120 => (laws_toIntS.f k r).bind fun t123 => (impl_CountPairings.f k t120 t123).bind fun bt129 => if bt129.1 = bt118.1 then laws_FnExactCountPairings.j0 k l r t120 t123 (bt129.2 != bt118.2) else laws_FnExactCountPairings.j0 k l r t120 t123 true) (fun k => ?_) ?_
  · unfold laws_FnExactCountPairings.f
    rw [if_neg (by omega), if_neg (by omega)]
  · refine Ev.bind (ev_toIntS l hl) (Ev.bind (ev_toIntS r hr) (Ev.bind hs (Ev.bind (ev_toIntS l hl) (Ev.bind (ev_toIntS r hr) (Ev.bind hi ?_)))))
    simp only [if_true, bne_self_eq_false]
    exact law_j0 l r hl hr

theorem law : laws_FnExactCountPairings.Pure := by
  intro l r _ _ _ _ _ _
  apply Ev.rounds
  by_cases hl : l.length ≤ 1048576
  · by_cases hr : r.length ≤ 1048576
    · cases hok : okBoth l r with
      | true =>
        obtain ⟨h1, h2, h3, h4, h5⟩ := okBoth_is l r hok
        refine law_of l r hl hr (bst l r).2.2.2 true ?_ (Ev.bind (ev_bestsOf l r hok) (Ev.now _))
        refine Ev.congr (fun k => rfl) (Ev.bind (ev_shBoth l r hl hr) ?_)
        simp only [hok, if_true]
        refine Ev.bind (ev_shSorted l r (by omega) h3) ?_
        exact Ev.bind (pst_ok l r hok) (Ev.bind (ev_Look l r hok) (Ev.now _))
      | false =>
        refine law_of l r hl hr 0 false ?_ (Ev.bind (no_bestsOf l r hl hr hok) (Ev.now _))
        refine Ev.congr (fun k => rfl) (Ev.bind (ev_shBoth l r hl hr) ?_)
        simp only [hok, Bool.false_eq_true, if_false]
        exact Ev.now _
    · exact law_long' l r hl hr
  · exact law_long l r hl

end Go.Proofs.Ytagfnpocloaojaa.PureCountPairings
namespace Go.Proofs.Ytagfnpocloaojaa.Pure
theorem FnExactCountPairings : Go.Proofs.Ytagfnpocloaojaa.QCountPairings.laws_FnExactCountPairings.Pure := Go.Proofs.Ytagfnpocloaojaa.PureCountPairings.law
end Go.Proofs.Ytagfnpocloaojaa.Pure
