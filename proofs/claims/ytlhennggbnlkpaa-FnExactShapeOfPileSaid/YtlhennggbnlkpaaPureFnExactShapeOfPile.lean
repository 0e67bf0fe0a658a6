/- The pure statement of the law FnExactShapeOfPile: for every slice of int64 numbers the program's ShapeOfPile and the reference's ShapeOfPile return the same results, and the argument reads afterwards as before. No condition beside the row's own reach. -/
import Derived.Test.YtlhennggbnlkpaaQShapeOfPilex1
import Derived.Test.YtlhennggbnlkpaaPurePile
namespace Go.Proofs.Ytlhennggbnlkpaa.PureShapeOfPile
open Go.RowKit Go.Proofs.Ytlhennggbnlkpaa.QShapeOfPile Go.Proofs.Ytlhennggbnlkpaa.QPile Go.Proofs.Ytlhennggbnlkpaa.PurePile Go.Proofs.YtlhennggbnlkpaaW.PrintWords Go.Proofs.YtlhennggbnlkpaaW.PrintLast Go.Proofs.YtlhennggbnlkpaaW.PrintMore
open Go.Proofs.Ytlhennggbnlkpaa.XHeights

/-! ### the law's own look at its argument -/
theorem law_j0 (l : List Int) (hl : l.length ≤ 1048576) : Ev (fun k => laws_FnExactShapeOfPile.j0 k l l false) true := by
  refine Ev.step (f := fun k => (laws_toIntS.f k l).bind fun t => (laws_eqIntS.f k l t).bind fun t2 => if t2 = true then some true else some false) (fun k => ?_) (Ev.bind (ev_toIntS l hl) (Ev.bind (ev_eqIntS l hl) ?_))
  · simp only [laws_FnExactShapeOfPile.j0, Bool.false_eq_true, if_false]
  · simp only [if_true]
    exact Ev.now _
theorem law_long (l : List Int) (hl : ¬ l.length ≤ 1048576) : Ev (fun k => laws_FnExactShapeOfPile.f k l) true := by
  refine Ev.congr (f := fun k => some true) (fun k => ?_) (Ev.now _)
  unfold laws_FnExactShapeOfPile.f
  rw [if_pos (by omega)]

theorem law : laws_FnExactShapeOfPile.Pure := by
  intro l _ _ _
  apply Ev.rounds
  by_cases hl : l.length ≤ 1048576
  · suffices h : ∃ res : ByteArray × Bool, Ev (fun k => spec_ShapeOfPile.f k l) res ∧ Ev (fun k => impl_ShapeOfPile.f k l) res by
      obtain ⟨res, h1, h2⟩ := h
      refine Ev.congr (f := fun k => (laws_toIntS.f k l).bind fun t => (spec_ShapeOfPile.f k t).bind fun b => (laws_toIntS.f k l).bind fun t2 => (impl_ShapeOfPile.f k t2).bind fun b2 => if b2.1.toList = b.1.toList then laws_FnExactShapeOfPile.j0 k l t2 (b2.2 != b.2) else laws_FnExactShapeOfPile.j0 k l t2 true) (fun k => ?_) ?_
      · unfold laws_FnExactShapeOfPile.f
        rw [if_neg (by omega)]
      · refine Ev.bind (ev_toIntS l hl) (Ev.bind h1 (Ev.bind (ev_toIntS l hl) (Ev.bind h2 ?_)))
        simp only [if_true, bne_self_eq_false]
        exact law_j0 l hl
    cases hp : okPile l with
    | true =>
      obtain ⟨h16, _, _, hr, _⟩ := okPile_range l hp
      refine ⟨(strOfNums (shapeL l), true), ?_, ?_⟩
      · unfold spec_ShapeOfPile.f
        refine Ev.bind (ev_piGood l hl) ?_
        rw [hp]
        simp only [if_true]
        exact Ev.bind (ev_piShape l hl) (Ev.now _)
      · unfold impl_ShapeOfPile.f
        refine Ev.bind (ev_IsPile l hl) ?_
        rw [hp]
        simp only [if_true]
        exact Ev.bind (ev_shapeOf l h16 (fun x hx => by have := hr x hx; omega)) (Ev.now _)
    | false =>
      refine ⟨((⟨#[]⟩ : ByteArray), false), ?_, ?_⟩
      · unfold spec_ShapeOfPile.f
        refine Ev.bind (ev_piGood l hl) ?_
        rw [hp]
        simp only [Bool.false_eq_true, if_false]
        exact Ev.now _
      · unfold impl_ShapeOfPile.f
        refine Ev.bind (ev_IsPile l hl) ?_
        rw [hp]
        simp only [Bool.false_eq_true, if_false]
        exact Ev.now _
  · exact law_long l hl

end Go.Proofs.Ytlhennggbnlkpaa.PureShapeOfPile
namespace Go.Proofs.Ytlhennggbnlkpaa.Pure
theorem FnExactShapeOfPile : Go.Proofs.Ytlhennggbnlkpaa.QShapeOfPile.laws_FnExactShapeOfPile.Pure := Go.Proofs.Ytlhennggbnlkpaa.PureShapeOfPile.law
end Go.Proofs.Ytlhennggbnlkpaa.Pure
