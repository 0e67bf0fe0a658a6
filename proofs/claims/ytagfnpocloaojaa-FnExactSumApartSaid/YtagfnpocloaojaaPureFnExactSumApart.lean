/- The pure statement of the law FnExactSumApart: for whatever three slices the program's and the reference's SumApart answer alike, and the arguments read afterwards as before. -/
import Derived.Test.YtagfnpocloaojaaQSumApartx1
import Derived.Test.YtagfnpocloaojaaPureBase
namespace Go.Proofs.Ytagfnpocloaojaa.PureSumApart
open Go.RowKit Go.Proofs.Ytagfnpocloaojaa.QSumApart Go.Proofs.Ytagfnpocloaojaa.QBase Go.Proofs.Ytagfnpocloaojaa.QSizes Go.Proofs.Ytagfnpocloaojaa.XWithin Go.Proofs.Ytagfnpocloaojaa.PureBase Go.Proofs.YtagfnpocloaojaaW.PrintWords Go.Proofs.YtagfnpocloaojaaW.PrintLast Go.Proofs.YtagfnpocloaojaaW.PrintMore

theorem law_j0 (l r p : List Int) (hl : l.length ≤ 1048576) (hr : r.length ≤ 1048576) (hp : p.length ≤ 1048576) : Ev (fun k => laws_FnExactSumApart.j0 k l r p l r p false) true := by
  refine Ev.step (f := fun k => (laws_toIntS.f k l).bind fun t => (laws_eqIntS.f k l t).bind fun t2 => if t2 = true then ((laws_toIntS.f k r).bind fun t => (laws_eqIntS.f k r t).bind fun t2 => if t2 = true then ((laws_toIntS.f k p).bind fun t => (laws_eqIntS.f k p t).bind fun t2 => if t2 = true then some true else some false) else some false) else some false) (fun k => ?_) (Ev.bind (ev_toIntS l hl) (Ev.bind (ev_eqIntS l hl) ?_))
  · simp only [laws_FnExactSumApart.j0, Bool.false_eq_true, if_false]
  · simp only [if_true]
    refine Ev.bind (ev_toIntS r hr) (Ev.bind (ev_eqIntS r hr) ?_)
    simp only [if_true]
    refine Ev.bind (ev_toIntS p hp) (Ev.bind (ev_eqIntS p hp) ?_)
    simp only [if_true]
    exact Ev.now _
theorem both (l r p : List Int) (hl : l.length ≤ 1048576) (hr : r.length ≤ 1048576) (hp : p.length ≤ 1048576) : ∃ v ok, Ev (fun k => spec_SumApart.f k l r p) (v, ok) ∧ Ev (fun k => impl_SumApart.f k l r p) (v, ok) := by
  cases h : okPairing l r p
  · refine ⟨0, false, ?_, ?_⟩
    · refine Ev.congr (fun k => rfl) (Ev.bind (ev_shPairing l r p hl hr hp) ?_)
      simp only [h, Bool.false_eq_true, if_false]
      exact Ev.now _
    · refine Ev.congr (fun k => rfl) (Ev.bind (ev_isPairing l r p hl hr hp) ?_)
      simp only [h, Bool.false_eq_true, if_false]
      exact Ev.now _
  · obtain ⟨h1, h2, h3, h4, h5, h6, h7⟩ := okPairing_is l r p h
    refine ⟨(gp l r 0 p).sum, true, ?_, ?_⟩
    · refine Ev.congr (fun k => rfl) (Ev.bind (ev_shPairing l r p hl hr hp) ?_)
      simp only [h, if_true]
      exact Ev.bind (ev_shApart l r p h1 h2 h6 (by omega) h7) (Ev.now _)
    · refine Ev.congr (fun k => rfl) (Ev.bind (ev_isPairing l r p hl hr hp) ?_)
      simp only [h, if_true]
      exact Ev.bind (ev_gaps l r p h1 h2 h6 (by omega) h7) (Ev.bind (ev_total _ (gp_bound l r h1 h2 p 0 (by omega) h7) (by rw [gp_length]; omega)) (Ev.now _))

theorem law : laws_FnExactSumApart.Pure := by
  intro l r p _ _ _ _ _ _ _ _ _
  apply Ev.rounds
  by_cases hl : l.length ≤ 1048576
  · by_cases hr : r.length ≤ 1048576
    · by_cases hp : p.length ≤ 1048576
      · obtain ⟨v, ok, hs, hi⟩ := both l r p hl hr hp
        refine Ev.congr (f := fun k => (laws_toIntS.f k l).bind fun t109 => (laws_toIntS.f k r).bind fun t112 => (laws_toIntS.f k p).bind fun t115 => (spec_SumApart.f k t109 t112 t115).bind fun bt118 => (laws_toIntS.f k l).bind fun t120 => (laws_toIntS.f k r).bind fun t123 => (laws_toIntS.f k p).bind fun t126 => (impl_SumApart.f k t120 t123 t126).bind fun bt129 => if bt129.1 = bt118.1 then laws_FnExactSumApart.j0 k l r p t120 t123 t126 (bt129.2 != bt118.2) else laws_FnExactSumApart.j0 k l r p t120 t123 t126 true) (fun k => ?_) ?_
        · unfold laws_FnExactSumApart.f
          rw [if_neg (by omega), if_neg (by omega), if_neg (by omega)]
        · refine Ev.bind (ev_toIntS l hl) (Ev.bind (ev_toIntS r hr) (Ev.bind (ev_toIntS p hp) (Ev.bind hs (Ev.bind (ev_toIntS l hl) (Ev.bind (ev_toIntS r hr) (Ev.bind (ev_toIntS p hp) (Ev.bind hi ?_)))))))
          simp only [if_true, bne_self_eq_false]
          exact law_j0 l r p hl hr hp
      · refine Ev.congr (f := fun k => some true) (fun k => ?_) (Ev.now _)
        unfold laws_FnExactSumApart.f
        rw [if_neg (by omega), if_neg (by omega), if_pos (by omega)]
    · refine Ev.congr (f := fun k => some true) (fun k => ?_) (Ev.now _)
      unfold laws_FnExactSumApart.f
      rw [if_neg (by omega), if_pos (by omega)]
  · refine Ev.congr (f := fun k => some true) (fun k => ?_) (Ev.now _)
    unfold laws_FnExactSumApart.f
    rw [if_pos (by omega)]
end Go.Proofs.Ytagfnpocloaojaa.PureSumApart
namespace Go.Proofs.Ytagfnpocloaojaa.Pure
theorem FnExactSumApart : Go.Proofs.Ytagfnpocloaojaa.QSumApart.laws_FnExactSumApart.Pure := Go.Proofs.Ytagfnpocloaojaa.PureSumApart.law
end Go.Proofs.Ytagfnpocloaojaa.Pure
