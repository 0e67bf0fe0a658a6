/- The pure statement of the law FnExactMostFeet: for whatever two slices and number the program's and the reference's MostFeet answer alike, and the arguments read afterwards as before. -/
import Derived.Test.YtagfnpocloaojaaQMostFeetx1
import Derived.Test.YtagfnpocloaojaaPureMatch
namespace Go.Proofs.Ytagfnpocloaojaa.PureMostFeet
open Go.RowKit Go.Proofs.Ytagfnpocloaojaa.QMostFeet Go.Proofs.Ytagfnpocloaojaa.QBase Go.Proofs.Ytagfnpocloaojaa.QSizes Go.Proofs.Ytagfnpocloaojaa.QFeet Go.Proofs.Ytagfnpocloaojaa.XGoes Go.Proofs.Ytagfnpocloaojaa.XMatched Go.Proofs.Ytagfnpocloaojaa.XMost Go.Proofs.Ytagfnpocloaojaa.PureBase Go.Proofs.Ytagfnpocloaojaa.PureFeet Go.Proofs.Ytagfnpocloaojaa.PureMatch Go.Proofs.YtagfnpocloaojaaW.PrintWords Go.Proofs.YtagfnpocloaojaaW.PrintLast Go.Proofs.YtagfnpocloaojaaW.PrintMore
set_option linter.unusedVariables false

def okFit (l r : List Int) (a : Int) : Bool := okSizes l && okSizes r && (decide (0 ≤ a) && decide (a ≤ 60))
theorem areFit_eq (l r : List Int) (a : Int) (hl : l.length ≤ 1048576) (hr : r.length ≤ 1048576) : impl_areFit.f l r a = some (okFit l r a) := by
  unfold impl_areFit.f okFit
  rw [areSizes_eq l hl, areSizes_eq r hr]
  simp only [Option.bind_some, within_eq]
  cases okSizes l <;> cases okSizes r <;> simp
/-! ### the law's own look at its arguments -/
theorem law_j0 (l r : List Int) (hl : l.length ≤ 1048576) (hr : r.length ≤ 1048576) : Ev (fun k => laws_FnExactMostFeet.j0 k l r l r false) true := by
  refine Ev.step (f := fun k => (laws_toIntS.f k l).bind fun t => (laws_eqIntS.f k l t).bind fun t2 => if t2 = true then ((laws_toIntS.f k r).bind fun t => (laws_eqIntS.f k r t).bind fun t2 => if t2 = true then some true else some false) else some false) (fun k => ?_) (Ev.bind (ev_toIntS l hl) (Ev.bind (ev_eqIntS l hl) ?_))
  · simp only [laws_FnExactMostFeet.j0, Bool.false_eq_true, if_false]
  · simp only [if_true]
    refine Ev.bind (ev_toIntS r hr) (Ev.bind (ev_eqIntS r hr) ?_)
    simp only [if_true]
    exact Ev.now _
theorem law_long (l r : List Int) (a : Int) (hl : ¬ l.length ≤ 1048576) : Ev (fun k => laws_FnExactMostFeet.f k l r a) true := by
  refine Ev.congr (f := fun k => some true) (fun k => ?_) (Ev.now _)
  unfold laws_FnExactMostFeet.f
  rw [if_pos (by omega)]
theorem law_long' (l r : List Int) (a : Int) (hl : l.length ≤ 1048576) (hr : ¬ r.length ≤ 1048576) : Ev (fun k => laws_FnExactMostFeet.f k l r a) true := by
  refine Ev.congr (f := fun k => some true) (fun k => ?_) (Ev.now _)
  unfold laws_FnExactMostFeet.f
  rw [if_neg (by omega), if_pos (by omega)]
theorem law_of (l r : List Int) (a : Int) (hl : l.length ≤ 1048576) (hr : r.length ≤ 1048576) (v : Int) (ok : Bool) (hs : Ev (fun k => spec_MostFeet.f k l r a) (v, ok)) (hi : Ev (fun k => impl_MostFeet.f l r a) (v, ok)) : Ev (fun k => laws_FnExactMostFeet.f k l r a) true := by
  refine Ev.congr (f := fun k => (laws_toIntS.f k l).bind fun t109 => (laws_toIntS.f k r).bind fun t112 => (spec_MostFeet.f k t109 t112 a).bind fun bt118 => (laws_toIntS.f k l).bind fun t120 => (laws_toIntS.f k r).bind fun t123 => (impl_MostFeet.f t120 t123 a).bind fun bt129 => if bt129.1 = bt118.1 then laws_FnExactMostFeet.j0 k l r t120 t123 (bt129.2 != bt118.2) else laws_FnExactMostFeet.j0 k l r t120 t123 true) (fun k => ?_) ?_
  · unfold laws_FnExactMostFeet.f
    rw [if_neg (by omega), if_neg (by omega)]
  · refine Ev.bind (ev_toIntS l hl) (Ev.bind (ev_toIntS r hr) (Ev.bind hs (Ev.bind (ev_toIntS l hl) (Ev.bind (ev_toIntS r hr) (Ev.bind hi ?_)))))
    simp only [if_true, bne_self_eq_false]
    exact law_j0 l r hl hr

theorem okFit_is (l r : List Int) (a : Int) (h : okFit l r a = true) : Fine l ∧ Fine r ∧ (1 ≤ l.length ∧ l.length ≤ 7) ∧ (1 ≤ r.length ∧ r.length ≤ 7) ∧ (0 ≤ a ∧ a ≤ 60) := by
  unfold okFit at h
  simp only [Bool.and_eq_true, decide_eq_true_eq] at h
  obtain ⟨⟨h1, h2⟩, h3⟩ := h
  obtain ⟨a1, a2, _⟩ := okSizes_is l h1
  obtain ⟨b1, b2, _⟩ := okSizes_is r h2
  exact ⟨fine_of l h1, fine_of r h2, ⟨a1, a2⟩, ⟨b1, b2⟩, h3⟩
theorem fit_iff (F S : List Int) (a : Int) (hF : Fine F) (hS : Fine S) (ha : 0 ≤ a ∧ a ≤ 60) (i k : Int) (h0 : 0 ≤ i) (h1 : i < (F.length : Int)) (h2 : 0 ≤ k) (h3 : k < (S.length : Int)) : pF a (rd F i) (rd S k) = true ↔ Fit F S 0 a i k := by
  have f := hF i h0 h1
  have s := hS k h2 h3
  unfold pF Fit
  generalize rd F i = x at *
  generalize rd S k = y at *
  rw [show wrap64 (y - x) = y - x from by unfold wrap64; omega]
  rw [Bool.and_eq_true, decide_eq_true_iff, decide_eq_true_iff]
  omega
theorem impl_eq (l r : List Int) (a : Int) (hl : l.length ≤ 1048576) (hr : r.length ≤ 1048576) : impl_MostFeet.f l r a = if okFit l r a = true then some (srvd (feet l r 0 a), true) else some (0, false) := by
  unfold impl_MostFeet.f
  rw [areFit_eq l r a hl hr, Option.bind_some]
  by_cases h : okFit l r a = true
  · obtain ⟨h1, h2, h3, h4, h5⟩ := okFit_is l r a h
    rw [if_pos h, if_pos h, mtc_is (pF a) l r 0 a (by omega) (by omega) (fit_iff l r a h1 h2 h5), Option.bind_some]
  · rw [if_neg h, if_neg h]
theorem feet_length (F S : List Int) (b r : Int) : (feet F S b r).length = F.length := by
  obtain ⟨_, h⟩ := feet_inv F S b r
  exact h.lo
theorem ev_spec (l r : List Int) (a : Int) (hl : l.length ≤ 1048576) (hr : r.length ≤ 1048576) : Ev (fun k => spec_MostFeet.f k l r a) (if okFit l r a = true then (srvd (feet l r 0 a), true) else (0, false)) := by
  have hroom : Ev (fun k => spec_shRoom.f k l r a) (okFit l r a) := by
    refine Ev.congr (fun k => rfl) (Ev.bind (ev_shGood l hl) ?_)
    cases e1 : okSizes l with
    | false => simp only [Bool.false_eq_true, if_false]; unfold okFit; rw [e1]; exact Ev.now _
    | true =>
      simp only [if_true]
      refine Ev.bind (ev_shGood r hr) ?_
      cases e2 : okSizes r with
      | false => simp only [Bool.false_eq_true, if_false]; unfold okFit; rw [e1, e2]; exact Ev.now _
      | true =>
        simp only [if_true, ev_l1In, Option.bind_some]
        unfold okFit; rw [e1, e2]
        exact Ev.now _
  refine Ev.congr (fun k => rfl) (Ev.bind hroom ?_)
  cases hok : okFit l r a with
  | false => simp only [Bool.false_eq_true, if_false]; exact Ev.now _
  | true =>
    simp only [if_true]
    obtain ⟨f1, f2, f3, f4, f5⟩ := okFit_is l r a hok
    exact Ev.bind (ev_shFeet l r 0 a f1 f2 (by omega) (by omega) (by omega) f5) (Ev.bind (ev_shServed _ (by rw [feet_length]; omega)) (Ev.now _))
theorem law : laws_FnExactMostFeet.Pure := by
  intro l r a _ _ _ _ _ _ _
  apply Ev.rounds
  by_cases hl : l.length ≤ 1048576
  · by_cases hr : r.length ≤ 1048576
    · refine law_of l r a hl hr (if okFit l r a = true then (srvd (feet l r 0 a), true) else (0, false)).1 (if okFit l r a = true then (srvd (feet l r 0 a), true) else (0, false)).2 (ev_spec l r a hl hr) ?_
      refine Ev.congr (fun k => ?_) (Ev.now _)
      rw [impl_eq l r a hl hr]
      split <;> rfl
    · exact law_long' l r a hl hr
  · exact law_long l r a hl

end Go.Proofs.Ytagfnpocloaojaa.PureMostFeet
namespace Go.Proofs.Ytagfnpocloaojaa.Pure
theorem FnExactMostFeet : Go.Proofs.Ytagfnpocloaojaa.QMostFeet.laws_FnExactMostFeet.Pure := Go.Proofs.Ytagfnpocloaojaa.PureMostFeet.law
end Go.Proofs.Ytagfnpocloaojaa.Pure
