/- The pure statement of the law FnExactWashDays: for every wash and number of days the program's days of washing are the reference's, and what it hands back is its own. No condition beside that the arguments are int64. -/
import Derived.Test.YtpalinpgoalneaaQWashDaysx1
import Derived.Test.YtpalinpgoalneaaPureB0
import Derived.Test.YtpalinpgoalneaaXOn
import Derived.Test.YtpalinpgoalneaaXSome
import Derived.Test.YtpalinpgoalneaaXWd
namespace Go.Proofs.Ytpalinpgoalneaa.PureWashDays
open Go.RowKit Go.Proofs.YtpalinpgoalneaaW.PrintWords Go.Proofs.YtpalinpgoalneaaW.PrintLast Go.Proofs.YtpalinpgoalneaaW.PrintMore
open Go.Proofs.Ytpalinpgoalneaa.QBase Go.Proofs.Ytpalinpgoalneaa.PD Go.Proofs.Ytpalinpgoalneaa.XSu Go.Proofs.Ytpalinpgoalneaa.XDay Go.Proofs.Ytpalinpgoalneaa.XDayF Go.Proofs.Ytpalinpgoalneaa.PureB0 Go.Proofs.Ytpalinpgoalneaa.QWashDays Go.Proofs.Ytpalinpgoalneaa.XOn Go.Proofs.Ytpalinpgoalneaa.XSome Go.Proofs.Ytpalinpgoalneaa.XWd
set_option linter.unusedVariables false
set_option linter.unusedSimpArgs false
/-! ### the law's own marks, and the law -/
theorem ev_markIntS (l : List Int) (hl : l.length ≤ 1048576) : ∃ o : List Int, o.length = l.length ∧ (∀ j, j < o.length → o.getD j 0 = (j : Int) + 1) ∧ Ev (fun k => QWashDays.laws_markIntS.f k l 1) ((l.length : Int) + 1, o) := by
  have h : ∀ i, i ≤ l.length → ∀ o : List Int, o.length = l.length → (∀ j, j < i → o.getD j 0 = (j : Int) + 1) → ∃ o' : List Int, o'.length = l.length ∧ (∀ j, j < o'.length → o'.getD j 0 = (j : Int) + 1) ∧ Ev (fun k => QWashDays.laws_markIntS.l0 k o ((i : Int) + 1) (i : Int)) ((l.length : Int) + 1, o') := by
    refine downTo l.length ?_ ?_
    · intro o ho hj
      refine ⟨o, ho, fun j h => hj j (by omega), Ev.step (f := fun _ => some ((l.length : Int) + 1, o)) (fun k => ?_) (Ev.now _)⟩
      simp only [QWashDays.laws_markIntS.l0]
      rw [if_neg (by omega)]
    · intro i hil ih o ho hj
      obtain ⟨o', h1, h2, h3⟩ := ih (o.set i ((i : Int) + 1)) (by rw [List.length_set]; exact ho) (fun j hji => by
        rw [List.getD_eq_getElem?_getD, List.getElem?_set]
        by_cases e : i = j
        · subst e
          rw [if_pos rfl, if_pos (by omega)]; rfl
        · rw [if_neg e, ← List.getD_eq_getElem?_getD]
          exact hj j (by omega))
      refine ⟨o', h1, h2, Ev.step (f := fun k => QWashDays.laws_markIntS.l0 k (o.set i ((i : Int) + 1)) (((i + 1 : Nat) : Int) + 1) ((i + 1 : Nat) : Int)) (fun k => ?_) h3⟩
      simp only [QWashDays.laws_markIntS.l0, Int.toNat_natCast]
      rw [if_pos (by omega), if_pos (by omega), wrap_succ i (by omega), show wrap64 ((i : Int) + 1 + 1) = ((i + 1 : Nat) : Int) + 1 from by unfold wrap64; omega]
  obtain ⟨o, h1, h2, h3⟩ := h 0 (by omega) l rfl (fun j hj => by omega)
  exact ⟨o, h1, h2, h3⟩

theorem law_of (a b c d : Int) (res : List Int) (ok : Bool) (hres : res.length ≤ 1048576) (hs : Ev (fun k => spec_WashDays.f a b c d) (res, ok)) (hi : Ev (fun k => impl_WashDays.f a b c d) (res, ok)) : Ev (fun k => laws_FnExactWashDays.f k a b c d) true := by
  obtain ⟨o2, hq1, hq2, hq3⟩ := ev_markIntS res hres
  have hh := ev_heldIntS o2 (by omega) hq2
  rw [hq1] at hh
  have h2 : Ev (fun k => laws_FnExactWashDays.j1 k o2 ((res.length : Int) + 1) false) true := by
    refine Ev.step (f := fun k => (laws_heldIntS.f k o2 1).bind fun t => if t < 0 then some false else if t = (res.length : Int) + 1 then some true else some false) (fun k => ?_) (Ev.bind hh ?_)
    · simp only [laws_FnExactWashDays.j1, Bool.false_eq_true, if_false]
    · refine Ev.congr (f := fun _ => some true) (fun k => ?_) (Ev.now _)
      rw [if_neg (by omega), if_pos rfl]
  have h1 : Ev (fun k => laws_FnExactWashDays.j0 k d res ok res false a b c) true := by
    refine Ev.step (f := fun k => (QWashDays.laws_markIntS.f k res 1).bind fun bt => (laws_heldIntS.f k bt.2 1).bind fun t => if t < 0 then some false else if t = bt.1 then (laws_toWash.f a b c).bind fun t2 => (impl_WashDays.f t2.1 t2.2.1 t2.2.2 d).bind fun b2 => (laws_eqIntS.f k b2.1 res).bind fun t3 => if t3 = true then laws_FnExactWashDays.j1 k bt.2 bt.1 (b2.2 != ok) else laws_FnExactWashDays.j1 k bt.2 bt.1 true else some false) (fun k => ?_) (Ev.bind hq3 (Ev.bind hh ?_))
    · simp only [laws_FnExactWashDays.j0, Bool.false_eq_true, if_false]
    · refine Ev.congr (f := fun k => (impl_WashDays.f a b c d).bind fun b2 => (laws_eqIntS.f k b2.1 res).bind fun t3 => if t3 = true then laws_FnExactWashDays.j1 k o2 ((res.length : Int) + 1) (b2.2 != ok) else laws_FnExactWashDays.j1 k o2 ((res.length : Int) + 1) true) (fun k => ?_) ?_
      · rw [if_neg (by omega), if_pos rfl]
        rfl
      · refine Ev.bind hi (Ev.bind (ev_eqIntS res hres) ?_)
        simp only [if_true, bne_self_eq_false]
        exact h2
  refine Ev.congr (f := fun k => (spec_WashDays.f a b c d).bind fun b1 => (impl_WashDays.f a b c d).bind fun b2 => (laws_eqIntS.f k b2.1 b1.1).bind fun t3 => if t3 = true then laws_FnExactWashDays.j0 k d b1.1 b1.2 b2.1 (b2.2 != b1.2) a b c else laws_FnExactWashDays.j0 k d b1.1 b1.2 b2.1 true a b c) (fun k => rfl) ?_
  refine Ev.bind hs (Ev.bind hi (Ev.bind (ev_eqIntS res hres) ?_))
  simp only [if_true, bne_self_eq_false]
  exact h1

theorem law : laws_FnExactWashDays.Pure := by
  intro a b c d _ _ _ _
  refine Ev.rounds ?_
  by_cases hA : asked a b c d = true
  · exact law_of a b c d (fl (fun i => decide (0 < (dWash a.toNat b c i).length)) d.toNat) true (by have h1 := fl_len (fun i => decide (0 < (dWash a.toNat b c i).length)) d.toNat; have h2 := (asked_is hA).2; omega) (Ev.congr (fun k => by unfold spec_WashDays.f; rw [if_pos hA]) (Ev.now _)) (Ev.congr (fun k => by unfold impl_WashDays.f; rw [if_pos hA]) (Ev.now _))
  · exact law_of a b c d [] false (by simp) (Ev.congr (fun k => by unfold spec_WashDays.f; rw [if_neg hA]) (Ev.now _)) (Ev.congr (fun k => by unfold impl_WashDays.f; rw [if_neg hA]) (Ev.now _))

end Go.Proofs.Ytpalinpgoalneaa.PureWashDays
namespace Go.Proofs.Ytpalinpgoalneaa.Pure
theorem FnExactWashDays : Go.Proofs.Ytpalinpgoalneaa.QWashDays.laws_FnExactWashDays.Pure := Go.Proofs.Ytpalinpgoalneaa.PureWashDays.law
end Go.Proofs.Ytpalinpgoalneaa.Pure
