/- The pure statement of the law FnExactFirstFeet: whatever two slices and whatever room, the program's and the reference's FirstFeet return alike. -/
import Derived.Test.YtagfnpocloaojaaQFirstFeetx2
import Derived.Test.YtagfnpocloaojaaPureBase
import Derived.Test.YtagfnpocloaojaaPureShoe
import Derived.Test.YtagfnpocloaojaaPureFeet
import Derived.Test.YtagfnpocloaojaaQShoex
import Derived.Test.YtagfnpocloaojaaQFeetx
namespace Go.Proofs.Ytagfnpocloaojaa.PureFirstFeet
open Go.RowKit Go.Proofs.Ytagfnpocloaojaa.QFirstFeet Go.Proofs.Ytagfnpocloaojaa.QBase Go.Proofs.Ytagfnpocloaojaa.QSizes Go.Proofs.Ytagfnpocloaojaa.PureBase Go.Proofs.YtagfnpocloaojaaW.PrintWords Go.Proofs.YtagfnpocloaojaaW.PrintLast Go.Proofs.YtagfnpocloaojaaW.PrintMore Go.Proofs.Ytagfnpocloaojaa.PureShoe Go.Proofs.Ytagfnpocloaojaa.PureFeet Go.Proofs.Ytagfnpocloaojaa.QShoe Go.Proofs.Ytagfnpocloaojaa.QFeet
set_option linter.unusedVariables false

/-! ### the law's own marks, and the law -/
theorem ev_markFrom (l : List Int) (m : Nat) (hm : m + l.length ≤ 5000000) : ∃ o : List Int, o.length = l.length ∧ (∀ j, j < o.length → o.getD j 0 = ((m + j : Nat) : Int)) ∧ Ev (fun k => QFirstFeet.laws_markIntS.f k l (m : Int)) (((m + l.length : Nat) : Int), o) := by
  have h : ∀ i, i ≤ l.length → ∀ o : List Int, o.length = l.length → (∀ j, j < i → o.getD j 0 = ((m + j : Nat) : Int)) → ∃ o' : List Int, o'.length = l.length ∧ (∀ j, j < o'.length → o'.getD j 0 = ((m + j : Nat) : Int)) ∧ Ev (fun k => QFirstFeet.laws_markIntS.l0 k o ((m + i : Nat) : Int) (i : Int)) (((m + l.length : Nat) : Int), o') := by
    refine downTo l.length ?_ ?_
    · intro o ho hj
      refine ⟨o, ho, fun j h => hj j (by omega), Ev.step (f := fun _ => some (((m + l.length : Nat) : Int), o)) (fun k => ?_) (Ev.now _)⟩
      simp only [QFirstFeet.laws_markIntS.l0]
      rw [if_neg (by omega)]
    · intro i hil ih o ho hj
      obtain ⟨o', h1, h2, h3⟩ := ih (o.set i ((m + i : Nat) : Int)) (by rw [List.length_set]; exact ho) (fun j hji => by
        rw [List.getD_eq_getElem?_getD, List.getElem?_set]
        by_cases e : i = j
        · subst e
          rw [if_pos rfl, if_pos (by omega)]; rfl
        · rw [if_neg e, ← List.getD_eq_getElem?_getD]
          exact hj j (by omega))
      refine ⟨o', h1, h2, Ev.step (f := fun k => QFirstFeet.laws_markIntS.l0 k (o.set i ((m + i : Nat) : Int)) ((m + (i + 1) : Nat) : Int) ((i + 1 : Nat) : Int)) (fun k => ?_) h3⟩
      simp only [QFirstFeet.laws_markIntS.l0, Int.toNat_natCast]
      rw [if_pos (by omega), if_pos (by omega), wrap_succ i (by omega), wrap_succ (m + i) (by omega)]
      rfl
  obtain ⟨o, h1, h2, h3⟩ := h 0 (by omega) l rfl (fun j hj => by omega)
  exact ⟨o, h1, h2, h3⟩

theorem law_of (l l' : List Int) (a2 : Int) (hl : l.length ≤ 1048576) (hl' : l'.length ≤ 1048576) (res : List Int) (ok : Bool) (hres : res.length ≤ 1048576) (hs : Ev (fun k => spec_FirstFeet.f k l l' a2) (res, ok)) (hi : Ev (fun k => impl_FirstFeet.f k l l' a2) (res, ok)) : Ev (fun k => laws_FnExactFirstFeet.f k l l' a2) true := by
  obtain ⟨o, ho1, ho2, ho3⟩ := ev_markFrom l 1 (by omega)
  obtain ⟨p, hp1, hp2, hp3⟩ := ev_markFrom l' (1 + l.length) (by omega)
  obtain ⟨o2, hq1, hq2, hq3⟩ := ev_markFrom res 1 (by omega)
  have hh := ev_heldIntS o2 (by omega) (fun j hj => by rw [hq2 j hj]; omega)
  rw [hq1, show (res.length : Int) + 1 = ((1 + res.length : Nat) : Int) from by omega] at hh
  have h2 : Ev (fun k => laws_FnExactFirstFeet.j2 k o2 ((1 + res.length : Nat) : Int) false) true := by
    refine Ev.step (f := fun k => (laws_heldIntS.f k o2 1).bind fun t => if t < 0 then some false else if t = ((1 + res.length : Nat) : Int) then some true else some false) (fun k => ?_) (Ev.bind hh ?_)
    · simp only [laws_FnExactFirstFeet.j2, Bool.false_eq_true, if_false]
    · refine Ev.congr (f := fun _ => some true) (fun k => ?_) (Ev.now _)
      rw [if_neg (by omega), if_pos rfl]
  have h1 : Ev (fun k => laws_FnExactFirstFeet.j1 k l l' a2 res ok res false) true := by
    refine Ev.step (f := fun k => (QFirstFeet.laws_markIntS.f k res 1).bind fun bt => (laws_heldIntS.f k bt.2 1).bind fun t => if t < 0 then some false else if t = bt.1 then (laws_toIntS.f k l).bind fun t2 => (laws_toIntS.f k l').bind fun t2' => (impl_FirstFeet.f k t2 t2' a2).bind fun b2 => (laws_eqIntS.f k b2.1 res).bind fun t3 => if t3 = true then laws_FnExactFirstFeet.j2 k bt.2 bt.1 (b2.2 != ok) else laws_FnExactFirstFeet.j2 k bt.2 bt.1 true else some false) (fun k => ?_) (Ev.bind hq3 (Ev.bind hh ?_))
    · simp only [laws_FnExactFirstFeet.j1, Bool.false_eq_true, if_false]
    · refine Ev.congr (f := fun k => (laws_toIntS.f k l).bind fun t2 => (laws_toIntS.f k l').bind fun t2' => (impl_FirstFeet.f k t2 t2' a2).bind fun b2 => (laws_eqIntS.f k b2.1 res).bind fun t3 => if t3 = true then laws_FnExactFirstFeet.j2 k o2 ((1 + res.length : Nat) : Int) (b2.2 != ok) else laws_FnExactFirstFeet.j2 k o2 ((1 + res.length : Nat) : Int) true) (fun k => ?_) ?_
      · rw [if_neg (by omega), if_pos rfl]
      · refine Ev.bind (ev_toIntS l hl) (Ev.bind (ev_toIntS l' hl') (Ev.bind hi (Ev.bind (ev_eqIntS res hres) ?_)))
        simp only [if_true, bne_self_eq_false]
        exact h2
  have h0 : Ev (fun k => laws_FnExactFirstFeet.j0 k l l' a2 res ok l l' res ok false) true := by
    refine Ev.step (f := fun k => (laws_toIntS.f k l).bind fun t => (laws_eqIntS.f k l t).bind fun t2 => if t2 = true then (laws_toIntS.f k l').bind fun t => (laws_eqIntS.f k l' t).bind fun t2 => if t2 = true then (QFirstFeet.laws_markIntS.f k l 1).bind fun bt => (QFirstFeet.laws_markIntS.f k l' bt.1).bind fun bt => if bt.1 < 0 then laws_FnExactFirstFeet.j1 k l l' a2 res ok res true else (laws_eqIntS.f k res res).bind fun t3 => if t3 = true then laws_FnExactFirstFeet.j1 k l l' a2 res ok res (ok != ok) else laws_FnExactFirstFeet.j1 k l l' a2 res ok res true else some false else some false) (fun k => ?_) (Ev.bind (ev_toIntS l hl) (Ev.bind (ev_eqIntS l hl) ?_))
    · simp only [laws_FnExactFirstFeet.j0, Bool.false_eq_true, if_false]
    · simp only [if_true]
      refine Ev.bind (ev_toIntS l' hl') (Ev.bind (ev_eqIntS l' hl') ?_)
      simp only [if_true]
      refine Ev.bind ho3 (Ev.bind hp3 ?_)
      refine Ev.congr (f := fun k => (laws_eqIntS.f k res res).bind fun t3 => if t3 = true then laws_FnExactFirstFeet.j1 k l l' a2 res ok res (ok != ok) else laws_FnExactFirstFeet.j1 k l l' a2 res ok res true) (fun k => ?_) (Ev.bind (ev_eqIntS res hres) ?_)
      · rw [if_neg (by omega)]
      · simp only [if_true, bne_self_eq_false]
        exact h1
  refine Ev.congr (f := fun k => (laws_toIntS.f k l).bind fun t => (laws_toIntS.f k l').bind fun t' => (spec_FirstFeet.f k t t' a2).bind fun b => (laws_toIntS.f k l).bind fun t2 => (laws_toIntS.f k l').bind fun t2' => (impl_FirstFeet.f k t2 t2' a2).bind fun b2 => (laws_eqIntS.f k b2.1 b.1).bind fun t3 => if t3 = true then laws_FnExactFirstFeet.j0 k l l' a2 b.1 b.2 t2 t2' b2.1 b2.2 (b2.2 != b.2) else laws_FnExactFirstFeet.j0 k l l' a2 b.1 b.2 t2 t2' b2.1 b2.2 true) (fun k => ?_) ?_
  · unfold laws_FnExactFirstFeet.f
    rw [if_neg (by omega), if_neg (by omega)]
  · refine Ev.bind (ev_toIntS l hl) (Ev.bind (ev_toIntS l' hl') (Ev.bind hs (Ev.bind (ev_toIntS l hl) (Ev.bind (ev_toIntS l' hl') (Ev.bind hi (Ev.bind (ev_eqIntS res hres) ?_))))))
    simp only [if_true, bne_self_eq_false]
    exact h0

theorem law_long (l l' : List Int) (a2 : Int) (hl : ¬ l.length ≤ 1048576) : Ev (fun k => laws_FnExactFirstFeet.f k l l' a2) true := by
  refine Ev.congr (f := fun k => some true) (fun k => ?_) (Ev.now _)
  unfold laws_FnExactFirstFeet.f
  rw [if_pos (by omega)]
theorem law_long' (l l' : List Int) (a2 : Int) (hl : l.length ≤ 1048576) (hl' : ¬ l'.length ≤ 1048576) : Ev (fun k => laws_FnExactFirstFeet.f k l l' a2) true := by
  refine Ev.congr (f := fun k => some true) (fun k => ?_) (Ev.now _)
  unfold laws_FnExactFirstFeet.f
  rw [if_neg (by omega), if_pos (by omega)]

theorem feet_length (F S : List Int) (b r : Int) : (feet F S b r).length = F.length := by
  have h : ∀ (oS oF used out : List Int), (gr F S b r oS oF used out).length = out.length := by
    intro oS oF
    induction oF with
    | nil => intro used out; rfl
    | cons i t ih =>
      intro used out
      unfold gr
      split
      · rw [ih, List.length_set]
      · rw [ih, List.length_set, List.length_set]
  unfold feet
  rw [h, List.length_replicate]
theorem ev_shRoom (l r : List Int) (a : Int) (hl : l.length ≤ 1048576) (hr : r.length ≤ 1048576) : Ev (fun k => spec_shRoom.f k l r a) (okFit l r a) := by
  refine Ev.congr (f := fun k => (spec_shGood.f k l).bind fun t => if t = true then (spec_shGood.f k r).bind fun t2 => if t2 = true then (spec_l1In.f a 0 60).bind fun t3 => some t3 else some false else some false) (fun k => ?_) (Ev.bind (ev_shGood l hl) ?_)
  · unfold spec_shRoom.f
    rfl
  · unfold okFit
    cases okSizes l with
    | false => simp only [Bool.false_eq_true, if_false, Bool.false_and]; exact Ev.now _
    | true =>
      simp only [if_true, Bool.true_and]
      refine Ev.bind (ev_shGood r hr) ?_
      cases okSizes r with
      | false => simp only [Bool.false_eq_true, if_false, Bool.false_and]; exact Ev.now _
      | true =>
        simp only [if_true, Bool.true_and, ev_l1In, Option.bind_some]
        exact Ev.now _
theorem law : laws_FnExactFirstFeet.Pure := by
  intro l l' a _ _ _ _ _ _ _
  apply Ev.rounds
  by_cases hl : l.length ≤ 1048576
  · by_cases hl' : l'.length ≤ 1048576
    · cases hok : okFit l l' a with
      | true =>
        have hok' := hok
        unfold okFit at hok'
        simp only [Bool.and_eq_true, decide_eq_true_eq] at hok'
        obtain ⟨⟨h1, h2⟩, h3⟩ := hok'
        have f7 := okSizes_is l h1
        have s7 := okSizes_is l' h2
        refine law_of l l' a hl hl' (feet l l' 0 a) true (by rw [feet_length]; omega) ?_ (ev_FirstFeet l l' a hok)
        refine Ev.congr (fun k => rfl) (Ev.bind (ev_shRoom l l' a hl hl') ?_)
        rw [hok]
        simp only [if_true]
        exact Ev.bind (ev_shFeet l l' 0 a (fine_of l h1) (fine_of l' h2) (by omega) (by omega) (by omega) h3) (Ev.now _)
      | false =>
        refine law_of l l' a hl hl' [] false (by simp) ?_ ?_
        · refine Ev.congr (fun k => rfl) (Ev.bind (ev_shRoom l l' a hl hl') ?_)
          rw [hok]
          simp only [Bool.false_eq_true, if_false]
          exact Ev.now _
        · refine Ev.congr (f := fun _ => some ([], false)) (fun k => ?_) (Ev.now _)
          unfold impl_FirstFeet.f
          rw [areFit_eq l l' a hl hl', hok]
          rfl
    · exact law_long' l l' a hl hl'
  · exact law_long l l' a hl

end Go.Proofs.Ytagfnpocloaojaa.PureFirstFeet
namespace Go.Proofs.Ytagfnpocloaojaa.Pure
theorem FnExactFirstFeet : Go.Proofs.Ytagfnpocloaojaa.QFirstFeet.laws_FnExactFirstFeet.Pure := Go.Proofs.Ytagfnpocloaojaa.PureFirstFeet.law
end Go.Proofs.Ytagfnpocloaojaa.Pure
