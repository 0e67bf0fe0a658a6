/- The pure statement of the law FnExactFirstPairing: for whatever two slices the program's and the reference's FirstPairing answer alike, and the arguments read afterwards as before. -/
import Derived.Test.YtagfnpocloaojaaQFirstPairingx1
import Derived.Test.YtagfnpocloaojaaPureBests
namespace Go.Proofs.Ytagfnpocloaojaa.PureFirstPairing
open Go.RowKit Go.Proofs.Ytagfnpocloaojaa.QFirstPairing Go.Proofs.Ytagfnpocloaojaa.QBase Go.Proofs.Ytagfnpocloaojaa.QSizes Go.Proofs.Ytagfnpocloaojaa.QPairs Go.Proofs.Ytagfnpocloaojaa.XBests Go.Proofs.Ytagfnpocloaojaa.XLeasts Go.Proofs.Ytagfnpocloaojaa.PureBase Go.Proofs.Ytagfnpocloaojaa.PureSort Go.Proofs.Ytagfnpocloaojaa.PureBests Go.Proofs.YtagfnpocloaojaaW.PrintWords Go.Proofs.YtagfnpocloaojaaW.PrintLast Go.Proofs.YtagfnpocloaojaaW.PrintMore
set_option linter.unusedVariables false

/-! ### the law's own marks, and the law -/
theorem ev_markFrom (l : List Int) (m : Nat) (hm : m + l.length ≤ 5000000) : ∃ o : List Int, o.length = l.length ∧ (∀ j, j < o.length → o.getD j 0 = ((m + j : Nat) : Int)) ∧ Ev (fun k => QFirstPairing.laws_markIntS.f k l (m : Int)) (((m + l.length : Nat) : Int), o) := by
  have h : ∀ i, i ≤ l.length → ∀ o : List Int, o.length = l.length → (∀ j, j < i → o.getD j 0 = ((m + j : Nat) : Int)) → ∃ o' : List Int, o'.length = l.length ∧ (∀ j, j < o'.length → o'.getD j 0 = ((m + j : Nat) : Int)) ∧ Ev (fun k => QFirstPairing.laws_markIntS.l0 k o ((m + i : Nat) : Int) (i : Int)) (((m + l.length : Nat) : Int), o') := by
    refine downTo l.length ?_ ?_
    · intro o ho hj
      refine ⟨o, ho, fun j h => hj j (by omega), Ev.step (f := fun _ => some (((m + l.length : Nat) : Int), o)) (fun k => ?_) (Ev.now _)⟩
      simp only [QFirstPairing.laws_markIntS.l0]
      rw [if_neg (by omega)]
    · intro i hil ih o ho hj
      obtain ⟨o', h1, h2, h3⟩ := ih (o.set i ((m + i : Nat) : Int)) (by rw [List.length_set]; exact ho) (fun j hji => by
        rw [List.getD_eq_getElem?_getD, List.getElem?_set]
        by_cases e : i = j
        · subst e
          rw [if_pos rfl, if_pos (by omega)]; rfl
        · rw [if_neg e, ← List.getD_eq_getElem?_getD]
          exact hj j (by omega))
      refine ⟨o', h1, h2, Ev.step (f := fun k => QFirstPairing.laws_markIntS.l0 k (o.set i ((m + i : Nat) : Int)) ((m + (i + 1) : Nat) : Int) ((i + 1 : Nat) : Int)) (fun k => ?_) h3⟩
      simp only [QFirstPairing.laws_markIntS.l0, Int.toNat_natCast]
      rw [if_pos (by omega), if_pos (by omega), wrap_succ i (by omega), wrap_succ (m + i) (by omega)]
      rfl
  obtain ⟨o, h1, h2, h3⟩ := h 0 (by omega) l rfl (fun j hj => by omega)
  exact ⟨o, h1, h2, h3⟩

theorem law_of (l l' : List Int) (hl : l.length ≤ 1048576) (hl' : l'.length ≤ 1048576) (res : List Int) (ok : Bool) (hres : res.length ≤ 1048576) (hs : Ev (fun k => spec_FirstPairing.f k l l') (res, ok)) (hi : Ev (fun k => impl_FirstPairing.f k l l') (res, ok)) : Ev (fun k => laws_FnExactFirstPairing.f k l l') true := by
  obtain ⟨o, ho1, ho2, ho3⟩ := ev_markFrom l 1 (by omega)
  obtain ⟨p, hp1, hp2, hp3⟩ := ev_markFrom l' (1 + l.length) (by omega)
  obtain ⟨o2, hq1, hq2, hq3⟩ := ev_markFrom res 1 (by omega)
  have hh := ev_heldIntS o2 (by omega) (fun j hj => by rw [hq2 j hj]; omega)
  rw [hq1, show (res.length : Int) + 1 = ((1 + res.length : Nat) : Int) from by omega] at hh
  have h2 : Ev (fun k => laws_FnExactFirstPairing.j2 k o2 ((1 + res.length : Nat) : Int) false) true := by
    refine Ev.step (f := fun k => (laws_heldIntS.f k o2 1).bind fun t => if t < 0 then some false else if t = ((1 + res.length : Nat) : Int) then some true else some false) (fun k => ?_) (Ev.bind hh ?_)
    · simp only [laws_FnExactFirstPairing.j2, Bool.false_eq_true, if_false]
    · refine Ev.congr (f := fun _ => some true) (fun k => ?_) (Ev.now _)
      rw [if_neg (by omega), if_pos rfl]
  have h1 : Ev (fun k => laws_FnExactFirstPairing.j1 k l l' res ok res false) true := by
    refine Ev.step (f := fun k => (QFirstPairing.laws_markIntS.f k res 1).bind fun bt => (laws_heldIntS.f k bt.2 1).bind fun t => if t < 0 then some false else if t = bt.1 then (laws_toIntS.f k l).bind fun t2 => (laws_toIntS.f k l').bind fun t2' => (impl_FirstPairing.f k t2 t2').bind fun b2 => (laws_eqIntS.f k b2.1 res).bind fun t3 => if t3 = true then laws_FnExactFirstPairing.j2 k bt.2 bt.1 (b2.2 != ok) else laws_FnExactFirstPairing.j2 k bt.2 bt.1 true else some false) (fun k => ?_) (Ev.bind hq3 (Ev.bind hh ?_))
    · simp only [laws_FnExactFirstPairing.j1, Bool.false_eq_true, if_false]
    · refine Ev.congr (f := fun k => (laws_toIntS.f k l).bind fun t2 => (laws_toIntS.f k l').bind fun t2' => (impl_FirstPairing.f k t2 t2').bind fun b2 => (laws_eqIntS.f k b2.1 res).bind fun t3 => if t3 = true then laws_FnExactFirstPairing.j2 k o2 ((1 + res.length : Nat) : Int) (b2.2 != ok) else laws_FnExactFirstPairing.j2 k o2 ((1 + res.length : Nat) : Int) true) (fun k => ?_) ?_
      · rw [if_neg (by omega), if_pos rfl]
      · refine Ev.bind (ev_toIntS l hl) (Ev.bind (ev_toIntS l' hl') (Ev.bind hi (Ev.bind (ev_eqIntS res hres) ?_)))
        simp only [if_true, bne_self_eq_false]
        exact h2
  have h0 : Ev (fun k => laws_FnExactFirstPairing.j0 k l l' res ok l l' res ok false) true := by
    refine Ev.step (f := fun k => (laws_toIntS.f k l).bind fun t => (laws_eqIntS.f k l t).bind fun t2 => if t2 = true then (laws_toIntS.f k l').bind fun t => (laws_eqIntS.f k l' t).bind fun t2 => if t2 = true then (QFirstPairing.laws_markIntS.f k l 1).bind fun bt => (QFirstPairing.laws_markIntS.f k l' bt.1).bind fun bt => if bt.1 < 0 then laws_FnExactFirstPairing.j1 k l l' res ok res true else (laws_eqIntS.f k res res).bind fun t3 => if t3 = true then laws_FnExactFirstPairing.j1 k l l' res ok res (ok != ok) else laws_FnExactFirstPairing.j1 k l l' res ok res true else some false else some false) (fun k => ?_) (Ev.bind (ev_toIntS l hl) (Ev.bind (ev_eqIntS l hl) ?_))
    · simp only [laws_FnExactFirstPairing.j0, Bool.false_eq_true, if_false]
    · simp only [if_true]
      refine Ev.bind (ev_toIntS l' hl') (Ev.bind (ev_eqIntS l' hl') ?_)
      simp only [if_true]
      refine Ev.bind ho3 (Ev.bind hp3 ?_)
      refine Ev.congr (f := fun k => (laws_eqIntS.f k res res).bind fun t3 => if t3 = true then laws_FnExactFirstPairing.j1 k l l' res ok res (ok != ok) else laws_FnExactFirstPairing.j1 k l l' res ok res true) (fun k => ?_) (Ev.bind (ev_eqIntS res hres) ?_)
      · rw [if_neg (by omega)]
      · simp only [if_true, bne_self_eq_false]
        exact h1
  refine Ev.congr (f := fun k => (laws_toIntS.f k l).bind fun t => (laws_toIntS.f k l').bind fun t' => (spec_FirstPairing.f k t t').bind fun b => (laws_toIntS.f k l).bind fun t2 => (laws_toIntS.f k l').bind fun t2' => (impl_FirstPairing.f k t2 t2').bind fun b2 => (laws_eqIntS.f k b2.1 b.1).bind fun t3 => if t3 = true then laws_FnExactFirstPairing.j0 k l l' b.1 b.2 t2 t2' b2.1 b2.2 (b2.2 != b.2) else laws_FnExactFirstPairing.j0 k l l' b.1 b.2 t2 t2' b2.1 b2.2 true) (fun k => ?_) ?_
  · unfold laws_FnExactFirstPairing.f
    rw [if_neg (by omega), if_neg (by omega)]
  · refine Ev.bind (ev_toIntS l hl) (Ev.bind (ev_toIntS l' hl') (Ev.bind hs (Ev.bind (ev_toIntS l hl) (Ev.bind (ev_toIntS l' hl') (Ev.bind hi (Ev.bind (ev_eqIntS res hres) ?_))))))
    simp only [if_true, bne_self_eq_false]
    exact h0

theorem law_long (l l' : List Int) (hl : ¬ l.length ≤ 1048576) : Ev (fun k => laws_FnExactFirstPairing.f k l l') true := by
  refine Ev.congr (f := fun k => some true) (fun k => ?_) (Ev.now _)
  unfold laws_FnExactFirstPairing.f
  rw [if_pos (by omega)]
theorem law_long' (l l' : List Int) (hl : l.length ≤ 1048576) (hl' : ¬ l'.length ≤ 1048576) : Ev (fun k => laws_FnExactFirstPairing.f k l l') true := by
  refine Ev.congr (f := fun k => some true) (fun k => ?_) (Ev.now _)
  unfold laws_FnExactFirstPairing.f
  rw [if_neg (by omega), if_pos (by omega)]
theorem fnd_len (l r : List Int) (S : Int) (n : Nat) (h : l.length = r.length) (h7 : l.length ≤ 7) : (fnd l r S (ext l.length l.length [])).1.length ≤ 1048576 := by
  unfold fnd
  simp only
  cases hf : (ext l.length l.length []).filter (hit l r S) with
  | nil => simp
  | cons q t =>
    have hq : q ∈ ext l.length l.length [] := (List.mem_filter.1 (show q ∈ (ext l.length l.length []).filter (hit l r S) from by rw [hf]; exact List.mem_cons_self ..)).1
    have := ((ext_isP _ q).1 hq).1
    show q.length ≤ _
    omega

theorem law : laws_FnExactFirstPairing.Pure := by
  intro l r _ _ _ _ _ _
  apply Ev.rounds
  by_cases hl : l.length ≤ 1048576
  · by_cases hr : r.length ≤ 1048576
    · cases hok : okBoth l r with
      | true =>
        obtain ⟨h1, h2, h3, h4, h5⟩ := okBoth_is l r hok
        refine law_of l r hl hr (bst l r).2.2.1 true (by rw [show (bst l r).2.2.1 = (fnd l r (bst l r).1 (ext l.length l.length [])).1 from rfl]; exact fnd_len l r (bst l r).1 l.length h3 h5) ?_ (Ev.bind (ev_bestsOf l r hok) (Ev.now _))
        refine Ev.congr (fun k => rfl) (Ev.bind (ev_shBoth l r hl hr) ?_)
        simp only [hok, if_true]
        refine Ev.bind (ev_shSorted l r (by omega) h3) ?_
        exact Ev.bind (pst_ok l r hok) (Ev.bind (ev_Look l r hok) (Ev.now _))
      | false =>
        refine law_of l r hl hr [] false (by simp) ?_ (Ev.bind (no_bestsOf l r hl hr hok) (Ev.now _))
        refine Ev.congr (fun k => rfl) (Ev.bind (ev_shBoth l r hl hr) ?_)
        simp only [hok, Bool.false_eq_true, if_false]
        exact Ev.now _
    · exact law_long' l r hl hr
  · exact law_long l r hl

end Go.Proofs.Ytagfnpocloaojaa.PureFirstPairing
namespace Go.Proofs.Ytagfnpocloaojaa.Pure
theorem FnExactFirstPairing : Go.Proofs.Ytagfnpocloaojaa.QFirstPairing.laws_FnExactFirstPairing.Pure := Go.Proofs.Ytagfnpocloaojaa.PureFirstPairing.law
end Go.Proofs.Ytagfnpocloaojaa.Pure
