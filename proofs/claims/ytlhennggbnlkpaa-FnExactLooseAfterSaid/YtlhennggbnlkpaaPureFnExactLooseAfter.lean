/- The pure statement of the law FnExactLooseAfter: for every slice of int64 numbers the program's LooseAfter and the reference's LooseAfter return the same list and the same bool, the result is new memory, and the argument reads afterwards as before. No condition beside the row's own reach. -/
import Derived.Test.YtlhennggbnlkpaaQLooseAfterx1
import Derived.Test.YtlhennggbnlkpaaPurePile
namespace Go.Proofs.Ytlhennggbnlkpaa.PureLooseAfter
open Go.RowKit Go.Proofs.Ytlhennggbnlkpaa.QLooseAfter Go.Proofs.Ytlhennggbnlkpaa.QPile Go.Proofs.Ytlhennggbnlkpaa.PurePile Go.Proofs.YtlhennggbnlkpaaW.PrintWords Go.Proofs.YtlhennggbnlkpaaW.PrintLast Go.Proofs.YtlhennggbnlkpaaW.PrintMore
open Go.Proofs.Ytlhennggbnlkpaa.XHeights

/-! ### the law's own marks, and the law -/
theorem ev_markIntS (l : List Int) (hl : l.length ≤ 1048576) : ∃ o : List Int, o.length = l.length ∧ (∀ j, j < o.length → o.getD j 0 = (j : Int) + 1) ∧ Ev (fun k => QLooseAfter.laws_markIntS.f k l 1) ((l.length : Int) + 1, o) := by
  have h : ∀ i, i ≤ l.length → ∀ o : List Int, o.length = l.length → (∀ j, j < i → o.getD j 0 = (j : Int) + 1) → ∃ o' : List Int, o'.length = l.length ∧ (∀ j, j < o'.length → o'.getD j 0 = (j : Int) + 1) ∧ Ev (fun k => QLooseAfter.laws_markIntS.l0 k o ((i : Int) + 1) (i : Int)) ((l.length : Int) + 1, o') := by
    refine downTo l.length ?_ ?_
    · intro o ho hj
      refine ⟨o, ho, fun j h => hj j (by omega), Ev.step (f := fun _ => some ((l.length : Int) + 1, o)) (fun k => ?_) (Ev.now _)⟩
      simp only [QLooseAfter.laws_markIntS.l0]
      rw [if_neg (by omega)]
    · intro i hil ih o ho hj
      obtain ⟨o', h1, h2, h3⟩ := ih (o.set i ((i : Int) + 1)) (by rw [List.length_set]; exact ho) (fun j hji => by
        rw [List.getD_eq_getElem?_getD, List.getElem?_set]
        by_cases e : i = j
        · subst e
          rw [if_pos rfl, if_pos (by omega)]; rfl
        · rw [if_neg e, ← List.getD_eq_getElem?_getD]
          exact hj j (by omega))
      refine ⟨o', h1, h2, Ev.step (f := fun k => QLooseAfter.laws_markIntS.l0 k (o.set i ((i : Int) + 1)) (((i + 1 : Nat) : Int) + 1) ((i + 1 : Nat) : Int)) (fun k => ?_) h3⟩
      simp only [QLooseAfter.laws_markIntS.l0, Int.toNat_natCast]
      rw [if_pos (by omega), if_pos (by omega), wrap_succ i (by omega), show wrap64 ((i : Int) + 1 + 1) = ((i + 1 : Nat) : Int) + 1 from by unfold wrap64; omega]
  obtain ⟨o, h1, h2, h3⟩ := h 0 (by omega) l rfl (fun j hj => by omega)
  exact ⟨o, h1, h2, h3⟩

theorem law_of (l : List Int) (hl : l.length ≤ 1048576) (res : List Int) (ok : Bool) (hres : res.length ≤ 1048576) (hs : Ev (fun k => spec_LooseAfter.f k l) (res, ok)) (hi : Ev (fun k => impl_LooseAfter.f k l) (res, ok)) : Ev (fun k => laws_FnExactLooseAfter.f k l) true := by
  obtain ⟨o, ho1, ho2, ho3⟩ := ev_markIntS l hl
  obtain ⟨o2, hq1, hq2, hq3⟩ := ev_markIntS res hres
  have hh := ev_heldIntS o2 (by omega) hq2
  rw [hq1] at hh
  have h2 : Ev (fun k => laws_FnExactLooseAfter.j2 k o2 ((res.length : Int) + 1) false) true := by
    refine Ev.step (f := fun k => (laws_heldIntS.f k o2 1).bind fun t => if t < 0 then some false else if t = (res.length : Int) + 1 then some true else some false) (fun k => ?_) (Ev.bind hh ?_)
    · simp only [laws_FnExactLooseAfter.j2, Bool.false_eq_true, if_false]
    · refine Ev.congr (f := fun _ => some true) (fun k => ?_) (Ev.now _)
      rw [if_neg (by omega), if_pos rfl]
  have h1 : Ev (fun k => laws_FnExactLooseAfter.j1 k l res ok res false) true := by
    refine Ev.step (f := fun k => (QLooseAfter.laws_markIntS.f k res 1).bind fun bt => (laws_heldIntS.f k bt.2 1).bind fun t => if t < 0 then some false else if t = bt.1 then (laws_toIntS.f k l).bind fun t2 => (impl_LooseAfter.f k t2).bind fun b2 => (laws_eqIntS.f k b2.1 res).bind fun t3 => if t3 = true then laws_FnExactLooseAfter.j2 k bt.2 bt.1 (b2.2 != ok) else laws_FnExactLooseAfter.j2 k bt.2 bt.1 true else some false) (fun k => ?_) (Ev.bind hq3 (Ev.bind hh ?_))
    · simp only [laws_FnExactLooseAfter.j1, Bool.false_eq_true, if_false]
    · refine Ev.congr (f := fun k => (laws_toIntS.f k l).bind fun t2 => (impl_LooseAfter.f k t2).bind fun b2 => (laws_eqIntS.f k b2.1 res).bind fun t3 => if t3 = true then laws_FnExactLooseAfter.j2 k o2 ((res.length : Int) + 1) (b2.2 != ok) else laws_FnExactLooseAfter.j2 k o2 ((res.length : Int) + 1) true) (fun k => ?_) ?_
      · rw [if_neg (by omega), if_pos rfl]
      · refine Ev.bind (ev_toIntS l hl) (Ev.bind hi (Ev.bind (ev_eqIntS res hres) ?_))
        simp only [if_true, bne_self_eq_false]
        exact h2
  have h0 : Ev (fun k => laws_FnExactLooseAfter.j0 k l res ok l res ok false) true := by
    refine Ev.step (f := fun k => (laws_toIntS.f k l).bind fun t => (laws_eqIntS.f k l t).bind fun t2 => if t2 = true then (QLooseAfter.laws_markIntS.f k l 1).bind fun bt => if bt.1 < 0 then laws_FnExactLooseAfter.j1 k l res ok res true else (laws_eqIntS.f k res res).bind fun t3 => if t3 = true then laws_FnExactLooseAfter.j1 k l res ok res (ok != ok) else laws_FnExactLooseAfter.j1 k l res ok res true else some false) (fun k => ?_) (Ev.bind (ev_toIntS l hl) (Ev.bind (ev_eqIntS l hl) ?_))
    · simp only [laws_FnExactLooseAfter.j0, Bool.false_eq_true, if_false]
    · simp only [if_true]
      refine Ev.bind ho3 ?_
      refine Ev.congr (f := fun k => (laws_eqIntS.f k res res).bind fun t3 => if t3 = true then laws_FnExactLooseAfter.j1 k l res ok res (ok != ok) else laws_FnExactLooseAfter.j1 k l res ok res true) (fun k => ?_) (Ev.bind (ev_eqIntS res hres) ?_)
      · rw [if_neg (by omega)]
      · simp only [if_true, bne_self_eq_false]
        exact h1
  refine Ev.congr (f := fun k => (laws_toIntS.f k l).bind fun t => (spec_LooseAfter.f k t).bind fun b => (laws_toIntS.f k l).bind fun t2 => (impl_LooseAfter.f k t2).bind fun b2 => (laws_eqIntS.f k b2.1 b.1).bind fun t3 => if t3 = true then laws_FnExactLooseAfter.j0 k l b.1 b.2 t2 b2.1 b2.2 (b2.2 != b.2) else laws_FnExactLooseAfter.j0 k l b.1 b.2 t2 b2.1 b2.2 true) (fun k => ?_) ?_
  · unfold laws_FnExactLooseAfter.f
    rw [if_neg (by omega)]
  · refine Ev.bind (ev_toIntS l hl) (Ev.bind hs (Ev.bind (ev_toIntS l hl) (Ev.bind hi (Ev.bind (ev_eqIntS res hres) ?_))))
    simp only [if_true, bne_self_eq_false]
    exact h0

theorem law_long (l : List Int) (hl : ¬ l.length ≤ 1048576) : Ev (fun k => laws_FnExactLooseAfter.f k l) true := by
  refine Ev.congr (f := fun k => some true) (fun k => ?_) (Ev.now _)
  unfold laws_FnExactLooseAfter.f
  rw [if_pos (by omega)]

theorem spec_yes (l : List Int) (hl : l.length ≤ 1048576) (hp : okPile l = true) : Ev (fun k => spec_LooseAfter.f k l) (0 :: hts 0 (strOfNums (shapeL l)).data.toList, true) := by
  unfold spec_LooseAfter.f
  refine Ev.bind (ev_piGood l hl) ?_
  rw [hp]
  simp only [if_true]
  exact Ev.bind (ev_piShape l hl) (Ev.bind (ev_piLoose _ (by rw [str_size, shapeL, signs_length]; exact hl)) (Ev.now _))
theorem spec_no (l : List Int) (hl : l.length ≤ 1048576) (hp : okPile l = false) : Ev (fun k => spec_LooseAfter.f k l) ([], false) := by
  unfold spec_LooseAfter.f
  refine Ev.bind (ev_piGood l hl) ?_
  rw [hp]
  simp only [Bool.false_eq_true, if_false]
  exact Ev.now _
theorem impl_yes (l : List Int) (hl : l.length ≤ 1048576) (hp : okPile l = true) : Ev (fun k => impl_LooseAfter.f k l) (0 :: hts 0 (strOfNums (shapeL l)).data.toList, true) := by
  obtain ⟨h16, _, _, hr, _⟩ := okPile_range l hp
  unfold impl_LooseAfter.f
  refine Ev.bind (ev_IsPile l hl) ?_
  rw [hp]
  simp only [if_true]
  refine Ev.bind (ev_shapeOf l h16 (fun x hx => by have := hr x hx; omega)) ?_
  have e : impl_heights.f (strOfNums (shapeL l)) = some (0 :: hts 0 (strOfNums (shapeL l)).data.toList) := by
    unfold impl_heights.f
    rw [if_pos ⟨by rw [str_size, shapeL, signs_length]; exact hl, shape_bytes l⟩]
  simp only [e, Option.bind_some]
  exact Ev.now _
theorem impl_no (l : List Int) (hl : l.length ≤ 1048576) (hp : okPile l = false) : Ev (fun k => impl_LooseAfter.f k l) ([], false) := by
  unfold impl_LooseAfter.f
  refine Ev.bind (ev_IsPile l hl) ?_
  rw [hp]
  simp only [Bool.false_eq_true, if_false]
  exact Ev.now _

theorem law : laws_FnExactLooseAfter.Pure := by
  intro l _ _ _
  apply Ev.rounds
  by_cases hl : l.length ≤ 1048576
  · cases hp : okPile l with
    | true =>
      refine law_of l hl _ true ?_ (spec_yes l hl hp) (impl_yes l hl hp)
      have := (okPile_range l hp).1
      rw [List.length_cons, hts_length, Array.length_toList]
      show (strOfNums (shapeL l)).size + 1 ≤ _
      rw [str_size, shapeL, signs_length]
      omega
    | false => exact law_of l hl [] false (by simp) (spec_no l hl hp) (impl_no l hl hp)
  · exact law_long l hl

end Go.Proofs.Ytlhennggbnlkpaa.PureLooseAfter
namespace Go.Proofs.Ytlhennggbnlkpaa.Pure
theorem FnExactLooseAfter : Go.Proofs.Ytlhennggbnlkpaa.QLooseAfter.laws_FnExactLooseAfter.Pure := Go.Proofs.Ytlhennggbnlkpaa.PureLooseAfter.law
end Go.Proofs.Ytlhennggbnlkpaa.Pure
