/- The pure statement of the law FnExactTurnPile: for every slice of int64 numbers the program's TurnPile and the reference's TurnPile return the same list and the same bool, the result is new memory, and the argument reads afterwards as before. No condition beside the row's own reach. -/
import Derived.Test.YtlhennggbnlkpaaQTurnPilex2
import Derived.Test.YtlhennggbnlkpaaPurePile
import Derived.Test.YtlhennggbnlkpaaXClone
namespace Go.Proofs.Ytlhennggbnlkpaa.PureTurnPile
open Go.RowKit Go.Proofs.Ytlhennggbnlkpaa.QTurnPile Go.Proofs.Ytlhennggbnlkpaa.QPile Go.Proofs.Ytlhennggbnlkpaa.PurePile Go.Proofs.YtlhennggbnlkpaaW.PrintWords Go.Proofs.YtlhennggbnlkpaaW.PrintLast Go.Proofs.YtlhennggbnlkpaaW.PrintMore
open Go.Proofs.Ytlhennggbnlkpaa.XHeights Go.Proofs.Ytlhennggbnlkpaa.XClone

/-! ### the law's own marks, and the law -/
theorem ev_markIntS (l : List Int) (hl : l.length ≤ 1048576) : ∃ o : List Int, o.length = l.length ∧ (∀ j, j < o.length → o.getD j 0 = (j : Int) + 1) ∧ Ev (fun k => QTurnPile.laws_markIntS.f k l 1) ((l.length : Int) + 1, o) := by
  have h : ∀ i, i ≤ l.length → ∀ o : List Int, o.length = l.length → (∀ j, j < i → o.getD j 0 = (j : Int) + 1) → ∃ o' : List Int, o'.length = l.length ∧ (∀ j, j < o'.length → o'.getD j 0 = (j : Int) + 1) ∧ Ev (fun k => QTurnPile.laws_markIntS.l0 k o ((i : Int) + 1) (i : Int)) ((l.length : Int) + 1, o') := by
    refine downTo l.length ?_ ?_
    · intro o ho hj
      refine ⟨o, ho, fun j h => hj j (by omega), Ev.step (f := fun _ => some ((l.length : Int) + 1, o)) (fun k => ?_) (Ev.now _)⟩
      simp only [QTurnPile.laws_markIntS.l0]
      rw [if_neg (by omega)]
    · intro i hil ih o ho hj
      obtain ⟨o', h1, h2, h3⟩ := ih (o.set i ((i : Int) + 1)) (by rw [List.length_set]; exact ho) (fun j hji => by
        rw [List.getD_eq_getElem?_getD, List.getElem?_set]
        by_cases e : i = j
        · subst e
          rw [if_pos rfl, if_pos (by omega)]; rfl
        · rw [if_neg e, ← List.getD_eq_getElem?_getD]
          exact hj j (by omega))
      refine ⟨o', h1, h2, Ev.step (f := fun k => QTurnPile.laws_markIntS.l0 k (o.set i ((i : Int) + 1)) (((i + 1 : Nat) : Int) + 1) ((i + 1 : Nat) : Int)) (fun k => ?_) h3⟩
      simp only [QTurnPile.laws_markIntS.l0, Int.toNat_natCast]
      rw [if_pos (by omega), if_pos (by omega), wrap_succ i (by omega), show wrap64 ((i : Int) + 1 + 1) = ((i + 1 : Nat) : Int) + 1 from by unfold wrap64; omega]
  obtain ⟨o, h1, h2, h3⟩ := h 0 (by omega) l rfl (fun j hj => by omega)
  exact ⟨o, h1, h2, h3⟩

theorem law_of (l : List Int) (hl : l.length ≤ 1048576) (res : List Int) (ok : Bool) (hres : res.length ≤ 1048576) (hs : Ev (fun k => spec_TurnPile.f k l) (res, ok)) (hi : Ev (fun k => impl_TurnPile.f k l) (res, ok)) : Ev (fun k => laws_FnExactTurnPile.f k l) true := by
  obtain ⟨o, ho1, ho2, ho3⟩ := ev_markIntS l hl
  obtain ⟨o2, hq1, hq2, hq3⟩ := ev_markIntS res hres
  have hh := ev_heldIntS o2 (by omega) hq2
  rw [hq1] at hh
  have h2 : Ev (fun k => laws_FnExactTurnPile.j2 k o2 ((res.length : Int) + 1) false) true := by
    refine Ev.step (f := fun k => (laws_heldIntS.f k o2 1).bind fun t => if t < 0 then some false else if t = (res.length : Int) + 1 then some true else some false) (fun k => ?_) (Ev.bind hh ?_)
    · simp only [laws_FnExactTurnPile.j2, Bool.false_eq_true, if_false]
    · refine Ev.congr (f := fun _ => some true) (fun k => ?_) (Ev.now _)
      rw [if_neg (by omega), if_pos rfl]
  have h1 : Ev (fun k => laws_FnExactTurnPile.j1 k l res ok res false) true := by
    refine Ev.step (f := fun k => (QTurnPile.laws_markIntS.f k res 1).bind fun bt => (laws_heldIntS.f k bt.2 1).bind fun t => if t < 0 then some false else if t = bt.1 then (laws_toIntS.f k l).bind fun t2 => (impl_TurnPile.f k t2).bind fun b2 => (laws_eqIntS.f k b2.1 res).bind fun t3 => if t3 = true then laws_FnExactTurnPile.j2 k bt.2 bt.1 (b2.2 != ok) else laws_FnExactTurnPile.j2 k bt.2 bt.1 true else some false) (fun k => ?_) (Ev.bind hq3 (Ev.bind hh ?_))
    · simp only [laws_FnExactTurnPile.j1, Bool.false_eq_true, if_false]
    · refine Ev.congr (f := fun k => (laws_toIntS.f k l).bind fun t2 => (impl_TurnPile.f k t2).bind fun b2 => (laws_eqIntS.f k b2.1 res).bind fun t3 => if t3 = true then laws_FnExactTurnPile.j2 k o2 ((res.length : Int) + 1) (b2.2 != ok) else laws_FnExactTurnPile.j2 k o2 ((res.length : Int) + 1) true) (fun k => ?_) ?_
      · rw [if_neg (by omega), if_pos rfl]
      · refine Ev.bind (ev_toIntS l hl) (Ev.bind hi (Ev.bind (ev_eqIntS res hres) ?_))
        simp only [if_true, bne_self_eq_false]
        exact h2
  have h0 : Ev (fun k => laws_FnExactTurnPile.j0 k l res ok l res ok false) true := by
    refine Ev.step (f := fun k => (laws_toIntS.f k l).bind fun t => (laws_eqIntS.f k l t).bind fun t2 => if t2 = true then (QTurnPile.laws_markIntS.f k l 1).bind fun bt => if bt.1 < 0 then laws_FnExactTurnPile.j1 k l res ok res true else (laws_eqIntS.f k res res).bind fun t3 => if t3 = true then laws_FnExactTurnPile.j1 k l res ok res (ok != ok) else laws_FnExactTurnPile.j1 k l res ok res true else some false) (fun k => ?_) (Ev.bind (ev_toIntS l hl) (Ev.bind (ev_eqIntS l hl) ?_))
    · simp only [laws_FnExactTurnPile.j0, Bool.false_eq_true, if_false]
    · simp only [if_true]
      refine Ev.bind ho3 ?_
      refine Ev.congr (f := fun k => (laws_eqIntS.f k res res).bind fun t3 => if t3 = true then laws_FnExactTurnPile.j1 k l res ok res (ok != ok) else laws_FnExactTurnPile.j1 k l res ok res true) (fun k => ?_) (Ev.bind (ev_eqIntS res hres) ?_)
      · rw [if_neg (by omega)]
      · simp only [if_true, bne_self_eq_false]
        exact h1
  refine Ev.congr (f := fun k => (laws_toIntS.f k l).bind fun t => (spec_TurnPile.f k t).bind fun b => (laws_toIntS.f k l).bind fun t2 => (impl_TurnPile.f k t2).bind fun b2 => (laws_eqIntS.f k b2.1 b.1).bind fun t3 => if t3 = true then laws_FnExactTurnPile.j0 k l b.1 b.2 t2 b2.1 b2.2 (b2.2 != b.2) else laws_FnExactTurnPile.j0 k l b.1 b.2 t2 b2.1 b2.2 true) (fun k => ?_) ?_
  · unfold laws_FnExactTurnPile.f
    rw [if_neg (by omega)]
  · refine Ev.bind (ev_toIntS l hl) (Ev.bind hs (Ev.bind (ev_toIntS l hl) (Ev.bind hi (Ev.bind (ev_eqIntS res hres) ?_))))
    simp only [if_true, bne_self_eq_false]
    exact h0

theorem law_long (l : List Int) (hl : ¬ l.length ≤ 1048576) : Ev (fun k => laws_FnExactTurnPile.f k l) true := by
  refine Ev.congr (f := fun k => some true) (fun k => ?_) (Ev.now _)
  unfold laws_FnExactTurnPile.f
  rw [if_pos (by omega)]

theorem spec_loop (l : List Int) (hl : l.length ≤ 1048576) : ∀ n, n ≤ l.length → ∀ xs : List Int, xs ++ (l.take n).reverse = l.reverse → Ev (fun k => spec_TurnPile.l0 k l xs ((n : Int) - 1)) (l.reverse, true) := by
  intro n
  induction n with
  | zero =>
    intro _ xs e
    rw [List.take_zero, List.reverse_nil, List.append_nil] at e
    refine Ev.step (f := fun _ => some (xs, true)) (fun k => ?_) (by rw [e]; exact Ev.now _)
    simp only [spec_TurnPile.l0]
    rw [if_neg (by omega)]
  | succ n ih =>
    intro hn xs e
    rw [take_snoc l n (by omega), List.reverse_append, List.reverse_singleton, ← List.append_assoc] at e
    have hx : xs.length ≤ 1048576 := by
      have := congrArg List.length e
      simp at this
      omega
    refine Ev.step (f := fun k => spec_TurnPile.l0 k l (xs ++ [rd l (n : Int)]) ((n : Int) - 1)) (fun k => ?_) (ih (by omega) _ e)
    simp only [spec_TurnPile.l0]
    rw [show ((n + 1 : Nat) : Int) - 1 = (n : Int) from by omega, if_pos (by omega), if_pos (by omega), if_pos (by omega), if_pos (by omega), show wrap64 ((n : Int) - 1) = (n : Int) - 1 from by unfold wrap64; omega]

theorem getD_rev (l : List Int) (p : Nat) (h : p < l.length) : l.reverse.getD p 0 = l.getD (l.length - 1 - p) 0 := by
  rw [List.getD_eq_getElem?_getD, List.getD_eq_getElem?_getD, List.getElem?_reverse h]

theorem rev_loop (l : List Int) (hl : l.length ≤ 1048576) : ∀ m i, l.length ≤ 2 * i + m → 2 * i ≤ l.length → ∀ x : List Int, x.length = l.length →
    (∀ p, p < l.length → x.getD p 0 = if p < i ∨ l.length - 1 - i < p then l.getD (l.length - 1 - p) 0 else l.getD p 0) →
    Ev (fun k => slices_Reverse_int_int.l0 k x (i : Int) ((l.length : Int) - 1 - i)) l.reverse := by
  intro m
  have hdone : ∀ i, 2 * i ≤ l.length → ¬ 2 * i + 1 < l.length → ∀ x : List Int, x.length = l.length →
      (∀ p, p < l.length → x.getD p 0 = if p < i ∨ l.length - 1 - i < p then l.getD (l.length - 1 - p) 0 else l.getD p 0) →
      Ev (fun k => slices_Reverse_int_int.l0 k x (i : Int) ((l.length : Int) - 1 - i)) l.reverse := by
    intro i hi hn x hx hp
    have e : x = l.reverse := List.ext_getElem (by rw [List.length_reverse]; exact hx) fun p h1 h2 => by
      have h3 := hp p (by omega)
      have h4 := getD_rev l p (by omega)
      rw [List.getD_eq_getElem?_getD, List.getElem?_eq_getElem h1] at h3
      rw [List.getD_eq_getElem?_getD, List.getElem?_eq_getElem h2] at h4
      simp only [Option.getD_some] at h3 h4
      rw [h3, h4]
      split
      · rfl
      · rw [show l.length - 1 - p = p from by omega]
    refine Ev.step (f := fun _ => some x) (fun k => ?_) (by rw [e]; exact Ev.now _)
    simp only [slices_Reverse_int_int.l0]
    rw [if_neg (by omega)]
  induction m with
  | zero => intro i h1 h2 x hx hp; exact hdone i h2 (by omega) x hx hp
  | succ m ih =>
    intro i h1 h2 x hx hp
    by_cases hn : 2 * i + 1 < l.length
    · have ej : (l.length : Int) - 1 - i = ((l.length - 1 - i : Nat) : Int) := by omega
      refine Ev.step (f := fun k => slices_Reverse_int_int.l0 k ((x.set i (rd x ((l.length - 1 - i : Nat) : Int))).set (l.length - 1 - i) (rd x (i : Int))) ((i + 1 : Nat) : Int) ((l.length : Int) - 1 - ((i + 1 : Nat) : Int))) (fun k => ?_) (ih (i + 1) (by omega) (by omega) _ (by rw [List.length_set, List.length_set]; exact hx) ?_)
      · simp only [slices_Reverse_int_int.l0, ej, Int.toNat_natCast]
        rw [if_pos (by omega), if_pos (by omega), if_pos (by omega), if_pos (by omega), if_pos (by omega), wrap_succ i (by omega), show wrap64 (((l.length - 1 - i : Nat) : Int) - 1) = (l.length : Int) - 1 - ((i + 1 : Nat) : Int) from by unfold wrap64; omega]
      · intro p hpl
        have hi := hp i (by omega)
        have hj := hp (l.length - 1 - i) (by omega)
        rw [if_neg (by omega)] at hi hj
        rw [List.getD_eq_getElem?_getD, List.getElem?_set, List.getElem?_set, List.length_set, rd_nat, rd_nat, hi, hj]
        by_cases e1 : l.length - 1 - i = p
        · subst e1
          rw [if_pos rfl, if_pos (by omega), if_pos (by omega), show l.length - 1 - (l.length - 1 - i) = i from by omega]
          rfl
        · rw [if_neg e1]
          by_cases e2 : i = p
          · subst e2
            rw [if_pos rfl, if_pos (by omega), if_pos (by omega)]
            rfl
          · rw [if_neg e2, ← List.getD_eq_getElem?_getD, hp p hpl]
            by_cases c : p < i ∨ l.length - 1 - i < p
            · rw [if_pos c, if_pos (by omega)]
            · rw [if_neg c, if_neg (by omega)]
    · exact hdone i h2 hn x hx hp

theorem law : laws_FnExactTurnPile.Pure := by
  intro l _ _ _
  apply Ev.rounds
  by_cases hl : l.length ≤ 1048576
  · cases hp : okPile l with
    | true =>
      refine law_of l hl l.reverse true (by rw [List.length_reverse]; exact hl) ?_ ?_
      · unfold spec_TurnPile.f
        refine Ev.bind (ev_piGood l hl) ?_
        rw [hp]
        simp only [if_true]
        rw [show wrap64 ((l.length : Int) - 1) = (l.length : Int) - 1 from by unfold wrap64; omega]
        exact spec_loop l hl l.length (Nat.le_refl _) [] (by simp)
      · unfold impl_TurnPile.f
        refine Ev.bind (ev_IsPile l hl) ?_
        rw [hp]
        simp only [if_true]
        have e : slices_Clone_int_int.f l = some l := by
          unfold slices_Clone_int_int.f
          rw [if_pos (by omega)]
        simp only [e, Option.bind_some]
        refine Ev.bind (a := l.reverse) ?_ (Ev.now _)
        have h := rev_loop l hl l.length 0 (by omega) (by omega) l rfl (fun p hpl => by rw [if_neg (by omega)])
        refine Ev.congr (f := fun k => slices_Reverse_int_int.l0 k l ((0 : Nat) : Int) ((l.length : Int) - 1 - ((0 : Nat) : Int))) (fun k => ?_) h
        unfold slices_Reverse_int_int.f
        rw [show wrap64 ((l.length : Int) - 1) = (l.length : Int) - 1 - ((0 : Nat) : Int) from by unfold wrap64; omega]
        rfl
    | false =>
      refine law_of l hl [] false (by simp) ?_ ?_
      · unfold spec_TurnPile.f
        refine Ev.bind (ev_piGood l hl) ?_
        rw [hp]
        simp only [Bool.false_eq_true, if_false]
        exact Ev.now _
      · unfold impl_TurnPile.f
        refine Ev.bind (ev_IsPile l hl) ?_
        rw [hp]
        simp only [Bool.false_eq_true, if_false]
        exact Ev.now _
  · exact law_long l hl

end Go.Proofs.Ytlhennggbnlkpaa.PureTurnPile
namespace Go.Proofs.Ytlhennggbnlkpaa.Pure
theorem FnExactTurnPile : Go.Proofs.Ytlhennggbnlkpaa.QTurnPile.laws_FnExactTurnPile.Pure := Go.Proofs.Ytlhennggbnlkpaa.PureTurnPile.law
end Go.Proofs.Ytlhennggbnlkpaa.Pure
