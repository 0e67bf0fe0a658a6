/- The pure statement of the law FnExactNamedPile: for every slice of int64 numbers the program's NamedPile and the reference's NamedPile return the same list and the same bool, the result is new memory, and the argument reads afterwards as before. No condition beside the row's own reach. -/
import Derived.Test.YtlhennggbnlkpaaQNamedPilex2
import Derived.Test.YtlhennggbnlkpaaPurePile
import Derived.Test.YtlhennggbnlkpaaXNamed
namespace Go.Proofs.Ytlhennggbnlkpaa.PureNamedPile
open Go.RowKit Go.Proofs.Ytlhennggbnlkpaa.QNamedPile Go.Proofs.Ytlhennggbnlkpaa.QPile Go.Proofs.Ytlhennggbnlkpaa.PurePile Go.Proofs.YtlhennggbnlkpaaW.PrintWords Go.Proofs.YtlhennggbnlkpaaW.PrintLast Go.Proofs.YtlhennggbnlkpaaW.PrintMore
open Go.Proofs.Ytlhennggbnlkpaa.XHeights Go.Proofs.Ytlhennggbnlkpaa.XNamed

/-! ### the law's own marks, and the law -/
theorem ev_markIntS (l : List Int) (hl : l.length ≤ 1048576) : ∃ o : List Int, o.length = l.length ∧ (∀ j, j < o.length → o.getD j 0 = (j : Int) + 1) ∧ Ev (fun k => QNamedPile.laws_markIntS.f k l 1) ((l.length : Int) + 1, o) := by
  have h : ∀ i, i ≤ l.length → ∀ o : List Int, o.length = l.length → (∀ j, j < i → o.getD j 0 = (j : Int) + 1) → ∃ o' : List Int, o'.length = l.length ∧ (∀ j, j < o'.length → o'.getD j 0 = (j : Int) + 1) ∧ Ev (fun k => QNamedPile.laws_markIntS.l0 k o ((i : Int) + 1) (i : Int)) ((l.length : Int) + 1, o') := by
    refine downTo l.length ?_ ?_
    · intro o ho hj
      refine ⟨o, ho, fun j h => hj j (by omega), Ev.step (f := fun _ => some ((l.length : Int) + 1, o)) (fun k => ?_) (Ev.now _)⟩
      simp only [QNamedPile.laws_markIntS.l0]
      rw [if_neg (by omega)]
    · intro i hil ih o ho hj
      obtain ⟨o', h1, h2, h3⟩ := ih (o.set i ((i : Int) + 1)) (by rw [List.length_set]; exact ho) (fun j hji => by
        rw [List.getD_eq_getElem?_getD, List.getElem?_set]
        by_cases e : i = j
        · subst e
          rw [if_pos rfl, if_pos (by omega)]; rfl
        · rw [if_neg e, ← List.getD_eq_getElem?_getD]
          exact hj j (by omega))
      refine ⟨o', h1, h2, Ev.step (f := fun k => QNamedPile.laws_markIntS.l0 k (o.set i ((i : Int) + 1)) (((i + 1 : Nat) : Int) + 1) ((i + 1 : Nat) : Int)) (fun k => ?_) h3⟩
      simp only [QNamedPile.laws_markIntS.l0, Int.toNat_natCast]
      rw [if_pos (by omega), if_pos (by omega), wrap_succ i (by omega), show wrap64 ((i : Int) + 1 + 1) = ((i + 1 : Nat) : Int) + 1 from by unfold wrap64; omega]
  obtain ⟨o, h1, h2, h3⟩ := h 0 (by omega) l rfl (fun j hj => by omega)
  exact ⟨o, h1, h2, h3⟩

theorem law_of (l : List Int) (hl : l.length ≤ 1048576) (res : List Int) (ok : Bool) (hres : res.length ≤ 1048576) (hs : Ev (fun k => spec_NamedPile.f k l) (res, ok)) (hi : Ev (fun k => impl_NamedPile.f k l) (res, ok)) : Ev (fun k => laws_FnExactNamedPile.f k l) true := by
  obtain ⟨o, ho1, ho2, ho3⟩ := ev_markIntS l hl
  obtain ⟨o2, hq1, hq2, hq3⟩ := ev_markIntS res hres
  have hh := ev_heldIntS o2 (by omega) hq2
  rw [hq1] at hh
  have h2 : Ev (fun k => laws_FnExactNamedPile.j2 k o2 ((res.length : Int) + 1) false) true := by
    refine Ev.step (f := fun k => (laws_heldIntS.f k o2 1).bind fun t => if t < 0 then some false else if t = (res.length : Int) + 1 then some true else some false) (fun k => ?_) (Ev.bind hh ?_)
    · simp only [laws_FnExactNamedPile.j2, Bool.false_eq_true, if_false]
    · refine Ev.congr (f := fun _ => some true) (fun k => ?_) (Ev.now _)
      rw [if_neg (by omega), if_pos rfl]
  have h1 : Ev (fun k => laws_FnExactNamedPile.j1 k l res ok res false) true := by
    refine Ev.step (f := fun k => (QNamedPile.laws_markIntS.f k res 1).bind fun bt => (laws_heldIntS.f k bt.2 1).bind fun t => if t < 0 then some false else if t = bt.1 then (laws_toIntS.f k l).bind fun t2 => (impl_NamedPile.f k t2).bind fun b2 => (laws_eqIntS.f k b2.1 res).bind fun t3 => if t3 = true then laws_FnExactNamedPile.j2 k bt.2 bt.1 (b2.2 != ok) else laws_FnExactNamedPile.j2 k bt.2 bt.1 true else some false) (fun k => ?_) (Ev.bind hq3 (Ev.bind hh ?_))
    · simp only [laws_FnExactNamedPile.j1, Bool.false_eq_true, if_false]
    · refine Ev.congr (f := fun k => (laws_toIntS.f k l).bind fun t2 => (impl_NamedPile.f k t2).bind fun b2 => (laws_eqIntS.f k b2.1 res).bind fun t3 => if t3 = true then laws_FnExactNamedPile.j2 k o2 ((res.length : Int) + 1) (b2.2 != ok) else laws_FnExactNamedPile.j2 k o2 ((res.length : Int) + 1) true) (fun k => ?_) ?_
      · rw [if_neg (by omega), if_pos rfl]
      · refine Ev.bind (ev_toIntS l hl) (Ev.bind hi (Ev.bind (ev_eqIntS res hres) ?_))
        simp only [if_true, bne_self_eq_false]
        exact h2
  have h0 : Ev (fun k => laws_FnExactNamedPile.j0 k l res ok l res ok false) true := by
    refine Ev.step (f := fun k => (laws_toIntS.f k l).bind fun t => (laws_eqIntS.f k l t).bind fun t2 => if t2 = true then (QNamedPile.laws_markIntS.f k l 1).bind fun bt => if bt.1 < 0 then laws_FnExactNamedPile.j1 k l res ok res true else (laws_eqIntS.f k res res).bind fun t3 => if t3 = true then laws_FnExactNamedPile.j1 k l res ok res (ok != ok) else laws_FnExactNamedPile.j1 k l res ok res true else some false) (fun k => ?_) (Ev.bind (ev_toIntS l hl) (Ev.bind (ev_eqIntS l hl) ?_))
    · simp only [laws_FnExactNamedPile.j0, Bool.false_eq_true, if_false]
    · simp only [if_true]
      refine Ev.bind ho3 ?_
      refine Ev.congr (f := fun k => (laws_eqIntS.f k res res).bind fun t3 => if t3 = true then laws_FnExactNamedPile.j1 k l res ok res (ok != ok) else laws_FnExactNamedPile.j1 k l res ok res true) (fun k => ?_) (Ev.bind (ev_eqIntS res hres) ?_)
      · rw [if_neg (by omega)]
      · simp only [if_true, bne_self_eq_false]
        exact h1
  refine Ev.congr (f := fun k => (laws_toIntS.f k l).bind fun t => (spec_NamedPile.f k t).bind fun b => (laws_toIntS.f k l).bind fun t2 => (impl_NamedPile.f k t2).bind fun b2 => (laws_eqIntS.f k b2.1 b.1).bind fun t3 => if t3 = true then laws_FnExactNamedPile.j0 k l b.1 b.2 t2 b2.1 b2.2 (b2.2 != b.2) else laws_FnExactNamedPile.j0 k l b.1 b.2 t2 b2.1 b2.2 true) (fun k => ?_) ?_
  · unfold laws_FnExactNamedPile.f
    rw [if_neg (by omega)]
  · refine Ev.bind (ev_toIntS l hl) (Ev.bind hs (Ev.bind (ev_toIntS l hl) (Ev.bind hi (Ev.bind (ev_eqIntS res hres) ?_))))
    simp only [if_true, bne_self_eq_false]
    exact h0

theorem law_long (l : List Int) (hl : ¬ l.length ≤ 1048576) : Ev (fun k => laws_FnExactNamedPile.f k l) true := by
  refine Ev.congr (f := fun k => some true) (fun k => ?_) (Ev.now _)
  unfold laws_FnExactNamedPile.f
  rw [if_pos (by omega)]

theorem ev_named (l : List Int) (n : Nat) (hl : l.length ≤ 1048576) (hr : ∀ x ∈ l, 0 ≤ x ∧ x ≤ (n : Int) - 1) : Ev (fun k => spec_NamedPile.l0 k l (List.replicate n 0) 0 [] l (l.length : Int) 0) (nm [] l, true) := by
  have h : ∀ i, i ≤ l.length → ∀ (names seen ys : List Int), names.length = n → ys.length = i → seen.length ≤ i → (∀ v, v ∈ seen ↔ v ∈ l.take i) → (∀ v ∈ seen, rd names v = (seen.idxOf v : Int)) → ys ++ nm seen (l.drop i) = nm [] l →
      Ev (fun k => spec_NamedPile.l0 k l names (seen.length : Int) ys l (l.length : Int) (i : Int)) (nm [] l, true) := by
    refine downTo l.length ?_ ?_
    · intro names seen ys _ _ _ _ _ e
      rw [List.drop_length, nm, List.append_nil] at e
      refine Ev.step (f := fun _ => some (ys, true)) (fun k => ?_) (by rw [e]; exact Ev.now _)
      simp only [spec_NamedPile.l0]
      rw [if_neg (by omega)]
    · intro i hil ih names seen ys hn hy hsl hse hna e
      obtain ⟨hx0, hx1⟩ := hr (rd l (i : Int)) (by rw [rd_get l i hil]; exact List.getElem_mem hil)
      obtain ⟨x, hx⟩ : ∃ x, rd l (i : Int) = x := ⟨_, rfl⟩
      rw [drop_cons l i hil, hx, nm] at e
      rw [hx] at hx0 hx1
      have hhas : Ev (fun k => spec_l1Has.f k (l.take i) x) (decide (x ∈ l.take i)) := ev_l1Has _ _ (by rw [List.length_take]; omega)
      by_cases hm : x ∈ l.take i
      · have hms := (hse x).2 hm
        rw [if_pos hms] at e
        refine Ev.step (f := fun k => (spec_l1Has.f k (l.take i) x).bind fun t => if t = true then spec_NamedPile.l0 k l names (seen.length : Int) (ys ++ [rd names x]) l (l.length : Int) ((i + 1 : Nat) : Int) else spec_NamedPile.l0 k l (names.set x.toNat (seen.length : Int)) (wrap64 ((seen.length : Int) + 1)) (ys ++ [rd (names.set x.toNat (seen.length : Int)) x]) l (l.length : Int) ((i + 1 : Nat) : Int)) (fun k => ?_) (Ev.bind hhas ?_)
        · simp only [spec_NamedPile.l0, hx, Int.toNat_natCast, Option.bind_some]
          rw [if_pos (by omega), if_pos (by omega), if_pos (by omega), if_pos (by omega), wrap_succ i (by omega)]
          simp only [hx0, show x < (names.length : Int) from by omega, show ys.length < 17592186044416 from by omega, if_true]
        · simp only [hm, decide_true, if_true]
          refine ih names seen _ hn (by simp [hy]) (by omega) (fun v => ?_) hna (by rw [hna x hms, List.append_assoc]; exact e)
          rw [take_snoc l i hil, hx, List.mem_append, hse v, List.mem_singleton]
          constructor
          · exact fun h => .inl h
          · rintro (h | rfl)
            · exact h
            · exact hm
      · have hms : ¬ x ∈ seen := fun h => hm ((hse x).1 h)
        rw [if_neg hms] at e
        refine Ev.step (f := fun k => (spec_l1Has.f k (l.take i) x).bind fun t => if t = true then spec_NamedPile.l0 k l names (seen.length : Int) (ys ++ [rd names x]) l (l.length : Int) ((i + 1 : Nat) : Int) else spec_NamedPile.l0 k l (names.set x.toNat (seen.length : Int)) (((seen ++ [x]).length : Nat) : Int) (ys ++ [(seen.length : Int)]) l (l.length : Int) ((i + 1 : Nat) : Int)) (fun k => ?_) (Ev.bind hhas ?_)
        · simp only [spec_NamedPile.l0, hx, Int.toNat_natCast, Option.bind_some]
          rw [if_pos (by omega), if_pos (by omega), if_pos (by omega), if_pos (by omega), wrap_succ i (by omega), wrap_succ seen.length (by omega), rd_set names x x _ hx0 (by omega) hx0, if_pos rfl, List.length_append]
          simp only [hx0, show x < (names.length : Int) from by omega, show ys.length < 17592186044416 from by omega, if_true]
          rfl
        · simp only [hm, decide_false, Bool.false_eq_true, if_false]
          refine ih _ (seen ++ [x]) _ (by rw [List.length_set]; exact hn) (by simp [hy]) (by simp; omega) (fun v => ?_) (fun v hv => ?_) (by rw [List.append_assoc]; exact e)
          · rw [take_snoc l i hil, hx, List.mem_append, List.mem_append, hse v]
          · have hv0 : 0 ≤ v := by
              rcases List.mem_append.1 hv with h | h
              · exact (hr v (List.mem_of_mem_take ((hse v).1 h))).1
              · rw [List.mem_singleton.1 h]; exact hx0
            rw [rd_set names x v _ hx0 (by omega) hv0, List.idxOf_append]
            by_cases ev : x = v
            · subst ev
              rw [if_pos rfl, if_neg hms]; simp
            · have hvs : v ∈ seen := by
                rcases List.mem_append.1 hv with h | h
                · exact h
                · exact absurd (List.mem_singleton.1 h).symm ev
              rw [if_neg ev, if_pos hvs]
              exact hna v hvs
  exact h 0 (by omega) _ [] [] (by simp) rfl (by simp) (fun v => by simp) (fun v hv => by simp at hv) rfl

theorem nm_length (l : List Int) : ∀ s, (nm s l).length = l.length := by
  induction l with
  | nil => intro s; rfl
  | cons x xs ih =>
    intro s
    rw [nm]
    split <;> simp [ih]

theorem law : laws_FnExactNamedPile.Pure := by
  intro l _ _ _
  apply Ev.rounds
  by_cases hl : l.length ≤ 1048576
  · cases hp : okPile l with
    | true =>
      obtain ⟨h16, _, heven, hr, hc⟩ := okPile_range l hp
      refine law_of l hl (nm [] l) true (by rw [nm_length]; exact hl) ?_ ?_
      · unfold spec_NamedPile.f
        refine Ev.bind (ev_piGood l hl) ?_
        rw [hp, show wrap64 ((l.length : Int) / 2) = ((l.length / 2 : Nat) : Int) from by unfold wrap64; omega]
        simp only [if_true, Int.toNat_natCast, show (0 : Int) ≤ ((l.length / 2 : Nat) : Int) from by omega, show l.length / 2 ≤ 35184372088832 from by omega]
        exact ev_named l _ hl hr
      · unfold impl_NamedPile.f
        refine Ev.bind (ev_IsPile l hl) ?_
        rw [hp]
        have hs : Small l := ⟨hl, fun x hx => by have := hr x hx; omega⟩
        simp only [if_true, hs]
        exact Ev.now _
    | false =>
      refine law_of l hl [] false (by simp) ?_ ?_
      · unfold spec_NamedPile.f
        refine Ev.bind (ev_piGood l hl) ?_
        rw [hp]
        simp only [Bool.false_eq_true, if_false]
        exact Ev.now _
      · unfold impl_NamedPile.f
        refine Ev.bind (ev_IsPile l hl) ?_
        rw [hp]
        simp only [Bool.false_eq_true, if_false]
        exact Ev.now _
  · exact law_long l hl

end Go.Proofs.Ytlhennggbnlkpaa.PureNamedPile
namespace Go.Proofs.Ytlhennggbnlkpaa.Pure
theorem FnExactNamedPile : Go.Proofs.Ytlhennggbnlkpaa.QNamedPile.laws_FnExactNamedPile.Pure := Go.Proofs.Ytlhennggbnlkpaa.PureNamedPile.law
end Go.Proofs.Ytlhennggbnlkpaa.Pure
