/- The pure statement of the law FnExactFirstExchanges: for whatever slice of int64 numbers the program's and the reference's FirstExchanges give the same list of exchanges. -/
import Derived.Test.YtagfnpocloaojaaQFirstExchanges
import Derived.Test.YtagfnpocloaojaaPureBase
import Derived.Test.YtagfnpocloaojaaXClone
namespace Go.Proofs.Ytagfnpocloaojaa.PureFirstExchanges
open Go.RowKit Go.Proofs.Ytagfnpocloaojaa.QFirstExchanges Go.Proofs.Ytagfnpocloaojaa.QBase Go.Proofs.Ytagfnpocloaojaa.QSizes Go.Proofs.Ytagfnpocloaojaa.QExch Go.Proofs.Ytagfnpocloaojaa.QMark Go.Proofs.Ytagfnpocloaojaa.XMarkSS Go.Proofs.Ytagfnpocloaojaa.XClone Go.Proofs.Ytagfnpocloaojaa.PureBase Go.Proofs.YtagfnpocloaojaaW.PrintWords Go.Proofs.YtagfnpocloaojaaW.PrintLast Go.Proofs.YtagfnpocloaojaaW.PrintMore Go.Proofs.Ytagfnpocloaojaa
set_option linter.unusedVariables false

/-! ### racks -/
theorem ev_shRack (l : List Int) (hl : l.length ≤ 1048576) : Ev (fun k => spec_shRack.f k l) (okPile l) := by
  have hno : Ev (fun k => spec_shRack.j0 k l true) false := by
    refine Ev.step (f := fun _ => some false) (fun k => ?_) (Ev.now _)
    simp only [spec_shRack.j0, if_true]
  have hw2 : wrap64 ((l.length : Int) / 2) = ((l.length / 2 : Nat) : Int) := by unfold wrap64; omega
  have cnt : ∀ (v : Int) (r : Bool), ((l.count v = 2 → Ev (fun k => spec_shRack.l0 k l (wrap64 (v + 1))) r) → (l.count v ≠ 2 → r = false) → Ev (fun k => spec_shRack.l1 k l v 0 l (l.length : Int) 0) r) := by
    intro v r h1 h2
    have h : ∀ i, i ≤ l.length → ∀ n : Nat, n + (l.drop i).count v = l.count v → n ≤ i → Ev (fun k => spec_shRack.l1 k l v (n : Int) l (l.length : Int) (i : Int)) r := by
      refine downTo l.length ?_ ?_
      · intro n hn _
        rw [List.drop_length, List.count_nil] at hn
        by_cases hc : l.count v = 2
        · refine Ev.step (f := fun k => spec_shRack.l0 k l (wrap64 (v + 1))) (fun k => ?_) (h1 hc)
          simp only [spec_shRack.l1]
          rw [if_neg (by omega), if_pos (by omega)]
        · rw [h2 hc]
          refine Ev.step (f := fun _ => some false) (fun k => ?_) (Ev.now _)
          simp only [spec_shRack.l1]
          rw [if_neg (by omega), if_neg (by omega)]
      · intro i hil ih n hn hni
        rw [drop_cons l i hil, List.count_cons] at hn
        by_cases hx : rd l (i : Int) = v
        · rw [hx, BEq.rfl, if_pos rfl] at hn
          refine Ev.step (f := fun k => spec_shRack.l1 k l v ((n + 1 : Nat) : Int) l (l.length : Int) ((i + 1 : Nat) : Int)) (fun k => ?_) (ih (n + 1) (by omega) (by omega))
          simp only [spec_shRack.l1]
          rw [if_pos (by omega), if_pos (by omega), if_pos (by omega), if_pos hx, wrap_succ i (by omega), wrap_succ n (by omega)]
        · rw [beq_false_of_ne hx, if_neg (by decide)] at hn
          refine Ev.step (f := fun k => spec_shRack.l1 k l v (n : Int) l (l.length : Int) ((i + 1 : Nat) : Int)) (fun k => ?_) (ih n (by omega) (by omega))
          simp only [spec_shRack.l1]
          rw [if_pos (by omega), if_pos (by omega), if_pos (by omega), if_neg hx, wrap_succ i (by omega)]
    exact h 0 (by omega) 0 (by simp) (by omega)
  have outer : ∃ r : Bool, Ev (fun k => spec_shRack.l0 k l ((0 : Nat) : Int)) r ∧ (r = true ↔ ∀ v : Nat, 0 ≤ v → v < l.length / 2 → l.count (v : Int) = 2) := by
    have h : ∀ p, p ≤ l.length / 2 → ∃ r : Bool, Ev (fun k => spec_shRack.l0 k l (p : Int)) r ∧ (r = true ↔ ∀ v : Nat, p ≤ v → v < l.length / 2 → l.count (v : Int) = 2) := by
      refine downTo (l.length / 2) ?_ ?_
      · refine ⟨true, Ev.step (f := fun _ => some true) (fun k => ?_) (Ev.now _), by simp; omega⟩
        simp only [spec_shRack.l0]
        rw [hw2, if_neg (by omega)]
      · intro p hp ⟨r, h1, h2⟩
        refine ⟨r && (l.count (p : Int) == 2), Ev.step (f := fun k => spec_shRack.l1 k l (p : Int) 0 l (l.length : Int) 0) (fun k => ?_) (cnt (p : Int) _ (fun hc => ?_) (fun hc => ?_)), ?_⟩
        · simp only [spec_shRack.l0]
          rw [hw2, if_pos (by omega)]
        · rw [wrap_succ p (by omega), hc]
          simpa using h1
        · rw [beq_false_of_ne hc, Bool.and_false]
        · rw [Bool.and_eq_true, h2, beq_iff_eq]
          constructor
          · rintro ⟨a, b⟩ v hv hv2
            by_cases e : v = p
            · subst e; exact b
            · exact a v (by omega) hv2
          · intro a
            exact ⟨fun v hv hv2 => a v (by omega) hv2, a p (by omega) hp⟩
    exact h 0 (by omega)
  obtain ⟨r, hr1, hr2⟩ := outer
  by_cases h2 : l.length % 2 = 0
  · by_cases hb : 2 ≤ l.length ∧ l.length ≤ 16
    · refine Ev.congr (f := fun k => (spec_l1All.f k l 0 (((l.length / 2 : Nat) : Int) - 1)).bind fun t => spec_shRack.j0 k l (!t)) (fun k => ?_) (Ev.bind (ev_l1All l _ _ (by omega)) ?_)
      · unfold spec_shRack.f
        rw [if_pos (by omega), ev_l1In, hw2, show wrap64 (((l.length / 2 : Nat) : Int) - 1) = ((l.length / 2 : Nat) : Int) - 1 from by unfold wrap64; omega, decide_eq_true (show (2 : Int) ≤ (l.length : Int) by omega), decide_eq_true (show (l.length : Int) ≤ 16 by omega)]
        rfl
      · cases hall : l.all fun x => decide (0 ≤ x) && decide (x ≤ ((l.length / 2 : Nat) : Int) - 1)
        · rw [show okPile l = false from by unfold okPile; rw [hall]; simp]
          exact hno
        · have hrange : ∀ x ∈ l, 0 ≤ x ∧ x ≤ ((l.length / 2 : Nat) : Int) - 1 := by
            intro x hx
            have := List.all_eq_true.1 hall x hx
            simpa using this
          have hok : okPile l = r := by
            rw [Bool.eq_iff_iff, hr2]
            unfold okPile
            rw [hall, decide_eq_true (show l.length ≠ 0 by omega), decide_eq_true h2, decide_eq_true hb.2]
            simp only [Bool.true_and, Bool.and_true, List.all_eq_true, beq_iff_eq]
            constructor
            · intro h v _ hv
              have hs := sum_counts (l.length / 2) l hrange
              refine counts_two (l.length / 2) (fun v => l.count (v : Int)) (fun u _ => ?_) (by omega) v hv
              by_cases hm : (u : Int) ∈ l
              · have := h _ hm; omega
              · have := List.count_eq_zero.2 hm; omega
            · intro h x hx
              have hx2 := hrange x hx
              have := h x.toNat (by omega) (by omega)
              rwa [show ((x.toNat : Nat) : Int) = x from by omega] at this
          rw [hok]
          refine Ev.step (f := fun k => spec_shRack.l0 k l ((0 : Nat) : Int)) (fun k => ?_) hr1
          simp only [spec_shRack.j0, Bool.not_true, Bool.false_eq_true, if_false]
          rfl
    · rw [show okPile l = false from by
        unfold okPile
        by_cases h0 : l.length = 0
        · simp [h0]
        · rw [decide_eq_false (show ¬ l.length ≤ 16 by omega)]; simp]
      refine Ev.congr (f := fun k => spec_shRack.j0 k l true) (fun k => ?_) hno
      unfold spec_shRack.f
      rw [if_pos (by omega), ev_l1In]
      by_cases hc : 2 ≤ l.length
      · rw [decide_eq_true (show (2 : Int) ≤ (l.length : Int) by omega), decide_eq_false (show ¬ (l.length : Int) ≤ 16 by omega)]; rfl
      · rw [decide_eq_false (show ¬ (2 : Int) ≤ (l.length : Int) by omega)]; rfl
  · rw [show okPile l = false from by unfold okPile; rw [decide_eq_false h2]; simp]
    refine Ev.congr (f := fun k => spec_shRack.j0 k l true) (fun k => ?_) hno
    unfold spec_shRack.f
    rw [if_neg (by omega)]
theorem ev_IsRack (l : List Int) (hl : l.length ≤ 1048576) : Ev (fun k => impl_IsRack.f k l) (okPile l) := by
  refine Ev.congr (f := fun k => (impl_isTwice.f k l 8).bind fun t => some t) (fun k => ?_) (Ev.bind (ev_isTwice l hl) (Ev.now _))
  unfold impl_IsRack.f
  rfl

/-! ### marks from any number on -/
theorem ev_markFrom (l : List Int) (m : Nat) (hm : m + l.length ≤ 2000000) : ∃ o : List Int, o.length = l.length ∧ (∀ j, j < o.length → o.getD j 0 = ((m + j : Nat) : Int)) ∧ Ev (fun k => laws_markIntS.f k l (m : Int)) (((m + l.length : Nat) : Int), o) := by
  have h : ∀ i, i ≤ l.length → ∀ o : List Int, o.length = l.length → (∀ j, j < i → o.getD j 0 = ((m + j : Nat) : Int)) → ∃ o' : List Int, o'.length = l.length ∧ (∀ j, j < o'.length → o'.getD j 0 = ((m + j : Nat) : Int)) ∧ Ev (fun k => laws_markIntS.l0 k o ((m + i : Nat) : Int) (i : Int)) (((m + l.length : Nat) : Int), o') := by
    refine downTo l.length ?_ ?_
    · intro o ho hj
      refine ⟨o, ho, fun j h => hj j (by omega), Ev.step (f := fun _ => some (((m + l.length : Nat) : Int), o)) (fun k => ?_) (Ev.now _)⟩
      simp only [laws_markIntS.l0]
      rw [if_neg (by omega)]
    · intro i hil ih o ho hj
      obtain ⟨o', h1, h2, h3⟩ := ih (o.set i ((m + i : Nat) : Int)) (by rw [List.length_set]; exact ho) (fun j hji => by
        rw [List.getD_eq_getElem?_getD, List.getElem?_set]
        by_cases e : i = j
        · subst e
          rw [if_pos rfl, if_pos (by omega)]; rfl
        · rw [if_neg e, ← List.getD_eq_getElem?_getD]
          exact hj j (by omega))
      refine ⟨o', h1, h2, Ev.step (f := fun k => laws_markIntS.l0 k (o.set i ((m + i : Nat) : Int)) ((m + (i + 1) : Nat) : Int) ((i + 1 : Nat) : Int)) (fun k => ?_) h3⟩
      simp only [laws_markIntS.l0, Int.toNat_natCast]
      rw [if_pos (by omega), if_pos (by omega), wrap_succ i (by omega), wrap_succ (m + i) (by omega)]
      rfl
  obtain ⟨o, h1, h2, h3⟩ := h 0 (by omega) l rfl (fun j hj => by omega)
  exact ⟨o, h1, h2, h3⟩
theorem ev_heldFrom (l : List Int) (m : Nat) (hm : m + l.length ≤ 2000000) (hv : ∀ j, j < l.length → l.getD j 0 = ((m + j : Nat) : Int)) : Ev (fun k => laws_heldIntS.f k l (m : Int)) ((m + l.length : Nat) : Int) := by
  have h : ∀ i, i ≤ l.length → Ev (fun k => laws_heldIntS.l0 k l ((m + i : Nat) : Int) (i : Int)) ((m + l.length : Nat) : Int) := by
    refine downTo l.length ?_ ?_
    · refine Ev.step (f := fun _ => some ((m + l.length : Nat) : Int)) (fun k => ?_) (Ev.now _)
      simp only [laws_heldIntS.l0]
      rw [if_neg (by omega)]
    · intro i hil ih
      refine Ev.step (f := fun k => laws_heldIntS.l0 k l ((m + (i + 1) : Nat) : Int) ((i + 1 : Nat) : Int)) (fun k => ?_) ih
      simp only [laws_heldIntS.l0]
      rw [if_pos (by omega), if_pos (by omega), if_pos (by rw [rd_nat]; exact hv i hil), wrap_succ i (by omega), wrap_succ (m + i) (by omega)]
      rfl
  exact h 0 (by omega)

/-! ### rows of two numbers each -/
def Twos (r : List (List Int)) : Prop := ∀ i, i < r.length → (r.getD i []).length = 2
theorem ev_eqSS (r : List (List Int)) (h8 : r.length ≤ 100) (ht : Twos r) : Ev (fun k => laws_eqIntSS.f k r r) true := by
  have h : ∀ i, i ≤ r.length → Ev (fun k => laws_eqIntSS.l0 k r r (i : Int)) true := by
    refine downTo r.length ?_ ?_
    · refine Ev.step (f := fun _ => some true) (fun k => ?_) (Ev.now _)
      simp only [laws_eqIntSS.l0]
      rw [if_neg (by omega)]
    · intro i hi ih
      have hrow : (rd_L1 r (i : Int)).length = 2 := by unfold rd_L1; rw [Int.toNat_natCast]; exact ht i hi
      refine Ev.step (f := fun k => (laws_eqIntS.f k (rd_L1 r (i : Int)) (rd_L1 r (i : Int))).bind fun t => if t = true then laws_eqIntSS.l0 k r r ((i + 1 : Nat) : Int) else some false) (fun k => ?_) (Ev.bind (ev_eqIntS _ (by omega)) ?_)
      · simp only [laws_eqIntSS.l0]
        rw [if_pos (by omega), if_pos (by omega), if_pos (by omega), wrap_succ i (by omega)]
      · simp only [if_true]
        exact ih
  refine Ev.congr (f := fun k => laws_eqIntSS.l0 k r r 0) (fun k => ?_) (h 0 (by omega))
  unfold laws_eqIntSS.f
  rw [if_pos rfl]
/-- The row at place q holds its two marks. -/
def Marked (q : Nat) (o : List Int) : Prop := o.length = 2 ∧ ∀ j, j < o.length → o.getD j 0 = ((2 * q + 1 + j : Nat) : Int)
theorem getD_set (o : List (List Int)) (i q : Nat) (v : List Int) (hi : i < o.length) : (o.set i v).getD q [] = if i = q then v else o.getD q [] := by
  rw [List.getD_eq_getElem?_getD, List.getElem?_set]
  by_cases e : i = q
  · subst e
    rw [if_pos rfl, if_pos hi, if_pos rfl]; rfl
  · rw [if_neg e, if_neg e, ← List.getD_eq_getElem?_getD]
theorem ev_markSS (r : List (List Int)) (h8 : r.length ≤ 100) (ht : Twos r) : ∃ o : List (List Int), o.length = r.length ∧ (∀ q, q < o.length → Marked q (o.getD q [])) ∧ Ev (fun k => laws_markIntSS.f k r 1) (((2 * r.length + 1 : Nat) : Int), o) := by
  have h : ∀ i, i ≤ r.length → ∀ o : List (List Int), o.length = r.length → (∀ q, q < i → Marked q (o.getD q [])) → (∀ q, i ≤ q → q < r.length → (o.getD q []).length = 2) → ∃ o' : List (List Int), o'.length = r.length ∧ (∀ q, q < o'.length → Marked q (o'.getD q [])) ∧ Ev (fun k => laws_markIntSS.l0 k o ((2 * i + 1 : Nat) : Int) (i : Int)) (((2 * r.length + 1 : Nat) : Int), o') := by
    refine downTo r.length ?_ ?_
    · intro o ho hj _
      refine ⟨o, ho, fun j h => hj j (by omega), Ev.step (f := fun _ => some (((2 * r.length + 1 : Nat) : Int), o)) (fun k => ?_) (Ev.now _)⟩
      simp only [laws_markIntSS.l0]
      rw [if_neg (by omega)]
    · intro i hil ih o ho hj h2
      have hrow : (rdL o (i : Int)).length = 2 := by unfold rdL; rw [Int.toNat_natCast]; exact h2 i (by omega) hil
      obtain ⟨y, y1, y2, y3⟩ := ev_markFrom (rdL o (i : Int)) (2 * i + 1) (by omega)
      obtain ⟨o', g1, g2, g3⟩ := ih (o.set i y) (by rw [List.length_set]; exact ho) (fun q hq => by
        rw [getD_set o i q y (by omega)]
        by_cases e : i = q
        · subst e
          rw [if_pos rfl]
          exact ⟨by omega, y2⟩
        · rw [if_neg e]; exact hj q (by omega)) (fun q hq hq2 => by
        rw [getD_set o i q y (by omega), if_neg (by omega)]
        exact h2 q (by omega) hq2)
      refine ⟨o', g1, g2, Ev.step (f := fun k => (laws_markIntS.f k (rdL o (i : Int)) ((2 * i + 1 : Nat) : Int)).bind fun bt => laws_markIntSS.l0 k (o.set i bt.2) bt.1 ((i + 1 : Nat) : Int)) (fun k => ?_) (Ev.bind y3 ?_)⟩
      · simp only [laws_markIntSS.l0, Int.toNat_natCast]
        rw [if_pos (by omega), if_pos (by omega), wrap_succ i (by omega)]
      · rw [hrow]
        exact g3
  obtain ⟨o, h1, h2, h3⟩ := h 0 (by omega) r rfl (fun j hj => by omega) (fun q _ hq => ht q hq)
  exact ⟨o, h1, h2, h3⟩
theorem ev_heldSS (r : List (List Int)) (h8 : r.length ≤ 100) (hm : ∀ q, q < r.length → Marked q (r.getD q [])) : Ev (fun k => laws_heldIntSS.f k r 1) ((2 * r.length + 1 : Nat) : Int) := by
  have h : ∀ i, i ≤ r.length → Ev (fun k => laws_heldIntSS.l0 k r ((2 * i + 1 : Nat) : Int) (i : Int)) ((2 * r.length + 1 : Nat) : Int) := by
    refine downTo r.length ?_ ?_
    · refine Ev.step (f := fun _ => some ((2 * r.length + 1 : Nat) : Int)) (fun k => ?_) (Ev.now _)
      simp only [laws_heldIntSS.l0]
      rw [if_neg (by omega)]
    · intro i hi ih
      have hrow : Marked i (rd_L1 r (i : Int)) := by unfold rd_L1; rw [Int.toNat_natCast]; exact hm i hi
      have hh := ev_heldFrom (rd_L1 r (i : Int)) (2 * i + 1) (by have := hrow.1; omega) hrow.2
      rw [hrow.1] at hh
      refine Ev.step (f := fun k => (laws_heldIntS.f k (rd_L1 r (i : Int)) ((2 * i + 1 : Nat) : Int)).bind fun t => if t < 0 then some (-1) else laws_heldIntSS.l0 k r t ((i + 1 : Nat) : Int)) (fun k => ?_) (Ev.bind hh ?_)
      · simp only [laws_heldIntSS.l0]
        rw [if_pos (by omega), if_pos (by omega), wrap_succ i (by omega)]
      · refine Ev.congr (f := fun k => laws_heldIntSS.l0 k r ((2 * (i + 1) + 1 : Nat) : Int) ((i + 1 : Nat) : Int)) (fun k => ?_) ih
        rw [if_neg (by omega), show (2 * i + 1 + 2 : Nat) = 2 * (i + 1) + 1 from by omega]
  exact h 0 (by omega)

/-! ### the partner -/
theorem scan (x : List Int) (a : Int) : ∀ d s, x.length = s + d → a ∈ x.drop s → ∃ j, s ≤ j ∧ j < x.length ∧ rd x (j : Int) = a ∧ ∀ q, s ≤ q → q < j → rd x (q : Int) ≠ a := by
  intro d
  induction d with
  | zero =>
    intro s hs ha
    rw [List.drop_of_length_le (by omega)] at ha
    cases ha
  | succ d ih =>
    intro s hs ha
    by_cases he : rd x (s : Int) = a
    · exact ⟨s, Nat.le_refl _, by omega, he, fun q h1 h2 => by omega⟩
    · rw [drop_cons x s (by omega)] at ha
      rcases List.mem_cons.1 ha with h | h
      · exact absurd h.symm he
      · obtain ⟨j, j1, j2, j3, j4⟩ := ih (s + 1) (by omega) h
        refine ⟨j, by omega, j2, j3, fun q h1 h2 => ?_⟩
        by_cases e : q = s
        · subst e; exact he
        · exact j4 q (by omega) h2
theorem rd_drop (x : List Int) (s q : Nat) : rd (x.drop s) (q : Int) = rd x ((s + q : Nat) : Int) := by
  rw [rd_nat, rd_nat, List.getD_eq_getElem?_getD, List.getD_eq_getElem?_getD, List.getElem?_drop]
theorem ev_Index (y : List Int) (a : Int) (j : Nat) (hy : y.length ≤ 1000) (hj : j < y.length) (ha : rd y (j : Int) = a) (hb : ∀ q, q < j → rd y (q : Int) ≠ a) : Ev (fun k => slices_Index_int_int.f k y a) (j : Int) := by
  have h : ∀ i, i ≤ j → Ev (fun k => slices_Index_int_int.l0 k y a (y.length : Int) (i : Int)) (j : Int) := by
    refine downTo j ?_ ?_
    · refine Ev.step (f := fun _ => some (j : Int)) (fun k => ?_) (Ev.now _)
      simp only [slices_Index_int_int.l0]
      rw [if_pos (by omega), if_pos (by omega), if_pos (by omega), if_pos ha.symm]
    · intro i hi ih
      refine Ev.step (f := fun k => slices_Index_int_int.l0 k y a (y.length : Int) ((i + 1 : Nat) : Int)) (fun k => ?_) ih
      simp only [slices_Index_int_int.l0]
      rw [if_pos (by omega), if_pos (by omega), if_pos (by omega), if_neg (fun e => hb i hi e.symm), wrap_succ i (by omega)]
  exact h 0 (by omega)
theorem ev_partner (x : List Int) (i j : Nat) (hx : x.length ≤ 1000) (hij : i + 1 ≤ j) (hj : j < x.length) (ha : rd x (j : Int) = rd x (i : Int)) (hb : ∀ q, i + 1 ≤ q → q < j → rd x (q : Int) ≠ rd x (i : Int)) : Ev (fun k => impl_partner.f k x (i : Int)) (j : Int) := by
  refine Ev.congr (f := fun k => (slices_Index_int_int.f k (x.drop (i + 1)) (rd x (i : Int))).bind fun t => some (wrap64 (((i + 1 : Nat) : Int) + t))) (fun k => ?_) (Ev.bind (ev_Index (x.drop (i + 1)) (rd x (i : Int)) (j - (i + 1)) (by rw [List.length_drop]; omega) (by rw [List.length_drop]; omega) (by rw [rd_drop, show i + 1 + (j - (i + 1)) = j from by omega]; exact ha) (fun q hq => by rw [rd_drop]; exact hb _ (by omega) (by omega))) ?_)
  · unfold impl_partner.f
    rw [wrap_succ i (by omega), if_pos (by omega), if_pos (by omega), if_pos (by omega), if_pos (by omega), Int.toNat_natCast]
  · rw [show wrap64 (((i + 1 : Nat) : Int) + ((j - (i + 1) : Nat) : Int)) = (j : Int) from by unfold wrap64; omega]
    exact Ev.now _

/-! ### the exchanges -/
theorem drop_two (l : List Int) (m : Nat) (h : 2 * m + 1 < l.length) : l.drop (2 * m) = rd l ((2 * m : Nat) : Int) :: rd l ((2 * m + 1 : Nat) : Int) :: l.drop (2 * (m + 1)) := by
  rw [drop_cons l (2 * m) (by omega), drop_cons l (2 * m + 1) h]
  rfl
theorem wrap_two (m : Nat) (h : m ≤ 1000) : wrap64 (((2 * m : Nat) : Int) + 2) = ((2 * (m + 1) : Nat) : Int) := by unfold wrap64; omega
def Fair (d : List Int) : Prop := ∀ v ∈ d, d.count v = 2
theorem fair_tail {a : Int} {t : List Int} (h : Fair (a :: a :: t)) : Fair t := by
  intro v hv
  have h1 := h v (List.mem_cons.2 (.inr (List.mem_cons.2 (.inr hv))))
  rw [List.count_cons, List.count_cons] at h1
  by_cases e : a = v
  · subst e
    have := List.count_pos_iff.2 hv
    simp at h1
    omega
  · rw [beq_false_of_ne e] at h1
    simpa using h1
theorem fair_perm {d d' : List Int} (h : Fair d) (p : d'.Perm d) : Fair d' := fun v hv => by rw [p.count_eq]; exact h v (p.mem_iff.1 hv)
def swp (x : List Int) (i j : Nat) : List Int := (x.set i (rd x (j : Int))).set j (rd x (i : Int))
theorem swp_length (x : List Int) (i j : Nat) : (swp x i j).length = x.length := by unfold swp; simp
theorem swap_perm (x : List Int) (i j : Nat) (hi : i < x.length) (hj : j < x.length) : (swp x i j).Perm x := by
  unfold swp
  rw [rd_get x i hi, rd_get x j hj]
  exact List.set_set_perm hi hj
theorem swp_drop (x : List Int) (s i j : Nat) (hi : s ≤ i) (hj : s ≤ j) : (swp x i j).drop s = swp (x.drop s) (i - s) (j - s) := by
  unfold swp
  rw [List.drop_set, if_neg (by omega), List.drop_set, if_neg (by omega), rd_drop, rd_drop, show s + (j - s) = j from by omega, show s + (i - s) = i from by omega]
theorem rd_swp (x : List Int) (i j m : Nat) (hi : i < x.length) (hj : j < x.length) : rd (swp x i j) (m : Int) = if j = m then rd x (i : Int) else if i = m then rd x (j : Int) else rd x (m : Int) := by
  unfold swp
  have e1 := rd_set (x.set i (rd x (j : Int))) (j : Int) (m : Int) (rd x (i : Int)) (by omega) (by rw [List.length_set]; omega) (by omega)
  have e2 := rd_set x (i : Int) (m : Int) (rd x (j : Int)) (by omega) (by omega) (by omega)
  rw [Int.toNat_natCast] at e1 e2
  rw [e1, e2]
  by_cases h : j = m
  · rw [if_pos (by omega), if_pos h]
  · rw [if_neg (by omega), if_neg h]
    by_cases h2 : i = m
    · rw [if_pos (by omega), if_pos h2]
    · rw [if_neg (by omega), if_neg h2]
theorem exch_eq (x : List Int) (i j : Nat) (hx : x.length ≤ 1000) (hi : i < x.length) (hj : j < x.length) : spec_shExchange.f x (i : Int) (j : Int) = some (swp x i j) := by
  unfold spec_shExchange.f spec_l1Own.f
  simp only [Option.bind_some, List.length_nil, Nat.zero_add, List.nil_append]
  rw [if_pos (by omega)]
  simp only [Option.bind_some, Int.toNat_natCast]
  rw [if_pos (by omega), if_pos (by omega), if_pos (by omega), if_pos (by omega), if_pos (by omega), if_pos (by omega)]
  rfl
theorem twos_snoc (r : List (List Int)) (a b : Int) (h : Twos r) : Twos (r ++ [[a, b]]) := by
  intro i hi
  rw [List.length_append, List.length_singleton] at hi
  rw [List.getD_eq_getElem?_getD]
  by_cases e : i < r.length
  · rw [List.getElem?_append_left e, ← List.getD_eq_getElem?_getD]
    exact h i e
  · rw [List.getElem?_append_right (by omega), show i - r.length = 0 from by omega]
    rfl
theorem ev_all (n : Nat) (hn : n ≤ 8) : ∀ m, m ≤ n → ∀ (x : List Int) (acc : List (List Int)), x.length = 2 * n → Fair (x.drop (2 * m)) → acc.length ≤ m → Twos acc → ∃ r : List (List Int), r.length ≤ n ∧ Twos r ∧ Ev (fun k => impl_FirstExchanges.l0 k x acc ((2 * m : Nat) : Int)) (r, true) ∧ Ev (fun k => spec_shAll.l0 k x acc ((2 * m : Nat) : Int)) r := by
  refine downTo n ?_ ?_
  · intro x acc hx _ ha ht
    refine ⟨acc, ha, ht, Ev.step (f := fun _ => some (acc, true)) (fun k => ?_) (Ev.now _), Ev.step (f := fun _ => some acc) (fun k => ?_) (Ev.now _)⟩
    · simp only [impl_FirstExchanges.l0]
      rw [if_neg (by omega)]
    · simp only [spec_shAll.l0]
      rw [if_neg (by omega)]
  · intro m hm ih x acc hx hf ha ht
    have hw1 : wrap64 (((2 * m : Nat) : Int) + 1) = ((2 * m + 1 : Nat) : Int) := by unfold wrap64; omega
    by_cases he : rd x ((2 * m : Nat) : Int) = rd x ((2 * m + 1 : Nat) : Int)
    · obtain ⟨r, r1, r2, r3, r4⟩ := ih x acc hx (by
        have h := hf
        rw [drop_two x m (by omega), ← he] at h
        exact fair_tail h) (by omega) ht
      refine ⟨r, r1, r2, Ev.step (f := fun k => (impl_partner.f k x ((2 * m : Nat) : Int)).bind fun t => if t > ((2 * m + 1 : Nat) : Int) then (if 0 ≤ t then (if t < (x.length : Int) then (if 0 ≤ ((2 * m + 1 : Nat) : Int) then (if ((2 * m + 1 : Nat) : Int) < (x.length : Int) then (if acc.length < 5864062014805 then impl_FirstExchanges.l0 k ((x.set (((2 * m + 1 : Nat) : Int)).toNat (rd x t)).set t.toNat (rd x ((2 * m + 1 : Nat) : Int))) (acc ++ [[((2 * m + 1 : Nat) : Int), t]]) ((2 * (m + 1) : Nat) : Int) else none) else none) else none) else none) else none) else impl_FirstExchanges.l0 k x acc ((2 * (m + 1) : Nat) : Int)) (fun k => ?_) (Ev.bind (ev_partner x (2 * m) (2 * m + 1) (by omega) (by omega) (by omega) he.symm (fun q h1 h2 => by omega)) ?_), Ev.step (f := fun k => spec_shAll.l0 k x acc ((2 * (m + 1) : Nat) : Int)) (fun k => ?_) r4⟩
      · simp only [impl_FirstExchanges.l0]
        rw [if_pos (by omega), hw1, wrap_two m (by omega)]
      · refine Ev.congr (f := fun k => impl_FirstExchanges.l0 k x acc ((2 * (m + 1) : Nat) : Int)) (fun k => ?_) r3
        rw [if_neg (by omega)]
      · simp only [spec_shAll.l0]
        rw [if_pos (by omega), if_pos (by omega), hw1, if_pos (by omega), if_pos (by omega), if_pos he, wrap_two m (by omega)]
    · have hmem : rd x ((2 * m : Nat) : Int) ∈ x.drop (2 * m + 2) := by
        have h := hf (rd x ((2 * m : Nat) : Int)) (by rw [drop_two x m (by omega)]; exact List.mem_cons_self)
        rw [drop_two x m (by omega), List.count_cons, List.count_cons, beq_false_of_ne (fun e => he e.symm), BEq.rfl] at h
        refine List.count_pos_iff.1 ?_
        simp only [Bool.false_eq_true, if_false, if_true] at h
        rw [show 2 * m + 2 = 2 * (m + 1) from by omega]
        omega
      obtain ⟨j, j1, j2, j3, j4⟩ := scan x _ (x.length - (2 * m + 2)) (2 * m + 2) (by omega) hmem
      obtain ⟨r, r1, r2, r3, r4⟩ := ih (swp x (2 * m + 1) j) (acc ++ [[((2 * m + 1 : Nat) : Int), (j : Int)]]) (by rw [swp_length]; exact hx) (by
        have hp : ((swp x (2 * m + 1) j).drop (2 * m)).Perm (x.drop (2 * m)) := by
          rw [swp_drop x (2 * m) (2 * m + 1) j (by omega) (by omega)]
          exact swap_perm _ _ _ (by rw [List.length_drop]; omega) (by rw [List.length_drop]; omega)
        have h := fair_perm hf hp
        rw [drop_two _ m (by rw [swp_length]; omega), rd_swp x (2 * m + 1) j (2 * m) (by omega) j2, rd_swp x (2 * m + 1) j (2 * m + 1) (by omega) j2, if_neg (by omega), if_neg (by omega), if_neg (by omega), if_pos rfl, j3] at h
        exact fair_tail h) (by simp; omega) (twos_snoc acc _ _ ht)
      refine ⟨r, r1, r2, Ev.step (f := fun k => (impl_partner.f k x ((2 * m : Nat) : Int)).bind fun t => if t > ((2 * m + 1 : Nat) : Int) then (if 0 ≤ t then (if t < (x.length : Int) then (if 0 ≤ ((2 * m + 1 : Nat) : Int) then (if ((2 * m + 1 : Nat) : Int) < (x.length : Int) then (if acc.length < 5864062014805 then impl_FirstExchanges.l0 k ((x.set (((2 * m + 1 : Nat) : Int)).toNat (rd x t)).set t.toNat (rd x ((2 * m + 1 : Nat) : Int))) (acc ++ [[((2 * m + 1 : Nat) : Int), t]]) ((2 * (m + 1) : Nat) : Int) else none) else none) else none) else none) else none) else impl_FirstExchanges.l0 k x acc ((2 * (m + 1) : Nat) : Int)) (fun k => ?_) (Ev.bind (ev_partner x (2 * m) j (by omega) (by omega) j2 j3 (fun q h1 h2 => ?_)) ?_), ?_⟩
      · simp only [impl_FirstExchanges.l0]
        rw [if_pos (by omega), hw1, wrap_two m (by omega)]
      · by_cases e : q = 2 * m + 1
        · subst e; exact fun h => he h.symm
        · exact j4 q (by omega) h2
      · refine Ev.congr (f := fun k => impl_FirstExchanges.l0 k (swp x (2 * m + 1) j) (acc ++ [[((2 * m + 1 : Nat) : Int), (j : Int)]]) ((2 * (m + 1) : Nat) : Int)) (fun k => ?_) r3
        rw [if_pos (by omega), if_pos (by omega), if_pos (by omega), if_pos (by omega), if_pos (by omega), if_pos (by omega)]
        rfl
      · have hl : ∀ q, q ≤ j → 2 * m + 2 ≤ q → Ev (fun k => spec_shAll.l1 k x acc ((2 * m : Nat) : Int) (q : Int)) r := by
          refine downTo j ?_ ?_
          · intro _
            refine Ev.step (f := fun k => spec_shAll.l0 k (swp x (2 * m + 1) j) (acc ++ [[((2 * m + 1 : Nat) : Int), (j : Int)]]) ((2 * (m + 1) : Nat) : Int)) (fun k => ?_) r4
            simp only [spec_shAll.l1]
            rw [if_pos (by omega), if_pos (by omega), if_pos (by omega), if_pos (by omega), if_pos j3, if_pos (by omega), hw1, exch_eq x (2 * m + 1) j (by omega) (by omega) j2, wrap_two m (by omega)]
            rfl
          · intro q hq ihq hq2
            refine Ev.step (f := fun k => spec_shAll.l1 k x acc ((2 * m : Nat) : Int) ((q + 1 : Nat) : Int)) (fun k => ?_) (ihq (by omega))
            simp only [spec_shAll.l1]
            rw [if_pos (by omega), if_pos (by omega), if_pos (by omega), if_pos (by omega), if_neg (j4 q hq2 hq), wrap_succ q (by omega)]
        refine Ev.step (f := fun k => spec_shAll.l1 k x acc ((2 * m : Nat) : Int) ((2 * m + 2 : Nat) : Int)) (fun k => ?_) (hl (2 * m + 2) j1 (Nat.le_refl _))
        simp only [spec_shAll.l0]
        rw [if_pos (by omega), if_pos (by omega), hw1, if_pos (by omega), if_pos (by omega), if_neg he, wrap_two m (by omega), show 2 * m + 2 = 2 * (m + 1) from by omega]

theorem law : laws_FnExactFirstExchanges.Pure := by
  intro l hl _
  have main : ∃ (r : List (List Int)) (ok : Bool), r.length ≤ 100 ∧ Twos r ∧ Ev (fun k => spec_FirstExchanges.f k l) (r, ok) ∧ Ev (fun k => impl_FirstExchanges.f k l) (r, ok) := by
    cases hp : okPile l with
    | true =>
      have hp' := hp
      unfold okPile at hp'
      simp only [Bool.and_eq_true, decide_eq_true_eq, List.all_eq_true] at hp'
      obtain ⟨⟨⟨⟨_, h2⟩, h16⟩, hr⟩, hc⟩ := hp'
      obtain ⟨r, r1, r2, r3, r4⟩ := ev_all (l.length / 2) (by omega) 0 (by omega) l [] (by omega) (fun v hv => by rw [Nat.mul_zero, List.drop_zero] at hv ⊢; simpa using hc v hv) (by simp) (fun i hi => by cases hi)
      refine ⟨r, true, by omega, r2, ?_, ?_⟩
      · refine Ev.congr (fun k => rfl) (Ev.bind (ev_shRack l hl) ?_)
        rw [hp]
        simp only [if_true]
        refine Ev.bind (Ev.congr (fun k => rfl) r4) (Ev.now _)
      · refine Ev.congr (fun k => rfl) (Ev.bind (ev_IsRack l hl) ?_)
        rw [hp]
        simp only [if_true]
        refine Ev.congr (f := fun k => impl_FirstExchanges.l0 k l [] 0) (fun k => ?_) r3
        unfold slices_Clone_int_int.f
        rw [if_pos (by omega)]
        rfl
    | false =>
      refine ⟨[], false, by simp, (fun i hi => by cases hi), ?_, ?_⟩
      · refine Ev.congr (fun k => rfl) (Ev.bind (ev_shRack l hl) ?_)
        rw [hp]
        simp only [Bool.false_eq_true, if_false]
        exact Ev.now _
      · refine Ev.congr (fun k => rfl) (Ev.bind (ev_IsRack l hl) ?_)
        rw [hp]
        simp only [Bool.false_eq_true, if_false]
        exact Ev.now _
  obtain ⟨r, ok, r1, r2, e2, e3⟩ := main
  obtain ⟨o, o1, o2, o3⟩ := ev_markFrom l 1 (by omega)
  obtain ⟨s, s1, s2, s3⟩ := ev_markSS r r1 r2
  have e9 := ev_heldSS s (by omega) s2
  rw [s1] at e9
  obtain ⟨K1, E1⟩ := ev_toIntS l hl
  obtain ⟨K2, E2⟩ := e2
  obtain ⟨K3, E3⟩ := e3
  obtain ⟨K4, E4⟩ := ev_eqSS r r1 r2
  obtain ⟨K5, E5⟩ := ev_eqIntS l hl
  obtain ⟨K6, E6⟩ := o3
  obtain ⟨K8, E8⟩ := s3
  obtain ⟨K9, E9⟩ := e9
  refine ⟨K1 + K2 + K3 + K4 + K5 + K6 + K8 + K9, r, ok, _, o, _, s, E1 _ (by omega), E2 _ (by omega), E3 _ (by omega), E4 _ (by omega), E5 _ (by omega), E6 _ (by omega), by omega, E8 _ (by omega), E9 _ (by omega), by omega⟩

end Go.Proofs.Ytagfnpocloaojaa.PureFirstExchanges
namespace Go.Proofs.Ytagfnpocloaojaa.Pure
theorem FnExactFirstExchanges : Go.Proofs.Ytagfnpocloaojaa.QFirstExchanges.laws_FnExactFirstExchanges.Pure := Go.Proofs.Ytagfnpocloaojaa.PureFirstExchanges.law
end Go.Proofs.Ytagfnpocloaojaa.Pure
