/- The pure statement of the law FnExactTogetherOnRack: for whatever slice of int64 numbers the program's and the reference's TogetherOnRack return alike, the argument reads as before, and no memory is shared. -/
import Derived.Test.YtagfnpocloaojaaQTogetherOnRackx4
import Derived.Test.YtagfnpocloaojaaPureBase
import Derived.Test.YtagfnpocloaojaaXLen
namespace Go.Proofs.Ytagfnpocloaojaa.PureTogetherOnRack
open Go.RowKit Go.Proofs.Ytagfnpocloaojaa.QTogetherOnRack Go.Proofs.Ytagfnpocloaojaa.QBase Go.Proofs.Ytagfnpocloaojaa.QSizes Go.Proofs.Ytagfnpocloaojaa.PureBase Go.Proofs.YtagfnpocloaojaaW.PrintWords Go.Proofs.YtagfnpocloaojaaW.PrintLast Go.Proofs.YtagfnpocloaojaaW.PrintMore Go.Proofs.Ytagfnpocloaojaa

/-! ### the law's own marks, and the law -/
theorem ev_markIntS (l : List Int) (hl : l.length ≤ 1048576) : ∃ o : List Int, o.length = l.length ∧ (∀ j, j < o.length → o.getD j 0 = (j : Int) + 1) ∧ Ev (fun k => QTogetherOnRack.laws_markIntS.f k l 1) ((l.length : Int) + 1, o) := by
  have h : ∀ i, i ≤ l.length → ∀ o : List Int, o.length = l.length → (∀ j, j < i → o.getD j 0 = (j : Int) + 1) → ∃ o' : List Int, o'.length = l.length ∧ (∀ j, j < o'.length → o'.getD j 0 = (j : Int) + 1) ∧ Ev (fun k => QTogetherOnRack.laws_markIntS.l0 k o ((i : Int) + 1) (i : Int)) ((l.length : Int) + 1, o') := by
    refine downTo l.length ?_ ?_
    · intro o ho hj
      refine ⟨o, ho, fun j h => hj j (by omega), Ev.step (f := fun _ => some ((l.length : Int) + 1, o)) (fun k => ?_) (Ev.now _)⟩
      simp only [QTogetherOnRack.laws_markIntS.l0]
      rw [if_neg (by omega)]
    · intro i hil ih o ho hj
      obtain ⟨o', h1, h2, h3⟩ := ih (o.set i ((i : Int) + 1)) (by rw [List.length_set]; exact ho) (fun j hji => by
        rw [List.getD_eq_getElem?_getD, List.getElem?_set]
        by_cases e : i = j
        · subst e
          rw [if_pos rfl, if_pos (by omega)]; rfl
        · rw [if_neg e, ← List.getD_eq_getElem?_getD]
          exact hj j (by omega))
      refine ⟨o', h1, h2, Ev.step (f := fun k => QTogetherOnRack.laws_markIntS.l0 k (o.set i ((i : Int) + 1)) (((i + 1 : Nat) : Int) + 1) ((i + 1 : Nat) : Int)) (fun k => ?_) h3⟩
      simp only [QTogetherOnRack.laws_markIntS.l0, Int.toNat_natCast]
      rw [if_pos (by omega), if_pos (by omega), wrap_succ i (by omega), show wrap64 ((i : Int) + 1 + 1) = ((i + 1 : Nat) : Int) + 1 from by unfold wrap64; omega]
  obtain ⟨o, h1, h2, h3⟩ := h 0 (by omega) l rfl (fun j hj => by omega)
  exact ⟨o, h1, h2, h3⟩

theorem law_of (l : List Int) (hl : l.length ≤ 1048576) (res : List Int) (ok : Bool) (hres : res.length ≤ 1048576) (hs : Ev (fun k => spec_TogetherOnRack.f k l) (res, ok)) (hi : Ev (fun k => impl_TogetherOnRack.f k l) (res, ok)) : Ev (fun k => laws_FnExactTogetherOnRack.f k l) true := by
  obtain ⟨o, ho1, ho2, ho3⟩ := ev_markIntS l hl
  obtain ⟨o2, hq1, hq2, hq3⟩ := ev_markIntS res hres
  have hh := ev_heldIntS o2 (by omega) hq2
  rw [hq1] at hh
  have h2 : Ev (fun k => laws_FnExactTogetherOnRack.j2 k o2 ((res.length : Int) + 1) false) true := by
    refine Ev.step (f := fun k => (laws_heldIntS.f k o2 1).bind fun t => if t < 0 then some false else if t = (res.length : Int) + 1 then some true else some false) (fun k => ?_) (Ev.bind hh ?_)
    · simp only [laws_FnExactTogetherOnRack.j2, Bool.false_eq_true, if_false]
    · refine Ev.congr (f := fun _ => some true) (fun k => ?_) (Ev.now _)
      rw [if_neg (by omega), if_pos rfl]
  have h1 : Ev (fun k => laws_FnExactTogetherOnRack.j1 k l res ok res false) true := by
    refine Ev.step (f := fun k => (QTogetherOnRack.laws_markIntS.f k res 1).bind fun bt => (laws_heldIntS.f k bt.2 1).bind fun t => if t < 0 then some false else if t = bt.1 then (laws_toIntS.f k l).bind fun t2 => (impl_TogetherOnRack.f k t2).bind fun b2 => (laws_eqIntS.f k b2.1 res).bind fun t3 => if t3 = true then laws_FnExactTogetherOnRack.j2 k bt.2 bt.1 (b2.2 != ok) else laws_FnExactTogetherOnRack.j2 k bt.2 bt.1 true else some false) (fun k => ?_) (Ev.bind hq3 (Ev.bind hh ?_))
    · simp only [laws_FnExactTogetherOnRack.j1, Bool.false_eq_true, if_false]
    · refine Ev.congr (f := fun k => (laws_toIntS.f k l).bind fun t2 => (impl_TogetherOnRack.f k t2).bind fun b2 => (laws_eqIntS.f k b2.1 res).bind fun t3 => if t3 = true then laws_FnExactTogetherOnRack.j2 k o2 ((res.length : Int) + 1) (b2.2 != ok) else laws_FnExactTogetherOnRack.j2 k o2 ((res.length : Int) + 1) true) (fun k => ?_) ?_
      · rw [if_neg (by omega), if_pos rfl]
      · refine Ev.bind (ev_toIntS l hl) (Ev.bind hi (Ev.bind (ev_eqIntS res hres) ?_))
        simp only [if_true, bne_self_eq_false]
        exact h2
  have h0 : Ev (fun k => laws_FnExactTogetherOnRack.j0 k l res ok l res ok false) true := by
    refine Ev.step (f := fun k => (laws_toIntS.f k l).bind fun t => (laws_eqIntS.f k l t).bind fun t2 => if t2 = true then (QTogetherOnRack.laws_markIntS.f k l 1).bind fun bt => if bt.1 < 0 then laws_FnExactTogetherOnRack.j1 k l res ok res true else (laws_eqIntS.f k res res).bind fun t3 => if t3 = true then laws_FnExactTogetherOnRack.j1 k l res ok res (ok != ok) else laws_FnExactTogetherOnRack.j1 k l res ok res true else some false) (fun k => ?_) (Ev.bind (ev_toIntS l hl) (Ev.bind (ev_eqIntS l hl) ?_))
    · simp only [laws_FnExactTogetherOnRack.j0, Bool.false_eq_true, if_false]
    · simp only [if_true]
      refine Ev.bind ho3 ?_
      refine Ev.congr (f := fun k => (laws_eqIntS.f k res res).bind fun t3 => if t3 = true then laws_FnExactTogetherOnRack.j1 k l res ok res (ok != ok) else laws_FnExactTogetherOnRack.j1 k l res ok res true) (fun k => ?_) (Ev.bind (ev_eqIntS res hres) ?_)
      · rw [if_neg (by omega)]
      · simp only [if_true, bne_self_eq_false]
        exact h1
  refine Ev.congr (f := fun k => (laws_toIntS.f k l).bind fun t => (spec_TogetherOnRack.f k t).bind fun b => (laws_toIntS.f k l).bind fun t2 => (impl_TogetherOnRack.f k t2).bind fun b2 => (laws_eqIntS.f k b2.1 b.1).bind fun t3 => if t3 = true then laws_FnExactTogetherOnRack.j0 k l b.1 b.2 t2 b2.1 b2.2 (b2.2 != b.2) else laws_FnExactTogetherOnRack.j0 k l b.1 b.2 t2 b2.1 b2.2 true) (fun k => ?_) ?_
  · unfold laws_FnExactTogetherOnRack.f
    rw [if_neg (by omega)]
  · refine Ev.bind (ev_toIntS l hl) (Ev.bind hs (Ev.bind (ev_toIntS l hl) (Ev.bind hi (Ev.bind (ev_eqIntS res hres) ?_))))
    simp only [if_true, bne_self_eq_false]
    exact h0

theorem law_long (l : List Int) (hl : ¬ l.length ≤ 1048576) : Ev (fun k => laws_FnExactTogetherOnRack.f k l) true := by
  refine Ev.congr (f := fun k => some true) (fun k => ?_) (Ev.now _)
  unfold laws_FnExactTogetherOnRack.f
  rw [if_pos (by omega)]

/-! ### slices.Sort of at most twelve numbers -/
theorem less_eq (a b : Int) : cmp_Less_int.f a b = some (decide (a < b)) := by
  unfold cmp_Less_int.f cmp_isNaN_int.f
  simp
def Upto (x : List Int) (i : Nat) : Prop := ∀ p q : Nat, p < q → q < i → rd x (p : Int) ≤ rd x (q : Int)
def Mid (x : List Int) (i j : Nat) : Prop := (∀ p q : Nat, p < q → q ≤ i → p ≠ j → q ≠ j → rd x (p : Int) ≤ rd x (q : Int)) ∧ ∀ q : Nat, j < q → q ≤ i → rd x (j : Int) ≤ rd x (q : Int)
theorem swap_perm (x : List Int) (i j : Nat) (hi : i < x.length) (hj : j < x.length) : ((x.set i (rd x (j : Int))).set j (rd x (i : Int))).Perm x := by
  rw [rd_get x i hi, rd_get x j hj]
  exact List.set_set_perm hi hj
theorem rd_swap (x : List Int) (i j m : Nat) (hi : i < x.length) (hj : j < x.length) : rd ((x.set i (rd x (j : Int))).set j (rd x (i : Int))) (m : Int) = if j = m then rd x (i : Int) else if i = m then rd x (j : Int) else rd x (m : Int) := by
  have e1 := rd_set (x.set i (rd x (j : Int))) (j : Int) (m : Int) (rd x (i : Int)) (by omega) (by rw [List.length_set]; omega) (by omega)
  have e2 := rd_set x (i : Int) (m : Int) (rd x (j : Int)) (by omega) (by omega) (by omega)
  rw [Int.toNat_natCast] at e1 e2
  rw [e1, e2]
  by_cases h : j = m
  · rw [if_pos (by omega), if_pos h]
  · rw [if_neg (by omega), if_neg h]
    by_cases h2 : i = m
    · rw [if_pos (by omega), if_pos h2]
    · rw [if_neg (by omega), if_neg h2]
theorem mid_swap (x : List Int) (i j : Nat) (hi : i < x.length) (hj : j + 1 ≤ i) (h : Mid x i (j + 1)) (hlt : rd x ((j + 1 : Nat) : Int) < rd x (j : Int)) : Mid ((x.set (j + 1) (rd x (j : Int))).set j (rd x ((j + 1 : Nat) : Int))) i j := by
  have e := fun m => rd_swap x (j + 1) j m (by omega) (by omega)
  obtain ⟨h1, h2⟩ := h
  refine ⟨fun p q hpq hq hp hq' => ?_, fun q hq hq' => ?_⟩
  · rw [e p, e q, if_neg (show ¬ j = p from fun e => hp e.symm), if_neg (show ¬ j = q from fun e => hq' e.symm)]
    by_cases a : j + 1 = p
    · rw [if_pos a, if_neg (show ¬ j + 1 = q by omega)]
      exact h1 j q (by omega) hq (by omega) (by omega)
    · rw [if_neg a]
      by_cases b : j + 1 = q
      · rw [if_pos b]
        exact h1 p j (by omega) (by omega) (by omega) (by omega)
      · rw [if_neg b]
        exact h1 p q hpq hq (by omega) (by omega)
  · rw [e j, e q, if_pos rfl, if_neg (show ¬ j = q by omega)]
    by_cases b : j + 1 = q
    · rw [if_pos b]; omega
    · rw [if_neg b]
      exact h2 q (by omega) hq'
theorem ev_ins (l : List Int) (hn : l.length ≤ 12) : ∀ i, i ≤ l.length → ∀ x : List Int, x.length = l.length → x.Perm l → Upto x i → ∃ y : List Int, y.Perm l ∧ Upto y y.length ∧ Ev (fun k => slices_insertionSortOrdered_int.l0 k x 0 (l.length : Int) (i : Int)) y := by
  refine downTo l.length ?_ ?_
  · intro x hx hp hu
    refine ⟨x, hp, by rw [hx]; exact hu, Ev.step (f := fun _ => some x) (fun k => ?_) (Ev.now x)⟩
    simp only [slices_insertionSortOrdered_int.l0]
    rw [if_neg (by omega)]
  · intro i hil ih x hx hp hu
    have inner : ∀ j, j ≤ i → ∀ x : List Int, x.length = l.length → x.Perm l → Mid x i j → ∃ y : List Int, y.Perm l ∧ Upto y y.length ∧ Ev (fun k => slices_insertionSortOrdered_int.l1 k x 0 (l.length : Int) (i : Int) (j : Int)) y := by
      intro j
      induction j with
      | zero =>
        intro _ x hx hp hm
        obtain ⟨y, h1, h2, h3⟩ := ih x hx hp (fun p q hpq hq => by
          by_cases hp0 : p = 0
          · subst hp0; exact hm.2 q hpq (by omega)
          · exact hm.1 p q hpq (by omega) hp0 (by omega))
        refine ⟨y, h1, h2, Ev.step (f := fun k => slices_insertionSortOrdered_int.l0 k x 0 (l.length : Int) ((i + 1 : Nat) : Int)) (fun k => ?_) h3⟩
        simp only [slices_insertionSortOrdered_int.l1]
        rw [if_neg (by omega), wrap_succ i (by omega)]
      | succ j ihj =>
        intro hj x hx hp hm
        have hw : wrap64 (((j + 1 : Nat) : Int) - 1) = (j : Int) := by unfold wrap64; omega
        by_cases hlt : rd x ((j + 1 : Nat) : Int) < rd x (j : Int)
        · obtain ⟨y, h1, h2, h3⟩ := ihj (by omega) ((x.set (j + 1) (rd x (j : Int))).set j (rd x ((j + 1 : Nat) : Int))) (by simp [hx]) ((swap_perm x (j + 1) j (by omega) (by omega)).trans hp) (mid_swap x i j (by omega) hj hm hlt)
          refine ⟨y, h1, h2, Ev.step (f := fun k => slices_insertionSortOrdered_int.l1 k ((x.set (j + 1) (rd x (j : Int))).set j (rd x ((j + 1 : Nat) : Int))) 0 (l.length : Int) (i : Int) (j : Int)) (fun k => ?_) h3⟩
          simp only [slices_insertionSortOrdered_int.l1, hw, Int.toNat_natCast]
          rw [if_pos (by omega), if_pos (by omega), if_pos (by omega), if_pos (by omega), if_pos (by omega), less_eq, decide_eq_true hlt, Option.bind_some, if_pos rfl]
        · obtain ⟨y, h1, h2, h3⟩ := ih x hx hp (fun p q hpq hq => by
            by_cases hpj : p = j + 1
            · subst hpj; exact hm.2 q hpq (by omega)
            · by_cases hqj : q = j + 1
              · subst hqj
                by_cases hpj2 : p = j
                · subst hpj2; omega
                · have := hm.1 p j (by omega) (by omega) hpj (by omega)
                  omega
              · exact hm.1 p q hpq (by omega) hpj hqj)
          refine ⟨y, h1, h2, Ev.step (f := fun k => slices_insertionSortOrdered_int.l0 k x 0 (l.length : Int) ((i + 1 : Nat) : Int)) (fun k => ?_) h3⟩
          simp only [slices_insertionSortOrdered_int.l1, hw]
          rw [if_pos (by omega), if_pos (by omega), if_pos (by omega), if_pos (by omega), if_pos (by omega), less_eq, decide_eq_false hlt, Option.bind_some, if_neg (by decide), wrap_succ i (by omega)]
    obtain ⟨y, h1, h2, h3⟩ := inner i (Nat.le_refl _) x hx hp ⟨fun p q hpq hq hpi hqi => hu p q hpq (by omega), fun q h1 h2 => by omega⟩
    refine ⟨y, h1, h2, Ev.step (f := fun k => slices_insertionSortOrdered_int.l1 k x 0 (l.length : Int) (i : Int) (i : Int)) (fun k => ?_) h3⟩
    simp only [slices_insertionSortOrdered_int.l0]
    rw [if_pos (by omega)]
theorem ev_Sort (l : List Int) (hn : l.length ≤ 12) : ∃ y : List Int, y.Perm l ∧ y.Pairwise (· ≤ ·) ∧ Ev (fun k => slices_Sort_int_int.f k l) y := by
  have h0 : ∃ y : List Int, y.Perm l ∧ Upto y y.length ∧ Ev (fun k => slices_insertionSortOrdered_int.f k l 0 (l.length : Int)) y := by
    have e1 : ∀ k, slices_insertionSortOrdered_int.f k l 0 (l.length : Int) = slices_insertionSortOrdered_int.l0 k l 0 (l.length : Int) ((1 : Nat) : Int) := fun k => by unfold slices_insertionSortOrdered_int.f; rw [show wrap64 (0 + 1) = ((1 : Nat) : Int) from by unfold wrap64; omega]
    by_cases hz : l.length = 0
    · refine ⟨l, List.Perm.refl _, fun p q h1 h2 => by omega, Ev.step (f := fun _ => some l) (fun k => ?_) (Ev.now l)⟩
      rw [e1]
      simp only [slices_insertionSortOrdered_int.l0]
      rw [if_neg (by omega)]
    · obtain ⟨y, h1, h2, h3⟩ := ev_ins l hn 1 (by omega) l rfl (List.Perm.refl _) (fun p q h1 h2 => by omega)
      exact ⟨y, h1, h2, Ev.congr e1 h3⟩
  obtain ⟨y, h1, h2, h3⟩ := h0
  refine ⟨y, h1, ?_, ?_⟩
  · rw [List.pairwise_iff_getElem]
    intro i j hi hj hij
    have e := h2 i j hij hj
    rw [rd_get y i hi, rd_get y j hj] at e
    exact e
  · have hw : IntKind.u64.wrap (l.length : Int) = (l.length : Int) := by simp only [IntKind.wrap, IntKind.bits, IntKind.signed]; simp; omega
    refine Ev.congr (f := fun k => (slices_pdqsortOrdered_int.f k l 0 (l.length : Int) ((Lib.bitLen (l.length : Int).toNat : Nat) : Int)).bind fun t => some t) (fun k => ?_) (Ev.bind ?_ (Ev.now y))
    · unfold slices_Sort_int_int.f
      rw [hw, XLen.bits_Len.f, if_pos (by omega)]
      rfl
    · refine Ev.step (f := fun k => slices_pdqsortOrdered_int.l0 k l 0 (l.length : Int) ((Lib.bitLen (l.length : Int).toNat : Nat) : Int) true) (fun k => rfl) (Ev.step (f := fun k => (slices_insertionSortOrdered_int.f k l 0 (l.length : Int)).bind fun t => some t) (fun k => ?_) (Ev.bind h3 (Ev.now y)))
      simp only [slices_pdqsortOrdered_int.l0]
      rw [if_pos (by unfold wrap64; omega)]
theorem sorted_eq (a b : List Int) (ha : a.Pairwise (· ≤ ·)) (hb : b.Pairwise (· ≤ ·)) (h : ∀ v, a.count v = b.count v) : a = b :=
  List.Perm.eq_of_pairwise (fun _ _ _ _ h1 h2 => Int.le_antisymm h1 h2) ha hb (List.perm_iff_count.2 h)
/-! ### racks -/
theorem ev_shRack (l : List Int) (hl : l.length ≤ 1048576) : Ev (fun k => spec_shRack.f k l) (okPile l) := by
  have hno : Ev (fun k => spec_shRack.j0 k l true) false := by
    refine Ev.step (f := fun _ => some false) (fun k => ?_) (Ev.now _)
    simp only [spec_shRack.j0, if_true]
  have hw2 : wrap64 ((l.length : Int) / 2) = ((l.length / 2 : Nat) : Int) := by unfold wrap64; omega
  have cnt : ∀ (v : Int) (r : Bool), ((l.count v = 2 → Ev (fun k => spec_shRack.l0 k l (wrap64 (v + 1))) r) → (l.count v ≠ 2 → r = false) → Ev (fun k => spec_shRack.l1 k l v 0 l (l.length : Int) 0) r) := by
    intro v r h1 h2
    have h : ∀ i, i ≤ l.length → ∀ n : Nat, n + (l.drop i).count v = l.count v → n ≤ i → Ev (fun k => spec_shRack.l1 k l v (n : Int) l (l.length : Int) (i : Int)) r := by
      refine downTo l.length ?_ ?_
      · intro n hn _
        rw [List.drop_length, List.count_nil] at hn
        by_cases hc : l.count v = 2
        · refine Ev.step (f := fun k => spec_shRack.l0 k l (wrap64 (v + 1))) (fun k => ?_) (h1 hc)
          simp only [spec_shRack.l1]
          rw [if_neg (by omega), if_pos (by omega)]
        · rw [h2 hc]
          refine Ev.step (f := fun _ => some false) (fun k => ?_) (Ev.now _)
          simp only [spec_shRack.l1]
          rw [if_neg (by omega), if_neg (by omega)]
      · intro i hil ih n hn hni
        rw [drop_cons l i hil, List.count_cons] at hn
        by_cases hx : rd l (i : Int) = v
        · rw [hx, BEq.rfl, if_pos rfl] at hn
          refine Ev.step (f := fun k => spec_shRack.l1 k l v ((n + 1 : Nat) : Int) l (l.length : Int) ((i + 1 : Nat) : Int)) (fun k => ?_) (ih (n + 1) (by omega) (by omega))
          simp only [spec_shRack.l1]
          rw [if_pos (by omega), if_pos (by omega), if_pos (by omega), if_pos hx, wrap_succ i (by omega), wrap_succ n (by omega)]
        · rw [beq_false_of_ne hx, if_neg (by decide)] at hn
          refine Ev.step (f := fun k => spec_shRack.l1 k l v (n : Int) l (l.length : Int) ((i + 1 : Nat) : Int)) (fun k => ?_) (ih n (by omega) (by omega))
          simp only [spec_shRack.l1]
          rw [if_pos (by omega), if_pos (by omega), if_pos (by omega), if_neg hx, wrap_succ i (by omega)]
    exact h 0 (by omega) 0 (by simp) (by omega)
  have outer : ∃ r : Bool, Ev (fun k => spec_shRack.l0 k l ((0 : Nat) : Int)) r ∧ (r = true ↔ ∀ v : Nat, 0 ≤ v → v < l.length / 2 → l.count (v : Int) = 2) := by
    have h : ∀ p, p ≤ l.length / 2 → ∃ r : Bool, Ev (fun k => spec_shRack.l0 k l (p : Int)) r ∧ (r = true ↔ ∀ v : Nat, p ≤ v → v < l.length / 2 → l.count (v : Int) = 2) := by
      refine downTo (l.length / 2) ?_ ?_
      · refine ⟨true, Ev.step (f := fun _ => some true) (fun k => ?_) (Ev.now _), by simp; omega⟩
        simp only [spec_shRack.l0]
        rw [hw2, if_neg (by omega)]
      · intro p hp ⟨r, h1, h2⟩
        refine ⟨r && (l.count (p : Int) == 2), Ev.step (f := fun k => spec_shRack.l1 k l (p : Int) 0 l (l.length : Int) 0) (fun k => ?_) (cnt (p : Int) _ (fun hc => ?_) (fun hc => ?_)), ?_⟩
        · simp only [spec_shRack.l0]
          rw [hw2, if_pos (by omega)]
        · rw [wrap_succ p (by omega), hc]
          simpa using h1
        · rw [beq_false_of_ne hc, Bool.and_false]
        · rw [Bool.and_eq_true, h2, beq_iff_eq]
          constructor
          · rintro ⟨a, b⟩ v hv hv2
            by_cases e : v = p
            · subst e; exact b
            · exact a v (by omega) hv2
          · intro a
            exact ⟨fun v hv hv2 => a v (by omega) hv2, a p (by omega) hp⟩
    exact h 0 (by omega)
  obtain ⟨r, hr1, hr2⟩ := outer
  by_cases h2 : l.length % 2 = 0
  · by_cases hb : 2 ≤ l.length ∧ l.length ≤ 16
    · refine Ev.congr (f := fun k => (spec_l1All.f k l 0 (((l.length / 2 : Nat) : Int) - 1)).bind fun t => spec_shRack.j0 k l (!t)) (fun k => ?_) (Ev.bind (ev_l1All l _ _ (by omega)) ?_)
      · unfold spec_shRack.f
        rw [if_pos (by omega), ev_l1In, hw2, show wrap64 (((l.length / 2 : Nat) : Int) - 1) = ((l.length / 2 : Nat) : Int) - 1 from by unfold wrap64; omega, decide_eq_true (show (2 : Int) ≤ (l.length : Int) by omega), decide_eq_true (show (l.length : Int) ≤ 16 by omega)]
        rfl
      · cases hall : l.all fun x => decide (0 ≤ x) && decide (x ≤ ((l.length / 2 : Nat) : Int) - 1)
        · rw [show okPile l = false from by unfold okPile; rw [hall]; simp]
          exact hno
        · have hrange : ∀ x ∈ l, 0 ≤ x ∧ x ≤ ((l.length / 2 : Nat) : Int) - 1 := by
            intro x hx
            have := List.all_eq_true.1 hall x hx
            simpa using this
          have hok : okPile l = r := by
            rw [Bool.eq_iff_iff, hr2]
            unfold okPile
            rw [hall, decide_eq_true (show l.length ≠ 0 by omega), decide_eq_true h2, decide_eq_true hb.2]
            simp only [Bool.true_and, Bool.and_true, List.all_eq_true, beq_iff_eq]
            constructor
            · intro h v _ hv
              have hs := sum_counts (l.length / 2) l hrange
              refine counts_two (l.length / 2) (fun v => l.count (v : Int)) (fun u _ => ?_) (by omega) v hv
              by_cases hm : (u : Int) ∈ l
              · have := h _ hm; omega
              · have := List.count_eq_zero.2 hm; omega
            · intro h x hx
              have hx2 := hrange x hx
              have := h x.toNat (by omega) (by omega)
              rwa [show ((x.toNat : Nat) : Int) = x from by omega] at this
          rw [hok]
          refine Ev.step (f := fun k => spec_shRack.l0 k l ((0 : Nat) : Int)) (fun k => ?_) hr1
          simp only [spec_shRack.j0, Bool.not_true, Bool.false_eq_true, if_false]
          rfl
    · rw [show okPile l = false from by
        unfold okPile
        by_cases h0 : l.length = 0
        · simp [h0]
        · rw [decide_eq_false (show ¬ l.length ≤ 16 by omega)]; simp]
      refine Ev.congr (f := fun k => spec_shRack.j0 k l true) (fun k => ?_) hno
      unfold spec_shRack.f
      rw [if_pos (by omega), ev_l1In]
      by_cases hc : 2 ≤ l.length
      · rw [decide_eq_true (show (2 : Int) ≤ (l.length : Int) by omega), decide_eq_false (show ¬ (l.length : Int) ≤ 16 by omega)]; rfl
      · rw [decide_eq_false (show ¬ (2 : Int) ≤ (l.length : Int) by omega)]; rfl
  · rw [show okPile l = false from by unfold okPile; rw [decide_eq_false h2]; simp]
    refine Ev.congr (f := fun k => spec_shRack.j0 k l true) (fun k => ?_) hno
    unfold spec_shRack.f
    rw [if_neg (by omega)]
theorem ev_IsRack (l : List Int) (hl : l.length ≤ 1048576) : Ev (fun k => impl_IsRack.f k l) (okPile l) := by
  refine Ev.congr (f := fun k => (impl_isTwice.f k l 8).bind fun t => some t) (fun k => ?_) (Ev.bind (ev_isTwice l hl) (Ev.now _))
  unfold impl_IsRack.f
  rfl

/-! ### the pairs that are together -/
def prs : List Int → List Int
  | a :: b :: t => if a = b then a :: prs t else prs t
  | _ => []
theorem prs_nil : prs [] = [] := rfl
theorem prs_mem : ∀ (l : List Int) x, x ∈ prs l → x ∈ l
  | [], x, h => by simp [prs] at h
  | [a], x, h => by simp [prs] at h
  | a :: b :: t, x, h => by
    rw [prs] at h
    split at h
    · rcases List.mem_cons.1 h with h | h
      · exact List.mem_cons.2 (.inl h)
      · exact List.mem_cons.2 (.inr (List.mem_cons.2 (.inr (prs_mem t x h))))
    · exact List.mem_cons.2 (.inr (List.mem_cons.2 (.inr (prs_mem t x h))))
theorem drop_two (l : List Int) (m : Nat) (h : 2 * m + 1 < l.length) : l.drop (2 * m) = rd l ((2 * m : Nat) : Int) :: rd l ((2 * m + 1 : Nat) : Int) :: l.drop (2 * (m + 1)) := by
  rw [drop_cons l (2 * m) (by omega), drop_cons l (2 * m + 1) h]
  rfl
theorem prs_len (l : List Int) : ∀ m, 2 * m ≤ l.length → (prs (l.drop (l.length - 2 * m))).length ≤ m := by
  intro m
  induction m with
  | zero => intro _; simp [prs]
  | succ m ih =>
    intro h
    have hi := ih (by omega)
    generalize hd : l.drop (l.length - 2 * (m + 1)) = d
    have hlen : d.length = 2 * (m + 1) := by rw [← hd, List.length_drop]; omega
    have hd2 : l.drop (l.length - 2 * m) = d.drop 2 := by rw [← hd, List.drop_drop]; congr 1; omega
    match d, hlen with
    | a :: b :: t, _ =>
      rw [hd2] at hi
      simp only [List.drop_succ_cons, List.drop_zero] at hi
      rw [prs]
      split
      · simp only [List.length_cons]; omega
      · omega
theorem wrap_two (m : Nat) (h : m ≤ 1000) : wrap64 (((2 * m : Nat) : Int) + 2) = ((2 * (m + 1) : Nat) : Int) := by unfold wrap64; omega
theorem wrap_one (m : Nat) (h : m ≤ 1000) : wrap64 (((2 * m : Nat) : Int) + 1) = ((2 * m + 1 : Nat) : Int) := by unfold wrap64; omega
theorem ev_implTog (l : List Int) (n : Nat) (hn : l.length = 2 * n) (h8 : n ≤ 8) : ∃ y : List Int, y.Perm (prs l) ∧ y.Pairwise (· ≤ ·) ∧ Ev (fun k => impl_TogetherOnRack.l0 k l [] 0) (y, true) := by
  have h : ∀ m, m ≤ n → ∀ ys : List Int, ys.length ≤ m → ∃ y : List Int, y.Perm (ys ++ prs (l.drop (2 * m))) ∧ y.Pairwise (· ≤ ·) ∧ Ev (fun k => impl_TogetherOnRack.l0 k l ys ((2 * m : Nat) : Int)) (y, true) := by
    refine downTo n ?_ ?_
    · intro ys hy
      obtain ⟨y, h1, h2, h3⟩ := ev_Sort ys (by omega)
      refine ⟨y, ?_, h2, Ev.step (f := fun k => (slices_Sort_int_int.f k ys).bind fun t => some (t, true)) (fun k => ?_) (Ev.bind h3 (Ev.now _))⟩
      · rw [← hn, List.drop_length, prs_nil, List.append_nil]; exact h1
      · simp only [impl_TogetherOnRack.l0]
        rw [if_neg (by omega)]
    · intro m hm ih ys hy
      rw [drop_two l m (by omega), prs]
      by_cases he : rd l ((2 * m : Nat) : Int) = rd l ((2 * m + 1 : Nat) : Int)
      · rw [if_pos he]
        obtain ⟨y, h1, h2, h3⟩ := ih (ys ++ [rd l ((2 * m : Nat) : Int)]) (by simp; omega)
        refine ⟨y, by rw [List.append_assoc, List.singleton_append] at h1; exact h1, h2, Ev.step (f := fun k => impl_TogetherOnRack.l0 k l (ys ++ [rd l ((2 * m : Nat) : Int)]) ((2 * (m + 1) : Nat) : Int)) (fun k => ?_) h3⟩
        simp only [impl_TogetherOnRack.l0]
        rw [wrap_two m (by omega), wrap_one m (by omega), if_pos (by omega), if_pos (by omega), if_pos (by omega), if_pos (by omega), if_pos he, if_pos (by omega)]
      · rw [if_neg he]
        obtain ⟨y, h1, h2, h3⟩ := ih ys (by omega)
        refine ⟨y, h1, h2, Ev.step (f := fun k => impl_TogetherOnRack.l0 k l ys ((2 * (m + 1) : Nat) : Int)) (fun k => ?_) h3⟩
        simp only [impl_TogetherOnRack.l0]
        rw [wrap_two m (by omega), wrap_one m (by omega), if_pos (by omega), if_pos (by omega), if_pos (by omega), if_pos (by omega), if_neg he]
  exact h 0 (by omega) [] (by simp)
theorem ev_specTog (l : List Int) (n : Nat) (hn : l.length = 2 * n) (h8 : n ≤ 8) : ∃ zs : List Int, zs.Pairwise (· ≤ ·) ∧ (∀ x ∈ zs, 0 ≤ x ∧ x < (n : Int)) ∧ (∀ v : Nat, v < n → zs.count (v : Int) = (prs l).count (v : Int)) ∧ Ev (fun k => spec_TogetherOnRack.l0 k l [] 0) (zs, true) := by
  have hw2 : wrap64 ((l.length : Int) / 2) = (n : Int) := by unfold wrap64; omega
  have h : ∀ v, v ≤ n → ∀ ys : List Int, ys.length ≤ 16 * v → ∃ zs : List Int, zs.Pairwise (· ≤ ·) ∧ (∀ x ∈ zs, (v : Int) ≤ x ∧ x < (n : Int)) ∧ (∀ u : Nat, v ≤ u → u < n → zs.count (u : Int) = (prs l).count (u : Int)) ∧ Ev (fun k => spec_TogetherOnRack.l0 k l ys (v : Int)) (ys ++ zs, true) := by
    refine downTo n ?_ ?_
    · intro ys _
      refine ⟨[], List.Pairwise.nil, (fun x hx => by cases hx), (fun u h1 h2 => by omega), Ev.step (f := fun _ => some (ys, true)) (fun k => ?_) (by rw [List.append_nil]; exact Ev.now _)⟩
      simp only [spec_TogetherOnRack.l0]
      rw [hw2, if_neg (by omega)]
    · intro v hv ih ys hy
      have inner : ∀ m, m ≤ n → ∀ ys : List Int, ys.length ≤ 16 * v + m → ∃ zs : List Int, zs.Pairwise (· ≤ ·) ∧ (∀ x ∈ zs, ((v + 1 : Nat) : Int) ≤ x ∧ x < (n : Int)) ∧ (∀ u : Nat, v + 1 ≤ u → u < n → zs.count (u : Int) = (prs l).count (u : Int)) ∧ Ev (fun k => spec_TogetherOnRack.l1 k l ys (v : Int) ((2 * m : Nat) : Int)) (ys ++ (List.replicate ((prs (l.drop (2 * m))).count (v : Int)) (v : Int) ++ zs), true) := by
        refine downTo n ?_ ?_
        · intro ys hy
          obtain ⟨zs, h1, h2, h3, h4⟩ := ih ys (by omega)
          refine ⟨zs, h1, h2, h3, Ev.step (f := fun k => spec_TogetherOnRack.l0 k l ys ((v + 1 : Nat) : Int)) (fun k => ?_) ?_⟩
          · simp only [spec_TogetherOnRack.l1]
            rw [if_neg (by omega), wrap_succ v (by omega)]
          · rw [← hn, List.drop_length, prs_nil, List.count_nil, List.replicate_zero, List.nil_append]
            exact h4
        · intro m hm ihm ys hy
          rw [drop_two l m (by omega), prs]
          by_cases hx : rd l ((2 * m : Nat) : Int) = (v : Int)
          · by_cases hz : rd l ((2 * m + 1 : Nat) : Int) = (v : Int)
            · rw [if_pos (hx.trans hz.symm), hx, List.count_cons, BEq.rfl, if_pos rfl]
              obtain ⟨zs, h1, h2, h3, h4⟩ := ihm (ys ++ [(v : Int)]) (by simp; omega)
              refine ⟨zs, h1, h2, h3, Ev.step (f := fun k => spec_TogetherOnRack.l1 k l (ys ++ [(v : Int)]) (v : Int) ((2 * (m + 1) : Nat) : Int)) (fun k => ?_) ?_⟩
              · simp only [spec_TogetherOnRack.l1]
                rw [wrap_two m (by omega), wrap_one m (by omega), if_pos (by omega), if_pos (by omega), if_pos hx, if_pos (by omega), if_pos (by omega), if_pos hz, if_pos (by omega)]
              · rw [List.append_assoc, List.singleton_append] at h4
                rw [List.replicate_succ, List.cons_append]
                exact h4
            · rw [if_neg (fun e => hz (e.symm.trans hx))]
              obtain ⟨zs, h1, h2, h3, h4⟩ := ihm ys (by omega)
              refine ⟨zs, h1, h2, h3, Ev.step (f := fun k => spec_TogetherOnRack.l1 k l ys (v : Int) ((2 * (m + 1) : Nat) : Int)) (fun k => ?_) h4⟩
              simp only [spec_TogetherOnRack.l1]
              rw [wrap_two m (by omega), wrap_one m (by omega), if_pos (by omega), if_pos (by omega), if_pos hx, if_pos (by omega), if_pos (by omega), if_neg hz]
          · have e : (if rd l ((2 * m : Nat) : Int) = rd l ((2 * m + 1 : Nat) : Int) then rd l ((2 * m : Nat) : Int) :: prs (l.drop (2 * (m + 1))) else prs (l.drop (2 * (m + 1)))).count (v : Int) = (prs (l.drop (2 * (m + 1)))).count (v : Int) := by
              split
              · rw [List.count_cons, beq_false_of_ne hx]; simp
              · rfl
            rw [e]
            obtain ⟨zs, h1, h2, h3, h4⟩ := ihm ys (by omega)
            refine ⟨zs, h1, h2, h3, Ev.step (f := fun k => spec_TogetherOnRack.l1 k l ys (v : Int) ((2 * (m + 1) : Nat) : Int)) (fun k => ?_) h4⟩
            simp only [spec_TogetherOnRack.l1]
            rw [wrap_two m (by omega), if_pos (by omega), if_pos (by omega), if_neg hx]
      obtain ⟨zs, h1, h2, h3, h4⟩ := inner 0 (by omega) ys (by omega)
      refine ⟨List.replicate ((prs l).count (v : Int)) (v : Int) ++ zs, ?_, ?_, ?_, Ev.step (f := fun k => spec_TogetherOnRack.l1 k l ys (v : Int) ((2 * 0 : Nat) : Int)) (fun k => ?_) h4⟩
      · rw [List.pairwise_append]
        refine ⟨List.pairwise_replicate.2 (.inr (Int.le_refl _)), h1, fun a ha b hb => ?_⟩
        have e1 := List.eq_of_mem_replicate ha
        have e2 := h2 b hb
        omega
      · intro x hx
        rcases List.mem_append.1 hx with h | h
        · have e1 := List.eq_of_mem_replicate h
          omega
        · have e2 := h2 x h
          omega
      · intro u hu hun
        rw [List.count_append]
        by_cases e : u = v
        · subst e
          have hz : zs.count (u : Int) = 0 := List.count_eq_zero.2 (fun hm => by have := h2 _ hm; omega)
          rw [List.count_replicate_self, hz]
          rfl
        · rw [List.count_replicate, h3 u (by omega) hun, beq_false_of_ne (by omega)]
          simp
      · simp only [spec_TogetherOnRack.l0]
        rw [hw2, if_pos (by omega)]
        rfl
  obtain ⟨zs, h1, h2, h3, h4⟩ := h 0 (by omega) [] (by simp)
  exact ⟨zs, h1, fun x hx => by have := h2 x hx; omega, fun v hv => h3 v (by omega) hv, h4⟩
theorem law : laws_FnExactTogetherOnRack.Pure := by
  intro l _ _ _
  apply Ev.rounds
  by_cases hl : l.length ≤ 1048576
  · cases hp : okPile l with
    | true =>
      have hp' := hp
      unfold okPile at hp'
      simp only [Bool.and_eq_true, decide_eq_true_eq, List.all_eq_true] at hp'
      obtain ⟨⟨⟨⟨_, h2⟩, h16⟩, hr⟩, _⟩ := hp'
      obtain ⟨y, y1, y2, y3⟩ := ev_implTog l (l.length / 2) (by omega) (by omega)
      obtain ⟨zs, z1, z2, z3, z4⟩ := ev_specTog l (l.length / 2) (by omega) (by omega)
      have heq : y = zs := by
        refine sorted_eq y zs y2 z1 (fun v => ?_)
        rw [List.perm_iff_count.1 y1 v]
        by_cases hv : 0 ≤ v ∧ v < ((l.length / 2 : Nat) : Int)
        · have := z3 v.toNat (by omega)
          rw [show ((v.toNat : Nat) : Int) = v from by omega] at this
          exact this.symm
        · rw [List.count_eq_zero.2 (fun hm => hv (z2 v hm)), List.count_eq_zero.2 (fun hm => by have := hr v (prs_mem l v hm); omega)]
      subst heq
      have hlen : y.length ≤ 8 := by
        rw [y1.length_eq]
        have := prs_len l (l.length / 2) (by omega)
        rw [show l.length - 2 * (l.length / 2) = 0 from by omega, List.drop_zero] at this
        omega
      refine law_of l hl y true (by omega) ?_ ?_
      · refine Ev.congr (fun k => rfl) (Ev.bind (ev_shRack l hl) ?_)
        rw [hp]
        simp only [if_true]
        exact z4
      · refine Ev.congr (fun k => rfl) (Ev.bind (ev_IsRack l hl) ?_)
        rw [hp]
        simp only [if_true]
        exact y3
    | false =>
      refine law_of l hl [] false (by simp) ?_ ?_
      · refine Ev.congr (fun k => rfl) (Ev.bind (ev_shRack l hl) ?_)
        rw [hp]
        simp only [Bool.false_eq_true, if_false]
        exact Ev.now _
      · refine Ev.congr (fun k => rfl) (Ev.bind (ev_IsRack l hl) ?_)
        rw [hp]
        simp only [Bool.false_eq_true, if_false]
        exact Ev.now _
  · exact law_long l hl

end Go.Proofs.Ytagfnpocloaojaa.PureTogetherOnRack
namespace Go.Proofs.Ytagfnpocloaojaa.Pure
theorem FnExactTogetherOnRack : Go.Proofs.Ytagfnpocloaojaa.QTogetherOnRack.laws_FnExactTogetherOnRack.Pure := Go.Proofs.Ytagfnpocloaojaa.PureTogetherOnRack.law
end Go.Proofs.Ytagfnpocloaojaa.Pure
