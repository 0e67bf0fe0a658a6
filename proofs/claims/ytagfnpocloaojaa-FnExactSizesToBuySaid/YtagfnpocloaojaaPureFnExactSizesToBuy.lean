/- The pure statement of the law FnExactSizesToBuy: whatever two slices and whatever room, the program's and the reference's SizesToBuy return alike. -/
import Derived.Test.YtagfnpocloaojaaQSizesToBuyx4
import Derived.Test.YtagfnpocloaojaaPureBaseF
import Derived.Test.YtagfnpocloaojaaPureShoe
import Derived.Test.YtagfnpocloaojaaPureFeet
import Derived.Test.YtagfnpocloaojaaQShoex
import Derived.Test.YtagfnpocloaojaaQFeetx
import Derived.Test.YtagfnpocloaojaaXLen
namespace Go.Proofs.Ytagfnpocloaojaa.PureSizesToBuy
open Go.RowKit Go.Proofs.Ytagfnpocloaojaa.QSizesToBuy Go.Proofs.Ytagfnpocloaojaa.QBase Go.Proofs.Ytagfnpocloaojaa.QSizes Go.Proofs.Ytagfnpocloaojaa.PureBaseF Go.Proofs.YtagfnpocloaojaaW.PrintWords Go.Proofs.YtagfnpocloaojaaW.PrintLast Go.Proofs.YtagfnpocloaojaaW.PrintMore Go.Proofs.Ytagfnpocloaojaa.PureShoe Go.Proofs.Ytagfnpocloaojaa.PureFeet Go.Proofs.Ytagfnpocloaojaa.QShoe Go.Proofs.Ytagfnpocloaojaa.QFeet Go.Proofs.Ytagfnpocloaojaa.XLen
set_option linter.unusedVariables false

/-! ### the law's own marks, and the law -/
theorem ev_markFrom (l : List Int) (m : Nat) (hm : m + l.length ≤ 5000000) : ∃ o : List Int, o.length = l.length ∧ (∀ j, j < o.length → o.getD j 0 = ((m + j : Nat) : Int)) ∧ Ev (fun k => QSizesToBuy.laws_markIntS.f k l (m : Int)) (((m + l.length : Nat) : Int), o) := by
  have h : ∀ i, i ≤ l.length → ∀ o : List Int, o.length = l.length → (∀ j, j < i → o.getD j 0 = ((m + j : Nat) : Int)) → ∃ o' : List Int, o'.length = l.length ∧ (∀ j, j < o'.length → o'.getD j 0 = ((m + j : Nat) : Int)) ∧ Ev (fun k => QSizesToBuy.laws_markIntS.l0 k o ((m + i : Nat) : Int) (i : Int)) (((m + l.length : Nat) : Int), o') := by
    refine downTo l.length ?_ ?_
    · intro o ho hj
      refine ⟨o, ho, fun j h => hj j (by omega), Ev.step (f := fun _ => some (((m + l.length : Nat) : Int), o)) (fun k => ?_) (Ev.now _)⟩
      simp only [QSizesToBuy.laws_markIntS.l0]
      rw [if_neg (by omega)]
    · intro i hil ih o ho hj
      obtain ⟨o', h1, h2, h3⟩ := ih (o.set i ((m + i : Nat) : Int)) (by rw [List.length_set]; exact ho) (fun j hji => by
        rw [List.getD_eq_getElem?_getD, List.getElem?_set]
        by_cases e : i = j
        · subst e
          rw [if_pos rfl, if_pos (by omega)]; rfl
        · rw [if_neg e, ← List.getD_eq_getElem?_getD]
          exact hj j (by omega))
      refine ⟨o', h1, h2, Ev.step (f := fun k => QSizesToBuy.laws_markIntS.l0 k (o.set i ((m + i : Nat) : Int)) ((m + (i + 1) : Nat) : Int) ((i + 1 : Nat) : Int)) (fun k => ?_) h3⟩
      simp only [QSizesToBuy.laws_markIntS.l0, Int.toNat_natCast]
      rw [if_pos (by omega), if_pos (by omega), wrap_succ i (by omega), wrap_succ (m + i) (by omega)]
      rfl
  obtain ⟨o, h1, h2, h3⟩ := h 0 (by omega) l rfl (fun j hj => by omega)
  exact ⟨o, h1, h2, h3⟩

theorem law_of (l l' : List Int) (a2 : Int) (hl : l.length ≤ 1048576) (hl' : l'.length ≤ 1048576) (res : List Int) (ok : Bool) (hres : res.length ≤ 1048576) (hs : Ev (fun k => spec_SizesToBuy.f k l l' a2) (res, ok)) (hi : Ev (fun k => impl_SizesToBuy.f k l l' a2) (res, ok)) : Ev (fun k => laws_FnExactSizesToBuy.f k l l' a2) true := by
  obtain ⟨o, ho1, ho2, ho3⟩ := ev_markFrom l 1 (by omega)
  obtain ⟨p, hp1, hp2, hp3⟩ := ev_markFrom l' (1 + l.length) (by omega)
  obtain ⟨o2, hq1, hq2, hq3⟩ := ev_markFrom res 1 (by omega)
  have hh := ev_heldIntS o2 (by omega) (fun j hj => by rw [hq2 j hj]; omega)
  rw [hq1, show (res.length : Int) + 1 = ((1 + res.length : Nat) : Int) from by omega] at hh
  have h2 : Ev (fun k => laws_FnExactSizesToBuy.j2 k o2 ((1 + res.length : Nat) : Int) false) true := by
    refine Ev.step (f := fun k => (laws_heldIntS.f k o2 1).bind fun t => if t < 0 then some false else if t = ((1 + res.length : Nat) : Int) then some true else some false) (fun k => ?_) (Ev.bind hh ?_)
    · simp only [laws_FnExactSizesToBuy.j2, Bool.false_eq_true, if_false]
    · refine Ev.congr (f := fun _ => some true) (fun k => ?_) (Ev.now _)
      rw [if_neg (by omega), if_pos rfl]
  have h1 : Ev (fun k => laws_FnExactSizesToBuy.j1 k l l' a2 res ok res false) true := by
    refine Ev.step (f := fun k => (QSizesToBuy.laws_markIntS.f k res 1).bind fun bt => (laws_heldIntS.f k bt.2 1).bind fun t => if t < 0 then some false else if t = bt.1 then (laws_toIntS.f k l).bind fun t2 => (laws_toIntS.f k l').bind fun t2' => (impl_SizesToBuy.f k t2 t2' a2).bind fun b2 => (laws_eqIntS.f k b2.1 res).bind fun t3 => if t3 = true then laws_FnExactSizesToBuy.j2 k bt.2 bt.1 (b2.2 != ok) else laws_FnExactSizesToBuy.j2 k bt.2 bt.1 true else some false) (fun k => ?_) (Ev.bind hq3 (Ev.bind hh ?_))
    · simp only [laws_FnExactSizesToBuy.j1, Bool.false_eq_true, if_false]
    · refine Ev.congr (f := fun k => (laws_toIntS.f k l).bind fun t2 => (laws_toIntS.f k l').bind fun t2' => (impl_SizesToBuy.f k t2 t2' a2).bind fun b2 => (laws_eqIntS.f k b2.1 res).bind fun t3 => if t3 = true then laws_FnExactSizesToBuy.j2 k o2 ((1 + res.length : Nat) : Int) (b2.2 != ok) else laws_FnExactSizesToBuy.j2 k o2 ((1 + res.length : Nat) : Int) true) (fun k => ?_) ?_
      · rw [if_neg (by omega), if_pos rfl]
      · refine Ev.bind (ev_toIntS l hl) (Ev.bind (ev_toIntS l' hl') (Ev.bind hi (Ev.bind (ev_eqIntS res hres) ?_)))
        simp only [if_true, bne_self_eq_false]
        exact h2
  have h0 : Ev (fun k => laws_FnExactSizesToBuy.j0 k l l' a2 res ok l l' res ok false) true := by
    refine Ev.step (f := fun k => (laws_toIntS.f k l).bind fun t => (laws_eqIntS.f k l t).bind fun t2 => if t2 = true then (laws_toIntS.f k l').bind fun t => (laws_eqIntS.f k l' t).bind fun t2 => if t2 = true then (QSizesToBuy.laws_markIntS.f k l 1).bind fun bt => (QSizesToBuy.laws_markIntS.f k l' bt.1).bind fun bt => if bt.1 < 0 then laws_FnExactSizesToBuy.j1 k l l' a2 res ok res true else (laws_eqIntS.f k res res).bind fun t3 => if t3 = true then laws_FnExactSizesToBuy.j1 k l l' a2 res ok res (ok != ok) else laws_FnExactSizesToBuy.j1 k l l' a2 res ok res true else some false else some false) (fun k => ?_) (Ev.bind (ev_toIntS l hl) (Ev.bind (ev_eqIntS l hl) ?_))
    · simp only [laws_FnExactSizesToBuy.j0, Bool.false_eq_true, if_false]
    · simp only [if_true]
      refine Ev.bind (ev_toIntS l' hl') (Ev.bind (ev_eqIntS l' hl') ?_)
      simp only [if_true]
      refine Ev.bind ho3 (Ev.bind hp3 ?_)
      refine Ev.congr (f := fun k => (laws_eqIntS.f k res res).bind fun t3 => if t3 = true then laws_FnExactSizesToBuy.j1 k l l' a2 res ok res (ok != ok) else laws_FnExactSizesToBuy.j1 k l l' a2 res ok res true) (fun k => ?_) (Ev.bind (ev_eqIntS res hres) ?_)
      · rw [if_neg (by omega)]
      · simp only [if_true, bne_self_eq_false]
        exact h1
  refine Ev.congr (f := fun k => (laws_toIntS.f k l).bind fun t => (laws_toIntS.f k l').bind fun t' => (spec_SizesToBuy.f k t t' a2).bind fun b => (laws_toIntS.f k l).bind fun t2 => (laws_toIntS.f k l').bind fun t2' => (impl_SizesToBuy.f k t2 t2' a2).bind fun b2 => (laws_eqIntS.f k b2.1 b.1).bind fun t3 => if t3 = true then laws_FnExactSizesToBuy.j0 k l l' a2 b.1 b.2 t2 t2' b2.1 b2.2 (b2.2 != b.2) else laws_FnExactSizesToBuy.j0 k l l' a2 b.1 b.2 t2 t2' b2.1 b2.2 true) (fun k => ?_) ?_
  · unfold laws_FnExactSizesToBuy.f
    rw [if_neg (by omega), if_neg (by omega)]
  · refine Ev.bind (ev_toIntS l hl) (Ev.bind (ev_toIntS l' hl') (Ev.bind hs (Ev.bind (ev_toIntS l hl) (Ev.bind (ev_toIntS l' hl') (Ev.bind hi (Ev.bind (ev_eqIntS res hres) ?_))))))
    simp only [if_true, bne_self_eq_false]
    exact h0

theorem law_long (l l' : List Int) (a2 : Int) (hl : ¬ l.length ≤ 1048576) : Ev (fun k => laws_FnExactSizesToBuy.f k l l' a2) true := by
  refine Ev.congr (f := fun k => some true) (fun k => ?_) (Ev.now _)
  unfold laws_FnExactSizesToBuy.f
  rw [if_pos (by omega)]
theorem law_long' (l l' : List Int) (a2 : Int) (hl : l.length ≤ 1048576) (hl' : ¬ l'.length ≤ 1048576) : Ev (fun k => laws_FnExactSizesToBuy.f k l l' a2) true := by
  refine Ev.congr (f := fun k => some true) (fun k => ?_) (Ev.now _)
  unfold laws_FnExactSizesToBuy.f
  rw [if_neg (by omega), if_pos (by omega)]

theorem feet_length (F S : List Int) (b r : Int) : (feet F S b r).length = F.length := by
  have h : ∀ (oS oF used out : List Int), (gr F S b r oS oF used out).length = out.length := by
    intro oS oF
    induction oF with
    | nil => intro used out; rfl
    | cons i t ih =>
      intro used out
      unfold gr
      split
      · rw [ih, List.length_set]
      · rw [ih, List.length_set, List.length_set]
  unfold feet
  rw [h, List.length_replicate]
theorem ev_shRoom (l r : List Int) (a : Int) (hl : l.length ≤ 1048576) (hr : r.length ≤ 1048576) : Ev (fun k => spec_shRoom.f k l r a) (okFit l r a) := by
  refine Ev.congr (f := fun k => (spec_shGood.f k l).bind fun t => if t = true then (spec_shGood.f k r).bind fun t2 => if t2 = true then (spec_l1In.f a 0 60).bind fun t3 => some t3 else some false else some false) (fun k => ?_) (Ev.bind (ev_shGood l hl) ?_)
  · unfold spec_shRoom.f
    rfl
  · unfold okFit
    cases okSizes l with
    | false => simp only [Bool.false_eq_true, if_false, Bool.false_and]; exact Ev.now _
    | true =>
      simp only [if_true, Bool.true_and]
      refine Ev.bind (ev_shGood r hr) ?_
      cases okSizes r with
      | false => simp only [Bool.false_eq_true, if_false, Bool.false_and]; exact Ev.now _
      | true =>
        simp only [if_true, Bool.true_and, ev_l1In, Option.bind_some]
        exact Ev.now _
/-! ### slices.Sort of at most twelve numbers -/
theorem less_eq (a b : Int) : cmp_Less_int.f a b = some (decide (a < b)) := by
  unfold cmp_Less_int.f cmp_isNaN_int.f
  simp
def Upto (x : List Int) (i : Nat) : Prop := ∀ p q : Nat, p < q → q < i → rd x (p : Int) ≤ rd x (q : Int)
def Mid (x : List Int) (i j : Nat) : Prop := (∀ p q : Nat, p < q → q ≤ i → p ≠ j → q ≠ j → rd x (p : Int) ≤ rd x (q : Int)) ∧ ∀ q : Nat, j < q → q ≤ i → rd x (j : Int) ≤ rd x (q : Int)
theorem swap_perm (x : List Int) (i j : Nat) (hi : i < x.length) (hj : j < x.length) : ((x.set i (rd x (j : Int))).set j (rd x (i : Int))).Perm x := by
  rw [rd_get x i hi, rd_get x j hj]
  exact List.set_set_perm hi hj
theorem rd_swap (x : List Int) (i j m : Nat) (hi : i < x.length) (hj : j < x.length) : rd ((x.set i (rd x (j : Int))).set j (rd x (i : Int))) (m : Int) = if j = m then rd x (i : Int) else if i = m then rd x (j : Int) else rd x (m : Int) := by
  have e1 := rd_set (x.set i (rd x (j : Int))) (j : Int) (m : Int) (rd x (i : Int)) (by omega) (by rw [List.length_set]; omega) (by omega)
  have e2 := rd_set x (i : Int) (m : Int) (rd x (j : Int)) (by omega) (by omega) (by omega)
  rw [Int.toNat_natCast] at e1 e2
  rw [e1, e2]
  by_cases h : j = m
  · rw [if_pos (by omega), if_pos h]
  · rw [if_neg (by omega), if_neg h]
    by_cases h2 : i = m
    · rw [if_pos (by omega), if_pos h2]
    · rw [if_neg (by omega), if_neg h2]
theorem mid_swap (x : List Int) (i j : Nat) (hi : i < x.length) (hj : j + 1 ≤ i) (h : Mid x i (j + 1)) (hlt : rd x ((j + 1 : Nat) : Int) < rd x (j : Int)) : Mid ((x.set (j + 1) (rd x (j : Int))).set j (rd x ((j + 1 : Nat) : Int))) i j := by
  have e := fun m => rd_swap x (j + 1) j m (by omega) (by omega)
  obtain ⟨h1, h2⟩ := h
  refine ⟨fun p q hpq hq hp hq' => ?_, fun q hq hq' => ?_⟩
  · rw [e p, e q, if_neg (show ¬ j = p from fun e => hp e.symm), if_neg (show ¬ j = q from fun e => hq' e.symm)]
    by_cases a : j + 1 = p
    · rw [if_pos a, if_neg (show ¬ j + 1 = q by omega)]
      exact h1 j q (by omega) hq (by omega) (by omega)
    · rw [if_neg a]
      by_cases b : j + 1 = q
      · rw [if_pos b]
        exact h1 p j (by omega) (by omega) (by omega) (by omega)
      · rw [if_neg b]
        exact h1 p q hpq hq (by omega) (by omega)
  · rw [e j, e q, if_pos rfl, if_neg (show ¬ j = q by omega)]
    by_cases b : j + 1 = q
    · rw [if_pos b]; omega
    · rw [if_neg b]
      exact h2 q (by omega) hq'
theorem ev_ins (l : List Int) (hn : l.length ≤ 12) : ∀ i, i ≤ l.length → ∀ x : List Int, x.length = l.length → x.Perm l → Upto x i → ∃ y : List Int, y.Perm l ∧ Upto y y.length ∧ Ev (fun k => slices_insertionSortOrdered_int.l0 k x 0 (l.length : Int) (i : Int)) y := by
  refine downTo l.length ?_ ?_
  · intro x hx hp hu
    refine ⟨x, hp, by rw [hx]; exact hu, Ev.step (f := fun _ => some x) (fun k => ?_) (Ev.now x)⟩
    simp only [slices_insertionSortOrdered_int.l0]
    rw [if_neg (by omega)]
  · intro i hil ih x hx hp hu
    have inner : ∀ j, j ≤ i → ∀ x : List Int, x.length = l.length → x.Perm l → Mid x i j → ∃ y : List Int, y.Perm l ∧ Upto y y.length ∧ Ev (fun k => slices_insertionSortOrdered_int.l1 k x 0 (l.length : Int) (i : Int) (j : Int)) y := by
      intro j
      induction j with
      | zero =>
        intro _ x hx hp hm
        obtain ⟨y, h1, h2, h3⟩ := ih x hx hp (fun p q hpq hq => by
          by_cases hp0 : p = 0
          · subst hp0; exact hm.2 q hpq (by omega)
          · exact hm.1 p q hpq (by omega) hp0 (by omega))
        refine ⟨y, h1, h2, Ev.step (f := fun k => slices_insertionSortOrdered_int.l0 k x 0 (l.length : Int) ((i + 1 : Nat) : Int)) (fun k => ?_) h3⟩
        simp only [slices_insertionSortOrdered_int.l1]
        rw [if_neg (by omega), wrap_succ i (by omega)]
      | succ j ihj =>
        intro hj x hx hp hm
        have hw : wrap64 (((j + 1 : Nat) : Int) - 1) = (j : Int) := by unfold wrap64; omega
        by_cases hlt : rd x ((j + 1 : Nat) : Int) < rd x (j : Int)
        · obtain ⟨y, h1, h2, h3⟩ := ihj (by omega) ((x.set (j + 1) (rd x (j : Int))).set j (rd x ((j + 1 : Nat) : Int))) (by simp [hx]) ((swap_perm x (j + 1) j (by omega) (by omega)).trans hp) (mid_swap x i j (by omega) hj hm hlt)
          refine ⟨y, h1, h2, Ev.step (f := fun k => slices_insertionSortOrdered_int.l1 k ((x.set (j + 1) (rd x (j : Int))).set j (rd x ((j + 1 : Nat) : Int))) 0 (l.length : Int) (i : Int) (j : Int)) (fun k => ?_) h3⟩
          simp only [slices_insertionSortOrdered_int.l1, hw, Int.toNat_natCast]
          rw [if_pos (by omega), if_pos (by omega), if_pos (by omega), if_pos (by omega), if_pos (by omega), less_eq, decide_eq_true hlt, Option.bind_some, if_pos rfl]
        · obtain ⟨y, h1, h2, h3⟩ := ih x hx hp (fun p q hpq hq => by
            by_cases hpj : p = j + 1
            · subst hpj; exact hm.2 q hpq (by omega)
            · by_cases hqj : q = j + 1
              · subst hqj
                by_cases hpj2 : p = j
                · subst hpj2; omega
                · have := hm.1 p j (by omega) (by omega) hpj (by omega)
                  omega
              · exact hm.1 p q hpq (by omega) hpj hqj)
          refine ⟨y, h1, h2, Ev.step (f := fun k => slices_insertionSortOrdered_int.l0 k x 0 (l.length : Int) ((i + 1 : Nat) : Int)) (fun k => ?_) h3⟩
          simp only [slices_insertionSortOrdered_int.l1, hw]
          rw [if_pos (by omega), if_pos (by omega), if_pos (by omega), if_pos (by omega), if_pos (by omega), less_eq, decide_eq_false hlt, Option.bind_some, if_neg (by decide), wrap_succ i (by omega)]
    obtain ⟨y, h1, h2, h3⟩ := inner i (Nat.le_refl _) x hx hp ⟨fun p q hpq hq hpi hqi => hu p q hpq (by omega), fun q h1 h2 => by omega⟩
    refine ⟨y, h1, h2, Ev.step (f := fun k => slices_insertionSortOrdered_int.l1 k x 0 (l.length : Int) (i : Int) (i : Int)) (fun k => ?_) h3⟩
    simp only [slices_insertionSortOrdered_int.l0]
    rw [if_pos (by omega)]
theorem ev_Sort (l : List Int) (hn : l.length ≤ 12) : ∃ y : List Int, y.Perm l ∧ y.Pairwise (· ≤ ·) ∧ Ev (fun k => slices_Sort_int_int.f k l) y := by
  have h0 : ∃ y : List Int, y.Perm l ∧ Upto y y.length ∧ Ev (fun k => slices_insertionSortOrdered_int.f k l 0 (l.length : Int)) y := by
    have e1 : ∀ k, slices_insertionSortOrdered_int.f k l 0 (l.length : Int) = slices_insertionSortOrdered_int.l0 k l 0 (l.length : Int) ((1 : Nat) : Int) := fun k => by unfold slices_insertionSortOrdered_int.f; rw [show wrap64 (0 + 1) = ((1 : Nat) : Int) from by unfold wrap64; omega]
    by_cases hz : l.length = 0
    · refine ⟨l, List.Perm.refl _, fun p q h1 h2 => by omega, Ev.step (f := fun _ => some l) (fun k => ?_) (Ev.now l)⟩
      rw [e1]
      simp only [slices_insertionSortOrdered_int.l0]
      rw [if_neg (by omega)]
    · obtain ⟨y, h1, h2, h3⟩ := ev_ins l hn 1 (by omega) l rfl (List.Perm.refl _) (fun p q h1 h2 => by omega)
      exact ⟨y, h1, h2, Ev.congr e1 h3⟩
  obtain ⟨y, h1, h2, h3⟩ := h0
  refine ⟨y, h1, ?_, ?_⟩
  · rw [List.pairwise_iff_getElem]
    intro i j hi hj hij
    have e := h2 i j hij hj
    rw [rd_get y i hi, rd_get y j hj] at e
    exact e
  · have hw : IntKind.u64.wrap (l.length : Int) = (l.length : Int) := by simp only [IntKind.wrap, IntKind.bits, IntKind.signed]; simp; omega
    refine Ev.congr (f := fun k => (slices_pdqsortOrdered_int.f k l 0 (l.length : Int) ((Lib.bitLen (l.length : Int).toNat : Nat) : Int)).bind fun t => some t) (fun k => ?_) (Ev.bind ?_ (Ev.now y))
    · unfold slices_Sort_int_int.f
      rw [hw, XLen.bits_Len.f, if_pos (by omega)]
      rfl
    · refine Ev.step (f := fun k => slices_pdqsortOrdered_int.l0 k l 0 (l.length : Int) ((Lib.bitLen (l.length : Int).toNat : Nat) : Int) true) (fun k => rfl) (Ev.step (f := fun k => (slices_insertionSortOrdered_int.f k l 0 (l.length : Int)).bind fun t => some t) (fun k => ?_) (Ev.bind h3 (Ev.now y)))
      simp only [slices_pdqsortOrdered_int.l0]
      rw [if_pos (by unfold wrap64; omega)]
theorem sorted_eq (a b : List Int) (ha : a.Pairwise (· ≤ ·)) (hb : b.Pairwise (· ≤ ·)) (h : ∀ v, a.count v = b.count v) : a = b :=
  List.Perm.eq_of_pairwise (fun _ _ _ _ h1 h2 => Int.le_antisymm h1 h2) ha hb (List.perm_iff_count.2 h)

/-! ### the sizes that are to be bought -/
def lacks (got : List Int) (i : Int) : Bool := decide (rd got i < 0)
def idx (n : Nat) : List Int := (List.range n).map fun v : Nat => (v : Int)
theorem idx_drop (n i : Nat) (hi : i < n) : (idx n).drop i = (i : Int) :: (idx n).drop (i + 1) := by
  unfold idx
  rw [List.drop_eq_getElem_cons (by simp; exact hi)]
  simp
theorem ev_implBuy (F got : List Int) (hg : got.length = F.length) (h7 : F.length ≤ 12) (res : List Int × Bool) (h : Ev (fun k => (slices_Sort_int_int.f k (((idx F.length).filter (lacks got)).map (rd F))).bind fun t => some (t, true)) res) : Ev (fun k => impl_SizesToBuy.l0 k F [] got (got.length : Int) 0) res := by
  have key : ∀ i, i ≤ F.length → ∀ acc : List Int, acc.length ≤ i → Ev (fun k => (slices_Sort_int_int.f k (acc ++ (((idx F.length).drop i).filter (lacks got)).map (rd F))).bind fun t => some (t, true)) res → Ev (fun k => impl_SizesToBuy.l0 k F acc got (got.length : Int) (i : Int)) res := by
    refine downTo F.length ?_ ?_
    · intro acc _ hr
      rw [List.drop_of_length_le (by simp [idx]), List.filter_nil, List.map_nil, List.append_nil] at hr
      refine Ev.step (f := fun k => (slices_Sort_int_int.f k acc).bind fun t => some (t, true)) (fun k => ?_) hr
      simp only [impl_SizesToBuy.l0]
      rw [if_neg (by omega)]
    · intro i hi ih acc hacc hr
      rw [idx_drop _ i hi] at hr
      by_cases hc : rd got (i : Int) < 0
      · rw [List.filter_cons_of_pos (by unfold lacks; exact decide_eq_true hc), List.map_cons, ← List.singleton_append, ← List.append_assoc] at hr
        refine Ev.step (f := fun k => impl_SizesToBuy.l0 k F (acc ++ [rd F (i : Int)]) got (got.length : Int) ((i + 1 : Nat) : Int)) (fun k => ?_) (ih _ (by simp; omega) hr)
        simp only [impl_SizesToBuy.l0]
        rw [if_pos (by omega), if_pos (by omega), if_pos (by omega), if_pos hc, if_pos (by omega), if_pos (by omega), wrap_succ i (by omega)]
      · rw [List.filter_cons_of_neg (by unfold lacks; rw [decide_eq_false hc]; decide)] at hr
        refine Ev.step (f := fun k => impl_SizesToBuy.l0 k F acc got (got.length : Int) ((i + 1 : Nat) : Int)) (fun k => ?_) (ih _ (by omega) hr)
        simp only [impl_SizesToBuy.l0]
        rw [if_pos (by omega), if_pos (by omega), if_pos (by omega), if_neg hc, wrap_succ i (by omega)]
  refine key 0 (by omega) [] (by simp) ?_
  rw [List.drop_zero, List.nil_append]
  exact h
theorem ev_specBuy (F got o : List Int) (hg : got.length = F.length) (ho : ∀ y ∈ o, 0 ≤ y ∧ y < (F.length : Int)) (hl : o.length ≤ 100) : Ev (fun k => spec_SizesToBuy.l0 k F [] got o (o.length : Int) 0) ((o.filter (lacks got)).map (rd F), true) := by
  have key : ∀ c, c ≤ o.length → ∀ acc : List Int, acc.length ≤ c → Ev (fun k => spec_SizesToBuy.l0 k F acc got o (o.length : Int) (c : Int)) (acc ++ ((o.drop c).filter (lacks got)).map (rd F), true) := by
    refine downTo o.length ?_ ?_
    · intro acc _
      rw [List.drop_length, List.filter_nil, List.map_nil, List.append_nil]
      refine Ev.step (f := fun _ => some (acc, true)) (fun k => ?_) (Ev.now _)
      simp only [spec_SizesToBuy.l0]
      rw [if_neg (by omega)]
    · intro c hc ih acc hacc
      have hq := ho (rd o (c : Int)) (by rw [rd_get o c hc]; exact List.getElem_mem hc)
      rw [drop_cons o c hc]
      by_cases hn : rd got (rd o (c : Int)) < 0
      · rw [List.filter_cons_of_pos (by unfold lacks; exact decide_eq_true hn), List.map_cons, ← List.singleton_append, ← List.append_assoc]
        refine Ev.step (f := fun k => spec_SizesToBuy.l0 k F (acc ++ [rd F (rd o (c : Int))]) got o (o.length : Int) ((c + 1 : Nat) : Int)) (fun k => ?_) (ih _ (by simp; omega))
        simp only [spec_SizesToBuy.l0]
        rw [if_pos (by omega), if_pos (by omega), if_pos (by omega), if_pos hq.1, if_pos (by omega), if_pos hn, if_pos hq.2, if_pos (by omega), wrap_succ c (by omega)]
      · rw [List.filter_cons_of_neg (by unfold lacks; rw [decide_eq_false hn]; decide)]
        refine Ev.step (f := fun k => spec_SizesToBuy.l0 k F acc got o (o.length : Int) ((c + 1 : Nat) : Int)) (fun k => ?_) (ih _ (by omega))
        simp only [spec_SizesToBuy.l0]
        rw [if_pos (by omega), if_pos (by omega), if_pos (by omega), if_pos hq.1, if_pos (by omega), if_neg hn, wrap_succ c (by omega)]
  have := key 0 (by omega) [] (by simp)
  rw [List.drop_zero, List.nil_append] at this
  exact this
theorem law : laws_FnExactSizesToBuy.Pure := by
  intro l l' a _ _ _ _ _ _ _
  apply Ev.rounds
  by_cases hl : l.length ≤ 1048576
  · by_cases hl' : l'.length ≤ 1048576
    · cases hok : okFit l l' a with
      | true =>
        have hok' := hok
        unfold okFit at hok'
        simp only [Bool.and_eq_true, decide_eq_true_eq] at hok'
        obtain ⟨⟨h1, h2⟩, h3⟩ := hok'
        have f7 := okSizes_is l h1
        have s7 := okSizes_is l' h2
        generalize hgot : feet l l' 0 a = got
        have hg : got.length = l.length := by rw [← hgot]; exact feet_length _ _ _ _
        have hlen : (((idx l.length).filter (lacks got)).map (rd l)).length ≤ 12 := by
          rw [List.length_map]
          have := List.length_filter_le (lacks got) (idx l.length)
          have e : (idx l.length).length = l.length := by simp [idx]
          omega
        obtain ⟨y, y1, y2, y3⟩ := ev_Sort _ hlen
        have hperm : ((((ordUpto l l.length)).filter (lacks got)).map (rd l)).Perm (((idx l.length).filter (lacks got)).map (rd l)) := ((ord_perm l l.length).filter _).map _
        have hsort : ((((ordUpto l l.length)).filter (lacks got)).map (rd l)).Pairwise (· ≤ ·) := by
          rw [List.pairwise_map]
          exact ((ord_sorted l l.length).imp (fun {p q} h => by unfold lx at h; omega)).sublist List.filter_sublist
        have heq : y = (((ordUpto l l.length)).filter (lacks got)).map (rd l) := sorted_eq _ _ y2 hsort (fun v => by rw [List.perm_iff_count.1 y1 v, List.perm_iff_count.1 hperm v])
        refine law_of l l' a hl hl' y true (by have := y1.length_eq; omega) ?_ ?_
        · refine Ev.congr (fun k => rfl) (Ev.bind (ev_shRoom l l' a hl hl') ?_)
          rw [hok]
          simp only [if_true]
          refine Ev.bind (ev_shFeet l l' 0 a (fine_of l h1) (fine_of l' h2) (by omega) (by omega) (by omega) h3) (Ev.bind (ev_shOrder l (by omega)) ?_)
          rw [heq, hgot]
          exact ev_specBuy l got _ hg (fun y hy => (ord_mem l _ y).1 hy) (by rw [ord_length]; omega)
        · refine Ev.congr (fun k => rfl) (Ev.bind (ev_FirstFeet l l' a hok) ?_)
          simp only [if_true]
          rw [hgot]
          exact ev_implBuy l got hg (by omega) _ (Ev.bind y3 (Ev.now _))
      | false =>
        refine law_of l l' a hl hl' [] false (by simp) ?_ ?_
        · refine Ev.congr (fun k => rfl) (Ev.bind (ev_shRoom l l' a hl hl') ?_)
          rw [hok]
          simp only [Bool.false_eq_true, if_false]
          exact Ev.now _
        · refine Ev.congr (f := fun _ => some ([], false)) (fun k => ?_) (Ev.now _)
          unfold impl_SizesToBuy.f impl_FirstFeet.f
          rw [areFit_eq l l' a hl hl', hok]
          rfl
    · exact law_long' l l' a hl hl'
  · exact law_long l l' a hl

end Go.Proofs.Ytagfnpocloaojaa.PureSizesToBuy
namespace Go.Proofs.Ytagfnpocloaojaa.Pure
theorem FnExactSizesToBuy : Go.Proofs.Ytagfnpocloaojaa.QSizesToBuy.laws_FnExactSizesToBuy.Pure := Go.Proofs.Ytagfnpocloaojaa.PureSizesToBuy.law
end Go.Proofs.Ytagfnpocloaojaa.Pure
