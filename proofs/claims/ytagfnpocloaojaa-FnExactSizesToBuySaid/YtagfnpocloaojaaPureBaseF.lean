/- Plain laws that several statements of this seat share: what the Lean functions of the helpers come to. No program and no memory stands in it. Conditions stand in each statement. -/
import Derived.Test.YtagfnpocloaojaaQBasex
import Derived.Test.YtagfnpocloaojaaQSizesx
import Derived.Test.YtagfnpocloaojaaXWithin
namespace Go.Proofs.Ytagfnpocloaojaa.PureBaseF
open Go.RowKit Go.Proofs.Ytagfnpocloaojaa.QBase Go.Proofs.YtagfnpocloaojaaW.PrintWords Go.Proofs.YtagfnpocloaojaaW.PrintLast Go.Proofs.YtagfnpocloaojaaW.PrintMore Go.Proofs.Ytagfnpocloaojaa.QSizes Go.Proofs.Ytagfnpocloaojaa.XWithin

theorem downTo {P : Nat → Prop} (n : Nat) (h0 : P n) (hs : ∀ i, i < n → P (i + 1) → P i) : ∀ i, i ≤ n → P i := by
  intro i hi
  obtain ⟨d, rfl⟩ : ∃ d, n = i + d := ⟨n - i, by omega⟩
  induction d generalizing i with
  | zero => exact h0
  | succ d ih => exact hs i (by omega) (ih (i + 1) (by rw [show i + 1 + d = i + (d + 1) from by omega]; exact h0) (by rw [show i + 1 + d = i + (d + 1) from by omega]; exact hs) (by omega))
theorem rd_nat (l : List Int) (i : Nat) : rd l (i : Int) = l.getD i 0 := by unfold rd; rw [Int.toNat_natCast]
theorem rd_get (l : List Int) (i : Nat) (h : i < l.length) : rd l (i : Int) = l[i] := by rw [rd_nat, List.getD_eq_getElem?_getD, List.getElem?_eq_getElem h]; rfl
theorem drop_cons (l : List Int) (i : Nat) (h : i < l.length) : l.drop i = rd l (i : Int) :: l.drop (i + 1) := by rw [rd_get l i h]; exact List.drop_eq_getElem_cons h
theorem wrap_succ (i : Nat) (h : i < 9223372036854775807) : wrap64 ((i : Int) + 1) = ((i + 1 : Nat) : Int) := by unfold wrap64; omega

theorem ev_l1In (x lo hi : Int) : spec_l1In.f x lo hi = some (decide (lo ≤ x) && decide (x ≤ hi)) := by
  unfold spec_l1In.f
  by_cases h : lo ≤ x <;> simp [h]

theorem ev_l1All (l : List Int) (lo hi : Int) (hl : l.length < 9223372036854775807) : Ev (fun k => spec_l1All.f k l lo hi) (l.all fun x => decide (lo ≤ x) && decide (x ≤ hi)) := by
  unfold spec_l1All.f
  have h : ∀ i, i ≤ l.length → Ev (fun k => spec_l1All.l0 k lo hi l (l.length : Int) (i : Int)) ((l.drop i).all fun x => decide (lo ≤ x) && decide (x ≤ hi)) := by
    refine downTo l.length ?_ ?_
    · refine Ev.step (f := fun _ => some true) (fun k => ?_) (by rw [List.drop_length]; exact Ev.now _)
      simp only [spec_l1All.l0]
      rw [if_neg (by omega)]
    · intro i hil ih
      rw [drop_cons l i hil, List.all_cons]
      by_cases hx : (decide (lo ≤ rd l i) && decide (rd l i ≤ hi)) = true
      · rw [hx, Bool.true_and]
        refine Ev.step (f := fun k => spec_l1All.l0 k lo hi l (l.length : Int) ((i + 1 : Nat) : Int)) (fun k => ?_) ih
        simp only [spec_l1All.l0]
        rw [if_pos (by omega), if_pos (by omega), if_pos (by omega), ev_l1In, hx, wrap_succ i (by omega)]
        simp only [Option.bind_some, if_true]
      · rw [Bool.not_eq_true] at hx
        rw [hx, Bool.false_and]
        refine Ev.step (f := fun k => some false) (fun k => ?_) (Ev.now _)
        simp only [spec_l1All.l0]
        rw [if_pos (by omega), if_pos (by omega), if_pos (by omega), ev_l1In, hx]
        simp
  exact h 0 (by omega)

theorem within_eq (x lo hi : Int) : impl_within.f x lo hi = some (decide (lo ≤ x) && decide (x ≤ hi)) := by
  unfold impl_within.f
  by_cases h : lo ≤ x <;> simp [h]

theorem rd_set (o : List Int) (x y v : Int) (hx : 0 ≤ x) (hx' : x < o.length) (hy : 0 ≤ y) : rd (o.set x.toNat v) y = if x = y then v else rd o y := by
  unfold rd
  rw [List.getD_eq_getElem?_getD, List.getD_eq_getElem?_getD, List.getElem?_set]
  by_cases h : x = y
  · subst h
    rw [if_pos rfl, if_pos (by omega), if_pos rfl]; rfl
  · rw [if_neg (by omega), if_neg h]

theorem ev_toIntS (l : List Int) (hl : l.length ≤ 1048576) : Ev (fun k => laws_toIntS.f k l) l := by
  have h : ∀ i, i ≤ l.length → ∀ o : List Int, o.length = l.length → (∀ j, j < i → o.getD j 0 = l.getD j 0) → Ev (fun k => laws_toIntS.l0 k l o (i : Int)) l := by
    refine downTo l.length ?_ ?_
    · intro o ho hj
      have e : o = l := List.ext_getElem ho fun j h1 h2 => by
        have := hj j h2
        rwa [List.getD_eq_getElem?_getD, List.getD_eq_getElem?_getD, List.getElem?_eq_getElem h1, List.getElem?_eq_getElem h2] at this
      refine Ev.step (f := fun _ => some o) (fun k => ?_) (by rw [e]; exact Ev.now _)
      simp only [laws_toIntS.l0]
      rw [if_neg (by omega)]
    · intro i hi ih o ho hj
      refine Ev.step (f := fun k => laws_toIntS.l0 k l (o.set i (rd l (i : Int))) ((i + 1 : Nat) : Int)) (fun k => ?_) (ih _ (by rw [List.length_set]; exact ho) ?_)
      · simp only [laws_toIntS.l0]
        rw [if_pos (by omega), if_pos (by omega), if_pos (by omega), wrap_succ i (by omega), Int.toNat_natCast]
      · intro j hji
        rw [List.getD_eq_getElem?_getD, List.getElem?_set]
        by_cases e : i = j
        · subst e
          rw [if_pos rfl, if_pos (by omega), rd_nat]; rfl
        · rw [if_neg e, ← List.getD_eq_getElem?_getD]
          exact hj j (by omega)
  refine Ev.congr (f := fun k => laws_toIntS.l0 k l (List.replicate l.length 0) 0) (fun k => ?_) (h 0 (by omega) _ (by simp) (fun j hj => by omega))
  unfold laws_toIntS.f
  rw [if_pos (by omega), if_pos (by omega), Int.toNat_natCast]

theorem ev_eqIntS (l : List Int) (hl : l.length ≤ 1048576) : Ev (fun k => laws_eqIntS.f k l l) true := by
  have h : ∀ i, i ≤ l.length → Ev (fun k => laws_eqIntS.l0 k l l (i : Int)) true := by
    refine downTo l.length ?_ ?_
    · refine Ev.step (f := fun _ => some true) (fun k => ?_) (Ev.now _)
      simp only [laws_eqIntS.l0]
      rw [if_neg (by omega)]
    · intro i hi ih
      refine Ev.step (f := fun k => laws_eqIntS.l0 k l l ((i + 1 : Nat) : Int)) (fun k => ?_) ih
      simp only [laws_eqIntS.l0]
      rw [if_pos (by omega), if_pos (by omega), if_pos (by omega), if_pos trivial, wrap_succ i (by omega)]
  refine Ev.congr (f := fun k => laws_eqIntS.l0 k l l 0) (fun k => ?_) (h 0 (by omega))
  unfold laws_eqIntS.f
  rw [if_pos rfl]

theorem take_snoc (l : List Int) (i : Nat) (h : i < l.length) : l.take (i + 1) = l.take i ++ [rd l (i : Int)] := by
  rw [rd_get l i h, List.take_succ_eq_append_getElem h]

theorem ev_l1Has (l : List Int) (x : Int) (hl : l.length < 9223372036854775807) : Ev (fun k => spec_l1Has.f k l x) (decide (x ∈ l)) := by
  have h : ∀ i, i ≤ l.length → Ev (fun k => spec_l1Has.l0 k x l (l.length : Int) (i : Int)) (decide (x ∈ l.drop i)) := by
    refine downTo l.length ?_ ?_
    · refine Ev.step (f := fun _ => some false) (fun k => ?_) (by rw [List.drop_length]; simpa using Ev.now false)
      simp only [spec_l1Has.l0]
      rw [if_neg (by omega)]
    · intro i hil ih
      rw [drop_cons l i hil]
      by_cases hx : rd l (i : Int) = x
      · refine Ev.step (f := fun _ => some true) (fun k => ?_) (by rw [decide_eq_true (List.mem_cons.2 (.inl hx.symm))]; exact Ev.now _)
        simp only [spec_l1Has.l0]
        rw [if_pos (by omega), if_pos (by omega), if_pos (by omega), if_pos hx]
      · have e : decide (x ∈ rd l (i : Int) :: l.drop (i + 1)) = decide (x ∈ l.drop (i + 1)) := by
          simp [List.mem_cons, show ¬ x = rd l (i : Int) from fun e => hx e.symm]
        rw [e]
        refine Ev.step (f := fun k => spec_l1Has.l0 k x l (l.length : Int) ((i + 1 : Nat) : Int)) (fun k => ?_) ih
        simp only [spec_l1Has.l0]
        rw [if_pos (by omega), if_pos (by omega), if_pos (by omega), if_neg hx, wrap_succ i (by omega)]
  exact h 0 (by omega)

theorem ev_heldIntS (l : List Int) (hl : l.length ≤ 1048576) (hm : ∀ j, j < l.length → l.getD j 0 = (j : Int) + 1) : Ev (fun k => laws_heldIntS.f k l 1) ((l.length : Int) + 1) := by
  have h : ∀ i, i ≤ l.length → Ev (fun k => laws_heldIntS.l0 k l ((i : Int) + 1) (i : Int)) ((l.length : Int) + 1) := by
    refine downTo l.length ?_ ?_
    · refine Ev.step (f := fun _ => some ((l.length : Int) + 1)) (fun k => ?_) (Ev.now _)
      simp only [laws_heldIntS.l0]
      rw [if_neg (by omega)]
    · intro i hil ih
      refine Ev.step (f := fun k => laws_heldIntS.l0 k l (((i + 1 : Nat) : Int) + 1) ((i + 1 : Nat) : Int)) (fun k => ?_) ih
      simp only [laws_heldIntS.l0]
      rw [if_pos (by omega), if_pos (by omega), if_pos (by rw [rd_nat]; exact hm i hil), wrap_succ i (by omega), show wrap64 ((i : Int) + 1 + 1) = ((i + 1 : Nat) : Int) + 1 from by unfold wrap64; omega]
  exact h 0 (by omega)

def okSizes (l : List Int) : Bool := decide (1 ≤ l.length) && decide (l.length ≤ 7) && l.all fun x => decide (1 ≤ x) && decide (x ≤ 60)
theorem okSizes_is (l : List Int) (h : okSizes l = true) : 1 ≤ l.length ∧ l.length ≤ 7 ∧ ∀ x ∈ l, 1 ≤ x ∧ x ≤ 60 := by
  unfold okSizes at h
  simp only [Bool.and_eq_true, decide_eq_true_eq, List.all_eq_true] at h
  exact ⟨h.1.1, h.1.2, h.2⟩
theorem ev_shGood (l : List Int) (hl : l.length ≤ 1048576) : Ev (fun k => spec_shGood.f k l) (okSizes l) := by
  have e1 : (decide ((1 : Int) ≤ (l.length : Int)) && decide ((l.length : Int) ≤ 7)) = (decide (1 ≤ l.length) && decide (l.length ≤ 7)) := by
    congr 1 <;> (rw [decide_eq_decide]; omega)
  refine Ev.congr (f := fun k => if (decide (1 ≤ l.length) && decide (l.length ≤ 7)) = true then (spec_l1All.f k l 1 60).bind fun t => some t else some false) (fun k => ?_) ?_
  · unfold spec_shGood.f
    rw [ev_l1In, e1]
    rfl
  · unfold okSizes
    by_cases h : (decide (1 ≤ l.length) && decide (l.length ≤ 7)) = true
    · rw [h, Bool.true_and]
      simp only [if_true]
      exact Ev.bind (ev_l1All l 1 60 (by omega)) (Ev.now _)
    · rw [Bool.eq_false_iff.mpr h, Bool.false_and]
      simp only [Bool.false_eq_true, if_false]
      exact Ev.now _
theorem areSizes_eq (l : List Int) (hl : l.length ≤ 1048576) : impl_AreSizes.f l = some (okSizes l) := by
  have e1 : (decide ((1 : Int) ≤ (l.length : Int)) && decide ((l.length : Int) ≤ 7)) = (decide (1 ≤ l.length) && decide (l.length ≤ 7)) := by
    congr 1 <;> (rw [decide_eq_decide]; omega)
  unfold impl_AreSizes.f okSizes impl_areWithin.f
  rw [within_eq, e1, if_pos hl]
  by_cases h : (decide (1 ≤ l.length) && decide (l.length ≤ 7)) = true
  · rw [h]; simp
  · rw [Bool.eq_false_iff.mpr h]; simp
def Fine (l : List Int) : Prop := ∀ i : Int, 0 ≤ i → i < (l.length : Int) → 1 ≤ rd l i ∧ rd l i ≤ 60
theorem fine_of (l : List Int) (h : okSizes l = true) : Fine l := by
  intro i h0 h1
  obtain ⟨n, rfl⟩ : ∃ n : Nat, i = (n : Int) := ⟨i.toNat, by omega⟩
  rw [rd_get l n (by omega)]
  exact (okSizes_is l h).2.2 _ (List.getElem_mem _)

end Go.Proofs.Ytagfnpocloaojaa.PureBaseF
