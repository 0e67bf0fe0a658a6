/- The pure statement of the law FnExactMostLoose: for every slice of int64 numbers the program's MostLoose and the reference's MostLoose return the same results, and the argument reads afterwards as before. No condition beside the row's own reach. -/
import Derived.Test.YtlhennggbnlkpaaQMostLoosex1
import Derived.Test.YtlhennggbnlkpaaPurePile
namespace Go.Proofs.Ytlhennggbnlkpaa.PureMostLoose
open Go.RowKit Go.Proofs.Ytlhennggbnlkpaa.QMostLoose Go.Proofs.Ytlhennggbnlkpaa.QPile Go.Proofs.Ytlhennggbnlkpaa.PurePile Go.Proofs.YtlhennggbnlkpaaW.PrintWords Go.Proofs.YtlhennggbnlkpaaW.PrintLast Go.Proofs.YtlhennggbnlkpaaW.PrintMore
open Go.Proofs.Ytlhennggbnlkpaa.XHeights

/-! ### the law's own look at its argument -/
theorem law_j0 (l : List Int) (hl : l.length ≤ 1048576) : Ev (fun k => laws_FnExactMostLoose.j0 k l l false) true := by
  refine Ev.step (f := fun k => (laws_toIntS.f k l).bind fun t => (laws_eqIntS.f k l t).bind fun t2 => if t2 = true then some true else some false) (fun k => ?_) (Ev.bind (ev_toIntS l hl) (Ev.bind (ev_eqIntS l hl) ?_))
  · simp only [laws_FnExactMostLoose.j0, Bool.false_eq_true, if_false]
  · simp only [if_true]
    exact Ev.now _
theorem law_long (l : List Int) (hl : ¬ l.length ≤ 1048576) : Ev (fun k => laws_FnExactMostLoose.f k l) true := by
  refine Ev.congr (f := fun k => some true) (fun k => ?_) (Ev.now _)
  unfold laws_FnExactMostLoose.f
  rw [if_pos (by omega)]

theorem list_len (l : List Int) (h16 : l.length ≤ 16) : (0 :: hts 0 (strOfNums (shapeL l)).data.toList).length ≤ 1048576 := by
  rw [List.length_cons, hts_length, Array.length_toList]
  show (strOfNums (shapeL l)).size + 1 ≤ _
  rw [str_size, shapeL, signs_length]
  omega
theorem impl_yes (l : List Int) (hl : l.length ≤ 1048576) (hp : okPile l = true) : Ev (fun k => impl_LooseAfter.f k l) (0 :: hts 0 (strOfNums (shapeL l)).data.toList, true) := by
  obtain ⟨h16, _, _, hr, _⟩ := okPile_range l hp
  unfold impl_LooseAfter.f
  refine Ev.bind (ev_IsPile l hl) ?_
  rw [hp]
  simp only [if_true]
  refine Ev.bind (ev_shapeOf l h16 (fun x hx => by have := hr x hx; omega)) ?_
  have e : impl_heights.f (strOfNums (shapeL l)) = some (0 :: hts 0 (strOfNums (shapeL l)).data.toList) := by
    unfold impl_heights.f
    rw [if_pos ⟨by rw [str_size, shapeL, signs_length]; exact hl, shape_bytes l⟩]
  simp only [e, Option.bind_some]
  exact Ev.now _
theorem impl_no (l : List Int) (hl : l.length ≤ 1048576) (hp : okPile l = false) : Ev (fun k => impl_LooseAfter.f k l) ([], false) := by
  unfold impl_LooseAfter.f
  refine Ev.bind (ev_IsPile l hl) ?_
  rw [hp]
  simp only [Bool.false_eq_true, if_false]
  exact Ev.now _


/-- m is the greatest element, and a is the first place where it stands. -/
def Top (L : List Int) (m : Int) (a : Nat) : Prop := a < L.length ∧ rd L (a : Int) = m ∧ (∀ j : Nat, j < L.length → rd L (j : Int) ≤ m) ∧ ∀ j : Nat, j < a → rd L (j : Int) ≠ m

theorem ev_most (L : List Int) (hl : L.length ≤ 1048576) (h0 : 0 < L.length) (hz : rd L ((0 : Nat) : Int) = 0) : ∃ (m : Int) (a : Nat), Top L m a ∧ Ev (fun k => spec_MostLoose.l0 k 0 0 L (L.length : Int) 0) (m, (a : Int), true) := by
  have h : ∀ i, i ≤ L.length → ∀ (m : Int) (a : Nat), a < i → rd L (a : Int) = m → (∀ j : Nat, j < i → rd L (j : Int) ≤ m) → (∀ j : Nat, j < a → rd L (j : Int) ≠ m) →
      ∃ (m' : Int) (a' : Nat), Top L m' a' ∧ Ev (fun k => spec_MostLoose.l0 k m (a : Int) L (L.length : Int) (i : Int)) (m', (a' : Int), true) := by
    refine downTo L.length ?_ ?_
    · intro m a ha hm hle hne
      refine ⟨m, a, ⟨ha, hm, hle, hne⟩, Ev.step (f := fun _ => some (m, (a : Int), true)) (fun k => ?_) (Ev.now _)⟩
      simp only [spec_MostLoose.l0]
      rw [if_neg (by omega)]
    · intro i hil ih m a ha hm hle hne
      by_cases hx : rd L (i : Int) > m
      · obtain ⟨m', a', ht, he⟩ := ih (rd L (i : Int)) i (by omega) rfl (fun j hj => by
          by_cases hji : j = i
          · subst hji; exact Int.le_refl _
          · have := hle j (by omega); omega) (fun j hj => by have := hle j (by omega); omega)
        refine ⟨m', a', ht, Ev.step (f := fun k => spec_MostLoose.l0 k (rd L (i : Int)) (i : Int) L (L.length : Int) ((i + 1 : Nat) : Int)) (fun k => ?_) he⟩
        simp only [spec_MostLoose.l0]
        rw [if_pos (by omega), if_pos (by omega), if_pos (by omega), if_pos hx, wrap_succ i (by omega)]
      · obtain ⟨m', a', ht, he⟩ := ih m a (by omega) hm (fun j hj => by
          by_cases hji : j = i
          · subst hji; omega
          · exact hle j (by omega)) hne
        refine ⟨m', a', ht, Ev.step (f := fun k => spec_MostLoose.l0 k m (a : Int) L (L.length : Int) ((i + 1 : Nat) : Int)) (fun k => ?_) he⟩
        simp only [spec_MostLoose.l0]
        rw [if_pos (by omega), if_pos (by omega), if_pos (by omega), if_neg hx, wrap_succ i (by omega)]
  obtain ⟨m', a', ht, he⟩ := h 1 (by omega) 0 0 (by omega) hz (fun j hj => by
    obtain rfl : j = 0 := by omega
    rw [hz]; exact Int.le_refl _) (fun j hj => by omega)
  refine ⟨m', a', ht, Ev.step (f := fun k => spec_MostLoose.l0 k 0 ((0 : Nat) : Int) L (L.length : Int) ((1 : Nat) : Int)) (fun k => ?_) he⟩
  have hz' : rd L 0 = 0 := hz
  simp only [spec_MostLoose.l0]
  rw [if_pos (by omega), if_pos (by omega), if_pos (by omega), hz', if_neg (by omega), show wrap64 (0 + 1) = 1 from by unfold wrap64; omega]
  rfl

theorem ev_Max (L : List Int) (hl : L.length ≤ 1048576) (m : Int) (a : Nat) (ht : Top L m a) : Ev (fun k => slices_Max_int_int.f k L) m := by
  obtain ⟨ha, hm, hle, _⟩ := ht
  have h : ∀ i, i ≤ L.length → ∀ x : Int, (∀ j : Nat, j < i → rd L (j : Int) ≤ x) → (∃ j : Nat, j < L.length ∧ rd L (j : Int) = x) → Ev (fun k => slices_Max_int_int.l0 k L x (i : Int)) m := by
    refine downTo L.length ?_ ?_
    · intro x hx hj
      obtain ⟨j, hj1, hj2⟩ := hj
      have h1 := hx a ha
      have h2 := hle j hj1
      have e : x = m := by omega
      refine Ev.step (f := fun _ => some x) (fun k => ?_) (by rw [e]; exact Ev.now _)
      simp only [slices_Max_int_int.l0]
      rw [if_neg (by omega)]
    · intro i hil ih x hx hj
      refine Ev.step (f := fun k => slices_Max_int_int.l0 k L (mx x (rd L (i : Int))) ((i + 1 : Nat) : Int)) (fun k => ?_) (ih _ ?_ ?_)
      · simp only [slices_Max_int_int.l0]
        rw [if_pos (by omega), if_pos (by omega), wrap_succ i (by omega)]
      · intro j hji
        unfold mx
        by_cases e : j = i
        · subst e; split <;> omega
        · have := hx j (by omega); split <;> omega
      · unfold mx
        split
        · exact ⟨i, hil, rfl⟩
        · exact hj
  refine Ev.congr (f := fun k => slices_Max_int_int.l0 k L (rd L 0) ((1 : Nat) : Int)) (fun k => ?_) (h 1 (by omega) _ (fun j hj => by
    obtain rfl : j = 0 := by omega
    exact Int.le_refl _) ⟨0, by omega, rfl⟩)
  unfold slices_Max_int_int.f
  rw [if_neg (by omega), if_pos (by omega)]
  rfl

theorem ev_Index (L : List Int) (hl : L.length ≤ 1048576) (m : Int) (a : Nat) (ht : Top L m a) : Ev (fun k => slices_Index_int_int.f k L m) (a : Int) := by
  obtain ⟨ha, hm, _, hne⟩ := ht
  have h : ∀ i, i ≤ a → Ev (fun k => slices_Index_int_int.l0 k L m (L.length : Int) (i : Int)) (a : Int) := by
    refine downTo a ?_ ?_
    · refine Ev.step (f := fun _ => some (a : Int)) (fun k => ?_) (Ev.now _)
      simp only [slices_Index_int_int.l0]
      rw [if_pos (by omega), if_pos (by omega), if_pos (by omega), if_pos hm.symm]
    · intro i hia ih
      refine Ev.step (f := fun k => slices_Index_int_int.l0 k L m (L.length : Int) ((i + 1 : Nat) : Int)) (fun k => ?_) ih
      simp only [slices_Index_int_int.l0]
      rw [if_pos (by omega), if_pos (by omega), if_pos (by omega), if_neg (fun e => hne i hia e.symm), wrap_succ i (by omega)]
  exact h 0 (by omega)

theorem law : laws_FnExactMostLoose.Pure := by
  intro l _ _ _
  apply Ev.rounds
  by_cases hl : l.length ≤ 1048576
  · suffices h : ∃ res : (Int × Int × Bool), Ev (fun k => spec_MostLoose.f k l) res ∧ Ev (fun k => impl_MostLoose.f k l) res by
      obtain ⟨res, h1, h2⟩ := h
      refine Ev.congr (f := fun k => (laws_toIntS.f k l).bind fun t => (spec_MostLoose.f k t).bind fun b => (laws_toIntS.f k l).bind fun t2 => (impl_MostLoose.f k t2).bind fun b2 => if b2.1 = b.1 then (if b2.2.1 = b.2.1 then laws_FnExactMostLoose.j0 k l t2 (b2.2.2 != b.2.2) else laws_FnExactMostLoose.j0 k l t2 true) else laws_FnExactMostLoose.j0 k l t2 true) (fun k => ?_) ?_
      · unfold laws_FnExactMostLoose.f
        rw [if_neg (by omega)]
      · refine Ev.bind (ev_toIntS l hl) (Ev.bind h1 (Ev.bind (ev_toIntS l hl) (Ev.bind h2 ?_)))
        simp only [if_true, bne_self_eq_false]
        exact law_j0 l hl
    cases hp : okPile l with
    | true =>
      obtain ⟨h16, _, _, hr, _⟩ := okPile_range l hp
      have hlen := list_len l h16
      have hspec : ∀ (F : Nat → List Int → Option (Int × Int × Bool)) res, Ev (fun k => F k (0 :: hts 0 (strOfNums (shapeL l)).data.toList)) res → Ev (fun k => (spec_piGood.f k l).bind fun t => if t = true then (spec_piShape.f k l).bind fun t1 => (spec_piLoose.f k t1).bind fun t2 => F k t2 else some (0, 0, false)) res := by
        intro F res h
        refine Ev.bind (ev_piGood l hl) ?_
        rw [hp]
        simp only [if_true]
        exact Ev.bind (ev_piShape l hl) (Ev.bind (ev_piLoose _ (by rw [str_size, shapeL, signs_length]; exact hl)) h)
      obtain ⟨m, a, hm, he⟩ := ev_most _ hlen (by simp) (by rw [rd_get _ 0 (by simp)]; rfl)
      refine ⟨(m, (a : Int), true), ?_, ?_⟩
      · exact hspec (fun k t => spec_MostLoose.l0 k 0 0 t (t.length : Int) 0) _ he
      · unfold impl_MostLoose.f
        refine Ev.bind (impl_yes l hl hp) ?_
        simp only [if_true]
        exact Ev.bind (ev_Max _ hlen m a hm) (Ev.bind (ev_Index _ hlen m a hm) (Ev.now _))
    | false =>
      refine ⟨(0, 0, false), ?_, ?_⟩
      · unfold spec_MostLoose.f
        refine Ev.bind (ev_piGood l hl) ?_
        rw [hp]
        simp only [Bool.false_eq_true, if_false]
        exact Ev.now _
      · unfold impl_MostLoose.f
        refine Ev.bind (impl_no l hl hp) ?_
        simp only [Bool.false_eq_true, if_false]
        exact Ev.now _
  · exact law_long l hl

end Go.Proofs.Ytlhennggbnlkpaa.PureMostLoose
namespace Go.Proofs.Ytlhennggbnlkpaa.Pure
theorem FnExactMostLoose : Go.Proofs.Ytlhennggbnlkpaa.QMostLoose.laws_FnExactMostLoose.Pure := Go.Proofs.Ytlhennggbnlkpaa.PureMostLoose.law
end Go.Proofs.Ytlhennggbnlkpaa.Pure
