/- The pure statement of the law FnExactSumOfLoose: for every slice of int64 numbers the program's SumOfLoose and the reference's SumOfLoose return the same results, and the argument reads afterwards as before. No condition beside the row's own reach. -/
import Derived.Test.YtlhennggbnlkpaaQSumOfLoosex1
import Derived.Test.YtlhennggbnlkpaaPurePile
namespace Go.Proofs.Ytlhennggbnlkpaa.PureSumOfLoose
open Go.RowKit Go.Proofs.Ytlhennggbnlkpaa.QSumOfLoose Go.Proofs.Ytlhennggbnlkpaa.QPile Go.Proofs.Ytlhennggbnlkpaa.PurePile Go.Proofs.YtlhennggbnlkpaaW.PrintWords Go.Proofs.YtlhennggbnlkpaaW.PrintLast Go.Proofs.YtlhennggbnlkpaaW.PrintMore
open Go.Proofs.Ytlhennggbnlkpaa.XHeights

/-! ### the law's own look at its argument -/
theorem law_j0 (l : List Int) (hl : l.length ≤ 1048576) : Ev (fun k => laws_FnExactSumOfLoose.j0 k l l false) true := by
  refine Ev.step (f := fun k => (laws_toIntS.f k l).bind fun t => (laws_eqIntS.f k l t).bind fun t2 => if t2 = true then some true else some false) (fun k => ?_) (Ev.bind (ev_toIntS l hl) (Ev.bind (ev_eqIntS l hl) ?_))
  · simp only [laws_FnExactSumOfLoose.j0, Bool.false_eq_true, if_false]
  · simp only [if_true]
    exact Ev.now _
theorem law_long (l : List Int) (hl : ¬ l.length ≤ 1048576) : Ev (fun k => laws_FnExactSumOfLoose.f k l) true := by
  refine Ev.congr (f := fun k => some true) (fun k => ?_) (Ev.now _)
  unfold laws_FnExactSumOfLoose.f
  rw [if_pos (by omega)]

theorem list_len (l : List Int) (h16 : l.length ≤ 16) : (0 :: hts 0 (strOfNums (shapeL l)).data.toList).length ≤ 1048576 := by
  rw [List.length_cons, hts_length, Array.length_toList]
  show (strOfNums (shapeL l)).size + 1 ≤ _
  rw [str_size, shapeL, signs_length]
  omega
theorem impl_yes (l : List Int) (hl : l.length ≤ 1048576) (hp : okPile l = true) : Ev (fun k => impl_LooseAfter.f k l) (0 :: hts 0 (strOfNums (shapeL l)).data.toList, true) := by
  obtain ⟨h16, _, _, hr, _⟩ := okPile_range l hp
  unfold impl_LooseAfter.f
  refine Ev.bind (ev_IsPile l hl) ?_
  rw [hp]
  simp only [if_true]
  refine Ev.bind (ev_shapeOf l h16 (fun x hx => by have := hr x hx; omega)) ?_
  have e : impl_heights.f (strOfNums (shapeL l)) = some (0 :: hts 0 (strOfNums (shapeL l)).data.toList) := by
    unfold impl_heights.f
    rw [if_pos ⟨by rw [str_size, shapeL, signs_length]; exact hl, shape_bytes l⟩]
  simp only [e, Option.bind_some]
  exact Ev.now _
theorem impl_no (l : List Int) (hl : l.length ≤ 1048576) (hp : okPile l = false) : Ev (fun k => impl_LooseAfter.f k l) ([], false) := by
  unfold impl_LooseAfter.f
  refine Ev.bind (ev_IsPile l hl) ?_
  rw [hp]
  simp only [Bool.false_eq_true, if_false]
  exact Ev.now _


/-- The sum, as int64 adds. -/
def wsum : Int → List Int → Int
  | a, [] => a
  | a, x :: xs => wsum (wrap64 (a + x)) xs
theorem ev_soSum (l : List Int) (hl : l.length ≤ 1048576) : Ev (fun k => spec_soSum.f k l) (wsum 0 l) := by
  have h : ∀ i, i ≤ l.length → ∀ a, Ev (fun k => spec_soSum.l0 k a l (l.length : Int) (i : Int)) (wsum a (l.drop i)) := by
    refine downTo l.length ?_ ?_
    · intro a
      refine Ev.step (f := fun _ => some a) (fun k => ?_) (by rw [List.drop_length]; exact Ev.now _)
      simp only [spec_soSum.l0]
      rw [if_neg (by omega)]
    · intro i hil ih a
      rw [drop_cons l i hil, wsum]
      refine Ev.step (f := fun k => spec_soSum.l0 k (wrap64 (a + rd l (i : Int))) l (l.length : Int) ((i + 1 : Nat) : Int)) (fun k => ?_) (ih _)
      simp only [spec_soSum.l0]
      rw [if_pos (by omega), if_pos (by omega), if_pos (by omega), wrap_succ i (by omega)]
  exact h 0 (by omega) 0
theorem ev_total (l : List Int) (hl : l.length ≤ 1048576) : Ev (fun k => impl_total.f k l) (wsum 0 l) := by
  have h : ∀ i, i ≤ l.length → ∀ a, Ev (fun k => impl_total.l0 k a l (l.length : Int) (i : Int)) (wsum a (l.drop i)) := by
    refine downTo l.length ?_ ?_
    · intro a
      refine Ev.step (f := fun _ => some a) (fun k => ?_) (by rw [List.drop_length]; exact Ev.now _)
      simp only [impl_total.l0]
      rw [if_neg (by omega)]
    · intro i hil ih a
      rw [drop_cons l i hil, wsum]
      refine Ev.step (f := fun k => impl_total.l0 k (wrap64 (a + rd l (i : Int))) l (l.length : Int) ((i + 1 : Nat) : Int)) (fun k => ?_) (ih _)
      simp only [impl_total.l0]
      rw [if_pos (by omega), if_pos (by omega), if_pos (by omega), wrap_succ i (by omega)]
  exact h 0 (by omega) 0

theorem law : laws_FnExactSumOfLoose.Pure := by
  intro l _ _ _
  apply Ev.rounds
  by_cases hl : l.length ≤ 1048576
  · suffices h : ∃ res : (Int × Bool), Ev (fun k => spec_SumOfLoose.f k l) res ∧ Ev (fun k => impl_SumOfLoose.f k l) res by
      obtain ⟨res, h1, h2⟩ := h
      refine Ev.congr (f := fun k => (laws_toIntS.f k l).bind fun t => (spec_SumOfLoose.f k t).bind fun b => (laws_toIntS.f k l).bind fun t2 => (impl_SumOfLoose.f k t2).bind fun b2 => if b2.1 = b.1 then laws_FnExactSumOfLoose.j0 k l t2 (b2.2 != b.2) else laws_FnExactSumOfLoose.j0 k l t2 true) (fun k => ?_) ?_
      · unfold laws_FnExactSumOfLoose.f
        rw [if_neg (by omega)]
      · refine Ev.bind (ev_toIntS l hl) (Ev.bind h1 (Ev.bind (ev_toIntS l hl) (Ev.bind h2 ?_)))
        simp only [if_true, bne_self_eq_false]
        exact law_j0 l hl
    cases hp : okPile l with
    | true =>
      obtain ⟨h16, _, _, hr, _⟩ := okPile_range l hp
      have hlen := list_len l h16
      have hspec : ∀ (F : Nat → List Int → Option (Int × Bool)) res, Ev (fun k => F k (0 :: hts 0 (strOfNums (shapeL l)).data.toList)) res → Ev (fun k => (spec_piGood.f k l).bind fun t => if t = true then (spec_piShape.f k l).bind fun t1 => (spec_piLoose.f k t1).bind fun t2 => F k t2 else some (0, false)) res := by
        intro F res h
        refine Ev.bind (ev_piGood l hl) ?_
        rw [hp]
        simp only [if_true]
        exact Ev.bind (ev_piShape l hl) (Ev.bind (ev_piLoose _ (by rw [str_size, shapeL, signs_length]; exact hl)) h)
      refine ⟨(wsum 0 (0 :: hts 0 (strOfNums (shapeL l)).data.toList), true), ?_, ?_⟩
      · exact hspec (fun k t => (spec_soSum.f k t).bind fun s => some (s, true)) _ (Ev.bind (ev_soSum _ hlen) (Ev.now _))
      · unfold impl_SumOfLoose.f
        exact Ev.bind (impl_yes l hl hp) (Ev.bind (ev_total _ hlen) (Ev.now _))
    | false =>
      refine ⟨(0, false), ?_, ?_⟩
      · unfold spec_SumOfLoose.f
        refine Ev.bind (ev_piGood l hl) ?_
        rw [hp]
        simp only [Bool.false_eq_true, if_false]
        exact Ev.now _
      · unfold impl_SumOfLoose.f
        refine Ev.bind (impl_no l hl hp) ?_
        exact Ev.bind (ev_total [] (by simp)) (Ev.now _)
  · exact law_long l hl

end Go.Proofs.Ytlhennggbnlkpaa.PureSumOfLoose
namespace Go.Proofs.Ytlhennggbnlkpaa.Pure
theorem FnExactSumOfLoose : Go.Proofs.Ytlhennggbnlkpaa.QSumOfLoose.laws_FnExactSumOfLoose.Pure := Go.Proofs.Ytlhennggbnlkpaa.PureSumOfLoose.law
end Go.Proofs.Ytlhennggbnlkpaa.Pure
