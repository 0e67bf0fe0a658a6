/- The pure statement of the law FnExactCountPilesWithin: for all int64 numbers pairs and most the program's CountPilesWithin and the reference's CountPilesWithin return the same number and the same bool. No condition beside that both numbers are int64. -/
import Derived.Test.YtecnmnijcplijaaQCountPilesWithinx1
namespace Go.Proofs.Ytecnmnijcplijaa.Pure
open Go.RowKit Go.Proofs.Ytecnmnijcplijaa.QCountPilesWithin Go.Proofs.Ytecnmnijcplijaa.QCountPW Go.Proofs.YtecnmnijcplijaaW.PrintWords Go.Proofs.YtecnmnijcplijaaW.PrintLast Go.Proofs.YtecnmnijcplijaaW.PrintMore

theorem cwTable : ((List.range 8).all fun p => (List.range (p + 2)).all fun m => laws_FnExactCountPilesWithin.f 600 ((p : Int) + 1) (m : Int) == some true) = true := by decide +kernel

theorem cw_spec (p m : Int) (hp : p ≤ 8) (hm : p ≤ m) : ∀ k (u l : Int), 0 ≤ u → 0 ≤ l → u + l ≤ p → spec_piCount.f k u l m = spec_piCount.f k u l p ∧ ∀ b, spec_piCount.j0 k u l m b = spec_piCount.j0 k u l p b := by
  intro k
  induction k with
  | zero => intro u l _ _ _; exact ⟨by simp only [spec_piCount.f], fun b => by simp only [spec_piCount.j0]⟩
  | succ k ih =>
    intro u l hu hl hul
    refine ⟨?_, fun b => ?_⟩
    · simp only [spec_piCount.f]
      rw [if_neg (show ¬ l > m by omega), if_neg (show ¬ l > p by omega), (ih u l hu hl hul).2 (l == 0), (ih u l hu hl hul).2 false]
    · simp only [spec_piCount.j0]
      by_cases hb : b = true
      · rw [if_pos hb, if_pos hb]
      · rw [if_neg hb, if_neg hb]
        by_cases h1 : 0 < u
        · rw [if_pos h1, if_pos h1, show wrap64 (u - 1) = u - 1 from by unfold wrap64; omega, show wrap64 (l + 1) = l + 1 from by unfold wrap64; omega, (ih (u - 1) (l + 1) (by omega) (by omega) (by omega)).1]
          by_cases h2 : 0 < l
          · rw [show wrap64 (l - 1) = l - 1 from by unfold wrap64; omega, (ih u (l - 1) (by omega) (by omega) (by omega)).1]
          · simp only [h2, if_false]
        · rw [if_neg h1, if_neg h1]
          by_cases h2 : 0 < l
          · rw [show wrap64 (l - 1) = l - 1 from by unfold wrap64; omega, (ih u (l - 1) (by omega) (by omega) (by omega)).1]
          · simp only [h2, if_false]

theorem cw_impl (p m : Int) (hm : p ≤ m) : ∀ k, (∀ x6 x23 x24, impl_CountPilesWithin.l0 k p m x6 x23 x24 = impl_CountPilesWithin.l0 k p p x6 x23 x24) ∧ (∀ x7 x23 x24 x32 x33 x34, impl_CountPilesWithin.l1 k p m x7 x23 x24 x32 x33 x34 = impl_CountPilesWithin.l1 k p p x7 x23 x24 x32 x33 x34) := by
  intro k
  induction k with
  | zero => exact ⟨fun _ _ _ => by simp only [impl_CountPilesWithin.l0], fun _ _ _ _ _ _ => by simp only [impl_CountPilesWithin.l1]⟩
  | succ k ih =>
    obtain ⟨ih0, ih1⟩ := ih
    refine ⟨fun _ _ _ => ?_, fun _ _ _ _ _ _ => ?_⟩
    · simp only [impl_CountPilesWithin.l0, ih1]
    · simp only [impl_CountPilesWithin.l1, ih0, ih1]
      rw [show mn m p = p from by unfold mn; split <;> omega, show mn p p = p from by unfold mn; split <;> omega]

theorem FnExactCountPilesWithin : laws_FnExactCountPilesWithin.Pure := by
  intro a m _ _
  by_cases hb : 1 ≤ a ∧ a ≤ 8 ∧ 0 ≤ m
  · obtain ⟨h1, h2, h0⟩ := hb
    refine ⟨600, ?_⟩
    have h := cwTable
    rw [List.all_eq_true] at h
    have h3 := h (a - 1).toNat (by rw [List.mem_range]; omega)
    rw [List.all_eq_true] at h3
    by_cases hm : m ≤ a
    · have h4 := h3 m.toNat (by rw [List.mem_range]; omega)
      rw [beq_iff_eq] at h4
      rw [show (((a - 1).toNat : Nat) : Int) + 1 = a from by omega, show ((m.toNat : Nat) : Int) = m from by omega] at h4
      exact h4
    · have h4 := h3 a.toNat (by rw [List.mem_range]; omega)
      rw [beq_iff_eq] at h4
      rw [show (((a - 1).toNat : Nat) : Int) + 1 = a from by omega, show ((a.toNat : Nat) : Int) = a from by omega] at h4
      rw [← h4]
      unfold laws_FnExactCountPilesWithin.f spec_CountPilesWithin.f impl_CountPilesWithin.f
      rw [(cw_spec a m h2 (by omega) 600 a 0 (by omega) (by omega) (by omega)).1]
      simp only [impl_CountPilesWithin.j0, (cw_impl a m (by omega) 599).1]
      rw [show decide (m < 0) = decide (a < 0) from by rw [decide_eq_false (by omega), decide_eq_false (by omega)]]
      simp only [show ¬ m < 0 from by omega, show ¬ a < 0 from by omega]
  · refine ⟨600, ?_⟩
    unfold laws_FnExactCountPilesWithin.f spec_CountPilesWithin.f spec_piPairs.f spec_l1In.f impl_CountPilesWithin.f impl_isPilePairs.f impl_within.f
    by_cases h1 : 1 ≤ a <;> by_cases h2 : a ≤ 8 <;> by_cases h3 : m < 0 <;> simp [h1, h2, h3, impl_CountPilesWithin.j0]
    exact absurd ⟨h1, h2, by omega⟩ hb

end Go.Proofs.Ytecnmnijcplijaa.Pure
