/- The pure statement of the law FnExactCountPiles: for every int64 number pairs the program's CountPiles and the reference's CountPiles return the same number and the same bool. No condition beside that the number is int64. -/
import Derived.Test.YtecnmnijcplijaaQCountPilesx1
namespace Go.Proofs.Ytecnmnijcplijaa.Pure
open Go.RowKit Go.Proofs.Ytecnmnijcplijaa.QCountPiles Go.Proofs.Ytecnmnijcplijaa.QCountPW Go.Proofs.YtecnmnijcplijaaW.PrintWords Go.Proofs.YtecnmnijcplijaaW.PrintLast Go.Proofs.YtecnmnijcplijaaW.PrintMore

theorem cpTable : ((List.range 8).all fun p => laws_FnExactCountPiles.f 600 ((p : Int) + 1) == some true) = true := by decide +kernel

theorem FnExactCountPiles : laws_FnExactCountPiles.Pure := by
  intro a _
  by_cases hb : 1 ≤ a ∧ a ≤ 8
  · obtain ⟨h1, h2⟩ := hb
    refine ⟨600, ?_⟩
    have h := cpTable
    rw [List.all_eq_true] at h
    have h3 := h (a - 1).toNat (by rw [List.mem_range]; omega)
    rw [beq_iff_eq] at h3
    rw [show (((a - 1).toNat : Nat) : Int) + 1 = a from by omega] at h3
    exact h3
  · refine ⟨600, ?_⟩
    unfold laws_FnExactCountPiles.f spec_CountPiles.f spec_piPairs.f spec_l1In.f impl_CountPiles.f impl_CountPilesWithin.f impl_isPilePairs.f impl_within.f
    by_cases h1 : 1 ≤ a <;> by_cases h2 : a ≤ 8 <;> simp [h1, h2, impl_CountPilesWithin.j0]
    exact absurd ⟨h1, h2⟩ hb

end Go.Proofs.Ytecnmnijcplijaa.Pure
