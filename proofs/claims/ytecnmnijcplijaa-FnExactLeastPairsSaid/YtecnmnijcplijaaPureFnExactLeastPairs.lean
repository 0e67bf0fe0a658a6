/- The pure statement of the law FnExactLeastPairs: for all int64 numbers every and dry the program's LeastPairs and the reference's LeastPairs return the same number and the same bool. No condition beside that both numbers are int64. -/
import Derived.Test.YtecnmnijcplijaaPFnExactLeastPairsx1
namespace Go.Proofs.Ytecnmnijcplijaa.Pure
open Go.RowKit Go.Proofs.Ytecnmnijcplijaa.PFnExactLeastPairs Go.Proofs.YtecnmnijcplijaaW.PrintWords Go.Proofs.YtecnmnijcplijaaW.PrintLast

theorem dyTable : ((List.range 30).all fun e => (List.range 30).all fun d => spec_dyLeast.f 400 ((e : Int) + 1) ((d : Int) + 1) == some ((e : Int) + d + 1)) = true := by decide +kernel

theorem dyLeast_eq (a b : Int) (ha : 1 ≤ a) (ha' : a ≤ 30) (hb : 1 ≤ b) (hb' : b ≤ 30) : spec_dyLeast.f 400 a b = some (a + b - 1) := by
  have h := dyTable
  rw [List.all_eq_true] at h
  have h1 := h (a - 1).toNat (by rw [List.mem_range]; omega)
  rw [List.all_eq_true] at h1
  have h2 := h1 (b - 1).toNat (by rw [List.mem_range]; omega)
  rw [beq_iff_eq] at h2
  rw [show (((a - 1).toNat : Nat) : Int) + 1 = a from by omega, show (((b - 1).toNat : Nat) : Int) + 1 = b from by omega] at h2
  rw [h2]
  congr 1
  omega

theorem FnExactLeastPairs : laws_FnExactLeastPairs.Pure := by
  intro a b _ _
  refine ⟨400, ?_⟩
  unfold laws_FnExactLeastPairs.f spec_LeastPairs.f impl_LeastPairs.f impl_areTimes.f impl_within.f spec_l1In.f
  by_cases h1 : 1 ≤ a <;> by_cases h2 : a ≤ 30 <;> by_cases h3 : 1 ≤ b <;> by_cases h4 : b ≤ 30 <;> simp [h1, h2, h3, h4]
  rw [dyLeast_eq a b h1 h2 h3 h4]
  simp
  unfold wrap64
  omega

end Go.Proofs.Ytecnmnijcplijaa.Pure
