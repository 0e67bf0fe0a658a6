/- The pure statement of the law FnExactIsWash: for every wash of three int64 numbers the program's IsWash and the reference's IsWash return the same bool. No condition beside that the numbers are int64. -/
import Derived.Test.YtecnmnijcplijaaQIsWashx1
namespace Go.Proofs.Ytecnmnijcplijaa.Pure
open Go.RowKit Go.Proofs.Ytecnmnijcplijaa.QIsWash Go.Proofs.YtecnmnijcplijaaW.PrintWords Go.Proofs.YtecnmnijcplijaaW.PrintLast

theorem FnExactIsWash : laws_FnExactIsWash.Pure := by
  intro a b c _ _ _
  unfold laws_FnExactIsWash.f laws_toWash.f spec_IsWash.f spec_dyGood.f spec_l1In.f impl_IsWash.f impl_areTimes.f impl_within.f
  by_cases h1 : 1 ≤ a <;> by_cases h2 : a ≤ 30 <;> by_cases h3 : 1 ≤ b <;> by_cases h4 : b ≤ 30 <;> by_cases h5 : 1 ≤ c <;> simp [h1, h2, h3, h4, h5]

end Go.Proofs.Ytecnmnijcplijaa.Pure
