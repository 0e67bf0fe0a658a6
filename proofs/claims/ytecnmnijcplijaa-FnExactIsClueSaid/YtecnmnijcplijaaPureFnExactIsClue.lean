/- The pure statement of the law FnExactIsClue: for every int64 number of colours and every clue of three int64 numbers the program's IsClue and the reference's IsClue return the same bool. No condition beside that the numbers are int64. -/
import Derived.Test.YtecnmnijcplijaaQIsCluex1
namespace Go.Proofs.Ytecnmnijcplijaa.Pure
open Go.RowKit Go.Proofs.Ytecnmnijcplijaa.QIsClue Go.Proofs.YtecnmnijcplijaaW.PrintWords Go.Proofs.YtecnmnijcplijaaW.PrintLast

theorem ic_spec (n a b c : Int) (h2 : 2 ≤ n) (h3 : n ≤ 3) (h0 : 0 ≤ c) (h15 : c ≤ 15) (k : Nat) :
    spec_IsClue.f (k + 1) n a b c = some (if a = 0 ∨ a = 2 ∨ a = 5 then b == 0 else if a = 1 then (decide (0 ≤ b) && decide (b ≤ n - 1)) else if a = 3 then (decide (1 ≤ b) && decide (b ≤ 6)) else if a = 4 then (decide (0 ≤ b) && decide (b ≤ n - 1) && decide (c ≤ 1)) else false) := by
  have hw : wrap64 (n - 1) = n - 1 := by unfold wrap64; omega
  have hc : decide (c < 2) = decide (c ≤ 1) := by
    by_cases h : c < 2
    · rw [decide_eq_true h, decide_eq_true (by omega)]
    · rw [decide_eq_false h, decide_eq_false (by omega)]
  unfold spec_IsClue.f spec_pzColours.f spec_pzClue.f spec_l1In.f
  simp only [h2, h3, h0, h15, ge_iff_le, if_true, decide_true, Option.bind_some, spec_pzClue.j0, spec_l1In.f, hw, hc]
  by_cases e0 : a = 0
  · subst e0; simp
  by_cases e2 : a = 2
  · subst e2; simp
  by_cases e5 : a = 5
  · subst e5; simp
  by_cases e1 : a = 1
  · subst e1; by_cases hb : 0 ≤ b <;> simp [hb]
  by_cases e3 : a = 3
  · subst e3; by_cases hb : 1 ≤ b <;> simp [hb]
  by_cases e4 : a = 4
  · subst e4; by_cases hb : 0 ≤ b <;> by_cases hb2 : b ≤ n - 1 <;> simp [hb, hb2]
  simp [e0, e1, e2, e3, e4, e5]

theorem ic_impl (n a b c : Int) (h2 : 2 ≤ n) (h3 : n ≤ 3) (h0 : 0 ≤ c) (h15 : c ≤ 15) (k : Nat) :
    impl_IsClue.f (k + 2) n a b c = some (if a = 0 ∨ a = 2 ∨ a = 5 then b == 0 else if a = 1 then (decide (0 ≤ b) && decide (b ≤ n - 1)) else if a = 3 then (decide (1 ≤ b) && decide (b ≤ 6)) else if a = 4 then (decide (0 ≤ b) && decide (b ≤ n - 1) && decide (c ≤ 1)) else false) := by
  have hw : wrap64 (n - 1) = n - 1 := by unfold wrap64; omega
  unfold impl_IsClue.f impl_isHiddenColours.f impl_within.f
  simp only [h2, h3, h0, h15, if_true, decide_true, Option.bind_some, Bool.not_true, Bool.false_eq_true, if_false, impl_IsClue.j0, impl_IsClue.j1, impl_within.f, hw]
  by_cases e0 : a = 0
  · subst e0; simp
  by_cases e2 : a = 2
  · subst e2; simp
  by_cases e5 : a = 5
  · subst e5; simp
  by_cases e1 : a = 1
  · subst e1; by_cases hb : 0 ≤ b <;> simp [hb]
  by_cases e3 : a = 3
  · subst e3; by_cases hb : 1 ≤ b <;> simp [hb]
  by_cases e4 : a = 4
  · subst e4; by_cases hb : 0 ≤ b <;> by_cases hb2 : b ≤ n - 1 <;> simp [hb, hb2]
  simp [e0, e1, e2, e3, e4, e5]

theorem FnExactIsClue : laws_FnExactIsClue.Pure := by
  intro n a b c _ _ _ _
  refine ⟨9, ?_⟩
  unfold laws_FnExactIsClue.f laws_toClue.f
  simp only [Option.bind_some]
  by_cases h : 2 ≤ n ∧ n ≤ 3 ∧ 0 ≤ c ∧ c ≤ 15
  · obtain ⟨h2, h3, h0, h15⟩ := h
    rw [ic_spec n a b c h2 h3 h0 h15 8, ic_impl n a b c h2 h3 h0 h15 7]
    simp
  · unfold spec_IsClue.f spec_pzColours.f spec_pzClue.f spec_l1In.f impl_IsClue.f impl_isHiddenColours.f impl_within.f
    by_cases h2 : 2 ≤ n <;> by_cases h3 : n ≤ 3 <;> by_cases h0 : 0 ≤ c <;> by_cases h15 : c ≤ 15 <;> simp [h2, h3, h0, h15, impl_IsClue.j0]
    exact absurd ⟨h2, h3, h0, h15⟩ h

end Go.Proofs.Ytecnmnijcplijaa.Pure
