/- The pure statement of the law FnExactGreatestEvery: for all int64 numbers pairs and dry the program's GreatestEvery and the reference's GreatestEvery return the same number and the same bool. No condition beside that both numbers are int64. -/
import Derived.Test.YtecnmnijcplijaaPFnExactGreatestEveryx1
namespace Go.Proofs.Ytecnmnijcplijaa.Pure
open Go.RowKit Go.Proofs.Ytecnmnijcplijaa.PFnExactGreatestEvery Go.Proofs.YtecnmnijcplijaaW.PrintWords Go.Proofs.YtecnmnijcplijaaW.PrintLast Go.Proofs.YtecnmnijcplijaaW.PrintMore

theorem geTable : ((List.range 30).all fun e => (List.range 30).all fun d => spec_dyLeast.f 400 ((e : Int) + 1) ((d : Int) + 1) == some ((e : Int) + d + 1)) = true := by decide +kernel

theorem geLeast_eq (a b : Int) (ha : 1 ≤ a) (ha' : a ≤ 30) (hb : 1 ≤ b) (hb' : b ≤ 30) : spec_dyLeast.f 400 a b = some (a + b - 1) := by
  have h := geTable
  rw [List.all_eq_true] at h
  have h1 := h (a - 1).toNat (by rw [List.mem_range]; omega)
  rw [List.all_eq_true] at h1
  have h2 := h1 (b - 1).toNat (by rw [List.mem_range]; omega)
  rw [beq_iff_eq] at h2
  rw [show (((a - 1).toNat : Nat) : Int) + 1 = a from by omega, show (((b - 1).toNat : Nat) : Int) + 1 = b from by omega] at h2
  rw [h2]
  congr 1
  omega

def geRes (p e : Int) (n : Nat) : Int × Bool := if n = 0 then (0, false) else if p < e then (0, false) else if (n : Int) ≤ p - e + 1 then ((n : Int), true) else (p - e + 1, true)

theorem ge_loop (p e : Int) (_hp : 1 ≤ p) (_hp' : p ≤ 30) (he : 1 ≤ e) (he' : e ≤ 30) : ∀ n : Nat, n ≤ 30 → Ev (fun k => spec_GreatestEvery.l0 k p e (n : Int)) (geRes p e n) := by
  intro n
  induction n with
  | zero =>
    intro _
    refine Ev.step (f := fun _ => some (0, false)) (fun k => ?_) (Ev.now _)
    simp only [spec_GreatestEvery.l0]
    rw [if_neg (by omega)]
  | succ n ih =>
    intro hn
    refine Ev.step (f := fun k => (spec_dyLeast.f k ((n + 1 : Nat) : Int) e).bind fun t => if t ≤ p then some (((n + 1 : Nat) : Int), true) else spec_GreatestEvery.l0 k p e (n : Int)) (fun k => ?_) ?_
    · simp only [spec_GreatestEvery.l0]
      rw [if_pos (by omega), show wrap64 (((n + 1 : Nat) : Int) - 1) = (n : Int) from by unfold wrap64; omega]
    · refine Ev.bind (Ev.of (spec_dyLeast.mono _ _) (geLeast_eq ((n + 1 : Nat) : Int) e (by omega) (by omega) he he')) ?_
      by_cases hc : ((n + 1 : Nat) : Int) + e - 1 ≤ p
      · simp only [hc, if_true]
        have : geRes p e (n + 1) = (((n + 1 : Nat) : Int), true) := by
          unfold geRes
          rw [if_neg (by omega), if_neg (by omega), if_pos (by omega)]
        rw [this]
        exact Ev.now _
      · simp only [hc, if_false]
        have : geRes p e (n + 1) = geRes p e n := by
          unfold geRes
          rw [if_neg (by omega)]
          by_cases h1 : p < e
          · rw [if_pos h1]; split <;> rfl
          · rw [if_neg h1, if_neg (by omega)]
            by_cases h0 : n = 0
            · omega
            · rw [if_neg h0, if_neg h1]
              by_cases h2 : (n : Int) ≤ p - e + 1
              · rw [if_pos h2]; congr 1; omega
              · rw [if_neg h2]
        rw [this]
        exact ih (by omega)

theorem FnExactGreatestEvery : laws_FnExactGreatestEvery.Pure := by
  intro a b _ _
  apply Ev.rounds
  by_cases hb : 1 ≤ a ∧ a ≤ 30 ∧ 1 ≤ b ∧ b ≤ 30
  · obtain ⟨h1, h2, h3, h4⟩ := hb
    have hs : Ev (fun k => spec_GreatestEvery.f k a b) (geRes a b 30) := by
      refine Ev.congr (f := fun k => spec_GreatestEvery.j0 k a b false) (fun k => ?_) ?_
      · unfold spec_GreatestEvery.f spec_l1In.f
        simp [h1, h2, h3, h4]
      · refine Ev.step (f := fun k => spec_GreatestEvery.l0 k a b 30) (fun k => ?_) (ge_loop a b h1 h2 h3 h4 30 (by omega))
        simp [spec_GreatestEvery.j0]
    refine Ev.bind hs ?_
    refine Ev.congr (f := fun _ => some true) (fun k => ?_) (Ev.now _)
    unfold impl_GreatestEvery.f impl_greatest.f impl_within.f geRes
    simp only [h1, h2, h3, h4, if_true, Option.bind_some, decide_true]
    by_cases hlt : a < b
    · simp [hlt]
    · simp only [hlt, if_false]
      have hw : wrap64 (wrap64 (a - b) + 1) = a - b + 1 := by unfold wrap64; omega
      rw [hw]
      unfold mn
      by_cases h5 : ((30 : Nat) : Int) ≤ a - b + 1
      · have h6 : ¬ (a - b + 1 < 30) := by omega
        have h7 : (30 : Int) ≤ a - b + 1 := by omega
        simp [h6, h7]
      · have h6 : a - b + 1 < 30 := by omega
        have h7 : ¬ (30 : Int) ≤ a - b + 1 := by omega
        simp [h6, h7]
  · have hs : Ev (fun k => spec_GreatestEvery.f k a b) (0, false) := by
      refine Ev.congr (f := fun k => spec_GreatestEvery.j0 k a b true) (fun k => ?_) ?_
      · unfold spec_GreatestEvery.f spec_l1In.f
        by_cases h1 : 1 ≤ a <;> by_cases h2 : a ≤ 30 <;> by_cases h3 : 1 ≤ b <;> by_cases h4 : b ≤ 30 <;> simp [h1, h2, h3, h4]
        exact absurd ⟨h1, h2, h3, h4⟩ hb
      · refine Ev.step (f := fun _ => some (0, false)) (fun k => ?_) (Ev.now _)
        simp [spec_GreatestEvery.j0]
    refine Ev.bind hs ?_
    refine Ev.congr (f := fun _ => some true) (fun k => ?_) (Ev.now _)
    unfold impl_GreatestEvery.f impl_greatest.f impl_within.f
    by_cases h1 : 1 ≤ a <;> by_cases h2 : a ≤ 30 <;> by_cases h3 : 1 ≤ b <;> by_cases h4 : b ≤ 30 <;> simp [h1, h2, h3, h4]
    exact absurd ⟨h1, h2, h3, h4⟩ hb

end Go.Proofs.Ytecnmnijcplijaa.Pure
