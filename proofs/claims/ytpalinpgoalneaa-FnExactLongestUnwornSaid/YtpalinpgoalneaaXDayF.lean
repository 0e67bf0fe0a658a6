/- The contracts of the program's days and of the reference's dyList, in the form that the printed walks ask: an answer for each right wash and each number of days up to 600. -/
import Derived.Test.YtpalinpgoalneaaXDay
namespace Go.Proofs.Ytpalinpgoalneaa.XDayF
open Go.RowKit Go.Proofs.YtpalinpgoalneaaW.PrintWords Go.Proofs.YtpalinpgoalneaaW.PrintLast Go.Proofs.YtpalinpgoalneaaW.PrintMore
open Go.Proofs.Ytpalinpgoalneaa.QBase Go.Proofs.Ytpalinpgoalneaa.PD Go.Proofs.Ytpalinpgoalneaa.XSt Go.Proofs.Ytpalinpgoalneaa.XSu Go.Proofs.Ytpalinpgoalneaa.XDay
open Go.Proofs.Ytpalinpgoalneaa.QDayP hiding info3
set_option linter.unusedVariables false
def okw (a b c d : Int) : Prop := (1 ≤ a ∧ a ≤ 30) ∧ (1 ≤ b ∧ b ≤ 30) ∧ (1 ≤ c ∧ c ≤ 30) ∧ (0 ≤ d ∧ d ≤ 600)
instance (a b c d : Int) : Decidable (okw a b c d) := by unfold okw; infer_instance
theorem okw.good {a b c d : Int} (h : okw a b c d) : WashOk a b c a.toNat :=
  ⟨by have := h.1; omega, by have := h.1; omega, by have := h.1; omega, h.2.1.1, h.2.1.2, h.2.2.1.1, h.2.2.1.2⟩
def impl_Wash_days.f (a b c d : Int) : Option (List S44) := if okw a b c d then some (dl a.toNat b c d.toNat) else none
theorem impl_Wash_days.calls (a0_0 : Int) (a0_1 : Int) (a0_2 : Int) (a1 : Int) (r : List (S44)) (w : World) (h : impl_Wash_days.f a0_0 a0_1 a0_2 a1 = some r) :
    Calls Try.prog 53 #[.agg #[.int .i64 a0_0, .int .i64 a0_1, .int .i64 a0_2], .int .i64 a1] w fun e w' => ∃ v0_ : Value, e = .returned (v0_) ∧ Kd.S k44 44 w' w.heap.size (fun _ => True) v0_ r ∧ Below w.heap.size w w' := by
  unfold impl_Wash_days.f at h
  by_cases c : okw a0_0 a0_1 a0_2 a1
  · rw [if_pos c] at h
    obtain rfl := Option.some.inj h
    exact days c.good (by have := c.2.2.2; omega) (by have := c.2.2.2; omega)
  · rw [if_neg c] at h
    cases h
def spec_dyList.f (a b c d : Int) : Option (List Int) := if okw a b c d then some (wl a.toNat b c d.toNat) else none
theorem spec_dyList.calls (a0_0 : Int) (a0_1 : Int) (a0_2 : Int) (a1 : Int) (r : List (Int)) (w : World) (h : spec_dyList.f a0_0 a0_1 a0_2 a1 = some r) :
    Calls Try.prog 44 #[.agg #[.int .i64 a0_0, .int .i64 a0_1, .int .i64 a0_2], .int .i64 a1] w fun e w' => ∃ v0_ : Value, e = .returned (v0_) ∧ Kd.R (Kd.int .i64) 3 w' w.heap.size (fun _ => True) v0_ r ∧ Below w.heap.size w w' := by
  unfold spec_dyList.f at h
  by_cases c : okw a0_0 a0_1 a0_2 a1
  · rw [if_pos c] at h
    obtain rfl := Option.some.inj h
    exact dyList c.good (by have := c.2.2.2; omega) (by have := c.2.2.2; omega)
  · rw [if_neg c] at h
    cases h
end Go.Proofs.Ytpalinpgoalneaa.XDayF
