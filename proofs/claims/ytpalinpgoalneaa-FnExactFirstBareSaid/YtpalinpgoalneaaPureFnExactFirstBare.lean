/- The pure statement of the law FnExactFirstBare: for every wash the program's first bare day is the reference's. No condition beside that the arguments are int64. -/
import Derived.Test.YtpalinpgoalneaaQFirstBarex1
import Derived.Test.YtpalinpgoalneaaPureB0
import Derived.Test.YtpalinpgoalneaaXOn
import Derived.Test.YtpalinpgoalneaaXFb
import Derived.Test.YtpalinpgoalneaaQPtAx
namespace Go.Proofs.Ytpalinpgoalneaa.PureFirstBare
open Go.RowKit Go.Proofs.YtpalinpgoalneaaW.PrintWords Go.Proofs.YtpalinpgoalneaaW.PrintLast Go.Proofs.YtpalinpgoalneaaW.PrintMore
open Go.Proofs.Ytpalinpgoalneaa.QBase Go.Proofs.Ytpalinpgoalneaa.PD Go.Proofs.Ytpalinpgoalneaa.XSu Go.Proofs.Ytpalinpgoalneaa.XDay Go.Proofs.Ytpalinpgoalneaa.XDayF Go.Proofs.Ytpalinpgoalneaa.PureB0 Go.Proofs.Ytpalinpgoalneaa.QFirstBare Go.Proofs.Ytpalinpgoalneaa.XOn Go.Proofs.Ytpalinpgoalneaa.XFb Go.Proofs.Ytpalinpgoalneaa.QPtA
set_option linter.unusedVariables false
set_option linter.unusedSimpArgs false
theorem law_of (a b c : Int) (r : Int) (ok : Bool) (hs : Ev (fun k => spec_FirstBare.f k a b c) (r, ok)) (hi : Ev (fun k => impl_FirstBare.f a b c) (r, ok)) : Ev (fun k => laws_FnExactFirstBare.f k a b c) true := by
  refine Ev.congr (f := fun k => (spec_FirstBare.f k a b c).bind fun b1 => (impl_FirstBare.f a b c).bind fun b2 => if b2.1 = b1.1 then if (b2.2 != b1.2) = true then some false else some true else some false) (fun k => rfl) ?_
  refine Ev.bind hs (Ev.bind hi ?_)
  simp only [if_true, bne_self_eq_false, Bool.false_eq_true, if_false]
  exact Ev.now _

theorem wl_get (n : Nat) (b c : Int) (m i : Nat) (h : i < m) : rd (wl n b c m) (i : Int) = dWorn n b c i := by
  rw [rd_get _ i (by rw [wl_len]; exact h)]
  simp [wl]
theorem list_eq {a b c d : Int} (h : okw a b c d) : spec_dyList.f a b c d = some (wl a.toNat b c d.toNat) := by unfold spec_dyList.f; rw [if_pos h]
theorem ev_spec (a b c : Int) : Ev (fun k => spec_FirstBare.f k a b c) (firstF a b c) := by
  unfold firstF
  by_cases hA : okw a b c 0
  · rw [if_pos hA]
    have ho : okw a b c 501 := ⟨hA.1, hA.2.1, hA.2.2.1, by omega, by omega⟩
    obtain ⟨n, hn⟩ : ∃ n, a.toNat = n := ⟨_, rfl⟩
    rw [hn]
    have h : ∀ i : Nat, i ≤ 501 → Ev (fun k => spec_FirstBare.l0 k (wl n b c 501) ((501 : Nat) : Int) (i : Int)) (if 0 ≤ ff (fun i => decide (dWorn n b c i < 0)) (501 - i) i then (ff (fun i => decide (dWorn n b c i < 0)) (501 - i) i, true) else (0, false)) := by
      refine downTo 501 ?_ ?_
      · refine Ev.step (f := fun _ => some (0, false)) (fun k => ?_) (Ev.now _)
        simp only [spec_FirstBare.l0]
        rw [if_neg (by omega)]
      · intro i hi ih
        rw [show 501 - i = (501 - (i + 1)) + 1 by omega]
        by_cases hx : dWorn n b c i < 0
        · have e : ff (fun i => decide (dWorn n b c i < 0)) (501 - (i + 1) + 1) i = (i : Int) := by
            rw [ff, if_pos (decide_eq_true hx)]
          rw [e, if_pos (by omega)]
          refine Ev.step (f := fun _ => some ((i : Int), true)) (fun k => ?_) (Ev.now _)
          simp only [spec_FirstBare.l0]
          rw [if_pos (by omega), if_pos (by omega), if_pos (by rw [wl_len]; omega), wl_get n b c 501 i hi, if_pos hx]
        · have e : ff (fun i => decide (dWorn n b c i < 0)) (501 - (i + 1) + 1) i = ff (fun i => decide (dWorn n b c i < 0)) (501 - (i + 1)) (i + 1) := by
            rw [ff, if_neg (by simpa using hx)]
          rw [e]
          refine Ev.step (f := fun k => spec_FirstBare.l0 k (wl n b c 501) ((501 : Nat) : Int) ((i + 1 : Nat) : Int)) (fun k => ?_) ih
          simp only [spec_FirstBare.l0]
          rw [if_pos (by omega), if_pos (by omega), if_pos (by rw [wl_len]; omega), wl_get n b c 501 i hi, if_neg hx, wrap_succ i (by omega)]
    refine Ev.congr (f := fun k => spec_FirstBare.l0 k (wl n b c 501) ((501 : Nat) : Int) 0) (fun k => ?_) (h 0 (by omega))
    unfold spec_FirstBare.f
    rw [dyGood_eq, decide_eq_true hA, Option.bind_some, if_pos rfl, list_eq ho, hn]
    show spec_FirstBare.l0 k (wl n b c 501) ((wl n b c 501).length : Int) 0 = _
    rw [wl_len]
  · rw [if_neg hA]
    refine Ev.congr (f := fun _ => some (0, false)) (fun k => ?_) (Ev.now _)
    unfold spec_FirstBare.f
    rw [dyGood_eq, decide_eq_false hA, Option.bind_some, if_neg (by simp)]
theorem law : laws_FnExactFirstBare.Pure := by
  intro a b c _ _ _
  exact Ev.rounds (law_of a b c (firstF a b c).1 (firstF a b c).2 (ev_spec a b c) (Ev.now _))

end Go.Proofs.Ytpalinpgoalneaa.PureFirstBare
namespace Go.Proofs.Ytpalinpgoalneaa.Pure
theorem FnExactFirstBare : Go.Proofs.Ytpalinpgoalneaa.QFirstBare.laws_FnExactFirstBare.Pure := Go.Proofs.Ytpalinpgoalneaa.PureFirstBare.law
end Go.Proofs.Ytpalinpgoalneaa.Pure
