/- Plain laws: what the laws' helpers eqIntS and heldIntS come to. -/
import Derived.Test.YtpalinpgoalneaaQBasex
import Derived.Test.YtpalinpgoalneaaPureDays
namespace Go.Proofs.Ytpalinpgoalneaa.PureB0
open Go.RowKit Go.Proofs.YtpalinpgoalneaaW.PrintWords Go.Proofs.YtpalinpgoalneaaW.PrintLast Go.Proofs.YtpalinpgoalneaaW.PrintMore
open Go.Proofs.Ytpalinpgoalneaa.QBase Go.Proofs.Ytpalinpgoalneaa.PD
set_option linter.unusedVariables false
set_option linter.unusedSimpArgs false
theorem downTo {P : Nat → Prop} (n : Nat) (h0 : P n) (hs : ∀ i, i < n → P (i + 1) → P i) : ∀ i, i ≤ n → P i := by
  intro i hi
  obtain ⟨d, rfl⟩ : ∃ d, n = i + d := ⟨n - i, by omega⟩
  induction d generalizing i with
  | zero => exact h0
  | succ d ih => exact hs i (by omega) (ih (i + 1) (by rw [show i + 1 + d = i + (d + 1) from by omega]; exact h0) (by rw [show i + 1 + d = i + (d + 1) from by omega]; exact hs) (by omega))

theorem rd_get (l : List Int) (i : Nat) (h : i < l.length) : rd l (i : Int) = l[i] := by rw [rd_nat, List.getD_eq_getElem?_getD, List.getElem?_eq_getElem h]; rfl

theorem drop_cons (l : List Int) (i : Nat) (h : i < l.length) : l.drop i = rd l (i : Int) :: l.drop (i + 1) := by rw [rd_get l i h]; exact List.drop_eq_getElem_cons h

theorem wrap_succ (i : Nat) (h : i < 9223372036854775807) : wrap64 ((i : Int) + 1) = ((i + 1 : Nat) : Int) := by unfold wrap64; omega

theorem ev_eqIntS (l : List Int) (hl : l.length ≤ 1048576) : Ev (fun k => laws_eqIntS.f k l l) true := by
  have h : ∀ i, i ≤ l.length → Ev (fun k => laws_eqIntS.l0 k l l (i : Int)) true := by
    refine downTo l.length ?_ ?_
    · refine Ev.step (f := fun _ => some true) (fun k => ?_) (Ev.now _)
      simp only [laws_eqIntS.l0]
      rw [if_neg (by omega)]
    · intro i hi ih
      refine Ev.step (f := fun k => laws_eqIntS.l0 k l l ((i + 1 : Nat) : Int)) (fun k => ?_) ih
      simp only [laws_eqIntS.l0]
      rw [if_pos (by omega), if_pos (by omega), if_pos (by omega), if_pos trivial, wrap_succ i (by omega)]
  refine Ev.congr (f := fun k => laws_eqIntS.l0 k l l 0) (fun k => ?_) (h 0 (by omega))
  unfold laws_eqIntS.f
  rw [if_pos rfl]

theorem rd_last (xs : List Int) (n : Int) (i : Nat) (h : xs.length = i) : rd (xs ++ [n]) (i : Int) = n := by
  rw [rd_get _ i (by simp [h]), List.getElem_append_right (by omega)]
  simp

theorem ev_heldIntS (l : List Int) (hl : l.length ≤ 1048576) (hm : ∀ j, j < l.length → l.getD j 0 = (j : Int) + 1) : Ev (fun k => laws_heldIntS.f k l 1) ((l.length : Int) + 1) := by
  have h : ∀ i, i ≤ l.length → Ev (fun k => laws_heldIntS.l0 k l ((i : Int) + 1) (i : Int)) ((l.length : Int) + 1) := by
    refine downTo l.length ?_ ?_
    · refine Ev.step (f := fun _ => some ((l.length : Int) + 1)) (fun k => ?_) (Ev.now _)
      simp only [laws_heldIntS.l0]
      rw [if_neg (by omega)]
    · intro i hil ih
      refine Ev.step (f := fun k => laws_heldIntS.l0 k l (((i + 1 : Nat) : Int) + 1) ((i + 1 : Nat) : Int)) (fun k => ?_) ih
      simp only [laws_heldIntS.l0]
      rw [if_pos (by omega), if_pos (by omega), if_pos (by rw [rd_nat]; exact hm i hil), wrap_succ i (by omega), show wrap64 ((i : Int) + 1 + 1) = ((i + 1 : Nat) : Int) + 1 from by unfold wrap64; omega]
  exact h 0 (by omega)

end Go.Proofs.Ytpalinpgoalneaa.PureB0
