/- The pure statement of the law FnExactSizesText: for whatever list of int64 numbers the program's and the reference's SizesText answer alike, and the list is left as it was. -/
import Derived.Test.YtfllamjkifbpmaaDoorQSizesTextx1
import Derived.Test.YtfllamjkifbpmaaDoorPureText
import Derived.Test.YtfllamjkifbpmaaDoorXWithin
namespace Go.Proofs.YtfllamjkifbpmaaDoor.PureSizesText
open Go.RowKit Go.Proofs.YtfllamjkifbpmaaDoor.QSizesText Go.Proofs.YtfllamjkifbpmaaDoorW.PrintWords Go.Proofs.YtfllamjkifbpmaaDoorW.PrintLast Go.Proofs.YtfllamjkifbpmaaDoorW.PrintMore Go.Proofs.YtfllamjkifbpmaaDoor.QBase Go.Proofs.YtfllamjkifbpmaaDoor.QText Go.Proofs.YtfllamjkifbpmaaDoor.XJoin Go.Proofs.YtfllamjkifbpmaaDoor.XWithin Go.Proofs.YtfllamjkifbpmaaDoor.PureText
set_option linter.unusedVariables false
set_option linter.unusedSimpArgs false

theorem law_long (l : List Int) (hl : ¬ l.length ≤ 1048576) : ∃ k, laws_FnExactSizesText.f k l = some true := by
  apply Ev.rounds
  refine Ev.congr (f := fun _ => some true) (fun k => ?_) (Ev.now _)
  unfold laws_FnExactSizesText.f
  rw [if_pos (by omega)]
theorem law_of (l : List Int) (hl : l.length ≤ 1048576) (B : ByteArray) (b : Bool) (h1 : Ev (fun k => spec_SizesText.f k l) (B, b)) (h2 : Ev (fun k => impl_SizesText.f k l) (B, b)) : ∃ k, laws_FnExactSizesText.f k l = some true := by
  apply Ev.rounds
  have ht := ev_toIntS l hl
  have he := ev_eqIntS l hl
  refine Ev.congr (fun k => by unfold laws_FnExactSizesText.f; rw [if_neg (by omega)]) (Ev.bind ht (Ev.bind h1 (Ev.bind ht (Ev.bind h2 ?_))))
  simp only [bne_self_eq_false, if_true]
  refine Ev.step (fun k => by simp only [laws_FnExactSizesText.j0]; rw [if_neg (by decide)]) (Ev.bind ht (Ev.bind he ?_))
  simp only [if_true]
  exact Ev.now _

/-- What a list of sizes is. -/
def okS (l : List Int) : Bool := decide (1 ≤ (l.length : Int)) && decide ((l.length : Int) ≤ 7) && l.all fun x => decide (1 ≤ x) && decide (x ≤ 60)
theorem ev_shGood (l : List Int) (hl : l.length ≤ 1048576) : Ev (fun k => spec_shGood.f k l) (okS l) := by
  refine Ev.congr (f := fun k => if (decide (1 ≤ (l.length : Int)) && decide ((l.length : Int) ≤ 7)) = true then (spec_l1All.f k l 1 60).bind fun t => some t else some false) (fun k => ?_) ?_
  · unfold spec_shGood.f
    rw [ev_l1In, Option.bind_some]
  · unfold okS
    cases hc : (decide (1 ≤ (l.length : Int)) && decide ((l.length : Int) ≤ 7)) with
    | true =>
      simp only [if_true, Bool.true_and]
      exact Ev.bind (ev_l1All l 1 60 (by omega)) (Ev.now _)
    | false =>
      simp only [Bool.false_eq_true, if_false, Bool.false_and]
      exact Ev.now _
theorem areSizes_eq (l : List Int) (hl : l.length ≤ 1048576) : impl_AreSizes.f l = some (okS l) := by
  unfold impl_AreSizes.f impl_areWithin.f
  rw [within_eq, Option.bind_some, if_pos hl, Option.bind_some]
  unfold okS
  cases hc : (decide (1 ≤ (l.length : Int)) && decide ((l.length : Int) ≤ 7)) with
  | true => simp
  | false => simp
theorem okS_range (l : List Int) (h : okS l = true) : l.length ≤ 16 ∧ small l := by
  unfold okS at h
  simp only [Bool.and_eq_true, decide_eq_true_eq, List.all_eq_true] at h
  obtain ⟨⟨_, h7⟩, hr⟩ := h
  exact ⟨by omega, fun x hx => ⟨by have := (hr x hx).1; omega, by have := (hr x hx).2; omega⟩⟩
theorem law : laws_FnExactSizesText.Pure := by
  intro l _ _ _
  by_cases hl : l.length ≤ 1048576
  · cases hp : okS l with
    | true =>
      obtain ⟨h16, hs⟩ := okS_range l hp
      refine law_of l hl (⟨(Lib.join (l.map dd) [45]).toArray⟩ : ByteArray) true ?_ ?_
      · refine Ev.congr (fun k => by unfold spec_SizesText.f; rfl) (Ev.bind (ev_shGood l hl) ?_)
        simp only [hp, if_true]
        exact Ev.bind (ev_soText l h16 hs) (Ev.now _)
      · refine Ev.congr (fun k => by unfold impl_SizesText.f; rfl) ?_
        rw [areSizes_eq l hl, hp]
        simp only [Option.bind_some, if_true]
        exact Ev.bind (ev_joined l (⟨#[45]⟩ : ByteArray) h16 (by simp [ByteArray.size]) hs) (Ev.now _)
    | false =>
      refine law_of l hl (⟨#[]⟩ : ByteArray) false ?_ ?_
      · refine Ev.congr (fun k => by unfold spec_SizesText.f; rfl) (Ev.bind (ev_shGood l hl) ?_)
        simp only [hp, Bool.false_eq_true, if_false]
        exact Ev.now _
      · refine Ev.congr (fun k => by unfold impl_SizesText.f; rfl) ?_
        rw [areSizes_eq l hl, hp]
        simp only [Option.bind_some, Bool.false_eq_true, if_false]
        exact Ev.now _
  · exact law_long l hl

end Go.Proofs.YtfllamjkifbpmaaDoor.PureSizesText
namespace Go.Proofs.YtfllamjkifbpmaaDoor.Pure
theorem FnExactSizesText : Go.Proofs.YtfllamjkifbpmaaDoor.QSizesText.laws_FnExactSizesText.Pure := Go.Proofs.YtfllamjkifbpmaaDoor.PureSizesText.law
end Go.Proofs.YtfllamjkifbpmaaDoor.Pure
