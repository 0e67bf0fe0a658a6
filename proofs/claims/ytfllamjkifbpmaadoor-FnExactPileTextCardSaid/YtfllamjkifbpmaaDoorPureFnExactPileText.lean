/- The pure statement of the law FnExactPileText: for whatever list of int64 numbers the program's and the reference's PileText answer alike, and the list is left as it was. -/
import Derived.Test.YtfllamjkifbpmaaDoorQPileTextx1
import Derived.Test.YtfllamjkifbpmaaDoorPureText
namespace Go.Proofs.YtfllamjkifbpmaaDoor.PurePileText
open Go.RowKit Go.Proofs.YtfllamjkifbpmaaDoor.QPileText Go.Proofs.YtfllamjkifbpmaaDoorW.PrintWords Go.Proofs.YtfllamjkifbpmaaDoorW.PrintLast Go.Proofs.YtfllamjkifbpmaaDoorW.PrintMore Go.Proofs.YtfllamjkifbpmaaDoor.QBase Go.Proofs.YtfllamjkifbpmaaDoor.QText Go.Proofs.YtfllamjkifbpmaaDoor.XJoin Go.Proofs.YtfllamjkifbpmaaDoor.PureText
set_option linter.unusedVariables false
set_option linter.unusedSimpArgs false

theorem law_long (l : List Int) (hl : ¬ l.length ≤ 1048576) : ∃ k, laws_FnExactPileText.f k l = some true := by
  apply Ev.rounds
  refine Ev.congr (f := fun _ => some true) (fun k => ?_) (Ev.now _)
  unfold laws_FnExactPileText.f
  rw [if_pos (by omega)]
theorem law_of (l : List Int) (hl : l.length ≤ 1048576) (B : ByteArray) (b : Bool) (h1 : Ev (fun k => spec_PileText.f k l) (B, b)) (h2 : Ev (fun k => impl_PileText.f k l) (B, b)) : ∃ k, laws_FnExactPileText.f k l = some true := by
  apply Ev.rounds
  have ht := ev_toIntS l hl
  have he := ev_eqIntS l hl
  refine Ev.congr (fun k => by unfold laws_FnExactPileText.f; rw [if_neg (by omega)]) (Ev.bind ht (Ev.bind h1 (Ev.bind ht (Ev.bind h2 ?_))))
  simp only [bne_self_eq_false, if_true]
  refine Ev.step (fun k => by simp only [laws_FnExactPileText.j0]; rw [if_neg (by decide)]) (Ev.bind ht (Ev.bind he ?_))
  simp only [if_true]
  exact Ev.now _

theorem law : laws_FnExactPileText.Pure := by
  intro l _ _ _
  by_cases hl : l.length ≤ 1048576
  · cases hp : okPile l with
    | true =>
      obtain ⟨h16, _, _, hr, _⟩ := okPile_range l hp
      have hs : small l := fun x hx => ⟨(hr x hx).1, by have := (hr x hx).2; omega⟩
      refine law_of l hl (⟨(Lib.join (l.map dd) []).toArray⟩ : ByteArray) true ?_ ?_
      · refine Ev.congr (fun k => by unfold spec_PileText.f; rfl) (Ev.bind (ev_piGood l hl) ?_)
        simp only [hp, if_true]
        exact Ev.bind (ev_piText l h16 hs) (Ev.now _)
      · refine Ev.congr (fun k => by unfold impl_PileText.f; rfl) (Ev.bind (ev_IsPile l hl) ?_)
        simp only [hp, if_true]
        exact Ev.bind (ev_joined l (⟨#[]⟩ : ByteArray) h16 (by simp [ByteArray.size]) hs) (Ev.now _)
    | false =>
      refine law_of l hl (⟨#[]⟩ : ByteArray) false ?_ ?_
      · refine Ev.congr (fun k => by unfold spec_PileText.f; rfl) (Ev.bind (ev_piGood l hl) ?_)
        simp only [hp, Bool.false_eq_true, if_false]
        exact Ev.now _
      · refine Ev.congr (fun k => by unfold impl_PileText.f; rfl) (Ev.bind (ev_IsPile l hl) ?_)
        simp only [hp, Bool.false_eq_true, if_false]
        exact Ev.now _
  · exact law_long l hl

end Go.Proofs.YtfllamjkifbpmaaDoor.PurePileText
namespace Go.Proofs.YtfllamjkifbpmaaDoor.Pure
theorem FnExactPileText : Go.Proofs.YtfllamjkifbpmaaDoor.QPileText.laws_FnExactPileText.Pure := Go.Proofs.YtfllamjkifbpmaaDoor.PurePileText.law
end Go.Proofs.YtfllamjkifbpmaaDoor.Pure
