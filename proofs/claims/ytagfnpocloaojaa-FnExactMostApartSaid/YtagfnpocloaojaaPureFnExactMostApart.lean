/- The pure statement of the law FnExactMostApart: for whatever three slices the program's and the reference's MostApart answer alike, and the arguments read afterwards as before. -/
import Derived.Test.YtagfnpocloaojaaQMostApartx1
import Derived.Test.YtagfnpocloaojaaPureBase
namespace Go.Proofs.Ytagfnpocloaojaa.PureMostApart
open Go.RowKit Go.Proofs.Ytagfnpocloaojaa.QMostApart Go.Proofs.Ytagfnpocloaojaa.QBase Go.Proofs.Ytagfnpocloaojaa.QSizes Go.Proofs.Ytagfnpocloaojaa.XWithin Go.Proofs.Ytagfnpocloaojaa.PureBase Go.Proofs.YtagfnpocloaojaaW.PrintWords Go.Proofs.YtagfnpocloaojaaW.PrintLast Go.Proofs.YtagfnpocloaojaaW.PrintMore

theorem law_j0 (l r p : List Int) (hl : l.length ≤ 1048576) (hr : r.length ≤ 1048576) (hp : p.length ≤ 1048576) : Ev (fun k => laws_FnExactMostApart.j0 k l r p l r p false) true := by
  refine Ev.step (f := fun k => (laws_toIntS.f k l).bind fun t => (laws_eqIntS.f k l t).bind fun t2 => if t2 = true then ((laws_toIntS.f k r).bind fun t => (laws_eqIntS.f k r t).bind fun t2 => if t2 = true then ((laws_toIntS.f k p).bind fun t => (laws_eqIntS.f k p t).bind fun t2 => if t2 = true then some true else some false) else some false) else some false) (fun k => ?_) (Ev.bind (ev_toIntS l hl) (Ev.bind (ev_eqIntS l hl) ?_))
  · simp only [laws_FnExactMostApart.j0, Bool.false_eq_true, if_false]
  · simp only [if_true]
    refine Ev.bind (ev_toIntS r hr) (Ev.bind (ev_eqIntS r hr) ?_)
    simp only [if_true]
    refine Ev.bind (ev_toIntS p hp) (Ev.bind (ev_eqIntS p hp) ?_)
    simp only [if_true]
    exact Ev.now _
theorem ev_max (g : List Int) (hg : ∀ x ∈ g, 0 ≤ x ∧ x ≤ 59) (h1 : 1 ≤ g.length) (h7 : g.length ≤ 1048576) : Ev (fun k => slices_Max_int_int.f k g) (g.foldl mx 0) := by
  have h : ∀ i, i ≤ g.length → ∀ m : Int, Ev (fun k => slices_Max_int_int.l0 k g m (i : Int)) ((g.drop i).foldl mx m) := by
    refine downTo g.length ?_ ?_
    · intro m
      rw [List.drop_length]
      refine Ev.step (f := fun _ => some m) (fun k => ?_) (Ev.now m)
      simp only [slices_Max_int_int.l0]
      rw [if_neg (by omega)]
    · intro i hil ih m
      rw [drop_cons g i hil, List.foldl_cons]
      refine Ev.step (f := fun k => slices_Max_int_int.l0 k g (mx m (rd g (i : Int))) ((i + 1 : Nat) : Int)) (fun k => ?_) (ih _)
      simp only [slices_Max_int_int.l0]
      rw [if_pos (by omega), if_pos (by omega), wrap_succ i (by omega)]
  have e := h 1 (by omega) (rd g 0)
  have h0 := hg (rd g ((0 : Nat) : Int)) (by rw [rd_get g 0 (by omega)]; exact List.getElem_mem (by omega))
  have e2 : (g.drop 1).foldl mx (rd g 0) = g.foldl mx 0 := by
    have d := drop_cons g 0 (by omega)
    rw [List.drop_zero] at d
    have d2 : g.foldl mx 0 = (rd g ((0 : Nat) : Int) :: g.drop 1).foldl mx 0 := by rw [← d]
    rw [d2, List.foldl_cons]
    congr 1
    unfold mx
    split
    · rfl
    · have : rd g ((0 : Nat) : Int) = rd g 0 := rfl
      omega
  rw [e2] at e
  refine Ev.congr (f := fun k => slices_Max_int_int.l0 k g (rd g 0) ((1 : Nat) : Int)) (fun k => ?_) e
  unfold slices_Max_int_int.f
  rw [if_neg (by omega), if_pos (by omega)]
  rfl
theorem both (l r p : List Int) (hl : l.length ≤ 1048576) (hr : r.length ≤ 1048576) (hp : p.length ≤ 1048576) : ∃ v ok, Ev (fun k => spec_MostApart.f k l r p) (v, ok) ∧ Ev (fun k => impl_MostApart.f k l r p) (v, ok) := by
  cases h : okPairing l r p
  · refine ⟨0, false, ?_, ?_⟩
    · refine Ev.congr (fun k => rfl) (Ev.bind (ev_shPairing l r p hl hr hp) ?_)
      simp only [h, Bool.false_eq_true, if_false]
      exact Ev.now _
    · refine Ev.congr (fun k => rfl) (Ev.bind (ev_isPairing l r p hl hr hp) ?_)
      simp only [h, Bool.false_eq_true, if_false]
      exact Ev.now _
  · obtain ⟨h1, h2, h3, h4, h5, h6, h7⟩ := okPairing_is l r p h
    refine ⟨(gp l r 0 p).foldl mx 0, true, ?_, ?_⟩
    · refine Ev.congr (fun k => rfl) (Ev.bind (ev_shPairing l r p hl hr hp) ?_)
      simp only [h, if_true]
      exact Ev.bind (ev_shApart l r p h1 h2 h6 (by omega) h7) (Ev.now _)
    · refine Ev.congr (fun k => rfl) (Ev.bind (ev_isPairing l r p hl hr hp) ?_)
      simp only [h, if_true]
      exact Ev.bind (ev_gaps l r p h1 h2 h6 (by omega) h7) (Ev.bind (ev_max _ (gp_bound l r h1 h2 p 0 (by omega) h7) (by rw [gp_length]; omega) (by rw [gp_length]; omega)) (Ev.now _))

theorem law : laws_FnExactMostApart.Pure := by
  intro l r p _ _ _ _ _ _ _ _ _
  apply Ev.rounds
  by_cases hl : l.length ≤ 1048576
  · by_cases hr : r.length ≤ 1048576
    · by_cases hp : p.length ≤ 1048576
      · obtain ⟨v, ok, hs, hi⟩ := both l r p hl hr hp
        refine Ev.congr (f := fun k => (laws_toIntS.f k l).bind fun t109 => (laws_toIntS.f k r).bind fun t112 => (laws_toIntS.f k p).bind fun t115 => (spec_MostApart.f k t109 t112 t115).bind fun bt118 => (laws_toIntS.f k l).bind fun t120 => (laws_toIntS.f k r).bind fun t123 => (laws_toIntS.f k p).bind fun t126 => (impl_MostApart.f k t120 t123 t126).bind fun bt129 => if bt129.1 = bt118.1 then laws_FnExactMostApart.j0 k l r p t120 t123 t126 (bt129.2 != bt118.2) else laws_FnExactMostApart.j0 k l r p t120 t123 t126 true) (fun k => ?_) ?_
        · unfold laws_FnExactMostApart.f
          rw [if_neg (by omega), if_neg (by omega), if_neg (by omega)]
        · refine Ev.bind (ev_toIntS l hl) (Ev.bind (ev_toIntS r hr) (Ev.bind (ev_toIntS p hp) (Ev.bind hs (Ev.bind (ev_toIntS l hl) (Ev.bind (ev_toIntS r hr) (Ev.bind (ev_toIntS p hp) (Ev.bind hi ?_)))))))
          simp only [if_true, bne_self_eq_false]
          exact law_j0 l r p hl hr hp
      · refine Ev.congr (f := fun k => some true) (fun k => ?_) (Ev.now _)
        unfold laws_FnExactMostApart.f
        rw [if_neg (by omega), if_neg (by omega), if_pos (by omega)]
    · refine Ev.congr (f := fun k => some true) (fun k => ?_) (Ev.now _)
      unfold laws_FnExactMostApart.f
      rw [if_neg (by omega), if_pos (by omega)]
  · refine Ev.congr (f := fun k => some true) (fun k => ?_) (Ev.now _)
    unfold laws_FnExactMostApart.f
    rw [if_pos (by omega)]
end Go.Proofs.Ytagfnpocloaojaa.PureMostApart
namespace Go.Proofs.Ytagfnpocloaojaa.Pure
theorem FnExactMostApart : Go.Proofs.Ytagfnpocloaojaa.QMostApart.laws_FnExactMostApart.Pure := Go.Proofs.Ytagfnpocloaojaa.PureMostApart.law
end Go.Proofs.Ytagfnpocloaojaa.Pure
