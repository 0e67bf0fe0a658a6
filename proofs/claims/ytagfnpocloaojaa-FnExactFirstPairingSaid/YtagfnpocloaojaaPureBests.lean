/- Plain laws of impl.bestsOf: what the Lean function of it comes to, and what the reference's least pairing and its search come to. No program and no memory stands in it. -/
import Derived.Test.YtagfnpocloaojaaXLeasts
import Derived.Test.YtagfnpocloaojaaPureSort
namespace Go.Proofs.Ytagfnpocloaojaa.PureBests
open Go.RowKit Go.Proofs.Ytagfnpocloaojaa Go.Proofs.Ytagfnpocloaojaa.QBase Go.Proofs.Ytagfnpocloaojaa.QSizes Go.Proofs.Ytagfnpocloaojaa.QPairs Go.Proofs.Ytagfnpocloaojaa.XWithin Go.Proofs.Ytagfnpocloaojaa.XClone Go.Proofs.Ytagfnpocloaojaa.XBests Go.Proofs.Ytagfnpocloaojaa.XLeasts Go.Proofs.Ytagfnpocloaojaa.PureBase Go.Proofs.Ytagfnpocloaojaa.PureSort Go.Proofs.YtagfnpocloaojaaW.PrintWords Go.Proofs.YtagfnpocloaojaaW.PrintLast Go.Proofs.YtagfnpocloaojaaW.PrintMore
open Go.Proofs.Ytagfnpocloaojaa.QBests (impl_bestsOf_1.f impl_bestsOf_1.l0)
set_option linter.unusedVariables false

/-! ### impl.bestsOf -/
theorem ev_max (g : List Int) (hg : ∀ x ∈ g, 0 ≤ x ∧ x ≤ 59) (h1 : 1 ≤ g.length) (h7 : g.length ≤ 1048576) : Ev (fun k => QBests.slices_Max_int_int.f k g) (g.foldl mx 0) := by
  have h : ∀ i, i ≤ g.length → ∀ m : Int, Ev (fun k => QBests.slices_Max_int_int.l0 k g m (i : Int)) ((g.drop i).foldl mx m) := by
    refine downTo g.length ?_ ?_
    · intro m
      rw [List.drop_length]
      refine Ev.step (f := fun _ => some m) (fun k => ?_) (Ev.now m)
      simp only [QBests.slices_Max_int_int.l0]
      rw [if_neg (by omega)]
    · intro i hil ih m
      rw [drop_cons g i hil, List.foldl_cons]
      refine Ev.step (f := fun k => QBests.slices_Max_int_int.l0 k g (mx m (rd g (i : Int))) ((i + 1 : Nat) : Int)) (fun k => ?_) (ih _)
      simp only [QBests.slices_Max_int_int.l0]
      rw [if_pos (by omega), if_pos (by omega), wrap_succ i (by omega)]
  have e := h 1 (by omega) (rd g 0)
  have h0 := hg (rd g ((0 : Nat) : Int)) (by rw [rd_get g 0 (by omega)]; exact List.getElem_mem (by omega))
  have e2 : (g.drop 1).foldl mx (rd g 0) = g.foldl mx 0 := by
    have d := drop_cons g 0 (by omega)
    rw [List.drop_zero] at d
    have d2 : g.foldl mx 0 = (rd g ((0 : Nat) : Int) :: g.drop 1).foldl mx 0 := by rw [← d]
    rw [d2, List.foldl_cons]
    congr 1
    unfold mx
    split
    · rfl
    · have : rd g ((0 : Nat) : Int) = rd g 0 := rfl
      omega
  rw [e2] at e
  refine Ev.congr (f := fun k => QBests.slices_Max_int_int.l0 k g (rd g 0) ((1 : Nat) : Int)) (fun k => ?_) e
  unfold QBests.slices_Max_int_int.f
  rw [if_neg (by omega), if_pos (by omega)]
  rfl
theorem ev_contains (l : List Int) (x : Int) (hl : l.length ≤ 1048576) : Ev (fun k => QBests.slices_Contains_int_int.f k l x) (decide (x ∈ l)) := by
  have h : ∀ i, i ≤ l.length → Ev (fun k => (QBests.slices_Index_int_int.l0 k l x (l.length : Int) (i : Int)).bind fun t => some (decide (t ≥ 0))) (decide (x ∈ l.drop i)) := by
    refine downTo l.length ?_ ?_
    · rw [List.drop_length]
      refine Ev.step (f := fun _ => some false) (fun k => ?_) (Ev.now false)
      simp only [QBests.slices_Index_int_int.l0]
      rw [if_neg (by omega)]
      rfl
    · intro i hi ih
      rw [drop_cons l i hi]
      by_cases e : x = rd l (i : Int)
      · rw [decide_eq_true (List.mem_cons.2 (.inl e))]
        refine Ev.step (f := fun _ => some true) (fun k => ?_) (Ev.now true)
        simp only [QBests.slices_Index_int_int.l0]
        rw [if_pos (by omega), if_pos (by omega), if_pos (by omega), if_pos e, Option.bind_some, decide_eq_true (by omega)]
      · have e2 : decide (x ∈ rd l (i : Int) :: l.drop (i + 1)) = decide (x ∈ l.drop (i + 1)) := by
          rw [Bool.eq_iff_iff, decide_eq_true_iff, decide_eq_true_iff, List.mem_cons]
          exact ⟨fun h => h.resolve_left e, .inr⟩
        rw [e2]
        refine Ev.step (f := fun k => (QBests.slices_Index_int_int.l0 k l x (l.length : Int) ((i + 1 : Nat) : Int)).bind fun t => some (decide (t ≥ 0))) (fun k => ?_) ih
        simp only [QBests.slices_Index_int_int.l0]
        rw [if_pos (by omega), if_pos (by omega), if_pos (by omega), if_neg e, wrap_succ i (by omega)]
  exact h 0 (by omega)
theorem clone_eq (l : List Int) (h : l.length < 17592186044416) : slices_Clone_int_int.f l = some l := by
  unfold slices_Clone_int_int.f
  rw [if_pos h]
theorem stp_cnt (l r : List Int) (b : Int × Int × List Int × Int) (q : List Int) (h : 0 ≤ b.2.2.2) : 0 ≤ (stp l r b q).2.2.2 ∧ (stp l r b q).2.2.2 ≤ b.2.2.2 + 1 := by
  unfold stp
  split
  · simp only; omega
  · split <;> simp only <;> omega
theorem fold_cnt (l r : List Int) : ∀ (E : List (List Int)) (b : Int × Int × List Int × Int), 0 ≤ b.2.2.2 → 0 ≤ (E.foldl (stp l r) b).2.2.2 ∧ (E.foldl (stp l r) b).2.2.2 ≤ b.2.2.2 + (E.length : Int)
  | [], b, h => by simp; exact h
  | q :: E, b, h => by
    have h1 := stp_cnt l r b q h
    have h2 := fold_cnt l r E (stp l r b q) h1.1
    rw [List.foldl_cons, List.length_cons]
    exact ⟨h2.1, by push_cast; omega⟩
theorem ev_pair (l r : List Int) (hl : Fine l) (hr : Fine r) (hlr : l.length = r.length) (h1 : 1 ≤ l.length) (h7 : l.length ≤ 7) (a4 : Int) : ∀ d, ∀ p : List Int, p.length + d = l.length → (∀ x ∈ p, 0 ≤ x ∧ x < (l.length : Int)) → ∀ b : Int × Int × List Int × Int, 0 ≤ b.2.2.2 → b.2.2.2 + ((ext l.length d p).length : Int) ≤ 100000000 → Ev (fun k => impl_bestsOf_1.f k p l r b.1 b.2.1 b.2.2.1 b.2.2.2 a4) ((ext l.length d p).foldl (stp l r) b) := by
  intro d
  induction d with
  | zero =>
    intro p hp hx b h0 hb
    have hpx : ∀ x ∈ p, 0 ≤ x ∧ x < (r.length : Int) := fun x h => by have := hx x h; omega
    have hgb := gp_bound l r hl hr p 0 (by omega) hpx
    have hlen := gp_length l r p 0
    rw [ext] at hb ⊢
    rw [List.foldl_cons, List.foldl_nil]
    refine Ev.step (f := fun k => (impl_gaps.f k l r p).bind fun t105 => (QBests.slices_Max_int_int.f k t105).bind fun t108 => (impl_total.f k t105).bind fun t109 => if t109 < b.1 then (slices_Clone_int_int.f p).bind fun t110 => some (t109, mn b.2.1 t108, t110, 1) else if t109 = b.1 then some (b.1, mn b.2.1 t108, b.2.2.1, wrap64 (b.2.2.2 + 1)) else some (b.1, mn b.2.1 t108, b.2.2.1, b.2.2.2)) (fun k => ?_) (Ev.bind (ev_gaps l r p hl hr (by omega) (by omega) hpx) (Ev.bind (ev_max _ hgb (by omega) (by omega)) (Ev.bind (ev_total _ hgb (by omega)) ?_)))
    · simp only [impl_bestsOf_1.f]
      rw [if_pos (by omega)]
    · refine Ev.congr (fun k => ?_) (Ev.now _)
      unfold stp
      by_cases e1 : (gp l r 0 p).sum < b.1
      · rw [if_pos e1, if_pos e1, clone_eq p (by omega)]
        rfl
      · rw [if_neg e1, if_neg e1]
        by_cases e2 : (gp l r 0 p).sum = b.1
        · rw [if_pos e2, if_pos e2, show wrap64 (b.2.2.2 + 1) = b.2.2.2 + 1 from by simp at hb; unfold wrap64; omega]
          rfl
        · rw [if_neg e2, if_neg e2]
          rfl
  | succ d ih =>
    intro p hp hx b h0 hb
    have hloop : ∀ i, i ≤ r.length → ∀ b : Int × Int × List Int × Int, 0 ≤ b.2.2.2 → b.2.2.2 + ((tl l.length d p i).length : Int) ≤ 100000000 → Ev (fun k => impl_bestsOf_1.l0 k p l r a4 (r.length : Int) (i : Int) b.1 b.2.1 b.2.2.1 b.2.2.2) ((tl l.length d p i).foldl (stp l r) b) := by
      refine downTo r.length ?_ ?_
      · intro b _ _
        rw [← hlr, tl_end, List.foldl_nil]
        refine Ev.step (f := fun _ => some b) (fun k => ?_) (Ev.now _)
        simp only [impl_bestsOf_1.l0]
        rw [if_neg (by omega)]
      · intro i hi ih2 b h0 hb
        have hst := tl_step l.length d p i (by omega)
        refine Ev.step (f := fun k => (QBests.slices_Contains_int_int.f k p (i : Int)).bind fun t113 => if t113 = true then impl_bestsOf_1.l0 k p l r a4 (r.length : Int) ((i + 1 : Nat) : Int) b.1 b.2.1 b.2.2.1 b.2.2.2 else (impl_bestsOf_1.f k (p ++ [(i : Int)]) l r b.1 b.2.1 b.2.2.1 b.2.2.2 a4).bind fun bt123 => impl_bestsOf_1.l0 k p l r a4 (r.length : Int) ((i + 1 : Nat) : Int) bt123.1 bt123.2.1 bt123.2.2.1 bt123.2.2.2) (fun k => ?_) (Ev.bind (ev_contains p (i : Int) (by omega)) ?_)
        · simp only [impl_bestsOf_1.l0]
          rw [if_pos (by omega), wrap_succ i (by omega), clone_eq p (by omega)]
          simp only [Option.bind_some]
          rw [if_pos (by simp; omega)]
        · by_cases hm : (i : Int) ∈ p
          · rw [decide_eq_true hm]
            simp only [if_true]
            rw [if_pos hm, List.nil_append] at hst
            rw [hst]
            exact ih2 b h0 (by rw [← hst]; exact hb)
          · rw [decide_eq_false hm]
            simp only [Bool.false_eq_true, if_false]
            rw [if_neg hm] at hst
            have hE : (tl l.length d p i).length = (ext l.length d (p ++ [(i : Int)])).length + (tl l.length d p (i + 1)).length := by rw [hst, List.length_append]
            have hc := fold_cnt l r (ext l.length d (p ++ [(i : Int)])) b h0
            have hi3 := ih (p ++ [(i : Int)]) (by simp; omega) (fun x hx' => by
              rcases List.mem_append.1 hx' with h | h
              · exact hx x h
              · rw [List.mem_singleton.1 h]; omega) b h0 (by omega)
            rw [hst, List.foldl_append]
            exact Ev.bind hi3 (ih2 _ hc.1 (by omega))
    have h := hloop 0 (by omega) b h0 (by rw [tl_zero]; exact hb)
    rw [tl_zero] at h
    refine Ev.step (f := fun k => impl_bestsOf_1.l0 k p l r a4 (r.length : Int) ((0 : Nat) : Int) b.1 b.2.1 b.2.2.1 b.2.2.2) (fun k => ?_) h
    simp only [impl_bestsOf_1.f]
    rw [if_neg (by omega)]
    rfl
theorem okBoth_is (l r : List Int) (h : okBoth l r = true) : Fine l ∧ Fine r ∧ l.length = r.length ∧ 1 ≤ l.length ∧ l.length ≤ 7 := by
  unfold okBoth at h
  simp only [Bool.and_eq_true, decide_eq_true_eq] at h
  obtain ⟨⟨h1, h2⟩, h3⟩ := h
  obtain ⟨a1, a2, _⟩ := okSizes_is l h1
  exact ⟨fine_of l h1, fine_of r h2, h3, a1, a2⟩
def bst (l r : List Int) : Int × Int × List Int × Int := ((gp l r 0 (pst l r)).sum, mg (gp l r 0 (pst l r)), fnd l r (gp l r 0 (pst l r)).sum (ext l.length l.length []))
theorem ev_bestsOf (l r : List Int) (h : okBoth l r = true) : Ev (fun k => impl_bestsOf.f k l r) ((bst l r).1, (bst l r).2.1, (bst l r).2.2.1, (bst l r).2.2.2, true) := by
  obtain ⟨h1, h2, h3, h4, h5⟩ := okBoth_is l r h
  have hp := ev_pair l r h1 h2 h3 h4 h5 0 l.length [] (by simp) (fun x hx => by cases hx) (420, 60, [], 0) (Int.le_refl _) (by have := ext_le7 l.length l.length [] h5 h5; simp only; omega)
  rw [bests_is l r h1 h2 h3 h5] at hp
  refine Ev.congr (f := fun k => (impl_bestsOf_1.f k [] l r 420 60 [] 0 0).bind fun b => some (b.1, b.2.1, b.2.2.1, b.2.2.2, true)) (fun k => ?_) (Ev.bind hp (Ev.now _))
  unfold impl_bestsOf.f
  rw [areTwo_eq l r (by omega) (by omega), h, Option.bind_some, if_pos rfl]
theorem no_bestsOf (l r : List Int) (hl : l.length ≤ 1048576) (hr : r.length ≤ 1048576) (h : okBoth l r = false) : Ev (fun k => impl_bestsOf.f k l r) (0, 0, [], 0, false) := by
  refine Ev.congr (fun k => ?_) (Ev.now _)
  unfold impl_bestsOf.f
  rw [areTwo_eq l r hl hr, h, Option.bind_some, if_neg (by decide)]
theorem pst_ok (l r : List Int) (h : okBoth l r = true) : Ev (fun k => spec_shApart.f k l r (pst l r)) ((bst l r).1, (bst l r).2.1) := by
  obtain ⟨h1, h2, h3, h4, h5⟩ := okBoth_is l r h
  obtain ⟨⟨p1, p2, p3⟩, _⟩ := pst_isP l r h3
  exact ev_shApart l r (pst l r) h1 h2 (by omega) (by omega) (fun x hx => by have := p3 x hx; omega)
theorem ev_Look (l r : List Int) (h : okBoth l r = true) : Ev (fun k => spec_shLook.f k l r [] (bst l r).1) (bst l r).2.2 := by
  obtain ⟨h1, h2, h3, h4, h5⟩ := okBoth_is l r h
  obtain ⟨hP, _⟩ := pst_isP l r h3
  have hb := sum_nonneg _ (isP_bound l r _ h1 h2 h3 hP)
  have hlen := gp_length l r (pst l r) 0
  have hp1 := hP.1
  have := ev_shLook l r h1 h2 h3 h5 (bst l r).1 l.length [] (by simp) (fun x hx => by cases hx) (by rw [gp]; simp; exact hb.1) (by rw [gp]; show (gp l r 0 (pst l r)).sum - ([] : List Int).sum ≤ _; simp; omega)
  rw [gp, List.sum_nil, Int.sub_zero] at this
  exact this

end Go.Proofs.Ytagfnpocloaojaa.PureBests
