/- The pure statement of the law FnExactFirstOfShape: for whatever text of at most 140737488351232 bytes the program's and the reference's FirstOfShape answer alike, and what the first call has given stays its own behind the second. -/
import Derived.Test.YtfllamjkifbpmaaDoorQFirstOfShapex1
import Derived.Test.YtfllamjkifbpmaaDoorPureShapes
import Derived.Test.YtfllamjkifbpmaaDoorXFirst
namespace Go.Proofs.YtfllamjkifbpmaaDoor.PureFirstOfShape
open Go.RowKit Go.Proofs.YtfllamjkifbpmaaDoor.QFirstOfShape Go.Proofs.YtfllamjkifbpmaaDoorW.PrintWords Go.Proofs.YtfllamjkifbpmaaDoorW.PrintLast Go.Proofs.YtfllamjkifbpmaaDoorW.PrintMore Go.Proofs.YtfllamjkifbpmaaDoor.QBase Go.Proofs.YtfllamjkifbpmaaDoor.QShape Go.Proofs.YtfllamjkifbpmaaDoor.XHeights Go.Proofs.YtfllamjkifbpmaaDoor.XFirst Go.Proofs.YtfllamjkifbpmaaDoor.PureShapes
set_option linter.unusedVariables false
set_option linter.unusedSimpArgs false

theorem shp_is (s : ByteArray) (h : shp s = true) : s.size ≠ 0 ∧ s.size ≤ 16 ∧ okL 0 s.data.toList = true ∧ signs s.data.toList := by
  unfold shp at h
  simp only [Bool.and_eq_true, decide_eq_true_eq] at h
  obtain ⟨⟨a, b⟩, c⟩ := h
  exact ⟨a, b, c, okL_signs _ _ c⟩
theorem ev_eqIntS (l : List Int) (hl : l.length ≤ 1048576) : Ev (fun k => laws_eqIntS.f k l l) true := by
  have h : ∀ i, i ≤ l.length → Ev (fun k => laws_eqIntS.l0 k l l (i : Int)) true := by
    refine downTo l.length ?_ ?_
    · refine Ev.step (f := fun _ => some true) (fun k => ?_) (Ev.now _)
      simp only [laws_eqIntS.l0]
      rw [if_neg (by omega)]
    · intro i hi ih
      refine Ev.step (f := fun k => laws_eqIntS.l0 k l l ((i + 1 : Nat) : Int)) (fun k => ?_) ih
      simp only [laws_eqIntS.l0]
      rw [if_pos (by omega), if_pos (by omega), if_pos (by omega), if_pos trivial, wrap_succ i (by omega)]
  refine Ev.congr (f := fun k => laws_eqIntS.l0 k l l 0) (fun k => ?_) (h 0 (by omega))
  unfold laws_eqIntS.f
  rw [if_pos rfl]
theorem ev_markIntS (l : List Int) (hl : l.length ≤ 1048576) : ∃ L : List Int, L.length = l.length ∧ (∀ j, j < L.length → L.getD j 0 = (j : Int) + 1) ∧ Ev (fun k => laws_markIntS.f k l 1) ((l.length : Int) + 1, L) := by
  have h : ∀ i, i ≤ l.length → ∀ x : List Int, x.length = l.length → (∀ j, j < i → x.getD j 0 = (j : Int) + 1) →
      ∃ L : List Int, L.length = l.length ∧ (∀ j, j < L.length → L.getD j 0 = (j : Int) + 1) ∧ Ev (fun k => laws_markIntS.l0 k x ((i : Int) + 1) (i : Int)) ((l.length : Int) + 1, L) := by
    refine downTo l.length ?_ ?_
    · intro x hx hj
      refine ⟨x, hx, fun j h => hj j (by omega), Ev.step (f := fun _ => some ((l.length : Int) + 1, x)) (fun k => ?_) (Ev.now _)⟩
      simp only [laws_markIntS.l0]
      rw [if_neg (by omega)]
    · intro i hi ih x hx hj
      obtain ⟨L, a, b, c⟩ := ih (x.set i ((i : Int) + 1)) (by simpa using hx) (fun j h => by
        rw [List.getD_eq_getElem?_getD, List.getElem?_set]
        by_cases e : i = j
        · subst e
          rw [if_pos rfl, if_pos (by omega)]
          rfl
        · rw [if_neg e, ← List.getD_eq_getElem?_getD]
          exact hj j (by omega))
      refine ⟨L, a, b, Ev.step (f := fun k => laws_markIntS.l0 k (x.set i ((i : Int) + 1)) (((i + 1 : Nat) : Int) + 1) ((i + 1 : Nat) : Int)) (fun k => ?_) c⟩
      simp only [laws_markIntS.l0]
      rw [if_pos (by omega), if_pos (by omega), Int.toNat_natCast, show wrap64 ((i : Int) + 1 + 1) = ((i + 1 : Nat) : Int) + 1 from by unfold wrap64; omega, wrap_succ i (by omega)]
  exact h 0 (by omega) l rfl (fun j h => by omega)
theorem first_loop (s : ByteArray) (hsz : s.size ≤ 16) : ∀ (l : List UInt8) (i : Nat) (x4 x5 : List Int) (x6 : Int), signs l → okL (x5.length : Int) l = true → x4.length = i → x5.length ≤ i →
    s.data.toList.drop i = l → i + l.length = s.size →
    ∃ r, r.length ≤ s.size ∧ fstL l x4 x5 x6 = some r ∧ Ev (fun k => spec_FirstOfShape.l0 k s x4 x5 x6 (i : Int)) (r, true) := by
  intro l
  induction l with
  | nil =>
    intro i x4 x5 x6 hsg hok h4 h5 hd hi
    refine ⟨x4, by simp at hi; omega, by rw [fstL], Ev.step (f := fun _ => some (x4, true)) (fun k => ?_) (Ev.now _)⟩
    simp only [spec_FirstOfShape.l0]
    rw [if_neg (by simp at hi; omega)]
  | cons c l ihl =>
    intro i x4 x5 x6 hsg hok h4 h5 hd hi
    rw [List.length_cons] at hi
    have hil : i < s.size := by omega
    obtain ⟨c', hd', hb⟩ := bt_hd s i hil
    rw [hd] at hd'
    obtain ⟨rfl, hd2⟩ := List.cons.inj hd'
    have hsg' : signs l := fun x hx => hsg x (List.mem_cons_of_mem _ hx)
    rw [okL] at hok
    have c1 : (i : Int) < (s.size : Int) := by omega
    have c2 : (0 : Int) ≤ (i : Int) := by omega
    have c4 : x4.length < 17592186044416 := by omega
    have c5 : x5.length < 17592186044416 := by omega
    by_cases h43 : c.toNat = 43
    · simp only [if_pos h43] at hok
      obtain ⟨r, a, b, e⟩ := ihl (i + 1) (x4 ++ [x6]) (x5 ++ [x6]) (wrap64 (x6 + 1)) hsg' (by rw [List.length_append]; exact hok) (by simp; omega) (by simp; omega) hd2.symm (by omega)
      refine ⟨r, a, by rw [fstL, if_pos h43]; exact b, Ev.step (f := fun k => spec_FirstOfShape.l0 k s (x4 ++ [x6]) (x5 ++ [x6]) (wrap64 (x6 + 1)) ((i + 1 : Nat) : Int)) (fun k => ?_) e⟩
      simp only [spec_FirstOfShape.l0]
      rw [if_pos c1, if_pos c2, if_pos (hb.trans (by omega)), if_pos c4, if_pos c5, wrap_succ i (by omega)]
    · have h45 : c.toNat = 45 := (hsg c (List.mem_cons_self ..)).resolve_left h43
      simp only [if_neg h43, if_pos h45] at hok
      by_cases hn : (x5.length : Int) - 1 < 0
      · rw [if_pos hn] at hok; cases hok
      rw [if_neg hn] at hok
      have hb43 : ¬ bt s (i : Int) = 43 := fun e => h43 (by have := hb.symm.trans e; omega)
      have h5p : 0 < x5.length := by omega
      obtain ⟨r, a, b, e⟩ := ihl (i + 1) (x4 ++ [rd x5 0]) (x5.drop 1) x6 hsg' (by rw [List.length_drop, show ((x5.length - 1 : Nat) : Int) = (x5.length : Int) - 1 from by omega]; exact hok) (by simp; omega) (by simp; omega) hd2.symm (by omega)
      refine ⟨r, a, by rw [fstL, if_neg h43, if_pos h5p]; exact b, Ev.step (f := fun k => spec_FirstOfShape.l0 k s (x4 ++ [rd x5 0]) (x5.drop 1) x6 ((i + 1 : Nat) : Int)) (fun k => ?_) e⟩
      simp only [spec_FirstOfShape.l0]
      rw [if_pos c1, if_pos c2, if_neg hb43, if_pos (by omega), if_pos c4, if_pos (by omega), wrap_succ i (by omega)]
      rfl

theorem law : laws_FnExactFirstOfShape.Pure := by
  intro s _
  apply Ev.rounds
  by_cases hs : s.size ≤ 1048576
  · suffices h : ∃ (r : List Int) (b : Bool), r.length ≤ 1048576 ∧ Ev (fun k => spec_FirstOfShape.f k s) (r, b) ∧ Ev (fun k => impl_FirstOfShape.f k s) (r, b) by
      obtain ⟨r, b, hr, h1, h2⟩ := h
      obtain ⟨L, hL, hm, h3⟩ := ev_markIntS r hr
      have h4 := ev_heldIntS L (by omega) hm
      rw [hL] at h4
      have he := ev_eqIntS r hr
      refine Ev.congr (fun k => by unfold laws_FnExactFirstOfShape.f; rw [if_neg (by omega)]) (Ev.bind h1 (Ev.bind h2 (Ev.bind he ?_)))
      simp only [bne_self_eq_false, if_true]
      refine Ev.step (fun k => by simp only [laws_FnExactFirstOfShape.j0]; rw [if_neg (by decide)]) (Ev.bind h3 (Ev.bind h4 ?_))
      have hng : ¬ ((r.length : Int) + 1 < 0) := by omega
      simp only [hng, if_true, if_false]
      refine Ev.bind h2 (Ev.bind he ?_)
      simp only [bne_self_eq_false, if_true]
      refine Ev.step (fun k => by simp only [laws_FnExactFirstOfShape.j1]; rw [if_neg (by decide)]) (Ev.bind h4 ?_)
      simp only [hng, if_true, if_false]
      exact Ev.now _
    have hsl : s.data.toList.length = s.size := by simp
    cases hq : shp s with
    | false =>
      refine ⟨[], false, by simp, Ev.congr (fun k => by unfold spec_FirstOfShape.f; rfl) (Ev.bind (ev_piIs s) ?_), Ev.congr (fun k => by unfold impl_FirstOfShape.f; rfl) (Ev.bind (ev_IsShape s hs) ?_)⟩
      · simp only [hq, Bool.false_eq_true, if_false]; exact Ev.now _
      · simp only [hq, Bool.false_eq_true, if_false]; exact Ev.now _
    | true =>
      obtain ⟨hne, h16, hok, hsg⟩ := shp_is s hq
      obtain ⟨r, a, b, e⟩ := first_loop s h16 s.data.toList 0 [] [] 0 hsg hok rfl (Nat.le_refl _) rfl (by rw [hsl]; omega)
      refine ⟨r, true, by omega, Ev.congr (fun k => by unfold spec_FirstOfShape.f; rfl) (Ev.bind (ev_piIs s) ?_), Ev.congr (fun k => by unfold impl_FirstOfShape.f; rfl) (Ev.bind (ev_IsShape s hs) ?_)⟩
      · simp only [hq, if_true]
        exact e
      · simp only [hq, if_true]
        rw [if_pos ⟨hs, fun c hc => by rcases hsg c hc with e | e <;> omega⟩, b, Option.bind_some]
        exact Ev.now _
  · refine Ev.congr (f := fun _ => some true) (fun k => ?_) (Ev.now _)
    unfold laws_FnExactFirstOfShape.f
    rw [if_pos (by omega)]

end Go.Proofs.YtfllamjkifbpmaaDoor.PureFirstOfShape
namespace Go.Proofs.YtfllamjkifbpmaaDoor.Pure
theorem FnExactFirstOfShape : Go.Proofs.YtfllamjkifbpmaaDoor.QFirstOfShape.laws_FnExactFirstOfShape.Pure := Go.Proofs.YtfllamjkifbpmaaDoor.PureFirstOfShape.law
end Go.Proofs.YtfllamjkifbpmaaDoor.Pure
