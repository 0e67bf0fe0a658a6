/- The pure statement of the law FnExactBareDays: for every wash and number of days the program's bare days are the reference's, and what it hands back is its own. No condition beside that the arguments are int64. -/
import Derived.Test.YtpalinpgoalneaaQBareDaysx1
import Derived.Test.YtpalinpgoalneaaPureB0
import Derived.Test.YtpalinpgoalneaaXOn
import Derived.Test.YtpalinpgoalneaaXSome
import Derived.Test.YtpalinpgoalneaaQPtAx
namespace Go.Proofs.Ytpalinpgoalneaa.PureBareDays
open Go.RowKit Go.Proofs.YtpalinpgoalneaaW.PrintWords Go.Proofs.YtpalinpgoalneaaW.PrintLast Go.Proofs.YtpalinpgoalneaaW.PrintMore
open Go.Proofs.Ytpalinpgoalneaa.QBase Go.Proofs.Ytpalinpgoalneaa.PD Go.Proofs.Ytpalinpgoalneaa.XSu Go.Proofs.Ytpalinpgoalneaa.XDay Go.Proofs.Ytpalinpgoalneaa.XDayF Go.Proofs.Ytpalinpgoalneaa.PureB0 Go.Proofs.Ytpalinpgoalneaa.QBareDays Go.Proofs.Ytpalinpgoalneaa.XOn Go.Proofs.Ytpalinpgoalneaa.XSome Go.Proofs.Ytpalinpgoalneaa.QPtA
set_option linter.unusedVariables false
set_option linter.unusedSimpArgs false
/-! ### the law's own marks, and the law -/
theorem ev_markIntS (l : List Int) (hl : l.length ≤ 1048576) : ∃ o : List Int, o.length = l.length ∧ (∀ j, j < o.length → o.getD j 0 = (j : Int) + 1) ∧ Ev (fun k => QBareDays.laws_markIntS.f k l 1) ((l.length : Int) + 1, o) := by
  have h : ∀ i, i ≤ l.length → ∀ o : List Int, o.length = l.length → (∀ j, j < i → o.getD j 0 = (j : Int) + 1) → ∃ o' : List Int, o'.length = l.length ∧ (∀ j, j < o'.length → o'.getD j 0 = (j : Int) + 1) ∧ Ev (fun k => QBareDays.laws_markIntS.l0 k o ((i : Int) + 1) (i : Int)) ((l.length : Int) + 1, o') := by
    refine downTo l.length ?_ ?_
    · intro o ho hj
      refine ⟨o, ho, fun j h => hj j (by omega), Ev.step (f := fun _ => some ((l.length : Int) + 1, o)) (fun k => ?_) (Ev.now _)⟩
      simp only [QBareDays.laws_markIntS.l0]
      rw [if_neg (by omega)]
    · intro i hil ih o ho hj
      obtain ⟨o', h1, h2, h3⟩ := ih (o.set i ((i : Int) + 1)) (by rw [List.length_set]; exact ho) (fun j hji => by
        rw [List.getD_eq_getElem?_getD, List.getElem?_set]
        by_cases e : i = j
        · subst e
          rw [if_pos rfl, if_pos (by omega)]; rfl
        · rw [if_neg e, ← List.getD_eq_getElem?_getD]
          exact hj j (by omega))
      refine ⟨o', h1, h2, Ev.step (f := fun k => QBareDays.laws_markIntS.l0 k (o.set i ((i : Int) + 1)) (((i + 1 : Nat) : Int) + 1) ((i + 1 : Nat) : Int)) (fun k => ?_) h3⟩
      simp only [QBareDays.laws_markIntS.l0, Int.toNat_natCast]
      rw [if_pos (by omega), if_pos (by omega), wrap_succ i (by omega), show wrap64 ((i : Int) + 1 + 1) = ((i + 1 : Nat) : Int) + 1 from by unfold wrap64; omega]
  obtain ⟨o, h1, h2, h3⟩ := h 0 (by omega) l rfl (fun j hj => by omega)
  exact ⟨o, h1, h2, h3⟩

theorem law_of (a b c d : Int) (res : List Int) (ok : Bool) (hres : res.length ≤ 1048576) (hs : Ev (fun k => spec_BareDays.f k a b c d) (res, ok)) (hi : Ev (fun k => impl_BareDays.f a b c d) (res, ok)) : Ev (fun k => laws_FnExactBareDays.f k a b c d) true := by
  obtain ⟨o2, hq1, hq2, hq3⟩ := ev_markIntS res hres
  have hh := ev_heldIntS o2 (by omega) hq2
  rw [hq1] at hh
  have h2 : Ev (fun k => laws_FnExactBareDays.j1 k o2 ((res.length : Int) + 1) false) true := by
    refine Ev.step (f := fun k => (laws_heldIntS.f k o2 1).bind fun t => if t < 0 then some false else if t = (res.length : Int) + 1 then some true else some false) (fun k => ?_) (Ev.bind hh ?_)
    · simp only [laws_FnExactBareDays.j1, Bool.false_eq_true, if_false]
    · refine Ev.congr (f := fun _ => some true) (fun k => ?_) (Ev.now _)
      rw [if_neg (by omega), if_pos rfl]
  have h1 : Ev (fun k => laws_FnExactBareDays.j0 k d res ok res false a b c) true := by
    refine Ev.step (f := fun k => (QBareDays.laws_markIntS.f k res 1).bind fun bt => (laws_heldIntS.f k bt.2 1).bind fun t => if t < 0 then some false else if t = bt.1 then (laws_toWash.f a b c).bind fun t2 => (impl_BareDays.f t2.1 t2.2.1 t2.2.2 d).bind fun b2 => (laws_eqIntS.f k b2.1 res).bind fun t3 => if t3 = true then laws_FnExactBareDays.j1 k bt.2 bt.1 (b2.2 != ok) else laws_FnExactBareDays.j1 k bt.2 bt.1 true else some false) (fun k => ?_) (Ev.bind hq3 (Ev.bind hh ?_))
    · simp only [laws_FnExactBareDays.j0, Bool.false_eq_true, if_false]
    · refine Ev.congr (f := fun k => (impl_BareDays.f a b c d).bind fun b2 => (laws_eqIntS.f k b2.1 res).bind fun t3 => if t3 = true then laws_FnExactBareDays.j1 k o2 ((res.length : Int) + 1) (b2.2 != ok) else laws_FnExactBareDays.j1 k o2 ((res.length : Int) + 1) true) (fun k => ?_) ?_
      · rw [if_neg (by omega), if_pos rfl]
        rfl
      · refine Ev.bind hi (Ev.bind (ev_eqIntS res hres) ?_)
        simp only [if_true, bne_self_eq_false]
        exact h2
  refine Ev.congr (f := fun k => (spec_BareDays.f k a b c d).bind fun b1 => (impl_BareDays.f a b c d).bind fun b2 => (laws_eqIntS.f k b2.1 b1.1).bind fun t3 => if t3 = true then laws_FnExactBareDays.j0 k d b1.1 b1.2 b2.1 (b2.2 != b1.2) a b c else laws_FnExactBareDays.j0 k d b1.1 b1.2 b2.1 true a b c) (fun k => rfl) ?_
  refine Ev.bind hs (Ev.bind hi (Ev.bind (ev_eqIntS res hres) ?_))
  simp only [if_true, bne_self_eq_false]
  exact h1

theorem wl_get (n : Nat) (b c : Int) (m i : Nat) (h : i < m) : rd (wl n b c m) (i : Int) = dWorn n b c i := by
  rw [rd_get _ i (by rw [wl_len]; exact h)]
  simp [wl]
theorem list_eq {a b c d : Int} (h : okw a b c d) : spec_dyList.f a b c d = some (wl a.toNat b c d.toNat) := by unfold spec_dyList.f; rw [if_pos h]
theorem ev_spec (a b c d : Int) : Ev (fun k => spec_BareDays.f k a b c d) (if asked a b c d = true then (fl (fun i => decide (dWorn a.toNat b c i < 0)) d.toNat, true) else ([], false)) := by
  by_cases hA : asked a b c d = true
  · rw [if_pos hA]
    obtain ⟨ho, hd⟩ := asked_is hA
    have hd0 := ho.2.2.2.1
    obtain ⟨m, hm⟩ : ∃ m, d.toNat = m := ⟨_, rfl⟩
    obtain ⟨n, hn⟩ : ∃ n, a.toNat = n := ⟨_, rfl⟩
    rw [hm, hn]
    have h : ∀ i, i ≤ m → Ev (fun k => spec_BareDays.l0 k (fl (fun i => decide (dWorn n b c i < 0)) i) (wl n b c m) (m : Int) (i : Int)) (fl (fun i => decide (dWorn n b c i < 0)) m, true) := by
      refine downTo m ?_ ?_
      · refine Ev.step (f := fun _ => some (fl (fun i => decide (dWorn n b c i < 0)) m, true)) (fun k => ?_) (Ev.now _)
        simp only [spec_BareDays.l0]
        rw [if_neg (by omega)]
      · intro i hi ih
        have hfs := fl_succ (fun i => decide (dWorn n b c i < 0)) i
        have hfl := fl_len (fun i => decide (dWorn n b c i < 0)) i
        refine Ev.step (f := fun k => spec_BareDays.l0 k (fl (fun i => decide (dWorn n b c i < 0)) (i + 1)) (wl n b c m) (m : Int) ((i + 1 : Nat) : Int)) (fun k => ?_) ih
        simp only [spec_BareDays.l0]
        rw [if_pos (by omega), if_pos (by omega), if_pos (by rw [wl_len]; omega), wl_get n b c m i hi]
        by_cases hx : dWorn n b c i < 0
        · rw [if_pos (decide_eq_true hx)] at hfs
          rw [if_pos hx, if_pos (by omega), wrap_succ i (by omega), hfs]
        · rw [if_neg (by simpa using hx), List.append_nil] at hfs
          rw [if_neg hx, wrap_succ i (by omega), hfs]
    refine Ev.congr (f := fun k => spec_BareDays.l0 k [] (wl n b c m) (m : Int) 0) (fun k => ?_) (h 0 (by omega))
    unfold spec_BareDays.f
    rw [dyAsked_eq, hA, Option.bind_some, if_pos rfl, list_eq ho, hm, hn]
    show spec_BareDays.l0 k [] (wl n b c m) ((wl n b c m).length : Int) 0 = _
    rw [wl_len]
  · rw [if_neg hA]
    refine Ev.congr (f := fun _ => some ([], false)) (fun k => ?_) (Ev.now _)
    unfold spec_BareDays.f
    rw [dyAsked_eq, Option.bind_some, if_neg hA]
theorem law : laws_FnExactBareDays.Pure := by
  intro a b c d _ _ _ _
  refine Ev.rounds ?_
  have hs := ev_spec a b c d
  by_cases hA : asked a b c d = true
  · rw [if_pos hA] at hs
    exact law_of a b c d _ true (by have h1 := fl_len (fun i => decide (dWorn a.toNat b c i < 0)) d.toNat; have h2 := (asked_is hA).2; omega) hs (Ev.congr (fun k => by unfold impl_BareDays.f; rw [if_pos hA]) (Ev.now _))
  · rw [if_neg hA] at hs
    exact law_of a b c d [] false (by simp) hs (Ev.congr (fun k => by unfold impl_BareDays.f; rw [if_neg hA]) (Ev.now _))

end Go.Proofs.Ytpalinpgoalneaa.PureBareDays
namespace Go.Proofs.Ytpalinpgoalneaa.Pure
theorem FnExactBareDays : Go.Proofs.Ytpalinpgoalneaa.QBareDays.laws_FnExactBareDays.Pure := Go.Proofs.Ytpalinpgoalneaa.PureBareDays.law
end Go.Proofs.Ytpalinpgoalneaa.Pure
