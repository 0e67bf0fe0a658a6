/- The pure statement of the law FnExactFewestClean: for every wash and number of days the program's least number of clean pairs and its first day are the reference's. No condition beside that the arguments are int64. -/
import Derived.Test.YtpalinpgoalneaaQFewestCleanx1
import Derived.Test.YtpalinpgoalneaaPureB0
import Derived.Test.YtpalinpgoalneaaXOn
import Derived.Test.YtpalinpgoalneaaXFc
import Derived.Test.YtpalinpgoalneaaQPtCx
namespace Go.Proofs.Ytpalinpgoalneaa.PureFewestClean
open Go.RowKit Go.Proofs.YtpalinpgoalneaaW.PrintWords Go.Proofs.YtpalinpgoalneaaW.PrintLast Go.Proofs.YtpalinpgoalneaaW.PrintMore
open Go.Proofs.Ytpalinpgoalneaa.QBase Go.Proofs.Ytpalinpgoalneaa.PD Go.Proofs.Ytpalinpgoalneaa.XSu Go.Proofs.Ytpalinpgoalneaa.XDay Go.Proofs.Ytpalinpgoalneaa.XDayF Go.Proofs.Ytpalinpgoalneaa.PureB0 Go.Proofs.Ytpalinpgoalneaa.QFewestClean Go.Proofs.Ytpalinpgoalneaa.XOn Go.Proofs.Ytpalinpgoalneaa.XFc Go.Proofs.Ytpalinpgoalneaa.QPtC
open Go.Proofs.Ytpalinpgoalneaa.QDayP (S44 z44 k44 rd_T44)
set_option linter.unusedVariables false
set_option linter.unusedSimpArgs false

def cl (n : Nat) (b c : Int) (i : Nat) : Int := ((dClean n b c i).length : Int)
def lens (n : Nat) (b c : Int) (m : Nat) : List Int := (List.range m).map fun i => cl n b c i
theorem lens_succ (n : Nat) (b c : Int) (m : Nat) : lens n b c (m + 1) = lens n b c m ++ [cl n b c m] := by
  unfold lens
  rw [List.range_succ, List.map_append]
  rfl
theorem lens_len (n : Nat) (b c : Int) (m : Nat) : (lens n b c m).length = m := by unfold lens; simp
theorem lens_get (n : Nat) (b c : Int) (m i : Nat) (h : i < m) : rd (lens n b c m) (i : Int) = cl n b c i := by
  rw [rd_get _ i (by rw [lens_len]; exact h)]
  simp [lens]
theorem cl_bd (n : Nat) (b c : Int) (i : Nat) : 0 ≤ cl n b c i ∧ cl n b c i ≤ n := by
  have h := fl_len (fun k => isCl (st n b c i).1 k i) n
  unfold cl dClean
  omega
theorem fw_succ (n : Nat) (b c : Int) (k : Nat) : fw n b c (k + 1) = if cl n b c k < (fw n b c k).1 then (cl n b c k, (k : Int)) else fw n b c k := rfl
/-- What fw tells: the least, its first place. -/
theorem fw_is (n : Nat) (b c : Int) : ∀ k, 1 ≤ k → ∃ t : Nat, t < k ∧ (fw n b c k).2 = (t : Int) ∧ cl n b c t = (fw n b c k).1 ∧ (∀ j, j < t → (fw n b c k).1 < cl n b c j) ∧ ∀ j, j < k → (fw n b c k).1 ≤ cl n b c j := by
  intro k
  induction k with
  | zero => intro h; omega
  | succ k ih =>
    intro _
    have hb := cl_bd n b c k
    rw [fw_succ]
    by_cases hk : k = 0
    · subst hk
      rw [if_pos (by show cl n b c 0 < (n : Int) + 1; omega)]
      exact ⟨0, by omega, rfl, rfl, fun j hj => by omega, fun j hj => by rw [show j = 0 by omega]; exact Int.le_refl _⟩
    · obtain ⟨t, h1, h2, h3, h4, h5⟩ := ih (by omega)
      by_cases h : cl n b c k < (fw n b c k).1
      · rw [if_pos h]
        refine ⟨k, by omega, rfl, rfl, fun j hj => ?_, fun j hj => ?_⟩
        · have := h5 j hj
          show cl n b c k < cl n b c j
          omega
        · show cl n b c k ≤ cl n b c j
          by_cases e : j = k
          · rw [e]; exact Int.le_refl _
          · have := h5 j (by omega); omega
      · rw [if_neg h]
        refine ⟨t, by omega, h2, h3, h4, fun j hj => ?_⟩
        by_cases e : j = k
        · rw [e]; omega
        · exact h5 j (by omega)
theorem dl_get (n : Nat) (b c : Int) (m i : Nat) (h : i < m) : rd_T44 (dl n b c m) (i : Int) = dayOf n b c i := by
  unfold rd_T44
  rw [Int.toNat_natCast, List.getD_eq_getElem?_getD, List.getElem?_eq_getElem (by rw [dl_len]; exact h)]
  simp [dl]
theorem days_eq {a b c d : Int} (h : okw a b c d) : impl_Wash_days.f a b c d = some (dl a.toNat b c d.toNat) := by unfold impl_Wash_days.f; rw [if_pos h]
theorem ev_min (n : Nat) (b c : Int) (m : Nat) (hm : 1 ≤ m) (hm2 : m ≤ 600) : Ev (fun k => slices_Min_int_int.f k (lens n b c m)) (fw n b c m).1 := by
  have h : ∀ i, i ≤ m → 1 ≤ i → Ev (fun k => slices_Min_int_int.l0 k (lens n b c m) (fw n b c i).1 (i : Int)) (fw n b c m).1 := by
    refine downTo m ?_ ?_
    · intro _
      refine Ev.step (f := fun _ => some (fw n b c m).1) (fun k => ?_) (Ev.now _)
      simp only [slices_Min_int_int.l0]
      rw [if_neg (by rw [lens_len]; omega)]
    · intro i hi ih h1
      refine Ev.step (f := fun k => slices_Min_int_int.l0 k (lens n b c m) (fw n b c (i + 1)).1 ((i + 1 : Nat) : Int)) (fun k => ?_) (ih (by omega))
      simp only [slices_Min_int_int.l0]
      rw [if_pos (by rw [lens_len]; omega), if_pos (by omega), lens_get n b c m i hi, wrap_succ i (by omega), show mn (fw n b c i).1 (cl n b c i) = (fw n b c (i + 1)).1 from by rw [fw_succ]; unfold mn; split <;> rfl]
  refine Ev.congr (f := fun k => slices_Min_int_int.l0 k (lens n b c m) (fw n b c 1).1 ((1 : Nat) : Int)) (fun k => ?_) (h 1 hm (by omega))
  unfold slices_Min_int_int.f
  rw [if_neg (by rw [lens_len]; omega), if_pos (by rw [lens_len]; omega)]
  have e : rd (lens n b c m) 0 = (fw n b c 1).1 := by
    have := lens_get n b c m 0 (by omega)
    rw [show ((0 : Nat) : Int) = 0 from rfl] at this
    rw [this, fw_succ]
    have hb := cl_bd n b c 0
    rw [if_pos (by show cl n b c 0 < (n : Int) + 1; omega)]
  rw [e]
  rfl
theorem ev_idx (n : Nat) (b c : Int) (m : Nat) (hm : 1 ≤ m) (hm2 : m ≤ 600) : Ev (fun k => slices_Index_int_int.f k (lens n b c m) (fw n b c m).1) (fw n b c m).2 := by
  obtain ⟨t, h1, h2, h3, h4, _⟩ := fw_is n b c m hm
  rw [h2]
  have h : ∀ i, i ≤ t → Ev (fun k => slices_Index_int_int.l0 k (lens n b c m) (fw n b c m).1 (m : Int) (i : Int)) (t : Int) := by
    refine downTo t ?_ ?_
    · refine Ev.step (f := fun _ => some (t : Int)) (fun k => ?_) (Ev.now _)
      simp only [slices_Index_int_int.l0]
      rw [if_pos (by omega), if_pos (by omega), if_pos (by rw [lens_len]; omega), lens_get n b c m t h1, if_pos h3.symm]
    · intro i hi ih
      refine Ev.step (f := fun k => slices_Index_int_int.l0 k (lens n b c m) (fw n b c m).1 (m : Int) ((i + 1 : Nat) : Int)) (fun k => ?_) ih
      simp only [slices_Index_int_int.l0]
      have := h4 i hi
      rw [if_pos (by omega), if_pos (by omega), if_pos (by rw [lens_len]; omega), lens_get n b c m i (by omega), if_neg (by omega), wrap_succ i (by omega)]
  refine Ev.congr (f := fun k => slices_Index_int_int.l0 k (lens n b c m) (fw n b c m).1 (m : Int) 0) (fun k => ?_) (h 0 (by omega))
  unfold slices_Index_int_int.f
  rw [lens_len]
theorem ev_impl (a b c d : Int) : Ev (fun k => impl_FewestClean.f k a b c d) (fewF a b c d) := by
  unfold fewF
  by_cases hA : asked a b c d = true
  · obtain ⟨ho, hd⟩ := asked_is hA
    have hd0 := ho.2.2.2.1
    by_cases h0 : d = 0
    · rw [if_neg (fun h => h.2 h0)]
      refine Ev.congr (f := fun k => impl_FewestClean.j0 k d true a b c) (fun k => ?_) (Ev.step (f := fun _ => some (0, 0, false)) (fun k => ?_) (Ev.now _))
      · unfold impl_FewestClean.f
        rw [isDay_eq, hA, Option.bind_some, if_pos rfl, decide_eq_true (show d < 1 by omega)]
      · simp only [impl_FewestClean.j0, if_true]
    · rw [if_pos ⟨hA, h0⟩]
      obtain ⟨m, hm⟩ : ∃ m, d.toNat = m := ⟨_, rfl⟩
      obtain ⟨n, hn⟩ : ∃ n, a.toNat = n := ⟨_, rfl⟩
      rw [hm, hn]
      have h : ∀ i, i ≤ m → Ev (fun k => impl_FewestClean.l0 k (lens n b c i) (dl n b c m) (m : Int) (i : Int)) ((fw n b c m).1, (fw n b c m).2, true) := by
        refine downTo m ?_ ?_
        · refine Ev.step (f := fun k => (slices_Min_int_int.f k (lens n b c m)).bind fun t185 => ((slices_Index_int_int.f k (lens n b c m) t185).bind fun t186 => (some (t185, t186, true)))) (fun k => ?_) (Ev.bind (ev_min n b c m (by omega) (by omega)) (Ev.bind (ev_idx n b c m (by omega) (by omega)) (Ev.now _)))
          simp only [impl_FewestClean.l0]
          rw [if_neg (by omega)]
        · intro i hi ih
          refine Ev.step (f := fun k => impl_FewestClean.l0 k (lens n b c (i + 1)) (dl n b c m) (m : Int) ((i + 1 : Nat) : Int)) (fun k => ?_) ih
          simp only [impl_FewestClean.l0]
          rw [if_pos (by omega), if_pos (by omega), if_pos (by rw [dl_len]; omega), if_pos (by rw [lens_len]; omega), dl_get _ _ _ _ _ hi, wrap_succ i (by omega), lens_succ]
          rfl
      refine Ev.congr (f := fun k => impl_FewestClean.j0 k d false a b c) (fun k => ?_) (Ev.step (f := fun k => impl_FewestClean.l0 k [] (dl n b c m) (m : Int) 0) (fun k => ?_) (h 0 (by omega)))
      · unfold impl_FewestClean.f
        rw [isDay_eq, hA, Option.bind_some, if_pos rfl, decide_eq_false (show ¬ d < 1 by omega)]
      · simp only [impl_FewestClean.j0]
        rw [if_neg (by simp), days_eq ho, hm, hn]
        show impl_FewestClean.l0 k [] (dl n b c m) ((dl n b c m).length : Int) 0 = _
        rw [dl_len]
  · rw [if_neg (fun h => hA h.1)]
    refine Ev.congr (f := fun k => impl_FewestClean.j0 k d true a b c) (fun k => ?_) (Ev.step (f := fun _ => some (0, 0, false)) (fun k => ?_) (Ev.now _))
    · unfold impl_FewestClean.f
      rw [isDay_eq, Bool.eq_false_iff.mpr hA, Option.bind_some, if_neg (by simp)]
    · simp only [impl_FewestClean.j0, if_true]
theorem law : laws_FnExactFewestClean.Pure := by
  intro a b c d _ _ _ _
  refine Ev.rounds ?_
  refine Ev.congr (f := fun k => (spec_FewestClean.f a b c d).bind fun b1 => (impl_FewestClean.f k a b c d).bind fun b2 => if b2.1 = b1.1 then (if b2.2.1 = b1.2.1 then (if (b2.2.2 != b1.2.2) = true then some false else some true) else some false) else some false) (fun k => rfl) ?_
  refine Ev.bind (Ev.now _) (Ev.bind (ev_impl a b c d) ?_)
  simp only [if_true, bne_self_eq_false, Bool.false_eq_true, if_false]
  exact Ev.now _

end Go.Proofs.Ytpalinpgoalneaa.PureFewestClean
namespace Go.Proofs.Ytpalinpgoalneaa.Pure
theorem FnExactFewestClean : Go.Proofs.Ytpalinpgoalneaa.QFewestClean.laws_FnExactFewestClean.Pure := Go.Proofs.Ytpalinpgoalneaa.PureFewestClean.law
end Go.Proofs.Ytpalinpgoalneaa.Pure
