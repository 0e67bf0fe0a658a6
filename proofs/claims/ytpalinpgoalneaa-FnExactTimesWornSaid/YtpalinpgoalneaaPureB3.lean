/- Plain laws of the washing days: what the program's and the reference's functions over the days' list come to. -/
import Derived.Test.YtpalinpgoalneaaQPtx
namespace Go.Proofs.Ytpalinpgoalneaa.PureB3
open Go.RowKit Go.Proofs.YtpalinpgoalneaaW.PrintWords Go.Proofs.YtpalinpgoalneaaW.PrintLast Go.Proofs.YtpalinpgoalneaaW.PrintMore
open Go.Proofs.Ytpalinpgoalneaa.QBase Go.Proofs.Ytpalinpgoalneaa.PD Go.Proofs.Ytpalinpgoalneaa.XSt Go.Proofs.Ytpalinpgoalneaa.XSu Go.Proofs.Ytpalinpgoalneaa.XDay Go.Proofs.Ytpalinpgoalneaa.XDayF Go.Proofs.Ytpalinpgoalneaa.QPt
open Go.Proofs.Ytpalinpgoalneaa.QDayP (S44 z44 k44 rd_T44)
set_option linter.unusedVariables false
set_option linter.unusedSimpArgs false
theorem downTo {P : Nat → Prop} (n : Nat) (h0 : P n) (hs : ∀ i, i < n → P (i + 1) → P i) : ∀ i, i ≤ n → P i := by
  intro i hi
  obtain ⟨d, rfl⟩ : ∃ d, n = i + d := ⟨n - i, by omega⟩
  induction d generalizing i with
  | zero => exact h0
  | succ d ih => exact hs i (by omega) (ih (i + 1) (by rw [show i + 1 + d = i + (d + 1) from by omega]; exact h0) (by rw [show i + 1 + d = i + (d + 1) from by omega]; exact hs) (by omega))

theorem rd_get (l : List Int) (i : Nat) (h : i < l.length) : rd l (i : Int) = l[i] := by rw [rd_nat, List.getD_eq_getElem?_getD, List.getElem?_eq_getElem h]; rfl

theorem drop_cons (l : List Int) (i : Nat) (h : i < l.length) : l.drop i = rd l (i : Int) :: l.drop (i + 1) := by rw [rd_get l i h]; exact List.drop_eq_getElem_cons h

theorem wrap_succ (i : Nat) (h : i < 9223372036854775807) : wrap64 ((i : Int) + 1) = ((i + 1 : Nat) : Int) := by unfold wrap64; omega

theorem ev_eqIntS (l : List Int) (hl : l.length ≤ 1048576) : Ev (fun k => laws_eqIntS.f k l l) true := by
  have h : ∀ i, i ≤ l.length → Ev (fun k => laws_eqIntS.l0 k l l (i : Int)) true := by
    refine downTo l.length ?_ ?_
    · refine Ev.step (f := fun _ => some true) (fun k => ?_) (Ev.now _)
      simp only [laws_eqIntS.l0]
      rw [if_neg (by omega)]
    · intro i hi ih
      refine Ev.step (f := fun k => laws_eqIntS.l0 k l l ((i + 1 : Nat) : Int)) (fun k => ?_) ih
      simp only [laws_eqIntS.l0]
      rw [if_pos (by omega), if_pos (by omega), if_pos (by omega), if_pos trivial, wrap_succ i (by omega)]
  refine Ev.congr (f := fun k => laws_eqIntS.l0 k l l 0) (fun k => ?_) (h 0 (by omega))
  unfold laws_eqIntS.f
  rw [if_pos rfl]

theorem rd_last (xs : List Int) (n : Int) (i : Nat) (h : xs.length = i) : rd (xs ++ [n]) (i : Int) = n := by
  rw [rd_get _ i (by simp [h]), List.getElem_append_right (by omega)]
  simp

theorem ev_heldIntS (l : List Int) (hl : l.length ≤ 1048576) (hm : ∀ j, j < l.length → l.getD j 0 = (j : Int) + 1) : Ev (fun k => laws_heldIntS.f k l 1) ((l.length : Int) + 1) := by
  have h : ∀ i, i ≤ l.length → Ev (fun k => laws_heldIntS.l0 k l ((i : Int) + 1) (i : Int)) ((l.length : Int) + 1) := by
    refine downTo l.length ?_ ?_
    · refine Ev.step (f := fun _ => some ((l.length : Int) + 1)) (fun k => ?_) (Ev.now _)
      simp only [laws_heldIntS.l0]
      rw [if_neg (by omega)]
    · intro i hil ih
      refine Ev.step (f := fun k => laws_heldIntS.l0 k l (((i + 1 : Nat) : Int) + 1) ((i + 1 : Nat) : Int)) (fun k => ?_) ih
      simp only [laws_heldIntS.l0]
      rw [if_pos (by omega), if_pos (by omega), if_pos (by rw [rd_nat]; exact hm i hil), wrap_succ i (by omega), show wrap64 ((i : Int) + 1 + 1) = ((i + 1 : Nat) : Int) + 1 from by unfold wrap64; omega]
  exact h 0 (by omega)

def asked (a b c d : Int) : Bool := decide (okw a b c d ∧ d ≤ 500)
theorem dyGood_eq (a b c : Int) : spec_dyGood.f a b c = some (decide (okw a b c 0)) := by
  unfold spec_dyGood.f spec_l1In.f okw
  by_cases h1 : 1 ≤ a <;> by_cases h2 : a ≤ 30 <;> by_cases h3 : 1 ≤ b <;> by_cases h4 : b ≤ 30 <;> by_cases h5 : 1 ≤ c <;> simp [h1, h2, h3, h4, h5]
theorem isWash_eq (a b c : Int) : impl_IsWash.f a b c = some (decide (okw a b c 0)) := by
  unfold impl_IsWash.f impl_areTimes.f impl_within.f okw
  by_cases h1 : 1 ≤ a <;> by_cases h2 : a ≤ 30 <;> by_cases h3 : 1 ≤ b <;> by_cases h4 : b ≤ 30 <;> by_cases h5 : 1 ≤ c <;> simp [h1, h2, h3, h4, h5]
theorem asked_and (a b c d : Int) : asked a b c d = (decide (okw a b c 0) && (decide (0 ≤ d) && decide (d ≤ 500))) := by
  unfold asked
  rw [Bool.eq_iff_iff, Bool.and_eq_true, Bool.and_eq_true, decide_eq_true_iff, decide_eq_true_iff, decide_eq_true_iff, decide_eq_true_iff]
  unfold okw
  omega
theorem dyAsked_eq (a b c d : Int) : spec_dyAsked.f a b c d = some (asked a b c d) := by
  unfold spec_dyAsked.f
  rw [dyGood_eq, asked_and]
  show (if decide (okw a b c 0) = true then _ else _) = _
  cases decide (okw a b c 0)
  · rfl
  · rw [if_pos rfl]
    unfold spec_l1In.f
    by_cases h : 0 ≤ d
    · rw [if_pos h]; simp [h]
    · rw [if_neg h]; simp [h]
theorem isDay_eq (a b c d : Int) : impl_isDay.f a b c d = some (asked a b c d) := by
  unfold impl_isDay.f
  rw [isWash_eq, asked_and]
  show (if decide (okw a b c 0) = true then _ else _) = _
  cases decide (okw a b c 0)
  · rfl
  · rw [if_pos rfl]
    unfold impl_within.f
    by_cases h : 0 ≤ d
    · rw [if_pos h]; simp [h]
    · rw [if_neg h]; simp [h]
theorem asked_is {a b c d : Int} (h : asked a b c d = true) : okw a b c d ∧ d ≤ 500 := of_decide_eq_true h
theorem wl_get (n : Nat) (b c : Int) (m i : Nat) (h : i < m) : rd (wl n b c m) (i : Int) = dWorn n b c i := by
  rw [rd_get _ i (by rw [wl_len]; exact h)]
  simp [wl]
theorem dl_get (n : Nat) (b c : Int) (m i : Nat) (h : i < m) : rd_T44 (dl n b c m) (i : Int) = dayOf n b c i := by
  unfold rd_T44
  rw [Int.toNat_natCast, List.getD_eq_getElem?_getD, List.getElem?_eq_getElem (by rw [dl_len]; exact h)]
  simp [dl]
theorem dWorn_bd (n : Nat) (b c : Int) (i : Nat) : -1 ≤ dWorn n b c i ∧ dWorn n b c i < n := pk_bd _ _ _ _
/-- A right wash and number of days: the lists that are told. -/
theorem days_eq {a b c d : Int} (h : okw a b c d) : impl_Wash_days.f a b c d = some (dl a.toNat b c d.toNat) := by unfold impl_Wash_days.f; rw [if_pos h]
theorem list_eq {a b c d : Int} (h : okw a b c d) : spec_dyList.f a b c d = some (wl a.toNat b c d.toNat) := by unfold spec_dyList.f; rw [if_pos h]
/-! ### WornList -/
theorem ev_implWornList (a b c d : Int) : Ev (fun k => impl_WornList.f k a b c d) (if asked a b c d = true then (wl a.toNat b c d.toNat, true) else ([], false)) := by
  by_cases hA : asked a b c d = true
  · rw [if_pos hA]
    obtain ⟨ho, hd⟩ := asked_is hA
    have hd0 := ho.2.2.2.1
    obtain ⟨m, hm⟩ : ∃ m, d.toNat = m := ⟨_, rfl⟩
    rw [hm]
    have h : ∀ i, i ≤ m → Ev (fun k => impl_WornList.l0 k (wl a.toNat b c i) (dl a.toNat b c m) (m : Int) (i : Int)) (wl a.toNat b c m, true) := by
      refine downTo m ?_ ?_
      · refine Ev.step (f := fun _ => some (wl a.toNat b c m, true)) (fun k => ?_) (Ev.now _)
        simp only [impl_WornList.l0]
        rw [if_neg (by omega)]
      · intro i hi ih
        refine Ev.step (f := fun k => impl_WornList.l0 k (wl a.toNat b c (i + 1)) (dl a.toNat b c m) (m : Int) ((i + 1 : Nat) : Int)) (fun k => ?_) ih
        simp only [impl_WornList.l0]
        rw [if_pos (by omega), if_pos (by omega), if_pos (by rw [dl_len]; omega), if_pos (by rw [wl_len]; omega), dl_get _ _ _ _ _ hi, wrap_succ i (by omega), wl_succ]
        rfl
    refine Ev.congr (f := fun k => impl_WornList.l0 k [] (dl a.toNat b c m) (m : Int) 0) (fun k => ?_) (h 0 (by omega))
    unfold impl_WornList.f
    rw [isDay_eq, hA]
    rw [Option.bind_some, if_pos rfl, days_eq ho, hm]
    show impl_WornList.l0 k [] (dl a.toNat b c m) ((dl a.toNat b c m).length : Int) 0 = _
    rw [dl_len]
  · rw [if_neg hA]
    refine Ev.congr (f := fun _ => some ([], false)) (fun k => ?_) (Ev.now _)
    unfold impl_WornList.f
    rw [isDay_eq]
    rw [Option.bind_some, if_neg hA]
theorem ev_specWornList (a b c d : Int) : spec_WornList.f a b c d = some (if asked a b c d = true then (wl a.toNat b c d.toNat, true) else ([], false)) := by
  unfold spec_WornList.f
  rw [dyAsked_eq, Option.bind_some]
  by_cases hA : asked a b c d = true
  · rw [if_pos hA, if_pos hA, list_eq (asked_is hA).1]
    rfl
  · rw [if_neg hA, if_neg hA]
/-! ### TimesWorn -/
theorem ev_TimesWorn (a b c d : Int) : ∃ (res : List Int) (ok : Bool), res.length ≤ 1048576 ∧ Ev (fun k => spec_TimesWorn.f k a b c d) (res, ok) ∧ Ev (fun k => impl_TimesWorn.f k a b c d) (res, ok) := by
  by_cases hA : asked a b c d = true
  · obtain ⟨ho, hd⟩ := asked_is hA
    have hd0 := ho.2.2.2.1
    have ha := ho.1
    obtain ⟨m, hm⟩ : ∃ m, d.toNat = m := ⟨_, rfl⟩
    obtain ⟨n, hn⟩ : ∃ n, a.toNat = n := ⟨_, rfl⟩
    have hW := ev_implWornList a b c d
    rw [if_pos hA, hm, hn] at hW
    have h : ∀ i, i ≤ m → ∀ x : List Int, x.length = n → ∃ res : List Int, res.length = n ∧ Ev (fun k => spec_TimesWorn.l0 k x (wl n b c m) (m : Int) (i : Int)) (res, true) ∧ Ev (fun k => impl_TimesWorn.l0 k x (wl n b c m) (m : Int) (i : Int)) (res, true) := by
      refine downTo m ?_ ?_
      · intro x hx
        refine ⟨x, hx, Ev.step (f := fun _ => some (x, true)) (fun k => ?_) (Ev.now _), Ev.step (f := fun _ => some (x, true)) (fun k => ?_) (Ev.now _)⟩
        · simp only [spec_TimesWorn.l0]
          rw [if_neg (by omega)]
        · simp only [impl_TimesWorn.l0]
          rw [if_neg (by omega)]
      · intro i hi ih x hx
        have hbd := dWorn_bd n b c i
        have hg := wl_get n b c m i hi
        by_cases hneg : 0 ≤ dWorn n b c i
        · obtain ⟨res, h1, h2, h3⟩ := ih (x.set (dWorn n b c i).toNat (wrap64 (rd x (dWorn n b c i) + 1))) (by rw [List.length_set]; exact hx)
          refine ⟨res, h1, Ev.step (f := fun k => spec_TimesWorn.l0 k (x.set (dWorn n b c i).toNat (wrap64 (rd x (dWorn n b c i) + 1))) (wl n b c m) (m : Int) ((i + 1 : Nat) : Int)) (fun k => ?_) h2, Ev.step (f := fun k => impl_TimesWorn.l0 k (x.set (dWorn n b c i).toNat (wrap64 (rd x (dWorn n b c i) + 1))) (wl n b c m) (m : Int) ((i + 1 : Nat) : Int)) (fun k => ?_) h3⟩
          · simp only [spec_TimesWorn.l0]
            rw [if_pos (by omega), if_pos (by omega), if_pos (by rw [wl_len]; omega), hg, if_pos (by omega), if_pos (by omega), if_pos (by rw [hx]; omega), wrap_succ i (by omega)]
          · simp only [impl_TimesWorn.l0]
            rw [if_pos (by omega), if_pos (by omega), if_pos (by rw [wl_len]; omega), hg, if_pos (by omega), if_pos (by omega), if_pos (by rw [hx]; omega), wrap_succ i (by omega)]
        · obtain ⟨res, h1, h2, h3⟩ := ih x hx
          refine ⟨res, h1, Ev.step (f := fun k => spec_TimesWorn.l0 k x (wl n b c m) (m : Int) ((i + 1 : Nat) : Int)) (fun k => ?_) h2, Ev.step (f := fun k => impl_TimesWorn.l0 k x (wl n b c m) (m : Int) ((i + 1 : Nat) : Int)) (fun k => ?_) h3⟩
          · simp only [spec_TimesWorn.l0]
            rw [if_pos (by omega), if_pos (by omega), if_pos (by rw [wl_len]; omega), hg, if_neg (by omega), wrap_succ i (by omega)]
          · simp only [impl_TimesWorn.l0]
            rw [if_pos (by omega), if_pos (by omega), if_pos (by rw [wl_len]; omega), hg, if_neg (by omega), wrap_succ i (by omega)]
    obtain ⟨res, h1, h2, h3⟩ := h 0 (by omega) (List.replicate n 0) (by simp)
    refine ⟨res, true, by omega, Ev.congr (f := fun k => spec_TimesWorn.l0 k (List.replicate n 0) (wl n b c m) (m : Int) 0) (fun k => ?_) h2, ?_⟩
    · unfold spec_TimesWorn.f
      rw [dyAsked_eq, hA]
      rw [Option.bind_some, if_pos rfl, if_pos (by omega), if_pos (by omega), list_eq ho, hm, hn]
      show spec_TimesWorn.l0 k (List.replicate n 0) (wl n b c m) ((wl n b c m).length : Int) 0 = _
      rw [wl_len]
    · refine Ev.congr (f := fun k => (impl_WornList.f k a b c d).bind fun bt203 => (if bt203.2 = true then (if 0 ≤ a then (if (a : Int).toNat ≤ 35184372088832 then (impl_TimesWorn.l0 k (List.replicate (a : Int).toNat 0) bt203.1 (bt203.1.length : Int) 0) else (none)) else (none)) else (some (([] : List Int), false)))) (fun k => rfl) (Ev.bind hW ?_)
      refine Ev.congr (f := fun k => impl_TimesWorn.l0 k (List.replicate n 0) (wl n b c m) (m : Int) 0) (fun k => ?_) h3
      rw [if_pos rfl, if_pos (by omega), if_pos (by omega), hn, wl_len]
  · refine ⟨[], false, by simp, Ev.congr (f := fun _ => some ([], false)) (fun k => ?_) (Ev.now _), ?_⟩
    · unfold spec_TimesWorn.f
      rw [dyAsked_eq]
      rw [Option.bind_some, if_neg hA]
    · have hW := ev_implWornList a b c d
      rw [if_neg hA] at hW
      refine Ev.congr (f := fun k => (impl_WornList.f k a b c d).bind fun bt203 => (if bt203.2 = true then (if 0 ≤ a then (if (a : Int).toNat ≤ 35184372088832 then (impl_TimesWorn.l0 k (List.replicate (a : Int).toNat 0) bt203.1 (bt203.1.length : Int) 0) else (none)) else (none)) else (some (([] : List Int), false)))) (fun k => rfl) (Ev.bind hW ?_)
      refine Ev.congr (f := fun _ => some ([], false)) (fun k => ?_) (Ev.now _)
      rw [if_neg (by simp)]
/-! ### LastsUntil -/
theorem ev_LastsUntil (a b c d : Int) : ∃ (r : Int) (ok : Bool), Ev (fun k => spec_LastsUntil.f k a b c d) (r, ok) ∧ Ev (fun k => impl_LastsUntil.f k a b c d) (r, ok) := by
  by_cases hA : okw a b c 0 ∧ 1 ≤ d ∧ d ≤ 100
  · obtain ⟨ho0, hd1, hd2⟩ := hA
    have ho : okw a b c 501 := ⟨ho0.1, ho0.2.1, ho0.2.2.1, by omega, by omega⟩
    have ha := ho.1
    obtain ⟨n, hn⟩ : ∃ n, a.toNat = n := ⟨_, rfl⟩
    have h : ∀ i : Nat, i ≤ 501 → ∀ x : List Int, x.length = n → ∃ (r : Int) (ok : Bool), Ev (fun k => spec_LastsUntil.l0 k d x (wl n b c 501) ((501 : Nat) : Int) (i : Int)) (r, ok) ∧ Ev (fun k => impl_LastsUntil.l0 k d x (dl n b c 501) ((501 : Nat) : Int) (i : Int)) (r, ok) := by
      refine downTo 501 ?_ ?_
      · intro x hx
        refine ⟨0, false, Ev.step (f := fun _ => some (0, false)) (fun k => ?_) (Ev.now _), Ev.step (f := fun _ => some (0, false)) (fun k => ?_) (Ev.now _)⟩
        · simp only [spec_LastsUntil.l0]
          rw [if_neg (by omega)]
        · simp only [impl_LastsUntil.l0]
          rw [if_neg (by omega)]
      · intro i hi ih x hx
        have hbd := dWorn_bd n b c i
        have hg := wl_get n b c 501 i hi
        have hg2 := dl_get n b c 501 i hi
        by_cases hneg : dWorn n b c i < 0
        · obtain ⟨r, ok, h2, h3⟩ := ih x hx
          refine ⟨r, ok, Ev.step (f := fun k => spec_LastsUntil.l0 k d x (wl n b c 501) ((501 : Nat) : Int) ((i + 1 : Nat) : Int)) (fun k => ?_) h2, Ev.step (f := fun k => impl_LastsUntil.l0 k d x (dl n b c 501) ((501 : Nat) : Int) ((i + 1 : Nat) : Int)) (fun k => ?_) h3⟩
          · simp only [spec_LastsUntil.l0]
            rw [if_pos (by omega), if_pos (by omega), if_pos (by rw [wl_len]; omega), hg, if_pos hneg, wrap_succ i (by omega)]
          · simp only [impl_LastsUntil.l0]
            rw [if_pos (by omega), if_pos (by omega), if_pos (by rw [dl_len]; omega), hg2]
            unfold impl_day_isBare.f
            show (if decide (dWorn n b c i < 0) = true then _ else _) = _
            rw [if_pos (decide_eq_true hneg), wrap_succ i (by omega)]
        · obtain ⟨y, hy⟩ : ∃ y : List Int, x.set (dWorn n b c i).toNat (wrap64 (rd x (dWorn n b c i) + 1)) = y := ⟨_, rfl⟩
          have hyl : y.length = n := by rw [← hy, List.length_set]; exact hx
          by_cases hhit : rd y (dWorn n b c i) = d
          · refine ⟨(i : Int), true, Ev.step (f := fun _ => some ((i : Int), true)) (fun k => ?_) (Ev.now _), Ev.step (f := fun _ => some ((i : Int), true)) (fun k => ?_) (Ev.now _)⟩
            · simp only [spec_LastsUntil.l0]
              rw [if_pos (by omega), if_pos (by omega), if_pos (by rw [wl_len]; omega), hg, if_neg hneg, if_pos (by omega), if_pos (by rw [hx]; omega), hy]
              show (if rd y (dWorn n b c i) = d then _ else _) = _
              rw [if_pos hhit]
            · simp only [impl_LastsUntil.l0]
              rw [if_pos (by omega), if_pos (by omega), if_pos (by rw [dl_len]; omega), hg2]
              unfold impl_day_isBare.f
              show (if decide (dWorn n b c i < 0) = true then _ else (if 0 ≤ dWorn n b c i then (if dWorn n b c i < (x.length : Int) then ((some (x.set (dWorn n b c i).toNat (wrap64 (rd x (dWorn n b c i) + 1)))).bind fun y200 => if rd y200 (dWorn n b c i) = d then _ else _) else _) else _)) = _
              rw [if_neg (by simpa using hneg), if_pos (by omega), if_pos (by rw [hx]; omega), hy]
              show (if rd y (dWorn n b c i) = d then _ else _) = _
              rw [if_pos hhit]
          · obtain ⟨r, ok, h2, h3⟩ := ih y hyl
            refine ⟨r, ok, Ev.step (f := fun k => spec_LastsUntil.l0 k d y (wl n b c 501) ((501 : Nat) : Int) ((i + 1 : Nat) : Int)) (fun k => ?_) h2, Ev.step (f := fun k => impl_LastsUntil.l0 k d y (dl n b c 501) ((501 : Nat) : Int) ((i + 1 : Nat) : Int)) (fun k => ?_) h3⟩
            · simp only [spec_LastsUntil.l0]
              rw [if_pos (by omega), if_pos (by omega), if_pos (by rw [wl_len]; omega), hg, if_neg hneg, if_pos (by omega), if_pos (by rw [hx]; omega), hy]
              show (if rd y (dWorn n b c i) = d then _ else _) = _
              rw [if_neg hhit, wrap_succ i (by omega)]
            · simp only [impl_LastsUntil.l0]
              rw [if_pos (by omega), if_pos (by omega), if_pos (by rw [dl_len]; omega), hg2]
              unfold impl_day_isBare.f
              show (if decide (dWorn n b c i < 0) = true then _ else (if 0 ≤ dWorn n b c i then (if dWorn n b c i < (x.length : Int) then ((some (x.set (dWorn n b c i).toNat (wrap64 (rd x (dWorn n b c i) + 1)))).bind fun y200 => if rd y200 (dWorn n b c i) = d then _ else _) else _) else _)) = _
              rw [if_neg (by simpa using hneg), if_pos (by omega), if_pos (by rw [hx]; omega), hy]
              show (if rd y (dWorn n b c i) = d then _ else _) = _
              rw [if_neg hhit, wrap_succ i (by omega)]
    obtain ⟨r, ok, h2, h3⟩ := h 0 (by omega) (List.replicate n 0) (by simp)
    refine ⟨r, ok, ?_, ?_⟩
    · refine Ev.congr (f := fun k => spec_LastsUntil.j0 k d false a b c) (fun k => ?_) (Ev.step (f := fun k => spec_LastsUntil.l0 k d (List.replicate n 0) (wl n b c 501) ((501 : Nat) : Int) 0) (fun k => ?_) h2)
      · unfold spec_LastsUntil.f
        rw [dyGood_eq, decide_eq_true ho0]
        rw [Option.bind_some, if_pos rfl]
        unfold spec_l1In.f
        rw [ if_pos hd1, decide_eq_true hd2]
        rfl
      · simp only [spec_LastsUntil.j0]
        rw [if_neg (by simp), if_pos (by omega), if_pos (by omega), list_eq ho, hn]
        show spec_LastsUntil.l0 k d (List.replicate n 0) (wl n b c 501) ((wl n b c 501).length : Int) 0 = _
        rw [wl_len]
    · refine Ev.congr (f := fun k => impl_LastsUntil.j0 k d false a b c) (fun k => ?_) (Ev.step (f := fun k => impl_LastsUntil.l0 k d (List.replicate n 0) (dl n b c 501) ((501 : Nat) : Int) 0) (fun k => ?_) h3)
      · unfold impl_LastsUntil.f
        rw [isWash_eq, decide_eq_true ho0]
        rw [Option.bind_some, if_pos rfl]
        unfold impl_within.f
        rw [ if_pos hd1, decide_eq_true hd2]
        rfl
      · simp only [impl_LastsUntil.j0]
        rw [if_neg (by simp), if_pos (by omega), if_pos (by omega), days_eq ho, hn]
        show impl_LastsUntil.l0 k d (List.replicate n 0) (dl n b c 501) ((dl n b c 501).length : Int) 0 = _
        rw [dl_len]
  · refine ⟨0, false, ?_, ?_⟩
    · refine Ev.congr (f := fun k => spec_LastsUntil.j0 k d true a b c) (fun k => ?_) (Ev.step (f := fun _ => some (0, false)) (fun k => ?_) (Ev.now _))
      · unfold spec_LastsUntil.f
        rw [dyGood_eq]
        by_cases h1 : okw a b c 0
        · rw [decide_eq_true h1]
          rw [Option.bind_some, if_pos rfl]
          unfold spec_l1In.f
          by_cases h2 : 1 ≤ d
          · rw [if_pos h2, decide_eq_false (fun h3 => hA ⟨h1, h2, h3⟩)]
            rfl
          · rw [if_neg h2]
            rfl
        · rw [decide_eq_false h1]
          rfl
      · simp only [spec_LastsUntil.j0, if_true]
    · refine Ev.congr (f := fun k => impl_LastsUntil.j0 k d true a b c) (fun k => ?_) (Ev.step (f := fun _ => some (0, false)) (fun k => ?_) (Ev.now _))
      · unfold impl_LastsUntil.f
        rw [isWash_eq]
        by_cases h1 : okw a b c 0
        · rw [decide_eq_true h1]
          rw [Option.bind_some, if_pos rfl]
          unfold impl_within.f
          by_cases h2 : 1 ≤ d
          · rw [if_pos h2, decide_eq_false (fun h3 => hA ⟨h1, h2, h3⟩)]
            rfl
          · rw [if_neg h2]
            rfl
        · rw [decide_eq_false h1]
          rfl
      · simp only [impl_LastsUntil.j0, if_true]
end Go.Proofs.Ytpalinpgoalneaa.PureB3
