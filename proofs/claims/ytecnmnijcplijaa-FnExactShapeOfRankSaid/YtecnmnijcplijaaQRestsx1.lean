/- Walks for Rests, written by a program of this session: each theorem '.calls' says what a call of one Go function returns whenever the Lean function '.f' of that name has an answer; the conditions stand in each statement. -/
import Derived.Test.YtecnmnijcplijaaQRestsx0
namespace Go.Proofs.Ytecnmnijcplijaa.QRests
open Go.RowKit Go.Proofs.YtecnmnijcplijaaW.PrintWords Go.Proofs.YtecnmnijcplijaaW.PrintLast Go.Proofs.YtecnmnijcplijaaW.PrintMore
attribute [local go_sem] max2_int min2_int max_two min_two max_three min_three max_four min_four   -- for this text's walks alone
set_option linter.unusedVariables false
set_option linter.unusedSimpArgs false

/-! ### impl_within: function 38 -/
def impl_within.f (a0 : Int) (a1 : Int) (a2 : Int) : Option (Bool) := if a1 ≤ a0 then (some (decide (a0 ≤ a2))) else (some false)
set_option maxHeartbeats 8000000 in
set_option maxRecDepth 100000 in
theorem impl_within.calls (a0 : Int) (a1 : Int) (a2 : Int) (r : Bool) (w : World) (h : impl_within.f a0 a1 a2 = some r) :
    Calls Try.prog 38 #[.int .i64 a0, .int .i64 a1, .int .i64 a2] w fun e w' => e = .returned (.bool r) ∧ Drawn0 w w' := by
  have H : (if a1 ≤ a0 then (some (decide (a0 ≤ a2))) else (some false)) = some r := h
  clear h
  by_cases c4 : a1 ≤ a0
  · rw [if_pos c4] at H
    have c4b0 : decide (a1 ≤ a0) = true := decide_eq_true c4
    clear c4
    obtain rfl := Option.some.inj H
    go_enter Try.func38, Try.ntmps38
    go_wp2
    go_ret
    exact ⟨by first | rfl | (simp; done) | (simp [*]; done), by repeat (first | exact Drawn0.refl _ | apply Drawn0.step)⟩
  · rw [if_neg c4] at H
    have c4b0 : decide (a1 ≤ a0) = false := decide_eq_false c4
    clear c4
    obtain rfl := Option.some.inj H
    go_enter Try.func38, Try.ntmps38
    go_wp2
    go_ret
    exact ⟨by first | rfl | (simp; done) | (simp [*]; done), by repeat (first | exact Drawn0.refl _ | apply Drawn0.step)⟩

/-! ### impl_rests: function 46 -/
mutual
def impl_rests.l0 : Nat → Int → Int → List Int → Int → Int → Option (Int)
  | 0, _, _, _, _, _ => none
  | k + 1, x0, x1, x5, x14, x15 => if x15 < x14 then (if 0 ≤ (wrap64 (x0 + 2)) then (if (wrap64 (x0 + 2) : Int).toNat ≤ 35184372088832 then (if 0 ≤ (wrap64 (x0 + 1)) then (if (wrap64 (x0 + 1)) ≤ (x5.length : Int) then ((some (x5.take ((wrap64 (x0 + 1)) : Int).toNat : List Int)).bind fun y110 => (impl_rests.l1 k x0 x1 (List.replicate (wrap64 (x0 + 2) : Int).toNat 0) x14 x15 y110 (y110.length : Int) 0)) else (none)) else (none)) else (none)) else (none)) else ((impl_within.f x1 0 x0).bind fun t105 => (if t105 = true then (if 0 ≤ x1 then (if x1 < (x5.length : Int) then (some (rd x5 x1)) else (none)) else (none)) else (some 0)))
def impl_rests.l1 : Nat → Int → Int → List Int → Int → Int → List Int → Int → Int → Option (Int)
  | 0, _, _, _, _, _, _, _, _ => none
  | k + 1, x0, x1, x6, x14, x15, x23, x24, x25 => if x25 < x24 then (if 0 ≤ x25 then (if x25 < (x23.length : Int) then (if 0 ≤ (wrap64 (x25 + 1)) then (if (wrap64 (x25 + 1)) < (x6.length : Int) then ((some (x6.set ((wrap64 (x25 + 1)) : Int).toNat (wrap64 ((rd x6 (wrap64 (x25 + 1))) + (rd x23 x25))) : List Int)).bind fun y116 => (if x25 > 0 then (if 0 ≤ (wrap64 (x25 - 1)) then (if (wrap64 (x25 - 1)) < (x6.length : Int) then (impl_rests.l1 k x0 x1 (y116.set ((wrap64 (x25 - 1)) : Int).toNat (wrap64 ((rd y116 (wrap64 (x25 - 1))) + (rd x23 x25)))) x14 x15 x23 x24 (wrap64 (x25 + 1))) else (none)) else (none)) else (impl_rests.l1 k x0 x1 y116 x14 x15 x23 x24 (wrap64 (x25 + 1))))) else (none)) else (none)) else (none)) else (none)) else (impl_rests.l0 k x0 x1 x6 x14 (wrap64 (x15 + 1)))
end
def impl_rests.f (k : Nat) (a0 : Int) (a1 : Int) : Option (Int) := if 0 ≤ (wrap64 (a0 + 2)) then (if (wrap64 (a0 + 2) : Int).toNat ≤ 35184372088832 then ((some (List.replicate (wrap64 (a0 + 2) : Int).toNat 0 : List Int)).bind fun y101 => (if 0 < (y101.length : Int) then (impl_rests.l0 k a0 a1 (y101.set (0 : Int).toNat 1) a0 0) else (none))) else (none)) else (none)
theorem impl_rests.mono_l : ∀ k, (∀ y0 y1 y2 y3 y4, LeO (impl_rests.l0 k y0 y1 y2 y3 y4) (impl_rests.l0 (k + 1) y0 y1 y2 y3 y4)) ∧ (∀ y0 y1 y2 y3 y4 y5 y6 y7, LeO (impl_rests.l1 k y0 y1 y2 y3 y4 y5 y6 y7) (impl_rests.l1 (k + 1) y0 y1 y2 y3 y4 y5 y6 y7))
  | 0 => ⟨fun _ _ _ _ _ r h => by simp [impl_rests.l0] at h, fun _ _ _ _ _ _ _ _ r h => by simp [impl_rests.l1] at h⟩
  | k + 1 => by
    obtain ⟨ih0, ih1⟩ := impl_rests.mono_l k
    refine ⟨?_, ?_⟩
    · intro y0 y1 y2 y3 y4
      unfold impl_rests.l0
      repeat' first
      | (with_reducible exact ih0 _ _ _ _ _)
      | (with_reducible exact ih1 _ _ _ _ _ _ _ _)
      | (with_reducible exact LeO.refl _)
      | (with_reducible exact LeO.none _)
      | (with_reducible refine LeO.ite ?_ ?_)
      | (with_reducible refine LeO.bind ?_ (fun _ => ?_))
      | exact ih0 _ _ _ _ _
      | exact ih1 _ _ _ _ _ _ _ _
      | exact LeO.none _
      | refine LeO.ite ?_ ?_
      | refine LeO.bind ?_ (fun _ => ?_)
    · intro y0 y1 y2 y3 y4 y5 y6 y7
      unfold impl_rests.l1
      repeat' first
      | (with_reducible exact ih0 _ _ _ _ _)
      | (with_reducible exact ih1 _ _ _ _ _ _ _ _)
      | (with_reducible exact LeO.refl _)
      | (with_reducible exact LeO.none _)
      | (with_reducible refine LeO.ite ?_ ?_)
      | (with_reducible refine LeO.bind ?_ (fun _ => ?_))
      | exact ih0 _ _ _ _ _
      | exact ih1 _ _ _ _ _ _ _ _
      | exact LeO.none _
      | refine LeO.ite ?_ ?_
      | refine LeO.bind ?_ (fun _ => ?_)
theorem impl_rests.mono : ∀ a0 a1 k, LeO (impl_rests.f k a0 a1) (impl_rests.f (k + 1) a0 a1) := by
  intro a0 a1 k
  obtain ⟨ih0, ih1⟩ := impl_rests.mono_l k
  unfold impl_rests.f
  repeat' first
      | (with_reducible exact ih0 _ _ _ _ _)
      | (with_reducible exact ih1 _ _ _ _ _ _ _ _)
      | (with_reducible exact LeO.refl _)
      | (with_reducible exact LeO.none _)
      | (with_reducible refine LeO.ite ?_ ?_)
      | (with_reducible refine LeO.bind ?_ (fun _ => ?_))
      | exact ih0 _ _ _ _ _
      | exact ih1 _ _ _ _ _ _ _ _
      | exact LeO.none _
      | refine LeO.ite ?_ ?_
      | refine LeO.bind ?_ (fun _ => ?_)
set_option maxHeartbeats 8000000 in
set_option maxRecDepth 100000 in
theorem impl_rests.calls (k : Nat) (a0 : Int) (a1 : Int) (r : Int) (w : World) (h : impl_rests.f k a0 a1 = some r) :
    Calls Try.prog 46 #[.int .i64 a0, .int .i64 a1] w fun e w' => e = .returned (.int .i64 r) ∧ Below w.heap.size w w' := by
  have HB := Aside0.mk (Below.refl w.heap.size w)
  have H : (if 0 ≤ (wrap64 (a0 + 2)) then (if (wrap64 (a0 + 2) : Int).toNat ≤ 35184372088832 then ((some (List.replicate (wrap64 (a0 + 2) : Int).toNat 0 : List Int)).bind fun y101 => (if 0 < (y101.length : Int) then (impl_rests.l0 k a0 a1 (y101.set (0 : Int).toNat 1) a0 0) else (none))) else (none)) else (none)) = some r := h
  clear h
  obtain ⟨ji3, hji3⟩ : ∃ j_ : Int, (wrap64 (a0 + 2)) = j_ := ⟨_, rfl⟩
  replace H : (if 0 ≤ (ji3) then (if (ji3 : Int).toNat ≤ 35184372088832 then ((some (List.replicate (ji3 : Int).toNat 0 : List Int)).bind fun y101 => (if 0 < (y101.length : Int) then (impl_rests.l0 k a0 a1 (y101.set (0 : Int).toNat 1) a0 0) else (none))) else (none)) else (none)) = some r := by first | (rw [hji3] at H; exact H) | (simp only [hji3] at H ⊢; exact H)
  have hji3w : (IntKind.i64.wrap (a0 + 2)) = ji3 := (i64_w _).trans hji3
  by_cases c4 : 0 ≤ (ji3)
  · rw [if_pos c4] at H
    have c4b0 := eq_true c4
    have c4b1 : decide (0 ≤ (ji3)) = true := decide_eq_true c4
    clear c4
    by_cases c5 : (ji3 : Int).toNat ≤ 35184372088832
    · rw [if_pos c5] at H
      have c5b0 := eq_true c5
      have c5b1 : decide ((ji3 : Int).toNat ≤ 35184372088832) = true := decide_eq_true c5
      clear c5
      obtain ⟨y101, hy101⟩ : ∃ y_ : List Int, y_ = (List.replicate (ji3 : Int).toNat 0) := ⟨_, rfl⟩
      replace H : (if 0 < (y101.length : Int) then (impl_rests.l0 k a0 a1 (y101.set (0 : Int).toNat 1) a0 0) else (none)) = some r := by first | (rw [hy101]; with_reducible exact H) | (have H2_ := (Option.bind_some _ _).symm.trans H; rw [hy101]; with_reducible exact H2_) | (have H2_ := (Option.bind_some _ _).symm.trans H; with_reducible exact H2_) | with_reducible exact H | (rw [hy101]; exact H) | exact H
      have Ny101 := Aside0.mk hy101
      clear hy101
      by_cases c6 : 0 < (y101.length : Int)
      · rw [if_pos c6] at H
        have c6b0 : decide (0 < (y101.length : Int)) = true := decide_eq_true c6
        have c6b1 : decide (0 < y101.length) = true := decide_eq_true (by omega)
        clear c6
        obtain ⟨y104, hy104⟩ : ∃ y_ : List Int, y_ = (y101.set (0 : Int).toNat 1) := ⟨_, rfl⟩
        replace H : (impl_rests.l0 k a0 a1 y104 a0 0) = some r := by first | (rw [hy104]; with_reducible exact H) | (have H2_ := (Option.bind_some _ _).symm.trans H; rw [hy104]; with_reducible exact H2_) | (have H2_ := (Option.bind_some _ _).symm.trans H; with_reducible exact H2_) | with_reducible exact H | (rw [hy104]; exact H) | exact H
        have Ny104 := Aside0.mk hy104
        clear hy104
        have H' := Aside0.mk H
        clear H
        go_enter Try.func46, Try.ntmps46
        go_wp2_with (first | ((with_reducible refine gate_dst (N := 11) rfl ?_); refine Kd.R_make (Kd.int .i64) _ 3 rfl (N := 11) rfl 39 _ _ rfl ji3 rfl rfl Try.underlying39 (.int .i64 0) 8 info3 rfl (by decide) (by omega) 0 (ok := fun _ => True) (okp := fun _ => True) rfl (fun _ hk => hk) trivial (of_decide_eq_true (by first | (with_reducible assumption) | assumption)) (Nat.le_trans (Nat.mul_le_mul_right _ (of_decide_eq_true (by first | (with_reducible assumption) | assumption) : ji3.toNat ≤ 35184372088832)) (by omega)) (Below.refl _ _) (Nat.le_refl _) ?_; intro v102 w8 ho9 hb hg_ hnew_; clear hg_ hnew_; (first | rw [← Ny101.out] at ho9 | (simp only [Int.reduceToNat] at ho9; rw [← Ny101.out] at ho9)); have n0_ := Aside0.mk (Kd.R_lower ho9 (below_size (by repeat (first | (with_reducible first | exact HB.out | apply below_alloc | apply pw_below_drewN | apply below_drew1) | exact HB.out)))); have n1_ := Aside0.mk (below_step (by repeat (first | (with_reducible first | exact HB.out | apply below_alloc | apply pw_below_drewN | apply below_drew1) | exact HB.out)) hb); clear HB; have HO103 := n0_; have HB := n1_; clear n0_ n1_; clear hb ho9; have p7 : 0 ≤ (0 : Int) := (by omega); have q7 : (0 : Int) < ((y101.length : Int) : Int) := of_decide_eq_true (by first | (with_reducible assumption) | assumption); have qi7 : (0 < y101.length) = True := eq_true (by omega); obtain ⟨go7, co7, eo7, gb7, gl7, cl7, HG7⟩ := Kd.R_form HO103.out (by omega); (first | cases eo7 | (injection eo7 with ea_ en_ ec_; (first | subst ea_ | (injection ea_ with ea_; subst ea_)); subst ec_; clear en_)); have GB7 := Aside0.mk gb7; have GG7 := Aside0.mk HG7; clear gb7 gl7 HG7; obtain ⟨hx7_0, hf7_0⟩ := Kd.R_celln 0 HO103.out (0 : Int) p7 q7; (try rw [show ((0 : Int)).toNat = 0 from rfl] at hx7_0); (try simp only [Nat.reduceMul, Nat.zero_mul, Nat.zero_add, Nat.reduceAdd] at hx7_0); (try rw [show ((0 : Int)).toNat = 0 from rfl] at hf7_0); (try simp only [Nat.reduceMul, Nat.zero_mul, Nat.zero_add, Nat.reduceAdd] at hf7_0); replace p7 := eq_true p7; replace q7 := eq_true q7; obtain ⟨hy10_, hz10_⟩ := Kd.R_celln 0 HO103.out (0 : Int) (by omega) (of_decide_eq_true (by first | (with_reducible assumption) | assumption)); (try simp only [Int.reduceToNat, Int.toNat_zero, Int.toNat_ofNat, Nat.reduceMul, Nat.zero_mul, Nat.zero_add] at hy10_ hz10_); (try rw [show ((0 : Int)).toNat = 0 from rfl] at hy10_); (try rw [show ((0 : Int)).toNat = 0 from rfl] at hz10_); have HP10 := Kd.R_putg HO103.out (0 : Int) 1) | ((with_reducible refine gate_store (t := 3) (p := 13) rfl ?_); refine store_event (t := 3) (p := 13) (v := ?vo_w11) (w1 := (w8.setCell ⟨go7, (0 : Int).toNat, none⟩ (.int .i64 1))) ?hg ?ho ?hn ?hr ?_; (case ho => rfl); (case hg => rfl); (case hn => rfl); (case hr => first | (go_simp; done) | (go_simp; rfl)); intro w11 hw; have hg : w8.grownBy w11 (some go7) := (by rw [hw]; exact HP10.2); have hp_ : Kd.R (Kd.int .i64) 3 w11 w.heap.size (fun _ => True) (.slice (some ⟨go7, 0, none⟩) y101.length co7) y104 := (by rw [hw, Ny104.out]; exact HP10.1); clear HP10; have n0_ := Aside0.mk (hp_); have n1_ := Aside0.mk ((by rw [hw]; exact below_set (HB.out) GB7.out : Below w.heap.size w w11)); clear HO103; clear HB; have HO103 := n0_; have HB := n1_; clear n0_ n1_; clear hg hw hp_))
        go_loopg [5, 15] k (fun kq v5 v15 w' => ∃ (x5_1 : List Int) (x15_1 : Int), v15 = .int .i64 x15_1 ∧ Aside0 (impl_rests.l0 kq a0 a1 x5_1 a0 x15_1 = some r) ∧ Aside0 (kq ≤ k) ∧ Aside0 (Kd.R (Kd.int .i64) 3 w' w.heap.size (fun _ => True) v5 x5_1) ∧ Aside0 (Below w.heap.size w w'))
        case atStart => exact ⟨(y104), (0), (by first | rfl | (simp; done) | (simp [*]; done)), H', ⟨Nat.le_refl _⟩, ⟨by (with_reducible repeat (first | apply Kd.R_alloc | apply Kd.R_drewN | apply Kd.R_drew)); exact HO103.out⟩, ⟨by repeat (first | (with_reducible first | exact HB.out | apply below_alloc | apply pw_below_drewN | apply below_drew1) | exact HB.out)⟩⟩
        case round =>
          clear H'
          try clear p2
          try clear c4
          try clear c4b0
          try clear c4b1
          try clear c5
          try clear c5b0
          try clear c5b1
          try clear c6
          try clear c6b0
          try clear c6b1
          try clear p6
          try clear p7
          try clear q7
          try clear hx7
          try clear qi7
          try clear hf7
          try clear hx7_0
          try clear p7
          try clear q7
          obtain ⟨x5_1, x15_1, rfl, HA, HK1, HO_5, HB⟩ := hrel
          cases gk with
          | zero => exact absurd HA.out (by simp [impl_rests.l0])
          | succ k1 =>
            have H := HA.out
            clear HA
            simp only [impl_rests.l0] at H
            by_cases c12 : x15_1 < a0
            · rw [if_pos c12] at H
              have c12b0 : decide (x15_1 < a0) = true := decide_eq_true c12
              clear c12
              replace H : (if 0 ≤ (ji3) then (if (ji3 : Int).toNat ≤ 35184372088832 then (if 0 ≤ (wrap64 (a0 + 1)) then (if (wrap64 (a0 + 1)) ≤ (x5_1.length : Int) then ((some (x5_1.take ((wrap64 (a0 + 1)) : Int).toNat : List Int)).bind fun y110 => (impl_rests.l1 k1 a0 a1 (List.replicate (ji3 : Int).toNat 0) a0 x15_1 y110 (y110.length : Int) 0)) else (none)) else (none)) else (none)) else (none)) = some r := by first | (rw [hji3] at H; exact H) | (simp only [hji3] at H ⊢; exact H)
              by_cases c13 : 0 ≤ (ji3)
              · rw [if_pos c13] at H
                have c13b0 := eq_true c13
                have c13b1 : decide (0 ≤ (ji3)) = true := decide_eq_true c13
                clear c13
                by_cases c14 : (ji3 : Int).toNat ≤ 35184372088832
                · rw [if_pos c14] at H
                  have c14b0 := eq_true c14
                  have c14b1 : decide ((ji3 : Int).toNat ≤ 35184372088832) = true := decide_eq_true c14
                  clear c14
                  obtain ⟨y107, hy107⟩ : ∃ y_ : List Int, y_ = (List.replicate (ji3 : Int).toNat 0) := ⟨_, rfl⟩
                  replace H : (if 0 ≤ (wrap64 (a0 + 1)) then (if (wrap64 (a0 + 1)) ≤ (x5_1.length : Int) then ((some (x5_1.take ((wrap64 (a0 + 1)) : Int).toNat : List Int)).bind fun y110 => (impl_rests.l1 k1 a0 a1 y107 a0 x15_1 y110 (y110.length : Int) 0)) else (none)) else (none)) = some r := by first | (rw [hy107]; with_reducible exact H) | (have H2_ := (Option.bind_some _ _).symm.trans H; rw [hy107]; with_reducible exact H2_) | (have H2_ := (Option.bind_some _ _).symm.trans H; with_reducible exact H2_) | with_reducible exact H | (rw [hy107]; exact H) | exact H
                  have Ny107 := Aside0.mk hy107
                  clear hy107
                  obtain ⟨ji15, hji15⟩ : ∃ j_ : Int, (wrap64 (a0 + 1)) = j_ := ⟨_, rfl⟩
                  replace H : (if 0 ≤ (ji15) then (if (ji15) ≤ (x5_1.length : Int) then ((some (x5_1.take ((ji15) : Int).toNat : List Int)).bind fun y110 => (impl_rests.l1 k1 a0 a1 y107 a0 x15_1 y110 (y110.length : Int) 0)) else (none)) else (none)) = some r := by first | (rw [hji15] at H; exact H) | (simp only [hji15] at H ⊢; exact H)
                  have hji15w : (IntKind.i64.wrap (a0 + 1)) = ji15 := (i64_w _).trans hji15
                  by_cases c16 : 0 ≤ (ji15)
                  · rw [if_pos c16] at H
                    have c16b0 := eq_true c16
                    have c16b1 : decide (0 ≤ (ji15)) = true := decide_eq_true c16
                    clear c16
                    by_cases c17 : (ji15) ≤ (x5_1.length : Int)
                    · rw [if_pos c17] at H
                      have c17b0 := eq_true c17
                      have c17b1 : decide ((ji15) ≤ (x5_1.length : Int)) = true := decide_eq_true c17
                      clear c17
                      obtain ⟨y110, hy110⟩ : ∃ y_ : List Int, y_ = (x5_1.take ((ji15) : Int).toNat) := ⟨_, rfl⟩
                      replace H : (impl_rests.l1 k1 a0 a1 y107 a0 x15_1 y110 (y110.length : Int) 0) = some r := by first | (rw [hy110]; with_reducible exact H) | (have H2_ := (Option.bind_some _ _).symm.trans H; rw [hy110]; with_reducible exact H2_) | (have H2_ := (Option.bind_some _ _).symm.trans H; with_reducible exact H2_) | with_reducible exact H | (rw [hy110]; exact H) | exact H
                      have Ny110 := Aside0.mk hy110
                      clear hy110
                      have H' := Aside0.mk H
                      clear H
                      obtain ⟨wO, rfl⟩ : ∃ wo : World, wo = wr := ⟨_, rfl⟩
                      go_wp2_with (first | ((with_reducible refine gate_dst (N := 19) rfl ?_); refine Kd.R_make (Kd.int .i64) _ 3 rfl (N := 19) rfl 39 _ _ rfl ji3 rfl rfl Try.underlying39 (.int .i64 0) 8 info3 rfl (by decide) (by omega) 0 (ok := fun _ => True) (okp := fun _ => True) rfl (fun _ hk => hk) trivial (of_decide_eq_true (by first | (with_reducible assumption) | assumption)) (Nat.le_trans (Nat.mul_le_mul_right _ (of_decide_eq_true (by first | (with_reducible assumption) | assumption) : ji3.toNat ≤ 35184372088832)) (by omega)) (Below.refl _ _) (Nat.le_refl _) ?_; intro v108 w18 ho19 hb hg_ hnew_; clear hg_ hnew_; (first | rw [← Ny107.out] at ho19 | (simp only [Int.reduceToNat] at ho19; rw [← Ny107.out] at ho19)); have HO109 := Aside0.mk ho19; have HBo := Aside0.mk hb; clear hb ho19; obtain ⟨Ao21, co21, eo21⟩ := Kd.R_slice HO_5.out; subst eo21; have q20 : ((ji15) : Int) ≤ ((x5_1.length : Int) : Int) := of_decide_eq_true (by first | (with_reducible assumption) | assumption); obtain ⟨i020, hi020, _, hsz20, _⟩ := info_parts info3; have hroom20 : x5_1.length ≤ co21 := (Kd.R_reads' HO_5.out).2.1; have hC20 : Kd.C (Kd.int .i64) _ Ao21 x5_1.length x5_1 := (Kd.R_reads' HO_5.out).2.2; have hcut20 := cut_to (P := Try.prog) 39 3 .i64 Try.underlying39 hi020 Ao21 x5_1.length co21 (ji15) (of_decide_eq_true (by first | (with_reducible assumption) | assumption)) q20 hroom20; have hr20 := Kd.C_take (m := ((ji15) : Int).toNat) hC20 (by omega); have hy20 : y110.length = ((ji15) : Int).toNat := (by rw [Ny110.out, List.length_take]; omega); rw [← Ny110.out] at hr20; rw [← hy20] at hcut20; have HR113 := Aside0.mk hr20; have HC113 := Aside0.mk (show y110.length ≤ co21 from by omega); clear hr20 hC20 hroom20 hi020 hsz20; have KY20 := Aside0.mk hy20; clear hy20; have KL20 := Aside0.mk (show ((ji15) : Int).toNat ≤ x5_1.length from by omega); replace q20 := eq_true q20))
                      go_loopg [25] k1 (fun kq v25 w' => ∃ (x6_2 : List Int) (x25_2 : Int), v25 = .int .i64 x25_2 ∧ Aside0 (impl_rests.l1 kq a0 a1 x6_2 a0 x15_1 y110 (y110.length : Int) x25_2 = some r) ∧ Aside0 (kq ≤ k1) ∧ Aside0 (Kd.R (Kd.int .i64) 3 w' wO.heap.size (fun _ => True) v108 x6_2) ∧ Aside0 (Below wO.heap.size wO w'))
                      case atStart => exact ⟨(y107), (0), (by first | rfl | (simp; done) | (simp [*]; done)), H', ⟨Nat.le_refl _⟩, ⟨by (with_reducible repeat (first | apply Kd.R_alloc | apply Kd.R_drewN | apply Kd.R_drew)); exact Kd.R_mono HO109.out (fun _ hk => trivial)⟩, ⟨by repeat (first | (with_reducible first | exact HBo.out | apply below_alloc | apply pw_below_drewN | apply below_drew1) | exact HBo.out)⟩⟩
                      case round =>
                        clear H'
                        try clear c1
                        try clear p2
                        try clear q2
                        try clear c4
                        try clear c4b0
                        try clear c4b1
                        try clear c5
                        try clear c5b0
                        try clear c5b1
                        try clear c6
                        try clear c6b0
                        try clear c6b1
                        try clear p6
                        try clear p7
                        try clear q7
                        try clear hx7
                        try clear qi7
                        try clear hf7
                        try clear c12
                        try clear c12b0
                        try clear c13
                        try clear c13b0
                        try clear c13b1
                        try clear c14
                        try clear c14b0
                        try clear c14b1
                        try clear c16
                        try clear c16b0
                        try clear c16b1
                        try clear c17
                        try clear c17b0
                        try clear c17b1
                        try clear q20
                        try clear hx7_0
                        try clear p2
                        try clear p6
                        try clear p7
                        try clear q20
                        try clear q7
                        obtain ⟨x6_2, x25_2, rfl, HA, HK2, HO_6, HBo⟩ := hrel
                        cases gk with
                        | zero => exact absurd HA.out (by simp [impl_rests.l1])
                        | succ k2 =>
                          have H := HA.out
                          clear HA
                          simp only [impl_rests.l1] at H
                          by_cases c22 : x25_2 < (y110.length : Int)
                          · rw [if_pos c22] at H
                            have c22b0 : decide (x25_2 < (y110.length : Int)) = true := decide_eq_true c22
                            clear c22
                            by_cases c23 : 0 ≤ x25_2
                            · rw [if_pos c23] at H
                              have c23b0 : decide (0 ≤ x25_2) = true := decide_eq_true c23
                              clear c23
                              by_cases c24 : x25_2 < (y110.length : Int)
                              · rw [if_pos c24] at H
                                have c24b0 : decide (x25_2 < (y110.length : Int)) = true := decide_eq_true c24
                                clear c24
                                obtain ⟨ji25, hji25⟩ : ∃ j_ : Int, (wrap64 (x25_2 + 1)) = j_ := ⟨_, rfl⟩
                                replace H : (if 0 ≤ (ji25) then (if (ji25) < (x6_2.length : Int) then ((some (x6_2.set ((ji25) : Int).toNat (wrap64 ((rd x6_2 (ji25)) + (rd y110 x25_2))) : List Int)).bind fun y116 => (if x25_2 > 0 then (if 0 ≤ (wrap64 (x25_2 - 1)) then (if (wrap64 (x25_2 - 1)) < (x6_2.length : Int) then (impl_rests.l1 k2 a0 a1 (y116.set ((wrap64 (x25_2 - 1)) : Int).toNat (wrap64 ((rd y116 (wrap64 (x25_2 - 1))) + (rd y110 x25_2)))) a0 x15_1 y110 (y110.length : Int) ji25) else (none)) else (none)) else (impl_rests.l1 k2 a0 a1 y116 a0 x15_1 y110 (y110.length : Int) ji25))) else (none)) else (none)) = some r := by first | (rw [hji25] at H; exact H) | (simp only [hji25] at H ⊢; exact H)
                                have hji25w : (IntKind.i64.wrap (x25_2 + 1)) = ji25 := (i64_w _).trans hji25
                                by_cases c26 : 0 ≤ (ji25)
                                · rw [if_pos c26] at H
                                  have c26b0 : decide (0 ≤ (ji25)) = true := decide_eq_true c26
                                  clear c26
                                  by_cases c27 : (ji25) < (x6_2.length : Int)
                                  · rw [if_pos c27] at H
                                    have c27b0 : decide ((ji25) < (x6_2.length : Int)) = true := decide_eq_true c27
                                    clear c27
                                    obtain ⟨y116, hy116⟩ : ∃ y_ : List Int, y_ = (x6_2.set ((ji25) : Int).toNat (wrap64 ((rd x6_2 (ji25)) + (rd y110 x25_2)))) := ⟨_, rfl⟩
                                    replace H : (if x25_2 > 0 then (if 0 ≤ (wrap64 (x25_2 - 1)) then (if (wrap64 (x25_2 - 1)) < (x6_2.length : Int) then (impl_rests.l1 k2 a0 a1 (y116.set ((wrap64 (x25_2 - 1)) : Int).toNat (wrap64 ((rd y116 (wrap64 (x25_2 - 1))) + (rd y110 x25_2)))) a0 x15_1 y110 (y110.length : Int) ji25) else (none)) else (none)) else (impl_rests.l1 k2 a0 a1 y116 a0 x15_1 y110 (y110.length : Int) ji25)) = some r := by first | (rw [hy116]; with_reducible exact H) | (have H2_ := (Option.bind_some _ _).symm.trans H; rw [hy116]; with_reducible exact H2_) | (have H2_ := (Option.bind_some _ _).symm.trans H; with_reducible exact H2_) | with_reducible exact H | (rw [hy116]; exact H) | exact H
                                    have Ny116 := Aside0.mk hy116
                                    clear hy116
                                    by_cases c29 : x25_2 > 0
                                    · rw [if_pos c29] at H
                                      have c29b0 : decide (0 < x25_2) = true := decide_eq_true c29
                                      clear c29
                                      obtain ⟨ji30, hji30⟩ : ∃ j_ : Int, (wrap64 (x25_2 - 1)) = j_ := ⟨_, rfl⟩
                                      replace H : (if 0 ≤ (ji30) then (if (ji30) < (x6_2.length : Int) then (impl_rests.l1 k2 a0 a1 (y116.set ((ji30) : Int).toNat (wrap64 ((rd y116 (ji30)) + (rd y110 x25_2)))) a0 x15_1 y110 (y110.length : Int) ji25) else (none)) else (none)) = some r := by first | (rw [hji30] at H; exact H) | (simp only [hji30] at H ⊢; exact H)
                                      have hji30w : (IntKind.i64.wrap (x25_2 - 1)) = ji30 := (i64_w _).trans hji30
                                      by_cases c31 : 0 ≤ (ji30)
                                      · rw [if_pos c31] at H
                                        have c31b0 : decide (0 ≤ (ji30)) = true := decide_eq_true c31
                                        clear c31
                                        by_cases c32 : (ji30) < (x6_2.length : Int)
                                        · rw [if_pos c32] at H
                                          have c32b0 : decide ((ji30) < (x6_2.length : Int)) = true := decide_eq_true c32
                                          clear c32
                                          obtain ⟨y118, hy118⟩ : ∃ y_ : List Int, y_ = (y116.set ((ji30) : Int).toNat (wrap64 ((rd y116 (ji30)) + (rd y110 x25_2)))) := ⟨_, rfl⟩
                                          replace H : (impl_rests.l1 k2 a0 a1 y118 a0 x15_1 y110 (y110.length : Int) ji25) = some r := by first | (rw [hy118]; with_reducible exact H) | (have H2_ := (Option.bind_some _ _).symm.trans H; rw [hy118]; with_reducible exact H2_) | (have H2_ := (Option.bind_some _ _).symm.trans H; with_reducible exact H2_) | with_reducible exact H | (rw [hy118]; exact H) | exact H
                                          have Ny118 := Aside0.mk hy118
                                          clear hy118
                                          have H' := Aside0.mk H
                                          clear H
                                          have p114 : 0 ≤ (x25_2 : Int) := of_decide_eq_true (by first | (with_reducible assumption) | assumption)
                                          have q114 : x25_2 < (y110.length : Int) := of_decide_eq_true (by first | (with_reducible assumption) | assumption)
                                          obtain ⟨ad114, e114, hx114_0⟩ := Kd.at_int HR113.out x25_2 p114 q114
                                          cases e114
                                          replace hx114_0 := (HBo.out.cell (World.block_lt_of_cell? wO _ hx114_0)).trans hx114_0
                                          replace p114 := eq_true p114
                                          replace q114 := eq_true q114
                                          obtain ⟨Ao34, co34, eo34⟩ := Kd.R_slice HO_6.out
                                          subst eo34
                                          have p115 : 0 ≤ ((ji25) : Int) := of_decide_eq_true (by first | (with_reducible assumption) | assumption)
                                          have q115 : (ji25) < (x6_2.length : Int) := of_decide_eq_true (by first | (with_reducible assumption) | assumption)
                                          obtain ⟨ad115, e115, hx115_0⟩ := Kd.at_int (Kd.R_reads' HO_6.out).2.2 (ji25) p115 q115
                                          cases e115
                                          replace p115 := eq_true p115
                                          replace q115 := eq_true q115
                                          have p28 : 0 ≤ ((ji25) : Int) := of_decide_eq_true (by first | (with_reducible assumption) | assumption)
                                          have q28 : ((ji25) : Int) < ((x6_2.length : Int) : Int) := of_decide_eq_true (by first | (with_reducible assumption) | assumption)
                                          obtain ⟨go28, co28, eo28, gb28, gl28, cl28, HG28⟩ := Kd.R_form HO_6.out (by omega)
                                          (first | cases eo28 | (injection eo28 with ea_ en_ ec_; (first | subst ea_ | (injection ea_ with ea_; subst ea_)); subst ec_; clear en_))
                                          have GB28 := Aside0.mk gb28
                                          have GG28 := Aside0.mk HG28
                                          clear gb28 gl28 HG28
                                          (first | simp only [add_plain] at hx115_0 | skip)
                                          obtain ⟨hx28_0, hf28_0⟩ := Kd.R_celln 0 HO_6.out ((ji25) : Int) p28 q28
                                          replace p28 := eq_true p28
                                          replace q28 := eq_true q28
                                          have HP35 := Kd.R_putg HO_6.out ((ji25) : Int) (wrap64 ((rd x6_2 (ji25)) + (rd y110 x25_2)))
                                          go_wp2_with (first | ((with_reducible refine gate_store (t := 3) (p := 37) rfl ?_); refine store_event (t := 3) (p := 37) (v := ?vo_w36) (w1 := (wr.setCell ⟨go28, ((ji25) : Int).toNat, none⟩ (.int .i64 (wrap64 ((rd x6_2 (ji25)) + (rd y110 x25_2)))))) ?hg ?ho ?hn ?hr ?_; (case ho => rfl); (case hg => rfl); (case hn => rfl); (case hr => first | (go_simp; done) | (go_simp; rfl)); intro w36 hw; have hg : wr.grownBy w36 (some go28) := (by rw [hw]; exact HP35.2); have hp_ : Kd.R (Kd.int .i64) 3 w36 wO.heap.size (fun _ => True) (.slice (some ⟨go28, 0, none⟩) x6_2.length co34) y116 := (by rw [hw, Ny116.out]; exact HP35.1); clear HP35; have n0_ := Aside0.mk (hp_); have n1_ := Aside0.mk ((by rw [hw]; exact below_set (HBo.out) GB28.out : Below wO.heap.size wO w36)); clear HO_6; clear HBo; have HO_6 := n0_; have HBo := n1_; clear n0_ n1_; clear hg hw hp_; have p117 : 0 ≤ ((ji30) : Int) := of_decide_eq_true (by first | (with_reducible assumption) | assumption); have q117 : (ji30) < (y116.length : Int) := (by have h_ : ((ji30) : Int) < ((x6_2.length : Int) : Int) := of_decide_eq_true (by first | (with_reducible assumption) | assumption); first | (have e_ := (Kd.R_reads' HO_6.out).1; omega) | simpa only [Ny116.out, List.length_set] using h_); have ql117 : (((ji30) : Int) < ((x6_2.length : Int) : Int)) = True := eq_true (of_decide_eq_true (by first | (with_reducible assumption) | assumption)); obtain ⟨ad117, e117, hx117_0⟩ := Kd.at_int (Kd.R_reads' HO_6.out).2.2 (ji30) p117 q117; obtain rfl : (⟨go28, 0, none⟩ : Addr) = ad117 := (by injection e117); (first | simp only [add_plain] at hx117_0 | simp only [add_at] at hx117_0 | simp only [Addr.add, Nat.zero_add] at hx117_0 | skip); replace p117 := eq_true p117; replace q117 := eq_true q117; have p33 : 0 ≤ ((ji30) : Int) := of_decide_eq_true (by first | (with_reducible assumption) | assumption); have q33 : ((ji30) : Int) < ((x6_2.length : Int) : Int) := of_decide_eq_true (by first | (with_reducible assumption) | assumption); obtain ⟨hx33_0, hf33_0⟩ := Kd.R_celln 0 HO_6.out ((ji30) : Int) p33 q33; replace p33 := eq_true p33; replace q33 := eq_true q33; obtain ⟨hy37_, hz37_⟩ := Kd.R_celln 0 HO_6.out ((ji30) : Int) (of_decide_eq_true (by first | (with_reducible assumption) | assumption)) (of_decide_eq_true (by first | (with_reducible assumption) | assumption)); have HP37 := Kd.R_putg HO_6.out ((ji30) : Int) (wrap64 ((rd y116 (ji30)) + (rd y110 x25_2)))) | ((with_reducible refine gate_store (t := 3) (p := 47) rfl ?_); refine store_event (t := 3) (p := 47) (v := ?vo_w38) (w1 := (w36.setCell ⟨go28, ((ji30) : Int).toNat, none⟩ (.int .i64 (wrap64 ((rd y116 (ji30)) + (rd y110 x25_2)))))) ?hg ?ho ?hn ?hr ?_; (case ho => rfl); (case hg => rfl); (case hn => rfl); (case hr => first | (go_simp; done) | (go_simp; rfl)); intro w38 hw; have hg : w36.grownBy w38 (some go28) := (by rw [hw]; exact HP37.2); have hp_ : Kd.R (Kd.int .i64) 3 w38 wO.heap.size (fun _ => True) (.slice (some ⟨go28, 0, none⟩) x6_2.length co34) y118 := (by rw [hw, Ny118.out]; exact HP37.1); clear HP37; have n0_ := Aside0.mk (hp_); have n1_ := Aside0.mk ((by rw [hw]; exact below_set (HBo.out) GB28.out : Below wO.heap.size wO w38)); clear HO_6; clear HBo; have HO_6 := n0_; have HBo := n1_; clear n0_ n1_; clear hg hw hp_))
                                          go_roundg k2
                                          case measure => have := HK1.out; have := HK2.out; omega
                                          case rel => exact ⟨(y118), (ji25), (by first | rfl | (simp; done) | (simp only [← hji25] <;> (first | rfl | simp)) | (simp [*]; done)), H', ⟨by have := HK1.out; have := HK2.out; omega⟩, ⟨by (with_reducible repeat (first | apply Kd.R_alloc | apply Kd.R_drewN | apply Kd.R_drew)); exact HO_6.out⟩, ⟨by repeat (first | (with_reducible first | exact HBo.out | apply below_alloc | apply pw_below_drewN | apply below_drew1) | exact HBo.out)⟩⟩
                                        · rw [if_neg c32] at H
                                          exact absurd H (by simp)
                                      · rw [if_neg c31] at H
                                        exact absurd H (by simp)
                                    · rw [if_neg c29] at H
                                      have c29b0 : decide (0 < x25_2) = false := decide_eq_false c29
                                      clear c29
                                      have H' := Aside0.mk H
                                      clear H
                                      have p114 : 0 ≤ (x25_2 : Int) := of_decide_eq_true (by first | (with_reducible assumption) | assumption)
                                      have q114 : x25_2 < (y110.length : Int) := of_decide_eq_true (by first | (with_reducible assumption) | assumption)
                                      obtain ⟨ad114, e114, hx114_0⟩ := Kd.at_int HR113.out x25_2 p114 q114
                                      cases e114
                                      replace hx114_0 := (HBo.out.cell (World.block_lt_of_cell? wO _ hx114_0)).trans hx114_0
                                      replace p114 := eq_true p114
                                      replace q114 := eq_true q114
                                      obtain ⟨Ao39, co39, eo39⟩ := Kd.R_slice HO_6.out
                                      subst eo39
                                      have p115 : 0 ≤ ((ji25) : Int) := of_decide_eq_true (by first | (with_reducible assumption) | assumption)
                                      have q115 : (ji25) < (x6_2.length : Int) := of_decide_eq_true (by first | (with_reducible assumption) | assumption)
                                      obtain ⟨ad115, e115, hx115_0⟩ := Kd.at_int (Kd.R_reads' HO_6.out).2.2 (ji25) p115 q115
                                      cases e115
                                      replace p115 := eq_true p115
                                      replace q115 := eq_true q115
                                      have p28 : 0 ≤ ((ji25) : Int) := of_decide_eq_true (by first | (with_reducible assumption) | assumption)
                                      have q28 : ((ji25) : Int) < ((x6_2.length : Int) : Int) := of_decide_eq_true (by first | (with_reducible assumption) | assumption)
                                      obtain ⟨go28, co28, eo28, gb28, gl28, cl28, HG28⟩ := Kd.R_form HO_6.out (by omega)
                                      (first | cases eo28 | (injection eo28 with ea_ en_ ec_; (first | subst ea_ | (injection ea_ with ea_; subst ea_)); subst ec_; clear en_))
                                      have GB28 := Aside0.mk gb28
                                      have GG28 := Aside0.mk HG28
                                      clear gb28 gl28 HG28
                                      (first | simp only [add_plain] at hx115_0 | skip)
                                      obtain ⟨hx28_0, hf28_0⟩ := Kd.R_celln 0 HO_6.out ((ji25) : Int) p28 q28
                                      replace p28 := eq_true p28
                                      replace q28 := eq_true q28
                                      have HP40 := Kd.R_putg HO_6.out ((ji25) : Int) (wrap64 ((rd x6_2 (ji25)) + (rd y110 x25_2)))
                                      go_wp2_with (first | ((with_reducible refine gate_store (t := 3) (p := 37) rfl ?_); refine store_event (t := 3) (p := 37) (v := ?vo_w41) (w1 := (wr.setCell ⟨go28, ((ji25) : Int).toNat, none⟩ (.int .i64 (wrap64 ((rd x6_2 (ji25)) + (rd y110 x25_2)))))) ?hg ?ho ?hn ?hr ?_; (case ho => rfl); (case hg => rfl); (case hn => rfl); (case hr => first | (go_simp; done) | (go_simp; rfl)); intro w41 hw; have hg : wr.grownBy w41 (some go28) := (by rw [hw]; exact HP40.2); have hp_ : Kd.R (Kd.int .i64) 3 w41 wO.heap.size (fun _ => True) (.slice (some ⟨go28, 0, none⟩) x6_2.length co39) y116 := (by rw [hw, Ny116.out]; exact HP40.1); clear HP40; have n0_ := Aside0.mk (hp_); have n1_ := Aside0.mk ((by rw [hw]; exact below_set (HBo.out) GB28.out : Below wO.heap.size wO w41)); clear HO_6; clear HBo; have HO_6 := n0_; have HBo := n1_; clear n0_ n1_; clear hg hw hp_))
                                      go_roundg k2
                                      case measure => have := HK1.out; have := HK2.out; omega
                                      case rel => exact ⟨(y116), (ji25), (by first | rfl | (simp; done) | (simp only [← hji25] <;> (first | rfl | simp)) | (simp [*]; done)), H', ⟨by have := HK1.out; have := HK2.out; omega⟩, ⟨by (with_reducible repeat (first | apply Kd.R_alloc | apply Kd.R_drewN | apply Kd.R_drew)); exact HO_6.out⟩, ⟨by repeat (first | (with_reducible first | exact HBo.out | apply below_alloc | apply pw_below_drewN | apply below_drew1) | exact HBo.out)⟩⟩
                                  · rw [if_neg c27] at H
                                    exact absurd H (by simp)
                                · rw [if_neg c26] at H
                                  exact absurd H (by simp)
                              · rw [if_neg c24] at H
                                exact absurd H (by simp)
                            · rw [if_neg c23] at H
                              exact absurd H (by simp)
                          · rw [if_neg c22] at H
                            have c22b0 : decide (x25_2 < (y110.length : Int)) = false := decide_eq_false c22
                            clear c22
                            have H' := Aside0.mk H
                            clear H
                            go_wp2
                            go_roundg k2
                            case measure => have := HK1.out; have := HK2.out; omega
                            case rel => exact ⟨(x6_2), (wrap64 (x15_1 + 1)), (by first | rfl | (simp; done) | (simp [*]; done)), H', ⟨by have := HK1.out; have := HK2.out; omega⟩, ⟨Kd.R_lower HO_6.out (below_size HB.out)⟩, ⟨below_step HB.out HBo.out⟩⟩
                    · rw [if_neg c17] at H
                      exact absurd H (by simp)
                  · rw [if_neg c16] at H
                    exact absurd H (by simp)
                · rw [if_neg c14] at H
                  exact absurd H (by simp)
              · rw [if_neg c13] at H
                exact absurd H (by simp)
            · rw [if_neg c12] at H
              have c12b0 : decide (x15_1 < a0) = false := decide_eq_false c12
              clear c12
              replace H := Option.bind_eq_some_iff.mp H
              obtain ⟨t105, A420, H⟩ := H
              replace H : (if t105 = true then (if 0 ≤ a1 then (if a1 < (x5_1.length : Int) then (some (rd x5_1 a1)) else (none)) else (none)) else (some 0)) = some r := H
              have A42 := Aside0.mk A420
              clear A420
              by_cases c43 : t105 = true
              · subst c43
                have H1 : (if 0 ≤ a1 then (if a1 < (x5_1.length : Int) then (some (rd x5_1 a1)) else (none)) else (none)) = some r := by rw [if_pos rfl] at H; exact H
                clear H
                have H := H1
                clear H1
                by_cases c44 : 0 ≤ a1
                · rw [if_pos c44] at H
                  have c44b0 : decide (0 ≤ a1) = true := decide_eq_true c44
                  clear c44
                  by_cases c45 : a1 < (x5_1.length : Int)
                  · rw [if_pos c45] at H
                    have c45b0 : decide (a1 < (x5_1.length : Int)) = true := decide_eq_true c45
                    clear c45
                    obtain rfl := Option.some.inj H
                    go_wp2_with (first | ((with_reducible refine gate_callee (f := 38) rfl ?_); refine goesL_ (some 53) rfl rfl Try.func38 (by kernel_rfl) rfl #[.int .i64 a1, .int .i64 0, .int .i64 a0] rfl (by (try simp only [List.map_toArray, List.map_cons, List.map_nil]); first | done | rfl | (simp only [List.length_drop, List.length_take]; rfl)) ?_; (with_reducible refine (impl_within.calls a1 0 a0 true _ A42.out).mono ?_); rintro e w' ⟨rfl, ⟨nd, rfl⟩⟩; refine ⟨_, rfl, ?_⟩; obtain ⟨Ao46, co46, eo46⟩ := Kd.R_slice HO_5.out; subst eo46; have p106 : 0 ≤ (a1 : Int) := of_decide_eq_true (by first | (with_reducible assumption) | assumption); have q106 : a1 < (x5_1.length : Int) := of_decide_eq_true (by first | (with_reducible assumption) | assumption); obtain ⟨ad106, e106, hx106_0⟩ := Kd.at_int (Kd.R_reads' HO_5.out).2.2 a1 p106 q106; cases e106; replace p106 := eq_true p106; replace q106 := eq_true q106))
                    go_ret
                    exact ⟨by first | rfl | (simp [errW_none, errW_some] <;> rfl) | (simp only [← hji3]; first | rfl | (simp [errW_none, errW_some] <;> rfl)) | (simp [*, errW_none, errW_some] <;> rfl), by repeat (first | (with_reducible first | exact HB.out | apply below_alloc | apply pw_below_drewN | apply below_drew1) | exact HB.out)⟩
                  · rw [if_neg c45] at H
                    exact absurd H (by simp)
                · rw [if_neg c44] at H
                  exact absurd H (by simp)
              · replace c43 := Bool.eq_false_iff.mpr c43
                subst c43
                have H1 : (some 0) = some r := by rw [if_neg (show ¬ (false = true) by decide)] at H; exact H
                clear H
                have H := H1
                clear H1
                obtain rfl := Option.some.inj H
                go_wp2_with (first | ((with_reducible refine gate_callee (f := 38) rfl ?_); refine goesL_ (some 53) rfl rfl Try.func38 (by kernel_rfl) rfl #[.int .i64 a1, .int .i64 0, .int .i64 a0] rfl (by (try simp only [List.map_toArray, List.map_cons, List.map_nil]); first | done | rfl | (simp only [List.length_drop, List.length_take]; rfl)) ?_; (with_reducible refine (impl_within.calls a1 0 a0 false _ A42.out).mono ?_); rintro e w' ⟨rfl, ⟨nd, rfl⟩⟩; refine ⟨_, rfl, ?_⟩))
                go_ret
                exact ⟨by first | rfl | (simp [errW_none, errW_some] <;> rfl) | (simp only [← hji3]; first | rfl | (simp [errW_none, errW_some] <;> rfl)) | (simp [*, errW_none, errW_some] <;> rfl), by repeat (first | (with_reducible first | exact HB.out | apply below_alloc | apply pw_below_drewN | apply below_drew1) | exact HB.out)⟩
      · rw [if_neg c6] at H
        exact absurd H (by simp)
    · rw [if_neg c5] at H
      exact absurd H (by simp)
  · rw [if_neg c4] at H
    exact absurd H (by simp)

end Go.Proofs.Ytecnmnijcplijaa.QRests
