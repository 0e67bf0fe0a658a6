/- Walks for CountPW, written by a program of this session: each theorem '.calls' says what a call of one Go function returns whenever the Lean function '.f' of that name has an answer; the conditions stand in each statement. -/
import Derived.Test.YtecnmnijcplijaaQCountPWx0
namespace Go.Proofs.Ytecnmnijcplijaa.QCountPW
open Go.RowKit Go.Proofs.YtecnmnijcplijaaW.PrintWords Go.Proofs.YtecnmnijcplijaaW.PrintLast Go.Proofs.YtecnmnijcplijaaW.PrintMore
attribute [local go_sem] max2_int min2_int max_two min_two max_three min_three max_four min_four   -- for this text's walks alone
set_option linter.unusedVariables false
set_option linter.unusedSimpArgs false

/-! ### impl_within: function 38 -/
def impl_within.f (a0 : Int) (a1 : Int) (a2 : Int) : Option (Bool) := if a1 ≤ a0 then (some (decide (a0 ≤ a2))) else (some false)
set_option maxHeartbeats 8000000 in
set_option maxRecDepth 100000 in
theorem impl_within.calls (a0 : Int) (a1 : Int) (a2 : Int) (r : Bool) (w : World) (h : impl_within.f a0 a1 a2 = some r) :
    Calls Try.prog 38 #[.int .i64 a0, .int .i64 a1, .int .i64 a2] w fun e w' => e = .returned (.bool r) ∧ Drawn0 w w' := by
  have H : (if a1 ≤ a0 then (some (decide (a0 ≤ a2))) else (some false)) = some r := h
  clear h
  by_cases c4 : a1 ≤ a0
  · rw [if_pos c4] at H
    have c4b0 : decide (a1 ≤ a0) = true := decide_eq_true c4
    clear c4
    obtain rfl := Option.some.inj H
    go_enter Try.func38, Try.ntmps38
    go_wp2
    go_ret
    exact ⟨by first | rfl | (simp; done) | (simp [*]; done), by repeat (first | exact Drawn0.refl _ | apply Drawn0.step)⟩
  · rw [if_neg c4] at H
    have c4b0 : decide (a1 ≤ a0) = false := decide_eq_false c4
    clear c4
    obtain rfl := Option.some.inj H
    go_enter Try.func38, Try.ntmps38
    go_wp2
    go_ret
    exact ⟨by first | rfl | (simp; done) | (simp [*]; done), by repeat (first | exact Drawn0.refl _ | apply Drawn0.step)⟩

/-! ### impl_isPilePairs: function 45 -/
def impl_isPilePairs.f (a0 : Int) : Option (Bool) := (impl_within.f a0 1 8).bind fun t101 => (some t101)
set_option maxHeartbeats 8000000 in
set_option maxRecDepth 100000 in
theorem impl_isPilePairs.calls (a0 : Int) (r : Bool) (w : World) (h : impl_isPilePairs.f a0 = some r) :
    Calls Try.prog 45 #[.int .i64 a0] w fun e w' => e = .returned (.bool r) ∧ Drawn0 w w' := by
  have H : ((impl_within.f a0 1 8).bind fun t101 => (some t101)) = some r := h
  clear h
  replace H := Option.bind_eq_some_iff.mp H
  obtain ⟨t101, A20, H⟩ := H
  replace H : (some t101) = some r := H
  have A2 := Aside0.mk A20
  clear A20
  obtain rfl := Option.some.inj H
  go_enter Try.func45, Try.ntmps45
  go_wp2_with (first | ((with_reducible refine gate_callee (f := 38) rfl ?_); refine goesL_ (some 4) rfl rfl Try.func38 (by kernel_rfl) rfl #[.int .i64 a0, .int .i64 1, .int .i64 8] rfl (by (try simp only [List.map_toArray, List.map_cons, List.map_nil]); first | done | rfl | (simp only [List.length_drop, List.length_take]; rfl)) ?_; (with_reducible refine (impl_within.calls a0 1 8 t101 _ A2.out).mono ?_); rintro e w' ⟨rfl, ⟨nd, rfl⟩⟩; refine ⟨_, rfl, ?_⟩))
  go_ret
  exact ⟨by first | rfl | (simp; done) | (simp [*]; done), by repeat (first | exact Drawn0.refl _ | apply Drawn0.step)⟩

/-! ### impl_factorial: function 48 -/
def impl_factorial.l0 : Nat → Int → Int → Int → Option (Int)
  | 0, _, _, _ => none
  | k + 1, x3, x5, x6 => if x6 < x5 then (impl_factorial.l0 k (wrap64 (x3 * (wrap64 (x6 + 1)))) x5 (wrap64 (x6 + 1))) else (some x3)
def impl_factorial.f (k : Nat) (a0 : Int) : Option (Int) := impl_factorial.l0 k 1 a0 0
theorem impl_factorial.mono_l : ∀ k, (∀ y0 y1 y2, LeO (impl_factorial.l0 k y0 y1 y2) (impl_factorial.l0 (k + 1) y0 y1 y2))
  | 0 => fun _ _ _ r h => by simp [impl_factorial.l0] at h
  | k + 1 => by
    have ih0 := impl_factorial.mono_l k
    · intro y0 y1 y2
      unfold impl_factorial.l0
      repeat' first
      | (with_reducible exact ih0 _ _ _)
      | (with_reducible exact LeO.refl _)
      | (with_reducible exact LeO.none _)
      | (with_reducible refine LeO.ite ?_ ?_)
      | (with_reducible refine LeO.bind ?_ (fun _ => ?_))
      | exact ih0 _ _ _
      | exact LeO.none _
      | refine LeO.ite ?_ ?_
      | refine LeO.bind ?_ (fun _ => ?_)
theorem impl_factorial.mono : ∀ a0 k, LeO (impl_factorial.f k a0) (impl_factorial.f (k + 1) a0) := by
  intro a0 k
  have ih0 := impl_factorial.mono_l k
  unfold impl_factorial.f
  repeat' first
      | (with_reducible exact ih0 _ _ _)
      | (with_reducible exact LeO.refl _)
      | (with_reducible exact LeO.none _)
      | (with_reducible refine LeO.ite ?_ ?_)
      | (with_reducible refine LeO.bind ?_ (fun _ => ?_))
      | exact ih0 _ _ _
      | exact LeO.none _
      | refine LeO.ite ?_ ?_
      | refine LeO.bind ?_ (fun _ => ?_)
set_option maxHeartbeats 8000000 in
set_option maxRecDepth 100000 in
theorem impl_factorial.calls (k : Nat) (a0 : Int) (r : Int) (w : World) (h : impl_factorial.f k a0 = some r) :
    Calls Try.prog 48 #[.int .i64 a0] w fun e w' => e = .returned (.int .i64 r) ∧ Drawn0 w w' := by
  have H : (impl_factorial.l0 k 1 a0 0) = some r := h
  clear h
  have H' := Aside0.mk H
  clear H
  go_enter Try.func48, Try.ntmps48
  go_wp2
  go_loopg [3, 6] k (fun kq v3 v6 w' => ∃ (x3_1 : Int) (x6_1 : Int), v3 = .int .i64 x3_1 ∧ v6 = .int .i64 x6_1 ∧ Aside0 (impl_factorial.l0 kq x3_1 a0 x6_1 = some r) ∧ Aside0 (kq ≤ k) ∧ Drawn0 w w')
  case atStart => exact ⟨(1), (0), (by first | rfl | (simp; done) | (simp [*]; done)), (by first | rfl | (simp; done) | (simp [*]; done)), H', ⟨Nat.le_refl _⟩, by repeat (first | exact Drawn0.refl _ | apply Drawn0.step)⟩
  case round =>
    clear H'
    obtain ⟨x3_1, x6_1, rfl, rfl, HA, HK1, ⟨m1, rfl⟩⟩ := hrel
    cases gk with
    | zero => exact absurd HA.out (by simp [impl_factorial.l0])
    | succ k1 =>
      have H := HA.out
      clear HA
      simp only [impl_factorial.l0] at H
      by_cases c2 : x6_1 < a0
      · rw [if_pos c2] at H
        have c2b0 : decide (x6_1 < a0) = true := decide_eq_true c2
        clear c2
        have H' := Aside0.mk H
        clear H
        go_wp2
        go_roundg k1
        case measure => have := HK1.out; omega
        case rel => exact ⟨(wrap64 (x3_1 * (wrap64 (x6_1 + 1)))), (wrap64 (x6_1 + 1)), (by first | rfl | (simp; done) | (simp [*]; done)), (by first | rfl | (simp; done) | (simp [*]; done)), H', ⟨by have := HK1.out; omega⟩, by repeat (first | exact Drawn0.refl _ | apply Drawn0.step)⟩
      · rw [if_neg c2] at H
        have c2b0 : decide (x6_1 < a0) = false := decide_eq_false c2
        clear c2
        obtain rfl := Option.some.inj H
        go_wp2
        go_ret
        exact ⟨by first | rfl | (simp; done) | (simp [*]; done), by repeat (first | exact Drawn0.refl _ | apply Drawn0.step)⟩

/-! ### impl_CountPilesWithin: function 25 -/
mutual
def impl_CountPilesWithin.j0 : Nat → Int → Int → Bool → Option (Int × Bool)
  | 0, _, _, _ => none
  | k + 1, x0, x1, x16 => if x16 = true then (some (0, false)) else (if 0 ≤ (wrap64 (x0 + 2)) then (if (wrap64 (x0 + 2) : Int).toNat ≤ 35184372088832 then ((some (List.replicate (wrap64 (x0 + 2) : Int).toNat 0 : List Int)).bind fun y103 => (if 0 < (y103.length : Int) then (impl_CountPilesWithin.l0 k x0 x1 (y103.set (0 : Int).toNat 1) (wrap64 (2 * x0)) 0) else (none))) else (none)) else (none))
def impl_CountPilesWithin.l0 : Nat → Int → Int → List Int → Int → Int → Option (Int × Bool)
  | 0, _, _, _, _, _ => none
  | k + 1, x0, x1, x6, x23, x24 => if x24 < x23 then (if 0 ≤ (wrap64 (x0 + 2)) then (if (wrap64 (x0 + 2) : Int).toNat ≤ 35184372088832 then (if 0 ≤ (wrap64 (x0 + 1)) then (if (wrap64 (x0 + 1)) ≤ (x6.length : Int) then ((some (x6.take ((wrap64 (x0 + 1)) : Int).toNat : List Int)).bind fun y112 => (impl_CountPilesWithin.l1 k x0 x1 (List.replicate (wrap64 (x0 + 2) : Int).toNat 0) x23 x24 y112 (y112.length : Int) 0)) else (none)) else (none)) else (none)) else (none)) else (if 0 < (x6.length : Int) then ((impl_factorial.f k x0).bind fun t108 => (some (wrap64 ((rd x6 0) * t108), true))) else (none))
def impl_CountPilesWithin.l1 : Nat → Int → Int → List Int → Int → Int → List Int → Int → Int → Option (Int × Bool)
  | 0, _, _, _, _, _, _, _, _ => none
  | k + 1, x0, x1, x7, x23, x24, x32, x33, x34 => if x34 < x33 then (if 0 ≤ x34 then (if x34 < (x32.length : Int) then (if x34 < (mn x1 x0) then (if 0 ≤ (wrap64 (x34 + 1)) then (if (wrap64 (x34 + 1)) < (x7.length : Int) then ((some (x7.set ((wrap64 (x34 + 1)) : Int).toNat (wrap64 ((rd x7 (wrap64 (x34 + 1))) + (rd x32 x34))) : List Int)).bind fun y118 => (if x34 > 0 then (if 0 ≤ (wrap64 (x34 - 1)) then (if (wrap64 (x34 - 1)) < (x7.length : Int) then (impl_CountPilesWithin.l1 k x0 x1 (y118.set ((wrap64 (x34 - 1)) : Int).toNat (wrap64 ((rd y118 (wrap64 (x34 - 1))) + (wrap64 (x34 * (rd x32 x34)))))) x23 x24 x32 x33 (wrap64 (x34 + 1))) else (none)) else (none)) else (impl_CountPilesWithin.l1 k x0 x1 y118 x23 x24 x32 x33 (wrap64 (x34 + 1))))) else (none)) else (none)) else (if x34 > 0 then (if 0 ≤ (wrap64 (x34 - 1)) then (if (wrap64 (x34 - 1)) < (x7.length : Int) then (impl_CountPilesWithin.l1 k x0 x1 (x7.set ((wrap64 (x34 - 1)) : Int).toNat (wrap64 ((rd x7 (wrap64 (x34 - 1))) + (wrap64 (x34 * (rd x32 x34)))))) x23 x24 x32 x33 (wrap64 (x34 + 1))) else (none)) else (none)) else (impl_CountPilesWithin.l1 k x0 x1 x7 x23 x24 x32 x33 (wrap64 (x34 + 1))))) else (none)) else (none)) else (impl_CountPilesWithin.l0 k x0 x1 x7 x23 (wrap64 (x24 + 1)))
end
def impl_CountPilesWithin.f (k : Nat) (a0 : Int) (a1 : Int) : Option (Int × Bool) := (impl_isPilePairs.f a0).bind fun t102 => (if t102 = true then (impl_CountPilesWithin.j0 k a0 a1 (decide (a1 < 0))) else (impl_CountPilesWithin.j0 k a0 a1 true))
theorem impl_CountPilesWithin.mono_l : ∀ k, (∀ y0 y1 y2, LeO (impl_CountPilesWithin.j0 k y0 y1 y2) (impl_CountPilesWithin.j0 (k + 1) y0 y1 y2)) ∧ (∀ y0 y1 y2 y3 y4, LeO (impl_CountPilesWithin.l0 k y0 y1 y2 y3 y4) (impl_CountPilesWithin.l0 (k + 1) y0 y1 y2 y3 y4)) ∧ (∀ y0 y1 y2 y3 y4 y5 y6 y7, LeO (impl_CountPilesWithin.l1 k y0 y1 y2 y3 y4 y5 y6 y7) (impl_CountPilesWithin.l1 (k + 1) y0 y1 y2 y3 y4 y5 y6 y7))
  | 0 => ⟨fun _ _ _ r h => by simp [impl_CountPilesWithin.j0] at h, fun _ _ _ _ _ r h => by simp [impl_CountPilesWithin.l0] at h, fun _ _ _ _ _ _ _ _ r h => by simp [impl_CountPilesWithin.l1] at h⟩
  | k + 1 => by
    obtain ⟨ih0, ih1, ih2⟩ := impl_CountPilesWithin.mono_l k
    refine ⟨?_, ?_, ?_⟩
    · intro y0 y1 y2
      unfold impl_CountPilesWithin.j0
      repeat' first
      | (with_reducible exact ih0 _ _ _)
      | (with_reducible exact ih1 _ _ _ _ _)
      | (with_reducible exact ih2 _ _ _ _ _ _ _ _)
      | (with_reducible exact impl_factorial.mono _ _)
      | (with_reducible exact LeO.refl _)
      | (with_reducible exact LeO.none _)
      | (with_reducible refine LeO.ite ?_ ?_)
      | (with_reducible refine LeO.bind ?_ (fun _ => ?_))
      | exact ih0 _ _ _
      | exact ih1 _ _ _ _ _
      | exact ih2 _ _ _ _ _ _ _ _
      | exact impl_factorial.mono _ _
      | exact LeO.none _
      | refine LeO.ite ?_ ?_
      | refine LeO.bind ?_ (fun _ => ?_)
    · intro y0 y1 y2 y3 y4
      unfold impl_CountPilesWithin.l0
      repeat' first
      | (with_reducible exact ih0 _ _ _)
      | (with_reducible exact ih1 _ _ _ _ _)
      | (with_reducible exact ih2 _ _ _ _ _ _ _ _)
      | (with_reducible exact impl_factorial.mono _ _)
      | (with_reducible exact LeO.refl _)
      | (with_reducible exact LeO.none _)
      | (with_reducible refine LeO.ite ?_ ?_)
      | (with_reducible refine LeO.bind ?_ (fun _ => ?_))
      | exact ih0 _ _ _
      | exact ih1 _ _ _ _ _
      | exact ih2 _ _ _ _ _ _ _ _
      | exact impl_factorial.mono _ _
      | exact LeO.none _
      | refine LeO.ite ?_ ?_
      | refine LeO.bind ?_ (fun _ => ?_)
    · intro y0 y1 y2 y3 y4 y5 y6 y7
      unfold impl_CountPilesWithin.l1
      repeat' first
      | (with_reducible exact ih0 _ _ _)
      | (with_reducible exact ih1 _ _ _ _ _)
      | (with_reducible exact ih2 _ _ _ _ _ _ _ _)
      | (with_reducible exact impl_factorial.mono _ _)
      | (with_reducible exact LeO.refl _)
      | (with_reducible exact LeO.none _)
      | (with_reducible refine LeO.ite ?_ ?_)
      | (with_reducible refine LeO.bind ?_ (fun _ => ?_))
      | exact ih0 _ _ _
      | exact ih1 _ _ _ _ _
      | exact ih2 _ _ _ _ _ _ _ _
      | exact impl_factorial.mono _ _
      | exact LeO.none _
      | refine LeO.ite ?_ ?_
      | refine LeO.bind ?_ (fun _ => ?_)
theorem impl_CountPilesWithin.mono : ∀ a0 a1 k, LeO (impl_CountPilesWithin.f k a0 a1) (impl_CountPilesWithin.f (k + 1) a0 a1) := by
  intro a0 a1 k
  obtain ⟨ih0, ih1, ih2⟩ := impl_CountPilesWithin.mono_l k
  unfold impl_CountPilesWithin.f
  repeat' first
      | (with_reducible exact ih0 _ _ _)
      | (with_reducible exact ih1 _ _ _ _ _)
      | (with_reducible exact ih2 _ _ _ _ _ _ _ _)
      | (with_reducible exact impl_factorial.mono _ _)
      | (with_reducible exact LeO.refl _)
      | (with_reducible exact LeO.none _)
      | (with_reducible refine LeO.ite ?_ ?_)
      | (with_reducible refine LeO.bind ?_ (fun _ => ?_))
      | exact ih0 _ _ _
      | exact ih1 _ _ _ _ _
      | exact ih2 _ _ _ _ _ _ _ _
      | exact impl_factorial.mono _ _
      | exact LeO.none _
      | refine LeO.ite ?_ ?_
      | refine LeO.bind ?_ (fun _ => ?_)
set_option maxHeartbeats 8000000 in
set_option maxRecDepth 100000 in
theorem impl_CountPilesWithin.calls (k : Nat) (a0 : Int) (a1 : Int) (r1 : Int) (r2 : Bool) (w : World) (h : impl_CountPilesWithin.f k a0 a1 = some (r1, r2)) :
    Calls Try.prog 25 #[.int .i64 a0, .int .i64 a1] w fun e w' => e = .returned (.tuple #[.int .i64 r1, .bool r2]) ∧ Below w.heap.size w w' := by
  have HB := Aside0.mk (Below.refl w.heap.size w)
  have H : ((impl_isPilePairs.f a0).bind fun t102 => (if t102 = true then (impl_CountPilesWithin.j0 k a0 a1 (decide (a1 < 0))) else (impl_CountPilesWithin.j0 k a0 a1 true))) = some (r1, r2) := h
  clear h
  have HC3 := Aside0.mk H
  clear H
  go_enter Try.func25, Try.ntmps25
  go_upto_region 1 with (fail)
  repeat (go_quiet (fail); go_upto_region 1 with (fail))
  go_cut [16] (fun v16 wc => ∃ (kq : Nat) (x16_2 : Bool), v16 = .bool x16_2 ∧ Aside0 (impl_CountPilesWithin.j0 kq a0 a1 x16_2 = some (r1, r2)) ∧ Aside0 (kq ≤ k) ∧ Aside0 (Below w.heap.size w wc))
  case first =>
    have H := HC3.out
    clear HC3
    replace H := Option.bind_eq_some_iff.mp H
    obtain ⟨t102, A40, H⟩ := H
    replace H : (if t102 = true then (impl_CountPilesWithin.j0 k a0 a1 (decide (a1 < 0))) else (impl_CountPilesWithin.j0 k a0 a1 true)) = some (r1, r2) := H
    have A4 := Aside0.mk A40
    clear A40
    by_cases c5 : t102 = true
    · subst c5
      have H1 : (impl_CountPilesWithin.j0 k a0 a1 (decide (a1 < 0))) = some (r1, r2) := by rw [if_pos rfl] at H; exact H
      clear H
      have H := H1
      clear H1
      have H' := Aside0.mk H
      clear H
      go_wp2_with (first | (go_at_call 45; (with_reducible refine (impl_isPilePairs.calls a0 true _ A4.out).mono ?_); rintro e w' ⟨rfl, ⟨nd, rfl⟩⟩; (try first | exact ⟨rfl, _, World.drewN_drewN _ _ _⟩ | exact ⟨rfl, _, Eq.trans (World.drewN_drewN _ _ _) (congrArg (World.drewN _) (Nat.add_assoc _ _ _))⟩)))
      repeat (go_quiet (first | (go_at_call 45; (with_reducible refine (impl_isPilePairs.calls a0 true _ A4.out).mono ?_); rintro e w' ⟨rfl, ⟨nd, rfl⟩⟩; (try first | exact ⟨rfl, _, World.drewN_drewN _ _ _⟩ | exact ⟨rfl, _, Eq.trans (World.drewN_drewN _ _ _) (congrArg (World.drewN _) (Nat.add_assoc _ _ _))⟩))); try go_wp2_with (first | (go_at_call 45; (with_reducible refine (impl_isPilePairs.calls a0 true _ A4.out).mono ?_); rintro e w' ⟨rfl, ⟨nd, rfl⟩⟩; (try first | exact ⟨rfl, _, World.drewN_drewN _ _ _⟩ | exact ⟨rfl, _, Eq.trans (World.drewN_drewN _ _ _) (congrArg (World.drewN _) (Nat.add_assoc _ _ _))⟩))))
      go_meet
      case rel => exact ⟨_, (decide (a1 < 0)), (by first | rfl | (simp; done) | (simp [*]; done)), H', ⟨by first | omega | exact Nat.le_refl _⟩, ⟨by repeat (first | (with_reducible first | exact HB.out | apply below_alloc | apply pw_below_drewN | apply below_drew1) | exact HB.out)⟩⟩
    · replace c5 := Bool.eq_false_iff.mpr c5
      subst c5
      have H1 : (impl_CountPilesWithin.j0 k a0 a1 true) = some (r1, r2) := by rw [if_neg (show ¬ (false = true) by decide)] at H; exact H
      clear H
      have H := H1
      clear H1
      have H' := Aside0.mk H
      clear H
      go_wp2_with (first | (go_at_call 45; (with_reducible refine (impl_isPilePairs.calls a0 false _ A4.out).mono ?_); rintro e w' ⟨rfl, ⟨nd, rfl⟩⟩; (try first | exact ⟨rfl, _, World.drewN_drewN _ _ _⟩ | exact ⟨rfl, _, Eq.trans (World.drewN_drewN _ _ _) (congrArg (World.drewN _) (Nat.add_assoc _ _ _))⟩)))
      repeat (go_quiet (first | (go_at_call 45; (with_reducible refine (impl_isPilePairs.calls a0 false _ A4.out).mono ?_); rintro e w' ⟨rfl, ⟨nd, rfl⟩⟩; (try first | exact ⟨rfl, _, World.drewN_drewN _ _ _⟩ | exact ⟨rfl, _, Eq.trans (World.drewN_drewN _ _ _) (congrArg (World.drewN _) (Nat.add_assoc _ _ _))⟩))); try go_wp2_with (first | (go_at_call 45; (with_reducible refine (impl_isPilePairs.calls a0 false _ A4.out).mono ?_); rintro e w' ⟨rfl, ⟨nd, rfl⟩⟩; (try first | exact ⟨rfl, _, World.drewN_drewN _ _ _⟩ | exact ⟨rfl, _, Eq.trans (World.drewN_drewN _ _ _) (congrArg (World.drewN _) (Nat.add_assoc _ _ _))⟩))))
      go_meet
      case rel => exact ⟨_, (true), (by first | rfl | (simp; done) | (simp [*]; done)), H', ⟨by first | omega | exact Nat.le_refl _⟩, ⟨by repeat (first | (with_reducible first | exact HB.out | apply below_alloc | apply pw_below_drewN | apply below_drew1) | exact HB.out)⟩⟩
  case rest =>
    clear HC3
    try clear c2
    try clear p2
    try clear c5
    obtain ⟨kq, x16_2, rfl, HA, HJ2, HB⟩ := hcut
    cases kq with
    | zero => exact absurd HA.out (by simp [impl_CountPilesWithin.j0])
    | succ kj2 =>
      have H := HA.out
      clear HA
      simp only [impl_CountPilesWithin.j0] at H
      by_cases c6 : x16_2 = true
      · subst c6
        have H1 : (some (0, false)) = some (r1, r2) := by rw [if_pos rfl] at H; exact H
        clear H
        have H := H1
        clear H1
        simp only [Option.some.injEq, Prod.mk.injEq] at H
        obtain ⟨rfl, rfl⟩ := H
        go_wp2
        repeat (go_quiet (fail); try go_wp2)
        go_ret2
        exact ⟨by first | rfl | (simp [errW_none, errW_some] <;> rfl) | (simp [*, errW_none, errW_some] <;> rfl), by repeat (first | (with_reducible first | exact HB.out | apply below_alloc | apply pw_below_drewN | apply below_drew1) | exact HB.out)⟩
      · replace c6 := Bool.eq_false_iff.mpr c6
        subst c6
        have H1 : (if 0 ≤ (wrap64 (a0 + 2)) then (if (wrap64 (a0 + 2) : Int).toNat ≤ 35184372088832 then ((some (List.replicate (wrap64 (a0 + 2) : Int).toNat 0 : List Int)).bind fun y103 => (if 0 < (y103.length : Int) then (impl_CountPilesWithin.l0 kj2 a0 a1 (y103.set (0 : Int).toNat 1) (wrap64 (2 * a0)) 0) else (none))) else (none)) else (none)) = some (r1, r2) := by rw [if_neg (show ¬ (false = true) by decide)] at H; exact H
        clear H
        have H := H1
        clear H1
        obtain ⟨ji7, hji7⟩ : ∃ j_ : Int, (wrap64 (a0 + 2)) = j_ := ⟨_, rfl⟩
        replace H : (if 0 ≤ (ji7) then (if (ji7 : Int).toNat ≤ 35184372088832 then ((some (List.replicate (ji7 : Int).toNat 0 : List Int)).bind fun y103 => (if 0 < (y103.length : Int) then (impl_CountPilesWithin.l0 kj2 a0 a1 (y103.set (0 : Int).toNat 1) (wrap64 (2 * a0)) 0) else (none))) else (none)) else (none)) = some (r1, r2) := by first | (rw [hji7] at H; exact H) | (simp only [hji7] at H ⊢; exact H)
        have hji7w : (IntKind.i64.wrap (a0 + 2)) = ji7 := (i64_w _).trans hji7
        by_cases c8 : 0 ≤ (ji7)
        · rw [if_pos c8] at H
          have c8b0 := eq_true c8
          have c8b1 : decide (0 ≤ (ji7)) = true := decide_eq_true c8
          clear c8
          by_cases c9 : (ji7 : Int).toNat ≤ 35184372088832
          · rw [if_pos c9] at H
            have c9b0 := eq_true c9
            have c9b1 : decide ((ji7 : Int).toNat ≤ 35184372088832) = true := decide_eq_true c9
            clear c9
            obtain ⟨y103, hy103⟩ : ∃ y_ : List Int, y_ = (List.replicate (ji7 : Int).toNat 0) := ⟨_, rfl⟩
            replace H : (if 0 < (y103.length : Int) then (impl_CountPilesWithin.l0 kj2 a0 a1 (y103.set (0 : Int).toNat 1) (wrap64 (2 * a0)) 0) else (none)) = some (r1, r2) := by first | (rw [hy103]; with_reducible exact H) | (have H2_ := (Option.bind_some _ _).symm.trans H; rw [hy103]; with_reducible exact H2_) | (have H2_ := (Option.bind_some _ _).symm.trans H; with_reducible exact H2_) | with_reducible exact H | (rw [hy103]; exact H) | exact H
            have Ny103 := Aside0.mk hy103
            clear hy103
            by_cases c10 : 0 < (y103.length : Int)
            · rw [if_pos c10] at H
              have c10b0 : decide (0 < (y103.length : Int)) = true := decide_eq_true c10
              have c10b1 : decide (0 < y103.length) = true := decide_eq_true (by omega)
              clear c10
              obtain ⟨y106, hy106⟩ : ∃ y_ : List Int, y_ = (y103.set (0 : Int).toNat 1) := ⟨_, rfl⟩
              replace H : (impl_CountPilesWithin.l0 kj2 a0 a1 y106 (wrap64 (2 * a0)) 0) = some (r1, r2) := by first | (rw [hy106]; with_reducible exact H) | (have H2_ := (Option.bind_some _ _).symm.trans H; rw [hy106]; with_reducible exact H2_) | (have H2_ := (Option.bind_some _ _).symm.trans H; with_reducible exact H2_) | with_reducible exact H | (rw [hy106]; exact H) | exact H
              have Ny106 := Aside0.mk hy106
              clear hy106
              have H' := Aside0.mk H
              clear H
              go_wp2_with (first | ((with_reducible refine gate_dst (N := 19) rfl ?_); refine Kd.R_make (Kd.int .i64) _ 3 rfl (N := 19) rfl 39 _ _ rfl ji7 rfl rfl Try.underlying39 (.int .i64 0) 8 info3 rfl (by decide) (by omega) 0 (ok := fun _ => True) (okp := fun _ => True) rfl (fun _ hk => hk) trivial (of_decide_eq_true (by first | (with_reducible assumption) | assumption)) (Nat.le_trans (Nat.mul_le_mul_right _ (of_decide_eq_true (by first | (with_reducible assumption) | assumption) : ji7.toNat ≤ 35184372088832)) (by omega)) (Below.refl _ _) (Nat.le_refl _) ?_; intro v104 w12 ho13 hb hg_ hnew_; clear hg_ hnew_; (first | rw [← Ny103.out] at ho13 | (simp only [Int.reduceToNat] at ho13; rw [← Ny103.out] at ho13)); have n0_ := Aside0.mk (Kd.R_lower ho13 (below_size (by repeat (first | (with_reducible first | exact HB.out | apply below_alloc | apply pw_below_drewN | apply below_drew1) | exact HB.out)))); have n1_ := Aside0.mk (below_step (by repeat (first | (with_reducible first | exact HB.out | apply below_alloc | apply pw_below_drewN | apply below_drew1) | exact HB.out)) hb); clear HB; have HO105 := n0_; have HB := n1_; clear n0_ n1_; clear hb ho13; have p11 : 0 ≤ (0 : Int) := (by omega); have q11 : (0 : Int) < ((y103.length : Int) : Int) := of_decide_eq_true (by first | (with_reducible assumption) | assumption); have qi11 : (0 < y103.length) = True := eq_true (by omega); obtain ⟨go11, co11, eo11, gb11, gl11, cl11, HG11⟩ := Kd.R_form HO105.out (by omega); (first | cases eo11 | (injection eo11 with ea_ en_ ec_; (first | subst ea_ | (injection ea_ with ea_; subst ea_)); subst ec_; clear en_)); have GB11 := Aside0.mk gb11; have GG11 := Aside0.mk HG11; clear gb11 gl11 HG11; obtain ⟨hx11_0, hf11_0⟩ := Kd.R_celln 0 HO105.out (0 : Int) p11 q11; (try rw [show ((0 : Int)).toNat = 0 from rfl] at hx11_0); (try simp only [Nat.reduceMul, Nat.zero_mul, Nat.zero_add, Nat.reduceAdd] at hx11_0); (try rw [show ((0 : Int)).toNat = 0 from rfl] at hf11_0); (try simp only [Nat.reduceMul, Nat.zero_mul, Nat.zero_add, Nat.reduceAdd] at hf11_0); replace p11 := eq_true p11; replace q11 := eq_true q11; obtain ⟨hy14_, hz14_⟩ := Kd.R_celln 0 HO105.out (0 : Int) (by omega) (of_decide_eq_true (by first | (with_reducible assumption) | assumption)); (try simp only [Int.reduceToNat, Int.toNat_zero, Int.toNat_ofNat, Nat.reduceMul, Nat.zero_mul, Nat.zero_add] at hy14_ hz14_); (try rw [show ((0 : Int)).toNat = 0 from rfl] at hy14_); (try rw [show ((0 : Int)).toNat = 0 from rfl] at hz14_); have HP14 := Kd.R_putg HO105.out (0 : Int) 1) | ((with_reducible refine gate_store (t := 3) (p := 21) rfl ?_); (try (rw [drewN_self w12]; generalize hq_ : World.drewN w12 _ = w12; have n0_ := Aside0.mk (Kd.R_at hq_ HO105.out); have n1_ := Aside0.mk (below_at hq_ HB.out); clear hq_ HO105 HB; have HO105 := n0_; have HB := n1_; clear n0_ n1_; (try (obtain ⟨hy14_, hz14_⟩ := Kd.R_celln 0 HO105.out (0 : Int) (by omega) (of_decide_eq_true (by first | (with_reducible assumption) | assumption)))); (try (try simp only [Int.reduceToNat, Int.toNat_zero, Int.toNat_ofNat, Nat.reduceMul, Nat.zero_mul, Nat.zero_add] at hy14_ hz14_)); (try (try rw [show ((0 : Int)).toNat = 0 from rfl] at hy14_)); (try (try rw [show ((0 : Int)).toNat = 0 from rfl] at hz14_)); (try (have HP14 := Kd.R_putg HO105.out (0 : Int) 1)))); refine store_event (t := 3) (p := 21) (v := ?vo_w15) (w1 := (w12.setCell ⟨go11, (0 : Int).toNat, none⟩ (.int .i64 1))) ?hg ?ho ?hn ?hr ?_; (case ho => rfl); (case hg => rfl); (case hn => rfl); (case hr => first | (go_simp; done) | (go_simp; rfl)); intro w15 hw; have hg : w12.grownBy w15 (some go11) := (by rw [hw]; exact HP14.2); have hp_ : Kd.R (Kd.int .i64) 3 w15 w.heap.size (fun _ => True) (.slice (some ⟨go11, 0, none⟩) y103.length co11) y106 := (by rw [hw, Ny106.out]; exact HP14.1); clear HP14; have n0_ := Aside0.mk (hp_); have n1_ := Aside0.mk ((by rw [hw]; exact below_set (HB.out) GB11.out : Below w.heap.size w w15)); clear HO105; clear HB; have HO105 := n0_; have HB := n1_; clear n0_ n1_; clear hg hw hp_))
              repeat (go_quiet (first | ((with_reducible refine gate_dst (N := 19) rfl ?_); refine Kd.R_make (Kd.int .i64) _ 3 rfl (N := 19) rfl 39 _ _ rfl ji7 rfl rfl Try.underlying39 (.int .i64 0) 8 info3 rfl (by decide) (by omega) 0 (ok := fun _ => True) (okp := fun _ => True) rfl (fun _ hk => hk) trivial (of_decide_eq_true (by first | (with_reducible assumption) | assumption)) (Nat.le_trans (Nat.mul_le_mul_right _ (of_decide_eq_true (by first | (with_reducible assumption) | assumption) : ji7.toNat ≤ 35184372088832)) (by omega)) (Below.refl _ _) (Nat.le_refl _) ?_; intro v104 w12 ho13 hb hg_ hnew_; clear hg_ hnew_; (first | rw [← Ny103.out] at ho13 | (simp only [Int.reduceToNat] at ho13; rw [← Ny103.out] at ho13)); have n0_ := Aside0.mk (Kd.R_lower ho13 (below_size (by repeat (first | (with_reducible first | exact HB.out | apply below_alloc | apply pw_below_drewN | apply below_drew1) | exact HB.out)))); have n1_ := Aside0.mk (below_step (by repeat (first | (with_reducible first | exact HB.out | apply below_alloc | apply pw_below_drewN | apply below_drew1) | exact HB.out)) hb); clear HB; have HO105 := n0_; have HB := n1_; clear n0_ n1_; clear hb ho13; have p11 : 0 ≤ (0 : Int) := (by omega); have q11 : (0 : Int) < ((y103.length : Int) : Int) := of_decide_eq_true (by first | (with_reducible assumption) | assumption); have qi11 : (0 < y103.length) = True := eq_true (by omega); obtain ⟨go11, co11, eo11, gb11, gl11, cl11, HG11⟩ := Kd.R_form HO105.out (by omega); (first | cases eo11 | (injection eo11 with ea_ en_ ec_; (first | subst ea_ | (injection ea_ with ea_; subst ea_)); subst ec_; clear en_)); have GB11 := Aside0.mk gb11; have GG11 := Aside0.mk HG11; clear gb11 gl11 HG11; obtain ⟨hx11_0, hf11_0⟩ := Kd.R_celln 0 HO105.out (0 : Int) p11 q11; (try rw [show ((0 : Int)).toNat = 0 from rfl] at hx11_0); (try simp only [Nat.reduceMul, Nat.zero_mul, Nat.zero_add, Nat.reduceAdd] at hx11_0); (try rw [show ((0 : Int)).toNat = 0 from rfl] at hf11_0); (try simp only [Nat.reduceMul, Nat.zero_mul, Nat.zero_add, Nat.reduceAdd] at hf11_0); replace p11 := eq_true p11; replace q11 := eq_true q11; obtain ⟨hy14_, hz14_⟩ := Kd.R_celln 0 HO105.out (0 : Int) (by omega) (of_decide_eq_true (by first | (with_reducible assumption) | assumption)); (try simp only [Int.reduceToNat, Int.toNat_zero, Int.toNat_ofNat, Nat.reduceMul, Nat.zero_mul, Nat.zero_add] at hy14_ hz14_); (try rw [show ((0 : Int)).toNat = 0 from rfl] at hy14_); (try rw [show ((0 : Int)).toNat = 0 from rfl] at hz14_); have HP14 := Kd.R_putg HO105.out (0 : Int) 1) | ((with_reducible refine gate_store (t := 3) (p := 21) rfl ?_); (try (rw [drewN_self w12]; generalize hq_ : World.drewN w12 _ = w12; have n0_ := Aside0.mk (Kd.R_at hq_ HO105.out); have n1_ := Aside0.mk (below_at hq_ HB.out); clear hq_ HO105 HB; have HO105 := n0_; have HB := n1_; clear n0_ n1_; (try (obtain ⟨hy14_, hz14_⟩ := Kd.R_celln 0 HO105.out (0 : Int) (by omega) (of_decide_eq_true (by first | (with_reducible assumption) | assumption)))); (try (try simp only [Int.reduceToNat, Int.toNat_zero, Int.toNat_ofNat, Nat.reduceMul, Nat.zero_mul, Nat.zero_add] at hy14_ hz14_)); (try (try rw [show ((0 : Int)).toNat = 0 from rfl] at hy14_)); (try (try rw [show ((0 : Int)).toNat = 0 from rfl] at hz14_)); (try (have HP14 := Kd.R_putg HO105.out (0 : Int) 1)))); refine store_event (t := 3) (p := 21) (v := ?vo_w15) (w1 := (w12.setCell ⟨go11, (0 : Int).toNat, none⟩ (.int .i64 1))) ?hg ?ho ?hn ?hr ?_; (case ho => rfl); (case hg => rfl); (case hn => rfl); (case hr => first | (go_simp; done) | (go_simp; rfl)); intro w15 hw; have hg : w12.grownBy w15 (some go11) := (by rw [hw]; exact HP14.2); have hp_ : Kd.R (Kd.int .i64) 3 w15 w.heap.size (fun _ => True) (.slice (some ⟨go11, 0, none⟩) y103.length co11) y106 := (by rw [hw, Ny106.out]; exact HP14.1); clear HP14; have n0_ := Aside0.mk (hp_); have n1_ := Aside0.mk ((by rw [hw]; exact below_set (HB.out) GB11.out : Below w.heap.size w w15)); clear HO105; clear HB; have HO105 := n0_; have HB := n1_; clear n0_ n1_; clear hg hw hp_)); try go_wp2_with (first | ((with_reducible refine gate_dst (N := 19) rfl ?_); refine Kd.R_make (Kd.int .i64) _ 3 rfl (N := 19) rfl 39 _ _ rfl ji7 rfl rfl Try.underlying39 (.int .i64 0) 8 info3 rfl (by decide) (by omega) 0 (ok := fun _ => True) (okp := fun _ => True) rfl (fun _ hk => hk) trivial (of_decide_eq_true (by first | (with_reducible assumption) | assumption)) (Nat.le_trans (Nat.mul_le_mul_right _ (of_decide_eq_true (by first | (with_reducible assumption) | assumption) : ji7.toNat ≤ 35184372088832)) (by omega)) (Below.refl _ _) (Nat.le_refl _) ?_; intro v104 w12 ho13 hb hg_ hnew_; clear hg_ hnew_; (first | rw [← Ny103.out] at ho13 | (simp only [Int.reduceToNat] at ho13; rw [← Ny103.out] at ho13)); have n0_ := Aside0.mk (Kd.R_lower ho13 (below_size (by repeat (first | (with_reducible first | exact HB.out | apply below_alloc | apply pw_below_drewN | apply below_drew1) | exact HB.out)))); have n1_ := Aside0.mk (below_step (by repeat (first | (with_reducible first | exact HB.out | apply below_alloc | apply pw_below_drewN | apply below_drew1) | exact HB.out)) hb); clear HB; have HO105 := n0_; have HB := n1_; clear n0_ n1_; clear hb ho13; have p11 : 0 ≤ (0 : Int) := (by omega); have q11 : (0 : Int) < ((y103.length : Int) : Int) := of_decide_eq_true (by first | (with_reducible assumption) | assumption); have qi11 : (0 < y103.length) = True := eq_true (by omega); obtain ⟨go11, co11, eo11, gb11, gl11, cl11, HG11⟩ := Kd.R_form HO105.out (by omega); (first | cases eo11 | (injection eo11 with ea_ en_ ec_; (first | subst ea_ | (injection ea_ with ea_; subst ea_)); subst ec_; clear en_)); have GB11 := Aside0.mk gb11; have GG11 := Aside0.mk HG11; clear gb11 gl11 HG11; obtain ⟨hx11_0, hf11_0⟩ := Kd.R_celln 0 HO105.out (0 : Int) p11 q11; (try rw [show ((0 : Int)).toNat = 0 from rfl] at hx11_0); (try simp only [Nat.reduceMul, Nat.zero_mul, Nat.zero_add, Nat.reduceAdd] at hx11_0); (try rw [show ((0 : Int)).toNat = 0 from rfl] at hf11_0); (try simp only [Nat.reduceMul, Nat.zero_mul, Nat.zero_add, Nat.reduceAdd] at hf11_0); replace p11 := eq_true p11; replace q11 := eq_true q11; obtain ⟨hy14_, hz14_⟩ := Kd.R_celln 0 HO105.out (0 : Int) (by omega) (of_decide_eq_true (by first | (with_reducible assumption) | assumption)); (try simp only [Int.reduceToNat, Int.toNat_zero, Int.toNat_ofNat, Nat.reduceMul, Nat.zero_mul, Nat.zero_add] at hy14_ hz14_); (try rw [show ((0 : Int)).toNat = 0 from rfl] at hy14_); (try rw [show ((0 : Int)).toNat = 0 from rfl] at hz14_); have HP14 := Kd.R_putg HO105.out (0 : Int) 1) | ((with_reducible refine gate_store (t := 3) (p := 21) rfl ?_); (try (rw [drewN_self w12]; generalize hq_ : World.drewN w12 _ = w12; have n0_ := Aside0.mk (Kd.R_at hq_ HO105.out); have n1_ := Aside0.mk (below_at hq_ HB.out); clear hq_ HO105 HB; have HO105 := n0_; have HB := n1_; clear n0_ n1_; (try (obtain ⟨hy14_, hz14_⟩ := Kd.R_celln 0 HO105.out (0 : Int) (by omega) (of_decide_eq_true (by first | (with_reducible assumption) | assumption)))); (try (try simp only [Int.reduceToNat, Int.toNat_zero, Int.toNat_ofNat, Nat.reduceMul, Nat.zero_mul, Nat.zero_add] at hy14_ hz14_)); (try (try rw [show ((0 : Int)).toNat = 0 from rfl] at hy14_)); (try (try rw [show ((0 : Int)).toNat = 0 from rfl] at hz14_)); (try (have HP14 := Kd.R_putg HO105.out (0 : Int) 1)))); refine store_event (t := 3) (p := 21) (v := ?vo_w15) (w1 := (w12.setCell ⟨go11, (0 : Int).toNat, none⟩ (.int .i64 1))) ?hg ?ho ?hn ?hr ?_; (case ho => rfl); (case hg => rfl); (case hn => rfl); (case hr => first | (go_simp; done) | (go_simp; rfl)); intro w15 hw; have hg : w12.grownBy w15 (some go11) := (by rw [hw]; exact HP14.2); have hp_ : Kd.R (Kd.int .i64) 3 w15 w.heap.size (fun _ => True) (.slice (some ⟨go11, 0, none⟩) y103.length co11) y106 := (by rw [hw, Ny106.out]; exact HP14.1); clear HP14; have n0_ := Aside0.mk (hp_); have n1_ := Aside0.mk ((by rw [hw]; exact below_set (HB.out) GB11.out : Below w.heap.size w w15)); clear HO105; clear HB; have HO105 := n0_; have HB := n1_; clear n0_ n1_; clear hg hw hp_)))
              go_loopg [6, 24] kj2 (fun kq v6 v24 w' => ∃ (x6_2 : List Int) (x24_2 : Int), v24 = .int .i64 x24_2 ∧ Aside0 (impl_CountPilesWithin.l0 kq a0 a1 x6_2 (wrap64 (2 * a0)) x24_2 = some (r1, r2)) ∧ Aside0 (kq ≤ kj2) ∧ Aside0 (Kd.R (Kd.int .i64) 3 w' w.heap.size (fun _ => True) v6 x6_2) ∧ Aside0 (Below w.heap.size w w'))
              case atStart => exact ⟨(y106), (0), (by first | rfl | (simp; done) | (simp [*]; done)), H', ⟨Nat.le_refl _⟩, ⟨by (with_reducible repeat (first | apply Kd.R_alloc | apply Kd.R_drewN | apply Kd.R_drew)); exact HO105.out⟩, ⟨by repeat (first | (with_reducible first | exact HB.out | apply below_alloc | apply pw_below_drewN | apply below_drew1) | exact HB.out)⟩⟩
              case round =>
                clear H'
                try clear c1
                try clear p1
                try clear q1
                try clear hx1
                try clear qi1
                try clear c2
                try clear p2
                try clear c5
                try clear c6
                try clear p6
                try clear c8
                try clear c8b0
                try clear c8b1
                try clear c9
                try clear c9b0
                try clear c9b1
                try clear c10
                try clear c10b0
                try clear c10b1
                try clear p11
                try clear q11
                try clear hx11
                try clear qi11
                try clear hf11
                try clear hx11_0
                try clear p11
                try clear p2
                try clear q11
                obtain ⟨x6_2, x24_2, rfl, HA, HK2, HO_6, HB⟩ := hrel
                cases gk with
                | zero => exact absurd HA.out (by simp [impl_CountPilesWithin.l0])
                | succ k2 =>
                  have H := HA.out
                  clear HA
                  simp only [impl_CountPilesWithin.l0] at H
                  by_cases c16 : x24_2 < (wrap64 (2 * a0))
                  · rw [if_pos c16] at H
                    have c16b0 : decide (x24_2 < (wrap64 (2 * a0))) = true := decide_eq_true c16
                    clear c16
                    replace H : (if 0 ≤ (ji7) then (if (ji7 : Int).toNat ≤ 35184372088832 then (if 0 ≤ (wrap64 (a0 + 1)) then (if (wrap64 (a0 + 1)) ≤ (x6_2.length : Int) then ((some (x6_2.take ((wrap64 (a0 + 1)) : Int).toNat : List Int)).bind fun y112 => (impl_CountPilesWithin.l1 k2 a0 a1 (List.replicate (ji7 : Int).toNat 0) (wrap64 (2 * a0)) x24_2 y112 (y112.length : Int) 0)) else (none)) else (none)) else (none)) else (none)) = some (r1, r2) := by first | (rw [hji7] at H; exact H) | (simp only [hji7] at H ⊢; exact H)
                    by_cases c17 : 0 ≤ (ji7)
                    · rw [if_pos c17] at H
                      have c17b0 := eq_true c17
                      have c17b1 : decide (0 ≤ (ji7)) = true := decide_eq_true c17
                      clear c17
                      by_cases c18 : (ji7 : Int).toNat ≤ 35184372088832
                      · rw [if_pos c18] at H
                        have c18b0 := eq_true c18
                        have c18b1 : decide ((ji7 : Int).toNat ≤ 35184372088832) = true := decide_eq_true c18
                        clear c18
                        obtain ⟨y109, hy109⟩ : ∃ y_ : List Int, y_ = (List.replicate (ji7 : Int).toNat 0) := ⟨_, rfl⟩
                        replace H : (if 0 ≤ (wrap64 (a0 + 1)) then (if (wrap64 (a0 + 1)) ≤ (x6_2.length : Int) then ((some (x6_2.take ((wrap64 (a0 + 1)) : Int).toNat : List Int)).bind fun y112 => (impl_CountPilesWithin.l1 k2 a0 a1 y109 (wrap64 (2 * a0)) x24_2 y112 (y112.length : Int) 0)) else (none)) else (none)) = some (r1, r2) := by first | (rw [hy109]; with_reducible exact H) | (have H2_ := (Option.bind_some _ _).symm.trans H; rw [hy109]; with_reducible exact H2_) | (have H2_ := (Option.bind_some _ _).symm.trans H; with_reducible exact H2_) | with_reducible exact H | (rw [hy109]; exact H) | exact H
                        have Ny109 := Aside0.mk hy109
                        clear hy109
                        obtain ⟨ji19, hji19⟩ : ∃ j_ : Int, (wrap64 (a0 + 1)) = j_ := ⟨_, rfl⟩
                        replace H : (if 0 ≤ (ji19) then (if (ji19) ≤ (x6_2.length : Int) then ((some (x6_2.take ((ji19) : Int).toNat : List Int)).bind fun y112 => (impl_CountPilesWithin.l1 k2 a0 a1 y109 (wrap64 (2 * a0)) x24_2 y112 (y112.length : Int) 0)) else (none)) else (none)) = some (r1, r2) := by first | (rw [hji19] at H; exact H) | (simp only [hji19] at H ⊢; exact H)
                        have hji19w : (IntKind.i64.wrap (a0 + 1)) = ji19 := (i64_w _).trans hji19
                        by_cases c20 : 0 ≤ (ji19)
                        · rw [if_pos c20] at H
                          have c20b0 := eq_true c20
                          have c20b1 : decide (0 ≤ (ji19)) = true := decide_eq_true c20
                          clear c20
                          by_cases c21 : (ji19) ≤ (x6_2.length : Int)
                          · rw [if_pos c21] at H
                            have c21b0 := eq_true c21
                            have c21b1 : decide ((ji19) ≤ (x6_2.length : Int)) = true := decide_eq_true c21
                            clear c21
                            obtain ⟨y112, hy112⟩ : ∃ y_ : List Int, y_ = (x6_2.take ((ji19) : Int).toNat) := ⟨_, rfl⟩
                            replace H : (impl_CountPilesWithin.l1 k2 a0 a1 y109 (wrap64 (2 * a0)) x24_2 y112 (y112.length : Int) 0) = some (r1, r2) := by first | (rw [hy112]; with_reducible exact H) | (have H2_ := (Option.bind_some _ _).symm.trans H; rw [hy112]; with_reducible exact H2_) | (have H2_ := (Option.bind_some _ _).symm.trans H; with_reducible exact H2_) | with_reducible exact H | (rw [hy112]; exact H) | exact H
                            have Ny112 := Aside0.mk hy112
                            clear hy112
                            have H' := Aside0.mk H
                            clear H
                            obtain ⟨wO, rfl⟩ : ∃ wo : World, wo = wr := ⟨_, rfl⟩
                            go_wp2_with (first | ((with_reducible refine gate_dst (N := 28) rfl ?_); refine Kd.R_make (Kd.int .i64) _ 3 rfl (N := 28) rfl 39 _ _ rfl ji7 rfl rfl Try.underlying39 (.int .i64 0) 8 info3 rfl (by decide) (by omega) 0 (ok := fun _ => True) (okp := fun _ => True) rfl (fun _ hk => hk) trivial (of_decide_eq_true (by first | (with_reducible assumption) | assumption)) (Nat.le_trans (Nat.mul_le_mul_right _ (of_decide_eq_true (by first | (with_reducible assumption) | assumption) : ji7.toNat ≤ 35184372088832)) (by omega)) (Below.refl _ _) (Nat.le_refl _) ?_; intro v110 w22 ho23 hb hg_ hnew_; clear hg_ hnew_; (first | rw [← Ny109.out] at ho23 | (simp only [Int.reduceToNat] at ho23; rw [← Ny109.out] at ho23)); have HO111 := Aside0.mk ho23; have HBo := Aside0.mk hb; clear hb ho23; obtain ⟨Ao25, co25, eo25⟩ := Kd.R_slice HO_6.out; subst eo25; have q24 : ((ji19) : Int) ≤ ((x6_2.length : Int) : Int) := of_decide_eq_true (by first | (with_reducible assumption) | assumption); obtain ⟨i024, hi024, _, hsz24, _⟩ := info_parts info3; have hroom24 : x6_2.length ≤ co25 := (Kd.R_reads' HO_6.out).2.1; have hC24 : Kd.C (Kd.int .i64) _ Ao25 x6_2.length x6_2 := (Kd.R_reads' HO_6.out).2.2; have hcut24 := cut_to (P := Try.prog) 39 3 .i64 Try.underlying39 hi024 Ao25 x6_2.length co25 (ji19) (of_decide_eq_true (by first | (with_reducible assumption) | assumption)) q24 hroom24; have hr24 := Kd.C_take (m := ((ji19) : Int).toNat) hC24 (by omega); have hy24 : y112.length = ((ji19) : Int).toNat := (by rw [Ny112.out, List.length_take]; omega); rw [← Ny112.out] at hr24; rw [← hy24] at hcut24; have HR115 := Aside0.mk hr24; have HC115 := Aside0.mk (show y112.length ≤ co25 from by omega); clear hr24 hC24 hroom24 hi024 hsz24; have KY24 := Aside0.mk hy24; clear hy24; have KL24 := Aside0.mk (show ((ji19) : Int).toNat ≤ x6_2.length from by omega); replace q24 := eq_true q24))
                            repeat (go_quiet (first | ((with_reducible refine gate_dst (N := 28) rfl ?_); refine Kd.R_make (Kd.int .i64) _ 3 rfl (N := 28) rfl 39 _ _ rfl ji7 rfl rfl Try.underlying39 (.int .i64 0) 8 info3 rfl (by decide) (by omega) 0 (ok := fun _ => True) (okp := fun _ => True) rfl (fun _ hk => hk) trivial (of_decide_eq_true (by first | (with_reducible assumption) | assumption)) (Nat.le_trans (Nat.mul_le_mul_right _ (of_decide_eq_true (by first | (with_reducible assumption) | assumption) : ji7.toNat ≤ 35184372088832)) (by omega)) (Below.refl _ _) (Nat.le_refl _) ?_; intro v110 w22 ho23 hb hg_ hnew_; clear hg_ hnew_; (first | rw [← Ny109.out] at ho23 | (simp only [Int.reduceToNat] at ho23; rw [← Ny109.out] at ho23)); have HO111 := Aside0.mk ho23; have HBo := Aside0.mk hb; clear hb ho23; obtain ⟨Ao25, co25, eo25⟩ := Kd.R_slice HO_6.out; subst eo25; have q24 : ((ji19) : Int) ≤ ((x6_2.length : Int) : Int) := of_decide_eq_true (by first | (with_reducible assumption) | assumption); obtain ⟨i024, hi024, _, hsz24, _⟩ := info_parts info3; have hroom24 : x6_2.length ≤ co25 := (Kd.R_reads' HO_6.out).2.1; have hC24 : Kd.C (Kd.int .i64) _ Ao25 x6_2.length x6_2 := (Kd.R_reads' HO_6.out).2.2; have hcut24 := cut_to (P := Try.prog) 39 3 .i64 Try.underlying39 hi024 Ao25 x6_2.length co25 (ji19) (of_decide_eq_true (by first | (with_reducible assumption) | assumption)) q24 hroom24; have hr24 := Kd.C_take (m := ((ji19) : Int).toNat) hC24 (by omega); have hy24 : y112.length = ((ji19) : Int).toNat := (by rw [Ny112.out, List.length_take]; omega); rw [← Ny112.out] at hr24; rw [← hy24] at hcut24; have HR115 := Aside0.mk hr24; have HC115 := Aside0.mk (show y112.length ≤ co25 from by omega); clear hr24 hC24 hroom24 hi024 hsz24; have KY24 := Aside0.mk hy24; clear hy24; have KL24 := Aside0.mk (show ((ji19) : Int).toNat ≤ x6_2.length from by omega); replace q24 := eq_true q24)); try go_wp2_with (first | ((with_reducible refine gate_dst (N := 28) rfl ?_); refine Kd.R_make (Kd.int .i64) _ 3 rfl (N := 28) rfl 39 _ _ rfl ji7 rfl rfl Try.underlying39 (.int .i64 0) 8 info3 rfl (by decide) (by omega) 0 (ok := fun _ => True) (okp := fun _ => True) rfl (fun _ hk => hk) trivial (of_decide_eq_true (by first | (with_reducible assumption) | assumption)) (Nat.le_trans (Nat.mul_le_mul_right _ (of_decide_eq_true (by first | (with_reducible assumption) | assumption) : ji7.toNat ≤ 35184372088832)) (by omega)) (Below.refl _ _) (Nat.le_refl _) ?_; intro v110 w22 ho23 hb hg_ hnew_; clear hg_ hnew_; (first | rw [← Ny109.out] at ho23 | (simp only [Int.reduceToNat] at ho23; rw [← Ny109.out] at ho23)); have n0_ := Aside0.mk (Kd.R_elder' (by (with_reducible repeat (first | apply Kd.R_alloc | apply Kd.R_drewN | apply Kd.R_drew)); exact HO_6.out) (Kd.R_base ho23) hb); have n1_ := Aside0.mk (Kd.R_lower (Kd.R_new' ho23 (Kd.R_lt (by (with_reducible repeat (first | apply Kd.R_alloc | apply Kd.R_drewN | apply Kd.R_drew)); exact HO_6.out))) (below_size (by repeat (first | (with_reducible first | exact HB.out | apply below_alloc | apply pw_below_drewN | apply below_drew1) | exact HB.out)))); have n2_ := Aside0.mk (below_step (by repeat (first | (with_reducible first | exact HB.out | apply below_alloc | apply pw_below_drewN | apply below_drew1) | exact HB.out)) hb); clear HO_6; clear HB; have HO_6 := n0_; have HO111 := n1_; have HB := n2_; clear n0_ n1_ n2_; clear hb ho23; obtain ⟨Ao25, co25, eo25⟩ := Kd.R_slice HO_6.out; subst eo25; have q24 : ((ji19) : Int) ≤ ((x6_2.length : Int) : Int) := of_decide_eq_true (by first | (with_reducible assumption) | assumption); obtain ⟨i024, hi024, _, hsz24, _⟩ := info_parts info3; have hroom24 : x6_2.length ≤ co25 := (Kd.R_reads' HO_6.out).2.1; have hC24 : Kd.C (Kd.int .i64) _ Ao25 x6_2.length x6_2 := (Kd.R_reads' HO_6.out).2.2; have hcut24 := cut_to (P := Try.prog) 39 3 .i64 Try.underlying39 hi024 Ao25 x6_2.length co25 (ji19) (of_decide_eq_true (by first | (with_reducible assumption) | assumption)) q24 hroom24; have hr24 := Kd.C_take (m := ((ji19) : Int).toNat) hC24 (by omega); have hy24 : y112.length = ((ji19) : Int).toNat := (by rw [Ny112.out, List.length_take]; omega); rw [← Ny112.out] at hr24; rw [← hy24] at hcut24; have HR115 := Aside0.mk hr24; have HC115 := Aside0.mk (show y112.length ≤ co25 from by omega); clear hr24 hC24 hroom24 hi024 hsz24; have KY24 := Aside0.mk hy24; clear hy24; have KL24 := Aside0.mk (show ((ji19) : Int).toNat ≤ x6_2.length from by omega); replace q24 := eq_true q24)))
                            go_loopg [34] k2 (fun kq v34 w' => ∃ (x7_3 : List Int) (x34_3 : Int), v34 = .int .i64 x34_3 ∧ Aside0 (impl_CountPilesWithin.l1 kq a0 a1 x7_3 (wrap64 (2 * a0)) x24_2 y112 (y112.length : Int) x34_3 = some (r1, r2)) ∧ Aside0 (kq ≤ k2) ∧ Aside0 (Kd.R (Kd.int .i64) 3 w' wO.heap.size (fun _ => True) v110 x7_3) ∧ Aside0 (Below wO.heap.size wO w'))
                            case atStart => exact ⟨(y109), (0), (by first | rfl | (simp; done) | (simp [*]; done)), H', ⟨Nat.le_refl _⟩, ⟨by (with_reducible repeat (first | apply Kd.R_alloc | apply Kd.R_drewN | apply Kd.R_drew)); exact Kd.R_mono HO111.out (fun _ hk => trivial)⟩, ⟨by repeat (first | (with_reducible first | exact HBo.out | apply below_alloc | apply pw_below_drewN | apply below_drew1) | exact HBo.out)⟩⟩
                            case round =>
                              clear H'
                              try clear c1
                              try clear p1
                              try clear q1
                              try clear hx1
                              try clear qi1
                              try clear c2
                              try clear p2
                              try clear q2
                              try clear c5
                              try clear c6
                              try clear p6
                              try clear c8
                              try clear c8b0
                              try clear c8b1
                              try clear c9
                              try clear c9b0
                              try clear c9b1
                              try clear c10
                              try clear c10b0
                              try clear c10b1
                              try clear p11
                              try clear q11
                              try clear hx11
                              try clear qi11
                              try clear hf11
                              try clear c16
                              try clear c16b0
                              try clear c17
                              try clear c17b0
                              try clear c17b1
                              try clear c18
                              try clear c18b0
                              try clear c18b1
                              try clear c20
                              try clear c20b0
                              try clear c20b1
                              try clear c21
                              try clear c21b0
                              try clear c21b1
                              try clear q24
                              try clear c25
                              try clear hx11_0
                              try clear p1
                              try clear p11
                              try clear p2
                              try clear p6
                              try clear q1
                              try clear q11
                              try clear q24
                              obtain ⟨x7_3, x34_3, rfl, HA, HK3, HO_7, HBo⟩ := hrel
                              cases gk with
                              | zero => exact absurd HA.out (by simp [impl_CountPilesWithin.l1])
                              | succ k3 =>
                                have H := HA.out
                                clear HA
                                simp only [impl_CountPilesWithin.l1] at H
                                by_cases c26 : x34_3 < (y112.length : Int)
                                · rw [if_pos c26] at H
                                  have c26b0 : decide (x34_3 < (y112.length : Int)) = true := decide_eq_true c26
                                  clear c26
                                  by_cases c27 : 0 ≤ x34_3
                                  · rw [if_pos c27] at H
                                    have c27b0 : decide (0 ≤ x34_3) = true := decide_eq_true c27
                                    clear c27
                                    by_cases c28 : x34_3 < (y112.length : Int)
                                    · rw [if_pos c28] at H
                                      have c28b0 : decide (x34_3 < (y112.length : Int)) = true := decide_eq_true c28
                                      clear c28
                                      obtain ⟨ji29, hji29⟩ : ∃ j_ : Int, (mn a1 a0) = j_ := ⟨_, rfl⟩
                                      replace H : (if x34_3 < (ji29) then (if 0 ≤ (wrap64 (x34_3 + 1)) then (if (wrap64 (x34_3 + 1)) < (x7_3.length : Int) then ((some (x7_3.set ((wrap64 (x34_3 + 1)) : Int).toNat (wrap64 ((rd x7_3 (wrap64 (x34_3 + 1))) + (rd y112 x34_3))) : List Int)).bind fun y118 => (if x34_3 > 0 then (if 0 ≤ (wrap64 (x34_3 - 1)) then (if (wrap64 (x34_3 - 1)) < (x7_3.length : Int) then (impl_CountPilesWithin.l1 k3 a0 a1 (y118.set ((wrap64 (x34_3 - 1)) : Int).toNat (wrap64 ((rd y118 (wrap64 (x34_3 - 1))) + (wrap64 (x34_3 * (rd y112 x34_3)))))) (wrap64 (2 * a0)) x24_2 y112 (y112.length : Int) (wrap64 (x34_3 + 1))) else (none)) else (none)) else (impl_CountPilesWithin.l1 k3 a0 a1 y118 (wrap64 (2 * a0)) x24_2 y112 (y112.length : Int) (wrap64 (x34_3 + 1))))) else (none)) else (none)) else (if x34_3 > 0 then (if 0 ≤ (wrap64 (x34_3 - 1)) then (if (wrap64 (x34_3 - 1)) < (x7_3.length : Int) then (impl_CountPilesWithin.l1 k3 a0 a1 (x7_3.set ((wrap64 (x34_3 - 1)) : Int).toNat (wrap64 ((rd x7_3 (wrap64 (x34_3 - 1))) + (wrap64 (x34_3 * (rd y112 x34_3)))))) (wrap64 (2 * a0)) x24_2 y112 (y112.length : Int) (wrap64 (x34_3 + 1))) else (none)) else (none)) else (impl_CountPilesWithin.l1 k3 a0 a1 x7_3 (wrap64 (2 * a0)) x24_2 y112 (y112.length : Int) (wrap64 (x34_3 + 1))))) = some (r1, r2) := by first | (rw [hji29] at H; exact H) | (simp only [hji29] at H ⊢; exact H)
                                      have hji29_ : (if a0 < a1 then a0 else a1) = ji29 := hji29
                                      by_cases c30 : x34_3 < (ji29)
                                      · rw [if_pos c30] at H
                                        have c30b0 : decide (x34_3 < (ji29)) = true := decide_eq_true c30
                                        clear c30
                                        obtain ⟨ji31, hji31⟩ : ∃ j_ : Int, (wrap64 (x34_3 + 1)) = j_ := ⟨_, rfl⟩
                                        replace H : (if 0 ≤ (ji31) then (if (ji31) < (x7_3.length : Int) then ((some (x7_3.set ((ji31) : Int).toNat (wrap64 ((rd x7_3 (ji31)) + (rd y112 x34_3))) : List Int)).bind fun y118 => (if x34_3 > 0 then (if 0 ≤ (wrap64 (x34_3 - 1)) then (if (wrap64 (x34_3 - 1)) < (x7_3.length : Int) then (impl_CountPilesWithin.l1 k3 a0 a1 (y118.set ((wrap64 (x34_3 - 1)) : Int).toNat (wrap64 ((rd y118 (wrap64 (x34_3 - 1))) + (wrap64 (x34_3 * (rd y112 x34_3)))))) (wrap64 (2 * a0)) x24_2 y112 (y112.length : Int) ji31) else (none)) else (none)) else (impl_CountPilesWithin.l1 k3 a0 a1 y118 (wrap64 (2 * a0)) x24_2 y112 (y112.length : Int) ji31))) else (none)) else (none)) = some (r1, r2) := by first | (rw [hji31] at H; exact H) | (simp only [hji31] at H ⊢; exact H)
                                        have hji31w : (IntKind.i64.wrap (x34_3 + 1)) = ji31 := (i64_w _).trans hji31
                                        by_cases c32 : 0 ≤ (ji31)
                                        · rw [if_pos c32] at H
                                          have c32b0 : decide (0 ≤ (ji31)) = true := decide_eq_true c32
                                          clear c32
                                          by_cases c33 : (ji31) < (x7_3.length : Int)
                                          · rw [if_pos c33] at H
                                            have c33b0 : decide ((ji31) < (x7_3.length : Int)) = true := decide_eq_true c33
                                            clear c33
                                            obtain ⟨y118, hy118⟩ : ∃ y_ : List Int, y_ = (x7_3.set ((ji31) : Int).toNat (wrap64 ((rd x7_3 (ji31)) + (rd y112 x34_3)))) := ⟨_, rfl⟩
                                            replace H : (if x34_3 > 0 then (if 0 ≤ (wrap64 (x34_3 - 1)) then (if (wrap64 (x34_3 - 1)) < (x7_3.length : Int) then (impl_CountPilesWithin.l1 k3 a0 a1 (y118.set ((wrap64 (x34_3 - 1)) : Int).toNat (wrap64 ((rd y118 (wrap64 (x34_3 - 1))) + (wrap64 (x34_3 * (rd y112 x34_3)))))) (wrap64 (2 * a0)) x24_2 y112 (y112.length : Int) ji31) else (none)) else (none)) else (impl_CountPilesWithin.l1 k3 a0 a1 y118 (wrap64 (2 * a0)) x24_2 y112 (y112.length : Int) ji31)) = some (r1, r2) := by first | (rw [hy118]; with_reducible exact H) | (have H2_ := (Option.bind_some _ _).symm.trans H; rw [hy118]; with_reducible exact H2_) | (have H2_ := (Option.bind_some _ _).symm.trans H; with_reducible exact H2_) | with_reducible exact H | (rw [hy118]; exact H) | exact H
                                            have Ny118 := Aside0.mk hy118
                                            clear hy118
                                            by_cases c35 : x34_3 > 0
                                            · rw [if_pos c35] at H
                                              have c35b0 : decide (0 < x34_3) = true := decide_eq_true c35
                                              clear c35
                                              obtain ⟨ji36, hji36⟩ : ∃ j_ : Int, (wrap64 (x34_3 - 1)) = j_ := ⟨_, rfl⟩
                                              replace H : (if 0 ≤ (ji36) then (if (ji36) < (x7_3.length : Int) then (impl_CountPilesWithin.l1 k3 a0 a1 (y118.set ((ji36) : Int).toNat (wrap64 ((rd y118 (ji36)) + (wrap64 (x34_3 * (rd y112 x34_3)))))) (wrap64 (2 * a0)) x24_2 y112 (y112.length : Int) ji31) else (none)) else (none)) = some (r1, r2) := by first | (rw [hji36] at H; exact H) | (simp only [hji36] at H ⊢; exact H)
                                              have hji36w : (IntKind.i64.wrap (x34_3 - 1)) = ji36 := (i64_w _).trans hji36
                                              by_cases c37 : 0 ≤ (ji36)
                                              · rw [if_pos c37] at H
                                                have c37b0 : decide (0 ≤ (ji36)) = true := decide_eq_true c37
                                                clear c37
                                                by_cases c38 : (ji36) < (x7_3.length : Int)
                                                · rw [if_pos c38] at H
                                                  have c38b0 : decide ((ji36) < (x7_3.length : Int)) = true := decide_eq_true c38
                                                  clear c38
                                                  obtain ⟨y120, hy120⟩ : ∃ y_ : List Int, y_ = (y118.set ((ji36) : Int).toNat (wrap64 ((rd y118 (ji36)) + (wrap64 (x34_3 * (rd y112 x34_3)))))) := ⟨_, rfl⟩
                                                  replace H : (impl_CountPilesWithin.l1 k3 a0 a1 y120 (wrap64 (2 * a0)) x24_2 y112 (y112.length : Int) ji31) = some (r1, r2) := by first | (rw [hy120]; with_reducible exact H) | (have H2_ := (Option.bind_some _ _).symm.trans H; rw [hy120]; with_reducible exact H2_) | (have H2_ := (Option.bind_some _ _).symm.trans H; with_reducible exact H2_) | with_reducible exact H | (rw [hy120]; exact H) | exact H
                                                  have Ny120 := Aside0.mk hy120
                                                  clear hy120
                                                  have H' := Aside0.mk H
                                                  clear H
                                                  have p116 : 0 ≤ (x34_3 : Int) := of_decide_eq_true (by first | (with_reducible assumption) | assumption)
                                                  have q116 : x34_3 < (y112.length : Int) := of_decide_eq_true (by first | (with_reducible assumption) | assumption)
                                                  obtain ⟨ad116, e116, hx116_0⟩ := Kd.at_int HR115.out x34_3 p116 q116
                                                  cases e116
                                                  replace hx116_0 := (HBo.out.cell (World.block_lt_of_cell? wO _ hx116_0)).trans hx116_0
                                                  replace p116 := eq_true p116
                                                  replace q116 := eq_true q116
                                                  obtain ⟨Ao40, co40, eo40⟩ := Kd.R_slice HO_7.out
                                                  subst eo40
                                                  have p117 : 0 ≤ ((ji31) : Int) := of_decide_eq_true (by first | (with_reducible assumption) | assumption)
                                                  have q117 : (ji31) < (x7_3.length : Int) := of_decide_eq_true (by first | (with_reducible assumption) | assumption)
                                                  obtain ⟨ad117, e117, hx117_0⟩ := Kd.at_int (Kd.R_reads' HO_7.out).2.2 (ji31) p117 q117
                                                  cases e117
                                                  replace p117 := eq_true p117
                                                  replace q117 := eq_true q117
                                                  have p34 : 0 ≤ ((ji31) : Int) := of_decide_eq_true (by first | (with_reducible assumption) | assumption)
                                                  have q34 : ((ji31) : Int) < ((x7_3.length : Int) : Int) := of_decide_eq_true (by first | (with_reducible assumption) | assumption)
                                                  obtain ⟨go34, co34, eo34, gb34, gl34, cl34, HG34⟩ := Kd.R_form HO_7.out (by omega)
                                                  (first | cases eo34 | (injection eo34 with ea_ en_ ec_; (first | subst ea_ | (injection ea_ with ea_; subst ea_)); subst ec_; clear en_))
                                                  have GB34 := Aside0.mk gb34
                                                  have GG34 := Aside0.mk HG34
                                                  clear gb34 gl34 HG34
                                                  (first | simp only [add_plain] at hx117_0 | skip)
                                                  obtain ⟨hx34_0, hf34_0⟩ := Kd.R_celln 0 HO_7.out ((ji31) : Int) p34 q34
                                                  replace p34 := eq_true p34
                                                  replace q34 := eq_true q34
                                                  have HP41 := Kd.R_putg HO_7.out ((ji31) : Int) (wrap64 ((rd x7_3 (ji31)) + (rd y112 x34_3)))
                                                  go_wp2_with (first | ((with_reducible refine gate_store (t := 3) (p := 51) rfl ?_); (try (rw [drewN_self wr]; generalize hq_ : World.drewN wr _ = wr; have n0_ := Aside0.mk (Kd.R_at hq_ HO_7.out); have n1_ := Aside0.mk (below_at hq_ HBo.out); clear hq_ HO_7 HB; have HO_7 := n0_; have HBo := n1_; clear n0_ n1_; (try (have HP41 := Kd.R_putg HO_7.out ((ji31) : Int) (wrap64 ((rd x7_3 (ji31)) + (rd y112 x34_3))))))); refine store_event (t := 3) (p := 51) (v := ?vo_w42) (w1 := (wr.setCell ⟨go34, ((ji31) : Int).toNat, none⟩ (.int .i64 (wrap64 ((rd x7_3 (ji31)) + (rd y112 x34_3)))))) ?hg ?ho ?hn ?hr ?_; (case ho => rfl); (case hg => rfl); (case hn => rfl); (case hr => first | (go_simp; done) | (go_simp; rfl)); intro w42 hw; have hg : wr.grownBy w42 (some go34) := (by rw [hw]; exact HP41.2); have hp_ : Kd.R (Kd.int .i64) 3 w42 wO.heap.size (fun _ => True) (.slice (some ⟨go34, 0, none⟩) x7_3.length co40) y118 := (by rw [hw, Ny118.out]; exact HP41.1); clear HP41; have n0_ := Aside0.mk (hp_); have n1_ := Aside0.mk ((by rw [hw]; exact below_set (HBo.out) GB34.out : Below wO.heap.size wO w42)); clear HO_7; clear HBo; have HO_7 := n0_; have HBo := n1_; clear n0_ n1_; clear hg hw hp_; have p119 : 0 ≤ ((ji36) : Int) := of_decide_eq_true (by first | (with_reducible assumption) | assumption); have q119 : (ji36) < (y118.length : Int) := (by have h_ : ((ji36) : Int) < ((x7_3.length : Int) : Int) := of_decide_eq_true (by first | (with_reducible assumption) | assumption); first | (have e_ := (Kd.R_reads' HO_7.out).1; omega) | simpa only [Ny118.out, List.length_set] using h_); have ql119 : (((ji36) : Int) < ((x7_3.length : Int) : Int)) = True := eq_true (of_decide_eq_true (by first | (with_reducible assumption) | assumption)); obtain ⟨ad119, e119, hx119_0⟩ := Kd.at_int (Kd.R_reads' HO_7.out).2.2 (ji36) p119 q119; obtain rfl : (⟨go34, 0, none⟩ : Addr) = ad119 := (by injection e119); (first | simp only [add_plain] at hx119_0 | simp only [add_at] at hx119_0 | simp only [Addr.add, Nat.zero_add] at hx119_0 | skip); replace p119 := eq_true p119; replace q119 := eq_true q119; have p39 : 0 ≤ ((ji36) : Int) := of_decide_eq_true (by first | (with_reducible assumption) | assumption); have q39 : ((ji36) : Int) < ((x7_3.length : Int) : Int) := of_decide_eq_true (by first | (with_reducible assumption) | assumption); obtain ⟨hx39_0, hf39_0⟩ := Kd.R_celln 0 HO_7.out ((ji36) : Int) p39 q39; replace p39 := eq_true p39; replace q39 := eq_true q39; obtain ⟨hy43_, hz43_⟩ := Kd.R_celln 0 HO_7.out ((ji36) : Int) (of_decide_eq_true (by first | (with_reducible assumption) | assumption)) (of_decide_eq_true (by first | (with_reducible assumption) | assumption)); have HP43 := Kd.R_putg HO_7.out ((ji36) : Int) (wrap64 ((rd y118 (ji36)) + (wrap64 (x34_3 * (rd y112 x34_3)))))) | ((with_reducible refine gate_store (t := 3) (p := 63) rfl ?_); (try (rw [drewN_self w42]; generalize hq_ : World.drewN w42 _ = w42; have n0_ := Aside0.mk (Kd.R_at hq_ HO_7.out); have n1_ := Aside0.mk (below_at hq_ HBo.out); clear hq_ HO_7 HB; have HO_7 := n0_; have HBo := n1_; clear n0_ n1_; (try (obtain ⟨hy43_, hz43_⟩ := Kd.R_celln 0 HO_7.out ((ji36) : Int) (of_decide_eq_true (by first | (with_reducible assumption) | assumption)) (of_decide_eq_true (by first | (with_reducible assumption) | assumption)))); (try (have HP43 := Kd.R_putg HO_7.out ((ji36) : Int) (wrap64 ((rd y118 (ji36)) + (wrap64 (x34_3 * (rd y112 x34_3))))))))); refine store_event (t := 3) (p := 63) (v := ?vo_w44) (w1 := (w42.setCell ⟨go34, ((ji36) : Int).toNat, none⟩ (.int .i64 (wrap64 ((rd y118 (ji36)) + (wrap64 (x34_3 * (rd y112 x34_3)))))))) ?hg ?ho ?hn ?hr ?_; (case ho => rfl); (case hg => rfl); (case hn => rfl); (case hr => first | (go_simp; done) | (go_simp; rfl)); intro w44 hw; have hg : w42.grownBy w44 (some go34) := (by rw [hw]; exact HP43.2); have hp_ : Kd.R (Kd.int .i64) 3 w44 wO.heap.size (fun _ => True) (.slice (some ⟨go34, 0, none⟩) x7_3.length co40) y120 := (by rw [hw, Ny120.out]; exact HP43.1); clear HP43; have n0_ := Aside0.mk (hp_); have n1_ := Aside0.mk ((by rw [hw]; exact below_set (HBo.out) GB34.out : Below wO.heap.size wO w44)); clear HO_7; clear HBo; have HO_7 := n0_; have HBo := n1_; clear n0_ n1_; clear hg hw hp_))
                                                  repeat (go_quiet (first | ((with_reducible refine gate_store (t := 3) (p := 51) rfl ?_); (try (rw [drewN_self wr]; generalize hq_ : World.drewN wr _ = wr; have n0_ := Aside0.mk (Kd.R_at hq_ HO_7.out); have n1_ := Aside0.mk (below_at hq_ HBo.out); clear hq_ HO_7 HB; have HO_7 := n0_; have HBo := n1_; clear n0_ n1_; (try (have HP41 := Kd.R_putg HO_7.out ((ji31) : Int) (wrap64 ((rd x7_3 (ji31)) + (rd y112 x34_3))))))); refine store_event (t := 3) (p := 51) (v := ?vo_w42) (w1 := (wr.setCell ⟨go34, ((ji31) : Int).toNat, none⟩ (.int .i64 (wrap64 ((rd x7_3 (ji31)) + (rd y112 x34_3)))))) ?hg ?ho ?hn ?hr ?_; (case ho => rfl); (case hg => rfl); (case hn => rfl); (case hr => first | (go_simp; done) | (go_simp; rfl)); intro w42 hw; have hg : wr.grownBy w42 (some go34) := (by rw [hw]; exact HP41.2); have hp_ : Kd.R (Kd.int .i64) 3 w42 wO.heap.size (fun _ => True) (.slice (some ⟨go34, 0, none⟩) x7_3.length co40) y118 := (by rw [hw, Ny118.out]; exact HP41.1); clear HP41; have n0_ := Aside0.mk (hp_); have n1_ := Aside0.mk ((by rw [hw]; exact below_set (HBo.out) GB34.out : Below wO.heap.size wO w42)); clear HO_7; clear HBo; have HO_7 := n0_; have HBo := n1_; clear n0_ n1_; clear hg hw hp_; have p119 : 0 ≤ ((ji36) : Int) := of_decide_eq_true (by first | (with_reducible assumption) | assumption); have q119 : (ji36) < (y118.length : Int) := (by have h_ : ((ji36) : Int) < ((x7_3.length : Int) : Int) := of_decide_eq_true (by first | (with_reducible assumption) | assumption); first | (have e_ := (Kd.R_reads' HO_7.out).1; omega) | simpa only [Ny118.out, List.length_set] using h_); have ql119 : (((ji36) : Int) < ((x7_3.length : Int) : Int)) = True := eq_true (of_decide_eq_true (by first | (with_reducible assumption) | assumption)); obtain ⟨ad119, e119, hx119_0⟩ := Kd.at_int (Kd.R_reads' HO_7.out).2.2 (ji36) p119 q119; obtain rfl : (⟨go34, 0, none⟩ : Addr) = ad119 := (by injection e119); (first | simp only [add_plain] at hx119_0 | simp only [add_at] at hx119_0 | simp only [Addr.add, Nat.zero_add] at hx119_0 | skip); replace p119 := eq_true p119; replace q119 := eq_true q119; have p39 : 0 ≤ ((ji36) : Int) := of_decide_eq_true (by first | (with_reducible assumption) | assumption); have q39 : ((ji36) : Int) < ((x7_3.length : Int) : Int) := of_decide_eq_true (by first | (with_reducible assumption) | assumption); obtain ⟨hx39_0, hf39_0⟩ := Kd.R_celln 0 HO_7.out ((ji36) : Int) p39 q39; replace p39 := eq_true p39; replace q39 := eq_true q39; obtain ⟨hy43_, hz43_⟩ := Kd.R_celln 0 HO_7.out ((ji36) : Int) (of_decide_eq_true (by first | (with_reducible assumption) | assumption)) (of_decide_eq_true (by first | (with_reducible assumption) | assumption)); have HP43 := Kd.R_putg HO_7.out ((ji36) : Int) (wrap64 ((rd y118 (ji36)) + (wrap64 (x34_3 * (rd y112 x34_3)))))) | ((with_reducible refine gate_store (t := 3) (p := 63) rfl ?_); (try (rw [drewN_self w42]; generalize hq_ : World.drewN w42 _ = w42; have n0_ := Aside0.mk (Kd.R_at hq_ HO_7.out); have n1_ := Aside0.mk (below_at hq_ HBo.out); clear hq_ HO_7 HB; have HO_7 := n0_; have HBo := n1_; clear n0_ n1_; (try (obtain ⟨hy43_, hz43_⟩ := Kd.R_celln 0 HO_7.out ((ji36) : Int) (of_decide_eq_true (by first | (with_reducible assumption) | assumption)) (of_decide_eq_true (by first | (with_reducible assumption) | assumption)))); (try (have HP43 := Kd.R_putg HO_7.out ((ji36) : Int) (wrap64 ((rd y118 (ji36)) + (wrap64 (x34_3 * (rd y112 x34_3))))))))); refine store_event (t := 3) (p := 63) (v := ?vo_w44) (w1 := (w42.setCell ⟨go34, ((ji36) : Int).toNat, none⟩ (.int .i64 (wrap64 ((rd y118 (ji36)) + (wrap64 (x34_3 * (rd y112 x34_3)))))))) ?hg ?ho ?hn ?hr ?_; (case ho => rfl); (case hg => rfl); (case hn => rfl); (case hr => first | (go_simp; done) | (go_simp; rfl)); intro w44 hw; have hg : w42.grownBy w44 (some go34) := (by rw [hw]; exact HP43.2); have hp_ : Kd.R (Kd.int .i64) 3 w44 wO.heap.size (fun _ => True) (.slice (some ⟨go34, 0, none⟩) x7_3.length co40) y120 := (by rw [hw, Ny120.out]; exact HP43.1); clear HP43; have n0_ := Aside0.mk (hp_); have n1_ := Aside0.mk ((by rw [hw]; exact below_set (HBo.out) GB34.out : Below wO.heap.size wO w44)); clear HO_7; clear HBo; have HO_7 := n0_; have HBo := n1_; clear n0_ n1_; clear hg hw hp_)); try go_wp2_with (first | ((with_reducible refine gate_store (t := 3) (p := 51) rfl ?_); (try (rw [drewN_self wr]; generalize hq_ : World.drewN wr _ = wr; have n0_ := Aside0.mk (Kd.R_at hq_ HO_7.out); have n1_ := Aside0.mk (below_at hq_ HBo.out); clear hq_ HO_7 HB; have HO_7 := n0_; have HBo := n1_; clear n0_ n1_; (try (have HP41 := Kd.R_putg HO_7.out ((ji31) : Int) (wrap64 ((rd x7_3 (ji31)) + (rd y112 x34_3))))))); refine store_event (t := 3) (p := 51) (v := ?vo_w42) (w1 := (wr.setCell ⟨go34, ((ji31) : Int).toNat, none⟩ (.int .i64 (wrap64 ((rd x7_3 (ji31)) + (rd y112 x34_3)))))) ?hg ?ho ?hn ?hr ?_; (case ho => rfl); (case hg => rfl); (case hn => rfl); (case hr => first | (go_simp; done) | (go_simp; rfl)); intro w42 hw; have hg : wr.grownBy w42 (some go34) := (by rw [hw]; exact HP41.2); have hp_ : Kd.R (Kd.int .i64) 3 w42 wO.heap.size (fun _ => True) (.slice (some ⟨go34, 0, none⟩) x7_3.length co40) y118 := (by rw [hw, Ny118.out]; exact HP41.1); clear HP41; have n0_ := Aside0.mk (hp_); have n1_ := Aside0.mk ((by rw [hw]; exact below_set (HBo.out) GB34.out : Below wO.heap.size wO w42)); clear HO_7; clear HBo; have HO_7 := n0_; have HBo := n1_; clear n0_ n1_; clear hg hw hp_; have p119 : 0 ≤ ((ji36) : Int) := of_decide_eq_true (by first | (with_reducible assumption) | assumption); have q119 : (ji36) < (y118.length : Int) := (by have h_ : ((ji36) : Int) < ((x7_3.length : Int) : Int) := of_decide_eq_true (by first | (with_reducible assumption) | assumption); first | (have e_ := (Kd.R_reads' HO_7.out).1; omega) | simpa only [Ny118.out, List.length_set] using h_); have ql119 : (((ji36) : Int) < ((x7_3.length : Int) : Int)) = True := eq_true (of_decide_eq_true (by first | (with_reducible assumption) | assumption)); obtain ⟨ad119, e119, hx119_0⟩ := Kd.at_int (Kd.R_reads' HO_7.out).2.2 (ji36) p119 q119; obtain rfl : (⟨go34, 0, none⟩ : Addr) = ad119 := (by injection e119); (first | simp only [add_plain] at hx119_0 | simp only [add_at] at hx119_0 | simp only [Addr.add, Nat.zero_add] at hx119_0 | skip); replace p119 := eq_true p119; replace q119 := eq_true q119; have p39 : 0 ≤ ((ji36) : Int) := of_decide_eq_true (by first | (with_reducible assumption) | assumption); have q39 : ((ji36) : Int) < ((x7_3.length : Int) : Int) := of_decide_eq_true (by first | (with_reducible assumption) | assumption); obtain ⟨hx39_0, hf39_0⟩ := Kd.R_celln 0 HO_7.out ((ji36) : Int) p39 q39; replace p39 := eq_true p39; replace q39 := eq_true q39; obtain ⟨hy43_, hz43_⟩ := Kd.R_celln 0 HO_7.out ((ji36) : Int) (of_decide_eq_true (by first | (with_reducible assumption) | assumption)) (of_decide_eq_true (by first | (with_reducible assumption) | assumption)); have HP43 := Kd.R_putg HO_7.out ((ji36) : Int) (wrap64 ((rd y118 (ji36)) + (wrap64 (x34_3 * (rd y112 x34_3)))))) | ((with_reducible refine gate_store (t := 3) (p := 63) rfl ?_); (try (rw [drewN_self w42]; generalize hq_ : World.drewN w42 _ = w42; have n0_ := Aside0.mk (Kd.R_at hq_ HO_7.out); have n1_ := Aside0.mk (below_at hq_ HBo.out); clear hq_ HO_7 HB; have HO_7 := n0_; have HBo := n1_; clear n0_ n1_; (try (obtain ⟨hy43_, hz43_⟩ := Kd.R_celln 0 HO_7.out ((ji36) : Int) (of_decide_eq_true (by first | (with_reducible assumption) | assumption)) (of_decide_eq_true (by first | (with_reducible assumption) | assumption)))); (try (have HP43 := Kd.R_putg HO_7.out ((ji36) : Int) (wrap64 ((rd y118 (ji36)) + (wrap64 (x34_3 * (rd y112 x34_3))))))))); refine store_event (t := 3) (p := 63) (v := ?vo_w44) (w1 := (w42.setCell ⟨go34, ((ji36) : Int).toNat, none⟩ (.int .i64 (wrap64 ((rd y118 (ji36)) + (wrap64 (x34_3 * (rd y112 x34_3)))))))) ?hg ?ho ?hn ?hr ?_; (case ho => rfl); (case hg => rfl); (case hn => rfl); (case hr => first | (go_simp; done) | (go_simp; rfl)); intro w44 hw; have hg : w42.grownBy w44 (some go34) := (by rw [hw]; exact HP43.2); have hp_ : Kd.R (Kd.int .i64) 3 w44 wO.heap.size (fun _ => True) (.slice (some ⟨go34, 0, none⟩) x7_3.length co40) y120 := (by rw [hw, Ny120.out]; exact HP43.1); clear HP43; have n0_ := Aside0.mk (hp_); have n1_ := Aside0.mk ((by rw [hw]; exact below_set (HBo.out) GB34.out : Below wO.heap.size wO w44)); clear HO_7; clear HBo; have HO_7 := n0_; have HBo := n1_; clear n0_ n1_; clear hg hw hp_)))
                                                  go_roundg k3
                                                  case measure => have := HJ2.out; have := HK2.out; have := HK3.out; omega
                                                  case rel => exact ⟨(y120), (ji31), (by first | rfl | (simp; done) | (simp only [← hji31] <;> (first | rfl | simp)) | (simp [*]; done)), H', ⟨by have := HJ2.out; have := HK2.out; have := HK3.out; omega⟩, ⟨by (with_reducible repeat (first | apply Kd.R_alloc | apply Kd.R_drewN | apply Kd.R_drew)); exact HO_7.out⟩, ⟨by repeat (first | (with_reducible first | exact HBo.out | apply below_alloc | apply pw_below_drewN | apply below_drew1) | exact HBo.out)⟩⟩
                                                · rw [if_neg c38] at H
                                                  exact absurd H (by simp)
                                              · rw [if_neg c37] at H
                                                exact absurd H (by simp)
                                            · rw [if_neg c35] at H
                                              have c35b0 : decide (0 < x34_3) = false := decide_eq_false c35
                                              clear c35
                                              have H' := Aside0.mk H
                                              clear H
                                              have p116 : 0 ≤ (x34_3 : Int) := of_decide_eq_true (by first | (with_reducible assumption) | assumption)
                                              have q116 : x34_3 < (y112.length : Int) := of_decide_eq_true (by first | (with_reducible assumption) | assumption)
                                              obtain ⟨ad116, e116, hx116_0⟩ := Kd.at_int HR115.out x34_3 p116 q116
                                              cases e116
                                              replace hx116_0 := (HBo.out.cell (World.block_lt_of_cell? wO _ hx116_0)).trans hx116_0
                                              replace p116 := eq_true p116
                                              replace q116 := eq_true q116
                                              obtain ⟨Ao45, co45, eo45⟩ := Kd.R_slice HO_7.out
                                              subst eo45
                                              have p117 : 0 ≤ ((ji31) : Int) := of_decide_eq_true (by first | (with_reducible assumption) | assumption)
                                              have q117 : (ji31) < (x7_3.length : Int) := of_decide_eq_true (by first | (with_reducible assumption) | assumption)
                                              obtain ⟨ad117, e117, hx117_0⟩ := Kd.at_int (Kd.R_reads' HO_7.out).2.2 (ji31) p117 q117
                                              cases e117
                                              replace p117 := eq_true p117
                                              replace q117 := eq_true q117
                                              have p34 : 0 ≤ ((ji31) : Int) := of_decide_eq_true (by first | (with_reducible assumption) | assumption)
                                              have q34 : ((ji31) : Int) < ((x7_3.length : Int) : Int) := of_decide_eq_true (by first | (with_reducible assumption) | assumption)
                                              obtain ⟨go34, co34, eo34, gb34, gl34, cl34, HG34⟩ := Kd.R_form HO_7.out (by omega)
                                              (first | cases eo34 | (injection eo34 with ea_ en_ ec_; (first | subst ea_ | (injection ea_ with ea_; subst ea_)); subst ec_; clear en_))
                                              have GB34 := Aside0.mk gb34
                                              have GG34 := Aside0.mk HG34
                                              clear gb34 gl34 HG34
                                              (first | simp only [add_plain] at hx117_0 | skip)
                                              obtain ⟨hx34_0, hf34_0⟩ := Kd.R_celln 0 HO_7.out ((ji31) : Int) p34 q34
                                              replace p34 := eq_true p34
                                              replace q34 := eq_true q34
                                              have HP46 := Kd.R_putg HO_7.out ((ji31) : Int) (wrap64 ((rd x7_3 (ji31)) + (rd y112 x34_3)))
                                              go_wp2_with (first | ((with_reducible refine gate_store (t := 3) (p := 51) rfl ?_); (try (rw [drewN_self wr]; generalize hq_ : World.drewN wr _ = wr; have n0_ := Aside0.mk (Kd.R_at hq_ HO_7.out); have n1_ := Aside0.mk (below_at hq_ HBo.out); clear hq_ HO_7 HB; have HO_7 := n0_; have HBo := n1_; clear n0_ n1_; (try (have HP46 := Kd.R_putg HO_7.out ((ji31) : Int) (wrap64 ((rd x7_3 (ji31)) + (rd y112 x34_3))))))); refine store_event (t := 3) (p := 51) (v := ?vo_w47) (w1 := (wr.setCell ⟨go34, ((ji31) : Int).toNat, none⟩ (.int .i64 (wrap64 ((rd x7_3 (ji31)) + (rd y112 x34_3)))))) ?hg ?ho ?hn ?hr ?_; (case ho => rfl); (case hg => rfl); (case hn => rfl); (case hr => first | (go_simp; done) | (go_simp; rfl)); intro w47 hw; have hg : wr.grownBy w47 (some go34) := (by rw [hw]; exact HP46.2); have hp_ : Kd.R (Kd.int .i64) 3 w47 wO.heap.size (fun _ => True) (.slice (some ⟨go34, 0, none⟩) x7_3.length co45) y118 := (by rw [hw, Ny118.out]; exact HP46.1); clear HP46; have n0_ := Aside0.mk (hp_); have n1_ := Aside0.mk ((by rw [hw]; exact below_set (HBo.out) GB34.out : Below wO.heap.size wO w47)); clear HO_7; clear HBo; have HO_7 := n0_; have HBo := n1_; clear n0_ n1_; clear hg hw hp_))
                                              repeat (go_quiet (first | ((with_reducible refine gate_store (t := 3) (p := 51) rfl ?_); (try (rw [drewN_self wr]; generalize hq_ : World.drewN wr _ = wr; have n0_ := Aside0.mk (Kd.R_at hq_ HO_7.out); have n1_ := Aside0.mk (below_at hq_ HBo.out); clear hq_ HO_7 HB; have HO_7 := n0_; have HBo := n1_; clear n0_ n1_; (try (have HP46 := Kd.R_putg HO_7.out ((ji31) : Int) (wrap64 ((rd x7_3 (ji31)) + (rd y112 x34_3))))))); refine store_event (t := 3) (p := 51) (v := ?vo_w47) (w1 := (wr.setCell ⟨go34, ((ji31) : Int).toNat, none⟩ (.int .i64 (wrap64 ((rd x7_3 (ji31)) + (rd y112 x34_3)))))) ?hg ?ho ?hn ?hr ?_; (case ho => rfl); (case hg => rfl); (case hn => rfl); (case hr => first | (go_simp; done) | (go_simp; rfl)); intro w47 hw; have hg : wr.grownBy w47 (some go34) := (by rw [hw]; exact HP46.2); have hp_ : Kd.R (Kd.int .i64) 3 w47 wO.heap.size (fun _ => True) (.slice (some ⟨go34, 0, none⟩) x7_3.length co45) y118 := (by rw [hw, Ny118.out]; exact HP46.1); clear HP46; have n0_ := Aside0.mk (hp_); have n1_ := Aside0.mk ((by rw [hw]; exact below_set (HBo.out) GB34.out : Below wO.heap.size wO w47)); clear HO_7; clear HBo; have HO_7 := n0_; have HBo := n1_; clear n0_ n1_; clear hg hw hp_)); try go_wp2_with (first | ((with_reducible refine gate_store (t := 3) (p := 51) rfl ?_); (try (rw [drewN_self wr]; generalize hq_ : World.drewN wr _ = wr; have n0_ := Aside0.mk (Kd.R_at hq_ HO_7.out); have n1_ := Aside0.mk (below_at hq_ HBo.out); clear hq_ HO_7 HB; have HO_7 := n0_; have HBo := n1_; clear n0_ n1_; (try (have HP46 := Kd.R_putg HO_7.out ((ji31) : Int) (wrap64 ((rd x7_3 (ji31)) + (rd y112 x34_3))))))); refine store_event (t := 3) (p := 51) (v := ?vo_w47) (w1 := (wr.setCell ⟨go34, ((ji31) : Int).toNat, none⟩ (.int .i64 (wrap64 ((rd x7_3 (ji31)) + (rd y112 x34_3)))))) ?hg ?ho ?hn ?hr ?_; (case ho => rfl); (case hg => rfl); (case hn => rfl); (case hr => first | (go_simp; done) | (go_simp; rfl)); intro w47 hw; have hg : wr.grownBy w47 (some go34) := (by rw [hw]; exact HP46.2); have hp_ : Kd.R (Kd.int .i64) 3 w47 wO.heap.size (fun _ => True) (.slice (some ⟨go34, 0, none⟩) x7_3.length co45) y118 := (by rw [hw, Ny118.out]; exact HP46.1); clear HP46; have n0_ := Aside0.mk (hp_); have n1_ := Aside0.mk ((by rw [hw]; exact below_set (HBo.out) GB34.out : Below wO.heap.size wO w47)); clear HO_7; clear HBo; have HO_7 := n0_; have HBo := n1_; clear n0_ n1_; clear hg hw hp_)))
                                              go_roundg k3
                                              case measure => have := HJ2.out; have := HK2.out; have := HK3.out; omega
                                              case rel => exact ⟨(y118), (ji31), (by first | rfl | (simp; done) | (simp only [← hji31] <;> (first | rfl | simp)) | (simp [*]; done)), H', ⟨by have := HJ2.out; have := HK2.out; have := HK3.out; omega⟩, ⟨by (with_reducible repeat (first | apply Kd.R_alloc | apply Kd.R_drewN | apply Kd.R_drew)); exact HO_7.out⟩, ⟨by repeat (first | (with_reducible first | exact HBo.out | apply below_alloc | apply pw_below_drewN | apply below_drew1) | exact HBo.out)⟩⟩
                                          · rw [if_neg c33] at H
                                            exact absurd H (by simp)
                                        · rw [if_neg c32] at H
                                          exact absurd H (by simp)
                                      · rw [if_neg c30] at H
                                        have c30b0 : decide (x34_3 < (ji29)) = false := decide_eq_false c30
                                        clear c30
                                        by_cases c48 : x34_3 > 0
                                        · rw [if_pos c48] at H
                                          have c48b0 : decide (0 < x34_3) = true := decide_eq_true c48
                                          clear c48
                                          obtain ⟨ji49, hji49⟩ : ∃ j_ : Int, (wrap64 (x34_3 - 1)) = j_ := ⟨_, rfl⟩
                                          replace H : (if 0 ≤ (ji49) then (if (ji49) < (x7_3.length : Int) then (impl_CountPilesWithin.l1 k3 a0 a1 (x7_3.set ((ji49) : Int).toNat (wrap64 ((rd x7_3 (ji49)) + (wrap64 (x34_3 * (rd y112 x34_3)))))) (wrap64 (2 * a0)) x24_2 y112 (y112.length : Int) (wrap64 (x34_3 + 1))) else (none)) else (none)) = some (r1, r2) := by first | (rw [hji49] at H; exact H) | (simp only [hji49] at H ⊢; exact H)
                                          have hji49w : (IntKind.i64.wrap (x34_3 - 1)) = ji49 := (i64_w _).trans hji49
                                          by_cases c50 : 0 ≤ (ji49)
                                          · rw [if_pos c50] at H
                                            have c50b0 : decide (0 ≤ (ji49)) = true := decide_eq_true c50
                                            clear c50
                                            by_cases c51 : (ji49) < (x7_3.length : Int)
                                            · rw [if_pos c51] at H
                                              have c51b0 : decide ((ji49) < (x7_3.length : Int)) = true := decide_eq_true c51
                                              clear c51
                                              obtain ⟨y122, hy122⟩ : ∃ y_ : List Int, y_ = (x7_3.set ((ji49) : Int).toNat (wrap64 ((rd x7_3 (ji49)) + (wrap64 (x34_3 * (rd y112 x34_3)))))) := ⟨_, rfl⟩
                                              replace H : (impl_CountPilesWithin.l1 k3 a0 a1 y122 (wrap64 (2 * a0)) x24_2 y112 (y112.length : Int) (wrap64 (x34_3 + 1))) = some (r1, r2) := by first | (rw [hy122]; with_reducible exact H) | (have H2_ := (Option.bind_some _ _).symm.trans H; rw [hy122]; with_reducible exact H2_) | (have H2_ := (Option.bind_some _ _).symm.trans H; with_reducible exact H2_) | with_reducible exact H | (rw [hy122]; exact H) | exact H
                                              have Ny122 := Aside0.mk hy122
                                              clear hy122
                                              have H' := Aside0.mk H
                                              clear H
                                              have p116 : 0 ≤ (x34_3 : Int) := of_decide_eq_true (by first | (with_reducible assumption) | assumption)
                                              have q116 : x34_3 < (y112.length : Int) := of_decide_eq_true (by first | (with_reducible assumption) | assumption)
                                              obtain ⟨ad116, e116, hx116_0⟩ := Kd.at_int HR115.out x34_3 p116 q116
                                              cases e116
                                              replace hx116_0 := (HBo.out.cell (World.block_lt_of_cell? wO _ hx116_0)).trans hx116_0
                                              replace p116 := eq_true p116
                                              replace q116 := eq_true q116
                                              obtain ⟨Ao53, co53, eo53⟩ := Kd.R_slice HO_7.out
                                              subst eo53
                                              have p121 : 0 ≤ ((ji49) : Int) := of_decide_eq_true (by first | (with_reducible assumption) | assumption)
                                              have q121 : (ji49) < (x7_3.length : Int) := of_decide_eq_true (by first | (with_reducible assumption) | assumption)
                                              obtain ⟨ad121, e121, hx121_0⟩ := Kd.at_int (Kd.R_reads' HO_7.out).2.2 (ji49) p121 q121
                                              cases e121
                                              replace p121 := eq_true p121
                                              replace q121 := eq_true q121
                                              have p52 : 0 ≤ ((ji49) : Int) := of_decide_eq_true (by first | (with_reducible assumption) | assumption)
                                              have q52 : ((ji49) : Int) < ((x7_3.length : Int) : Int) := of_decide_eq_true (by first | (with_reducible assumption) | assumption)
                                              obtain ⟨go52, co52, eo52, gb52, gl52, cl52, HG52⟩ := Kd.R_form HO_7.out (by omega)
                                              (first | cases eo52 | (injection eo52 with ea_ en_ ec_; (first | subst ea_ | (injection ea_ with ea_; subst ea_)); subst ec_; clear en_))
                                              have GB52 := Aside0.mk gb52
                                              have GG52 := Aside0.mk HG52
                                              clear gb52 gl52 HG52
                                              (first | simp only [add_plain] at hx121_0 | skip)
                                              obtain ⟨hx52_0, hf52_0⟩ := Kd.R_celln 0 HO_7.out ((ji49) : Int) p52 q52
                                              replace p52 := eq_true p52
                                              replace q52 := eq_true q52
                                              have HP54 := Kd.R_putg HO_7.out ((ji49) : Int) (wrap64 ((rd x7_3 (ji49)) + (wrap64 (x34_3 * (rd y112 x34_3)))))
                                              go_wp2_with (first | ((with_reducible refine gate_store (t := 3) (p := 63) rfl ?_); (try (rw [drewN_self wr]; generalize hq_ : World.drewN wr _ = wr; have n0_ := Aside0.mk (Kd.R_at hq_ HO_7.out); have n1_ := Aside0.mk (below_at hq_ HBo.out); clear hq_ HO_7 HB; have HO_7 := n0_; have HBo := n1_; clear n0_ n1_; (try (have HP54 := Kd.R_putg HO_7.out ((ji49) : Int) (wrap64 ((rd x7_3 (ji49)) + (wrap64 (x34_3 * (rd y112 x34_3))))))))); refine store_event (t := 3) (p := 63) (v := ?vo_w55) (w1 := (wr.setCell ⟨go52, ((ji49) : Int).toNat, none⟩ (.int .i64 (wrap64 ((rd x7_3 (ji49)) + (wrap64 (x34_3 * (rd y112 x34_3)))))))) ?hg ?ho ?hn ?hr ?_; (case ho => rfl); (case hg => rfl); (case hn => rfl); (case hr => first | (go_simp; done) | (go_simp; rfl)); intro w55 hw; have hg : wr.grownBy w55 (some go52) := (by rw [hw]; exact HP54.2); have hp_ : Kd.R (Kd.int .i64) 3 w55 wO.heap.size (fun _ => True) (.slice (some ⟨go52, 0, none⟩) x7_3.length co53) y122 := (by rw [hw, Ny122.out]; exact HP54.1); clear HP54; have n0_ := Aside0.mk (hp_); have n1_ := Aside0.mk ((by rw [hw]; exact below_set (HBo.out) GB52.out : Below wO.heap.size wO w55)); clear HO_7; clear HBo; have HO_7 := n0_; have HBo := n1_; clear n0_ n1_; clear hg hw hp_))
                                              repeat (go_quiet (first | ((with_reducible refine gate_store (t := 3) (p := 63) rfl ?_); (try (rw [drewN_self wr]; generalize hq_ : World.drewN wr _ = wr; have n0_ := Aside0.mk (Kd.R_at hq_ HO_7.out); have n1_ := Aside0.mk (below_at hq_ HBo.out); clear hq_ HO_7 HB; have HO_7 := n0_; have HBo := n1_; clear n0_ n1_; (try (have HP54 := Kd.R_putg HO_7.out ((ji49) : Int) (wrap64 ((rd x7_3 (ji49)) + (wrap64 (x34_3 * (rd y112 x34_3))))))))); refine store_event (t := 3) (p := 63) (v := ?vo_w55) (w1 := (wr.setCell ⟨go52, ((ji49) : Int).toNat, none⟩ (.int .i64 (wrap64 ((rd x7_3 (ji49)) + (wrap64 (x34_3 * (rd y112 x34_3)))))))) ?hg ?ho ?hn ?hr ?_; (case ho => rfl); (case hg => rfl); (case hn => rfl); (case hr => first | (go_simp; done) | (go_simp; rfl)); intro w55 hw; have hg : wr.grownBy w55 (some go52) := (by rw [hw]; exact HP54.2); have hp_ : Kd.R (Kd.int .i64) 3 w55 wO.heap.size (fun _ => True) (.slice (some ⟨go52, 0, none⟩) x7_3.length co53) y122 := (by rw [hw, Ny122.out]; exact HP54.1); clear HP54; have n0_ := Aside0.mk (hp_); have n1_ := Aside0.mk ((by rw [hw]; exact below_set (HBo.out) GB52.out : Below wO.heap.size wO w55)); clear HO_7; clear HBo; have HO_7 := n0_; have HBo := n1_; clear n0_ n1_; clear hg hw hp_)); try go_wp2_with (first | ((with_reducible refine gate_store (t := 3) (p := 63) rfl ?_); (try (rw [drewN_self wr]; generalize hq_ : World.drewN wr _ = wr; have n0_ := Aside0.mk (Kd.R_at hq_ HO_7.out); have n1_ := Aside0.mk (below_at hq_ HBo.out); clear hq_ HO_7 HB; have HO_7 := n0_; have HBo := n1_; clear n0_ n1_; (try (have HP54 := Kd.R_putg HO_7.out ((ji49) : Int) (wrap64 ((rd x7_3 (ji49)) + (wrap64 (x34_3 * (rd y112 x34_3))))))))); refine store_event (t := 3) (p := 63) (v := ?vo_w55) (w1 := (wr.setCell ⟨go52, ((ji49) : Int).toNat, none⟩ (.int .i64 (wrap64 ((rd x7_3 (ji49)) + (wrap64 (x34_3 * (rd y112 x34_3)))))))) ?hg ?ho ?hn ?hr ?_; (case ho => rfl); (case hg => rfl); (case hn => rfl); (case hr => first | (go_simp; done) | (go_simp; rfl)); intro w55 hw; have hg : wr.grownBy w55 (some go52) := (by rw [hw]; exact HP54.2); have hp_ : Kd.R (Kd.int .i64) 3 w55 wO.heap.size (fun _ => True) (.slice (some ⟨go52, 0, none⟩) x7_3.length co53) y122 := (by rw [hw, Ny122.out]; exact HP54.1); clear HP54; have n0_ := Aside0.mk (hp_); have n1_ := Aside0.mk ((by rw [hw]; exact below_set (HBo.out) GB52.out : Below wO.heap.size wO w55)); clear HO_7; clear HBo; have HO_7 := n0_; have HBo := n1_; clear n0_ n1_; clear hg hw hp_)))
                                              go_roundg k3
                                              case measure => have := HJ2.out; have := HK2.out; have := HK3.out; omega
                                              case rel => exact ⟨(y122), (wrap64 (x34_3 + 1)), (by first | rfl | (simp; done) | (simp [*]; done)), H', ⟨by have := HJ2.out; have := HK2.out; have := HK3.out; omega⟩, ⟨by (with_reducible repeat (first | apply Kd.R_alloc | apply Kd.R_drewN | apply Kd.R_drew)); exact HO_7.out⟩, ⟨by repeat (first | (with_reducible first | exact HBo.out | apply below_alloc | apply pw_below_drewN | apply below_drew1) | exact HBo.out)⟩⟩
                                            · rw [if_neg c51] at H
                                              exact absurd H (by simp)
                                          · rw [if_neg c50] at H
                                            exact absurd H (by simp)
                                        · rw [if_neg c48] at H
                                          have c48b0 : decide (0 < x34_3) = false := decide_eq_false c48
                                          clear c48
                                          have H' := Aside0.mk H
                                          clear H
                                          have p116 : 0 ≤ (x34_3 : Int) := of_decide_eq_true (by first | (with_reducible assumption) | assumption)
                                          have q116 : x34_3 < (y112.length : Int) := of_decide_eq_true (by first | (with_reducible assumption) | assumption)
                                          obtain ⟨ad116, e116, hx116_0⟩ := Kd.at_int HR115.out x34_3 p116 q116
                                          cases e116
                                          replace hx116_0 := (HBo.out.cell (World.block_lt_of_cell? wO _ hx116_0)).trans hx116_0
                                          replace p116 := eq_true p116
                                          replace q116 := eq_true q116
                                          go_wp2
                                          repeat (go_quiet (fail); try go_wp2)
                                          go_roundg k3
                                          case measure => have := HJ2.out; have := HK2.out; have := HK3.out; omega
                                          case rel => exact ⟨(x7_3), (wrap64 (x34_3 + 1)), (by first | rfl | (simp; done) | (simp [*]; done)), H', ⟨by have := HJ2.out; have := HK2.out; have := HK3.out; omega⟩, ⟨by (with_reducible repeat (first | apply Kd.R_alloc | apply Kd.R_drewN | apply Kd.R_drew)); exact HO_7.out⟩, ⟨by repeat (first | (with_reducible first | exact HBo.out | apply below_alloc | apply pw_below_drewN | apply below_drew1) | exact HBo.out)⟩⟩
                                    · rw [if_neg c28] at H
                                      exact absurd H (by simp)
                                  · rw [if_neg c27] at H
                                    exact absurd H (by simp)
                                · rw [if_neg c26] at H
                                  have c26b0 : decide (x34_3 < (y112.length : Int)) = false := decide_eq_false c26
                                  clear c26
                                  have H' := Aside0.mk H
                                  clear H
                                  go_wp2
                                  repeat (go_quiet (fail); try go_wp2)
                                  go_roundg k3
                                  case measure => have := HJ2.out; have := HK2.out; have := HK3.out; omega
                                  case rel => exact ⟨(x7_3), (wrap64 (x24_2 + 1)), (by first | rfl | (simp; done) | (simp [*]; done)), H', ⟨by have := HJ2.out; have := HK2.out; have := HK3.out; omega⟩, ⟨Kd.R_lower HO_7.out (below_size HB.out)⟩, ⟨below_step HB.out HBo.out⟩⟩
                          · rw [if_neg c21] at H
                            exact absurd H (by simp)
                        · rw [if_neg c20] at H
                          exact absurd H (by simp)
                      · rw [if_neg c18] at H
                        exact absurd H (by simp)
                    · rw [if_neg c17] at H
                      exact absurd H (by simp)
                  · rw [if_neg c16] at H
                    have c16b0 : decide (x24_2 < (wrap64 (2 * a0))) = false := decide_eq_false c16
                    clear c16
                    by_cases c56 : 0 < (x6_2.length : Int)
                    · rw [if_pos c56] at H
                      have c56b0 : decide (0 < (x6_2.length : Int)) = true := decide_eq_true c56
                      have c56b1 : decide (0 < x6_2.length) = true := decide_eq_true (by omega)
                      clear c56
                      replace H := Option.bind_eq_some_iff.mp H
                      obtain ⟨t108, A570, H⟩ := H
                      replace H : (some (wrap64 ((rd x6_2 0) * t108), true)) = some (r1, r2) := H
                      have A57 := Aside0.mk A570
                      clear A570
                      simp only [Option.some.injEq, Prod.mk.injEq] at H
                      obtain ⟨rfl, rfl⟩ := H
                      obtain ⟨Ao58, co58, eo58⟩ := Kd.R_slice HO_6.out
                      subst eo58
                      have p107 : 0 ≤ (0 : Int) := (by omega)
                      have q107 : 0 < (x6_2.length : Int) := of_decide_eq_true (by first | (with_reducible assumption) | assumption)
                      obtain ⟨ad107, e107, hx107_0⟩ := Kd.at_int (Kd.R_reads' HO_6.out).2.2 0 p107 q107
                      cases e107
                      have qi107 : (0 < x6_2.length) = True := eq_true (by omega)
                      (try rw [show ((0 : Int)).toNat = 0 from rfl] at hx107_0)
                      (try rw [Addr.add_zero'] at hx107_0)
                      replace p107 := eq_true p107
                      replace q107 := eq_true q107
                      go_wp2_with (first | (go_at_call 48; (with_reducible refine (impl_factorial.calls k2 a0 t108 _ A57.out).mono ?_); rintro e w' ⟨rfl, ⟨nd, rfl⟩⟩; (try first | exact ⟨rfl, _, World.drewN_drewN _ _ _⟩ | exact ⟨rfl, _, Eq.trans (World.drewN_drewN _ _ _) (congrArg (World.drewN _) (Nat.add_assoc _ _ _))⟩)))
                      repeat (go_quiet (first | (go_at_call 48; (with_reducible refine (impl_factorial.calls k2 a0 t108 _ A57.out).mono ?_); rintro e w' ⟨rfl, ⟨nd, rfl⟩⟩; (try first | exact ⟨rfl, _, World.drewN_drewN _ _ _⟩ | exact ⟨rfl, _, Eq.trans (World.drewN_drewN _ _ _) (congrArg (World.drewN _) (Nat.add_assoc _ _ _))⟩))); try go_wp2_with (first | (go_at_call 48; (with_reducible refine (impl_factorial.calls k2 a0 t108 _ A57.out).mono ?_); rintro e w' ⟨rfl, ⟨nd, rfl⟩⟩; (try first | exact ⟨rfl, _, World.drewN_drewN _ _ _⟩ | exact ⟨rfl, _, Eq.trans (World.drewN_drewN _ _ _) (congrArg (World.drewN _) (Nat.add_assoc _ _ _))⟩))))
                      go_ret2
                      exact ⟨by first | rfl | (simp [errW_none, errW_some] <;> rfl) | (simp only [← hji7]; first | rfl | (simp [errW_none, errW_some] <;> rfl)) | (simp [*, errW_none, errW_some] <;> rfl), by repeat (first | (with_reducible first | exact HB.out | apply below_alloc | apply pw_below_drewN | apply below_drew1) | exact HB.out)⟩
                    · rw [if_neg c56] at H
                      exact absurd H (by simp)
            · rw [if_neg c10] at H
              exact absurd H (by simp)
          · rw [if_neg c9] at H
            exact absurd H (by simp)
        · rw [if_neg c8] at H
          exact absurd H (by simp)

end Go.Proofs.Ytecnmnijcplijaa.QCountPW
