/- The walk of the law FnExactFirstExchanges by hand: what the called functions answer is put together; the law returns true wherever those answers agree. -/
import Derived.Test.YtagfnpocloaojaaQExchx
import Derived.Test.YtagfnpocloaojaaQMarkx
import Derived.Test.YtagfnpocloaojaaXMarkSS
namespace Go.Proofs.Ytagfnpocloaojaa.QFirstExchanges
open Go.RowKit Go.Proofs.YtagfnpocloaojaaW.PrintWords Go.Proofs.YtagfnpocloaojaaW.PrintLast Go.Proofs.YtagfnpocloaojaaW.PrintMore
open Go.Proofs.Ytagfnpocloaojaa.QBase Go.Proofs.Ytagfnpocloaojaa.XWithin Go.Proofs.Ytagfnpocloaojaa.QSizes Go.Proofs.Ytagfnpocloaojaa.QExch Go.Proofs.Ytagfnpocloaojaa.QMark Go.Proofs.Ytagfnpocloaojaa.XMarkSS
set_option linter.unusedVariables false
set_option linter.unusedSimpArgs false

/-- What the called functions answer at an argument. -/
def Answers (l0 : List Int) : Prop := ∃ (k : Nat) (r : List (List Int)) (ok : Bool) (n1 : Int) (o1 : List Int) (m : Int) (r2 : List (List Int)),
  laws_toIntS.f k l0 = some l0 ∧ spec_FirstExchanges.f k l0 = some (r, ok) ∧ impl_FirstExchanges.f k l0 = some (r, ok) ∧ laws_eqIntSS.f k r r = some true ∧ laws_eqIntS.f k l0 l0 = some true ∧
  laws_markIntS.f k l0 1 = some (n1, o1) ∧ ¬ n1 < 0 ∧ laws_markIntSS.f k r 1 = some (m, r2) ∧ laws_heldIntSS.f k r2 1 = some m ∧ ¬ m < 0
/-- The one pure statement. -/
def laws_FnExactFirstExchanges.Pure : Prop := ∀ (l0 : List Int), l0.length ≤ 1048576 → (∀ x ∈ l0, (Lit.int .i64 x).wf = true) → Answers l0

abbrev dI : Kd Int := Kd.int .i64
abbrev dR : Kd (List Int) := Kd.slice 3 (Kd.int .i64)

theorem heldSS (k n : Nat) (A0 : Option Addr) (c0 : Nat) (l0 : List (List Int)) (a1 r : Int) (w : World) (hn : n = l0.length) (hr0 : Kd.C (Kd.slice 3 (Kd.int .i64)) w A0 l0.length l0) (hc0 : n ≤ c0) (h : laws_heldIntSS.f k l0 a1 = some r) :
    Calls Try.prog 30 #[.slice A0 n c0, .int .i64 a1] w fun e w' => e = .returned (.int .i64 r) ∧ Drawn0 w w' := by
  subst hn
  exact laws_heldIntSS.calls k A0 c0 l0 a1 r w hr0 hc0 h
set_option maxHeartbeats 8000000 in
set_option maxRecDepth 100000 in
theorem laws_FnExactFirstExchanges.calls (A0 : Option Addr) (c0 : Nat) (l0 : List Int) (w : World) (hr0 : Kd.C (Kd.int .i64) w A0 l0.length l0) (hc0 : l0.length ≤ c0) (h : l0.length ≤ 1048576 → Answers l0) :
    Calls Try.prog 7 #[.slice A0 l0.length c0] w fun e w' => e = .returned (.bool true) ∧ Below w.heap.size w w' := by
  have HR0 := Aside0.mk hr0
  have HC0 := Aside0.mk hc0
  have HB0 := Aside0.mk (Below.refl w.heap.size w)
  clear hr0 hc0
  by_cases c2 : (l0.length : Int) > 1048576
  · have c2b0 : decide (1048576 < (l0.length : Int)) = true := decide_eq_true c2
    have c2b1 : decide (1048576 < l0.length) = true := decide_eq_true (by omega)
    clear c2
    go_enter Try.func7, Try.ntmps7
    go_wp2
    go_ret
    exact ⟨by first | rfl | (simp; done) | (simp [*]; done), by repeat (first | (with_reducible first | exact HB0.out | apply below_alloc | apply pw_below_drewN | apply below_drew1) | exact HB0.out)⟩
  · have c2b0 : decide (1048576 < (l0.length : Int)) = false := decide_eq_false c2
    have c2b1 : decide (1048576 < l0.length) = false := decide_eq_false (by omega)
    obtain ⟨k, r, ok, n1, o1, m, r2, f1, f2, f3, f4, f5, f6, f7, f8, f9, f10⟩ := h (by omega)
    have F1 := Aside0.mk f1
    have F2 := Aside0.mk f2
    have F3 := Aside0.mk f3
    have F4 := Aside0.mk f4
    have F5 := Aside0.mk f5
    have F6 := Aside0.mk f6
    have F8 := Aside0.mk f8
    have F9 := Aside0.mk f9
    have c7b0 : decide (n1 < 0) = false := decide_eq_false f7
    have c10b0 : decide (m < 0) = false := decide_eq_false f10
    clear f1 f2 f3 f4 f5 f6 f7 f8 f9 f10 c2 h
    go_enter Try.func7, Try.ntmps7
    go_wp2_with (first | (go_at_call 16; (with_reducible refine (laws_toIntS.calls k _ _ l0 l0 _ ?s1 ?s2 F1.out).mono ?_); (case s1 => repeat (first | exact HR0.out | (with_reducible refine Kd.C_alloc ?_ _) | (with_reducible refine Kd.C_drewN ?_ _) | (with_reducible refine Kd.C_drew ?_))); (case s2 => exact HC0.out); rintro e w1 ⟨v1, rfl, ho, hb⟩))
    have HB1 := Aside0.mk (below_step (by repeat (first | (with_reducible first | exact HB0.out | apply below_alloc | apply pw_below_drewN | apply below_drew1) | exact HB0.out)) hb)
    obtain ⟨A1, k1, rfl⟩ := Kd.R_slice ho
    have X1 := Aside0.mk ho
    clear ho hb
    go_wp2_with (first | (go_at_call 25; (with_reducible refine (spec_FirstExchanges.calls k _ _ l0 r ok _ ?s1 ?s2 F2.out).mono ?_); (case s1 => repeat (first | exact (Kd.R_reads' X1.out).2.2 | (with_reducible refine Kd.C_alloc ?_ _) | (with_reducible refine Kd.C_drewN ?_ _) | (with_reducible refine Kd.C_drew ?_))); (case s2 => exact (Kd.R_reads' X1.out).2.1); rintro e w2 ⟨v2, rfl, ho, hb⟩))
    have HB2 := Aside0.mk (below_step (by repeat (first | (with_reducible first | exact HB1.out | apply below_alloc | apply pw_below_drewN | apply below_drew1) | exact HB1.out)) hb)
    have X1x := Aside0.mk (Kd.R_below (by (with_reducible repeat (first | apply Kd.R_alloc | apply Kd.R_drewN | apply Kd.R_drew)); exact X1.out) hb)
    clear X1; have X1 := X1x; clear X1x
    obtain ⟨A2, k2, rfl⟩ := Kd.S_slice ho
    have X2 := Aside0.mk ho
    clear ho hb
    have X2x := Aside0.mk (Kd.S_mono (ok' := fun k => k < w2.heap.size) (Kd.S_bound X2.out) (fun _ hk => hk.2.2.1))
    clear X2; have X2 := X2x; clear X2x
    clear X1
    have Z2 := Aside0.mk (Nat.le_refl w2.heap.size)
    go_wp2_with (first | (go_at_call 16; (with_reducible refine (laws_toIntS.calls k _ _ l0 l0 _ ?s1 ?s2 F1.out).mono ?_); (case s1 => repeat (first | exact (Kd.C_below HR0.out HB2.out) | (with_reducible refine Kd.C_alloc ?_ _) | (with_reducible refine Kd.C_drewN ?_ _) | (with_reducible refine Kd.C_drew ?_))); (case s2 => exact HC0.out); rintro e w3 ⟨v3, rfl, ho, hb⟩))
    have HB3 := Aside0.mk (below_step (by repeat (first | (with_reducible first | exact HB2.out | apply below_alloc | apply pw_below_drewN | apply below_drew1) | exact HB2.out)) hb)
    have X2x := Aside0.mk (Kd.S_below (by (with_reducible repeat (first | apply Kd.S_alloc | apply Kd.S_drewN | apply Kd.S_drew)); exact X2.out) hb)
    clear X2; have X2 := X2x; clear X2x
    obtain ⟨A3, k3, rfl⟩ := Kd.R_slice ho
    have X3 := Aside0.mk ho
    have Z5 := Aside0.mk (show w2.heap.size ≤ w3.heap.size from below_size hb)
    clear ho hb
    have Z3 := Aside0.mk (show ∀ b, (Value.slice A3 l0.length k3).ownBlock = some b → w2.heap.size ≤ b from fun b hb => by have := Kd.R_base X3.out b hb; (try simp only [pw_drewN_size] at this); exact this)
    have Z4 := Aside0.mk (Kd.R_lt X3.out)
    go_wp2_with (first | (go_at_call 26; (with_reducible refine (impl_FirstExchanges.calls k _ _ l0 r ok _ ?s1 ?s2 F3.out).mono ?_); (case s1 => repeat (first | exact (Kd.R_reads' X3.out).2.2 | (with_reducible refine Kd.C_alloc ?_ _) | (with_reducible refine Kd.C_drewN ?_ _) | (with_reducible refine Kd.C_drew ?_))); (case s2 => exact (Kd.R_reads' X3.out).2.1); rintro e w4 ⟨v4, rfl, ho, hb⟩))
    have HB4 := Aside0.mk (below_step (by repeat (first | (with_reducible first | exact HB3.out | apply below_alloc | apply pw_below_drewN | apply below_drew1) | exact HB3.out)) hb)
    have X2x := Aside0.mk (Kd.S_below (by (with_reducible repeat (first | apply Kd.S_alloc | apply Kd.S_drewN | apply Kd.S_drew)); exact X2.out) hb)
    clear X2; have X2 := X2x; clear X2x
    have X3x := Aside0.mk (Kd.R_below (by (with_reducible repeat (first | apply Kd.R_alloc | apply Kd.R_drewN | apply Kd.R_drew)); exact X3.out) hb)
    clear X3; have X3 := X3x; clear X3x
    obtain ⟨A4, k4, rfl⟩ := Kd.S_slice ho
    have X4 := Aside0.mk ho
    clear ho hb
    have X4x := Aside0.mk (Kd.S_mono (ok' := fun k => w3.heap.size ≤ k) (Kd.S_bound X4.out) (fun _ hk => hk.2.1))
    clear X4; have X4 := X4x; clear X4x
    go_wp2_with (first | (go_at_call 27; (with_reducible refine (laws_eqIntSS.calls k _ _ r _ _ r true _ ?s1 ?s2 ?s3 ?s4 F4.out).mono ?_); (case s1 => repeat (first | exact (Kd.S_reads' X4.out).2.2 | (with_reducible refine Kd.C_alloc ?_ _) | (with_reducible refine Kd.C_drewN ?_ _) | (with_reducible refine Kd.C_drew ?_))); (case s2 => exact (Kd.S_reads' X4.out).2.1); (case s3 => repeat (first | exact (Kd.S_reads' X2.out).2.2 | (with_reducible refine Kd.C_alloc ?_ _) | (with_reducible refine Kd.C_drewN ?_ _) | (with_reducible refine Kd.C_drew ?_))); (case s4 => exact (Kd.S_reads' X2.out).2.1); rintro e w' ⟨rfl, ⟨nd, rfl⟩⟩))
    have X2x := Aside0.mk (Kd.S_drewN X2.out nd)
    clear X2; have X2 := X2x; clear X2x
    have X3x := Aside0.mk (Kd.R_drewN X3.out nd)
    clear X3; have X3 := X3x; clear X3x
    have X4x := Aside0.mk (Kd.S_drewN X4.out nd)
    clear X4; have X4 := X4x; clear X4x
    have HBx := Aside0.mk (pw_below_drewN HB4.out nd)
    clear HB4; have HB4 := HBx; clear HBx
    go_wp2_with (first | (go_at_call 16; (with_reducible refine (laws_toIntS.calls k _ _ l0 l0 _ ?s1 ?s2 F1.out).mono ?_); (case s1 => repeat (first | exact (Kd.C_below HR0.out HB4.out) | (with_reducible refine Kd.C_alloc ?_ _) | (with_reducible refine Kd.C_drewN ?_ _) | (with_reducible refine Kd.C_drew ?_))); (case s2 => exact HC0.out); rintro e w5 ⟨v5, rfl, ho, hb⟩))
    have HB5 := Aside0.mk (below_step (by repeat (first | (with_reducible first | exact HB4.out | apply below_alloc | apply pw_below_drewN | apply below_drew1) | exact HB4.out)) hb)
    have X2x := Aside0.mk (Kd.S_below (by (with_reducible repeat (first | apply Kd.S_alloc | apply Kd.S_drewN | apply Kd.S_drew)); exact X2.out) hb)
    clear X2; have X2 := X2x; clear X2x
    have X3x := Aside0.mk (Kd.R_below (by (with_reducible repeat (first | apply Kd.R_alloc | apply Kd.R_drewN | apply Kd.R_drew)); exact X3.out) hb)
    clear X3; have X3 := X3x; clear X3x
    have X4x := Aside0.mk (Kd.S_below (by (with_reducible repeat (first | apply Kd.S_alloc | apply Kd.S_drewN | apply Kd.S_drew)); exact X4.out) hb)
    clear X4; have X4 := X4x; clear X4x
    obtain ⟨A5, k5, rfl⟩ := Kd.R_slice ho
    have X5 := Aside0.mk ho
    clear ho hb
    go_wp2_with (first | (go_at_call 18; (with_reducible refine (laws_eqIntS.calls k _ _ l0 _ _ l0 true _ ?s1 ?s2 ?s3 ?s4 F5.out).mono ?_); (case s1 => repeat (first | exact (Kd.R_reads' X3.out).2.2 | (with_reducible refine Kd.C_alloc ?_ _) | (with_reducible refine Kd.C_drewN ?_ _) | (with_reducible refine Kd.C_drew ?_))); (case s2 => exact (Kd.R_reads' X3.out).2.1); (case s3 => repeat (first | exact (Kd.R_reads' X5.out).2.2 | (with_reducible refine Kd.C_alloc ?_ _) | (with_reducible refine Kd.C_drewN ?_ _) | (with_reducible refine Kd.C_drew ?_))); (case s4 => exact (Kd.R_reads' X5.out).2.1); rintro e w' ⟨rfl, ⟨nd, rfl⟩⟩))
    have X2x := Aside0.mk (Kd.S_drewN X2.out nd)
    clear X2; have X2 := X2x; clear X2x
    have X3x := Aside0.mk (Kd.R_drewN X3.out nd)
    clear X3; have X3 := X3x; clear X3x
    have X4x := Aside0.mk (Kd.S_drewN X4.out nd)
    clear X4; have X4 := X4x; clear X4x
    have X5x := Aside0.mk (Kd.R_drewN X5.out nd)
    clear X5; have X5 := X5x; clear X5x
    have HBx := Aside0.mk (pw_below_drewN HB5.out nd)
    clear HB5; have HB5 := HBx; clear HBx
    clear X5
    go_wp2_with (first | (go_at_call 28; (with_reducible refine (laws_markIntS.calls k (fun k_ => some k_ = (.slice A3 l0.length k3 : Value).ownBlock) (.slice A3 l0.length k3) l0 1 n1 o1 w _ ?s1 ?s2 F6.out).mono ?_); (case s1 => exact (by repeat (first | (with_reducible first | exact HB5.out | apply below_alloc | apply pw_below_drewN | apply below_drew1) | exact HB5.out))); (case s2 => exact Kd.R_lower (Kd.R_tight rfl (by (with_reducible repeat (first | apply Kd.R_alloc | apply Kd.R_drewN | apply Kd.R_drew)); exact X3.out)) (below_size HB2.out)); rintro e w6 ⟨rfl, hy0, hb, hkp⟩))
    have X2x := Aside0.mk (Kd.S_kept (by (with_reducible repeat (first | apply Kd.S_alloc | apply Kd.S_drewN | apply Kd.S_drew)); exact X2.out) hkp (fun b hk hs => by have := Z3.out b hs.symm; omega))
    have X4x := Aside0.mk (Kd.S_kept (by (with_reducible repeat (first | apply Kd.S_alloc | apply Kd.S_drewN | apply Kd.S_drew)); exact X4.out) hkp (fun b hk hs => by have := Z4.out b hs.symm; omega))
    have HB6 := Aside0.mk hb
    clear X2 X4 X3 hb hkp hy0 HB5; have X2 := X2x; have X4 := X4x; clear X2x X4x
    go_wp2_with (first | (go_at_call 27; (with_reducible refine (laws_eqIntSS.calls k _ _ r _ _ r true _ ?s1 ?s2 ?s3 ?s4 F4.out).mono ?_); (case s1 => repeat (first | exact (Kd.S_reads' X4.out).2.2 | (with_reducible refine Kd.C_alloc ?_ _) | (with_reducible refine Kd.C_drewN ?_ _) | (with_reducible refine Kd.C_drew ?_))); (case s2 => exact (Kd.S_reads' X4.out).2.1); (case s3 => repeat (first | exact (Kd.S_reads' X2.out).2.2 | (with_reducible refine Kd.C_alloc ?_ _) | (with_reducible refine Kd.C_drewN ?_ _) | (with_reducible refine Kd.C_drew ?_))); (case s4 => exact (Kd.S_reads' X2.out).2.1); rintro e w' ⟨rfl, ⟨nd, rfl⟩⟩))
    have X2x := Aside0.mk (Kd.S_drewN X2.out nd)
    clear X2; have X2 := X2x; clear X2x
    have X4x := Aside0.mk (Kd.S_drewN X4.out nd)
    clear X4; have X4 := X4x; clear X4x
    have HBx := Aside0.mk (pw_below_drewN HB6.out nd)
    clear HB6; have HB6 := HBx; clear HBx
    go_wp2_with (first | (go_at_call 29; (with_reducible refine (laws_markIntSS.calls k (fun k_ => w3.heap.size ≤ k_) (.slice A4 r.length k4) r 1 m r2 w _ ?s1 ?s2 F8.out).mono ?_); (case s1 => exact (by repeat (first | (with_reducible first | exact HB6.out | apply below_alloc | apply pw_below_drewN | apply below_drew1) | exact HB6.out))); (case s2 => exact Kd.S_lower (by (with_reducible repeat (first | apply Kd.S_alloc | apply Kd.S_drewN | apply Kd.S_drew)); exact X4.out) (below_size HB3.out)); rintro e w7 ⟨rfl, hy0, hb, hkp⟩))
    have X2x := Aside0.mk (Kd.S_kept (by (with_reducible repeat (first | apply Kd.S_alloc | apply Kd.S_drewN | apply Kd.S_drew)); exact X2.out) hkp (fun b hk hs => by have := Z5.out; omega))
    have HB7 := Aside0.mk hb
    have X4x := Aside0.mk hy0
    clear X2 X4 hb hkp hy0 HB6; have X2 := X2x; have X4 := X4x; clear X2x X4x
    have L4 := Aside0.mk (Kd.S_reads' X4.out).1
    go_wp2_with (first | (go_at_call 30; (with_reducible refine (heldSS k _ _ _ r2 1 m _ L4.out ?s1 ?s2 F9.out).mono ?_); (case s1 => repeat (first | exact (Kd.S_reads' X4.out).2.2 | (with_reducible refine Kd.C_alloc ?_ _) | (with_reducible refine Kd.C_drewN ?_ _) | (with_reducible refine Kd.C_drew ?_))); (case s2 => exact (Kd.S_reads' X4.out).2.1); rintro e w' ⟨rfl, ⟨nd, rfl⟩⟩))
    have X2x := Aside0.mk (Kd.S_drewN X2.out nd)
    clear X2; have X2 := X2x; clear X2x
    have X4x := Aside0.mk (Kd.S_drewN X4.out nd)
    clear X4; have X4 := X4x; clear X4x
    have HBx := Aside0.mk (pw_below_drewN HB7.out nd)
    clear HB7; have HB7 := HBx; clear HBx
    go_wp2_with (first | (go_at_call 16; (with_reducible refine (laws_toIntS.calls k _ _ l0 l0 _ ?s1 ?s2 F1.out).mono ?_); (case s1 => repeat (first | exact (Kd.C_below HR0.out HB7.out) | (with_reducible refine Kd.C_alloc ?_ _) | (with_reducible refine Kd.C_drewN ?_ _) | (with_reducible refine Kd.C_drew ?_))); (case s2 => exact HC0.out); rintro e w8 ⟨v8, rfl, ho, hb⟩))
    have HB8 := Aside0.mk (below_step (by repeat (first | (with_reducible first | exact HB7.out | apply below_alloc | apply pw_below_drewN | apply below_drew1) | exact HB7.out)) hb)
    have X2x := Aside0.mk (Kd.S_below (by (with_reducible repeat (first | apply Kd.S_alloc | apply Kd.S_drewN | apply Kd.S_drew)); exact X2.out) hb)
    clear X2; have X2 := X2x; clear X2x
    have X4x := Aside0.mk (Kd.S_below (by (with_reducible repeat (first | apply Kd.S_alloc | apply Kd.S_drewN | apply Kd.S_drew)); exact X4.out) hb)
    clear X4; have X4 := X4x; clear X4x
    obtain ⟨A8, k8, rfl⟩ := Kd.R_slice ho
    have X8 := Aside0.mk ho
    clear ho hb
    go_wp2_with (first | (go_at_call 26; (with_reducible refine (impl_FirstExchanges.calls k _ _ l0 r ok _ ?s1 ?s2 F3.out).mono ?_); (case s1 => repeat (first | exact (Kd.R_reads' X8.out).2.2 | (with_reducible refine Kd.C_alloc ?_ _) | (with_reducible refine Kd.C_drewN ?_ _) | (with_reducible refine Kd.C_drew ?_))); (case s2 => exact (Kd.R_reads' X8.out).2.1); rintro e w9 ⟨v9, rfl, ho, hb⟩))
    have HB9 := Aside0.mk (below_step (by repeat (first | (with_reducible first | exact HB8.out | apply below_alloc | apply pw_below_drewN | apply below_drew1) | exact HB8.out)) hb)
    have X2x := Aside0.mk (Kd.S_below (by (with_reducible repeat (first | apply Kd.S_alloc | apply Kd.S_drewN | apply Kd.S_drew)); exact X2.out) hb)
    clear X2; have X2 := X2x; clear X2x
    have X4x := Aside0.mk (Kd.S_below (by (with_reducible repeat (first | apply Kd.S_alloc | apply Kd.S_drewN | apply Kd.S_drew)); exact X4.out) hb)
    clear X4; have X4 := X4x; clear X4x
    have X8x := Aside0.mk (Kd.R_below (by (with_reducible repeat (first | apply Kd.R_alloc | apply Kd.R_drewN | apply Kd.R_drew)); exact X8.out) hb)
    clear X8; have X8 := X8x; clear X8x
    have HB9o := HB9
    obtain ⟨A9, k9, rfl⟩ := Kd.S_slice ho
    have X9 := Aside0.mk ho
    clear ho hb
    go_wp2_with (first | (go_at_call 27; (with_reducible refine (laws_eqIntSS.calls k _ _ r _ _ r true _ ?s1 ?s2 ?s3 ?s4 F4.out).mono ?_); (case s1 => repeat (first | exact (Kd.S_reads' X9.out).2.2 | (with_reducible refine Kd.C_alloc ?_ _) | (with_reducible refine Kd.C_drewN ?_ _) | (with_reducible refine Kd.C_drew ?_))); (case s2 => exact (Kd.S_reads' X9.out).2.1); (case s3 => repeat (first | exact (Kd.S_reads' X2.out).2.2 | (with_reducible refine Kd.C_alloc ?_ _) | (with_reducible refine Kd.C_drewN ?_ _) | (with_reducible refine Kd.C_drew ?_))); (case s4 => exact (Kd.S_reads' X2.out).2.1); rintro e w' ⟨rfl, ⟨nd, rfl⟩⟩))
    have X2x := Aside0.mk (Kd.S_drewN X2.out nd)
    clear X2; have X2 := X2x; clear X2x
    have X4x := Aside0.mk (Kd.S_drewN X4.out nd)
    clear X4; have X4 := X4x; clear X4x
    have X8x := Aside0.mk (Kd.R_drewN X8.out nd)
    clear X8; have X8 := X8x; clear X8x
    have X9x := Aside0.mk (Kd.S_drewN X9.out nd)
    clear X9; have X9 := X9x; clear X9x
    have HBx := Aside0.mk (pw_below_drewN HB9.out nd)
    clear HB9; have HB9 := HBx; clear HBx
    go_wp2_with (first | (go_at_call 30; (with_reducible refine (heldSS k _ _ _ r2 1 m _ L4.out ?s1 ?s2 F9.out).mono ?_); (case s1 => repeat (first | exact (Kd.S_reads' X4.out).2.2 | (with_reducible refine Kd.C_alloc ?_ _) | (with_reducible refine Kd.C_drewN ?_ _) | (with_reducible refine Kd.C_drew ?_))); (case s2 => exact (Kd.S_reads' X4.out).2.1); rintro e w' ⟨rfl, ⟨nd, rfl⟩⟩))
    have X2x := Aside0.mk (Kd.S_drewN X2.out nd)
    clear X2; have X2 := X2x; clear X2x
    have X4x := Aside0.mk (Kd.S_drewN X4.out nd)
    clear X4; have X4 := X4x; clear X4x
    have X8x := Aside0.mk (Kd.R_drewN X8.out nd)
    clear X8; have X8 := X8x; clear X8x
    have X9x := Aside0.mk (Kd.S_drewN X9.out nd)
    clear X9; have X9 := X9x; clear X9x
    have HBx := Aside0.mk (pw_below_drewN HB9.out nd)
    clear HB9; have HB9 := HBx; clear HBx
    go_wp2
    go_ret
    refine ⟨by first | rfl | (simp; done) | (simp [*]; done), ?_⟩
    first | exact HB9.out | (repeat apply pw_below_drewN) <;> exact HB9o.out

theorem laws_FnExactFirstExchanges.walk (P : laws_FnExactFirstExchanges.Pure) (a0 : Option Addr) (len0 cap0 : Nat) (z0 : List Int) (w : World) (w0 : (a0 = none ∧ len0 = 0 ∧ cap0 = 0 ∧ z0 = []) ∨ ∃ x, a0 = some x ∧ len0 ≤ cap0 ∧ cap0 ≤ maxLen ∧ z0.length = cap0 ∧ (∀ i, i < z0.length → w.cell? (x.add i) = some (.int .i64 (z0.getD i 0))) ∧ ∀ n ∈ z0, (Lit.int .i64 n).wf = true) (y0 : len0 * 8 ≤ 140737488351232) :
    Calls Try.prog 7 #[.slice a0 len0 cap0] w fun e w' => e = .returned (.bool true) ∧ Below w.heap.size w w' := by
  obtain ⟨l0, rfl, hr0, hm0, hw0, hc0⟩ := ReadsInt.ofRowC w0
  exact laws_FnExactFirstExchanges.calls _ _ l0 w (Kd.C_of_reads (d := (0 : Int)) (h1 := fun _ => rfl) hr0) hc0 (fun h => P l0 h hw0)
end Go.Proofs.Ytagfnpocloaojaa.QFirstExchanges
