/- The contract of the program's areWithin: called with a slice that reads as a list of at most 1048576 numbers and two bounds it returns whether each number lies within the bounds; nothing that was there is changed. Ahead of it: slices.IndexFunc and slices.ContainsFunc at slices of int and a predicate that turns nothing. -/
import Derived.Shelf.Abstract
import Derived.Test.YtfllamjkifbpmaaDoorQBasex
namespace Go.Proofs.YtfllamjkifbpmaaDoor.XWithin
open Go.RowKit Go.Proofs.YtfllamjkifbpmaaDoorW.PrintWords Go.Proofs.YtfllamjkifbpmaaDoorW.PrintLast Go.Proofs.YtfllamjkifbpmaaDoorW.PrintMore
open Go.Proofs.YtfllamjkifbpmaaDoor.QBase

/-- The first place from i on at which p holds, or -1. -/
def fi (p : Int → Bool) : List Int → Int → Int
  | [], _ => -1
  | x :: xs, i => if p x = true then i else fi p xs (i + 1)
theorem fi_ge (p : Int → Bool) : ∀ (xs : List Int) (i : Int), 0 ≤ i → (0 ≤ fi p xs i ↔ xs.any p = true) := by
  intro xs
  induction xs with
  | nil => intro i _; simp [fi]
  | cons x xs ih =>
    intro i hi
    unfold fi
    by_cases h : p x = true
    · rw [if_pos h]; simp [h, hi]
    · rw [if_neg h, ih (i + 1) (by omega)]
      simp [Bool.eq_false_iff.mpr h]
theorem drop_rd (l : List Int) (i : Nat) (h : i < l.length) : l.drop i = rd l (i : Int) :: l.drop (i + 1) := by
  have e := List.drop_eq_getElem_cons h
  rw [e]
  unfold rd
  rw [Int.toNat_natCast, List.getD_eq_getElem?_getD, List.getElem?_eq_getElem h]
  rfl

set_option maxHeartbeats 8000000 in
set_option maxRecDepth 100000 in
theorem indexFunc (p : Int → Bool) (g : Nat) (lb : Array Value) (eg : ∀ args w, (callFunc g args).run Tryd.prog w = .ok (.enter g args) w) (A0 : Option Addr) (c0 : Nat) (l0 : List Int) (w : World)
    (hp : ∀ (x : Int) (m : Nat), Calls Tryd.prog g (#[.int .i64 x] ++ lb) (w.drewN m) fun e w' => e = .returned (.bool (p x)) ∧ Drawn0 (w.drewN m) w')
    (hr0 : Kd.C (Kd.int .i64) w A0 l0.length l0) (hl : l0.length ≤ 1048576) :
    Calls Tryd.prog 73 #[.slice A0 l0.length c0, .func (.func g) #[] lb] w fun e w' => e = .returned (.int .i64 (fi p l0 0)) ∧ Drawn0 w w' := by
  have HR0 := Aside0.mk hr0
  have HP := Aside0.mk hp
  clear hr0 hp
  obtain ⟨r, hr⟩ : ∃ r, fi p l0 0 = r := ⟨_, rfl⟩
  rw [hr]
  have HR := Aside0.mk hr
  clear hr
  go_enter Tryd.func73, Tryd.ntmps73
  go_wp2
  go_loopg [5, 8] l0.length (fun gg _ s8 wr => ∃ kk : Nat, kk ≤ l0.length ∧ l0.length - kk ≤ gg ∧ s8 = .int .i64 kk ∧ Aside0 (fi p (l0.drop kk) (kk : Int) = r) ∧ Drawn0 w wr)
  case atStart => exact ⟨0, Nat.zero_le _, by omega, rfl, ⟨HR.out⟩, Drawn0.refl _⟩
  case round =>
    clear HR
    obtain ⟨kk, hkk, hg, rfl, HX, ⟨m1, rfl⟩⟩ := hrel
    by_cases hlt : kk < l0.length
    · have hltz : (kk : Int) < (l0.length : Int) := by omega
      have h0 : (0 : Int) ≤ (kk : Int) := by omega
      obtain ⟨ad, e, hx⟩ := Kd.at_int HR0.out (kk : Int) h0 hltz
      cases e
      have hdrop := drop_rd l0 kk hlt
      obtain ⟨x, hxd⟩ : ∃ x : Int, rd l0 (kk : Int) = x := ⟨_, rfl⟩
      rw [hxd] at hx hdrop
      have hcall := fun m => HP.out x m
      have hstep := HX.out
      rw [hdrop, fi] at hstep
      clear hxd hdrop HX
      obtain ⟨z, hz⟩ : ∃ z : Int, (kk : Int) = z := ⟨_, rfl⟩
      have HZ := Aside0.mk hz
      rw [hz] at hx hltz h0 hstep ⊢
      have hz2 : z ≤ 1048576 := by omega
      have HG := Aside0.mk (show l0.length - (kk + 1) < gk from by omega)
      clear hz hg hlt
      have hltz' : decide (z < (l0.length : Int)) = true := decide_eq_true hltz
      have hnx : IntKind.i64.wrap (z + 1) = z + 1 := (i64_w _).trans (by unfold wrap64; omega)
      replace h0 := eq_true h0
      replace hltz := eq_true hltz
      cases hq : p x with
      | true =>
        rw [hq] at hcall
        rw [if_pos hq] at hstep
        have HS := Aside0.mk hstep
        clear hstep hq
        go_wp2_with (go_at_fn g; refine (hcall _).mono ?_; rintro e w' ⟨rfl, ⟨nd, rfl⟩⟩)
        go_ret
        exact ⟨by rw [HS.out]; rfl, by repeat (first | exact Drawn0.refl _ | apply Drawn0.step)⟩
      | false =>
        rw [hq] at hcall
        rw [if_neg (by rw [hq]; decide)] at hstep
        have HS := Aside0.mk hstep
        clear hstep hq
        go_wp2_with (go_at_fn g; refine (hcall _).mono ?_; rintro e w' ⟨rfl, ⟨nd, rfl⟩⟩)
        go_roundg (l0.length - (kk + 1))
        case measure => have := HG.out; omega
        case rel => exact ⟨kk + 1, by have := HZ.out; have := of_eq_true hltz; omega, by omega, by have := HZ.out; congr 1; omega, ⟨by have e_ := HS.out; have e2_ := HZ.out; rw [← e2_] at e_; exact e_⟩, by repeat (first | exact Drawn0.refl _ | apply Drawn0.step)⟩
    · have hltz : decide ((kk : Int) < (l0.length : Int)) = false := decide_eq_false (by omega)
      have hstep := HX.out
      rw [List.drop_eq_nil_of_le (by omega), fi] at hstep
      have HS := Aside0.mk hstep
      clear hstep HX
      go_wp2
      go_ret
      exact ⟨by rw [HS.out]; rfl, by repeat (first | exact Drawn0.refl _ | apply Drawn0.step)⟩

set_option maxHeartbeats 8000000 in
set_option maxRecDepth 100000 in
theorem containsFunc (p : Int → Bool) (g : Nat) (lb : Array Value) (eg : ∀ args w, (callFunc g args).run Tryd.prog w = .ok (.enter g args) w) (A0 : Option Addr) (c0 : Nat) (l0 : List Int) (w : World)
    (hp : ∀ (x : Int) (m : Nat), Calls Tryd.prog g (#[.int .i64 x] ++ lb) (w.drewN m) fun e w' => e = .returned (.bool (p x)) ∧ Drawn0 (w.drewN m) w')
    (hr0 : Kd.C (Kd.int .i64) w A0 l0.length l0) (hl : l0.length ≤ 1048576) :
    Calls Tryd.prog 65 #[.slice A0 l0.length c0, .func (.func g) #[] lb] w fun e w' => e = .returned (.bool (l0.any p)) ∧ Drawn0 w w' := by
  have hc := indexFunc p g lb eg A0 c0 l0 w hp hr0 hl
  have hge := fi_ge p l0 0 (by omega)
  generalize fi p l0 0 = r at hc hge
  have HC := Aside0.mk hc
  have hb : decide (0 ≤ r) = l0.any p := by
    rw [Bool.eq_iff_iff, decide_eq_true_iff, hge]
  generalize l0.any p = b at hb
  have HG := Aside0.mk hb
  clear hc hge hp hr0 hb
  have e73 : ∀ args w, (callFunc 73 args).run Tryd.prog w = .ok (.enter 73 args) w := enters_of Tryd.func73 (by kernel_rfl) rfl
  go_enter Tryd.func65, Tryd.ntmps65
  go_wp2_with (go_at_fn 73; refine HC.out.mono ?_; rintro e w' ⟨rfl, ⟨nd, rfl⟩⟩)
  go_ret
  exact ⟨by rw [← HG.out]; rfl, by repeat (first | exact Drawn0.refl _ | apply Drawn0.step)⟩

def inb (a1 a2 x : Int) : Bool := !(decide (a1 ≤ x) && decide (x ≤ a2))
set_option maxHeartbeats 8000000 in
set_option maxRecDepth 100000 in
theorem closure (a1 a2 x : Int) (b1 b2 : Nat) (w : World) (h1 : w.cell? ⟨b1, 0, none⟩ = some (.int .i64 a1)) (h2 : w.cell? ⟨b2, 0, none⟩ = some (.int .i64 a2)) :
    Calls Tryd.prog 66 #[.int .i64 x, .pointer (some ⟨b1, 0, none⟩), .pointer (some ⟨b2, 0, none⟩)] w fun e w' => e = .returned (.bool (inb a1 a2 x)) ∧ Drawn0 w w' := by
  obtain ⟨b, hb⟩ : ∃ b, impl_within.f x a1 a2 = some b := by unfold impl_within.f; split <;> exact ⟨_, rfl⟩
  have hv : inb a1 a2 x = !b := by
    unfold impl_within.f at hb
    unfold inb
    split at hb <;> (obtain rfl := Option.some.inj hb; simp [*])
  rw [hv]
  have HB := Aside0.mk hb
  clear hb hv
  go_enter Tryd.func66, Tryd.ntmps66
  go_wp2_with (first | ((with_reducible refine gate_callee (f := 41) rfl ?_); refine goesL_ (some 8) rfl rfl Tryd.func41 (by kernel_rfl) rfl #[.int .i64 x, .int .i64 a1, .int .i64 a2] rfl (by (try simp only [List.map_toArray, List.map_cons, List.map_nil]); first | done | rfl) ?_; (with_reducible refine (impl_within.calls x a1 a2 b _ HB.out).mono ?_); rintro e w' ⟨rfl, ⟨nd, rfl⟩⟩; refine ⟨_, rfl, ?_⟩))
  go_ret
  exact ⟨by first | rfl | (simp; done), by repeat (first | exact Drawn0.refl _ | apply Drawn0.step)⟩

def impl_areWithin.f (l0 : List Int) (a1 a2 : Int) : Option Bool := if l0.length ≤ 1048576 then some (l0.all fun x => decide (a1 ≤ x) && decide (x ≤ a2)) else none
set_option maxHeartbeats 8000000 in
set_option maxRecDepth 100000 in
theorem impl_areWithin.calls (A0 : Option Addr) (c0 : Nat) (l0 : List Int) (a1 a2 : Int) (r : Bool) (w : World) (hr0 : Kd.C (Kd.int .i64) w A0 l0.length l0) (hc0 : l0.length ≤ c0) (h : impl_areWithin.f l0 a1 a2 = some r) :
    Calls Tryd.prog 55 #[.slice A0 l0.length c0, .int .i64 a1, .int .i64 a2] w fun e w' => e = .returned (.bool r) ∧ Below w.heap.size w w' := by
  have HB := Aside0.mk (Below.refl w.heap.size w)
  have HC0 := Aside0.mk hc0
  unfold impl_areWithin.f at h
  by_cases hs : l0.length ≤ 1048576
  · rw [if_pos hs] at h
    have hr := Option.some.inj h
    clear h
    have hr' : (!l0.any (inb a1 a2)) = r := by
      rw [← hr]
      clear hr hr0 hc0 hs HC0
      induction l0 with
      | nil => rfl
      | cons x xs ih => simp only [List.any_cons, List.all_cons, Bool.not_or, ih]; unfold inb; rw [Bool.not_not]
    clear hr
    have e65 : ∀ args w, (callFunc 65 args).run Tryd.prog w = .ok (.enter 65 args) w := enters_of Tryd.func65 (by kernel_rfl) rfl
    have eg : ∀ args w, (callFunc 66 args).run Tryd.prog w = .ok (.enter 66 args) w := enters_of Tryd.func66 (by kernel_rfl) rfl
    have hcon : ∀ (W : World) (b1 b2 : Nat), Kd.C (Kd.int .i64) W A0 l0.length l0 → W.cell? ⟨b1, 0, none⟩ = some (.int .i64 a1) → W.cell? ⟨b2, 0, none⟩ = some (.int .i64 a2) → Calls Tryd.prog 65 #[.slice A0 l0.length c0, .func (.func 66) #[] #[.pointer (some ⟨b1, 0, none⟩), .pointer (some ⟨b2, 0, none⟩)]] W fun e w' => e = .returned (.bool (l0.any (inb a1 a2))) ∧ Drawn0 W w' :=
      fun W b1 b2 hC h1 h2 => containsFunc (inb a1 a2) 66 #[.pointer (some ⟨b1, 0, none⟩), .pointer (some ⟨b2, 0, none⟩)] eg A0 c0 l0 W (fun x m => closure a1 a2 x b1 b2 (W.drewN m) h1 h2) hC hs
    have HC := Aside0.mk hcon
    have HR0 := Aside0.mk hr0
    generalize l0.any (inb a1 a2) = q at hr' HC
    subst hr'
    clear hcon hr0
    go_enter Tryd.func55, Tryd.ntmps55
    go_wp2_with (go_at_fn 65; refine (HC.out _ _ _ ?c0 ?c1 ?c2).mono ?_; (case c0 => repeat (first | exact HR0.out | (with_reducible refine Kd.C_alloc ?_ _) | (with_reducible refine Kd.C_drewN ?_ _) | (with_reducible refine Kd.C_drew ?_))); (case c1 => simp); (case c2 => simp); rintro e w' ⟨rfl, ⟨nd, rfl⟩⟩)
    go_ret
    exact ⟨by first | rfl | (simp; done), by repeat (first | (with_reducible first | exact HB.out | apply below_alloc | apply pw_below_drewN | apply below_drew1) | exact HB.out)⟩
  · rw [if_neg hs] at h
    cases h
end Go.Proofs.YtfllamjkifbpmaaDoor.XWithin
