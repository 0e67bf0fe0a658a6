/- The contracts of impl.LeastSumApart, LeastMostApart, CountPairings and FirstPairing: each returns its own part of what impl.bestsOf returns; nothing that was there is changed. -/
import Derived.Test.YtagfnpocloaojaaXBests
namespace Go.Proofs.Ytagfnpocloaojaa.XLeasts
open Go.RowKit Go.Proofs.YtagfnpocloaojaaW.PrintWords Go.Proofs.YtagfnpocloaojaaW.PrintLast Go.Proofs.YtagfnpocloaojaaW.PrintMore
open Go.Proofs.Ytagfnpocloaojaa.QBase Go.Proofs.Ytagfnpocloaojaa.XWithin Go.Proofs.Ytagfnpocloaojaa.QSizes Go.Proofs.Ytagfnpocloaojaa.XClone Go.Proofs.Ytagfnpocloaojaa.QBests Go.Proofs.Ytagfnpocloaojaa.XBests
set_option linter.unusedVariables false
theorem bests_some {k : Nat} {l0 l1 : List Int} {α : Type} {f : Int × Int × List Int × Int × Bool → Option α} {r : α} (h : (impl_bestsOf.f k l0 l1).bind f = some r) : ∃ b, impl_bestsOf.f k l0 l1 = some b ∧ f b = some r := by
  cases hq : impl_bestsOf.f k l0 l1 with
  | none => rw [hq] at h; cases h
  | some b => rw [hq] at h; exact ⟨b, rfl, h⟩

def impl_LeastMostApart.f (k : Nat) (l0 l1 : List Int) : Option (Int × Bool) := (impl_bestsOf.f k l0 l1).bind fun b => some (b.2.1, b.2.2.2.2)
theorem impl_LeastMostApart.mono : ∀ a0 a1 k, LeO (impl_LeastMostApart.f k a0 a1) (impl_LeastMostApart.f (k + 1) a0 a1) := fun a0 a1 k => LeO.bind (impl_bestsOf.mono a0 a1 k) (fun b => LeO.refl _)
set_option maxHeartbeats 8000000 in
set_option maxRecDepth 100000 in
theorem impl_LeastMostApart.calls (k : Nat) (A0 : Option Addr) (c0 : Nat) (l0 : List Int) (A1 : Option Addr) (c1 : Nat) (l1 : List Int) (r1 : Int) (r2 : Bool) (w : World) (hr0 : Kd.C (Kd.int .i64) w A0 l0.length l0) (hc0 : l0.length ≤ c0) (hr1 : Kd.C (Kd.int .i64) w A1 l1.length l1) (hc1 : l1.length ≤ c1) (h : impl_LeastMostApart.f k l0 l1 = some (r1, r2)) :
    Calls Try.prog 32 #[.slice A0 l0.length c0, .slice A1 l1.length c1] w fun e w' => e = .returned (.tuple #[.int .i64 r1, .bool r2]) ∧ Below w.heap.size w w' := by
  obtain ⟨⟨b1, b2, b3, b4, b5⟩, hb, hr⟩ := bests_some h
  clear h
  simp only [Option.some.injEq, Prod.mk.injEq] at hr
  obtain ⟨rfl, rfl⟩ := hr
  have HCALL := Aside0.mk (impl_bestsOf.calls k A0 c0 l0 A1 c1 l1 b1 b2 b3 b4 b5 w hr0 hc0 hr1 hc1 hb)
  clear hb hr0 hc0 hr1 hc1
  go_enter Try.func32, Try.ntmps32
  go_wp2_with (first | ((with_reducible refine gate_callee (f := 70) rfl ?_); refine goesL_ (some 11) rfl rfl Try.func70 (by kernel_rfl) rfl #[.slice A0 l0.length c0, .slice A1 l1.length c1] rfl (by (try simp only [List.map_toArray, List.map_cons, List.map_nil]); first | done | rfl) ?_; (with_reducible refine HCALL.out.mono ?_); rintro e w2 ⟨v0, rfl, hr, hb⟩; have HR4 := Aside0.mk hr; have HB4 := Aside0.mk hb; clear hr hb; obtain ⟨AF, cF, rfl⟩ := Kd.R_slice HR4.out; refine ⟨_, rfl, ?_⟩))
  go_ret2
  exact ⟨rfl, below_alloc HB4.out _⟩

def impl_LeastSumApart.f (k : Nat) (l0 l1 : List Int) : Option (Int × Bool) := (impl_bestsOf.f k l0 l1).bind fun b => some (b.1, b.2.2.2.2)
theorem impl_LeastSumApart.mono : ∀ a0 a1 k, LeO (impl_LeastSumApart.f k a0 a1) (impl_LeastSumApart.f (k + 1) a0 a1) := fun a0 a1 k => LeO.bind (impl_bestsOf.mono a0 a1 k) (fun b => LeO.refl _)
set_option maxHeartbeats 8000000 in
set_option maxRecDepth 100000 in
theorem impl_LeastSumApart.calls (k : Nat) (A0 : Option Addr) (c0 : Nat) (l0 : List Int) (A1 : Option Addr) (c1 : Nat) (l1 : List Int) (r1 : Int) (r2 : Bool) (w : World) (hr0 : Kd.C (Kd.int .i64) w A0 l0.length l0) (hc0 : l0.length ≤ c0) (hr1 : Kd.C (Kd.int .i64) w A1 l1.length l1) (hc1 : l1.length ≤ c1) (h : impl_LeastSumApart.f k l0 l1 = some (r1, r2)) :
    Calls Try.prog 34 #[.slice A0 l0.length c0, .slice A1 l1.length c1] w fun e w' => e = .returned (.tuple #[.int .i64 r1, .bool r2]) ∧ Below w.heap.size w w' := by
  obtain ⟨⟨b1, b2, b3, b4, b5⟩, hb, hr⟩ := bests_some h
  clear h
  simp only [Option.some.injEq, Prod.mk.injEq] at hr
  obtain ⟨rfl, rfl⟩ := hr
  have HCALL := Aside0.mk (impl_bestsOf.calls k A0 c0 l0 A1 c1 l1 b1 b2 b3 b4 b5 w hr0 hc0 hr1 hc1 hb)
  clear hb hr0 hc0 hr1 hc1
  go_enter Try.func34, Try.ntmps34
  go_wp2_with (first | ((with_reducible refine gate_callee (f := 70) rfl ?_); refine goesL_ (some 11) rfl rfl Try.func70 (by kernel_rfl) rfl #[.slice A0 l0.length c0, .slice A1 l1.length c1] rfl (by (try simp only [List.map_toArray, List.map_cons, List.map_nil]); first | done | rfl) ?_; (with_reducible refine HCALL.out.mono ?_); rintro e w2 ⟨v0, rfl, hr, hb⟩; have HR4 := Aside0.mk hr; have HB4 := Aside0.mk hb; clear hr hb; obtain ⟨AF, cF, rfl⟩ := Kd.R_slice HR4.out; refine ⟨_, rfl, ?_⟩))
  go_ret2
  exact ⟨rfl, below_alloc HB4.out _⟩

def impl_CountPairings.f (k : Nat) (l0 l1 : List Int) : Option (Int × Bool) := (impl_bestsOf.f k l0 l1).bind fun b => some (b.2.2.2.1, b.2.2.2.2)
theorem impl_CountPairings.mono : ∀ a0 a1 k, LeO (impl_CountPairings.f k a0 a1) (impl_CountPairings.f (k + 1) a0 a1) := fun a0 a1 k => LeO.bind (impl_bestsOf.mono a0 a1 k) (fun b => LeO.refl _)
set_option maxHeartbeats 8000000 in
set_option maxRecDepth 100000 in
theorem impl_CountPairings.calls (k : Nat) (A0 : Option Addr) (c0 : Nat) (l0 : List Int) (A1 : Option Addr) (c1 : Nat) (l1 : List Int) (r1 : Int) (r2 : Bool) (w : World) (hr0 : Kd.C (Kd.int .i64) w A0 l0.length l0) (hc0 : l0.length ≤ c0) (hr1 : Kd.C (Kd.int .i64) w A1 l1.length l1) (hc1 : l1.length ≤ c1) (h : impl_CountPairings.f k l0 l1 = some (r1, r2)) :
    Calls Try.prog 36 #[.slice A0 l0.length c0, .slice A1 l1.length c1] w fun e w' => e = .returned (.tuple #[.int .i64 r1, .bool r2]) ∧ Below w.heap.size w w' := by
  obtain ⟨⟨b1, b2, b3, b4, b5⟩, hb, hr⟩ := bests_some h
  clear h
  simp only [Option.some.injEq, Prod.mk.injEq] at hr
  obtain ⟨rfl, rfl⟩ := hr
  have HCALL := Aside0.mk (impl_bestsOf.calls k A0 c0 l0 A1 c1 l1 b1 b2 b3 b4 b5 w hr0 hc0 hr1 hc1 hb)
  clear hb hr0 hc0 hr1 hc1
  go_enter Try.func36, Try.ntmps36
  go_wp2_with (first | ((with_reducible refine gate_callee (f := 70) rfl ?_); refine goesL_ (some 11) rfl rfl Try.func70 (by kernel_rfl) rfl #[.slice A0 l0.length c0, .slice A1 l1.length c1] rfl (by (try simp only [List.map_toArray, List.map_cons, List.map_nil]); first | done | rfl) ?_; (with_reducible refine HCALL.out.mono ?_); rintro e w2 ⟨v0, rfl, hr, hb⟩; have HR4 := Aside0.mk hr; have HB4 := Aside0.mk hb; clear hr hb; obtain ⟨AF, cF, rfl⟩ := Kd.R_slice HR4.out; refine ⟨_, rfl, ?_⟩))
  go_ret2
  exact ⟨rfl, below_alloc HB4.out _⟩

def impl_FirstPairing.f (k : Nat) (l0 l1 : List Int) : Option (List Int × Bool) := (impl_bestsOf.f k l0 l1).bind fun b => some (b.2.2.1, b.2.2.2.2)
theorem impl_FirstPairing.mono : ∀ a0 a1 k, LeO (impl_FirstPairing.f k a0 a1) (impl_FirstPairing.f (k + 1) a0 a1) := fun a0 a1 k => LeO.bind (impl_bestsOf.mono a0 a1 k) (fun b => LeO.refl _)
set_option maxHeartbeats 8000000 in
set_option maxRecDepth 100000 in
theorem impl_FirstPairing.calls (k : Nat) (A0 : Option Addr) (c0 : Nat) (l0 : List Int) (A1 : Option Addr) (c1 : Nat) (l1 : List Int) (r1 : List Int) (r2 : Bool) (w : World) (hr0 : Kd.C (Kd.int .i64) w A0 l0.length l0) (hc0 : l0.length ≤ c0) (hr1 : Kd.C (Kd.int .i64) w A1 l1.length l1) (hc1 : l1.length ≤ c1) (h : impl_FirstPairing.f k l0 l1 = some (r1, r2)) :
    Calls Try.prog 38 #[.slice A0 l0.length c0, .slice A1 l1.length c1] w fun e w' => ∃ v0_ : Value, e = .returned (.tuple #[v0_, .bool r2]) ∧ Kd.R (Kd.int .i64) 3 w' w.heap.size (fun _ => True) v0_ r1 ∧ Below w.heap.size w w' := by
  obtain ⟨⟨b1, b2, b3, b4, b5⟩, hb, hr⟩ := bests_some h
  clear h
  simp only [Option.some.injEq, Prod.mk.injEq] at hr
  obtain ⟨rfl, rfl⟩ := hr
  have HCALL := Aside0.mk (impl_bestsOf.calls k A0 c0 l0 A1 c1 l1 b1 b2 b3 b4 b5 w hr0 hc0 hr1 hc1 hb)
  clear hb hr0 hc0 hr1 hc1
  go_enter Try.func38, Try.ntmps38
  go_wp2_with (first | ((with_reducible refine gate_callee (f := 70) rfl ?_); refine goesL_ (some 11) rfl rfl Try.func70 (by kernel_rfl) rfl #[.slice A0 l0.length c0, .slice A1 l1.length c1] rfl (by (try simp only [List.map_toArray, List.map_cons, List.map_nil]); first | done | rfl) ?_; (with_reducible refine HCALL.out.mono ?_); rintro e w2 ⟨v0, rfl, hr, hb⟩; have HR4 := Aside0.mk hr; have HB4 := Aside0.mk hb; clear hr hb; obtain ⟨AF, cF, rfl⟩ := Kd.R_slice HR4.out; refine ⟨_, rfl, ?_⟩))
  go_ret2
  exact ⟨_, rfl, Kd.R_alloc HR4.out _, below_alloc HB4.out _⟩

end Go.Proofs.Ytagfnpocloaojaa.XLeasts
