/- The contracts of impl.MostWithin and impl.MostFeet: each returns what impl.matched does at its own function, or nothing where these are no sizes; nothing that was there is changed. -/
import Derived.Test.YtagfnpocloaojaaXMatched
import Derived.Test.YtagfnpocloaojaaQSizesx
namespace Go.Proofs.Ytagfnpocloaojaa.XMost
open Go.RowKit Go.Proofs.YtagfnpocloaojaaW.PrintWords Go.Proofs.YtagfnpocloaojaaW.PrintLast Go.Proofs.YtagfnpocloaojaaW.PrintMore
open Go.Proofs.Ytagfnpocloaojaa.QBase Go.Proofs.Ytagfnpocloaojaa.QSizes Go.Proofs.Ytagfnpocloaojaa.XGoes Go.Proofs.Ytagfnpocloaojaa.XMatched
set_option linter.unusedVariables false

def impl_MostWithin.f (l0 l1 : List Int) (a2 : Int) : Option (Int × Bool) := (impl_areFit.f l0 l1 a2).bind fun t => if t = true then (mtc (pW a2) l0 l1).bind fun r => some (r, true) else some (0, false)
set_option maxHeartbeats 8000000 in
set_option maxRecDepth 100000 in
theorem impl_MostWithin.calls (A0 : Option Addr) (c0 : Nat) (l0 : List Int) (A1 : Option Addr) (c1 : Nat) (l1 : List Int) (a2 : Int) (r1 : Int) (r2 : Bool) (w : World) (hr0 : Kd.C (Kd.int .i64) w A0 l0.length l0) (hc0 : l0.length ≤ c0) (hr1 : Kd.C (Kd.int .i64) w A1 l1.length l1) (hc1 : l1.length ≤ c1) (h : impl_MostWithin.f l0 l1 a2 = some (r1, r2)) :
    Calls Try.prog 22 #[.slice A0 l0.length c0, .slice A1 l1.length c1, .int .i64 a2] w fun e w' => e = .returned (.tuple #[.int .i64 r1, .bool r2]) ∧ Below w.heap.size w w' := by
  unfold impl_MostWithin.f at h
  obtain ⟨t, ht, h⟩ := Option.bind_eq_some_iff.1 h
  have HR0 := Aside0.mk hr0
  have HC0 := Aside0.mk hc0
  have HR1 := Aside0.mk hr1
  have HC1 := Aside0.mk hc1
  have HT := Aside0.mk ht
  clear hr0 hc0 hr1 hc1 ht
  have hfit : ∀ W : World, Below w.heap.size w W → Calls Try.prog 56 #[.slice A0 l0.length c0, .slice A1 l1.length c1, .int .i64 a2] W fun e w' => e = .returned (.bool t) ∧ Below W.heap.size W w' :=
    fun W hb => impl_areFit.calls A0 c0 l0 A1 c1 l1 a2 t W (Kd.C_below HR0.out hb) HC0.out (Kd.C_below HR1.out hb) HC1.out HT.out
  have HFIT := Aside0.mk hfit
  clear hfit
  have HB := Aside0.mk (below_alloc (Below.refl w.heap.size w) (Obj.cells #[.int .i64 a2] 3))
  have HX := Aside0.mk (blk_new w (Obj.cells #[.int .i64 a2] 3))
  cases t with
  | false =>
    rw [if_neg (by decide)] at h
    simp only [Option.some.injEq, Prod.mk.injEq] at h
    obtain ⟨rfl, rfl⟩ := h
    go_enter Try.func22, Try.ntmps22
    go_wp2_with (first | ((with_reducible refine gate_callee (f := 56) rfl ?_); refine goesL_ (some 11) rfl rfl Try.func56 (by kernel_rfl) rfl #[.slice A0 l0.length c0, .slice A1 l1.length c1, .int .i64 a2] rfl (by (try simp only [List.map_toArray, List.map_cons, List.map_nil]); first | done | rfl) ?_; (with_reducible refine (HFIT.out _ HB.out).mono ?_); rintro e w2 ⟨rfl, hb⟩; have HB2 := Aside0.mk (below_then HB.out (by simp) hb); clear hb; refine ⟨_, rfl, ?_⟩))
    go_ret2
    exact ⟨rfl, HB2.out⟩
  | true =>
    rw [if_pos rfl] at h
    obtain ⟨r, hr, h⟩ := Option.bind_eq_some_iff.1 h
    simp only [Option.some.injEq, Prod.mk.injEq] at h
    obtain ⟨rfl, rfl⟩ := h
    have HR := Aside0.mk hr
    clear hr
    have e58 : ∀ args w, (callFunc 58 args).run Try.prog w = .ok (.enter 58 args) w := enters_of Try.func58 (by kernel_rfl) rfl
    have HMT := Aside0.mk (fun (W : World) (hb : Below w.heap.size w W) (hS : W.cell? ⟨w.heap.size, 0, none⟩ = some (.int .i64 a2)) => matched (pW a2) 58 w.heap.size A0 A1 c0 c1 l0 l1 a2 r W e58 (fun W x y h => goesW a2 x y w.heap.size W h) (Kd.C_below HR0.out hb) HC0.out (Kd.C_below HR1.out hb) HC1.out hS HR.out)
    clear e58
    go_enter Try.func22, Try.ntmps22
    go_wp2_with (first | ((with_reducible refine gate_callee (f := 56) rfl ?_); refine goesL_ (some 11) rfl rfl Try.func56 (by kernel_rfl) rfl #[.slice A0 l0.length c0, .slice A1 l1.length c1, .int .i64 a2] rfl (by (try simp only [List.map_toArray, List.map_cons, List.map_nil]); first | done | rfl) ?_; (with_reducible refine (HFIT.out _ HB.out).mono ?_); rintro e w2 ⟨rfl, hb⟩; have HB2 := Aside0.mk (below_then HB.out (by simp) hb); have HX2 := Aside0.mk ((hb.block _ (blk_lt HX.out)).trans HX.out); clear hb; refine ⟨_, rfl, ?_⟩) | ((with_reducible refine gate_callee (f := 57) rfl ?_); refine goesL_ (some 16) rfl rfl Try.func57 (by kernel_rfl) rfl #[.slice A0 l0.length c0, .slice A1 l1.length c1, .func (.func 58) #[] #[.pointer (some ⟨w.heap.size, 0, none⟩)]] rfl (by (try simp only [List.map_toArray, List.map_cons, List.map_nil]); first | done | rfl) ?_; (with_reducible refine (HMT.out _ HB2.out ((blk_cell HX2.out 0).trans rfl)).mono ?_); rintro e w3 ⟨rfl, hb⟩; have HB3 := Aside0.mk (below_then HB2.out HB2.out.size hb); clear hb; refine ⟨_, rfl, ?_⟩))
    go_ret2
    exact ⟨rfl, HB3.out⟩

def impl_MostFeet.f (l0 l1 : List Int) (a2 : Int) : Option (Int × Bool) := (impl_areFit.f l0 l1 a2).bind fun t => if t = true then (mtc (pF a2) l0 l1).bind fun r => some (r, true) else some (0, false)
set_option maxHeartbeats 8000000 in
set_option maxRecDepth 100000 in
theorem impl_MostFeet.calls (A0 : Option Addr) (c0 : Nat) (l0 : List Int) (A1 : Option Addr) (c1 : Nat) (l1 : List Int) (a2 : Int) (r1 : Int) (r2 : Bool) (w : World) (hr0 : Kd.C (Kd.int .i64) w A0 l0.length l0) (hc0 : l0.length ≤ c0) (hr1 : Kd.C (Kd.int .i64) w A1 l1.length l1) (hc1 : l1.length ≤ c1) (h : impl_MostFeet.f l0 l1 a2 = some (r1, r2)) :
    Calls Try.prog 24 #[.slice A0 l0.length c0, .slice A1 l1.length c1, .int .i64 a2] w fun e w' => e = .returned (.tuple #[.int .i64 r1, .bool r2]) ∧ Below w.heap.size w w' := by
  unfold impl_MostFeet.f at h
  obtain ⟨t, ht, h⟩ := Option.bind_eq_some_iff.1 h
  have HR0 := Aside0.mk hr0
  have HC0 := Aside0.mk hc0
  have HR1 := Aside0.mk hr1
  have HC1 := Aside0.mk hc1
  have HT := Aside0.mk ht
  clear hr0 hc0 hr1 hc1 ht
  have hfit : ∀ W : World, Below w.heap.size w W → Calls Try.prog 56 #[.slice A0 l0.length c0, .slice A1 l1.length c1, .int .i64 a2] W fun e w' => e = .returned (.bool t) ∧ Below W.heap.size W w' :=
    fun W hb => impl_areFit.calls A0 c0 l0 A1 c1 l1 a2 t W (Kd.C_below HR0.out hb) HC0.out (Kd.C_below HR1.out hb) HC1.out HT.out
  have HFIT := Aside0.mk hfit
  clear hfit
  have HB := Aside0.mk (below_alloc (Below.refl w.heap.size w) (Obj.cells #[.int .i64 a2] 3))
  have HX := Aside0.mk (blk_new w (Obj.cells #[.int .i64 a2] 3))
  cases t with
  | false =>
    rw [if_neg (by decide)] at h
    simp only [Option.some.injEq, Prod.mk.injEq] at h
    obtain ⟨rfl, rfl⟩ := h
    go_enter Try.func24, Try.ntmps24
    go_wp2_with (first | ((with_reducible refine gate_callee (f := 56) rfl ?_); refine goesL_ (some 11) rfl rfl Try.func56 (by kernel_rfl) rfl #[.slice A0 l0.length c0, .slice A1 l1.length c1, .int .i64 a2] rfl (by (try simp only [List.map_toArray, List.map_cons, List.map_nil]); first | done | rfl) ?_; (with_reducible refine (HFIT.out _ HB.out).mono ?_); rintro e w2 ⟨rfl, hb⟩; have HB2 := Aside0.mk (below_then HB.out (by simp) hb); clear hb; refine ⟨_, rfl, ?_⟩))
    go_ret2
    exact ⟨rfl, HB2.out⟩
  | true =>
    rw [if_pos rfl] at h
    obtain ⟨r, hr, h⟩ := Option.bind_eq_some_iff.1 h
    simp only [Option.some.injEq, Prod.mk.injEq] at h
    obtain ⟨rfl, rfl⟩ := h
    have HR := Aside0.mk hr
    clear hr
    have e61 : ∀ args w, (callFunc 61 args).run Try.prog w = .ok (.enter 61 args) w := enters_of Try.func61 (by kernel_rfl) rfl
    have HMT := Aside0.mk (fun (W : World) (hb : Below w.heap.size w W) (hS : W.cell? ⟨w.heap.size, 0, none⟩ = some (.int .i64 a2)) => matched (pF a2) 61 w.heap.size A0 A1 c0 c1 l0 l1 a2 r W e61 (fun W x y h => goesF a2 x y w.heap.size W h) (Kd.C_below HR0.out hb) HC0.out (Kd.C_below HR1.out hb) HC1.out hS HR.out)
    clear e61
    go_enter Try.func24, Try.ntmps24
    go_wp2_with (first | ((with_reducible refine gate_callee (f := 56) rfl ?_); refine goesL_ (some 11) rfl rfl Try.func56 (by kernel_rfl) rfl #[.slice A0 l0.length c0, .slice A1 l1.length c1, .int .i64 a2] rfl (by (try simp only [List.map_toArray, List.map_cons, List.map_nil]); first | done | rfl) ?_; (with_reducible refine (HFIT.out _ HB.out).mono ?_); rintro e w2 ⟨rfl, hb⟩; have HB2 := Aside0.mk (below_then HB.out (by simp) hb); have HX2 := Aside0.mk ((hb.block _ (blk_lt HX.out)).trans HX.out); clear hb; refine ⟨_, rfl, ?_⟩) | ((with_reducible refine gate_callee (f := 57) rfl ?_); refine goesL_ (some 16) rfl rfl Try.func57 (by kernel_rfl) rfl #[.slice A0 l0.length c0, .slice A1 l1.length c1, .func (.func 61) #[] #[.pointer (some ⟨w.heap.size, 0, none⟩)]] rfl (by (try simp only [List.map_toArray, List.map_cons, List.map_nil]); first | done | rfl) ?_; (with_reducible refine (HMT.out _ HB2.out ((blk_cell HX2.out 0).trans rfl)).mono ?_); rintro e w3 ⟨rfl, hb⟩; have HB3 := Aside0.mk (below_then HB2.out HB2.out.size hb); clear hb; refine ⟨_, rfl, ?_⟩))
    go_ret2
    exact ⟨rfl, HB3.out⟩

end Go.Proofs.Ytagfnpocloaojaa.XMost
