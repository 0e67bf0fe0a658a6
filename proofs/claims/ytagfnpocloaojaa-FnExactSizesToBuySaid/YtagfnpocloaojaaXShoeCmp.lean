/- The comparison that the program's FirstFeet hands to slices.SortStableFunc: a closure over the feet (boxed): called with two places it returns how the feet at them compare. Ahead of it: a call of a function value that stands in a temporary. -/
import Derived.Test.YtagfnpocloaojaaQCmpx
import Derived.Test.YtagfnpocloaojaaQBasex
namespace Go.Proofs.Ytagfnpocloaojaa.XShoeCmp
open Go.RowKit Go.Proofs.YtagfnpocloaojaaW.PrintWords Go.Proofs.YtagfnpocloaojaaW.PrintLast Go.Proofs.YtagfnpocloaojaaW.PrintMore
open Go.Proofs.Ytagfnpocloaojaa.QBase Go.Proofs.Ytagfnpocloaojaa.QCmp
set_option linter.unusedVariables false

/-- The feet that are compared. -/
class Feet where
  L : List Int
/-- Where they lie: the box, and the slice in it. -/
class Box where
  B : Nat
  A : Option Addr
  c : Nat
/-- The box holds the slice of the feet. -/
structure Boxed [Feet] [Box] (w : World) : Prop where
  cell : w.cell? ⟨Box.B, 0, none⟩ = some (.slice Box.A Feet.L.length Box.c)
  lt : Box.B < w.heap.size
  row : Kd.C (Kd.int .i64) w Box.A Feet.L.length Feet.L
theorem Boxed.below [Feet] [Box] {w w' : World} (h : Boxed w) (hb : Below w.heap.size w w') : Boxed w' :=
  ⟨(hb.cell (p := ⟨Box.B, 0, none⟩) h.lt).trans h.cell, Nat.lt_of_lt_of_le h.lt hb.size, Kd.C_below h.row hb⟩
/-- The closure. -/
abbrev CV [Box] : Value := .func (.func 73) #[] #[.pointer (some ⟨Box.B, 0, none⟩)]

def impl_FirstFeet_1.f [Feet] (i j : Int) : Option Int := if 0 ≤ i ∧ i < (Feet.L.length : Int) ∧ 0 ≤ j ∧ j < (Feet.L.length : Int) then cmp_Compare_int.f (rd Feet.L i) (rd Feet.L j) else none
set_option maxHeartbeats 8000000 in
set_option maxRecDepth 100000 in
theorem impl_FirstFeet_1.calls [Feet] [Box] (i j : Int) (r : Int) (w : World) (hA : Boxed w) (h : impl_FirstFeet_1.f i j = some r) :
    Calls Try.prog 73 #[.int .i64 i, .int .i64 j, .pointer (some ⟨Box.B, 0, none⟩)] w fun e w' => e = .returned (.int .i64 r) ∧ Drawn0 w w' := by
  unfold impl_FirstFeet_1.f at h
  by_cases hb : 0 ≤ i ∧ i < (Feet.L.length : Int) ∧ 0 ≤ j ∧ j < (Feet.L.length : Int)
  · rw [if_pos hb] at h
    obtain ⟨h0, h1, h2, h3⟩ := hb
    obtain ⟨ad, e, hx⟩ := Kd.at_int hA.row i h0 h1
    obtain ⟨ad', e', hy⟩ := Kd.at_int hA.row j h2 h3
    obtain rfl : ad = ad' := by rw [e] at e'; exact Option.some.inj e'
    have hc := hA.cell
    rw [e] at hc
    generalize rd Feet.L i = x at h hx
    generalize rd Feet.L j = y at h hy
    have HF := Aside0.mk h
    replace h0 := eq_true h0
    replace h1 := eq_true h1
    replace h2 := eq_true h2
    replace h3 := eq_true h3
    clear h hA e e'
    go_enter Try.func73, Try.ntmps73
    go_wp2
    repeat (go_quiet (first | (go_at_call 74; (with_reducible refine (cmp_Compare_int.calls x y r _ HF.out).mono ?_); rintro e w' ⟨rfl, ⟨nd, rfl⟩⟩; (try first | exact ⟨rfl, _, World.drewN_drewN _ _ _⟩ | exact ⟨rfl, _, Eq.trans (World.drewN_drewN _ _ _) (congrArg (World.drewN _) (Nat.add_assoc _ _ _))⟩))); try go_wp2_with (first | (go_at_call 74; (with_reducible refine (cmp_Compare_int.calls x y r _ HF.out).mono ?_); rintro e w' ⟨rfl, ⟨nd, rfl⟩⟩; (try first | exact ⟨rfl, _, World.drewN_drewN _ _ _⟩ | exact ⟨rfl, _, Eq.trans (World.drewN_drewN _ _ _) (congrArg (World.drewN _) (Nat.add_assoc _ _ _))⟩))))
    go_ret
    exact ⟨by first | rfl | (simp; done) | (simp [*]; done), by repeat (first | exact Drawn0.refl _ | apply Drawn0.step)⟩
  · rw [if_neg hb] at h
    cases h

/-- A call of a function value that stands in a temporary, in a region that draws its order. -/
theorem goesC_ {P : Program} {ops : Array Oper} {Q : Exit → Act → World → Prop} {oi : Oper} {N : Option Tmp} {a : Act} {w : World} {K : Act → World → Prop} {f : FuncId} {fn : Func} {ars : Array Operand} {ts : Array TypeId} (n : Tmp) (cb : Array Value) (hf : P.funcs[f]? = some fn) (hname : (fn.name == "runtime.NumGoroutine") = false) (hb : fn.body.isSome = true) (args : Array Value)
    (hw : Region.wanted oi (yielded ops a.tmps) = true) (hN : oi.dst = N) (hop : oi.op = .call { callee := .value (.tmp n), args := ars, argTypes := ts }) (hv : a.eval (.tmp n) = .func (.func f) #[] cb) (hargs : ars.map a.eval ++ cb = args)
    (h : Calls P f args w fun e w' => ∃ v, e = .returned v ∧ K (a.put N v) w') : if Region.wanted oi (yielded ops a.tmps) = true then Oper.wp P oi a w K Q else K (a.put N undef) w := by
  refine call_ f args hw hN ?_ h
  have he := enters_ hf hname hb args w
  unfold execOp
  simp [hop, hv, resolve, Deferred.ofValue, invoke, hargs, he]
end Go.Proofs.Ytagfnpocloaojaa.XShoeCmp
