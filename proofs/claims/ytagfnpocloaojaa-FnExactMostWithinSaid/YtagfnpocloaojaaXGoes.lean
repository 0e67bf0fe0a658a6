/- The contracts of the two functions that impl.MostWithin and impl.MostFeet hand to impl.matched: each answers whether two sizes go together, by the number in its box; the world is left as it was but for draws. -/
import Derived.Shelf.Abstract
import Derived.Test.YtagfnpocloaojaaQBasex
namespace Go.Proofs.Ytagfnpocloaojaa.XGoes
open Go.RowKit Go.Proofs.YtagfnpocloaojaaW.PrintWords Go.Proofs.YtagfnpocloaojaaW.PrintLast Go.Proofs.YtagfnpocloaojaaW.PrintMore
open Go.Proofs.Ytagfnpocloaojaa.QBase

set_option maxHeartbeats 8000000 in
set_option maxRecDepth 100000 in
theorem apart (x y : Int) (w : World) : Calls Try.prog 59 #[.int .i64 x, .int .i64 y] w fun e w' => e = .returned (.int .i64 (mx (wrap64 (x - y)) (wrap64 (y - x)))) ∧ Drawn0 w w' := by
  obtain ⟨j, hj⟩ : ∃ j : Int, mx (wrap64 (x - y)) (wrap64 (y - x)) = j := ⟨_, rfl⟩
  rw [hj]
  have hj_ : (if (wrap64 (x - y)) < (wrap64 (y - x)) then (wrap64 (y - x)) else (wrap64 (x - y))) = j := hj
  go_enter Try.func59, Try.ntmps59
  go_wp2
  go_ret
  exact ⟨by first | rfl | (simp only [← hj]; rfl) | (simp [*]; done), by repeat (first | exact Drawn0.refl _ | apply Drawn0.step)⟩
def pW (sl x y : Int) : Bool := decide (mx (wrap64 (x - y)) (wrap64 (y - x)) ≤ sl)
def pF (sl x y : Int) : Bool := decide (0 ≤ wrap64 (y - x)) && decide (wrap64 (y - x) ≤ sl)
set_option maxHeartbeats 8000000 in
set_option maxRecDepth 100000 in
theorem goesW (sl x y : Int) (b : Nat) (w : World) (h1 : w.cell? ⟨b, 0, none⟩ = some (.int .i64 sl)) :
    Calls Try.prog 58 #[.int .i64 x, .int .i64 y, .pointer (some ⟨b, 0, none⟩)] w fun e w' => e = .returned (.bool (pW sl x y)) ∧ Drawn0 w w' := by
  unfold pW
  have hc := fun W => apart x y W
  generalize mx (wrap64 (x - y)) (wrap64 (y - x)) = j at hc ⊢
  have HC := Aside0.mk hc
  clear hc
  go_enter Try.func58, Try.ntmps58
  go_wp2
  repeat (go_quiet (first | (go_at_call 59; (with_reducible refine (HC.out _).mono ?_); rintro e w' ⟨rfl, ⟨nd, rfl⟩⟩; (try first | exact ⟨rfl, _, World.drewN_drewN _ _ _⟩ | exact ⟨rfl, _, Eq.trans (World.drewN_drewN _ _ _) (congrArg (World.drewN _) (Nat.add_assoc _ _ _))⟩))))
  try go_wp2
  go_ret
  exact ⟨by first | rfl | (simp; done), by repeat (first | exact Drawn0.refl _ | apply Drawn0.step)⟩
set_option maxHeartbeats 8000000 in
set_option maxRecDepth 100000 in
theorem goesF (sl x y : Int) (b : Nat) (w : World) (h1 : w.cell? ⟨b, 0, none⟩ = some (.int .i64 sl)) :
    Calls Try.prog 61 #[.int .i64 x, .int .i64 y, .pointer (some ⟨b, 0, none⟩)] w fun e w' => e = .returned (.bool (pF sl x y)) ∧ Drawn0 w w' := by
  unfold pF
  obtain ⟨j, hj⟩ : ∃ j : Int, wrap64 (y - x) = j := ⟨_, rfl⟩
  rw [hj]
  have hw : impl_within.f j 0 sl = some (decide (0 ≤ j) && decide (j ≤ sl)) := by
    unfold impl_within.f
    by_cases h : 0 ≤ j <;> simp [h]
  generalize (decide (0 ≤ j) && decide (j ≤ sl)) = r at hw ⊢
  have HB := Aside0.mk hw
  clear hw
  go_enter Try.func61, Try.ntmps61
  go_wp2_with (first | ((with_reducible refine gate_callee (f := 62) rfl ?_); refine goesL_ (some 10) rfl rfl Try.func62 (by kernel_rfl) rfl #[.int .i64 j, .int .i64 0, .int .i64 sl] rfl (by (try simp only [List.map_toArray, List.map_cons, List.map_nil]); first | done | (simp only [← hj]; rfl) | rfl) ?_; (with_reducible refine (impl_within.calls j 0 sl r _ HB.out).mono ?_); rintro e w' ⟨rfl, ⟨nd, rfl⟩⟩; refine ⟨_, rfl, ?_⟩))
  go_ret
  exact ⟨by first | rfl | (simp; done), by repeat (first | exact Drawn0.refl _ | apply Drawn0.step)⟩
end Go.Proofs.Ytagfnpocloaojaa.XGoes
