/- The contract of impl.bestsOf: called with two slices it returns what the Lean function of its closure makes of the empty list and the state at its beginning, or nothing where these are no sizes; nothing that was there is changed. -/
import Derived.Test.YtagfnpocloaojaaQBestsx
import Derived.Laws.EntriesVeiled
import Derived.Shelf.Abstract
namespace Go.Proofs.Ytagfnpocloaojaa.XBests
open Go.RowKit Go.Proofs.YtagfnpocloaojaaW.PrintWords Go.Proofs.YtagfnpocloaojaaW.PrintLast Go.Proofs.YtagfnpocloaojaaW.PrintMore
open Go.Proofs.Ytagfnpocloaojaa.QBase Go.Proofs.Ytagfnpocloaojaa.XWithin Go.Proofs.Ytagfnpocloaojaa.QSizes Go.Proofs.Ytagfnpocloaojaa.XClone Go.Proofs.Ytagfnpocloaojaa.QBests
set_option linter.unusedVariables false

def impl_bestsOf.f (k : Nat) (l0 l1 : List Int) : Option (Int × Int × List Int × Int × Bool) := (impl_areTwo.f l0 l1).bind fun t => if t = true then (impl_bestsOf_1.f k [] l0 l1 420 60 [] 0 0).bind fun b => some (b.1, b.2.1, b.2.2.1, b.2.2.2, true) else some (0, 0, [], 0, false)
theorem impl_bestsOf.mono : ∀ a0 a1 k, LeO (impl_bestsOf.f k a0 a1) (impl_bestsOf.f (k + 1) a0 a1) := by
  intro a0 a1 k
  unfold impl_bestsOf.f
  refine LeO.bind (LeO.refl _) (fun t => LeO.ite (LeO.bind (impl_bestsOf_1.mono _ _ _ _ _ _ _ _ _) (fun b => LeO.refl _)) (LeO.refl _))

/-- What stands in memory behind the three blocks that the function lays first and a call that changes nothing. -/
theorem laid3 {w w2 : World} {v1 v2 : Value} {o : Obj} (hb : Below (((w.alloc (Obj.cells #[v1] 22)).alloc (Obj.cells #[v2] 22)).alloc o).heap.size (((w.alloc (Obj.cells #[v1] 22)).alloc (Obj.cells #[v2] 22)).alloc o) w2) :
    w2.heap[w.heap.size]? = some (Obj.cells #[v1] 22) ∧ w2.heap[w.heap.size + 1]? = some (Obj.cells #[v2] 22) ∧ w2.heap[w.heap.size + 1 + 1]? = some o ∧ w.heap.size + 1 + 1 + 1 ≤ w2.heap.size ∧ Below w.heap.size w w2 := by
  have hs := hb.size
  have e2 : ((w.alloc (Obj.cells #[v1] 22)).alloc (Obj.cells #[v2] 22)).heap.size = w.heap.size + 1 + 1 := by simp
  have e1 : (w.alloc (Obj.cells #[v1] 22)).heap.size = w.heap.size + 1 := by simp
  have b3 := blk_new ((w.alloc (Obj.cells #[v1] 22)).alloc (Obj.cells #[v2] 22)) o
  have b2 := blk_alloc (blk_new (w.alloc (Obj.cells #[v1] 22)) (Obj.cells #[v2] 22)) o
  have b1 := blk_alloc (blk_alloc (blk_new w (Obj.cells #[v1] 22)) (Obj.cells #[v2] 22)) o
  rw [e2] at b3
  rw [e1] at b2
  refine ⟨(hb.block _ (blk_lt b1)).trans b1, (hb.block _ (blk_lt b2)).trans b2, (hb.block _ (blk_lt b3)).trans b3, by simpa using hs, ?_⟩
  exact below_then (below_alloc (below_alloc (below_alloc (Below.refl _ _) _) _) _) (by simp; omega) hb

theorem call88 (k : Nat) (A0 : Option Addr) (c0 : Nat) (l0 : List Int) (A1 : Option Addr) (c1 : Nat) (l1 : List Int) (b : Int × Int × List Int × Int) (cs : Array Value) (w w2 : World) (hr0 : Kd.C (Kd.int .i64) w A0 l0.length l0) (hc0 : l0.length ≤ c0) (hr1 : Kd.C (Kd.int .i64) w A1 l1.length l1) (hc1 : l1.length ≤ c1)
    (hx1 : w2.heap[w.heap.size]? = some (Obj.cells #[.slice A0 l0.length c0] 22)) (hx2 : w2.heap[w.heap.size + 1]? = some (Obj.cells #[.slice A1 l1.length c1] 22)) (hx3 : w2.heap[w.heap.size + 1 + 1]? = some (Obj.cells cs 54)) (hsz : w.heap.size + 1 + 1 + 1 ≤ w2.heap.size) (hb : Below w.heap.size w w2)
    (h : impl_bestsOf_1.f k [] l0 l1 420 60 [] 0 0 = some b) :
    Calls Try.prog 88 #[.slice none 0 0, .pointer (some ⟨w.heap.size, 0, none⟩), .pointer (some ⟨w.heap.size + 1, 0, none⟩), .pointer (some ⟨w2.heap.size, 0, none⟩), .pointer (some ⟨w2.heap.size + 1, 0, none⟩)] ((w2.alloc (Obj.cells #[.int .i64 420, .int .i64 60, .slice none 0 0, .int .i64 0] 54)).alloc (Obj.cells #[CB w.heap.size (w.heap.size + 1) w2.heap.size (w2.heap.size + 1)] 61)) fun e w' => e = .returned (.tuple #[]) ∧ (∃ vF : Value, w'.heap[w2.heap.size]? = some (.cells #[.int .i64 b.1, .int .i64 b.2.1, vF, .int .i64 b.2.2.2] 54 (0, 0)) ∧ Kd.R (Kd.int .i64) 3 w' w.heap.size (fun k => k ≠ w.heap.size + 1 + 1) vF b.2.2.1) ∧ Below w.heap.size w w' ∧ w.heap.size + 1 + 1 + 1 ≤ w'.heap.size ∧ w'.heap[w.heap.size + 1 + 1]? = some (Obj.cells cs 54) := by
  obtain ⟨W, hW⟩ : ∃ W, ((w2.alloc (Obj.cells #[.int .i64 420, .int .i64 60, .slice none 0 0, .int .i64 0] 54)).alloc (Obj.cells #[CB w.heap.size (w.heap.size + 1) w2.heap.size (w2.heap.size + 1)] 61)) = W := ⟨_, rfl⟩
  have hWs : W.heap.size = w2.heap.size + 1 + 1 := by rw [← hW]; simp
  have y1 : W.heap[w.heap.size]? = some (Obj.cells #[.slice A0 l0.length c0] 22) := by rw [← hW]; exact blk_alloc (blk_alloc hx1 _) _
  have y2 : W.heap[w.heap.size + 1]? = some (Obj.cells #[.slice A1 l1.length c1] 22) := by rw [← hW]; exact blk_alloc (blk_alloc hx2 _) _
  have y3 : W.heap[w.heap.size + 1 + 1]? = some (Obj.cells cs 54) := by rw [← hW]; exact blk_alloc (blk_alloc hx3 _) _
  have y4 : W.heap[w2.heap.size]? = some (Obj.cells #[.int .i64 420, .int .i64 60, .slice none 0 0, .int .i64 0] 54) := by rw [← hW]; exact blk_alloc (blk_new w2 _) _
  have y5 : W.heap[w2.heap.size + 1]? = some (Obj.cells #[CB w.heap.size (w.heap.size + 1) w2.heap.size (w2.heap.size + 1)] 61) := by
    rw [← hW]
    have := blk_new (w2.alloc (Obj.cells #[.int .i64 420, .int .i64 60, .slice none 0 0, .int .i64 0] 54)) (Obj.cells #[CB w.heap.size (w.heap.size + 1) w2.heap.size (w2.heap.size + 1)] 61)
    rw [show (w2.alloc (Obj.cells #[.int .i64 420, .int .i64 60, .slice none 0 0, .int .i64 0] 54)).heap.size = w2.heap.size + 1 from by simp] at this
    exact this
  have hbW : Below w.heap.size w W := by rw [← hW]; exact below_alloc (below_alloc hb _) _
  rw [hW]
  refine (impl_bestsOf_1.calls w.heap.size (w.heap.size + 1) (w2.heap.size + 1) k none 0 [] A0 c0 l0 A1 c1 l1 w2.heap.size 420 60 [] 0 0 b.1 b.2.1 b.2.2.1 b.2.2.2 w W ⟨(blk_cell y1 0).trans rfl, (blk_cell y2 0).trans rfl, (blk_cell y5 0).trans rfl, by omega, by omega, by omega, by omega, by omega, by omega⟩ ⟨.slice none 0 0, y4, by omega, Kd.R_nil _ _ _ _ _⟩ hbW (Kd.C_nil _ _) (Nat.le_refl _) (fun _ h => by cases h) (Kd.C_below hr0 hbW) hc0 (Kd.far_C 0 hr0 (by omega)) (Kd.C_below hr1 hbW) hc1 (Kd.far_C 0 hr1 (by omega)) h).mono ?_
  rintro e w' ⟨rfl, ⟨vF, hg, _, hr⟩, hb', hk⟩
  have y3' : w'.heap[w.heap.size + 1 + 1]? = some (Obj.cells cs 54) := (hk.2 _ (by omega) (by omega) (by simp)).trans y3
  refine ⟨rfl, ⟨vF, hg, ?_⟩, hb', by have := hk.1; omega, y3'⟩
  exact Kd.R_mono (Kd.R_types hr y3' (by decide)) (fun _ h => h.2)

set_option maxHeartbeats 8000000 in
set_option maxRecDepth 100000 in
theorem impl_bestsOf.calls (k : Nat) (A0 : Option Addr) (c0 : Nat) (l0 : List Int) (A1 : Option Addr) (c1 : Nat) (l1 : List Int) (r1 r2 : Int) (r3 : List Int) (r4 : Int) (r5 : Bool) (w : World) (hr0 : Kd.C (Kd.int .i64) w A0 l0.length l0) (hc0 : l0.length ≤ c0) (hr1 : Kd.C (Kd.int .i64) w A1 l1.length l1) (hc1 : l1.length ≤ c1) (h : impl_bestsOf.f k l0 l1 = some (r1, r2, r3, r4, r5)) :
    Calls Try.prog 70 #[.slice A0 l0.length c0, .slice A1 l1.length c1] w fun e w' => ∃ v0_ : Value, e = .returned (.tuple #[.agg #[.int .i64 r1, .int .i64 r2, v0_, .int .i64 r4], .bool r5]) ∧ Kd.R (Kd.int .i64) 3 w' w.heap.size (fun _ => True) v0_ r3 ∧ Below w.heap.size w w' := by
  unfold impl_bestsOf.f at h
  obtain ⟨t, ht⟩ : ∃ t, impl_areTwo.f l0 l1 = some t := by
    cases hq : impl_areTwo.f l0 l1 with
    | none => rw [hq] at h; cases h
    | some t => exact ⟨t, rfl⟩
  rw [ht, Option.bind_some] at h
  have HR0 := Aside0.mk hr0
  have HC0 := Aside0.mk hc0
  have HR1 := Aside0.mk hr1
  have HC1 := Aside0.mk hc1
  clear hr0 hc0 hr1 hc1
  have HT := Aside0.mk ht
  have HB := Aside0.mk (Below.refl w.heap.size w)
  clear ht
  have hcalls : ∀ W : World, Below w.heap.size w W → Calls Try.prog 80 #[.slice A0 l0.length c0, .slice A1 l1.length c1] W fun e w' => e = .returned (.bool t) ∧ Below W.heap.size W w' :=
    fun W hb => impl_areTwo.calls A0 c0 l0 A1 c1 l1 t W (Kd.C_below HR0.out hb) HC0.out (Kd.C_below HR1.out hb) HC1.out HT.out
  have HCALL := Aside0.mk hcalls
  clear hcalls
  cases t with
  | false =>
    rw [if_neg (by decide)] at h
    simp only [Option.some.injEq, Prod.mk.injEq] at h
    obtain ⟨rfl, rfl, rfl, rfl, rfl⟩ := h
    go_enter Try.func70, Try.ntmps70
    go_wp2_with (first | ((with_reducible refine gate_callee (f := 80) rfl ?_); refine goesL_ (some 10) rfl rfl Try.func80 (by kernel_rfl) rfl #[.slice A0 l0.length c0, .slice A1 l1.length c1] rfl (by (try simp only [List.map_toArray, List.map_cons, List.map_nil]); first | done | rfl) ?_; (with_reducible refine (HCALL.out _ ?side1).mono ?_); (case side1 => repeat (first | (with_reducible first | exact HB.out | apply below_alloc | apply pw_below_drewN | apply below_drew1) | exact HB.out)); rintro e w2 ⟨rfl, hb⟩; refine ⟨_, rfl, ?_⟩; obtain ⟨hx1, hx2, hx3, hsz, hb3⟩ := laid3 hb; have HB3 := Aside0.mk hb3; clear hb hb3; have hcz0 := cellS54_0 hx3; have hcz1 := cellS54_1 hx3; have hcz2 := cellS54_2 hx3; have hcz3 := cellS54_3 hx3; have hfz0 := blk_frozen hx3 0; have hfz1 := blk_frozen hx3 1; have hfz2 := blk_frozen hx3 2; have hfz3 := blk_frozen hx3 3; clear hx1 hx2 hx3))
    refine bodyPost_ret (v := .tuple #[.agg #[.int .i64 0, .int .i64 0, .slice none 0 0, .int .i64 0], .bool false]) (by simp [results, Try.results70, go_sem, *]) rfl ⟨_, rfl, Kd.R_nil _ _ _ _ _, ?_⟩
    exact below_set (below_set (below_set (below_set HB3.out (by omega)) (by omega)) (by omega)) (by omega)
  | true =>
    rw [if_pos rfl] at h
    obtain ⟨b, hb⟩ : ∃ b, impl_bestsOf_1.f k [] l0 l1 420 60 [] 0 0 = some b := by
      cases hq : impl_bestsOf_1.f k [] l0 l1 420 60 [] 0 0 with
      | none => rw [hq] at h; cases h
      | some b => exact ⟨b, rfl⟩
    rw [hb, Option.bind_some] at h
    simp only [Option.some.injEq, Prod.mk.injEq] at h
    obtain ⟨rfl, rfl, rfl, rfl, rfl⟩ := h
    have HF := Aside0.mk hb
    clear hb
    have e88 : ∀ args w, (callFunc 88 args).run Try.prog w = .ok (.enter 88 args) w := enters_of Try.func88 (by kernel_rfl) rfl
    go_enter Try.func70, Try.ntmps70
    go_wp2_with (first | ((with_reducible refine gate_callee (f := 80) rfl ?_); refine goesL_ (some 10) rfl rfl Try.func80 (by kernel_rfl) rfl #[.slice A0 l0.length c0, .slice A1 l1.length c1] rfl (by (try simp only [List.map_toArray, List.map_cons, List.map_nil]); first | done | rfl) ?_; (with_reducible refine (HCALL.out _ ?side1).mono ?_); (case side1 => repeat (first | (with_reducible first | exact HB.out | apply below_alloc | apply pw_below_drewN | apply below_drew1) | exact HB.out)); rintro e w2 ⟨rfl, hb⟩; refine ⟨_, rfl, ?_⟩; obtain ⟨hx1, hx2, hx3, hsz, hb3⟩ := laid3 hb; have HB3 := Aside0.mk hb3; clear hb hb3; have hcz0 := cellS54_0 hx3; have hcz1 := cellS54_1 hx3; have hcz2 := cellS54_2 hx3; have hcz3 := cellS54_3 hx3; have hfz0 := blk_frozen hx3 0; have hfz1 := blk_frozen hx3 1; have hfz2 := blk_frozen hx3 2; have hfz3 := blk_frozen hx3 3; have hcb1 := blk_cell hx1 0; have hcb2 := blk_cell hx2 0; have HX1 := Aside0.mk hx1; have HX2 := Aside0.mk hx2; have HX3 := Aside0.mk hx3; clear hx1 hx2 hx3)| (go_at_fn 88; refine (call88 k A0 c0 l0 A1 c1 l1 b _ w w2 HR0.out HC0.out HR1.out HC1.out HX1.out HX2.out HX3.out hsz HB3.out HF.out).mono ?_; rintro e w' ⟨rfl, ⟨vF, hg, hr⟩, hb4, hsz4, hx4⟩; have HR4 := Aside0.mk hr; have HB4 := Aside0.mk hb4; clear hr hb4; obtain ⟨AF, cF, rfl⟩ := Kd.R_slice HR4.out; have hdz0 := cellS54_0 hx4; have hdz1 := cellS54_1 hx4; have hdz2 := cellS54_2 hx4; have hdz3 := cellS54_3 hx4; have hgz0 := blk_frozen hx4 0; have hgz1 := blk_frozen hx4 1; have hgz2 := blk_frozen hx4 2; have hgz3 := blk_frozen hx4 3; have hez0 := cellS54_0 hg; have hez1 := cellS54_1 hg; have hez2 := cellS54_2 hg; have hez3 := cellS54_3 hg; clear hg hx4 hcz0 hcz1 hcz2 hcz3 hfz0 hfz1 hfz2 hfz3 hcb1 hcb2))
    refine bodyPost_ret (v := .tuple #[.agg #[.int .i64 b.1, .int .i64 b.2.1, .slice AF b.2.2.1.length cF, .int .i64 b.2.2.2], .bool true]) (by simp [results, Try.results70, go_sem, *]) rfl ⟨_, rfl, ?_, ?_⟩
    · exact Kd.R_mono (Kd.R_far (Kd.R_far (Kd.R_far (Kd.R_far HR4.out (p := ⟨w.heap.size + 1 + 1, 0, none⟩) (fun _ h => h) _) (p := ⟨w.heap.size + 1 + 1, 1, none⟩) (fun _ h => h) _) (p := ⟨w.heap.size + 1 + 1, 2, none⟩) (fun _ h => h) _) (p := ⟨w.heap.size + 1 + 1, 3, none⟩) (fun _ h => h) _) (fun _ _ => trivial)
    · exact below_set (below_set (below_set (below_set HB4.out (by omega)) (by omega)) (by omega)) (by omega)
end Go.Proofs.Ytagfnpocloaojaa.XBests
