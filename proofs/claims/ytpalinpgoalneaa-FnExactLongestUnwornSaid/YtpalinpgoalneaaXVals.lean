/- The contract of slices.Sorted(slices.Values(x)) at slices of int: it returns a row of the call's own that holds x's numbers in ascending order; nothing that was there is changed. -/
import Derived.Shelf.SlIterI.Sorted
import Derived.Sort.LoopGhostIn
import Derived.Test.YtpalinpgoalneaaXLay
import Derived.Test.YtpalinpgoalneaaQBasex
namespace Go.Proofs.Ytpalinpgoalneaa.XVals
open Go.Sort hiding rd
open Go.RowKit Go.Maps Go.Shelf Go.Proofs.YtpalinpgoalneaaW.PrintWords Go.Proofs.YtpalinpgoalneaaW.PrintLast Go.Proofs.YtpalinpgoalneaaW.PrintMore
open Go.Proofs.Ytpalinpgoalneaa.QBase
set_option linter.unusedVariables false
set_option linter.unusedSimpArgs false

set_option maxHeartbeats 2000000 in
set_option maxRecDepth 100000 in
/-- The iterator: with whatever the loop keeps, if only the slice's cells stay. -/
theorem values1 (n l Bv : Nat) (hn : 1 ≤ n) (A : Option Addr) (c : Nat) (xs : List Int) (hlen : xs.length ≤ 1048576) (J : List Int → World → Prop)
    (hbx : ∀ s W, J s W → W.cell? ⟨Bv, 0, none⟩ = some (.slice A xs.length c)) (hrd : ∀ s W, J s W → Kd.C (Kd.int .i64) W A xs.length xs)
    (hY : ∀ pre x W1, J pre W1 → pre.length < xs.length → YieldAt Fence.wide (n - 1) Try.prog l #[.int .i64 x] W1 fun e W' => e = .returned (.bool true) ∧ J (pre ++ [x]) W' ∧ KeepsWalks W1 W')
    (W : World) (h0 : J [] W) :
    CallsIn Fence.wide n Try.prog 72 #[.func (.yield l) #[] #[], .pointer (some ⟨Bv, 0, none⟩)] W fun e W' => (∃ v, e = .returned v) ∧ J xs W' := by
  have hb0 := hbx [] W h0
  have HL := Aside0.mk hlen
  clear hlen
  refine callsIn_of_wp Try.func72 rfl trivial ?_ rfl
  simp only [Try.ntmps72, List.size_toArray, List.length_cons, List.length_nil, Nat.reduceAdd, Nat.reduceSub, Array.replicate_succ, Array.replicate_zero, List.push_toArray, List.append_toArray, List.nil_append, List.cons_append]
  gi_wp2
  gi_loopg [7] xs.length (fun g v7 wr => ∃ kk : Nat, kk ≤ xs.length ∧ xs.length - kk ≤ g ∧ v7 = .int .i64 kk ∧ Aside0 (J (xs.take kk) wr))
  case atStart => exact ⟨0, Nat.zero_le _, by omega, rfl, ⟨h0⟩⟩
  case round =>
    clear h0 hb0
    obtain ⟨kk, hkk, hg, rfl, HJ⟩ := hrel
    by_cases hlt : kk < xs.length
    · have hz1 : (kk : Int) < (xs.length : Int) := by omega
      obtain ⟨ad, ea, hx⟩ := Kd.at_int (hrd _ _ HJ.out) (kk : Int) (by omega) hz1
      cases ea
      have hxe : rd xs (kk : Int) = xs[kk] := by unfold rd; rw [Int.toNat_natCast, List.getD_eq_getElem?_getD, List.getElem?_eq_getElem hlt]; rfl
      have hnext : xs.take (kk + 1) = xs.take kk ++ [rd xs (kk : Int)] := by rw [hxe]; exact (List.take_append_getElem hlt).symm
      have HN := Aside0.mk hnext
      have HY := hY (xs.take kk) (rd xs (kk : Int)) wr HJ.out (by rw [List.length_take]; omega)
      obtain ⟨z, hz⟩ : ∃ z : Int, (kk : Int) = z := ⟨_, rfl⟩
      have HZ := Aside0.mk hz
      rw [hz] at hx hz1 HY HN
      have hz0 : 0 ≤ z := by omega
      have HG := Aside0.mk (show xs.length - (kk + 1) < gk from by omega)
      have hnx : IntKind.i64.wrap (z + 1) = z + 1 := (i64_w _).trans (by have := HL.out; unfold wrap64; omega)
      have hlz : decide (z < (xs.length : Int)) = true := decide_eq_true hz1
      generalize rd xs z = x at hx HY HN
      replace hz0 := eq_true hz0
      replace hz1 := eq_true hz1
      obtain ⟨fn, tmps, assign, body, hy, hR⟩ := HY
      rw [hz]
      clear hz hnext hxe
      gi_wp2
      refine hR.mono ?_
      rintro e W3 ⟨rfl, hJ3, hk3⟩
      gi_wp2
      gi_roundg (xs.length - (kk + 1))
      case measure => have := HG.out; omega
      case rel => exact ⟨kk + 1, by have := HZ.out; have := of_eq_true hz1; omega, by omega, by have := HZ.out; congr 1; omega, ⟨by rw [HN.out]; exact hJ3⟩⟩
    · have hlz : decide ((kk : Int) < (xs.length : Int)) = false := decide_eq_false (by omega)
      obtain rfl : kk = xs.length := by omega
      gi_wp2
      go_end0
      exact ⟨⟨_, rfl⟩, by have := HJ.out; rwa [List.take_length] at this⟩
set_option maxHeartbeats 4000000 in
set_option maxRecDepth 100000 in
/-- slices.AppendSeq(nil, slices.Values(x)): a row of the call's own that holds x's numbers. -/
theorem appendSeq (n Bv : Nat) (hn : 2 ≤ n) (A : Option Addr) (c : Nat) (xs : List Int) (hlen : xs.length ≤ 1048576) (w : World) (hbx : w.cell? ⟨Bv, 0, none⟩ = some (.slice A xs.length c)) (hrd : Kd.C (Kd.int .i64) w A xs.length xs) :
    CallsIn Fence.wide n Try.prog 73 #[.slice none 0 0, .func (.func 72) #[] #[.pointer (some ⟨Bv, 0, none⟩)]] w fun e w' => ∃ v, e = .returned v ∧ w'.ownsRow w.heap.size 3 1 v xs.length (xs.map encZ) ∧ Below w.heap.size w w' := by
  have h1 : 1 ≤ n := by omega
  refine callsIn_of_wp_marks Try.func73 rfl trivial ?_ rfl
  simp only [Try.ntmps73, List.size_toArray, List.length_cons, List.length_nil, Nat.reduceAdd, Nat.reduceSub, Array.replicate_succ, Array.replicate_zero, List.push_toArray, List.append_toArray, List.nil_append, List.cons_append]
  gi_wp2
  refine wpIn_rangeFunc ?_
  intro fn hfn
  rw [show (Fence.wide).round = none from rfl]
  obtain ⟨U, hU⟩ : ∃ U, w.alloc (.cells #[.slice none 0 0] 24) = U := ⟨_, rfl⟩
  have hUs : U.heap.size = w.heap.size + 1 := by rw [← hU]; simp
  have hUb : U.heap[w.heap.size]? = some (.cells #[.slice none 0 0] 24 (0, 0)) := by rw [← hU]; exact blk_new w _
  have hUw : Below w.heap.size w U := by rw [← hU]; exact below_alloc (Below.refl _ w) _
  rw [hU]
  obtain ⟨V, hV⟩ : ∃ V, (U.alloc (.deferred (some []))).alloc (.loop (AnyZI.apRec Try.laysAp_ren fn (.func (.func 72) #[] #[.pointer (some ⟨Bv, 0, none⟩)]) w.heap.size U.heap.size .ready none)) = V := ⟨_, rfl⟩
  have hVold : ∀ k, k < U.heap.size → V.heap[k]? = U.heap[k]? := fun k hk => by
    rw [← hV]
    exact (Below.heap_alloc _ _ k (by simp; omega)).trans (Below.heap_alloc _ _ k hk)
  have hVw : Below w.heap.size w V := by rw [← hV]; exact below_alloc (below_alloc hUw _) _
  have hstart : AnyZI.ApAt Try.laysAp_ren w fn (.func (.func 72) #[] #[.pointer (some ⟨Bv, 0, none⟩)]) w.heap.size (U.heap.size + 1) U.heap.size [] V := by
    refine ⟨⟨_, (hVold w.heap.size (by omega)).trans hUb, ⟨rfl, .inl ⟨rfl, rfl⟩⟩, by simp⟩, ?_, ?_, hVw⟩
    · rw [← hV]
      have := blk_new (U.alloc (.deferred (some []))) (.loop (AnyZI.apRec Try.laysAp_ren fn (.func (.func 72) #[] #[.pointer (some ⟨Bv, 0, none⟩)]) w.heap.size U.heap.size .ready none))
      rwa [World.size_alloc] at this
    · rw [← hV]
      exact (Below.heap_alloc _ _ _ (by simp)).trans (blk_new U _)
  refine ⟨U.heap.size + 1, [{ target := .collected U.heap.size, args := #[] }], V, { target := .fn (.func 72) #[.pointer (some ⟨Bv, 0, none⟩)], args := #[.func (.yield (U.heap.size + 1)) #[] #[]] }, V, 72, #[.func (.yield (U.heap.size + 1)) #[] #[], .pointer (some ⟨Bv, 0, none⟩)], V, ?_, ?_, ?_, ?_, fun _ => h1, ?_⟩
  · rw [← hV]
    exact run_enterLoop_outer _ _ _ _ _
  · simp [resolve, go_sem]
  · intro f' hf'
    trivial
  · have e72 := enters_of Try.func72 (by kernel_rfl) rfl
    simp [invoke, go_sem, e72]
  · have hlt : Bv < w.heap.size := World.block_lt_of_cell? w ⟨Bv, 0, none⟩ hbx
    refine (values1 (n - 1) (U.heap.size + 1) Bv (by omega) A c xs hlen (AnyZI.ApAt Try.laysAp_ren w fn (.func (.func 72) #[] #[.pointer (some ⟨Bv, 0, none⟩)]) w.heap.size (U.heap.size + 1) U.heap.size)
      (fun s W h => (h.below.cell hlt).trans hbx) (fun s W h => Kd.C_below hrd h.below)
      (fun pre x W h hl => AnyZI.apYield Try.laysAp Fence.wide (n - 1 - 1) w fn trivial _ w.heap.size (U.heap.size + 1) U.heap.size (by omega) (by omega) (by omega) (Nat.le_refl _) (by omega) 1048577 (by simp [maxLen]) (by omega) pre x W h (by omega)) V hstart).mono ?_
    rintro e W2 ⟨⟨v0, rfl⟩, h2⟩
    obtain ⟨v, hv, hrow, _⟩ := h2.box
    have hend := run_endLoop (P := Try.prog) h2.L (by simp [AnyZI.apRec])
    obtain ⟨W3, hW3⟩ : ∃ W3, W2.putObj (U.heap.size + 1) (.loop { AnyZI.apRec Try.laysAp_ren fn (.func (.func 72) #[] #[.pointer (some ⟨Bv, 0, none⟩)]) w.heap.size U.heap.size .ready none with state := .exhausted }) = W3 := ⟨_, rfl⟩
    rw [hW3] at hend
    have hgr : W2.grownBy W3 (some (U.heap.size + 1)) := by rw [← hW3]; exact grownBy_putObj_a _ _ _
    have hv3 : W3.heap[w.heap.size]? = some (.cells #[v] 24 (0, 0)) := by rw [← hW3]; exact (World.putObj_heap_other (by omega)).trans hv
    have hK3 : W3.heap[U.heap.size]? = some (.deferred (some [])) := by rw [← hW3]; exact (World.putObj_heap_other (by omega)).trans h2.K
    have hrow3 := hrow.kept hgr (ownsRow_ne_a hrow h2.L (fun cur e => by cases e))
    have hb3 : Below w.heap.size w W3 := h2.below.grown hgr h2.below.size (fun k e => by cases e; omega)
    have hc3 : W3.cell? ⟨w.heap.size, 0, none⟩ = some v := (blk_cell hv3 0).trans rfl
    clear hW3
    refine ⟨none, W3, hend, ?_⟩
    gi_wp2
    rw [← hUs]
    refine ⟨by simp, .inl ⟨_, _, rfl, run_takeDeferred hK3, ?_⟩⟩
    exact ⟨_, results_tmp rfl _ _ _, v, rfl, hrow3.kept (grownBy_putObj_a _ _ _) (ownsRow_ne_a hrow3 hK3 (fun cur e => by cases e)), hb3.grown (grownBy_putObj_a _ _ _) hb3.size (fun k e => by cases e; omega)⟩
theorem row_of_own {w : World} {base : Nat} {v : Value} {xs : List Int} (h : w.ownsRow base 3 1 v xs.length (xs.map encZ)) : Kd.R (Kd.int .i64) 3 w base (fun _ => True) v xs :=
  ⟨fun _ _ => trivial, xs.map encZ, h, Kd.reps_scalar (enc := Value.int .i64) xs⟩
/-- slices.Collect. -/
theorem collect (n Bv : Nat) (A : Option Addr) (c : Nat) (xs : List Int) (hlen : xs.length ≤ 1048576) (w : World) (hbx : w.cell? ⟨Bv, 0, none⟩ = some (.slice A xs.length c)) (hrd : Kd.C (Kd.int .i64) w A xs.length xs) :
    Calls Try.prog 70 #[.func (.func 72) #[] #[.pointer (some ⟨Bv, 0, none⟩)]] w fun e w' => ∃ v, e = .returned v ∧ w'.ownsRow w.heap.size 3 1 v xs.length (xs.map encZ) ∧ Below w.heap.size w w' := by
  have HC := Aside0.mk (callsIn_wide.1 (appendSeq 2 Bv (by omega) A c xs hlen w hbx hrd))
  clear hlen hbx hrd
  go_enter Try.func70, Try.ntmps70
  go_wp2_with (go_at_call 73; refine HC.out.mono ?_; rintro e w' ⟨v, rfl, hr, hb⟩)
  go_ret
  exact ⟨v, rfl, hr, hb⟩
/-- slices.Sort of a row of the call's own. -/
theorem sort (base : Nat) (v : Value) (xs : List Int) (hlen : xs.length ≤ 1048576) (W : World) (hr : W.ownsRow base 3 1 v xs.length (xs.map encZ)) :
    Calls Try.prog 71 #[v] W fun e w' => e = .returned (.tuple #[]) ∧ w'.ownsRow base 3 1 v xs.length ((xs.mergeSort fun x y => decide (x ≤ y)).map encZ) ∧ W.grownBy w' v.ownBlock := by
  rcases hr.2 with ⟨rfl, hz⟩ | ⟨gb, cap, cur, rfl, hbase, hgb, r1, r2, r3, r4⟩
  · have hxs : xs = [] := List.eq_nil_of_length_eq_zero hz
    subst hxs
    refine (Any.slices_Sort_int_none Try.laysSort none 0 W).mono ?_
    rintro e w' ⟨rfl, rfl⟩
    exact ⟨rfl, by simpa using hr, World.grownBy.refl _ _⟩
  · have hH : Holds encZ W gb 0 xs.toArray := holds_of_block_i hgb (by simpa using r4)
    have hgl : gb < W.heap.size := (Array.getElem?_eq_some_iff.1 hgb).1
    refine (Any.slices_Sort_int Try.laysSort gb 0 cap xs W hH hgl (by omega)).mono ?_
    rintro e w' ⟨rfl, nn, os, rfl⟩
    exact ⟨rfl, ownsRow_sorted_i (by simp) hbase hgb r1 r2 r3, grownBy_sorted_i _⟩
set_option maxHeartbeats 4000000 in
set_option maxRecDepth 100000 in
/-- slices.Sorted(slices.Values(x)). -/
theorem sorted (Bv : Nat) (A : Option Addr) (c : Nat) (xs : List Int) (hlen : xs.length ≤ 1048576) (w : World) (hbx : w.cell? ⟨Bv, 0, none⟩ = some (.slice A xs.length c)) (hrd : Kd.C (Kd.int .i64) w A xs.length xs) :
    Calls Try.prog 67 #[.func (.func 72) #[] #[.pointer (some ⟨Bv, 0, none⟩)]] w fun e w' => ∃ v, e = .returned v ∧ Kd.R (Kd.int .i64) 3 w' w.heap.size (fun _ => True) v (xs.mergeSort fun x y => decide (x ≤ y)) ∧ Below w.heap.size w w' := by
  have HC := Aside0.mk (collect 2 Bv A c xs hlen w hbx hrd)
  have HS := Aside0.mk (fun v W => sort w.heap.size v xs hlen W)
  clear hlen hbx hrd
  go_enter Try.func67, Try.ntmps67
  go_wp2_with (first | (go_at_call 70; refine HC.out.mono ?_; rintro e w1 ⟨v, rfl, hr, hb⟩; have HR := Aside0.mk hr; have HB := Aside0.mk hb; clear hr hb) | (go_at_call 71; refine (HS.out _ _ HR.out).mono ?_; rintro e w2 ⟨rfl, hr, hg⟩))
  go_ret
  exact ⟨v, rfl, row_of_own (by simpa using hr), HB.out.grown hg HB.out.size (fun k e => (HR.out.lt k e).1)⟩
end Go.Proofs.Ytpalinpgoalneaa.XVals
