/- The contract of impl.matched: called with two slices and one of the two functions of XGoes it returns what the Lean function 'mtc' does; nothing that was there is changed. -/
import Derived.Test.YtagfnpocloaojaaXFind
import Derived.Laws.EntriesVeiled
namespace Go.Proofs.Ytagfnpocloaojaa.XMatched
open Go.RowKit Go.Proofs.YtagfnpocloaojaaW.PrintWords Go.Proofs.YtagfnpocloaojaaW.PrintLast Go.Proofs.YtagfnpocloaojaaW.PrintMore
open Go.Proofs.Ytagfnpocloaojaa.QBase Go.Proofs.Ytagfnpocloaojaa.XFind
set_option linter.unusedVariables false
set_option linter.unusedSimpArgs false

def mtL (p : Int → Int → Bool) (a b : List Int) : List Nat → Int → List Int → Option Int
  | [], c, _ => some c
  | i :: is, c, v => (find p a b (b.length + 1) i (List.replicate b.length false) v).bind fun r => mtL p a b is (if r.1 = true then c + 1 else c) r.2.2
def mtc (p : Int → Int → Bool) (a b : List Int) : Option Int := if a.length ≤ 1000 ∧ b.length ≤ 1000 then mtL p a b (List.range a.length) 0 (List.replicate b.length (-1)) else none
theorem info4' : (Try.prog.info? 4).map (fun i => (i.zero, i.size, i.bytes)) = some (some (.bool false), 1, 1) := by kernel_rfl
theorem made4 (m : Nat) (hm : m ≤ 1000) (W : World) : (Instr.makeSlice 59 (.int .i64 (m : Int)) (.int .i64 (m : Int))).run Try.prog W = .ok (.slice (some ⟨W.heap.size, 0, none⟩) m m) (W.alloc (.cells (madeCells #[.bool false] m) 4)) :=
  run_make_row' 59 4 (.bool false) 1 Try.underlying59 info4' rfl .i64 .i64 m (by omega) (by omega) W
theorem made_row4 (m : Nat) : madeCells #[Value.bool false] m = (bools (List.replicate m false)).toArray := by
  apply Array.ext'
  apply List.ext_getElem
  · simp [bools, madeCells]
  · intro i h1 h2
    simp [bools, madeCells, Nat.mod_one]
theorem made_row3 (m : Nat) : madeCells #[Value.int .i64 0] m = (nums .i64 (List.replicate m 0)).toArray := by
  apply Array.ext'
  apply List.ext_getElem
  · simp [nums, madeCells]
  · intro i h1 h2
    simp [nums, madeCells, Nat.mod_one]
/-- The row of who goes with whom while it is laid. -/
def ini (m k : Nat) : List Int := List.replicate k (-1) ++ List.replicate (m - k) 0
theorem ini_len (m k : Nat) (h : k ≤ m) : (ini m k).length = m := by simp [ini]; omega
theorem ini_set (m k : Nat) (h : k < m) : (ini m k).set k (-1) = ini m (k + 1) := by
  unfold ini
  rw [List.set_append_right _ _ (by simp), List.length_replicate, Nat.sub_self]
  obtain ⟨j, hj⟩ : ∃ j, m - k = j + 1 := ⟨m - k - 1, by omega⟩
  rw [hj, List.replicate_succ, List.set_cons_zero, show m - (k + 1) = j from by omega, List.replicate_succ', List.append_assoc, List.singleton_append]

/-- A call of a function value that stands in a temporary, in a region that draws its order. -/
theorem goesC_ {P : Program} {ops : Array Oper} {Q : Exit → Act → World → Prop} {oi : Oper} {N : Option Tmp} {a : Act} {w : World} {K : Act → World → Prop} {f : FuncId} {fn : Func} {ars : Array Operand} {ts : Array TypeId} (n : Tmp) (cb : Array Value) (hf : P.funcs[f]? = some fn) (hname : (fn.name == "runtime.NumGoroutine") = false) (hb : fn.body.isSome = true) (args : Array Value)
    (hw : Region.wanted oi (yielded ops a.tmps) = true) (hN : oi.dst = N) (hop : oi.op = .call { callee := .value (.tmp n), args := ars, argTypes := ts }) (hv : a.eval (.tmp n) = .func (.func f) #[] cb) (hargs : ars.map a.eval ++ cb = args)
    (h : Calls P f args w fun e w' => ∃ v, e = .returned v ∧ K (a.put N v) w') : if Region.wanted oi (yielded ops a.tmps) = true then Oper.wp P oi a w K Q else K (a.put N undef) w := by
  refine call_ f args hw hN ?_ h
  have he := enters_ hf hname hb args w
  unfold execOp
  simp [hop, hv, resolve, Deferred.ofValue, invoke, hargs, he]
/-- What stands in memory behind the five blocks that the function lays first. -/
theorem laid5 (w : World) (v1 v2 v3 v5 : Value) (o : Obj) : ∃ W : World, ((((w.alloc (Obj.cells #[v1] 22)).alloc (Obj.cells #[v2] 22)).alloc (Obj.cells #[v3] 50)).alloc o).alloc (Obj.cells #[v5] 22) = W ∧
    W.heap[w.heap.size]? = some (Obj.cells #[v1] 22) ∧ W.heap[w.heap.size + 1]? = some (Obj.cells #[v2] 22) ∧ W.heap[w.heap.size + 1 + 1]? = some (Obj.cells #[v3] 50) ∧ W.heap[w.heap.size + 1 + 1 + 1]? = some o ∧ W.heap[w.heap.size + 1 + 1 + 1 + 1]? = some (Obj.cells #[v5] 22) ∧ W.heap.size = w.heap.size + 1 + 1 + 1 + 1 + 1 ∧ Below w.heap.size w W := by
  refine ⟨_, rfl, ?_, ?_, ?_, ?_, ?_, by simp, below_alloc (below_alloc (below_alloc (below_alloc (below_alloc (Below.refl _ _) _) _) _) _) _⟩
  · exact blk_alloc (blk_alloc (blk_alloc (blk_alloc (blk_new w _) _) _) _) _
  · have := blk_new (w.alloc (Obj.cells #[v1] 22)) (Obj.cells #[v2] 22)
    rw [show (w.alloc (Obj.cells #[v1] 22)).heap.size = w.heap.size + 1 from by simp] at this
    exact blk_alloc (blk_alloc (blk_alloc this _) _) _
  · have := blk_new ((w.alloc (Obj.cells #[v1] 22)).alloc (Obj.cells #[v2] 22)) (Obj.cells #[v3] 50)
    rw [show ((w.alloc (Obj.cells #[v1] 22)).alloc (Obj.cells #[v2] 22)).heap.size = w.heap.size + 1 + 1 from by simp] at this
    exact blk_alloc (blk_alloc this _) _
  · have := blk_new (((w.alloc (Obj.cells #[v1] 22)).alloc (Obj.cells #[v2] 22)).alloc (Obj.cells #[v3] 50)) o
    rw [show (((w.alloc (Obj.cells #[v1] 22)).alloc (Obj.cells #[v2] 22)).alloc (Obj.cells #[v3] 50)).heap.size = w.heap.size + 1 + 1 + 1 from by simp] at this
    exact blk_alloc this _
  · have := blk_new ((((w.alloc (Obj.cells #[v1] 22)).alloc (Obj.cells #[v2] 22)).alloc (Obj.cells #[v3] 50)).alloc o) (Obj.cells #[v5] 22)
    rw [show ((((w.alloc (Obj.cells #[v1] 22)).alloc (Obj.cells #[v2] 22)).alloc (Obj.cells #[v3] 50)).alloc o).heap.size = w.heap.size + 1 + 1 + 1 + 1 from by simp] at this
    exact this
theorem blk_kept {w W : World} {S : Nat → Prop} (hk : Kept w W S) {b : Nat} (hb : ¬ S b) {o : Obj} (h : w.heap[b]? = some o) : W.heap[b]? = some o := (hk.2 b (blk_lt h) hb).trans h

set_option maxHeartbeats 8000000 in
set_option maxRecDepth 100000 in
theorem matched (p : Int → Int → Bool) (g bS : Nat) (Aa Ab : Option Addr) (ca cb : Nat) (la lb : List Int) (sl : Int) (r : Int) (w : World)
    (eg : ∀ args w, (callFunc g args).run Try.prog w = .ok (.enter g args) w)
    (hp : ∀ (W : World) (x y : Int), W.cell? ⟨bS, 0, none⟩ = some (.int .i64 sl) → Calls Try.prog g #[.int .i64 x, .int .i64 y, .pointer (some ⟨bS, 0, none⟩)] W fun e w' => e = .returned (.bool (p x y)) ∧ Drawn0 W w')
    (hr0 : Kd.C (Kd.int .i64) w Aa la.length la) (hc0 : la.length ≤ ca) (hr1 : Kd.C (Kd.int .i64) w Ab lb.length lb) (hc1 : lb.length ≤ cb) (hS : w.cell? ⟨bS, 0, none⟩ = some (.int .i64 sl)) (h : mtc p la lb = some r) :
    Calls Try.prog 57 #[.slice Aa la.length ca, .slice Ab lb.length cb, .func (.func g) #[] #[.pointer (some ⟨bS, 0, none⟩)]] w fun e w' => e = .returned (.int .i64 r) ∧ Below w.heap.size w w' := by
  have HP := Aside0.mk hp
  have HR0 := Aside0.mk hr0
  have HR1 := Aside0.mk hr1
  have HSS := Aside0.mk hS
  clear hp hr0 hr1 hS
  unfold mtc at h
  by_cases hm : la.length ≤ 1000 ∧ lb.length ≤ 1000
  · rw [if_pos hm] at h
    obtain ⟨hm0, hm1⟩ := hm
    have HM := Aside0.mk h
    clear h
    have hmk := print_make (P := Try.prog) 22 3 .i64 8 Try.underlying22 info3 (by decide) lb.length (by omega)
    have e84 : ∀ args w, (callFunc 84 args).run Try.prog w = .ok (.enter 84 args) w := enters_of Try.func84 (by kernel_rfl) rfl
    go_enter Try.func57, Try.ntmps57
    go_wp2
    obtain ⟨W1, hW1, x1, x2, x3, x4, x5, hsz, hbl⟩ := laid5 w (.slice Aa la.length ca) (.slice Ab lb.length cb) (.func (.func g) #[] #[.pointer (some ⟨bS, 0, none⟩)]) (.slice (some ⟨w.heap.size + 1 + 1 + 1, 0, none⟩) lb.length lb.length) (Obj.cells (madeCells #[Value.int IntKind.i64 0] lb.length) 3)
    rw [hW1]
    clear hW1
    obtain ⟨h, hh⟩ : ∃ h : Nat, w.heap.size = h := ⟨_, rfl⟩
    rw [hh] at x1 x2 x3 x4 x5 hsz
    simp only [hh]
    have HH := Aside0.mk hh
    have X1 := Aside0.mk x1
    have X2 := Aside0.mk x2
    have X3 := Aside0.mk x3
    have X4 := Aside0.mk (show W1.heap[h + 1 + 1 + 1]? = some (rowV (ini lb.length 0)) from by rw [x4, made_row3]; rfl)
    have X5 := Aside0.mk x5
    have HSZ := Aside0.mk hsz
    have HBL := Aside0.mk hbl
    clear x1 x2 x3 x4 x5 hsz hbl hh
    go_loopg [17] lb.length (fun gg s17 wr => ∃ (kk : Nat), kk ≤ lb.length ∧ lb.length - kk ≤ gg ∧ s17 = .int .i64 kk ∧ Aside0 (wr.heap[h + 1 + 1 + 1]? = some (rowV (ini lb.length kk))) ∧ Aside0 (Kept W1 wr (fun k => k = h + 1 + 1 + 1)) ∧ Aside0 (Below w.heap.size w wr))
    case atStart => exact ⟨0, Nat.zero_le _, by omega, rfl, X4, ⟨Kept.refl _ _⟩, HBL⟩
    case round =>
      clear X4 HBL
      obtain ⟨kk, hkk, hg, rfl, HRV, HK, HB⟩ := hrel
      have X1 := Aside0.mk (blk_kept HK.out (by omega) X1.out)
      have X2 := Aside0.mk (blk_kept HK.out (by omega) X2.out)
      have X3 := Aside0.mk (blk_kept HK.out (by omega) X3.out)
      have X5 := Aside0.mk (blk_kept HK.out (by omega) X5.out)
      have hcW := (blk_cell X5.out 0).trans rfl
      have hcA := (blk_cell X1.out 0).trans rfl
      by_cases hlt : kk < lb.length
      · have hltz : decide ((kk : Int) < (lb.length : Int)) = true := decide_eq_true (by omega)
        have hnx : IntKind.i64.wrap ((kk : Int) + 1) = ((kk + 1 : Nat) : Int) := (i64_w _).trans (by unfold wrap64; omega)
        have h0 : (0 : Int) ≤ (kk : Int) := by omega
        have hlz : (kk : Int) < (lb.length : Int) := by omega
        have hvc := rowV_at HRV.out kk (by rw [ini_len _ _ hkk]; exact hlt)
        have hvf := blk_frozen HRV.out kk
        have HG := Aside0.mk (show lb.length - (kk + 1) < gk from by omega)
        clear hg
        go_wp2
        go_roundg (lb.length - (kk + 1))
        case measure => have := HG.out; omega
        case rel => exact ⟨kk + 1, by omega, by omega, by first | rfl | (rw [hnx]), ⟨by rw [← ini_set _ _ hlt]; exact rowV_set HRV.out kk (-1)⟩, ⟨Kept.setCell HK.out (.inl rfl) _⟩, ⟨below_set HB.out (by rw [HH.out]; omega)⟩⟩
      · have hltz : decide ((kk : Int) < (lb.length : Int)) = false := decide_eq_false (by omega)
        obtain rfl : kk = lb.length := by omega
        have hs1 : h < wr.heap.size := blk_lt X1.out
        have hs2 : h + 1 < wr.heap.size := blk_lt X2.out
        clear hg hcW
        have hcS := HSS.out
        have ENV0 : ∀ bF, wr.heap.size = bF → Aside0 (Env (wr.alloc (Obj.cells #[CF (h + 1) (h + 1 + 1) h (h + 1 + 1 + 1 + 1) bF] 65)) g (h + 1) (h + 1 + 1) h (h + 1 + 1 + 1 + 1) bF bS (h + 1 + 1 + 1) Aa Ab ca cb la lb sl) := by
          intro bF hbF
          subst hbF
          have hbW : Below w.heap.size w (wr.alloc (Obj.cells #[CF (h + 1) (h + 1 + 1) h (h + 1 + 1 + 1 + 1) wr.heap.size] 65)) := below_alloc HB.out _
          exact ⟨(blk_cell (blk_alloc X2.out _) 0).trans rfl, (blk_cell (blk_alloc X3.out _) 0).trans rfl, (blk_cell (blk_alloc X1.out _) 0).trans rfl, (blk_cell (blk_alloc X5.out _) 0).trans rfl, (blk_cell (blk_new _ _) 0).trans rfl, pw_cell_below hbW HSS.out, Kd.C_below HR0.out hbW, Kd.C_below HR1.out hbW⟩
        have HINI := Aside0.mk (show ini lb.length lb.length = List.replicate lb.length (-1) from by simp [ini])
        clear hcS
        go_wp2
        obtain ⟨bF, hbF⟩ : ∃ bF : Nat, wr.heap.size = bF := ⟨_, rfl⟩
        have ENV1 := ENV0 bF hbF
        clear ENV0
        have HRV1 := Aside0.mk (blk_alloc HRV.out (Obj.cells #[CF (h + 1) (h + 1 + 1) h (h + 1 + 1 + 1 + 1) bF] 65))
        have HB1 := Aside0.mk (below_alloc HB.out (Obj.cells #[CF (h + 1) (h + 1 + 1) h (h + 1 + 1 + 1 + 1) bF] 65))
        have HBF := Aside0.mk (show h + 1 + 1 + 1 + 1 < bF from by have := blk_lt X5.out; omega)
        simp only [hbF]
        clear hs1 hs2 hbF hcA
        obtain ⟨wo, rfl⟩ : ∃ wo : World, wo = wr := ⟨_, rfl⟩
        go_loopg [10, 27] la.length (fun gg s10 s27 wr => ∃ (ii : Nat) (c : Int) (v : List Int), ii ≤ la.length ∧ la.length - ii ≤ gg ∧ 0 ≤ c ∧ c ≤ (ii : Int) ∧ s10 = .int .i64 c ∧ s27 = .int .i64 ii ∧ Aside0 (mtL p la lb ((List.range la.length).drop ii) c v = some r) ∧ Aside0 (v.length = lb.length) ∧ Aside0 (wr.heap[h + 1 + 1 + 1]? = some (rowV v)) ∧ Aside0 (Env wr g (h + 1) (h + 1 + 1) h (h + 1 + 1 + 1 + 1) bF bS (h + 1 + 1 + 1) Aa Ab ca cb la lb sl) ∧ Aside0 (Below w.heap.size w wr))
        case atStart => exact ⟨0, 0, List.replicate lb.length (-1), Nat.zero_le _, by omega, by omega, by omega, rfl, rfl, HM, ⟨by simp⟩, ⟨by rw [← HINI.out]; exact HRV1.out⟩, ENV1, HB1⟩
        case round =>
          clear HM HRV1 ENV1 HB1 HINI HRV HK HB X1 X2 X3 X5
          obtain ⟨ii, c, v, hii, hg, hc0', hc1', rfl, rfl, HX, HLV, HRV, ENV, HB⟩ := hrel
          by_cases hlt : ii < la.length
          · have hltz : decide ((ii : Int) < (la.length : Int)) = true := decide_eq_true (by omega)
            have hnx : IntKind.i64.wrap ((ii : Int) + 1) = ((ii + 1 : Nat) : Int) := (i64_w _).trans (by unfold wrap64; omega)
            have hcx : IntKind.i64.wrap (c + 1) = c + 1 := (i64_w _).trans (by unfold wrap64; omega)
            have HG := Aside0.mk (show la.length - (ii + 1) < gk from by omega)
            clear hg
            have hstep := HX.out
            rw [drop_range _ _ hlt, mtL] at hstep
            obtain ⟨⟨r1, s2, v2⟩, hrec, hrest⟩ := Option.bind_eq_some_iff.1 hstep
            clear hstep HX
            have ED := Aside0.mk (show Env wr.drew g (h + 1) (h + 1 + 1) h (h + 1 + 1 + 1 + 1) bF bS (h + 1 + 1 + 1) Aa Ab ca cb la lb sl from ⟨ENV.out.cB, ENV.out.cG, ENV.out.cA, ENV.out.cW, ENV.out.cF, ENV.out.cS, Kd.C_drew ENV.out.rA, Kd.C_drew ENV.out.rB⟩)
            have hlF : bF < wr.heap.size := World.block_lt_of_cell? wr _ ENV.out.cF
            have hbel : Below wr.drew.heap.size wr.drew (wr.drew.alloc (.cells (madeCells #[.bool false] lb.length) 4)) := below_alloc (Below.refl _ _) _
            have hlS : bS < wr.heap.size := World.block_lt_of_cell? wr _ ENV.out.cS
            have hlS2 : bS < h := by have := World.block_lt_of_cell? w _ HSS.out; have := HH.out; simp only at *; omega
            have EM := Aside0.mk (show Env (wr.drew.alloc (.cells (madeCells #[.bool false] lb.length) 4)) g (h + 1) (h + 1 + 1) h (h + 1 + 1 + 1 + 1) bF bS (h + 1 + 1 + 1) Aa Ab ca cb la lb sl from ⟨pw_cell_below hbel ED.out.cB, pw_cell_below hbel ED.out.cG, pw_cell_below hbel ED.out.cA, pw_cell_below hbel ED.out.cW, pw_cell_below hbel ED.out.cF, pw_cell_below hbel ED.out.cS, Kd.C_below ED.out.rA hbel, Kd.C_below ED.out.rB hbel⟩)
            have hfb := HBF.out
            have hwh := HH.out
            have hqs : wr.drew.heap.size = wr.heap.size := rfl
            have hwr := HB.out.size
            have SEP := Aside0.mk (show Sep (h + 1) (h + 1 + 1) h (h + 1 + 1 + 1 + 1) bF bS wr.drew.heap.size (h + 1 + 1 + 1) Aa Ab la lb from ⟨by omega, by omega, by omega, by omega, by omega, by omega, fun ad e hn => by
              have h1 := Kd.far_C 0 HR0.out (g := h + 1 + 1 + 1) (by omega) ad e hn
              have h2 := Kd.far_C 0 HR0.out (g := wr.drew.heap.size) (by omega) ad e hn
              exact fun hh => hh.elim h2 h1, fun ad e hn => by
              have h1 := Kd.far_C 0 HR1.out (g := h + 1 + 1 + 1) (by omega) ad e hn
              have h2 := Kd.far_C 0 HR1.out (g := wr.drew.heap.size) (by omega) ad e hn
              exact fun hh => hh.elim h2 h1, by omega⟩)
            have hcall := find84 p g (h + 1) (h + 1 + 1) h (h + 1 + 1 + 1 + 1) bF bS (h + 1 + 1 + 1) Aa Ab ca cb la lb sl eg HP.out hm1 (lb.length + 1) (ii : Int) (List.replicate lb.length false) v r1 s2 v2 wr.drew.heap.size w (wr.drew.alloc (.cells (madeCells #[.bool false] lb.length) 4)) SEP.out EM.out (by omega) (by omega) (below_alloc (below_drew1 HB.out) _) (by simp) HLV.out (by rw [blk_new]; rw [made_row4]) (blk_alloc (w := wr.drew) HRV.out _) hrec
            have HCALL := Aside0.mk hcall
            have HREST := Aside0.mk hrest
            clear hcall hrec hrest hlF hbel hlS hlS2 hfb hwh hqs hwr
            cases r1 with
            | true =>
              replace HREST : Aside0 (mtL p la lb ((List.range la.length).drop (ii + 1)) (c + 1) v2 = some r) := ⟨by have := HREST.out; simpa using this⟩
              go_wp2
              refine start_ (n := 6) (S := fun w' => w'.cell? ⟨bF, 0, none⟩ = some (CF (h + 1) (h + 1 + 1) h (h + 1 + 1 + 1 + 1) bF) ∧ w'.cell? ⟨h + 1, 0, none⟩ = some (.slice Ab lb.length cb)) (ds := [5]) #[false, false, false, false, false, false] (by kernel_rfl) rfl rfl ⟨ED.out.cF, ED.out.cB⟩ (fun hHeld => ?_)
              refine take_ (i := 0) (N := some 30) (v := ?_) (a' := ?_) #[true, false, false, false, false, false] rfl rfl (by kernel_rfl) (fun _ _ _ h => h) (Or.inl ⟨by rfl, ?_⟩) hHeld ?_ ?_
              rotate_left
              · intro w' s0
                obtain ⟨s1_, s2_⟩ := s0
                go_simp
                with_reducible rfl
              rotate_left
              · simp only [Act.put, List.setIfInBounds_toArray, List.set_cons_zero, List.set_cons_succ]
                rfl
              refine pure_ (i := 1) (N := some 31) (v := ?_) (a' := ?_) #[true, true, false, false, false, false] rfl rfl (by kernel_rfl) (fun _ _ _ h => h) (Or.inl ⟨by rfl, ?_⟩) ?_ ?_
              rotate_left
              · intro w'
                go_simp
                with_reducible rfl
              rotate_left
              · simp only [Act.put, List.setIfInBounds_toArray, List.set_cons_zero, List.set_cons_succ]
                rfl
              refine take_ (i := 2) (N := some 32) (v := ?_) (a' := ?_) #[true, true, true, false, false, false] rfl rfl (by kernel_rfl) (fun _ _ _ h => h) (Or.inl ⟨by rfl, ?_⟩) hHeld ?_ ?_
              rotate_left
              · intro w' s0
                obtain ⟨s1_, s2_⟩ := s0
                go_simp
                with_reducible rfl
              rotate_left
              · simp only [Act.put, List.setIfInBounds_toArray, List.set_cons_zero, List.set_cons_succ]
                rfl
              refine pure_ (i := 3) (N := some 33) (v := ?_) (a' := ?_) #[true, true, true, true, false, false] rfl rfl (by kernel_rfl) (fun _ _ _ h => h) (Or.inl ⟨by rfl, ?_⟩) ?_ ?_
              rotate_left
              · intro w'
                go_simp
                with_reducible rfl
              rotate_left
              · simp only [Act.put, List.setIfInBounds_toArray, List.set_cons_zero, List.set_cons_succ]
                rfl
              refine one_ (i := 4) (N := some 34) #[true, true, true, true, true, false] rfl rfl (by kernel_rfl) (by decide) (fun K hK => ?_)
              refine value_ (v := .slice (some ⟨wr.drew.heap.size, 0, none⟩) lb.length lb.length) (w1 := wr.drew.alloc (.cells (madeCells #[.bool false] lb.length) 4)) (by rfl) rfl ?_ ?_
              · have hmk4 := made4 lb.length hm1
                go_simp
                try rfl
              refine hK.out _ _ ⟨EM.out.cF, EM.out.cB⟩ (fun hHeld => ?_)
              clear hK K
              refine norm_ (a' := ?_) ?_ ?_
              rotate_left
              · show Act.put _ (some 34) _ = _
                simp only [Act.put, List.setIfInBounds_toArray, List.set_cons_zero, List.set_cons_succ]
                rfl
              refine last_ (i := 5) (N := some 35) #[true, true, true, true, true, true] rfl rfl (by kernel_rfl) (by decide) (fun K hK => ?_)
              refine goesC_ 30 #[.pointer (some ⟨h + 1, 0, none⟩), .pointer (some ⟨h + 1 + 1, 0, none⟩), .pointer (some ⟨h, 0, none⟩), .pointer (some ⟨h + 1 + 1 + 1 + 1, 0, none⟩), .pointer (some ⟨bF, 0, none⟩)] Try.func84 (by kernel_rfl) rfl #[.int .i64 (ii : Int), .slice (some ⟨wr.drew.heap.size, 0, none⟩) lb.length lb.length, .pointer (some ⟨h + 1, 0, none⟩), .pointer (some ⟨h + 1 + 1, 0, none⟩), .pointer (some ⟨h, 0, none⟩), .pointer (some ⟨h + 1 + 1 + 1 + 1, 0, none⟩), .pointer (some ⟨bF, 0, none⟩)] (by rfl) rfl rfl (by rfl) (by (try simp only [List.map_toArray, List.map_cons, List.map_nil]); first | done | rfl | (simp; done)) ?_
              with_reducible refine HCALL.out.mono ?_
              rintro e w8 ⟨rfl, hl2, hl3, hr2, hr3, hk8, hb8⟩
              refine ⟨_, rfl, ?_⟩
              refine hK.out _ _ ?_
              clear hK K
              refine done_ (by kernel_rfl) ?_
              have HL3 := Aside0.mk hl3
              have HR3 := Aside0.mk hr3
              have E8 := Aside0.mk (EM.out.keep SEP.out hk8)
              have B8 := Aside0.mk hb8
              clear hl2 hl3 hr2 hr3 hk8 hb8 hHeld
              go_wp2
              go_roundg (la.length - (ii + 1))
              case measure => have := HG.out; omega
              case rel => exact ⟨ii + 1, c + 1, v2, by omega, by omega, by omega, by omega, by first | rfl | (rw [hcx]), by first | rfl | (rw [hnx]), HREST, HL3, HR3, E8, B8⟩
            | false =>
              replace HREST : Aside0 (mtL p la lb ((List.range la.length).drop (ii + 1)) c v2 = some r) := ⟨by have := HREST.out; simpa using this⟩
              go_wp2
              refine start_ (n := 6) (S := fun w' => w'.cell? ⟨bF, 0, none⟩ = some (CF (h + 1) (h + 1 + 1) h (h + 1 + 1 + 1 + 1) bF) ∧ w'.cell? ⟨h + 1, 0, none⟩ = some (.slice Ab lb.length cb)) (ds := [5]) #[false, false, false, false, false, false] (by kernel_rfl) rfl rfl ⟨ED.out.cF, ED.out.cB⟩ (fun hHeld => ?_)
              refine take_ (i := 0) (N := some 30) (v := ?_) (a' := ?_) #[true, false, false, false, false, false] rfl rfl (by kernel_rfl) (fun _ _ _ h => h) (Or.inl ⟨by rfl, ?_⟩) hHeld ?_ ?_
              rotate_left
              · intro w' s0
                obtain ⟨s1_, s2_⟩ := s0
                go_simp
                with_reducible rfl
              rotate_left
              · simp only [Act.put, List.setIfInBounds_toArray, List.set_cons_zero, List.set_cons_succ]
                rfl
              refine pure_ (i := 1) (N := some 31) (v := ?_) (a' := ?_) #[true, true, false, false, false, false] rfl rfl (by kernel_rfl) (fun _ _ _ h => h) (Or.inl ⟨by rfl, ?_⟩) ?_ ?_
              rotate_left
              · intro w'
                go_simp
                with_reducible rfl
              rotate_left
              · simp only [Act.put, List.setIfInBounds_toArray, List.set_cons_zero, List.set_cons_succ]
                rfl
              refine take_ (i := 2) (N := some 32) (v := ?_) (a' := ?_) #[true, true, true, false, false, false] rfl rfl (by kernel_rfl) (fun _ _ _ h => h) (Or.inl ⟨by rfl, ?_⟩) hHeld ?_ ?_
              rotate_left
              · intro w' s0
                obtain ⟨s1_, s2_⟩ := s0
                go_simp
                with_reducible rfl
              rotate_left
              · simp only [Act.put, List.setIfInBounds_toArray, List.set_cons_zero, List.set_cons_succ]
                rfl
              refine pure_ (i := 3) (N := some 33) (v := ?_) (a' := ?_) #[true, true, true, true, false, false] rfl rfl (by kernel_rfl) (fun _ _ _ h => h) (Or.inl ⟨by rfl, ?_⟩) ?_ ?_
              rotate_left
              · intro w'
                go_simp
                with_reducible rfl
              rotate_left
              · simp only [Act.put, List.setIfInBounds_toArray, List.set_cons_zero, List.set_cons_succ]
                rfl
              refine one_ (i := 4) (N := some 34) #[true, true, true, true, true, false] rfl rfl (by kernel_rfl) (by decide) (fun K hK => ?_)
              refine value_ (v := .slice (some ⟨wr.drew.heap.size, 0, none⟩) lb.length lb.length) (w1 := wr.drew.alloc (.cells (madeCells #[.bool false] lb.length) 4)) (by rfl) rfl ?_ ?_
              · have hmk4 := made4 lb.length hm1
                go_simp
                try rfl
              refine hK.out _ _ ⟨EM.out.cF, EM.out.cB⟩ (fun hHeld => ?_)
              clear hK K
              refine norm_ (a' := ?_) ?_ ?_
              rotate_left
              · show Act.put _ (some 34) _ = _
                simp only [Act.put, List.setIfInBounds_toArray, List.set_cons_zero, List.set_cons_succ]
                rfl
              refine last_ (i := 5) (N := some 35) #[true, true, true, true, true, true] rfl rfl (by kernel_rfl) (by decide) (fun K hK => ?_)
              refine goesC_ 30 #[.pointer (some ⟨h + 1, 0, none⟩), .pointer (some ⟨h + 1 + 1, 0, none⟩), .pointer (some ⟨h, 0, none⟩), .pointer (some ⟨h + 1 + 1 + 1 + 1, 0, none⟩), .pointer (some ⟨bF, 0, none⟩)] Try.func84 (by kernel_rfl) rfl #[.int .i64 (ii : Int), .slice (some ⟨wr.drew.heap.size, 0, none⟩) lb.length lb.length, .pointer (some ⟨h + 1, 0, none⟩), .pointer (some ⟨h + 1 + 1, 0, none⟩), .pointer (some ⟨h, 0, none⟩), .pointer (some ⟨h + 1 + 1 + 1 + 1, 0, none⟩), .pointer (some ⟨bF, 0, none⟩)] (by rfl) rfl rfl (by rfl) (by (try simp only [List.map_toArray, List.map_cons, List.map_nil]); first | done | rfl | (simp; done)) ?_
              with_reducible refine HCALL.out.mono ?_
              rintro e w8 ⟨rfl, hl2, hl3, hr2, hr3, hk8, hb8⟩
              refine ⟨_, rfl, ?_⟩
              refine hK.out _ _ ?_
              clear hK K
              refine done_ (by kernel_rfl) ?_
              have HL3 := Aside0.mk hl3
              have HR3 := Aside0.mk hr3
              have E8 := Aside0.mk (EM.out.keep SEP.out hk8)
              have B8 := Aside0.mk hb8
              clear hl2 hl3 hr2 hr3 hk8 hb8 hHeld
              go_wp2
              go_roundg (la.length - (ii + 1))
              case measure => have := HG.out; omega
              case rel => exact ⟨ii + 1, c, v2, by omega, by omega, by omega, by omega, by first | rfl | (rw [hcx]), by first | rfl | (rw [hnx]), HREST, HL3, HR3, E8, B8⟩
          · have hltz : decide ((ii : Int) < (la.length : Int)) = false := decide_eq_false (by omega)
            have hstep := HX.out
            rw [List.drop_eq_nil_of_le (by simp; omega), mtL] at hstep
            obtain rfl := Option.some.inj hstep
            clear HX hstep
            go_wp2
            go_ret
            exact ⟨rfl, HB.out⟩
  · rw [if_neg hm] at h; cases h
end Go.Proofs.Ytagfnpocloaojaa.XMatched
