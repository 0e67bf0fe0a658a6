/- The contracts of the reference's dyStart, dyBefore and dyList: the state of a wash in the morning of a day, and the pairs that are worn. -/
import Derived.Test.YtpalinpgoalneaaXSt
namespace Go.Proofs.Ytpalinpgoalneaa.XSu
open Go.RowKit Go.Proofs.YtpalinpgoalneaaW.PrintWords Go.Proofs.YtpalinpgoalneaaW.PrintLast Go.Proofs.YtpalinpgoalneaaW.PrintMore
open Go.Proofs.Ytpalinpgoalneaa.QBase Go.Proofs.Ytpalinpgoalneaa.PD Go.Proofs.Ytpalinpgoalneaa.XSt
set_option linter.unusedVariables false
set_option linter.unusedSimpArgs false
set_option maxHeartbeats 8000000 in
set_option maxRecDepth 100000 in
theorem dyStart {w : World} {P E D : Int} {n : Nat} (hP : P = (n : Int)) (hn : 1 ≤ n) (hN : n ≤ 30) :
    Calls Try.prog 56 #[.agg #[.int .i64 P, .int .i64 E, .int .i64 D]] w fun e w' => ∃ b gc gl cc cl, e = .returned (.pointer (some ⟨b, 0, none⟩)) ∧ St w' w.heap.size b gc gl cc cl (List.replicate n 0) (List.replicate n (-1)) ∧ Below w.heap.size w w' := by
  have HNB := Aside0.mk hN
  have HN1 := Aside0.mk hn
  have HPN := Aside0.mk hP
  have hu27 := Try.underlying27
  have hu57 := Try.underlying57
  clear hn hN hP
  go_enter Try.func56, Try.ntmps56
  go_wp2_with (first | ((with_reducible refine gate_dst (N := 1) rfl ?_); refine box_event ?hg (N := 1) ?hd (cs := #[.int .i64 P, .int .i64 E, .int .i64 D]) (t := 27) ?hr ?_; (case hd => rfl); (case hg => rfl); (case hr => first | (go_simp; done) | (go_simp; rfl)); intro gw hg w1 hbox hb; have hcgw_0 : w1.cell? ⟨gw, 0, none⟩ = some (.int .i64 P) := (blk_cell hbox 0).trans rfl; have hfgw_0 := blk_frozen hbox 0; have hcgw_1 : w1.cell? ⟨gw, 1, none⟩ = some (.int .i64 E) := (blk_cell hbox 1).trans rfl; have hfgw_1 := blk_frozen hbox 1; have hcgw_2 : w1.cell? ⟨gw, 2, none⟩ = some (.int .i64 D) := (blk_cell hbox 2).trans rfl; have hfgw_2 := blk_frozen hbox 2; have HB := Aside0.mk hb; have HX := Aside0.mk hbox; clear hb hg hbox) | ((with_reducible refine gate_dst (N := 6) rfl ?_); refine box_event ?hg (N := 6) ?hd (cs := #[.slice none 0 0, .slice none 0 0]) (t := 57) ?hr ?_; (case hd => rfl); (case hg => rfl); (case hr => first | (go_simp; done) | (go_simp; rfl)); intro b hg w2 hbox hb; have HX2 := Aside0.mk (blk_below HX.out hb); have HBK := Aside0.mk hbox; have HBG := Aside0.mk (show w.heap.size ≤ b by rw [hg]; exact HB.out.size); have HB2 := Aside0.mk (HB.out.trans (hb.mono HB.out.size)); clear hb hg hbox HB HX))
  have HNE := Aside0.mk (show gw ≠ b from blk_ne HX2.out HBK.out (by decide))
  go_loopg [4] n (fun gg v4 wr => ∃ (kk : Nat) (vc vl : Value), kk ≤ n ∧ n - kk ≤ gg ∧ v4 = .int .i64 kk ∧ Aside0 (wr.heap[gw]? = some (.cells #[.int .i64 P, .int .i64 E, .int .i64 D] 27 (0, 0))) ∧ Aside0 (wr.heap[b]? = some (.cells #[vc, vl] 57 (0, 0))) ∧ Aside0 (Kd.R (Kd.int .i64) 3 wr w.heap.size (fun k => True ∧ some k ≠ vl.ownBlock) vc (List.replicate kk 0)) ∧ Aside0 (Kd.R (Kd.int .i64) 3 wr w.heap.size (fun k => True ∧ some k ≠ vc.ownBlock) vl (List.replicate kk (-1))) ∧ Aside0 (Below w.heap.size w wr))
  case atStart => exact ⟨0, .slice none 0 0, .slice none 0 0, Nat.zero_le _, by omega, rfl, HX2, HBK, ⟨Kd.R_nil _ _ _ _ _⟩, ⟨Kd.R_nil _ _ _ _ _⟩, HB2⟩
  case round =>
    clear HX2 HBK HB2
    obtain ⟨kk, vc, vl, hkk, hg, rfl, HX, HBK, HC, HL, HB⟩ := hrel
    have hgw := (show wr.cell? ⟨gw, 0, none⟩ = some (.int .i64 P) from (blk_cell HX.out 0).trans rfl)
    by_cases hlt : kk < n
    · obtain ⟨z, hz⟩ : ∃ z : Int, (kk : Int) = z := ⟨_, rfl⟩
      have HZ := Aside0.mk hz
      have hltz : z < P := by rw [HPN.out]; omega
      have hz2 : z ≤ 1048576 := by have := HNB.out; omega
      have hz0 : 0 ≤ z := by omega
      have HG := Aside0.mk (show n - (kk + 1) < gk from by omega)
      have hnx : IntKind.i64.wrap (z + 1) = z + 1 := (i64_w _).trans (by unfold wrap64; omega)
      have hltz' : decide (z < P) = true := decide_eq_true hltz
      have HLT := Aside0.mk hlt
      have hb0 : wr.cell? ⟨b, 0, none⟩ = some vc := (blk_cell HBK.out 0).trans rfl
      have HF0 := blk_frozen HBK.out 0
      have he1 : vc.oneCell' = true := (Kd.R_val HC.out).2
      have he2 : vl.oneCell' = true := (Kd.R_val HL.out).2
      obtain ⟨yc, hyc⟩ : ∃ y, List.replicate kk (0 : Int) = y := ⟨_, rfl⟩
      obtain ⟨yl, hyl⟩ : ∃ y, List.replicate kk (-1 : Int) = y := ⟨_, rfl⟩
      rw [hyc] at HC
      rw [hyl] at HL
      have HLC := Aside0.mk (show yc.length ≤ 30 from by rw [← hyc, List.length_replicate]; have := HNB.out; omega)
      have HLLL := Aside0.mk (show yl.length ≤ 30 from by rw [← hyl, List.length_replicate]; have := HNB.out; omega)
      have HSC := Aside0.mk (show List.replicate (kk + 1) (0 : Int) = yc ++ [0] from by rw [← hyc]; exact List.replicate_succ')
      have HSL := Aside0.mk (show List.replicate (kk + 1) (-1 : Int) = yl ++ [-1] from by rw [← hyl]; exact List.replicate_succ')
      rw [hz]
      clear hz hyc hyl hlt
      go_wp2_with (first | ((with_reducible refine gate_builtin (b := .append) (xs := #[.tmp 17, .tmp 18]) rfl ?_); at_builtin; refine Kd.R_append (Kd.int .i64) (w0 := w) (w.heap.size) rfl (.tmp 17) (.tmp 18) 24 3 (.int .i64 0) 8 rfl Try.underlying24 info3 rfl (by decide) (by omega) (vc) (yc) (0) [.int .i64 (0)] (fun k => True ∧ some k ≠ vl.ownBlock) (fun _ => False) rfl rfl ?aP (fun _ hk => hk.elim) ?aF ?aO ?aB ?aS ?aL ?_; (case aP => exact rfl); (case aB => exact (by repeat (first | (with_reducible first | exact HB.out | apply below_alloc | apply pw_below_drewN | apply below_drew1) | exact HB.out))); (case aF => exact (fun k hk => ⟨trivial, Kd.fresh' (Kd.R_lt HL.out) k hk⟩)); (case aO => exact (by (with_reducible repeat (first | apply Kd.R_alloc | apply Kd.R_drewN | apply Kd.R_drew)); exact HC.out)); (case aS => exact (below_size (by repeat (first | (with_reducible first | exact HB.out | apply below_alloc | apply pw_below_drewN | apply below_drew1) | exact HB.out)))); (case aL => have := HLC.out; simp; omega); intro v1 w1 ho hb hg hat; obtain ⟨A1, c1, e1⟩ := Kd.R_slice ho; generalize (yc ++ [0]).length = m1 at e1; subst e1; have HNEV := Aside0.mk (Kd.R_ne HC.out HBK.out (by decide)); have HNEW := Aside0.mk (Kd.R_ne HC.out HX.out (by decide)); have n0 := Aside0.mk ho; have n1 := Aside0.mk (Kd.R_after (ok := fun _ => True) HL.out hg hat); have n2 := Aside0.mk hb; have n3 := Aside0.mk (blk_grown HBK.out hg HNEV.out); have n4 := Aside0.mk (blk_grown HX.out hg HNEW.out); have hf1 := blk_frozen n3.out 0; have hb2 : w1.cell? ⟨b, 0, none⟩ = some vc := (blk_cell n3.out 0).trans rfl; clear HC HL HB HBK HX ho hb hg hat HNEV HNEW hb0 hgw; have HC := n0; have HL := n1; have HB := n2; have HBK := n3; have HX := n4; clear n0 n1 n2 n3 n4) | ((with_reducible refine gate_store (t := 24) (p := 21) rfl ?_); refine store_event (t := 24) (p := 21) (v := ?vo21) (w1 := (w1.setCell ⟨b, 0, none⟩ (.slice A1 m1 c1 : Value))) ?hg ?ho ?hn ?hr ?_; (case ho => rfl); (case hg => rfl); (case hn => rfl); (case hr => first | (go_simp; done) | (go_simp; rfl)); intro w2 hw; have n0 := Aside0.mk (show w2.heap[b]? = some (.cells #[(.slice A1 m1 c1 : Value), vl] 57 (0, 0)) from by rw [hw]; exact blk_put HBK.out 0 (.slice A1 m1 c1 : Value) rfl); have n1 := Aside0.mk (show w2.heap[gw]? = some (.cells #[.int .i64 P, .int .i64 E, .int .i64 D] 27 (0, 0)) from by rw [hw]; exact (Below.heap_setCell w1 ⟨b, 0, none⟩ _ gw HNE.out).trans HX.out); have n2 := Aside0.mk (show Below w.heap.size w w2 from by rw [hw]; exact below_set HB.out HBG.out); have n3 := Aside0.mk (show Kd.R (Kd.int .i64) 3 w2 w.heap.size (fun k => True ∧ some k ≠ vl.ownBlock) (.slice A1 m1 c1 : Value) (yc ++ [0]) from by rw [hw]; exact Kd.R_set HC.out HBK.out (by simp [Kd.int, Kd.scalar]) 0 (.slice A1 m1 c1 : Value)); have n4 := Aside0.mk (show Kd.R (Kd.int .i64) 3 w2 w.heap.size (fun k => True ∧ some k ≠ (.slice A1 m1 c1 : Value).ownBlock) vl yl from by rw [hw]; exact Kd.R_set HL.out HBK.out (by simp [Kd.int, Kd.scalar]) 0 (.slice A1 m1 c1 : Value)); have hb0 : w2.cell? ⟨b, 1, none⟩ = some vl := (blk_cell n0.out 1).trans rfl; have hfb := blk_frozen n0.out 1; clear hw HC HL HB HBK HX hb2 hf1; have HBK := n0; have HX := n1; have HB := n2; have HC := n3; have HL := n4; clear n0 n1 n2 n3 n4) | ((with_reducible refine gate_builtin (b := .append) (xs := #[.tmp 26, .tmp 27]) rfl ?_); at_builtin; refine Kd.R_append (Kd.int .i64) (w0 := w) (w.heap.size) rfl (.tmp 26) (.tmp 27) 24 3 (.int .i64 0) 8 rfl Try.underlying24 info3 rfl (by decide) (by omega) (vl) (yl) (-1) [.int .i64 (-1)] (fun k => True ∧ some k ≠ (.slice A1 m1 c1 : Value).ownBlock) (fun _ => False) rfl rfl ?aP (fun _ hk => hk.elim) ?aF ?aO ?aB ?aS ?aL ?_; (case aP => exact rfl); (case aB => exact (by repeat (first | (with_reducible first | exact HB.out | apply below_alloc | apply pw_below_drewN | apply below_drew1) | exact HB.out))); (case aF => exact (fun k hk => ⟨trivial, Kd.fresh' (Kd.R_lt HC.out) k hk⟩)); (case aO => exact (by (with_reducible repeat (first | apply Kd.R_alloc | apply Kd.R_drewN | apply Kd.R_drew)); exact HL.out)); (case aS => exact (below_size (by repeat (first | (with_reducible first | exact HB.out | apply below_alloc | apply pw_below_drewN | apply below_drew1) | exact HB.out)))); (case aL => have := HLLL.out; simp; omega); intro v2 w3 ho hb hg hat; obtain ⟨A2, c2, e2⟩ := Kd.R_slice ho; generalize (yl ++ [-1]).length = m2 at e2; subst e2; have HNEV := Aside0.mk (Kd.R_ne HL.out HBK.out (by decide)); have HNEW := Aside0.mk (Kd.R_ne HL.out HX.out (by decide)); have n0 := Aside0.mk ho; have n1 := Aside0.mk (Kd.R_after (ok := fun _ => True) HC.out hg hat); have n2 := Aside0.mk hb; have n3 := Aside0.mk (blk_grown HBK.out hg HNEV.out); have n4 := Aside0.mk (blk_grown HX.out hg HNEW.out); have hf1 := blk_frozen n3.out 1; have hb2 : w3.cell? ⟨b, 1, none⟩ = some vl := (blk_cell n3.out 1).trans rfl; clear HC HL HB HBK HX ho hb hg hat HNEV HNEW hb0; have HL := n0; have HC := n1; have HB := n2; have HBK := n3; have HX := n4; clear n0 n1 n2 n3 n4) | ((with_reducible refine gate_store (t := 24) (p := 30) rfl ?_); refine store_event (t := 24) (p := 30) (v := ?vo30) (w1 := (w3.setCell ⟨b, 1, none⟩ (.slice A2 m2 c2 : Value))) ?hg ?ho ?hn ?hr ?_; (case ho => rfl); (case hg => rfl); (case hn => rfl); (case hr => first | (go_simp; done) | (go_simp; rfl)); intro w4 hw; have n0 := Aside0.mk (show w4.heap[b]? = some (.cells #[(.slice A1 m1 c1 : Value), (.slice A2 m2 c2 : Value)] 57 (0, 0)) from by rw [hw]; exact blk_put HBK.out 1 (.slice A2 m2 c2 : Value) rfl); have n1 := Aside0.mk (show w4.heap[gw]? = some (.cells #[.int .i64 P, .int .i64 E, .int .i64 D] 27 (0, 0)) from by rw [hw]; exact (Below.heap_setCell w3 ⟨b, 1, none⟩ _ gw HNE.out).trans HX.out); have n2 := Aside0.mk (show Below w.heap.size w w4 from by rw [hw]; exact below_set HB.out HBG.out); have n3 := Aside0.mk (show Kd.R (Kd.int .i64) 3 w4 w.heap.size (fun k => True ∧ some k ≠ (.slice A2 m2 c2 : Value).ownBlock) (.slice A1 m1 c1 : Value) (yc ++ [0]) from by rw [hw]; exact Kd.R_set HC.out HBK.out (by simp [Kd.int, Kd.scalar]) 1 (.slice A2 m2 c2 : Value)); have n4 := Aside0.mk (show Kd.R (Kd.int .i64) 3 w4 w.heap.size (fun k => True ∧ some k ≠ (.slice A1 m1 c1 : Value).ownBlock) (.slice A2 m2 c2 : Value) (yl ++ [-1]) from by rw [hw]; exact Kd.R_set HL.out HBK.out (by simp [Kd.int, Kd.scalar]) 1 (.slice A2 m2 c2 : Value)); clear hw HC HL HB HBK HX hb2 hf1; have HBK := n0; have HX := n1; have HB := n2; have HC := n3; have HL := n4; clear n0 n1 n2 n3 n4))
      go_roundg (n - (kk + 1))
      case measure => have := HG.out; omega
      case rel => exact ⟨kk + 1, _, _, by have := HLT.out; omega, by omega, by have := HZ.out; congr 1; omega, HX, HBK, ⟨by rw [HSC.out]; exact HC.out⟩, ⟨by rw [HSL.out]; exact HL.out⟩, HB⟩
    · have hltz : decide ((kk : Int) < P) = false := decide_eq_false (by rw [HPN.out]; omega)
      obtain rfl : kk = n := by omega
      go_wp2
      go_ret
      obtain ⟨gc, cc, ec, _⟩ := Kd.R_form HC.out (by rw [List.length_replicate]; exact HN1.out)
      obtain ⟨gl, cl, el, _⟩ := Kd.R_form HL.out (by rw [List.length_replicate]; exact HN1.out)
      subst ec
      subst el
      have h1 := Kd.R_ne HC.out HBK.out (by decide)
      have h2 := Kd.R_ne HL.out HBK.out (by decide)
      have h3 := (HC.out.1 gc rfl).2
      refine ⟨b, gc, gl, cc, cl, rfl, ?_, HB.out⟩
      exact ⟨HBK.out, HBG.out, fun e => h1 (by rw [e]; rfl), fun e => h2 (by rw [e]; rfl), fun e => h3 (by rw [e]; rfl), Kd.R_flat (fun h => h) HC.out (fun k hk _ => (Option.some.inj hk).symm), Kd.R_flat (fun h => h) HL.out (fun k hk _ => (Option.some.inj hk).symm)⟩
theorem st_nextC (n : Nat) (E D : Int) (kk : Nat) : washC E D kk (wC (st n E D kk).1 (pk (st n E D kk).1 (st n E D kk).2 kk n)) n = (st n E D (kk + 1)).1 := by
  have hl := (st_len n E D kk).1
  show _ = nextC E D (st n E D kk).1 (st n E D kk).2 kk
  unfold nextC washC
  dsimp only
  rw [wC_len, hl]
theorem st_nextL (n : Nat) (E D : Int) (kk : Nat) : wL (st n E D kk).2 (pk (st n E D kk).1 (st n E D kk).2 kk n) kk = (st n E D (kk + 1)).2 := by
  have hl := (st_len n E D kk).1
  show _ = nextL (st n E D kk).1 (st n E D kk).2 kk
  unfold nextL
  rw [hl]
def wl (n : Nat) (E D : Int) (kk : Nat) : List Int := (List.range kk).map fun i => dWorn n E D i
theorem wl_succ (n : Nat) (E D : Int) (kk : Nat) : wl n E D (kk + 1) = wl n E D kk ++ [pk (st n E D kk).1 (st n E D kk).2 kk n] := by
  unfold wl
  rw [List.range_succ, List.map_append]
  rfl
theorem wl_len (n : Nat) (E D : Int) (kk : Nat) : (wl n E D kk).length = kk := by
  unfold wl
  simp
/-- A wash's numbers are right. -/
structure WashOk (P E D : Int) (n : Nat) : Prop where
  p : P = (n : Int)
  n1 : 1 ≤ n
  n2 : n ≤ 30
  e1 : 1 ≤ E
  e2 : E ≤ 30
  d1 : 1 ≤ D
  d2 : D ≤ 30
/-- The state and the wash's own box, in the middle of a loop. -/
structure Mid (w wr : World) (gw b gc gl cc cl : Nat) (P E D : Int) (C L : List Int) : Prop where
  st : St wr w.heap.size b gc gl cc cl C L
  box : wr.heap[gw]? = some (.cells #[.int .i64 P, .int .i64 E, .int .i64 D] 27 (0, 0))
  below : Below w.heap.size w wr
section
variable {w wr w1 : World} {gw b gc gl cc cl n : Nat} {P E D : Int} {C L C1 L1 : List Int}
theorem Mid.kept (h : Mid w wr gw b gc gl cc cl P E D C L) {S : Nat → Prop} (hS : ∀ k, S k → k = gc ∨ k = gl) (hs : St w1 w.heap.size b gc gl cc cl C1 L1) (hb : Below w.heap.size wr w1) (hk : Kept wr w1 S) : Mid w w1 gw b gc gl cc cl P E D C1 L1 where
  st := hs
  box := blk_kept h.box hk (fun hg => by
    rcases hS _ hg with e | e
    · exact Kd.R_ne h.st.rc h.box (by decide) (by rw [e]; rfl)
    · exact Kd.R_ne h.st.rl h.box (by decide) (by rw [e]; rfl))
  below := h.below.trans hb
theorem Mid.grown (h : Mid w wr gw b gc gl cc cl P E D C L) {row : Option Nat} (hg : wr.grownBy w1 row) (h1 : some b ≠ row) (h2 : some gc ≠ row) (h3 : some gl ≠ row) (h4 : some gw ≠ row) (hb : Below w.heap.size w w1) : Mid w w1 gw b gc gl cc cl P E D C L where
  st := h.st.step (fun k hk hlt => hg.block k hlt (by rcases hk with e | e | e <;> (rw [e]; assumption)))
  box := blk_grown h.box hg h4
  below := hb
theorem Mid.drewN (h : Mid w wr gw b gc gl cc cl P E D C L) (m : Nat) : Mid w (wr.drewN m) gw b gc gl cc cl P E D C L := ⟨h.st.drewN m, h.box, pw_below_drewN h.below m⟩
theorem Mid.drew (h : Mid w wr gw b gc gl cc cl P E D C L) : Mid w wr.drew gw b gc gl cc cl P E D C L := ⟨h.st.drew, h.box, below_drew1 h.below⟩
theorem Mid.wear (h : Mid w wr gw b gc gl cc cl P E D C L) (hn : C.length = n) (hL : L.length = n) (hN : n ≤ 30) (day : Int) :
    Calls Try.prog 48 #[.pointer (some ⟨b, 0, none⟩), .int .i64 day] wr fun e w' => e = .returned (.int .i64 (pk C L day n)) ∧ Mid w w' gw b gc gl cc cl P E D (wC C (pk C L day n)) (wL L (pk C L day n) day) ∧ Kept wr w' (fun k => k = gc ∨ k = gl) := by
  refine (XSt.wear h.st hn hL hN).mono ?_
  rintro e w' ⟨rfl, hs, hb, hk⟩
  exact ⟨rfl, h.kept (fun _ hk => hk) hs hb hk, hk⟩
theorem Mid.wash (h : Mid w wr gw b gc gl cc cl P E D C L) (hn : C.length = n) (hG : WashOk P E D n) (day : Int) (hd : 0 ≤ day) (hd2 : day ≤ 1000) :
    Calls Try.prog 58 #[.pointer (some ⟨b, 0, none⟩), .agg #[.int .i64 P, .int .i64 E, .int .i64 D], .int .i64 day] wr fun e w' => ∃ v, e = .returned v ∧ Kd.R (Kd.int .i64) 3 w' wr.heap.size (fun _ => True) v (washed E day C n) ∧ Mid w w' gw b gc gl cc cl P E D (washC E D day C n) L ∧ Kept wr w' (fun k => k = gc) := by
  refine (XSt.wash h.st hn hG.n2 hG.e1 hG.e2 hG.d1 hG.d2 hd hd2 h.below.size).mono ?_
  rintro e w' ⟨v, rfl, hr, hs, hb, hk⟩
  exact ⟨v, rfl, hr, h.kept (fun _ hk => .inl hk) hs hb hk, hk⟩
end
set_option maxHeartbeats 8000000 in
set_option maxRecDepth 100000 in
theorem dyBefore {w : World} {P E D day : Int} {n m : Nat} (hG : WashOk P E D n) (hd : day = (m : Int)) (hm : m ≤ 600) :
    Calls Try.prog 47 #[.agg #[.int .i64 P, .int .i64 E, .int .i64 D], .int .i64 day] w fun e w' => ∃ b gc gl cc cl, e = .returned (.pointer (some ⟨b, 0, none⟩)) ∧ St w' w.heap.size b gc gl cc cl (st n E D m).1 (st n E D m).2 ∧ Below w.heap.size w w' := by
  have HGD := Aside0.mk hG
  have HMB := Aside0.mk hm
  have HDM := Aside0.mk hd
  have hu27 := Try.underlying27
  clear hG hm hd
  go_enter Try.func47, Try.ntmps47
  go_wp2_with (first | ((with_reducible refine gate_dst (N := 2) rfl ?_); refine box_event ?hg (N := 2) ?hd (cs := #[.int .i64 P, .int .i64 E, .int .i64 D]) (t := 27) ?hr ?_; (case hd => rfl); (case hg => rfl); (case hr => first | (go_simp; done) | (go_simp; rfl)); intro gw hg w1 hbox hb; have hcgw_0 : w1.cell? ⟨gw, 0, none⟩ = some (.int .i64 P) := (blk_cell hbox 0).trans rfl; have hfgw_0 := blk_frozen hbox 0; have hcgw_1 : w1.cell? ⟨gw, 1, none⟩ = some (.int .i64 E) := (blk_cell hbox 1).trans rfl; have hfgw_1 := blk_frozen hbox 1; have hcgw_2 : w1.cell? ⟨gw, 2, none⟩ = some (.int .i64 D) := (blk_cell hbox 2).trans rfl; have hfgw_2 := blk_frozen hbox 2; have HB := Aside0.mk hb; have HX := Aside0.mk hbox; clear hb hg hbox) | (go_at_call 56; refine (dyStart HGD.out.p HGD.out.n1 HGD.out.n2).mono ?_; rintro e w2 ⟨b, gc, gl, cc, cl, rfl, hs, hb⟩; have HM := Aside0.mk (show Mid w w2 gw b gc gl cc cl P E D (st n E D 0).1 (st n E D 0).2 from ⟨⟨hs.blk, Nat.le_trans HB.out.size hs.hb, hs.bgc, hs.bgl, hs.gcl, Kd.R_lower hs.rc HB.out.size, Kd.R_lower hs.rl HB.out.size⟩, blk_below HX.out hb, HB.out.trans (hb.mono HB.out.size)⟩); clear hs hb HB HX))
  go_loopg [6] m (fun gg v6 wr => ∃ kk : Nat, kk ≤ m ∧ m - kk ≤ gg ∧ v6 = .int .i64 kk ∧ Aside0 (Mid w wr gw b gc gl cc cl P E D (st n E D kk).1 (st n E D kk).2))
  case atStart => exact ⟨0, Nat.zero_le _, by omega, rfl, HM⟩
  case round =>
    clear HM
    obtain ⟨kk, hkk, hg, rfl, HM⟩ := hrel
    by_cases hlt : kk < m
    · have hsC := st_nextC n E D kk
      have hsL := st_nextL n E D kk
      obtain ⟨hlC, hlL⟩ := st_len n E D kk
      obtain ⟨z, hz⟩ : ∃ z : Int, (kk : Int) = z := ⟨_, rfl⟩
      have HZ := Aside0.mk hz
      rw [hz] at hsC hsL
      have hltz : decide (z < day) = true := decide_eq_true (by rw [HDM.out]; omega)
      have hz0 : 0 ≤ z := by omega
      have hz2 : z ≤ 1000 := by have := HMB.out; omega
      have HG := Aside0.mk (show m - (kk + 1) < gk from by omega)
      have hnx : IntKind.i64.wrap (z + 1) = z + 1 := (i64_w _).trans (by unfold wrap64; omega)
      have hlC1 : (wC (st n E D kk).1 (pk (st n E D kk).1 (st n E D kk).2 z n)).length = n := by rw [wC_len, hlC]
      have hbx0 := (show wr.cell? ⟨gw, 0, none⟩ = some (.int .i64 P) from (blk_cell HM.out.box 0).trans rfl)
      have hbx1 := (show wr.cell? ⟨gw, 1, none⟩ = some (.int .i64 E) from (blk_cell HM.out.box 1).trans rfl)
      have hbx2 := (show wr.cell? ⟨gw, 2, none⟩ = some (.int .i64 D) from (blk_cell HM.out.box 2).trans rfl)
      generalize (st n E D kk).1 = C at *
      generalize (st n E D kk).2 = L at *
      obtain ⟨p, hp⟩ : ∃ p, pk C L z n = p := ⟨_, rfl⟩
      have HP := Aside0.mk hp
      rw [hp] at hsL hsC hlC1
      have HLC := Aside0.mk hlC
      have HLL := Aside0.mk hlL
      have HLC1 := Aside0.mk hlC1
      have HZ0 := Aside0.mk hz0
      have HZ2 := Aside0.mk hz2
      have HSC := Aside0.mk hsC
      have HSL := Aside0.mk hsL
      rw [hz]
      clear hz hp hlC hlL hlC1 hsC hsL
      go_wp2_with (first | (go_at_call 48; refine (HM.out.wear HLC.out HLL.out HGD.out.n2 z).mono ?_; rintro e w3 ⟨rfl, hm, hk⟩; rw [HP.out] at hm; have n0 := Aside0.mk hm; clear HM hm hk hbx0 hbx1 hbx2; have HM := n0; clear n0; have hbx0 := (show w3.cell? ⟨gw, 0, none⟩ = some (.int .i64 P) from (blk_cell HM.out.box 0).trans rfl); have hbx1 := (show w3.cell? ⟨gw, 1, none⟩ = some (.int .i64 E) from (blk_cell HM.out.box 1).trans rfl); have hbx2 := (show w3.cell? ⟨gw, 2, none⟩ = some (.int .i64 D) from (blk_cell HM.out.box 2).trans rfl)) | (go_at_call 58; refine (HM.out.wash HLC1.out HGD.out z HZ0.out HZ2.out).mono ?_; rintro e w4 ⟨v, rfl, hr, hm, hk⟩; rw [HSC.out, HSL.out] at hm; have n0 := Aside0.mk hm; clear HM hm hk hr hbx0 hbx1 hbx2; have HM := n0; clear n0))
      go_roundg (m - (kk + 1))
      case measure => have := HG.out; omega
      case rel => exact ⟨kk + 1, by have := of_decide_eq_true hltz; have := HDM.out; have := HZ.out; omega, by omega, by have := HZ.out; congr 1; omega, HM⟩
    · have hltz : decide ((kk : Int) < day) = false := decide_eq_false (by rw [HDM.out]; omega)
      obtain rfl : kk = m := by omega
      go_wp2
      go_ret
      exact ⟨b, gc, gl, cc, cl, rfl, HM.out.st, HM.out.below⟩
set_option maxHeartbeats 8000000 in
set_option maxRecDepth 100000 in
theorem dyList {w : World} {P E D day : Int} {n m : Nat} (hG : WashOk P E D n) (hd : day = (m : Int)) (hm : m ≤ 600) :
    Calls Try.prog 44 #[.agg #[.int .i64 P, .int .i64 E, .int .i64 D], .int .i64 day] w fun e w' => ∃ v, e = .returned v ∧ Kd.R (Kd.int .i64) 3 w' w.heap.size (fun _ => True) v (wl n E D m) ∧ Below w.heap.size w w' := by
  have HGD := Aside0.mk hG
  have HMB := Aside0.mk hm
  have HDM := Aside0.mk hd
  have hu27 := Try.underlying27
  clear hG hm hd
  go_enter Try.func44, Try.ntmps44
  go_wp2_with (first | ((with_reducible refine gate_dst (N := 2) rfl ?_); refine box_event ?hg (N := 2) ?hd (cs := #[.int .i64 P, .int .i64 E, .int .i64 D]) (t := 27) ?hr ?_; (case hd => rfl); (case hg => rfl); (case hr => first | (go_simp; done) | (go_simp; rfl)); intro gw hg w1 hbox hb; have hcgw_0 : w1.cell? ⟨gw, 0, none⟩ = some (.int .i64 P) := (blk_cell hbox 0).trans rfl; have hfgw_0 := blk_frozen hbox 0; have hcgw_1 : w1.cell? ⟨gw, 1, none⟩ = some (.int .i64 E) := (blk_cell hbox 1).trans rfl; have hfgw_1 := blk_frozen hbox 1; have hcgw_2 : w1.cell? ⟨gw, 2, none⟩ = some (.int .i64 D) := (blk_cell hbox 2).trans rfl; have hfgw_2 := blk_frozen hbox 2; have HB := Aside0.mk hb; have HX := Aside0.mk hbox; clear hb hg hbox) | (go_at_call 56; refine (dyStart HGD.out.p HGD.out.n1 HGD.out.n2).mono ?_; rintro e w2 ⟨b, gc, gl, cc, cl, rfl, hs, hb⟩; have HM := Aside0.mk (show Mid w w2 gw b gc gl cc cl P E D (st n E D 0).1 (st n E D 0).2 from ⟨⟨hs.blk, Nat.le_trans HB.out.size hs.hb, hs.bgc, hs.bgl, hs.gcl, Kd.R_lower hs.rc HB.out.size, Kd.R_lower hs.rl HB.out.size⟩, blk_below HX.out hb, HB.out.trans (hb.mono HB.out.size)⟩); clear hs hb HB HX))
  go_loopg [5, 7] m (fun gg v5 v7 wr => ∃ kk : Nat, kk ≤ m ∧ m - kk ≤ gg ∧ v7 = .int .i64 kk ∧ Aside0 (Mid w wr gw b gc gl cc cl P E D (st n E D kk).1 (st n E D kk).2) ∧ Aside0 (Kd.R (Kd.int .i64) 3 wr w.heap.size (fun k => k ≠ b ∧ k ≠ gc ∧ k ≠ gl) v5 (wl n E D kk)))
  case atStart => exact ⟨0, Nat.zero_le _, by omega, rfl, HM, ⟨Kd.R_nil _ _ _ _ _⟩⟩
  case round =>
    clear HM
    obtain ⟨kk, hkk, hg, rfl, HM, HR⟩ := hrel
    by_cases hlt : kk < m
    · have hsC := st_nextC n E D kk
      have hsL := st_nextL n E D kk
      have hsW := wl_succ n E D kk
      have hlW := wl_len n E D kk
      obtain ⟨hlC, hlL⟩ := st_len n E D kk
      obtain ⟨z, hz⟩ : ∃ z : Int, (kk : Int) = z := ⟨_, rfl⟩
      have HZ := Aside0.mk hz
      rw [hz] at hsC hsL hsW
      have hltz : decide (z < day) = true := decide_eq_true (by rw [HDM.out]; omega)
      have hz0 : 0 ≤ z := by omega
      have hz2 : z ≤ 1000 := by have := HMB.out; omega
      have HG := Aside0.mk (show m - (kk + 1) < gk from by omega)
      have hnx : IntKind.i64.wrap (z + 1) = z + 1 := (i64_w _).trans (by unfold wrap64; omega)
      have hlC1 : (wC (st n E D kk).1 (pk (st n E D kk).1 (st n E D kk).2 z n)).length = n := by rw [wC_len, hlC]
      have hbx0 := (show wr.cell? ⟨gw, 0, none⟩ = some (.int .i64 P) from (blk_cell HM.out.box 0).trans rfl)
      have hbx1 := (show wr.cell? ⟨gw, 1, none⟩ = some (.int .i64 E) from (blk_cell HM.out.box 1).trans rfl)
      have hbx2 := (show wr.cell? ⟨gw, 2, none⟩ = some (.int .i64 D) from (blk_cell HM.out.box 2).trans rfl)
      generalize (st n E D kk).1 = C at *
      generalize (st n E D kk).2 = L at *
      generalize wl n E D kk = ys at *
      obtain ⟨p, hp⟩ : ∃ p, pk C L z n = p := ⟨_, rfl⟩
      have HP := Aside0.mk hp
      rw [hp] at hsL hsC hlC1 hsW
      have HLC := Aside0.mk hlC
      have HLL := Aside0.mk hlL
      have HLC1 := Aside0.mk hlC1
      have HZ0 := Aside0.mk hz0
      have HZ2 := Aside0.mk hz2
      have HSC := Aside0.mk hsC
      have HSL := Aside0.mk hsL
      have HSW := Aside0.mk hsW
      have HLW := Aside0.mk (show ys.length ≤ 600 by rw [hlW]; have := HMB.out; omega)
      rw [hz]
      clear hz hp hlC hlL hlC1 hsC hsL hsW hlW
      go_wp2_with (first | (go_at_call 48; refine (HM.out.wear HLC.out HLL.out HGD.out.n2 z).mono ?_; rintro e w3 ⟨rfl, hm, hk⟩; rw [HP.out] at hm ⊢; have n0 := Aside0.mk hm; have n1 := Aside0.mk (Kd.R_kept HR.out hk (fun k ho h => h.elim ho.2.1 ho.2.2)); clear HM HR hm hk hbx0 hbx1 hbx2; have HM := n0; have HR := n1; clear n0 n1; have hbx0 := (show w3.cell? ⟨gw, 0, none⟩ = some (.int .i64 P) from (blk_cell HM.out.box 0).trans rfl); have hbx1 := (show w3.cell? ⟨gw, 1, none⟩ = some (.int .i64 E) from (blk_cell HM.out.box 1).trans rfl); have hbx2 := (show w3.cell? ⟨gw, 2, none⟩ = some (.int .i64 D) from (blk_cell HM.out.box 2).trans rfl); have HB := Aside0.mk HM.out.below) | ((with_reducible refine gate_builtin (b := .append) (xs := #[.tmp 15, .tmp 19]) rfl ?_); at_builtin; refine Kd.R_append (Kd.int .i64) (w0 := w) (w.heap.size) rfl (.tmp 15) (.tmp 19) 24 3 (.int .i64 0) 8 rfl Try.underlying24 info3 rfl (by decide) (by omega) (u5) (ys) (p) [.int .i64 (p)] (fun k => k ≠ b ∧ k ≠ gc ∧ k ≠ gl) (fun _ => False) rfl rfl ?aP (fun _ hk => hk.elim) ?aF ?aO ?aB ?aS ?aL ?_; (case aP => exact rfl); (case aB => exact (by repeat (first | (with_reducible first | exact HB.out | apply below_alloc | apply pw_below_drewN | apply below_drew1) | exact HB.out))); (case aF => exact (fun k hk => ⟨by have := HM.out.st.lt_b; omega, by have := HM.out.st.lt_c; omega, by have := HM.out.st.lt_l; omega⟩)); (case aO => exact (by (with_reducible repeat (first | apply Kd.R_alloc | apply Kd.R_drewN | apply Kd.R_drew)); exact HR.out)); (case aS => exact (below_size (by repeat (first | (with_reducible first | exact HB.out | apply below_alloc | apply pw_below_drewN | apply below_drew1) | exact HB.out)))); (case aL => have := HLW.out; simp; omega); intro v1 w1 ho hb hg hat; rw [← HSW.out] at ho; have n0 := Aside0.mk ho; have n1 := Aside0.mk (HM.out.grown hg (fun e => (HR.out.1 _ e.symm).1 rfl) (fun e => (HR.out.1 _ e.symm).2.1 rfl) (fun e => (HR.out.1 _ e.symm).2.2 rfl) (Kd.R_ne HR.out HM.out.box (by decide)) hb); clear HM HR HB hb ho hg hat hbx0 hbx1 hbx2; have HR := n0; have HM := n1; clear n0 n1; have hbx0 := (show w1.cell? ⟨gw, 0, none⟩ = some (.int .i64 P) from (blk_cell HM.out.box 0).trans rfl); have hbx1 := (show w1.cell? ⟨gw, 1, none⟩ = some (.int .i64 E) from (blk_cell HM.out.box 1).trans rfl); have hbx2 := (show w1.cell? ⟨gw, 2, none⟩ = some (.int .i64 D) from (blk_cell HM.out.box 2).trans rfl)) | (go_at_call 58; refine (HM.out.wash HLC1.out HGD.out z HZ0.out HZ2.out).mono ?_; rintro e w4 ⟨v, rfl, hr, hm, hk⟩; rw [HSC.out, HSL.out] at hm; have n0 := Aside0.mk hm; have n1 := Aside0.mk (Kd.R_kept HR.out hk (fun k ho h => ho.2.1 h)); clear HM HR hm hk hr hbx0 hbx1 hbx2; have HM := n0; have HR := n1; clear n0 n1))
      go_roundg (m - (kk + 1))
      case measure => have := HG.out; omega
      case rel => exact ⟨kk + 1, by have := of_decide_eq_true hltz; have := HDM.out; have := HZ.out; omega, by omega, by have := HZ.out; congr 1; omega, HM, HR⟩
    · have hltz : decide ((kk : Int) < day) = false := decide_eq_false (by rw [HDM.out]; omega)
      obtain rfl : kk = m := by omega
      go_wp2
      go_ret
      exact ⟨_, rfl, Kd.R_mono HR.out (fun _ _ => trivial), HM.out.below⟩
end Go.Proofs.Ytpalinpgoalneaa.XSu
