/- The contract of the reference's WashDays. -/
import Derived.Test.YtpalinpgoalneaaXDayF
import Derived.Test.YtpalinpgoalneaaXOn
namespace Go.Proofs.Ytpalinpgoalneaa.XWd
open Go.RowKit Go.Proofs.YtpalinpgoalneaaW.PrintWords Go.Proofs.YtpalinpgoalneaaW.PrintLast Go.Proofs.YtpalinpgoalneaaW.PrintMore
open Go.Proofs.Ytpalinpgoalneaa.QBase Go.Proofs.Ytpalinpgoalneaa.PD Go.Proofs.Ytpalinpgoalneaa.XSt Go.Proofs.Ytpalinpgoalneaa.XSu Go.Proofs.Ytpalinpgoalneaa.XDay Go.Proofs.Ytpalinpgoalneaa.XDayF Go.Proofs.Ytpalinpgoalneaa.XOn
open Go.Proofs.Ytpalinpgoalneaa.QDayP (S44 z44 k44 k44_open k44_openM k44_mk k44_mkM rd_T44 at_T44)
set_option linter.unusedVariables false
set_option linter.unusedSimpArgs false
def spec_WashDays.f (a b c d : Int) : Option (List Int × Bool) := some (if asked a b c d = true then (fl (fun i => decide (0 < (dWash a.toNat b c i).length)) d.toNat, true) else ([], false))
set_option maxHeartbeats 8000000 in
set_option maxRecDepth 100000 in
theorem spec_WashDays.calls (P E D d : Int) (r1 : List Int) (r2 : Bool) (w : World) (h : spec_WashDays.f P E D d = some (r1, r2)) :
    Calls Try.prog 37 #[.agg #[.int .i64 P, .int .i64 E, .int .i64 D], .int .i64 d] w fun e w' => ∃ v0_ : Value, e = .returned (.tuple #[v0_, .bool r2]) ∧ Kd.R (Kd.int .i64) 3 w' w.heap.size (fun _ => True) v0_ r1 ∧ Below w.heap.size w w' := by
  unfold spec_WashDays.f at h
  have hu27 := Try.underlying27
  by_cases c : asked P E D d = true
  · rw [if_pos c] at h
    obtain ⟨hg, hd0, hd1⟩ := good_of c
    obtain ⟨n, hn⟩ : ∃ n, P.toNat = n := ⟨_, rfl⟩
    obtain ⟨m, hm⟩ : ∃ m, d.toNat = m := ⟨_, rfl⟩
    rw [hn, hm] at h
    rw [hn] at hg
    have HGD := Aside0.mk hg
    have HDM := Aside0.mk (show d = (m : Int) by omega)
    have HMB := Aside0.mk (show m ≤ 600 by omega)
    have HA := Aside0.mk c
    clear c hg hd0 hd1 hn hm
    obtain ⟨rfl, rfl⟩ := Prod.mk.inj (Option.some.inj h)
    clear h
    obtain ⟨pW, hpW⟩ : ∃ q : Nat → Bool, (fun i => decide (0 < (dWash n E D i).length)) = q := ⟨_, rfl⟩
    have HPW := Aside0.mk (show ∀ kk : Nat, pW kk = decide (0 < (washed E kk (wC (st n E D kk).1 (pk (st n E D kk).1 (st n E D kk).2 kk n)) n).length) from fun kk => by rw [← hpW]; rfl)
    rw [hpW]
    clear hpW
    go_enter Try.func37, Try.ntmps37
    go_wp2_with (first | ((with_reducible refine gate_dst (N := 2) rfl ?_); refine box_event ?hg (N := 2) ?hd (cs := #[.int .i64 P, .int .i64 E, .int .i64 D]) (t := 27) ?hr ?_; (case hd => rfl); (case hg => rfl); (case hr => first | (go_simp; done) | (go_simp; rfl)); intro gw hg w1 hbox hb; have hcgw_0 : w1.cell? ⟨gw, 0, none⟩ = some (.int .i64 P) := (blk_cell hbox 0).trans rfl; have hfgw_0 := blk_frozen hbox 0; have hcgw_1 : w1.cell? ⟨gw, 1, none⟩ = some (.int .i64 E) := (blk_cell hbox 1).trans rfl; have hfgw_1 := blk_frozen hbox 1; have hcgw_2 : w1.cell? ⟨gw, 2, none⟩ = some (.int .i64 D) := (blk_cell hbox 2).trans rfl; have hfgw_2 := blk_frozen hbox 2; have HB := Aside0.mk hb; have HX := Aside0.mk hbox; clear hb hg hbox) | (go_at_call 43; refine (dyAsked_calls P E D d _).mono ?_; rintro e w3 ⟨rfl, hb⟩; rw [HA.out]; have n0 := Aside0.mk (blk_below HX.out hb); have n1 := Aside0.mk (HB.out.trans (hb.mono HB.out.size)); clear hb HX HB hcgw_0 hcgw_1 hcgw_2; have HX := n0; have HB := n1; clear n0 n1; have hcgw_0 : w3.cell? ⟨gw, 0, none⟩ = some (.int .i64 P) := (blk_cell HX.out 0).trans rfl; have hcgw_1 : w3.cell? ⟨gw, 1, none⟩ = some (.int .i64 E) := (blk_cell HX.out 1).trans rfl; have hcgw_2 : w3.cell? ⟨gw, 2, none⟩ = some (.int .i64 D) := (blk_cell HX.out 2).trans rfl) | (go_at_call 56; refine (dyStart HGD.out.p HGD.out.n1 HGD.out.n2).mono ?_; rintro e w4 ⟨b, gc, gl, cc, cl, rfl, hs, hb⟩; have HM := Aside0.mk (show Mid w w4 gw b gc gl cc cl P E D (st n E D 0).1 (st n E D 0).2 from ⟨⟨hs.blk, Nat.le_trans HB.out.size hs.hb, hs.bgc, hs.bgl, hs.gcl, Kd.R_lower hs.rc HB.out.size, Kd.R_lower hs.rl HB.out.size⟩, blk_below HX.out hb, HB.out.trans (hb.mono HB.out.size)⟩); clear hs hb HB HX hcgw_0 hcgw_1 hcgw_2))
    go_loopg [6, 8] m (fun gg v6 v8 wr => ∃ kk : Nat, kk ≤ m ∧ m - kk ≤ gg ∧ v8 = .int .i64 kk ∧ Aside0 (Mid w wr gw b gc gl cc cl P E D (st n E D kk).1 (st n E D kk).2) ∧ Aside0 (Kd.R (Kd.int .i64) 3 wr w.heap.size (fun k => k ≠ b ∧ k ≠ gc ∧ k ≠ gl) v6 (fl pW kk)))
    case atStart => exact ⟨0, Nat.zero_le _, by omega, rfl, HM, ⟨Kd.R_nil _ _ _ _ _⟩⟩
    case round =>
      clear HM
      obtain ⟨kk, hkk, hg, rfl, HM, HR⟩ := hrel
      by_cases hlt : kk < m
      · have hsC := st_nextC n E D kk
        have hsL := st_nextL n E D kk
        have hsW := fl_succ pW kk
        have hfl := fl_len pW kk
        have hpw := HPW.out kk
        obtain ⟨hlC, hlL⟩ := st_len n E D kk
        obtain ⟨z, hz⟩ : ∃ z : Int, (kk : Int) = z := ⟨_, rfl⟩
        have HZ := Aside0.mk hz
        rw [hz] at hsC hsL hsW hpw
        have hltz : decide (z < d) = true := decide_eq_true (by rw [HDM.out]; omega)
        have hz0 : 0 ≤ z := by omega
        have hz2 : z ≤ 1000 := by have := HMB.out; omega
        have HG := Aside0.mk (show m - (kk + 1) < gk from by omega)
        have hnx : IntKind.i64.wrap (z + 1) = z + 1 := (i64_w _).trans (by unfold wrap64; omega)
        have hlC1 : (wC (st n E D kk).1 (pk (st n E D kk).1 (st n E D kk).2 z n)).length = n := by rw [wC_len, hlC]
        have hbx0 := (show wr.cell? ⟨gw, 0, none⟩ = some (.int .i64 P) from (blk_cell HM.out.box 0).trans rfl)
        have hbx1 := (show wr.cell? ⟨gw, 1, none⟩ = some (.int .i64 E) from (blk_cell HM.out.box 1).trans rfl)
        have hbx2 := (show wr.cell? ⟨gw, 2, none⟩ = some (.int .i64 D) from (blk_cell HM.out.box 2).trans rfl)
        generalize (st n E D kk).1 = C at *
        generalize (st n E D kk).2 = L at *
        have HLW := Aside0.mk (show (fl pW kk).length ≤ 600 by have := HMB.out; omega)
        generalize fl pW kk = ys at *
        obtain ⟨p, hp⟩ : ∃ p, pk C L z n = p := ⟨_, rfl⟩
        have HP := Aside0.mk hp
        rw [hp] at hsL hsC hlC1 hpw
        have HLC := Aside0.mk hlC
        have HLL := Aside0.mk hlL
        have HLC1 := Aside0.mk hlC1
        have HZ0 := Aside0.mk hz0
        have HZ2 := Aside0.mk hz2
        have HSC := Aside0.mk hsC
        have HSL := Aside0.mk hsL
        obtain ⟨wd, hwd⟩ : ∃ wd, washed E z (wC C p) n = wd := ⟨_, rfl⟩
        have HWD := Aside0.mk hwd
        obtain ⟨ln, hln⟩ : ∃ ln, wd.length = ln := ⟨_, rfl⟩
        have HLN := Aside0.mk hln
        rw [hwd, hln] at hpw
        clear hln
        rw [hz]
        clear hz hp hlC hlL hlC1 hsC hsL hwd hfl
        by_cases hq : 0 < ln
        · have hq1 : decide ((0 : Int) < (ln : Int)) = true := decide_eq_true (by omega)
          have hq2 : decide (0 < ln) = true := decide_eq_true hq
          have hq3 := eq_true hq
          rw [hpw, decide_eq_true hq, if_pos rfl] at hsW
          have HSW := Aside0.mk hsW
          clear hsW hpw hq
          go_wp2_with (first | (go_at_call 48; refine (HM.out.wear HLC.out HLL.out HGD.out.n2 z).mono ?_; rintro e w3_ ⟨rfl, hm, hk⟩; rw [HP.out] at hm; have n0 := Aside0.mk hm; have n1 := Aside0.mk (Kd.R_kept HR.out hk (fun k ho h => h.elim ho.2.1 ho.2.2)); clear HM HR hm hk hbx0 hbx1 hbx2; have HM := n0; have HR := n1; clear n0 n1; have hbx0 := (show w3_.cell? ⟨gw, 0, none⟩ = some (.int .i64 P) from (blk_cell HM.out.box 0).trans rfl); have hbx1 := (show w3_.cell? ⟨gw, 1, none⟩ = some (.int .i64 E) from (blk_cell HM.out.box 1).trans rfl); have hbx2 := (show w3_.cell? ⟨gw, 2, none⟩ = some (.int .i64 D) from (blk_cell HM.out.box 2).trans rfl)) | (go_at_call 58; refine (HM.out.wash HLC1.out HGD.out z HZ0.out HZ2.out).mono ?_; rintro e w4_ ⟨v, rfl, hr, hm, hk⟩; rw [HWD.out] at hr; obtain ⟨Aw, cw, ew⟩ := Kd.R_slice hr; rw [HLN.out] at ew; subst ew; rw [HSC.out, HSL.out] at hm; have n0 := Aside0.mk hm; have n1 := Aside0.mk (Kd.R_kept HR.out hk (fun k ho h => ho.2.1 h)); clear HM HR hm hk hr hbx0 hbx1 hbx2; have HM := n0; have HR := n1; clear n0 n1; have HB := Aside0.mk HM.out.below) | ((with_reducible refine gate_builtin (b := .append) (xs := #[.tmp 29, .tmp 31]) rfl ?_); at_builtin; refine Kd.R_append (Kd.int .i64) (w0 := w) (w.heap.size) rfl (.tmp 29) (.tmp 31) 24 3 (.int .i64 0) 8 rfl Try.underlying24 info3 rfl (by decide) (by omega) (u6) (ys) (z) [.int .i64 (z)] (fun k => k ≠ b ∧ k ≠ gc ∧ k ≠ gl) (fun _ => False) rfl rfl ?aP (fun _ hk => hk.elim) ?aF ?aO ?aB ?aS ?aL ?_; (case aP => exact rfl); (case aB => exact (by repeat (first | (with_reducible first | exact HB.out | apply below_alloc | apply pw_below_drewN | apply below_drew1) | exact HB.out))); (case aF => exact (fun k hk => ⟨by have := HM.out.st.lt_b; omega, by have := HM.out.st.lt_c; omega, by have := HM.out.st.lt_l; omega⟩)); (case aO => exact (by (with_reducible repeat (first | apply Kd.R_alloc | apply Kd.R_drewN | apply Kd.R_drew)); exact HR.out)); (case aS => exact (below_size (by repeat (first | (with_reducible first | exact HB.out | apply below_alloc | apply pw_below_drewN | apply below_drew1) | exact HB.out)))); (case aL => have := HLW.out; simp; omega); intro v1 w1 ho hb hg hat; rw [← HSW.out] at ho; have n0 := Aside0.mk ho; have n1 := Aside0.mk (HM.out.grown hg (fun e => (HR.out.1 _ e.symm).1 rfl) (fun e => (HR.out.1 _ e.symm).2.1 rfl) (fun e => (HR.out.1 _ e.symm).2.2 rfl) (Kd.R_ne HR.out HM.out.box (by decide)) hb); clear HM HR HB hb ho hg hat; have HR := n0; have HM := n1; clear n0 n1))
          go_roundg (m - (kk + 1))
          case measure => have := HG.out; omega
          case rel => exact ⟨kk + 1, by have := of_decide_eq_true hltz; have := HDM.out; have := HZ.out; omega, by omega, by have := HZ.out; congr 1; omega, HM, HR⟩
        · have hq1 : decide ((0 : Int) < (ln : Int)) = false := decide_eq_false (by omega)
          have hq2 : decide (0 < ln) = false := decide_eq_false hq
          have hq3 := eq_false hq
          rw [hpw, decide_eq_false hq, if_neg (by simp), List.append_nil] at hsW
          have HSW := Aside0.mk hsW
          clear hsW hpw hq
          go_wp2_with (first | (go_at_call 48; refine (HM.out.wear HLC.out HLL.out HGD.out.n2 z).mono ?_; rintro e w3_ ⟨rfl, hm, hk⟩; rw [HP.out] at hm; have n0 := Aside0.mk hm; have n1 := Aside0.mk (Kd.R_kept HR.out hk (fun k ho h => h.elim ho.2.1 ho.2.2)); clear HM HR hm hk hbx0 hbx1 hbx2; have HM := n0; have HR := n1; clear n0 n1; have hbx0 := (show w3_.cell? ⟨gw, 0, none⟩ = some (.int .i64 P) from (blk_cell HM.out.box 0).trans rfl); have hbx1 := (show w3_.cell? ⟨gw, 1, none⟩ = some (.int .i64 E) from (blk_cell HM.out.box 1).trans rfl); have hbx2 := (show w3_.cell? ⟨gw, 2, none⟩ = some (.int .i64 D) from (blk_cell HM.out.box 2).trans rfl)) | (go_at_call 58; refine (HM.out.wash HLC1.out HGD.out z HZ0.out HZ2.out).mono ?_; rintro e w4_ ⟨v, rfl, hr, hm, hk⟩; rw [HWD.out] at hr; obtain ⟨Aw, cw, ew⟩ := Kd.R_slice hr; rw [HLN.out] at ew; subst ew; rw [HSC.out, HSL.out] at hm; have n0 := Aside0.mk hm; have n1 := Aside0.mk (Kd.R_kept HR.out hk (fun k ho h => ho.2.1 h)); clear HM HR hm hk hr hbx0 hbx1 hbx2; have HM := n0; have HR := n1; clear n0 n1; have HB := Aside0.mk HM.out.below))
          go_roundg (m - (kk + 1))
          case measure => have := HG.out; omega
          case rel => exact ⟨kk + 1, by have := of_decide_eq_true hltz; have := HDM.out; have := HZ.out; omega, by omega, by have := HZ.out; congr 1; omega, HM, ⟨by rw [HSW.out]; exact HR.out⟩⟩
      · have hltz : decide ((kk : Int) < d) = false := decide_eq_false (by rw [HDM.out]; omega)
        obtain rfl : kk = m := by omega
        go_wp2
        go_ret2
        exact ⟨_, rfl, Kd.R_mono HR.out (fun _ _ => trivial), HM.out.below⟩
  · rw [if_neg c] at h
    obtain ⟨rfl, rfl⟩ := Prod.mk.inj (Option.some.inj h)
    have HA := Aside0.mk (Bool.eq_false_iff.mpr c)
    clear h c
    go_enter Try.func37, Try.ntmps37
    go_wp2_with (first | ((with_reducible refine gate_dst (N := 2) rfl ?_); refine box_event ?hg (N := 2) ?hd (cs := #[.int .i64 P, .int .i64 E, .int .i64 D]) (t := 27) ?hr ?_; (case hd => rfl); (case hg => rfl); (case hr => first | (go_simp; done) | (go_simp; rfl)); intro gw hg w1 hbox hb; have hcgw_0 : w1.cell? ⟨gw, 0, none⟩ = some (.int .i64 P) := (blk_cell hbox 0).trans rfl; have hfgw_0 := blk_frozen hbox 0; have hcgw_1 : w1.cell? ⟨gw, 1, none⟩ = some (.int .i64 E) := (blk_cell hbox 1).trans rfl; have hfgw_1 := blk_frozen hbox 1; have hcgw_2 : w1.cell? ⟨gw, 2, none⟩ = some (.int .i64 D) := (blk_cell hbox 2).trans rfl; have hfgw_2 := blk_frozen hbox 2; have HB := Aside0.mk hb; have HX := Aside0.mk hbox; clear hb hg hbox) | (go_at_call 43; refine (dyAsked_calls P E D d _).mono ?_; rintro e w3 ⟨rfl, hb⟩; rw [HA.out]; have n0 := Aside0.mk (blk_below HX.out hb); have n1 := Aside0.mk (HB.out.trans (hb.mono HB.out.size)); clear hb HX HB hcgw_0 hcgw_1 hcgw_2; have HX := n0; have HB := n1; clear n0 n1; have hcgw_0 : w3.cell? ⟨gw, 0, none⟩ = some (.int .i64 P) := (blk_cell HX.out 0).trans rfl; have hcgw_1 : w3.cell? ⟨gw, 1, none⟩ = some (.int .i64 E) := (blk_cell HX.out 1).trans rfl; have hcgw_2 : w3.cell? ⟨gw, 2, none⟩ = some (.int .i64 D) := (blk_cell HX.out 2).trans rfl))
    go_ret2
    exact ⟨_, rfl, Kd.R_nil _ _ _ _ _, (by repeat (first | (with_reducible first | exact HB.out | apply below_alloc | apply pw_below_drewN | apply below_drew1) | exact HB.out))⟩

end Go.Proofs.Ytpalinpgoalneaa.XWd
