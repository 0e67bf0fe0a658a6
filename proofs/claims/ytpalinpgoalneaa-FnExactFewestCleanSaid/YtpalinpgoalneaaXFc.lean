/- The contract of the reference's FewestClean: for every wash and number of days it returns what fewF tells; nothing that was there is changed. -/
import Derived.Test.YtpalinpgoalneaaXDayF
import Derived.Test.YtpalinpgoalneaaXOn
namespace Go.Proofs.Ytpalinpgoalneaa.XFc
open Go.RowKit Go.Proofs.YtpalinpgoalneaaW.PrintWords Go.Proofs.YtpalinpgoalneaaW.PrintLast Go.Proofs.YtpalinpgoalneaaW.PrintMore
open Go.Proofs.Ytpalinpgoalneaa.QBase Go.Proofs.Ytpalinpgoalneaa.PD Go.Proofs.Ytpalinpgoalneaa.XSt Go.Proofs.Ytpalinpgoalneaa.XSu Go.Proofs.Ytpalinpgoalneaa.XDay Go.Proofs.Ytpalinpgoalneaa.XDayF Go.Proofs.Ytpalinpgoalneaa.XOn
open Go.Proofs.Ytpalinpgoalneaa.QDayP (S44 z44 k44 k44_open k44_openM k44_mk k44_mkM rd_T44 at_T44)
set_option linter.unusedVariables false
set_option linter.unusedSimpArgs false
/-- The least number of clean pairs on the first days, and its first day. -/
def fw (n : Nat) (E D : Int) : Nat → Int × Int
  | 0 => ((n : Int) + 1, 0)
  | k + 1 => if ((dClean n E D k).length : Int) < (fw n E D k).1 then (((dClean n E D k).length : Int), (k : Int)) else fw n E D k
def fewF (a b c d : Int) : Int × Int × Bool := if asked a b c d = true ∧ d ≠ 0 then ((fw a.toNat b c d.toNat).1, (fw a.toNat b c d.toNat).2, true) else (0, 0, false)
def spec_FewestClean.f (a b c d : Int) : Option (Int × Int × Bool) := some (fewF a b c d)
set_option maxHeartbeats 8000000 in
set_option maxRecDepth 100000 in
theorem spec_FewestClean.calls (P E D d : Int) (r1 : Int) (r2 : Int) (r3 : Bool) (w : World) (h : spec_FewestClean.f P E D d = some (r1, r2, r3)) :
    Calls Try.prog 29 #[.agg #[.int .i64 P, .int .i64 E, .int .i64 D], .int .i64 d] w fun e w' => e = .returned (.tuple #[.int .i64 r1, .int .i64 r2, .bool r3]) ∧ Below w.heap.size w w' := by
  unfold spec_FewestClean.f fewF at h
  have hu27 := Try.underlying27
  by_cases c : asked P E D d = true
  · by_cases c0 : d = 0
    · rw [if_neg (fun h => h.2 c0)] at h
      simp only [Option.some.injEq, Prod.mk.injEq] at h
      obtain ⟨rfl, rfl, rfl⟩ := h
      subst c0
      have HA := Aside0.mk c
      clear c
      go_enter Try.func29, Try.ntmps29
      go_wp2_with (first | ((with_reducible refine gate_dst (N := 2) rfl ?_); refine box_event ?hg (N := 2) ?hd (cs := #[.int .i64 P, .int .i64 E, .int .i64 D]) (t := 27) ?hr ?_; (case hd => rfl); (case hg => rfl); (case hr => first | (go_simp; done) | (go_simp; rfl)); intro gw hg w1 hbox hb; have hcgw_0 : w1.cell? ⟨gw, 0, none⟩ = some (.int .i64 P) := (blk_cell hbox 0).trans rfl; have hfgw_0 := blk_frozen hbox 0; have hcgw_1 : w1.cell? ⟨gw, 1, none⟩ = some (.int .i64 E) := (blk_cell hbox 1).trans rfl; have hfgw_1 := blk_frozen hbox 1; have hcgw_2 : w1.cell? ⟨gw, 2, none⟩ = some (.int .i64 D) := (blk_cell hbox 2).trans rfl; have hfgw_2 := blk_frozen hbox 2; have HB := Aside0.mk hb; have HX := Aside0.mk hbox; clear hb hg hbox) | (go_at_call 43; refine (dyAsked_calls P E D 0 _).mono ?_; rintro e w3 ⟨rfl, hb⟩; rw [HA.out]; have n0 := Aside0.mk (blk_below HX.out hb); have n1 := Aside0.mk (HB.out.trans (hb.mono HB.out.size)); clear hb HX HB hcgw_0 hcgw_1 hcgw_2; have HX := n0; have HB := n1; clear n0 n1; have hcgw_0 : w3.cell? ⟨gw, 0, none⟩ = some (.int .i64 P) := (blk_cell HX.out 0).trans rfl; have hcgw_1 : w3.cell? ⟨gw, 1, none⟩ = some (.int .i64 E) := (blk_cell HX.out 1).trans rfl; have hcgw_2 : w3.cell? ⟨gw, 2, none⟩ = some (.int .i64 D) := (blk_cell HX.out 2).trans rfl))
      go_ret3
      exact ⟨rfl, (by repeat (first | (with_reducible first | exact HB.out | apply below_alloc | apply pw_below_drewN | apply below_drew1) | exact HB.out))⟩
    · rw [if_pos ⟨c, c0⟩] at h
      obtain ⟨hg, hd0, hd1⟩ := good_of c
      obtain ⟨n, hn⟩ : ∃ n, P.toNat = n := ⟨_, rfl⟩
      obtain ⟨m, hm⟩ : ∃ m, d.toNat = m := ⟨_, rfl⟩
      rw [hn, hm] at h
      rw [hn] at hg
      have HGD := Aside0.mk hg
      have HDM := Aside0.mk (show d = (m : Int) by omega)
      have HMB := Aside0.mk (show m ≤ 600 by omega)
      have HA := Aside0.mk c
      have hq1 : (d == 0) = false := by simp [c0]
      have hq2 : decide (d = 0) = false := decide_eq_false c0
      have hpp : IntKind.i64.wrap (P + 1) = (n : Int) + 1 := (i64_w _).trans (by have := hg.p; have := hg.n2; unfold wrap64; omega)
      simp only [Option.some.injEq, Prod.mk.injEq] at h
      obtain ⟨rfl, rfl, rfl⟩ := h
      clear c hg hd0 hd1 hn hm c0
      go_enter Try.func29, Try.ntmps29
      go_wp2_with (first | ((with_reducible refine gate_dst (N := 2) rfl ?_); refine box_event ?hg (N := 2) ?hd (cs := #[.int .i64 P, .int .i64 E, .int .i64 D]) (t := 27) ?hr ?_; (case hd => rfl); (case hg => rfl); (case hr => first | (go_simp; done) | (go_simp; rfl)); intro gw hg w1 hbox hb; have hcgw_0 : w1.cell? ⟨gw, 0, none⟩ = some (.int .i64 P) := (blk_cell hbox 0).trans rfl; have hfgw_0 := blk_frozen hbox 0; have hcgw_1 : w1.cell? ⟨gw, 1, none⟩ = some (.int .i64 E) := (blk_cell hbox 1).trans rfl; have hfgw_1 := blk_frozen hbox 1; have hcgw_2 : w1.cell? ⟨gw, 2, none⟩ = some (.int .i64 D) := (blk_cell hbox 2).trans rfl; have hfgw_2 := blk_frozen hbox 2; have HB := Aside0.mk hb; have HX := Aside0.mk hbox; clear hb hg hbox) | (go_at_call 43; refine (dyAsked_calls P E D d _).mono ?_; rintro e w3 ⟨rfl, hb⟩; rw [HA.out]; have n0 := Aside0.mk (blk_below HX.out hb); have n1 := Aside0.mk (HB.out.trans (hb.mono HB.out.size)); clear hb HX HB hcgw_0 hcgw_1 hcgw_2; have HX := n0; have HB := n1; clear n0 n1; have hcgw_0 : w3.cell? ⟨gw, 0, none⟩ = some (.int .i64 P) := (blk_cell HX.out 0).trans rfl; have hcgw_1 : w3.cell? ⟨gw, 1, none⟩ = some (.int .i64 E) := (blk_cell HX.out 1).trans rfl; have hcgw_2 : w3.cell? ⟨gw, 2, none⟩ = some (.int .i64 D) := (blk_cell HX.out 2).trans rfl) | (go_at_call 56; refine (dyStart HGD.out.p HGD.out.n1 HGD.out.n2).mono ?_; rintro e w4 ⟨b, gc, gl, cc, cl, rfl, hs, hb⟩; have HM := Aside0.mk (show Mid w w4 gw b gc gl cc cl P E D (st n E D 0).1 (st n E D 0).2 from ⟨⟨hs.blk, Nat.le_trans HB.out.size hs.hb, hs.bgc, hs.bgl, hs.gcl, Kd.R_lower hs.rc HB.out.size, Kd.R_lower hs.rl HB.out.size⟩, blk_below HX.out hb, HB.out.trans (hb.mono HB.out.size)⟩); clear hs hb HB HX hcgw_0 hcgw_1 hcgw_2))
      go_loopg [7, 8, 10] m (fun gg v7 v8 v10 wr => ∃ kk : Nat, kk ≤ m ∧ m - kk ≤ gg ∧ v7 = .int .i64 (fw n E D kk).1 ∧ v8 = .int .i64 (fw n E D kk).2 ∧ v10 = .int .i64 kk ∧ Aside0 (Mid w wr gw b gc gl cc cl P E D (st n E D kk).1 (st n E D kk).2))
      case atStart => exact ⟨0, Nat.zero_le _, by omega, rfl, rfl, rfl, HM⟩
      case round =>
        clear HM
        obtain ⟨kk, hkk, hg, rfl, rfl, rfl, HM⟩ := hrel
        obtain ⟨wo, hwo⟩ : ∃ wo, wo = wr := ⟨_, rfl⟩
        subst hwo
        by_cases hlt : kk < m
        · have hsC := st_nextC n E D kk
          have hsL := st_nextL n E D kk
          obtain ⟨hlC, hlL⟩ := st_len n E D kk
          have hfw : fw n E D (kk + 1) = if ((fl (fun k => isCl (st n E D kk).1 k kk) n).length : Int) < (fw n E D kk).1 then (((fl (fun k => isCl (st n E D kk).1 k kk) n).length : Int), (kk : Int)) else fw n E D kk := rfl
          obtain ⟨z, hz⟩ : ∃ z : Int, (kk : Int) = z := ⟨_, rfl⟩
          have HZ := Aside0.mk hz
          rw [hz] at hsC hsL
          simp only [hz] at hfw
          have hltz : decide (z < d) = true := decide_eq_true (by rw [HDM.out]; omega)
          have hz0 : 0 ≤ z := by omega
          have hz2 : z ≤ 1000 := by have := HMB.out; omega
          have HG := Aside0.mk (show m - (kk + 1) < gk from by omega)
          have hnx : IntKind.i64.wrap (z + 1) = z + 1 := (i64_w _).trans (by unfold wrap64; omega)
          have hlC1 : (wC (st n E D kk).1 (pk (st n E D kk).1 (st n E D kk).2 z n)).length = n := by rw [wC_len, hlC]
          have HKM := Aside0.mk hlt
          generalize (st n E D kk).1 = C at *
          generalize (st n E D kk).2 = L at *
          obtain ⟨p, hp⟩ : ∃ p, pk C L z n = p := ⟨_, rfl⟩
          have HP := Aside0.mk hp
          rw [hp] at hsL hsC hlC1
          have hx0 := HM.out.st.cell0
          rw [hlC] at hx0
          have HLC := Aside0.mk hlC
          have HLL := Aside0.mk hlL
          have HLC1 := Aside0.mk hlC1
          have HZ0 := Aside0.mk hz0
          have HZ2 := Aside0.mk hz2
          have HSC := Aside0.mk hsC
          have HSL := Aside0.mk hsL
          have HFW := Aside0.mk hfw
          obtain ⟨f1, hf1⟩ : ∃ v, (fw n E D kk).1 = v := ⟨_, rfl⟩
          obtain ⟨f2, hf2⟩ : ∃ v, (fw n E D kk).2 = v := ⟨_, rfl⟩
          have HF1 := Aside0.mk hf1
          have HF2 := Aside0.mk hf2
          rw [hz, hf1, hf2]
          clear hz hp hlC hlL hlC1 hsC hsL hfw hf1 hf2 hlt
          go_wp2
          clear hx0
          go_loopg [11, 36] n (fun gg v11 v36 wr => ∃ ii : Nat, ii ≤ n ∧ n - ii ≤ gg ∧ v11 = .int .i64 ((fl (fun k => isCl C k z) ii).length : Int) ∧ v36 = .int .i64 ii ∧ Drawn0 wo wr)
          case atStart => exact ⟨0, Nat.zero_le _, by omega, rfl, rfl, by repeat (first | exact Drawn0.refl _ | apply Drawn0.step)⟩
          case round =>
            obtain ⟨ii, hii, hg2, rfl, rfl, ⟨m1, rfl⟩⟩ := hrel
            by_cases hlt2 : ii < n
            · have hps := fl_succ (fun k => isCl C k z) ii
              have hfl := fl_len (fun k => isCl C k z) ii
              obtain ⟨y, hy⟩ : ∃ y : Int, (ii : Int) = y := ⟨_, rfl⟩
              have HY := Aside0.mk hy
              simp only [hy] at hps
              have hlty : y < (n : Int) := by omega
              have hy0 : 0 ≤ y := by omega
              have hy2 : y ≤ 1048576 := by have := HGD.out.n2; omega
              have HG2 := Aside0.mk (show n - (ii + 1) < gk from by omega)
              have HY0 := Aside0.mk hy0
              have HY1 := Aside0.mk (show y < (C.length : Int) by rw [HLC.out]; exact hlty)
              have hny : IntKind.i64.wrap (y + 1) = y + 1 := (i64_w _).trans (by unfold wrap64; omega)
              have hlty' : decide (y < (n : Int)) = true := decide_eq_true hlty
              have hn30 := HGD.out.n2
              obtain ⟨l, hl⟩ : ∃ l : Int, ((fl (fun k => isCl C k z) ii).length : Int) = l := ⟨_, rfl⟩
              have hnl : IntKind.i64.wrap (l + 1) = l + 1 := (i64_w _).trans (by unfold wrap64; omega)
              have HLE := Aside0.mk hl
              obtain ⟨q, hq⟩ : ∃ q, isCl C y z = q := ⟨_, rfl⟩
              rw [hq] at hps
              have HQ := Aside0.mk hq
              rw [hy, hl]
              clear hy hq hl hfl hn30
              cases q with
              | true =>
                rw [if_pos rfl] at hps
                have HPS := Aside0.mk (show ((fl (fun k => isCl C k z) (ii + 1)).length : Int) = l + 1 from by rw [hps, List.length_append, ← HLE.out]; simp)
                clear hps
                go_wp2_with (first | (go_at_call 57; (with_reducible refine (isClean _ w.heap.size b gc gl cc cl C L y z ?sS HY0.out HY1.out).mono ?_); (case sS => repeat (first | (with_reducible first | exact HM.out.st | apply St.drewN | apply St.drew | apply St.alloc) | exact HM.out.st)); rintro e w' ⟨rfl, ⟨nd, rfl⟩⟩; rw [HQ.out]))
                go_roundg (n - (ii + 1))
                case measure => have := HG2.out; omega
                case rel => exact ⟨ii + 1, by have := HY.out; have := of_decide_eq_true hlty'; omega, by omega, by rw [HPS.out], by have := HY.out; congr 1; omega, by repeat (first | exact Drawn0.refl _ | apply Drawn0.step)⟩
              | false =>
                rw [if_neg (by simp), List.append_nil] at hps
                have HPS := Aside0.mk (show ((fl (fun k => isCl C k z) (ii + 1)).length : Int) = l from by rw [hps, ← HLE.out])
                clear hps
                go_wp2_with (first | (go_at_call 57; (with_reducible refine (isClean _ w.heap.size b gc gl cc cl C L y z ?sS HY0.out HY1.out).mono ?_); (case sS => repeat (first | (with_reducible first | exact HM.out.st | apply St.drewN | apply St.drew | apply St.alloc) | exact HM.out.st)); rintro e w' ⟨rfl, ⟨nd, rfl⟩⟩; rw [HQ.out]))
                go_roundg (n - (ii + 1))
                case measure => have := HG2.out; omega
                case rel => exact ⟨ii + 1, by have := HY.out; have := of_decide_eq_true hlty'; omega, by omega, by rw [HPS.out], by have := HY.out; congr 1; omega, by repeat (first | exact Drawn0.refl _ | apply Drawn0.step)⟩
            · have hlty : decide ((ii : Int) < (n : Int)) = false := decide_eq_false (by omega)
              obtain rfl : n = ii := by omega
              obtain ⟨l, hl⟩ : ∃ l : Int, ((fl (fun k => isCl C k z) n).length : Int) = l := ⟨_, rfl⟩
              have HM2 := Aside0.mk (HM.out.drewN m1)
              have HFX := Aside0.mk (show fw n E D (kk + 1) = if l < f1 then (l, z) else (f1, f2) from by rw [HFW.out, hl, HF1.out]; congr 1; exact Prod.ext HF1.out HF2.out)
              rw [hl]
              clear hl HFW HM
              generalize wo.drewN m1 = wr at *
              have HM := HM2
              clear HM2
              have hbx0 := (show wr.cell? ⟨gw, 0, none⟩ = some (.int .i64 P) from (blk_cell HM.out.box 0).trans rfl)
              have hbx1 := (show wr.cell? ⟨gw, 1, none⟩ = some (.int .i64 E) from (blk_cell HM.out.box 1).trans rfl)
              have hbx2 := (show wr.cell? ⟨gw, 2, none⟩ = some (.int .i64 D) from (blk_cell HM.out.box 2).trans rfl)
              by_cases hlf : l < f1
              · have hlf1 : decide (l < f1) = true := decide_eq_true hlf
                have HFY := Aside0.mk (HFX.out.trans (if_pos hlf))
                clear hlf HFX
                go_wp2_with (first | (go_at_call 48; refine (HM.out.wear HLC.out HLL.out HGD.out.n2 z).mono ?_; rintro e w3_ ⟨rfl, hm, hk⟩; rw [HP.out] at hm; have n0 := Aside0.mk hm; clear HM hm hk hbx0 hbx1 hbx2; have HM := n0; clear n0; have hbx0 := (show w3_.cell? ⟨gw, 0, none⟩ = some (.int .i64 P) from (blk_cell HM.out.box 0).trans rfl); have hbx1 := (show w3_.cell? ⟨gw, 1, none⟩ = some (.int .i64 E) from (blk_cell HM.out.box 1).trans rfl); have hbx2 := (show w3_.cell? ⟨gw, 2, none⟩ = some (.int .i64 D) from (blk_cell HM.out.box 2).trans rfl)) | (go_at_call 58; refine (HM.out.wash HLC1.out HGD.out z HZ0.out HZ2.out).mono ?_; rintro e w4_ ⟨v, rfl, hr, hm, hk⟩; rw [HSC.out, HSL.out] at hm; have n0 := Aside0.mk hm; clear HM hm hk hr hbx0 hbx1 hbx2; have HM := n0; clear n0))
                go_roundg (m - (kk + 1))
                case measure => have := HG.out; omega
                case rel => exact ⟨kk + 1, by have := HKM.out; omega, by omega, by rw [HFY.out], by rw [HFY.out], by have := HZ.out; congr 1; omega, HM⟩
              · have hlf1 : decide (l < f1) = false := decide_eq_false hlf
                have HFY := Aside0.mk (HFX.out.trans (if_neg hlf))
                clear hlf HFX
                go_wp2_with (first | (go_at_call 48; refine (HM.out.wear HLC.out HLL.out HGD.out.n2 z).mono ?_; rintro e w3_ ⟨rfl, hm, hk⟩; rw [HP.out] at hm; have n0 := Aside0.mk hm; clear HM hm hk hbx0 hbx1 hbx2; have HM := n0; clear n0; have hbx0 := (show w3_.cell? ⟨gw, 0, none⟩ = some (.int .i64 P) from (blk_cell HM.out.box 0).trans rfl); have hbx1 := (show w3_.cell? ⟨gw, 1, none⟩ = some (.int .i64 E) from (blk_cell HM.out.box 1).trans rfl); have hbx2 := (show w3_.cell? ⟨gw, 2, none⟩ = some (.int .i64 D) from (blk_cell HM.out.box 2).trans rfl)) | (go_at_call 58; refine (HM.out.wash HLC1.out HGD.out z HZ0.out HZ2.out).mono ?_; rintro e w4_ ⟨v, rfl, hr, hm, hk⟩; rw [HSC.out, HSL.out] at hm; have n0 := Aside0.mk hm; clear HM hm hk hr hbx0 hbx1 hbx2; have HM := n0; clear n0))
                go_roundg (m - (kk + 1))
                case measure => have := HG.out; omega
                case rel => exact ⟨kk + 1, by have := HKM.out; omega, by omega, by rw [HFY.out], by rw [HFY.out], by have := HZ.out; congr 1; omega, HM⟩
        · have hltz : decide ((kk : Int) < d) = false := decide_eq_false (by rw [HDM.out]; omega)
          obtain rfl : kk = m := by omega
          go_wp2
          go_ret3
          exact ⟨rfl, HM.out.below⟩
  · rw [if_neg (fun h => c h.1)] at h
    simp only [Option.some.injEq, Prod.mk.injEq] at h
    obtain ⟨rfl, rfl, rfl⟩ := h
    have HA := Aside0.mk (Bool.eq_false_iff.mpr c)
    clear c
    go_enter Try.func29, Try.ntmps29
    go_wp2_with (first | ((with_reducible refine gate_dst (N := 2) rfl ?_); refine box_event ?hg (N := 2) ?hd (cs := #[.int .i64 P, .int .i64 E, .int .i64 D]) (t := 27) ?hr ?_; (case hd => rfl); (case hg => rfl); (case hr => first | (go_simp; done) | (go_simp; rfl)); intro gw hg w1 hbox hb; have hcgw_0 : w1.cell? ⟨gw, 0, none⟩ = some (.int .i64 P) := (blk_cell hbox 0).trans rfl; have hfgw_0 := blk_frozen hbox 0; have hcgw_1 : w1.cell? ⟨gw, 1, none⟩ = some (.int .i64 E) := (blk_cell hbox 1).trans rfl; have hfgw_1 := blk_frozen hbox 1; have hcgw_2 : w1.cell? ⟨gw, 2, none⟩ = some (.int .i64 D) := (blk_cell hbox 2).trans rfl; have hfgw_2 := blk_frozen hbox 2; have HB := Aside0.mk hb; have HX := Aside0.mk hbox; clear hb hg hbox) | (go_at_call 43; refine (dyAsked_calls P E D d _).mono ?_; rintro e w3 ⟨rfl, hb⟩; rw [HA.out]; have n0 := Aside0.mk (blk_below HX.out hb); have n1 := Aside0.mk (HB.out.trans (hb.mono HB.out.size)); clear hb HX HB hcgw_0 hcgw_1 hcgw_2; have HX := n0; have HB := n1; clear n0 n1; have hcgw_0 : w3.cell? ⟨gw, 0, none⟩ = some (.int .i64 P) := (blk_cell HX.out 0).trans rfl; have hcgw_1 : w3.cell? ⟨gw, 1, none⟩ = some (.int .i64 E) := (blk_cell HX.out 1).trans rfl; have hcgw_2 : w3.cell? ⟨gw, 2, none⟩ = some (.int .i64 D) := (blk_cell HX.out 2).trans rfl))
    go_ret3
    exact ⟨rfl, (by repeat (first | (with_reducible first | exact HB.out | apply below_alloc | apply pw_below_drewN | apply below_drew1) | exact HB.out))⟩
end Go.Proofs.Ytpalinpgoalneaa.XFc
