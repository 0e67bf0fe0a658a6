/- The contracts of the reference's WornOn, CleanOn, BasketOn and WashedOn. -/
import Derived.Test.YtpalinpgoalneaaXDayF
import Derived.Test.YtpalinpgoalneaaXOn
namespace Go.Proofs.Ytpalinpgoalneaa.XOs
open Go.RowKit Go.Proofs.YtpalinpgoalneaaW.PrintWords Go.Proofs.YtpalinpgoalneaaW.PrintLast Go.Proofs.YtpalinpgoalneaaW.PrintMore
open Go.Proofs.Ytpalinpgoalneaa.QBase Go.Proofs.Ytpalinpgoalneaa.PD Go.Proofs.Ytpalinpgoalneaa.XSt Go.Proofs.Ytpalinpgoalneaa.XSu Go.Proofs.Ytpalinpgoalneaa.XDay Go.Proofs.Ytpalinpgoalneaa.XDayF Go.Proofs.Ytpalinpgoalneaa.XOn
open Go.Proofs.Ytpalinpgoalneaa.QDayP (S44 z44 k44 k44_open k44_openM k44_mk k44_mkM rd_T44 at_T44)
set_option linter.unusedVariables false
set_option linter.unusedSimpArgs false
def spec_BasketOn.f (a b c d : Int) : Option (List Int × Bool) := some (if asked a b c d = true then (dBask a.toNat b c d.toNat, true) else ([], false))
set_option maxHeartbeats 8000000 in
set_option maxRecDepth 100000 in
theorem spec_BasketOn.calls (P E D d : Int) (r1 : List Int) (r2 : Bool) (w : World) (h : spec_BasketOn.f P E D d = some (r1, r2)) :
    Calls Try.prog 33 #[.agg #[.int .i64 P, .int .i64 E, .int .i64 D], .int .i64 d] w fun e w' => ∃ v0_ : Value, e = .returned (.tuple #[v0_, .bool r2]) ∧ Kd.R (Kd.int .i64) 3 w' w.heap.size (fun _ => True) v0_ r1 ∧ Below w.heap.size w w' := by
  unfold spec_BasketOn.f at h
  have hu27 := Try.underlying27
  by_cases c : asked P E D d = true
  · rw [if_pos c] at h
    obtain ⟨hg, hd0, hd1⟩ := good_of c
    obtain ⟨n, hn⟩ : ∃ n, P.toNat = n := ⟨_, rfl⟩
    obtain ⟨m, hm⟩ : ∃ m, d.toNat = m := ⟨_, rfl⟩
    rw [hn, hm] at h
    rw [hn] at hg
    have HGD := Aside0.mk hg
    have HDM := Aside0.mk (show d = (m : Int) by omega)
    have HM6 := Aside0.mk (show m ≤ 600 by omega)
    have HD0 := Aside0.mk hd0
    have HD1 := Aside0.mk (show d ≤ 1000 by omega)
    have HA := Aside0.mk c
    clear c hg hd0 hd1 hn hm
    obtain ⟨rfl, rfl⟩ := Prod.mk.inj (Option.some.inj h)
    clear h
    have HEQ := Aside0.mk (show dBask n E D m = bas (wC (st n E D m).1 (pk (st n E D m).1 (st n E D m).2 d n)) n from by
      unfold dBask
      rw [HDM.out]; rfl)
    go_enter Try.func33, Try.ntmps33
    go_wp2_with (first | ((with_reducible refine gate_dst (N := 2) rfl ?_); refine box_event ?hg (N := 2) ?hd (cs := #[.int .i64 P, .int .i64 E, .int .i64 D]) (t := 27) ?hr ?_; (case hd => rfl); (case hg => rfl); (case hr => first | (go_simp; done) | (go_simp; rfl)); intro gw hg w1 hbox hb; have hcgw_0 : w1.cell? ⟨gw, 0, none⟩ = some (.int .i64 P) := (blk_cell hbox 0).trans rfl; have hfgw_0 := blk_frozen hbox 0; have hcgw_1 : w1.cell? ⟨gw, 1, none⟩ = some (.int .i64 E) := (blk_cell hbox 1).trans rfl; have hfgw_1 := blk_frozen hbox 1; have hcgw_2 : w1.cell? ⟨gw, 2, none⟩ = some (.int .i64 D) := (blk_cell hbox 2).trans rfl; have hfgw_2 := blk_frozen hbox 2; have HB := Aside0.mk hb; have HX := Aside0.mk hbox; clear hb hg hbox) | (go_at_call 43; refine (dyAsked_calls P E D d _).mono ?_; rintro e w3 ⟨rfl, hb⟩; rw [HA.out]; have n0 := Aside0.mk (blk_below HX.out hb); have n1 := Aside0.mk (HB.out.trans (hb.mono HB.out.size)); clear hb HX HB hcgw_0 hcgw_1 hcgw_2; have HX := n0; have HB := n1; clear n0 n1; have hcgw_0 : w3.cell? ⟨gw, 0, none⟩ = some (.int .i64 P) := (blk_cell HX.out 0).trans rfl; have hcgw_1 : w3.cell? ⟨gw, 1, none⟩ = some (.int .i64 E) := (blk_cell HX.out 1).trans rfl; have hcgw_2 : w3.cell? ⟨gw, 2, none⟩ = some (.int .i64 D) := (blk_cell HX.out 2).trans rfl) | (go_at_call 47; refine (dyBefore HGD.out HDM.out HM6.out).mono ?_; rintro e w4 ⟨b, gc, gl, cc, cl, rfl, hs, hb⟩; have HS := Aside0.mk hs; have HSB := Aside0.mk hb.size; have n0 := Aside0.mk (blk_below HX.out hb); have n1 := Aside0.mk (HB.out.trans (hb.mono HB.out.size)); have HBS := Aside0.mk HB.out.size; clear hb hs HX HB hcgw_0 hcgw_1 hcgw_2; have HX := n0; have HB := n1; clear n0 n1; have hcgw_0 : w4.cell? ⟨gw, 0, none⟩ = some (.int .i64 P) := (blk_cell HX.out 0).trans rfl; have hcgw_1 : w4.cell? ⟨gw, 1, none⟩ = some (.int .i64 E) := (blk_cell HX.out 1).trans rfl; have hcgw_2 : w4.cell? ⟨gw, 2, none⟩ = some (.int .i64 D) := (blk_cell HX.out 2).trans rfl) | (go_at_call 48; refine (wear HS.out (st_len n E D m).1 (st_len n E D m).2 HGD.out.n2).mono ?_; rintro e w5 ⟨rfl, hs, hb, hk⟩; have n2 := Aside0.mk hs; have n3 := Aside0.mk (Nat.le_trans HSB.out hb.size); have n0 := Aside0.mk (blk_kept HX.out hk (fun h => h.elim (fun e => Kd.R_ne HS.out.rc HX.out (by decide) (by rw [e]; rfl)) (fun e => Kd.R_ne HS.out.rl HX.out (by decide) (by rw [e]; rfl)))); have n1 := Aside0.mk (HB.out.trans (hb.mono HBS.out)); clear hb hs hk HX HB HS HSB hcgw_0 hcgw_1 hcgw_2; have HX := n0; have HB := n1; have HS := n2; have HSB := n3; clear n0 n1 n2 n3; have hcgw_0 : w5.cell? ⟨gw, 0, none⟩ = some (.int .i64 P) := (blk_cell HX.out 0).trans rfl; have hcgw_1 : w5.cell? ⟨gw, 1, none⟩ = some (.int .i64 E) := (blk_cell HX.out 1).trans rfl; have hcgw_2 : w5.cell? ⟨gw, 2, none⟩ = some (.int .i64 D) := (blk_cell HX.out 2).trans rfl) | (go_at_call 62; refine (basket HS.out (by rw [wC_len, (st_len n E D m).1]) HGD.out.n2).mono ?_; rintro e w6 ⟨v, rfl, hr, hb⟩; have HR := Aside0.mk (Kd.R_lower hr HB.out.size); have n1 := Aside0.mk (HB.out.trans (hb.mono HB.out.size)); clear hb hr HB hcgw_0 hcgw_1 hcgw_2; have HB := n1; clear n1))
    go_ret2
    exact ⟨_, rfl, by rw [HEQ.out]; exact HR.out, HB.out⟩
  · rw [if_neg c] at h
    obtain ⟨rfl, rfl⟩ := Prod.mk.inj (Option.some.inj h)
    have HA := Aside0.mk (Bool.eq_false_iff.mpr c)
    clear h c
    go_enter Try.func33, Try.ntmps33
    go_wp2_with (first | ((with_reducible refine gate_dst (N := 2) rfl ?_); refine box_event ?hg (N := 2) ?hd (cs := #[.int .i64 P, .int .i64 E, .int .i64 D]) (t := 27) ?hr ?_; (case hd => rfl); (case hg => rfl); (case hr => first | (go_simp; done) | (go_simp; rfl)); intro gw hg w1 hbox hb; have hcgw_0 : w1.cell? ⟨gw, 0, none⟩ = some (.int .i64 P) := (blk_cell hbox 0).trans rfl; have hfgw_0 := blk_frozen hbox 0; have hcgw_1 : w1.cell? ⟨gw, 1, none⟩ = some (.int .i64 E) := (blk_cell hbox 1).trans rfl; have hfgw_1 := blk_frozen hbox 1; have hcgw_2 : w1.cell? ⟨gw, 2, none⟩ = some (.int .i64 D) := (blk_cell hbox 2).trans rfl; have hfgw_2 := blk_frozen hbox 2; have HB := Aside0.mk hb; have HX := Aside0.mk hbox; clear hb hg hbox) | (go_at_call 43; refine (dyAsked_calls P E D d _).mono ?_; rintro e w3 ⟨rfl, hb⟩; rw [HA.out]; have n0 := Aside0.mk (blk_below HX.out hb); have n1 := Aside0.mk (HB.out.trans (hb.mono HB.out.size)); clear hb HX HB hcgw_0 hcgw_1 hcgw_2; have HX := n0; have HB := n1; clear n0 n1; have hcgw_0 : w3.cell? ⟨gw, 0, none⟩ = some (.int .i64 P) := (blk_cell HX.out 0).trans rfl; have hcgw_1 : w3.cell? ⟨gw, 1, none⟩ = some (.int .i64 E) := (blk_cell HX.out 1).trans rfl; have hcgw_2 : w3.cell? ⟨gw, 2, none⟩ = some (.int .i64 D) := (blk_cell HX.out 2).trans rfl))
    go_ret2
    exact ⟨_, rfl, Kd.R_nil _ _ _ _ _, (by repeat (first | (with_reducible first | exact HB.out | apply below_alloc | apply pw_below_drewN | apply below_drew1) | exact HB.out))⟩
def spec_WashedOn.f (a b c d : Int) : Option (List Int × Bool) := some (if asked a b c d = true then (dWash a.toNat b c d.toNat, true) else ([], false))
set_option maxHeartbeats 8000000 in
set_option maxRecDepth 100000 in
theorem spec_WashedOn.calls (P E D d : Int) (r1 : List Int) (r2 : Bool) (w : World) (h : spec_WashedOn.f P E D d = some (r1, r2)) :
    Calls Try.prog 35 #[.agg #[.int .i64 P, .int .i64 E, .int .i64 D], .int .i64 d] w fun e w' => ∃ v0_ : Value, e = .returned (.tuple #[v0_, .bool r2]) ∧ Kd.R (Kd.int .i64) 3 w' w.heap.size (fun _ => True) v0_ r1 ∧ Below w.heap.size w w' := by
  unfold spec_WashedOn.f at h
  have hu27 := Try.underlying27
  by_cases c : asked P E D d = true
  · rw [if_pos c] at h
    obtain ⟨hg, hd0, hd1⟩ := good_of c
    obtain ⟨n, hn⟩ : ∃ n, P.toNat = n := ⟨_, rfl⟩
    obtain ⟨m, hm⟩ : ∃ m, d.toNat = m := ⟨_, rfl⟩
    rw [hn, hm] at h
    rw [hn] at hg
    have HGD := Aside0.mk hg
    have HDM := Aside0.mk (show d = (m : Int) by omega)
    have HM6 := Aside0.mk (show m ≤ 600 by omega)
    have HD0 := Aside0.mk hd0
    have HD1 := Aside0.mk (show d ≤ 1000 by omega)
    have HA := Aside0.mk c
    clear c hg hd0 hd1 hn hm
    obtain ⟨rfl, rfl⟩ := Prod.mk.inj (Option.some.inj h)
    clear h
    have HEQ := Aside0.mk (show dWash n E D m = washed E d (wC (st n E D m).1 (pk (st n E D m).1 (st n E D m).2 d n)) n from by
      unfold dWash
      unfold washed; rw [HDM.out]; rfl)
    go_enter Try.func35, Try.ntmps35
    go_wp2_with (first | ((with_reducible refine gate_dst (N := 2) rfl ?_); refine box_event ?hg (N := 2) ?hd (cs := #[.int .i64 P, .int .i64 E, .int .i64 D]) (t := 27) ?hr ?_; (case hd => rfl); (case hg => rfl); (case hr => first | (go_simp; done) | (go_simp; rfl)); intro gw hg w1 hbox hb; have hcgw_0 : w1.cell? ⟨gw, 0, none⟩ = some (.int .i64 P) := (blk_cell hbox 0).trans rfl; have hfgw_0 := blk_frozen hbox 0; have hcgw_1 : w1.cell? ⟨gw, 1, none⟩ = some (.int .i64 E) := (blk_cell hbox 1).trans rfl; have hfgw_1 := blk_frozen hbox 1; have hcgw_2 : w1.cell? ⟨gw, 2, none⟩ = some (.int .i64 D) := (blk_cell hbox 2).trans rfl; have hfgw_2 := blk_frozen hbox 2; have HB := Aside0.mk hb; have HX := Aside0.mk hbox; clear hb hg hbox) | (go_at_call 43; refine (dyAsked_calls P E D d _).mono ?_; rintro e w3 ⟨rfl, hb⟩; rw [HA.out]; have n0 := Aside0.mk (blk_below HX.out hb); have n1 := Aside0.mk (HB.out.trans (hb.mono HB.out.size)); clear hb HX HB hcgw_0 hcgw_1 hcgw_2; have HX := n0; have HB := n1; clear n0 n1; have hcgw_0 : w3.cell? ⟨gw, 0, none⟩ = some (.int .i64 P) := (blk_cell HX.out 0).trans rfl; have hcgw_1 : w3.cell? ⟨gw, 1, none⟩ = some (.int .i64 E) := (blk_cell HX.out 1).trans rfl; have hcgw_2 : w3.cell? ⟨gw, 2, none⟩ = some (.int .i64 D) := (blk_cell HX.out 2).trans rfl) | (go_at_call 47; refine (dyBefore HGD.out HDM.out HM6.out).mono ?_; rintro e w4 ⟨b, gc, gl, cc, cl, rfl, hs, hb⟩; have HS := Aside0.mk hs; have HSB := Aside0.mk hb.size; have n0 := Aside0.mk (blk_below HX.out hb); have n1 := Aside0.mk (HB.out.trans (hb.mono HB.out.size)); have HBS := Aside0.mk HB.out.size; clear hb hs HX HB hcgw_0 hcgw_1 hcgw_2; have HX := n0; have HB := n1; clear n0 n1; have hcgw_0 : w4.cell? ⟨gw, 0, none⟩ = some (.int .i64 P) := (blk_cell HX.out 0).trans rfl; have hcgw_1 : w4.cell? ⟨gw, 1, none⟩ = some (.int .i64 E) := (blk_cell HX.out 1).trans rfl; have hcgw_2 : w4.cell? ⟨gw, 2, none⟩ = some (.int .i64 D) := (blk_cell HX.out 2).trans rfl) | (go_at_call 48; refine (wear HS.out (st_len n E D m).1 (st_len n E D m).2 HGD.out.n2).mono ?_; rintro e w5 ⟨rfl, hs, hb, hk⟩; have n2 := Aside0.mk hs; have n3 := Aside0.mk (Nat.le_trans HSB.out hb.size); have n0 := Aside0.mk (blk_kept HX.out hk (fun h => h.elim (fun e => Kd.R_ne HS.out.rc HX.out (by decide) (by rw [e]; rfl)) (fun e => Kd.R_ne HS.out.rl HX.out (by decide) (by rw [e]; rfl)))); have n1 := Aside0.mk (HB.out.trans (hb.mono HBS.out)); clear hb hs hk HX HB HS HSB hcgw_0 hcgw_1 hcgw_2; have HX := n0; have HB := n1; have HS := n2; have HSB := n3; clear n0 n1 n2 n3; have hcgw_0 : w5.cell? ⟨gw, 0, none⟩ = some (.int .i64 P) := (blk_cell HX.out 0).trans rfl; have hcgw_1 : w5.cell? ⟨gw, 1, none⟩ = some (.int .i64 E) := (blk_cell HX.out 1).trans rfl; have hcgw_2 : w5.cell? ⟨gw, 2, none⟩ = some (.int .i64 D) := (blk_cell HX.out 2).trans rfl) | (go_at_call 58; refine (wash HS.out (by rw [wC_len, (st_len n E D m).1]) HGD.out.n2 HGD.out.e1 HGD.out.e2 HGD.out.d1 HGD.out.d2 HD0.out HD1.out HSB.out).mono ?_; rintro e w6 ⟨v, rfl, hr, hs, hb, hk⟩; have HR := Aside0.mk (Kd.R_lower hr HB.out.size); have n1 := Aside0.mk (HB.out.trans (hb.mono HBS.out)); clear hb hr hs hk HB hcgw_0 hcgw_1 hcgw_2; have HB := n1; clear n1))
    go_ret2
    exact ⟨_, rfl, by rw [HEQ.out]; exact HR.out, HB.out⟩
  · rw [if_neg c] at h
    obtain ⟨rfl, rfl⟩ := Prod.mk.inj (Option.some.inj h)
    have HA := Aside0.mk (Bool.eq_false_iff.mpr c)
    clear h c
    go_enter Try.func35, Try.ntmps35
    go_wp2_with (first | ((with_reducible refine gate_dst (N := 2) rfl ?_); refine box_event ?hg (N := 2) ?hd (cs := #[.int .i64 P, .int .i64 E, .int .i64 D]) (t := 27) ?hr ?_; (case hd => rfl); (case hg => rfl); (case hr => first | (go_simp; done) | (go_simp; rfl)); intro gw hg w1 hbox hb; have hcgw_0 : w1.cell? ⟨gw, 0, none⟩ = some (.int .i64 P) := (blk_cell hbox 0).trans rfl; have hfgw_0 := blk_frozen hbox 0; have hcgw_1 : w1.cell? ⟨gw, 1, none⟩ = some (.int .i64 E) := (blk_cell hbox 1).trans rfl; have hfgw_1 := blk_frozen hbox 1; have hcgw_2 : w1.cell? ⟨gw, 2, none⟩ = some (.int .i64 D) := (blk_cell hbox 2).trans rfl; have hfgw_2 := blk_frozen hbox 2; have HB := Aside0.mk hb; have HX := Aside0.mk hbox; clear hb hg hbox) | (go_at_call 43; refine (dyAsked_calls P E D d _).mono ?_; rintro e w3 ⟨rfl, hb⟩; rw [HA.out]; have n0 := Aside0.mk (blk_below HX.out hb); have n1 := Aside0.mk (HB.out.trans (hb.mono HB.out.size)); clear hb HX HB hcgw_0 hcgw_1 hcgw_2; have HX := n0; have HB := n1; clear n0 n1; have hcgw_0 : w3.cell? ⟨gw, 0, none⟩ = some (.int .i64 P) := (blk_cell HX.out 0).trans rfl; have hcgw_1 : w3.cell? ⟨gw, 1, none⟩ = some (.int .i64 E) := (blk_cell HX.out 1).trans rfl; have hcgw_2 : w3.cell? ⟨gw, 2, none⟩ = some (.int .i64 D) := (blk_cell HX.out 2).trans rfl))
    go_ret2
    exact ⟨_, rfl, Kd.R_nil _ _ _ _ _, (by repeat (first | (with_reducible first | exact HB.out | apply below_alloc | apply pw_below_drewN | apply below_drew1) | exact HB.out))⟩
def spec_WornOn.f (a b c d : Int) : Option (Int × Bool) := some (wornF a b c d)
set_option maxHeartbeats 8000000 in
set_option maxRecDepth 100000 in
theorem spec_WornOn.calls (P E D d : Int) (r1 : Int) (r2 : Bool) (w : World) (h : spec_WornOn.f P E D d = some (r1, r2)) :
    Calls Try.prog 23 #[.agg #[.int .i64 P, .int .i64 E, .int .i64 D], .int .i64 d] w fun e w' => e = .returned (.tuple #[.int .i64 r1, .bool r2]) ∧ Below w.heap.size w w' := by
  unfold spec_WornOn.f wornF at h
  have hu27 := Try.underlying27
  by_cases c : asked P E D d = true
  · rw [if_pos c] at h
    obtain ⟨hg, hd0, hd1⟩ := good_of c
    obtain ⟨n, hn⟩ : ∃ n, P.toNat = n := ⟨_, rfl⟩
    obtain ⟨m, hm⟩ : ∃ m, d.toNat = m := ⟨_, rfl⟩
    rw [hn, hm] at h
    rw [hn] at hg
    have HGD := Aside0.mk hg
    have HDM := Aside0.mk (show d = (m : Int) by omega)
    have HM6 := Aside0.mk (show m ≤ 600 by omega)
    have HD0 := Aside0.mk hd0
    have HD1 := Aside0.mk (show d ≤ 1000 by omega)
    have HA := Aside0.mk c
    clear c hg hd0 hd1 hn hm
    have HEQ := Aside0.mk (show pk (st n E D m).1 (st n E D m).2 d n = dWorn n E D m from by rw [HDM.out]; rfl)
    obtain ⟨x, hx⟩ : ∃ x, dWorn n E D m = x := ⟨_, rfl⟩
    have HW := Aside0.mk hx
    rw [hx] at h
    clear hx
    by_cases hn : x < 0
    · have hn' : decide (x < 0) = true := decide_eq_true hn
      rw [if_pos hn] at h
      obtain ⟨rfl, rfl⟩ := Prod.mk.inj (Option.some.inj h)
      clear h hn
      go_enter Try.func23, Try.ntmps23
      go_wp2_with (first | ((with_reducible refine gate_dst (N := 2) rfl ?_); refine box_event ?hg (N := 2) ?hd (cs := #[.int .i64 P, .int .i64 E, .int .i64 D]) (t := 27) ?hr ?_; (case hd => rfl); (case hg => rfl); (case hr => first | (go_simp; done) | (go_simp; rfl)); intro gw hg w1 hbox hb; have hcgw_0 : w1.cell? ⟨gw, 0, none⟩ = some (.int .i64 P) := (blk_cell hbox 0).trans rfl; have hfgw_0 := blk_frozen hbox 0; have hcgw_1 : w1.cell? ⟨gw, 1, none⟩ = some (.int .i64 E) := (blk_cell hbox 1).trans rfl; have hfgw_1 := blk_frozen hbox 1; have hcgw_2 : w1.cell? ⟨gw, 2, none⟩ = some (.int .i64 D) := (blk_cell hbox 2).trans rfl; have hfgw_2 := blk_frozen hbox 2; have HB := Aside0.mk hb; have HX := Aside0.mk hbox; clear hb hg hbox) | (go_at_call 43; refine (dyAsked_calls P E D d _).mono ?_; rintro e w3 ⟨rfl, hb⟩; rw [HA.out]; have n0 := Aside0.mk (blk_below HX.out hb); have n1 := Aside0.mk (HB.out.trans (hb.mono HB.out.size)); clear hb HX HB hcgw_0 hcgw_1 hcgw_2; have HX := n0; have HB := n1; clear n0 n1; have hcgw_0 : w3.cell? ⟨gw, 0, none⟩ = some (.int .i64 P) := (blk_cell HX.out 0).trans rfl; have hcgw_1 : w3.cell? ⟨gw, 1, none⟩ = some (.int .i64 E) := (blk_cell HX.out 1).trans rfl; have hcgw_2 : w3.cell? ⟨gw, 2, none⟩ = some (.int .i64 D) := (blk_cell HX.out 2).trans rfl) | (go_at_call 47; refine (dyBefore HGD.out HDM.out HM6.out).mono ?_; rintro e w4 ⟨b, gc, gl, cc, cl, rfl, hs, hb⟩; have HS := Aside0.mk hs; have HSB := Aside0.mk hb.size; have n0 := Aside0.mk (blk_below HX.out hb); have n1 := Aside0.mk (HB.out.trans (hb.mono HB.out.size)); have HBS := Aside0.mk HB.out.size; clear hb hs HX HB hcgw_0 hcgw_1 hcgw_2; have HX := n0; have HB := n1; clear n0 n1; have hcgw_0 : w4.cell? ⟨gw, 0, none⟩ = some (.int .i64 P) := (blk_cell HX.out 0).trans rfl; have hcgw_1 : w4.cell? ⟨gw, 1, none⟩ = some (.int .i64 E) := (blk_cell HX.out 1).trans rfl; have hcgw_2 : w4.cell? ⟨gw, 2, none⟩ = some (.int .i64 D) := (blk_cell HX.out 2).trans rfl) | (go_at_call 48; refine (wear HS.out (st_len n E D m).1 (st_len n E D m).2 HGD.out.n2).mono ?_; rintro e w5 ⟨rfl, hs, hb, hk⟩; rw [HEQ.out, HW.out]; have n2 := Aside0.mk hs; have n3 := Aside0.mk (Nat.le_trans HSB.out hb.size); have n0 := Aside0.mk (blk_kept HX.out hk (fun h => h.elim (fun e => Kd.R_ne HS.out.rc HX.out (by decide) (by rw [e]; rfl)) (fun e => Kd.R_ne HS.out.rl HX.out (by decide) (by rw [e]; rfl)))); have n1 := Aside0.mk (HB.out.trans (hb.mono HBS.out)); clear hb hs hk HX HB HS HSB hcgw_0 hcgw_1 hcgw_2; have HX := n0; have HB := n1; have HS := n2; have HSB := n3; clear n0 n1 n2 n3; have hcgw_0 : w5.cell? ⟨gw, 0, none⟩ = some (.int .i64 P) := (blk_cell HX.out 0).trans rfl; have hcgw_1 : w5.cell? ⟨gw, 1, none⟩ = some (.int .i64 E) := (blk_cell HX.out 1).trans rfl; have hcgw_2 : w5.cell? ⟨gw, 2, none⟩ = some (.int .i64 D) := (blk_cell HX.out 2).trans rfl))
      go_ret2
      exact ⟨rfl, HB.out⟩
    · have hn' : decide (x < 0) = false := decide_eq_false hn
      rw [if_neg hn] at h
      obtain ⟨rfl, rfl⟩ := Prod.mk.inj (Option.some.inj h)
      clear h hn
      go_enter Try.func23, Try.ntmps23
      go_wp2_with (first | ((with_reducible refine gate_dst (N := 2) rfl ?_); refine box_event ?hg (N := 2) ?hd (cs := #[.int .i64 P, .int .i64 E, .int .i64 D]) (t := 27) ?hr ?_; (case hd => rfl); (case hg => rfl); (case hr => first | (go_simp; done) | (go_simp; rfl)); intro gw hg w1 hbox hb; have hcgw_0 : w1.cell? ⟨gw, 0, none⟩ = some (.int .i64 P) := (blk_cell hbox 0).trans rfl; have hfgw_0 := blk_frozen hbox 0; have hcgw_1 : w1.cell? ⟨gw, 1, none⟩ = some (.int .i64 E) := (blk_cell hbox 1).trans rfl; have hfgw_1 := blk_frozen hbox 1; have hcgw_2 : w1.cell? ⟨gw, 2, none⟩ = some (.int .i64 D) := (blk_cell hbox 2).trans rfl; have hfgw_2 := blk_frozen hbox 2; have HB := Aside0.mk hb; have HX := Aside0.mk hbox; clear hb hg hbox) | (go_at_call 43; refine (dyAsked_calls P E D d _).mono ?_; rintro e w3 ⟨rfl, hb⟩; rw [HA.out]; have n0 := Aside0.mk (blk_below HX.out hb); have n1 := Aside0.mk (HB.out.trans (hb.mono HB.out.size)); clear hb HX HB hcgw_0 hcgw_1 hcgw_2; have HX := n0; have HB := n1; clear n0 n1; have hcgw_0 : w3.cell? ⟨gw, 0, none⟩ = some (.int .i64 P) := (blk_cell HX.out 0).trans rfl; have hcgw_1 : w3.cell? ⟨gw, 1, none⟩ = some (.int .i64 E) := (blk_cell HX.out 1).trans rfl; have hcgw_2 : w3.cell? ⟨gw, 2, none⟩ = some (.int .i64 D) := (blk_cell HX.out 2).trans rfl) | (go_at_call 47; refine (dyBefore HGD.out HDM.out HM6.out).mono ?_; rintro e w4 ⟨b, gc, gl, cc, cl, rfl, hs, hb⟩; have HS := Aside0.mk hs; have HSB := Aside0.mk hb.size; have n0 := Aside0.mk (blk_below HX.out hb); have n1 := Aside0.mk (HB.out.trans (hb.mono HB.out.size)); have HBS := Aside0.mk HB.out.size; clear hb hs HX HB hcgw_0 hcgw_1 hcgw_2; have HX := n0; have HB := n1; clear n0 n1; have hcgw_0 : w4.cell? ⟨gw, 0, none⟩ = some (.int .i64 P) := (blk_cell HX.out 0).trans rfl; have hcgw_1 : w4.cell? ⟨gw, 1, none⟩ = some (.int .i64 E) := (blk_cell HX.out 1).trans rfl; have hcgw_2 : w4.cell? ⟨gw, 2, none⟩ = some (.int .i64 D) := (blk_cell HX.out 2).trans rfl) | (go_at_call 48; refine (wear HS.out (st_len n E D m).1 (st_len n E D m).2 HGD.out.n2).mono ?_; rintro e w5 ⟨rfl, hs, hb, hk⟩; rw [HEQ.out, HW.out]; have n2 := Aside0.mk hs; have n3 := Aside0.mk (Nat.le_trans HSB.out hb.size); have n0 := Aside0.mk (blk_kept HX.out hk (fun h => h.elim (fun e => Kd.R_ne HS.out.rc HX.out (by decide) (by rw [e]; rfl)) (fun e => Kd.R_ne HS.out.rl HX.out (by decide) (by rw [e]; rfl)))); have n1 := Aside0.mk (HB.out.trans (hb.mono HBS.out)); clear hb hs hk HX HB HS HSB hcgw_0 hcgw_1 hcgw_2; have HX := n0; have HB := n1; have HS := n2; have HSB := n3; clear n0 n1 n2 n3; have hcgw_0 : w5.cell? ⟨gw, 0, none⟩ = some (.int .i64 P) := (blk_cell HX.out 0).trans rfl; have hcgw_1 : w5.cell? ⟨gw, 1, none⟩ = some (.int .i64 E) := (blk_cell HX.out 1).trans rfl; have hcgw_2 : w5.cell? ⟨gw, 2, none⟩ = some (.int .i64 D) := (blk_cell HX.out 2).trans rfl))
      go_ret2
      exact ⟨rfl, HB.out⟩
  · rw [if_neg c] at h
    obtain ⟨rfl, rfl⟩ := Prod.mk.inj (Option.some.inj h)
    have HA := Aside0.mk (Bool.eq_false_iff.mpr c)
    clear h c
    go_enter Try.func23, Try.ntmps23
    go_wp2_with (first | ((with_reducible refine gate_dst (N := 2) rfl ?_); refine box_event ?hg (N := 2) ?hd (cs := #[.int .i64 P, .int .i64 E, .int .i64 D]) (t := 27) ?hr ?_; (case hd => rfl); (case hg => rfl); (case hr => first | (go_simp; done) | (go_simp; rfl)); intro gw hg w1 hbox hb; have hcgw_0 : w1.cell? ⟨gw, 0, none⟩ = some (.int .i64 P) := (blk_cell hbox 0).trans rfl; have hfgw_0 := blk_frozen hbox 0; have hcgw_1 : w1.cell? ⟨gw, 1, none⟩ = some (.int .i64 E) := (blk_cell hbox 1).trans rfl; have hfgw_1 := blk_frozen hbox 1; have hcgw_2 : w1.cell? ⟨gw, 2, none⟩ = some (.int .i64 D) := (blk_cell hbox 2).trans rfl; have hfgw_2 := blk_frozen hbox 2; have HB := Aside0.mk hb; have HX := Aside0.mk hbox; clear hb hg hbox) | (go_at_call 43; refine (dyAsked_calls P E D d _).mono ?_; rintro e w3 ⟨rfl, hb⟩; rw [HA.out]; have n0 := Aside0.mk (blk_below HX.out hb); have n1 := Aside0.mk (HB.out.trans (hb.mono HB.out.size)); clear hb HX HB hcgw_0 hcgw_1 hcgw_2; have HX := n0; have HB := n1; clear n0 n1; have hcgw_0 : w3.cell? ⟨gw, 0, none⟩ = some (.int .i64 P) := (blk_cell HX.out 0).trans rfl; have hcgw_1 : w3.cell? ⟨gw, 1, none⟩ = some (.int .i64 E) := (blk_cell HX.out 1).trans rfl; have hcgw_2 : w3.cell? ⟨gw, 2, none⟩ = some (.int .i64 D) := (blk_cell HX.out 2).trans rfl))
    go_ret2
    exact ⟨rfl, (by repeat (first | (with_reducible first | exact HB.out | apply below_alloc | apply pw_below_drewN | apply below_drew1) | exact HB.out))⟩
def spec_CleanOn.f (a b c d : Int) : Option (List Int × Bool) := some (if asked a b c d = true then (dClean a.toNat b c d.toNat, true) else ([], false))
set_option maxHeartbeats 8000000 in
set_option maxRecDepth 100000 in
theorem spec_CleanOn.calls (P E D d : Int) (r1 : List Int) (r2 : Bool) (w : World) (h : spec_CleanOn.f P E D d = some (r1, r2)) :
    Calls Try.prog 41 #[.agg #[.int .i64 P, .int .i64 E, .int .i64 D], .int .i64 d] w fun e w' => ∃ v0_ : Value, e = .returned (.tuple #[v0_, .bool r2]) ∧ Kd.R (Kd.int .i64) 3 w' w.heap.size (fun _ => True) v0_ r1 ∧ Below w.heap.size w w' := by
  unfold spec_CleanOn.f at h
  have hu27 := Try.underlying27
  by_cases c : asked P E D d = true
  · rw [if_pos c] at h
    obtain ⟨hg, hd0, hd1⟩ := good_of c
    obtain ⟨n, hn⟩ : ∃ n, P.toNat = n := ⟨_, rfl⟩
    obtain ⟨m, hm⟩ : ∃ m, d.toNat = m := ⟨_, rfl⟩
    rw [hn, hm] at h
    rw [hn] at hg
    have HGD := Aside0.mk hg
    have HDM := Aside0.mk (show d = (m : Int) by omega)
    have HM6 := Aside0.mk (show m ≤ 600 by omega)
    have HD0 := Aside0.mk hd0
    have HD1 := Aside0.mk (show d ≤ 1000 by omega)
    have HA := Aside0.mk c
    clear c hg hd0 hd1 hn hm
    obtain ⟨rfl, rfl⟩ := Prod.mk.inj (Option.some.inj h)
    clear h
    have HEQ := Aside0.mk (show dClean n E D m = fl (fun k => isCl (st n E D m).1 k d) n from by rw [HDM.out]; rfl)
    have HN := Aside0.mk ((st_len n E D m).1)
    go_enter Try.func41, Try.ntmps41
    go_wp2_with (first | ((with_reducible refine gate_dst (N := 2) rfl ?_); refine box_event ?hg (N := 2) ?hd (cs := #[.int .i64 P, .int .i64 E, .int .i64 D]) (t := 27) ?hr ?_; (case hd => rfl); (case hg => rfl); (case hr => first | (go_simp; done) | (go_simp; rfl)); intro gw hg w1 hbox hb; have hcgw_0 : w1.cell? ⟨gw, 0, none⟩ = some (.int .i64 P) := (blk_cell hbox 0).trans rfl; have hfgw_0 := blk_frozen hbox 0; have hcgw_1 : w1.cell? ⟨gw, 1, none⟩ = some (.int .i64 E) := (blk_cell hbox 1).trans rfl; have hfgw_1 := blk_frozen hbox 1; have hcgw_2 : w1.cell? ⟨gw, 2, none⟩ = some (.int .i64 D) := (blk_cell hbox 2).trans rfl; have hfgw_2 := blk_frozen hbox 2; have HB := Aside0.mk hb; have HX := Aside0.mk hbox; clear hb hg hbox) | (go_at_call 43; refine (dyAsked_calls P E D d _).mono ?_; rintro e w3 ⟨rfl, hb⟩; rw [HA.out]; have n0 := Aside0.mk (blk_below HX.out hb); have n1 := Aside0.mk (HB.out.trans (hb.mono HB.out.size)); clear hb HX HB hcgw_0 hcgw_1 hcgw_2; have HX := n0; have HB := n1; clear n0 n1; have hcgw_0 : w3.cell? ⟨gw, 0, none⟩ = some (.int .i64 P) := (blk_cell HX.out 0).trans rfl; have hcgw_1 : w3.cell? ⟨gw, 1, none⟩ = some (.int .i64 E) := (blk_cell HX.out 1).trans rfl; have hcgw_2 : w3.cell? ⟨gw, 2, none⟩ = some (.int .i64 D) := (blk_cell HX.out 2).trans rfl) | (go_at_call 47; refine (dyBefore HGD.out HDM.out HM6.out).mono ?_; rintro e w4 ⟨b, gc, gl, cc, cl, rfl, hs, hb⟩; have HS := Aside0.mk hs; have HSB := Aside0.mk hb.size; have n0 := Aside0.mk (blk_below HX.out hb); have n1 := Aside0.mk (HB.out.trans (hb.mono HB.out.size)); have HBS := Aside0.mk HB.out.size; have hx0 := hs.cell0; rw [HN.out] at hx0; clear hb hs HX HB hcgw_0 hcgw_1 hcgw_2; have HX := n0; have HB := n1; clear n0 n1; have hcgw_0 : w4.cell? ⟨gw, 0, none⟩ = some (.int .i64 P) := (blk_cell HX.out 0).trans rfl; have hcgw_1 : w4.cell? ⟨gw, 1, none⟩ = some (.int .i64 E) := (blk_cell HX.out 1).trans rfl; have hcgw_2 : w4.cell? ⟨gw, 2, none⟩ = some (.int .i64 D) := (blk_cell HX.out 2).trans rfl))
    clear hx0 hcgw_0 hcgw_1 hcgw_2
    have HBW := HB
    have HB4 := Aside0.mk (Below.refl w4.heap.size w4)
    clear HB
    go_loopg [6, 21] n (fun gg v6 v21 wr => ∃ kk : Nat, kk ≤ n ∧ n - kk ≤ gg ∧ v21 = .int .i64 kk ∧ Aside0 (Kd.R (Kd.int .i64) 3 wr w4.heap.size (fun _ => True) v6 (fl (fun k => isCl (st n E D m).1 k d) kk)) ∧ Aside0 (Below w4.heap.size w4 wr))
    case atStart => exact ⟨0, Nat.zero_le _, by omega, rfl, ⟨Kd.R_nil _ _ _ _ _⟩, HB4⟩
    case round =>
      clear HB4
      obtain ⟨kk, hkk, hg, rfl, HR, HB⟩ := hrel
      by_cases hlt : kk < n
      · have hps := fl_succ (fun k => isCl (st n E D m).1 k d) kk
        have hfl := fl_len (fun k => isCl (st n E D m).1 k d) kk
        obtain ⟨z, hz⟩ : ∃ z : Int, (kk : Int) = z := ⟨_, rfl⟩
        have HZ := Aside0.mk hz
        simp only [hz] at hps
        have hltz : z < (n : Int) := by omega
        have hh0 : 0 ≤ z := by omega
        have hz2 : z ≤ 1048576 := by have := HGD.out.n2; omega
        have HG := Aside0.mk (show n - (kk + 1) < gk from by omega)
        have HZ0 := Aside0.mk hh0
        have HZ1 := Aside0.mk (show z < ((st n E D m).1.length : Int) by rw [HN.out]; exact hltz)
        have hnx : IntKind.i64.wrap (z + 1) = z + 1 := (i64_w _).trans (by unfold wrap64; omega)
        have hltz' : decide (z < (n : Int)) = true := decide_eq_true hltz
        have HLB := Aside0.mk (show (fl (fun k => isCl (st n E D m).1 k d) kk).length ≤ 30 from by have := HGD.out.n2; omega)
        replace hltz := eq_true hltz
        replace hh0 := eq_true hh0
        have HB1 := HB
        rw [hz]
        obtain ⟨q, hq⟩ : ∃ q, isCl (st n E D m).1 z d = q := ⟨_, rfl⟩
        rw [hq] at hps
        have HQ := Aside0.mk hq
        generalize fl (fun k => isCl (st n E D m).1 k d) kk = y at HR hps HLB hfl
        clear hz hq hfl
        cases q with
        | true =>
          rw [if_pos rfl] at hps
          have HPS := Aside0.mk hps
          clear hps
          go_wp2_with (first | (go_at_call 57; (with_reducible refine (isClean _ w3.heap.size b gc gl cc cl (st n E D m).1 (st n E D m).2 z d ?sS HZ0.out HZ1.out).mono ?_); (case sS => exact (HS.out.below HB1.out)); rintro e w' ⟨rfl, ⟨nd, rfl⟩⟩; rw [HQ.out]) | ((with_reducible refine gate_builtin (b := .append) (xs := #[.tmp 28, .tmp 30]) rfl ?_); at_builtin; refine Kd.R_append (Kd.int .i64) (w0 := w4) (w4.heap.size) rfl (.tmp 28) (.tmp 30) 24 3 (.int .i64 0) 8 rfl Try.underlying24 info3 rfl (by decide) (by omega) (u6) (y) (z) [.int .i64 (z)] (fun _ => True) (fun _ => False) rfl rfl ?aP (fun _ hk => hk.elim) ?aF ?aO ?aB ?aS ?aL ?_; (case aP => exact rfl); (case aB => exact (by repeat (first | (with_reducible first | exact HB.out | apply below_alloc | apply pw_below_drewN | apply below_drew1) | exact HB.out))); (case aF => exact (fun _ _ => trivial)); (case aO => exact (by (with_reducible repeat (first | apply Kd.R_alloc | apply Kd.R_drewN | apply Kd.R_drew)); exact HR.out)); (case aS => exact (below_size (by repeat (first | (with_reducible first | exact HB.out | apply below_alloc | apply pw_below_drewN | apply below_drew1) | exact HB.out)))); (case aL => have := HLB.out; simp; omega); intro v1 w1 ho hb hg hat; rw [← HPS.out] at ho; have n0 := Aside0.mk ho; have n1 := Aside0.mk hb; clear HR HB ho hb hg hat; have HR := n0; have HB := n1; clear n0 n1))
          go_roundg (n - (kk + 1))
          case measure => have := HG.out; omega
          case rel => exact ⟨kk + 1, by have := HZ.out; have := of_eq_true hltz; omega, by omega, by have := HZ.out; congr 1; omega, HR, HB⟩
        | false =>
          rw [if_neg (by simp), List.append_nil] at hps
          have HPS := Aside0.mk hps
          clear hps
          go_wp2_with (first | (go_at_call 57; (with_reducible refine (isClean _ w3.heap.size b gc gl cc cl (st n E D m).1 (st n E D m).2 z d ?sS HZ0.out HZ1.out).mono ?_); (case sS => exact (HS.out.below HB1.out)); rintro e w' ⟨rfl, ⟨nd, rfl⟩⟩; rw [HQ.out]))
          go_roundg (n - (kk + 1))
          case measure => have := HG.out; omega
          case rel => exact ⟨kk + 1, by have := HZ.out; have := of_eq_true hltz; omega, by omega, by have := HZ.out; congr 1; omega, ⟨by rw [HPS.out]; exact Kd.R_drewN HR.out _⟩, ⟨pw_below_drewN HB.out _⟩⟩
      · have hltz : decide ((kk : Int) < (n : Int)) = false := decide_eq_false (by omega)
        obtain rfl : kk = n := by omega
        go_wp2
        go_ret2
        exact ⟨_, rfl, by rw [HEQ.out]; exact Kd.R_lower HR.out HBW.out.size, HBW.out.trans (HB.out.mono HBW.out.size)⟩
  · rw [if_neg c] at h
    obtain ⟨rfl, rfl⟩ := Prod.mk.inj (Option.some.inj h)
    have HA := Aside0.mk (Bool.eq_false_iff.mpr c)
    clear h c
    go_enter Try.func41, Try.ntmps41
    go_wp2_with (first | ((with_reducible refine gate_dst (N := 2) rfl ?_); refine box_event ?hg (N := 2) ?hd (cs := #[.int .i64 P, .int .i64 E, .int .i64 D]) (t := 27) ?hr ?_; (case hd => rfl); (case hg => rfl); (case hr => first | (go_simp; done) | (go_simp; rfl)); intro gw hg w1 hbox hb; have hcgw_0 : w1.cell? ⟨gw, 0, none⟩ = some (.int .i64 P) := (blk_cell hbox 0).trans rfl; have hfgw_0 := blk_frozen hbox 0; have hcgw_1 : w1.cell? ⟨gw, 1, none⟩ = some (.int .i64 E) := (blk_cell hbox 1).trans rfl; have hfgw_1 := blk_frozen hbox 1; have hcgw_2 : w1.cell? ⟨gw, 2, none⟩ = some (.int .i64 D) := (blk_cell hbox 2).trans rfl; have hfgw_2 := blk_frozen hbox 2; have HB := Aside0.mk hb; have HX := Aside0.mk hbox; clear hb hg hbox) | (go_at_call 43; refine (dyAsked_calls P E D d _).mono ?_; rintro e w3 ⟨rfl, hb⟩; rw [HA.out]; have n0 := Aside0.mk (blk_below HX.out hb); have n1 := Aside0.mk (HB.out.trans (hb.mono HB.out.size)); clear hb HX HB hcgw_0 hcgw_1 hcgw_2; have HX := n0; have HB := n1; clear n0 n1; have hcgw_0 : w3.cell? ⟨gw, 0, none⟩ = some (.int .i64 P) := (blk_cell HX.out 0).trans rfl; have hcgw_1 : w3.cell? ⟨gw, 1, none⟩ = some (.int .i64 E) := (blk_cell HX.out 1).trans rfl; have hcgw_2 : w3.cell? ⟨gw, 2, none⟩ = some (.int .i64 D) := (blk_cell HX.out 2).trans rfl))
    go_ret2
    exact ⟨_, rfl, Kd.R_nil _ _ _ _ _, (by repeat (first | (with_reducible first | exact HB.out | apply below_alloc | apply pw_below_drewN | apply below_drew1) | exact HB.out))⟩

end Go.Proofs.Ytpalinpgoalneaa.XOs
