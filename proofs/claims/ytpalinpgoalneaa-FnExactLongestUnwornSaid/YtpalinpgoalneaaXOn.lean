/- The contracts of the program's on and of WornOn, CleanOn, BasketOn and WashedOn, the program's and the reference's. -/
import Derived.Test.YtpalinpgoalneaaXDayF
namespace Go.Proofs.Ytpalinpgoalneaa.XOn
open Go.RowKit Go.Proofs.YtpalinpgoalneaaW.PrintWords Go.Proofs.YtpalinpgoalneaaW.PrintLast Go.Proofs.YtpalinpgoalneaaW.PrintMore
open Go.Proofs.Ytpalinpgoalneaa.QBase Go.Proofs.Ytpalinpgoalneaa.PD Go.Proofs.Ytpalinpgoalneaa.XSt Go.Proofs.Ytpalinpgoalneaa.XSu Go.Proofs.Ytpalinpgoalneaa.XDay Go.Proofs.Ytpalinpgoalneaa.XDayF
open Go.Proofs.Ytpalinpgoalneaa.QDayP (S44 z44 k44 k44_open k44_openM k44_mk k44_mkM rd_T44 at_T44)
set_option linter.unusedVariables false
set_option linter.unusedSimpArgs false
def asked (a b c d : Int) : Bool := decide (okw a b c d ∧ d ≤ 500)
theorem dyGood_eq (a b c : Int) : spec_dyGood.f a b c = some (decide (okw a b c 0)) := by
  unfold spec_dyGood.f spec_l1In.f okw
  by_cases h1 : 1 ≤ a <;> by_cases h2 : a ≤ 30 <;> by_cases h3 : 1 ≤ b <;> by_cases h4 : b ≤ 30 <;> by_cases h5 : 1 ≤ c <;> simp [h1, h2, h3, h4, h5]
theorem isWash_eq (a b c : Int) : impl_IsWash.f a b c = some (decide (okw a b c 0)) := by
  unfold impl_IsWash.f impl_areTimes.f impl_within.f okw
  by_cases h1 : 1 ≤ a <;> by_cases h2 : a ≤ 30 <;> by_cases h3 : 1 ≤ b <;> by_cases h4 : b ≤ 30 <;> by_cases h5 : 1 ≤ c <;> simp [h1, h2, h3, h4, h5]
theorem asked_and (a b c d : Int) : asked a b c d = (decide (okw a b c 0) && (decide (0 ≤ d) && decide (d ≤ 500))) := by
  unfold asked
  rw [Bool.eq_iff_iff, Bool.and_eq_true, Bool.and_eq_true, decide_eq_true_iff, decide_eq_true_iff, decide_eq_true_iff, decide_eq_true_iff]
  unfold okw
  omega
theorem dyAsked_eq (a b c d : Int) : spec_dyAsked.f a b c d = some (asked a b c d) := by
  unfold spec_dyAsked.f
  rw [dyGood_eq, asked_and]
  show (if decide (okw a b c 0) = true then _ else _) = _
  cases decide (okw a b c 0)
  · rfl
  · rw [if_pos rfl]
    unfold spec_l1In.f
    by_cases h : 0 ≤ d
    · rw [if_pos h]; simp [h]
    · rw [if_neg h]; simp [h]
theorem isDay_eq (a b c d : Int) : impl_isDay.f a b c d = some (asked a b c d) := by
  unfold impl_isDay.f
  rw [isWash_eq, asked_and]
  show (if decide (okw a b c 0) = true then _ else _) = _
  cases decide (okw a b c 0)
  · rfl
  · rw [if_pos rfl]
    unfold impl_within.f
    by_cases h : 0 ≤ d
    · rw [if_pos h]; simp [h]
    · rw [if_neg h]; simp [h]
theorem asked_is {a b c d : Int} (h : asked a b c d = true) : okw a b c d ∧ d ≤ 500 := of_decide_eq_true h
/-- One day out of the list of days. -/
theorem elem {w : World} {base : Nat} {ok : Nat → Prop} {v : Value} {n m : Nat} {b c : Int} (h : Kd.S k44 44 w base ok v (dl n b c m)) (z : Int) (h0 : 0 ≤ z) (h1 : z < (m : Int)) :
    ∃ g cap A1 c1 A2 c2 A3 c3, v = .slice (some ⟨g, 0, none⟩) m cap ∧
      w.cell? ⟨g, z.toNat * 4, none⟩ = some (.int .i64 (dWorn n b c z.toNat)) ∧ w.cell? ⟨g, z.toNat * 4 + 1, none⟩ = some (.slice A1 (dClean n b c z.toNat).length c1) ∧ w.cell? ⟨g, z.toNat * 4 + 2, none⟩ = some (.slice A2 (dBask n b c z.toNat).length c2) ∧ w.cell? ⟨g, z.toNat * 4 + 3, none⟩ = some (.slice A3 (dWash n b c z.toNat).length c3) ∧
      Kd.R (Kd.int .i64) 3 w base (fun _ => True) (.slice A1 (dClean n b c z.toNat).length c1) (dClean n b c z.toNat) ∧ Kd.R (Kd.int .i64) 3 w base (fun _ => True) (.slice A2 (dBask n b c z.toNat).length c2) (dBask n b c z.toNat) ∧ Kd.R (Kd.int .i64) 3 w base (fun _ => True) (.slice A3 (dWash n b c z.toNat).length c3) (dWash n b c z.toNat) := by
  have hR := Kd.S_R h
  obtain ⟨g, cap, ev, _⟩ := Kd.R_form hR (by rw [dl_len]; omega)
  subst ev
  rw [dl_len] at hR
  obtain ⟨cs, _, hM, hc, _⟩ := Kd.R_elem hR z44 z h0 h1
  rw [show (dl n b c m).getD z.toNat z44 = dayOf n b c z.toNat from by rw [List.getD_eq_getElem?_getD, List.getElem?_eq_getElem (by rw [dl_len]; omega)]; simp [dl]] at hM
  obtain ⟨v1, v2, v3, rfl, r1, r2, r3⟩ := k44_openM hM
  obtain ⟨A1, c1, rfl⟩ := Kd.R_slice r1
  obtain ⟨A2, c2, rfl⟩ := Kd.R_slice r2
  obtain ⟨A3, c3, rfl⟩ := Kd.R_slice r3
  refine ⟨g, cap, A1, c1, A2, c2, A3, c3, by rw [dl_len], ?_, ?_, ?_, ?_, Kd.R_mono r1 (fun _ _ => trivial), Kd.R_mono r2 (fun _ _ => trivial), Kd.R_mono r3 (fun _ _ => trivial)⟩
  · exact hc 0 _ rfl
  · exact hc 1 _ rfl
  · exact hc 2 _ rfl
  · exact hc 3 _ rfl
/-- A day written whole into a block of its own. -/
theorem set4 {w : World} {g : Nat} {x0 x1 x2 x3 : Value} (y0 y1 y2 y3 : Value) (hb : w.heap[g]? = some (.cells #[x0, x1, x2, x3] 44 (0, 0))) :
    ((((w.setCell ⟨g, 0, none⟩ y0).setCell ⟨g, 1, none⟩ y1).setCell ⟨g, 2, none⟩ y2).setCell ⟨g, 3, none⟩ y3).heap[g]? = some (.cells #[y0, y1, y2, y3] 44 (0, 0)) ∧
    (∀ {base : Nat} {ok : Nat → Prop} {v : Value} {xs : List Int}, Kd.R (Kd.int .i64) 3 w base ok v xs → Kd.R (Kd.int .i64) 3 ((((w.setCell ⟨g, 0, none⟩ y0).setCell ⟨g, 1, none⟩ y1).setCell ⟨g, 2, none⟩ y2).setCell ⟨g, 3, none⟩ y3) base ok v xs) ∧
    (∀ {w0 : World}, w0.heap.size ≤ g → Below w0.heap.size w0 w → Below w0.heap.size w0 ((((w.setCell ⟨g, 0, none⟩ y0).setCell ⟨g, 1, none⟩ y1).setCell ⟨g, 2, none⟩ y2).setCell ⟨g, 3, none⟩ y3)) := by
  have h0 := blk_put (cs' := #[y0, x1, x2, x3]) hb 0 y0 rfl
  have h1 := blk_put (cs' := #[y0, y1, x2, x3]) h0 1 y1 rfl
  have h2 := blk_put (cs' := #[y0, y1, y2, x3]) h1 2 y2 rfl
  have h3 := blk_put (cs' := #[y0, y1, y2, y3]) h2 3 y3 rfl
  refine ⟨h3, fun hr => ?_, fun hg hw => below_set (below_set (below_set (below_set hw hg) hg) hg) hg⟩
  exact Kd.R_set (Kd.R_set (Kd.R_set (Kd.R_set hr hb (by simp [Kd.int, Kd.scalar]) 0 y0) h0 (by simp [Kd.int, Kd.scalar]) 1 y1) h1 (by simp [Kd.int, Kd.scalar]) 2 y2) h2 (by simp [Kd.int, Kd.scalar]) 3 y3
theorem good_of {a b c d : Int} (h : asked a b c d = true) : WashOk a b c a.toNat ∧ 0 ≤ d ∧ d ≤ 500 := ⟨(asked_is h).1.good, (asked_is h).1.2.2.2.1, (asked_is h).2⟩
theorem isDay_calls (a b c d : Int) (w : World) : Calls Try.prog 59 #[.agg #[.int .i64 a, .int .i64 b, .int .i64 c], .int .i64 d] w fun e w' => e = .returned (.bool (asked a b c d)) ∧ Below w.heap.size w w' :=
  impl_isDay.calls a b c d _ w (isDay_eq a b c d)
theorem dyAsked_calls (a b c d : Int) (w : World) : Calls Try.prog 43 #[.agg #[.int .i64 a, .int .i64 b, .int .i64 c], .int .i64 d] w fun e w' => e = .returned (.bool (asked a b c d)) ∧ Below w.heap.size w w' :=
  spec_dyAsked.calls a b c d _ w (dyAsked_eq a b c d)
set_option maxHeartbeats 8000000 in
set_option maxRecDepth 100000 in
/-- on: what is so on a day. -/
theorem on_ok {P E D d : Int} {w : World} (h : asked P E D d = true) :
    Calls Try.prog 49 #[.agg #[.int .i64 P, .int .i64 E, .int .i64 D], .int .i64 d] w fun e w' => ∃ A1 c1 A2 c2 A3 c3, e = .returned (.tuple #[.agg #[.int .i64 (dWorn P.toNat E D d.toNat), .slice A1 (dClean P.toNat E D d.toNat).length c1, .slice A2 (dBask P.toNat E D d.toNat).length c2, .slice A3 (dWash P.toNat E D d.toNat).length c3], .bool true]) ∧
      Kd.R (Kd.int .i64) 3 w' w.heap.size (fun _ => True) (.slice A1 (dClean P.toNat E D d.toNat).length c1) (dClean P.toNat E D d.toNat) ∧ Kd.R (Kd.int .i64) 3 w' w.heap.size (fun _ => True) (.slice A2 (dBask P.toNat E D d.toNat).length c2) (dBask P.toNat E D d.toNat) ∧ Kd.R (Kd.int .i64) 3 w' w.heap.size (fun _ => True) (.slice A3 (dWash P.toNat E D d.toNat).length c3) (dWash P.toNat E D d.toNat) ∧ Below w.heap.size w w' := by
  obtain ⟨hg, hd0, hd1⟩ := good_of h
  have HA := Aside0.mk h
  have HGD := Aside0.mk hg
  obtain ⟨d1, hd⟩ : ∃ v : Int, d + 1 = v := ⟨_, rfl⟩
  obtain ⟨m, hm⟩ : ∃ m : Nat, d1 = (m : Int) := ⟨d1.toNat, by omega⟩
  have hnd : IntKind.i64.wrap (d + 1) = d1 := (i64_w _).trans (by unfold wrap64; omega)
  have hdm : d < (m : Int) := by omega
  have HM := Aside0.mk hm
  have HM6 := Aside0.mk (show m ≤ 600 by omega)
  have hu27 := Try.underlying27
  have hu44 := Try.underlying44
  have hd0' := eq_true hd0
  have hdm' := eq_true hdm
  clear h hg hd1 hd hm
  go_enter Try.func49, Try.ntmps49
  go_wp2_with (first | ((with_reducible refine gate_dst (N := 2) rfl ?_); refine box_event ?hg (N := 2) ?hd (cs := #[.int .i64 P, .int .i64 E, .int .i64 D]) (t := 27) ?hr ?_; (case hd => rfl); (case hg => rfl); (case hr => first | (go_simp; done) | (go_simp; rfl)); intro gw hg w1 hbox hb; have hcgw_0 : w1.cell? ⟨gw, 0, none⟩ = some (.int .i64 P) := (blk_cell hbox 0).trans rfl; have hfgw_0 := blk_frozen hbox 0; have hcgw_1 : w1.cell? ⟨gw, 1, none⟩ = some (.int .i64 E) := (blk_cell hbox 1).trans rfl; have hfgw_1 := blk_frozen hbox 1; have hcgw_2 : w1.cell? ⟨gw, 2, none⟩ = some (.int .i64 D) := (blk_cell hbox 2).trans rfl; have hfgw_2 := blk_frozen hbox 2; have HB := Aside0.mk hb; have HX := Aside0.mk hbox; clear hb hg hbox) | ((with_reducible refine gate_dst (N := 4) rfl ?_); refine box_event ?hg (N := 4) ?hd (cs := #[.int .i64 0, .slice none 0 0, .slice none 0 0, .slice none 0 0]) (t := 44) ?hr ?_; (case hd => rfl); (case hg => rfl); (case hr => first | (go_simp; done) | (go_simp; rfl)); intro gr hg w2 hbox hb; have n0 := Aside0.mk (blk_below HX.out hb); have HRB := Aside0.mk hbox; have HGR := Aside0.mk (show w.heap.size ≤ gr by rw [hg]; exact HB.out.size); have n1 := Aside0.mk (HB.out.trans (hb.mono HB.out.size)); clear hb hg hbox HB HX hcgw_0 hcgw_1 hcgw_2; have HX := n0; have HB := n1; clear n0 n1; have hcgw_0 : w2.cell? ⟨gw, 0, none⟩ = some (.int .i64 P) := (blk_cell HX.out 0).trans rfl; have hcgw_1 : w2.cell? ⟨gw, 1, none⟩ = some (.int .i64 E) := (blk_cell HX.out 1).trans rfl; have hcgw_2 : w2.cell? ⟨gw, 2, none⟩ = some (.int .i64 D) := (blk_cell HX.out 2).trans rfl) | (go_at_call 59; refine (isDay_calls P E D d _).mono ?_; rintro e w3 ⟨rfl, hb⟩; rw [HA.out]; have n0 := Aside0.mk (blk_below HX.out hb); have n1 := Aside0.mk (blk_below HRB.out hb); have n2 := Aside0.mk (HB.out.trans (hb.mono HB.out.size)); clear hb HX HRB HB hcgw_0 hcgw_1 hcgw_2; have HX := n0; have HRB := n1; have HB := n2; clear n0 n1 n2; have hcgw_0 : w3.cell? ⟨gw, 0, none⟩ = some (.int .i64 P) := (blk_cell HX.out 0).trans rfl; have hcgw_1 : w3.cell? ⟨gw, 1, none⟩ = some (.int .i64 E) := (blk_cell HX.out 1).trans rfl; have hcgw_2 : w3.cell? ⟨gw, 2, none⟩ = some (.int .i64 D) := (blk_cell HX.out 2).trans rfl) | (go_at_call 53; refine (days HGD.out HM.out HM6.out).mono ?_; rintro e w4 ⟨v4, rfl, hs, hb⟩; obtain ⟨ge, ce, A1, c1, A2, c2, A3, c3, e4, k0, k1, k2, k3, r1, r2, r3⟩ := elem hs d (of_eq_true hd0') (of_eq_true hdm'); subst e4; have H1 := Aside0.mk (Kd.R_lower r1 HB.out.size); have H2 := Aside0.mk (Kd.R_lower r2 HB.out.size); have H3 := Aside0.mk (Kd.R_lower r3 HB.out.size); have n1 := Aside0.mk (blk_below HRB.out hb); have n2 := Aside0.mk (HB.out.trans (hb.mono HB.out.size)); clear hb HX HRB HB hs r1 r2 r3 hcgw_0 hcgw_1 hcgw_2; have HRB := n1; have HB := n2; clear n1 n2; have hfr0 := blk_frozen HRB.out 0; have hfr1 := blk_frozen HRB.out 1; have hfr2 := blk_frozen HRB.out 2; have hfr3 := blk_frozen HRB.out 3; have q0 : w4.cell? ⟨gr, 0, none⟩ = some (.int .i64 0) := (blk_cell HRB.out 0).trans rfl; have q1 : w4.cell? ⟨gr, 1, none⟩ = some (.slice none 0 0) := (blk_cell HRB.out 1).trans rfl; have q2 : w4.cell? ⟨gr, 2, none⟩ = some (.slice none 0 0) := (blk_cell HRB.out 2).trans rfl; have q3 : w4.cell? ⟨gr, 3, none⟩ = some (.slice none 0 0) := (blk_cell HRB.out 3).trans rfl))
  have hS := set4 (.int .i64 (dWorn P.toNat E D d.toNat)) (.slice A1 (dClean P.toNat E D d.toNat).length c1) (.slice A2 (dBask P.toNat E D d.toNat).length c2) (.slice A3 (dWash P.toNat E D d.toNat).length c3) HRB.out
  refine bodyPost_ret (results_ct rfl _ _ gr 44 #[.int .i64 (dWorn P.toNat E D d.toNat), .slice A1 (dClean P.toNat E D d.toNat).length c1, .slice A2 (dBask P.toNat E D d.toNat).length c2, .slice A3 (dWash P.toNat E D d.toNat).length c3] (0, 0) _ rfl hS.1 Try.underlying44 rfl (by kernel_rfl)) rfl ?_
  exact ⟨A1, c1, A2, c2, A3, c3, rfl, hS.2.1 H1.out, hS.2.1 H2.out, hS.2.1 H3.out, hS.2.2 HGR.out HB.out⟩
set_option maxHeartbeats 8000000 in
set_option maxRecDepth 100000 in
theorem on_no {P E D d : Int} {w : World} (h : asked P E D d = false) :
    Calls Try.prog 49 #[.agg #[.int .i64 P, .int .i64 E, .int .i64 D], .int .i64 d] w fun e w' => e = .returned (.tuple #[.agg #[.int .i64 0, .slice none 0 0, .slice none 0 0, .slice none 0 0], .bool false]) ∧ Below w.heap.size w w' := by
  have HA := Aside0.mk h
  have hu27 := Try.underlying27
  have hu44 := Try.underlying44
  clear h
  go_enter Try.func49, Try.ntmps49
  go_wp2_with (first | ((with_reducible refine gate_dst (N := 2) rfl ?_); refine box_event ?hg (N := 2) ?hd (cs := #[.int .i64 P, .int .i64 E, .int .i64 D]) (t := 27) ?hr ?_; (case hd => rfl); (case hg => rfl); (case hr => first | (go_simp; done) | (go_simp; rfl)); intro gw hg w1 hbox hb; have hcgw_0 : w1.cell? ⟨gw, 0, none⟩ = some (.int .i64 P) := (blk_cell hbox 0).trans rfl; have hfgw_0 := blk_frozen hbox 0; have hcgw_1 : w1.cell? ⟨gw, 1, none⟩ = some (.int .i64 E) := (blk_cell hbox 1).trans rfl; have hfgw_1 := blk_frozen hbox 1; have hcgw_2 : w1.cell? ⟨gw, 2, none⟩ = some (.int .i64 D) := (blk_cell hbox 2).trans rfl; have hfgw_2 := blk_frozen hbox 2; have HB := Aside0.mk hb; have HX := Aside0.mk hbox; clear hb hg hbox) | ((with_reducible refine gate_dst (N := 4) rfl ?_); refine box_event ?hg (N := 4) ?hd (cs := #[.int .i64 0, .slice none 0 0, .slice none 0 0, .slice none 0 0]) (t := 44) ?hr ?_; (case hd => rfl); (case hg => rfl); (case hr => first | (go_simp; done) | (go_simp; rfl)); intro gr hg w2 hbox hb; have n0 := Aside0.mk (blk_below HX.out hb); have HRB := Aside0.mk hbox; have HGR := Aside0.mk (show w.heap.size ≤ gr by rw [hg]; exact HB.out.size); have n1 := Aside0.mk (HB.out.trans (hb.mono HB.out.size)); clear hb hg hbox HB HX hcgw_0 hcgw_1 hcgw_2; have HX := n0; have HB := n1; clear n0 n1; have hcgw_0 : w2.cell? ⟨gw, 0, none⟩ = some (.int .i64 P) := (blk_cell HX.out 0).trans rfl; have hcgw_1 : w2.cell? ⟨gw, 1, none⟩ = some (.int .i64 E) := (blk_cell HX.out 1).trans rfl; have hcgw_2 : w2.cell? ⟨gw, 2, none⟩ = some (.int .i64 D) := (blk_cell HX.out 2).trans rfl) | (go_at_call 59; refine (isDay_calls P E D d _).mono ?_; rintro e w3 ⟨rfl, hb⟩; rw [HA.out]; have n1 := Aside0.mk (blk_below HRB.out hb); have n2 := Aside0.mk (HB.out.trans (hb.mono HB.out.size)); clear hb HX HRB HB hcgw_0 hcgw_1 hcgw_2; have HRB := n1; have HB := n2; clear n1 n2; have hfr0 := blk_frozen HRB.out 0; have hfr1 := blk_frozen HRB.out 1; have hfr2 := blk_frozen HRB.out 2; have hfr3 := blk_frozen HRB.out 3; have q0 : w3.cell? ⟨gr, 0, none⟩ = some (.int .i64 0) := (blk_cell HRB.out 0).trans rfl; have q1 : w3.cell? ⟨gr, 1, none⟩ = some (.slice none 0 0) := (blk_cell HRB.out 1).trans rfl; have q2 : w3.cell? ⟨gr, 2, none⟩ = some (.slice none 0 0) := (blk_cell HRB.out 2).trans rfl; have q3 : w3.cell? ⟨gr, 3, none⟩ = some (.slice none 0 0) := (blk_cell HRB.out 3).trans rfl))
  have hS := set4 (.int .i64 0) (.slice none 0 0) (.slice none 0 0) (.slice none 0 0) HRB.out
  refine bodyPost_ret (results_ct rfl _ _ gr 44 #[.int .i64 0, .slice none 0 0, .slice none 0 0, .slice none 0 0] (0, 0) _ rfl hS.1 Try.underlying44 rfl (by kernel_rfl)) rfl ?_
  exact ⟨rfl, hS.2.2 HGR.out HB.out⟩
def wornF (a b c d : Int) : Int × Bool := if asked a b c d = true then (if dWorn a.toNat b c d.toNat < 0 then (0, false) else (dWorn a.toNat b c d.toNat, true)) else (0, false)
def impl_WornOn.f (a b c d : Int) : Option (Int × Bool) := some (wornF a b c d)
set_option maxHeartbeats 8000000 in
set_option maxRecDepth 100000 in
theorem impl_WornOn.calls (P E D d : Int) (r1 : Int) (r2 : Bool) (w : World) (h : impl_WornOn.f P E D d = some (r1, r2)) :
    Calls Try.prog 24 #[.agg #[.int .i64 P, .int .i64 E, .int .i64 D], .int .i64 d] w fun e w' => e = .returned (.tuple #[.int .i64 r1, .bool r2]) ∧ Below w.heap.size w w' := by
  unfold impl_WornOn.f wornF at h
  have hu27 := Try.underlying27
  have hu44 := Try.underlying44
  by_cases c : asked P E D d = true
  · rw [if_pos c] at h
    obtain ⟨x, hx⟩ : ∃ x, dWorn P.toNat E D d.toNat = x := ⟨_, rfl⟩
    have HW := Aside0.mk hx
    rw [hx] at h
    clear hx
    by_cases hn : x < 0
    · have hn' : decide (x < 0) = true := decide_eq_true hn
      rw [if_pos hn] at h
      obtain ⟨rfl, rfl⟩ := Prod.mk.inj (Option.some.inj h)
      clear h hn
      go_enter Try.func24, Try.ntmps24
      go_wp2_with (first | ((with_reducible refine gate_dst (N := 2) rfl ?_); refine box_event ?hg (N := 2) ?hd (cs := #[.int .i64 P, .int .i64 E, .int .i64 D]) (t := 27) ?hr ?_; (case hd => rfl); (case hg => rfl); (case hr => first | (go_simp; done) | (go_simp; rfl)); intro gw hg w1 hbox hb; have hcgw_0 : w1.cell? ⟨gw, 0, none⟩ = some (.int .i64 P) := (blk_cell hbox 0).trans rfl; have hfgw_0 := blk_frozen hbox 0; have hcgw_1 : w1.cell? ⟨gw, 1, none⟩ = some (.int .i64 E) := (blk_cell hbox 1).trans rfl; have hfgw_1 := blk_frozen hbox 1; have hcgw_2 : w1.cell? ⟨gw, 2, none⟩ = some (.int .i64 D) := (blk_cell hbox 2).trans rfl; have hfgw_2 := blk_frozen hbox 2; have HB := Aside0.mk hb; clear hb hg hbox) | (go_at_call 49; refine (on_ok c).mono ?_; rintro e w3 ⟨A1, c1, A2, c2, A3, c3, rfl, r1, r2, r3, hb⟩; rw [HW.out]; have n0 := Aside0.mk (HB.out.trans (hb.mono HB.out.size)); clear HB hb r1 r2 r3 hcgw_0 hcgw_1 hcgw_2; have HB := n0; clear n0))
      go_ret2
      exact ⟨rfl, (by repeat (first | (with_reducible first | exact HB.out | apply below_alloc | apply pw_below_drewN | apply below_drew1) | exact HB.out))⟩
    · have hn' : decide (x < 0) = false := decide_eq_false hn
      rw [if_neg hn] at h
      obtain ⟨rfl, rfl⟩ := Prod.mk.inj (Option.some.inj h)
      clear h hn
      go_enter Try.func24, Try.ntmps24
      go_wp2_with (first | ((with_reducible refine gate_dst (N := 2) rfl ?_); refine box_event ?hg (N := 2) ?hd (cs := #[.int .i64 P, .int .i64 E, .int .i64 D]) (t := 27) ?hr ?_; (case hd => rfl); (case hg => rfl); (case hr => first | (go_simp; done) | (go_simp; rfl)); intro gw hg w1 hbox hb; have hcgw_0 : w1.cell? ⟨gw, 0, none⟩ = some (.int .i64 P) := (blk_cell hbox 0).trans rfl; have hfgw_0 := blk_frozen hbox 0; have hcgw_1 : w1.cell? ⟨gw, 1, none⟩ = some (.int .i64 E) := (blk_cell hbox 1).trans rfl; have hfgw_1 := blk_frozen hbox 1; have hcgw_2 : w1.cell? ⟨gw, 2, none⟩ = some (.int .i64 D) := (blk_cell hbox 2).trans rfl; have hfgw_2 := blk_frozen hbox 2; have HB := Aside0.mk hb; clear hb hg hbox) | (go_at_call 49; refine (on_ok c).mono ?_; rintro e w3 ⟨A1, c1, A2, c2, A3, c3, rfl, r1, r2, r3, hb⟩; rw [HW.out]; have n0 := Aside0.mk (HB.out.trans (hb.mono HB.out.size)); clear HB hb r1 r2 r3 hcgw_0 hcgw_1 hcgw_2; have HB := n0; clear n0))
      go_ret2
      exact ⟨rfl, (by repeat (first | (with_reducible first | exact HB.out | apply below_alloc | apply pw_below_drewN | apply below_drew1) | exact HB.out))⟩
  · rw [if_neg c] at h
    obtain ⟨rfl, rfl⟩ := Prod.mk.inj (Option.some.inj h)
    clear h
    go_enter Try.func24, Try.ntmps24
    go_wp2_with (first | ((with_reducible refine gate_dst (N := 2) rfl ?_); refine box_event ?hg (N := 2) ?hd (cs := #[.int .i64 P, .int .i64 E, .int .i64 D]) (t := 27) ?hr ?_; (case hd => rfl); (case hg => rfl); (case hr => first | (go_simp; done) | (go_simp; rfl)); intro gw hg w1 hbox hb; have hcgw_0 : w1.cell? ⟨gw, 0, none⟩ = some (.int .i64 P) := (blk_cell hbox 0).trans rfl; have hfgw_0 := blk_frozen hbox 0; have hcgw_1 : w1.cell? ⟨gw, 1, none⟩ = some (.int .i64 E) := (blk_cell hbox 1).trans rfl; have hfgw_1 := blk_frozen hbox 1; have hcgw_2 : w1.cell? ⟨gw, 2, none⟩ = some (.int .i64 D) := (blk_cell hbox 2).trans rfl; have hfgw_2 := blk_frozen hbox 2; have HB := Aside0.mk hb; clear hb hg hbox) | (go_at_call 49; refine (on_no (Bool.eq_false_iff.mpr c)).mono ?_; rintro e w3 ⟨rfl, hb⟩; have n0 := Aside0.mk (HB.out.trans (hb.mono HB.out.size)); clear HB hb hcgw_0 hcgw_1 hcgw_2; have HB := n0; clear n0))
    go_ret2
    exact ⟨rfl, (by repeat (first | (with_reducible first | exact HB.out | apply below_alloc | apply pw_below_drewN | apply below_drew1) | exact HB.out))⟩
def impl_CleanOn.f (a b c d : Int) : Option (List Int × Bool) := some (if asked a b c d = true then (dClean a.toNat b c d.toNat, true) else ([], false))
set_option maxHeartbeats 8000000 in
set_option maxRecDepth 100000 in
theorem impl_CleanOn.calls (P E D d : Int) (r1 : List Int) (r2 : Bool) (w : World) (h : impl_CleanOn.f P E D d = some (r1, r2)) :
    Calls Try.prog 42 #[.agg #[.int .i64 P, .int .i64 E, .int .i64 D], .int .i64 d] w fun e w' => ∃ v0_ : Value, e = .returned (.tuple #[v0_, .bool r2]) ∧ Kd.R (Kd.int .i64) 3 w' w.heap.size (fun _ => True) v0_ r1 ∧ Below w.heap.size w w' := by
  unfold impl_CleanOn.f at h
  have hu27 := Try.underlying27
  have hu44 := Try.underlying44
  by_cases c : asked P E D d = true
  · rw [if_pos c] at h
    obtain ⟨rfl, rfl⟩ := Prod.mk.inj (Option.some.inj h)
    clear h
    go_enter Try.func42, Try.ntmps42
    go_wp2_with (first | ((with_reducible refine gate_dst (N := 2) rfl ?_); refine box_event ?hg (N := 2) ?hd (cs := #[.int .i64 P, .int .i64 E, .int .i64 D]) (t := 27) ?hr ?_; (case hd => rfl); (case hg => rfl); (case hr => first | (go_simp; done) | (go_simp; rfl)); intro gw hg w1 hbox hb; have hcgw_0 : w1.cell? ⟨gw, 0, none⟩ = some (.int .i64 P) := (blk_cell hbox 0).trans rfl; have hfgw_0 := blk_frozen hbox 0; have hcgw_1 : w1.cell? ⟨gw, 1, none⟩ = some (.int .i64 E) := (blk_cell hbox 1).trans rfl; have hfgw_1 := blk_frozen hbox 1; have hcgw_2 : w1.cell? ⟨gw, 2, none⟩ = some (.int .i64 D) := (blk_cell hbox 2).trans rfl; have hfgw_2 := blk_frozen hbox 2; have HB := Aside0.mk hb; clear hb hg hbox) | (go_at_call 49; refine (on_ok c).mono ?_; rintro e w3 ⟨A1, c1, A2, c2, A3, c3, rfl, r1, r2, r3, hb⟩; have H1 := Aside0.mk (Kd.R_lower r1 HB.out.size); have n0 := Aside0.mk (HB.out.trans (hb.mono HB.out.size)); clear HB hb r1 r2 r3 hcgw_0 hcgw_1 hcgw_2; have HB := n0; clear n0))
    go_ret2
    exact ⟨_, rfl, by (with_reducible repeat (first | apply Kd.R_alloc | apply Kd.R_drewN | apply Kd.R_drew)); exact H1.out, (by repeat (first | (with_reducible first | exact HB.out | apply below_alloc | apply pw_below_drewN | apply below_drew1) | exact HB.out))⟩
  · rw [if_neg c] at h
    obtain ⟨rfl, rfl⟩ := Prod.mk.inj (Option.some.inj h)
    clear h
    go_enter Try.func42, Try.ntmps42
    go_wp2_with (first | ((with_reducible refine gate_dst (N := 2) rfl ?_); refine box_event ?hg (N := 2) ?hd (cs := #[.int .i64 P, .int .i64 E, .int .i64 D]) (t := 27) ?hr ?_; (case hd => rfl); (case hg => rfl); (case hr => first | (go_simp; done) | (go_simp; rfl)); intro gw hg w1 hbox hb; have hcgw_0 : w1.cell? ⟨gw, 0, none⟩ = some (.int .i64 P) := (blk_cell hbox 0).trans rfl; have hfgw_0 := blk_frozen hbox 0; have hcgw_1 : w1.cell? ⟨gw, 1, none⟩ = some (.int .i64 E) := (blk_cell hbox 1).trans rfl; have hfgw_1 := blk_frozen hbox 1; have hcgw_2 : w1.cell? ⟨gw, 2, none⟩ = some (.int .i64 D) := (blk_cell hbox 2).trans rfl; have hfgw_2 := blk_frozen hbox 2; have HB := Aside0.mk hb; clear hb hg hbox) | (go_at_call 49; refine (on_no (Bool.eq_false_iff.mpr c)).mono ?_; rintro e w3 ⟨rfl, hb⟩; have n0 := Aside0.mk (HB.out.trans (hb.mono HB.out.size)); clear HB hb hcgw_0 hcgw_1 hcgw_2; have HB := n0; clear n0))
    go_ret2
    exact ⟨_, rfl, Kd.R_nil _ _ _ _ _, (by repeat (first | (with_reducible first | exact HB.out | apply below_alloc | apply pw_below_drewN | apply below_drew1) | exact HB.out))⟩
def impl_BasketOn.f (a b c d : Int) : Option (List Int × Bool) := some (if asked a b c d = true then (dBask a.toNat b c d.toNat, true) else ([], false))
set_option maxHeartbeats 8000000 in
set_option maxRecDepth 100000 in
theorem impl_BasketOn.calls (P E D d : Int) (r1 : List Int) (r2 : Bool) (w : World) (h : impl_BasketOn.f P E D d = some (r1, r2)) :
    Calls Try.prog 34 #[.agg #[.int .i64 P, .int .i64 E, .int .i64 D], .int .i64 d] w fun e w' => ∃ v0_ : Value, e = .returned (.tuple #[v0_, .bool r2]) ∧ Kd.R (Kd.int .i64) 3 w' w.heap.size (fun _ => True) v0_ r1 ∧ Below w.heap.size w w' := by
  unfold impl_BasketOn.f at h
  have hu27 := Try.underlying27
  have hu44 := Try.underlying44
  by_cases c : asked P E D d = true
  · rw [if_pos c] at h
    obtain ⟨rfl, rfl⟩ := Prod.mk.inj (Option.some.inj h)
    clear h
    go_enter Try.func34, Try.ntmps34
    go_wp2_with (first | ((with_reducible refine gate_dst (N := 2) rfl ?_); refine box_event ?hg (N := 2) ?hd (cs := #[.int .i64 P, .int .i64 E, .int .i64 D]) (t := 27) ?hr ?_; (case hd => rfl); (case hg => rfl); (case hr => first | (go_simp; done) | (go_simp; rfl)); intro gw hg w1 hbox hb; have hcgw_0 : w1.cell? ⟨gw, 0, none⟩ = some (.int .i64 P) := (blk_cell hbox 0).trans rfl; have hfgw_0 := blk_frozen hbox 0; have hcgw_1 : w1.cell? ⟨gw, 1, none⟩ = some (.int .i64 E) := (blk_cell hbox 1).trans rfl; have hfgw_1 := blk_frozen hbox 1; have hcgw_2 : w1.cell? ⟨gw, 2, none⟩ = some (.int .i64 D) := (blk_cell hbox 2).trans rfl; have hfgw_2 := blk_frozen hbox 2; have HB := Aside0.mk hb; clear hb hg hbox) | (go_at_call 49; refine (on_ok c).mono ?_; rintro e w3 ⟨A1, c1, A2, c2, A3, c3, rfl, r1, r2, r3, hb⟩; have H1 := Aside0.mk (Kd.R_lower r2 HB.out.size); have n0 := Aside0.mk (HB.out.trans (hb.mono HB.out.size)); clear HB hb r1 r2 r3 hcgw_0 hcgw_1 hcgw_2; have HB := n0; clear n0))
    go_ret2
    exact ⟨_, rfl, by (with_reducible repeat (first | apply Kd.R_alloc | apply Kd.R_drewN | apply Kd.R_drew)); exact H1.out, (by repeat (first | (with_reducible first | exact HB.out | apply below_alloc | apply pw_below_drewN | apply below_drew1) | exact HB.out))⟩
  · rw [if_neg c] at h
    obtain ⟨rfl, rfl⟩ := Prod.mk.inj (Option.some.inj h)
    clear h
    go_enter Try.func34, Try.ntmps34
    go_wp2_with (first | ((with_reducible refine gate_dst (N := 2) rfl ?_); refine box_event ?hg (N := 2) ?hd (cs := #[.int .i64 P, .int .i64 E, .int .i64 D]) (t := 27) ?hr ?_; (case hd => rfl); (case hg => rfl); (case hr => first | (go_simp; done) | (go_simp; rfl)); intro gw hg w1 hbox hb; have hcgw_0 : w1.cell? ⟨gw, 0, none⟩ = some (.int .i64 P) := (blk_cell hbox 0).trans rfl; have hfgw_0 := blk_frozen hbox 0; have hcgw_1 : w1.cell? ⟨gw, 1, none⟩ = some (.int .i64 E) := (blk_cell hbox 1).trans rfl; have hfgw_1 := blk_frozen hbox 1; have hcgw_2 : w1.cell? ⟨gw, 2, none⟩ = some (.int .i64 D) := (blk_cell hbox 2).trans rfl; have hfgw_2 := blk_frozen hbox 2; have HB := Aside0.mk hb; clear hb hg hbox) | (go_at_call 49; refine (on_no (Bool.eq_false_iff.mpr c)).mono ?_; rintro e w3 ⟨rfl, hb⟩; have n0 := Aside0.mk (HB.out.trans (hb.mono HB.out.size)); clear HB hb hcgw_0 hcgw_1 hcgw_2; have HB := n0; clear n0))
    go_ret2
    exact ⟨_, rfl, Kd.R_nil _ _ _ _ _, (by repeat (first | (with_reducible first | exact HB.out | apply below_alloc | apply pw_below_drewN | apply below_drew1) | exact HB.out))⟩
def impl_WashedOn.f (a b c d : Int) : Option (List Int × Bool) := some (if asked a b c d = true then (dWash a.toNat b c d.toNat, true) else ([], false))
set_option maxHeartbeats 8000000 in
set_option maxRecDepth 100000 in
theorem impl_WashedOn.calls (P E D d : Int) (r1 : List Int) (r2 : Bool) (w : World) (h : impl_WashedOn.f P E D d = some (r1, r2)) :
    Calls Try.prog 36 #[.agg #[.int .i64 P, .int .i64 E, .int .i64 D], .int .i64 d] w fun e w' => ∃ v0_ : Value, e = .returned (.tuple #[v0_, .bool r2]) ∧ Kd.R (Kd.int .i64) 3 w' w.heap.size (fun _ => True) v0_ r1 ∧ Below w.heap.size w w' := by
  unfold impl_WashedOn.f at h
  have hu27 := Try.underlying27
  have hu44 := Try.underlying44
  by_cases c : asked P E D d = true
  · rw [if_pos c] at h
    obtain ⟨rfl, rfl⟩ := Prod.mk.inj (Option.some.inj h)
    clear h
    go_enter Try.func36, Try.ntmps36
    go_wp2_with (first | ((with_reducible refine gate_dst (N := 2) rfl ?_); refine box_event ?hg (N := 2) ?hd (cs := #[.int .i64 P, .int .i64 E, .int .i64 D]) (t := 27) ?hr ?_; (case hd => rfl); (case hg => rfl); (case hr => first | (go_simp; done) | (go_simp; rfl)); intro gw hg w1 hbox hb; have hcgw_0 : w1.cell? ⟨gw, 0, none⟩ = some (.int .i64 P) := (blk_cell hbox 0).trans rfl; have hfgw_0 := blk_frozen hbox 0; have hcgw_1 : w1.cell? ⟨gw, 1, none⟩ = some (.int .i64 E) := (blk_cell hbox 1).trans rfl; have hfgw_1 := blk_frozen hbox 1; have hcgw_2 : w1.cell? ⟨gw, 2, none⟩ = some (.int .i64 D) := (blk_cell hbox 2).trans rfl; have hfgw_2 := blk_frozen hbox 2; have HB := Aside0.mk hb; clear hb hg hbox) | (go_at_call 49; refine (on_ok c).mono ?_; rintro e w3 ⟨A1, c1, A2, c2, A3, c3, rfl, r1, r2, r3, hb⟩; have H1 := Aside0.mk (Kd.R_lower r3 HB.out.size); have n0 := Aside0.mk (HB.out.trans (hb.mono HB.out.size)); clear HB hb r1 r2 r3 hcgw_0 hcgw_1 hcgw_2; have HB := n0; clear n0))
    go_ret2
    exact ⟨_, rfl, by (with_reducible repeat (first | apply Kd.R_alloc | apply Kd.R_drewN | apply Kd.R_drew)); exact H1.out, (by repeat (first | (with_reducible first | exact HB.out | apply below_alloc | apply pw_below_drewN | apply below_drew1) | exact HB.out))⟩
  · rw [if_neg c] at h
    obtain ⟨rfl, rfl⟩ := Prod.mk.inj (Option.some.inj h)
    clear h
    go_enter Try.func36, Try.ntmps36
    go_wp2_with (first | ((with_reducible refine gate_dst (N := 2) rfl ?_); refine box_event ?hg (N := 2) ?hd (cs := #[.int .i64 P, .int .i64 E, .int .i64 D]) (t := 27) ?hr ?_; (case hd => rfl); (case hg => rfl); (case hr => first | (go_simp; done) | (go_simp; rfl)); intro gw hg w1 hbox hb; have hcgw_0 : w1.cell? ⟨gw, 0, none⟩ = some (.int .i64 P) := (blk_cell hbox 0).trans rfl; have hfgw_0 := blk_frozen hbox 0; have hcgw_1 : w1.cell? ⟨gw, 1, none⟩ = some (.int .i64 E) := (blk_cell hbox 1).trans rfl; have hfgw_1 := blk_frozen hbox 1; have hcgw_2 : w1.cell? ⟨gw, 2, none⟩ = some (.int .i64 D) := (blk_cell hbox 2).trans rfl; have hfgw_2 := blk_frozen hbox 2; have HB := Aside0.mk hb; clear hb hg hbox) | (go_at_call 49; refine (on_no (Bool.eq_false_iff.mpr c)).mono ?_; rintro e w3 ⟨rfl, hb⟩; have n0 := Aside0.mk (HB.out.trans (hb.mono HB.out.size)); clear HB hb hcgw_0 hcgw_1 hcgw_2; have HB := n0; clear n0))
    go_ret2
    exact ⟨_, rfl, Kd.R_nil _ _ _ _ _, (by repeat (first | (with_reducible first | exact HB.out | apply below_alloc | apply pw_below_drewN | apply below_drew1) | exact HB.out))⟩

end Go.Proofs.Ytpalinpgoalneaa.XOn
