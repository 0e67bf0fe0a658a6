/- The contracts of the program's some, of BareDays and WashDays. -/
import Derived.Test.YtpalinpgoalneaaXDayF
import Derived.Test.YtpalinpgoalneaaXOn
namespace Go.Proofs.Ytpalinpgoalneaa.XSome
open Go.RowKit Go.Proofs.YtpalinpgoalneaaW.PrintWords Go.Proofs.YtpalinpgoalneaaW.PrintLast Go.Proofs.YtpalinpgoalneaaW.PrintMore
open Go.Proofs.Ytpalinpgoalneaa.QBase Go.Proofs.Ytpalinpgoalneaa.PD Go.Proofs.Ytpalinpgoalneaa.XSt Go.Proofs.Ytpalinpgoalneaa.XSu Go.Proofs.Ytpalinpgoalneaa.XDay Go.Proofs.Ytpalinpgoalneaa.XDayF Go.Proofs.Ytpalinpgoalneaa.XOn
open Go.Proofs.Ytpalinpgoalneaa.QDayP (S44 z44 k44 k44_open k44_openM k44_mk k44_mkM rd_T44 at_T44)
set_option linter.unusedVariables false
set_option linter.unusedSimpArgs false
theorem isBare (x : Int) (v1 v2 v3 : Value) (w : World) : Calls Try.prog 46 #[.agg #[.int .i64 x, v1, v2, v3]] w fun e w' => e = .returned (.bool (decide (x < 0))) ∧ Below w.heap.size w w' := by
  have hu44 := Try.underlying44
  go_enter Try.func46, Try.ntmps46
  go_wp2
  go_ret
  exact ⟨rfl, below_alloc (Below.refl _ _) _⟩
theorem isWashed (x : Int) (v1 v2 : Value) (A : Option Addr) (n c : Nat) (w : World) : Calls Try.prog 63 #[.agg #[.int .i64 x, v1, v2, .slice A n c]] w fun e w' => e = .returned (.bool (decide (0 < n))) ∧ Below w.heap.size w w' := by
  have hu44 := Try.underlying44
  by_cases h : 0 < n
  · have h1 : decide ((0 : Int) < (n : Int)) = true := decide_eq_true (by omega)
    rw [decide_eq_true h]
    go_enter Try.func63, Try.ntmps63
    go_wp2
    go_ret
    exact ⟨by first | rfl | (simp; done) | (simp [h]; done), below_alloc (Below.refl _ _) _⟩
  · have h1 : decide ((0 : Int) < (n : Int)) = false := decide_eq_false (by omega)
    rw [decide_eq_false h]
    go_enter Try.func63, Try.ntmps63
    go_wp2
    go_ret
    exact ⟨by first | rfl | (simp; done) | (simp [h]; done), below_alloc (Below.refl _ _) _⟩
/-- What a closure over days tells of day i. -/
def Tells (g : Nat) (p : Nat → Bool) (n : Nat) (b c : Int) : Prop :=
  ∀ (i : Nat) (A1 : Option Addr) (c1 : Nat) (A2 : Option Addr) (c2 : Nat) (A3 : Option Addr) (c3 : Nat) (w : World),
    Calls Try.prog g #[.agg #[.int .i64 (dWorn n b c i), .slice A1 (dClean n b c i).length c1, .slice A2 (dBask n b c i).length c2, .slice A3 (dWash n b c i).length c3]] w fun e w' => e = .returned (.bool (p i)) ∧ Below w.heap.size w w'
theorem tells_bare (n : Nat) (b c : Int) : Tells 46 (fun i => decide (dWorn n b c i < 0)) n b c := fun i _ _ _ _ _ _ w => isBare _ _ _ _ w
theorem tells_wash (n : Nat) (b c : Int) : Tells 63 (fun i => decide (0 < (dWash n b c i).length)) n b c := fun i _ _ _ _ _ _ w => isWashed _ _ _ _ _ _ w
set_option maxHeartbeats 8000000 in
set_option maxRecDepth 100000 in
theorem some_ok {P E D d : Int} {w : World} (h : asked P E D d = true) (g : Nat) (p : Nat → Bool) (hp : Tells g p P.toNat E D) (eg : ∀ args w, (callFunc g args).run Try.prog w = .ok (.enter g args) w) :
    Calls Try.prog 45 #[.agg #[.int .i64 P, .int .i64 E, .int .i64 D], .int .i64 d, .func (.func g) #[] #[]] w fun e w' => ∃ v : Value, e = .returned (.tuple #[v, .bool true]) ∧ Kd.R (Kd.int .i64) 3 w' w.heap.size (fun _ => True) v (fl p d.toNat) ∧ Below w.heap.size w w' := by
  obtain ⟨hg, hd0, hd1⟩ := good_of h
  obtain ⟨n, hn⟩ : ∃ n, P.toNat = n := ⟨_, rfl⟩
  obtain ⟨m, hm⟩ : ∃ m, d.toNat = m := ⟨_, rfl⟩
  rw [hn] at hg hp
  rw [hm]
  have HA := Aside0.mk h
  have HGD := Aside0.mk hg
  have HDM := Aside0.mk (show d = (m : Int) by omega)
  have HM6 := Aside0.mk (show m ≤ 600 by omega)
  have HP := Aside0.mk hp
  have hu27 := Try.underlying27
  have hu44 := Try.underlying44
  clear h hg hp hd0 hd1 hn hm
  go_enter Try.func45, Try.ntmps45
  go_wp2_with (first | ((with_reducible refine gate_dst (N := 3) rfl ?_); refine box_event ?hg (N := 3) ?hd (cs := #[.int .i64 P, .int .i64 E, .int .i64 D]) (t := 27) ?hr ?_; (case hd => rfl); (case hg => rfl); (case hr => first | (go_simp; done) | (go_simp; rfl)); intro gw hg w1 hbox hb; have hcgw_0 : w1.cell? ⟨gw, 0, none⟩ = some (.int .i64 P) := (blk_cell hbox 0).trans rfl; have hfgw_0 := blk_frozen hbox 0; have hcgw_1 : w1.cell? ⟨gw, 1, none⟩ = some (.int .i64 E) := (blk_cell hbox 1).trans rfl; have hfgw_1 := blk_frozen hbox 1; have hcgw_2 : w1.cell? ⟨gw, 2, none⟩ = some (.int .i64 D) := (blk_cell hbox 2).trans rfl; have hfgw_2 := blk_frozen hbox 2; have HB := Aside0.mk hb; have HX := Aside0.mk hbox; clear hb hg hbox) | (go_at_call 59; refine (isDay_calls P E D d _).mono ?_; rintro e w3 ⟨rfl, hb⟩; rw [HA.out]; have n0 := Aside0.mk (blk_below HX.out hb); have n1 := Aside0.mk (HB.out.trans (hb.mono HB.out.size)); clear hb HX HB hcgw_0 hcgw_1 hcgw_2; have HX := n0; have HB := n1; clear n0 n1; have hcgw_0 : w3.cell? ⟨gw, 0, none⟩ = some (.int .i64 P) := (blk_cell HX.out 0).trans rfl; have hcgw_1 : w3.cell? ⟨gw, 1, none⟩ = some (.int .i64 E) := (blk_cell HX.out 1).trans rfl; have hcgw_2 : w3.cell? ⟨gw, 2, none⟩ = some (.int .i64 D) := (blk_cell HX.out 2).trans rfl) | ((with_reducible refine gate_dst (N := 15) rfl ?_); refine Kd.R_lit (Kd.int .i64) _ 3 ?hg (N := 15) ?hd (xs := ([] : List Int)) (inner := []) (ok := fun _ => True) (okp := fun _ => True) ?hr ?hp (fun _ hk => hk) trivial (Below.refl _ _) (Nat.le_refl _) (by simp) ?_; (case hd => rfl); (case hg => rfl); (case hr => first | (go_simp; done) | (go_simp; rfl)); (case hp => exact (Reps.none _ _)); intro v8 w4 ho hb hg_ hnew_; obtain ⟨A8, c8, e8⟩ := Kd.R_slice ho; subst e8; have HO := Aside0.mk (Kd.R_lower ho HB.out.size); have n0 := Aside0.mk (blk_below HX.out hb); have n1 := Aside0.mk (HB.out.trans (hb.mono HB.out.size)); clear hg_ hnew_ ho hb HX HB hcgw_0 hcgw_1 hcgw_2; have HX := n0; have HB := n1; clear n0 n1; have hcgw_0 : w4.cell? ⟨gw, 0, none⟩ = some (.int .i64 P) := (blk_cell HX.out 0).trans rfl; have hcgw_1 : w4.cell? ⟨gw, 1, none⟩ = some (.int .i64 E) := (blk_cell HX.out 1).trans rfl; have hcgw_2 : w4.cell? ⟨gw, 2, none⟩ = some (.int .i64 D) := (blk_cell HX.out 2).trans rfl) | (go_at_call 53; refine (days HGD.out HDM.out HM6.out).mono ?_; rintro e w5 ⟨v5, rfl, hs, hb⟩; obtain ⟨A5, c5, e5⟩ := Kd.S_slice hs; rw [dl_len] at e5; subst e5; have HS := Aside0.mk (Kd.S_lower (Kd.S_new' hs (Kd.R_lt HO.out)) HB.out.size); have n2 := Aside0.mk (Kd.R_below HO.out hb); have n1 := Aside0.mk (HB.out.trans (hb.mono HB.out.size)); clear hs hb HX HB HO hcgw_0 hcgw_1 hcgw_2; have HB := n1; have HO := n2; clear n1 n2))
  go_loopg [8, 20] m (fun gg v8 v20 wr => ∃ kk : Nat, kk ≤ m ∧ m - kk ≤ gg ∧ v20 = .int .i64 kk ∧ Aside0 (Kd.R (Kd.int .i64) 3 wr w.heap.size (fun _ => True) v8 (fl p kk)) ∧ Aside0 (Kd.S k44 44 wr w.heap.size (fun k => True ∧ some k ≠ v8.ownBlock) (.slice A5 m c5) (dl n E D m)) ∧ Aside0 (Below w.heap.size w wr))
  case atStart => exact ⟨0, Nat.zero_le _, by omega, rfl, HO, HS, HB⟩
  case round =>
    clear HO HS HB
    obtain ⟨kk, hkk, hg, rfl, HR, HS, HB⟩ := hrel
    by_cases hlt : kk < m
    · have hps := fl_succ p kk
      have hfl := fl_len p kk
      obtain ⟨z, hz⟩ : ∃ z : Int, (kk : Int) = z := ⟨_, rfl⟩
      have HZ := Aside0.mk hz
      have hzn : z.toNat = kk := by omega
      rw [hz] at hps
      have hltz : z < (m : Int) := by omega
      have hh0 : 0 ≤ z := by omega
      have hz2 : z ≤ 1048576 := by have := HM6.out; omega
      have HG := Aside0.mk (show m - (kk + 1) < gk from by omega)
      have hnx : IntKind.i64.wrap (z + 1) = z + 1 := (i64_w _).trans (by unfold wrap64; omega)
      obtain ⟨ge, ce, A1, c1, A2, c2, A3, c3, e4, k0, k1, k2, k3, r1, r2, r3⟩ := elem HS.out z hh0 hltz
      injection e4 with ea eb ec
      subst ea
      have hpk := HP.out z.toNat
      obtain ⟨q, hq⟩ : ∃ q, p kk = q := ⟨_, rfl⟩
      have HQ := Aside0.mk (show p z.toNat = q from by rw [hzn]; exact hq)
      rw [hq] at hps
      clear r1 r2 r3 ec
      have HFL := Aside0.mk (show (fl p kk).length ≤ 600 from by have := HM6.out; omega)
      have hltz' : decide (z < (m : Int)) = true := decide_eq_true hltz
      replace hltz := eq_true hltz
      replace hh0 := eq_true hh0
      generalize dWorn n E D z.toNat = x0 at k0 hpk
      generalize (dClean n E D z.toNat).length = x1 at k1 hpk
      generalize (dBask n E D z.toNat).length = x2 at k2 hpk
      generalize (dWash n E D z.toNat).length = x3 at k3 hpk
      have HPK := Aside0.mk (hpk A1 c1 A2 c2 A3 c3)
      generalize fl p kk = y at HR hps HFL hfl
      rw [hz]
      clear hz hzn hq hpk
      cases q with
      | true =>
        rw [if_pos rfl] at hps
        have HPS := Aside0.mk hps
        clear hps hfl
        go_wp2_with (first | (go_at_fn g; refine (HPK.out _).mono ?_; rintro e w6 ⟨rfl, hb⟩; rw [HQ.out]; have n0 := Aside0.mk (Kd.R_below (by (with_reducible repeat (first | apply Kd.R_alloc | apply Kd.R_drewN | apply Kd.R_drew)); exact HR.out) hb); have n1 := Aside0.mk (Kd.S_below (by (with_reducible repeat (first | apply Kd.S_alloc | apply Kd.S_drewN | apply Kd.S_drew)); exact HS.out) hb); have n2 := Aside0.mk (below_step (by repeat (first | (with_reducible first | exact HB.out | apply below_alloc | apply pw_below_drewN | apply below_drew1) | exact HB.out)) hb); clear HR HS HB hb k0 k1 k2 k3; have HR := n0; have HS := n1; have HB := n2; clear n0 n1 n2) | ((with_reducible refine gate_builtin (b := .append) (xs := #[.tmp 28, .tmp 30]) rfl ?_); at_builtin; refine Kd.R_append (Kd.int .i64) (w0 := w) (w.heap.size) rfl (.tmp 28) (.tmp 30) 24 3 (.int .i64 0) 8 rfl Try.underlying24 info3 rfl (by decide) (by omega) (u8) (y) (z) [.int .i64 (z)] (fun _ => True) (fun _ => False) rfl rfl ?aP (fun _ hk => hk.elim) ?aF ?aO ?aB ?aS ?aL ?_; (case aP => exact rfl); (case aB => exact (by repeat (first | (with_reducible first | exact HB.out | apply below_alloc | apply pw_below_drewN | apply below_drew1) | exact HB.out))); (case aF => exact (fun _ _ => trivial)); (case aO => exact (by (with_reducible repeat (first | apply Kd.R_alloc | apply Kd.R_drewN | apply Kd.R_drew)); exact HR.out)); (case aS => exact (below_size (by repeat (first | (with_reducible first | exact HB.out | apply below_alloc | apply pw_below_drewN | apply below_drew1) | exact HB.out)))); (case aL => have := HFL.out; simp; omega); intro v1 w1 ho hb hg hat; rw [← HPS.out] at ho; have n0 := Aside0.mk ho; have n1 := Aside0.mk (Kd.S_after (ok := fun _ => True) HS.out hg hat); have n2 := Aside0.mk hb; clear HR HS HB ho hb hg hat; have HR := n0; have HS := n1; have HB := n2; clear n0 n1 n2))
        go_roundg (m - (kk + 1))
        case measure => have := HG.out; omega
        case rel => exact ⟨kk + 1, by have := HZ.out; have := of_eq_true hltz; omega, by omega, by have := HZ.out; congr 1; omega, HR, HS, HB⟩
      | false =>
        rw [if_neg (by simp), List.append_nil] at hps
        have HPS := Aside0.mk hps
        clear hps hfl
        go_wp2_with (first | (go_at_fn g; refine (HPK.out _).mono ?_; rintro e w6 ⟨rfl, hb⟩; rw [HQ.out]; have n0 := Aside0.mk (Kd.R_below (by (with_reducible repeat (first | apply Kd.R_alloc | apply Kd.R_drewN | apply Kd.R_drew)); exact HR.out) hb); have n1 := Aside0.mk (Kd.S_below (by (with_reducible repeat (first | apply Kd.S_alloc | apply Kd.S_drewN | apply Kd.S_drew)); exact HS.out) hb); have n2 := Aside0.mk (below_step (by repeat (first | (with_reducible first | exact HB.out | apply below_alloc | apply pw_below_drewN | apply below_drew1) | exact HB.out)) hb); clear HR HS HB hb k0 k1 k2 k3; have HR := n0; have HS := n1; have HB := n2; clear n0 n1 n2))
        go_roundg (m - (kk + 1))
        case measure => have := HG.out; omega
        case rel => exact ⟨kk + 1, by have := HZ.out; have := of_eq_true hltz; omega, by omega, by have := HZ.out; congr 1; omega, ⟨by rw [HPS.out]; exact HR.out⟩, HS, HB⟩
    · have hltz : decide ((kk : Int) < (m : Int)) = false := decide_eq_false (by omega)
      obtain rfl : kk = m := by omega
      go_wp2
      go_ret2
      exact ⟨_, rfl, HR.out, HB.out⟩
set_option maxHeartbeats 8000000 in
set_option maxRecDepth 100000 in
theorem some_no {P E D d : Int} {w : World} (h : asked P E D d = false) (v : Value) :
    Calls Try.prog 45 #[.agg #[.int .i64 P, .int .i64 E, .int .i64 D], .int .i64 d, v] w fun e w' => e = .returned (.tuple #[.slice none 0 0, .bool false]) ∧ Below w.heap.size w w' := by
  have HA := Aside0.mk h
  have hu27 := Try.underlying27
  clear h
  go_enter Try.func45, Try.ntmps45
  go_wp2_with (first | ((with_reducible refine gate_dst (N := 3) rfl ?_); refine box_event ?hg (N := 3) ?hd (cs := #[.int .i64 P, .int .i64 E, .int .i64 D]) (t := 27) ?hr ?_; (case hd => rfl); (case hg => rfl); (case hr => first | (go_simp; done) | (go_simp; rfl)); intro gw hg w1 hbox hb; have hcgw_0 : w1.cell? ⟨gw, 0, none⟩ = some (.int .i64 P) := (blk_cell hbox 0).trans rfl; have hfgw_0 := blk_frozen hbox 0; have hcgw_1 : w1.cell? ⟨gw, 1, none⟩ = some (.int .i64 E) := (blk_cell hbox 1).trans rfl; have hfgw_1 := blk_frozen hbox 1; have hcgw_2 : w1.cell? ⟨gw, 2, none⟩ = some (.int .i64 D) := (blk_cell hbox 2).trans rfl; have hfgw_2 := blk_frozen hbox 2; have HB := Aside0.mk hb; clear hb hg hbox) | (go_at_call 59; refine (isDay_calls P E D d _).mono ?_; rintro e w3 ⟨rfl, hb⟩; rw [HA.out]; have n1 := Aside0.mk (HB.out.trans (hb.mono HB.out.size)); clear hb HB hcgw_0 hcgw_1 hcgw_2; have HB := n1; clear n1))
  go_ret2
  exact ⟨rfl, HB.out⟩
def impl_BareDays.f (a b c d : Int) : Option (List Int × Bool) := some (if asked a b c d = true then (fl (fun i => decide (dWorn a.toNat b c i < 0)) d.toNat, true) else ([], false))
set_option maxHeartbeats 8000000 in
set_option maxRecDepth 100000 in
theorem impl_BareDays.calls (P E D d : Int) (r1 : List Int) (r2 : Bool) (w : World) (h : impl_BareDays.f P E D d = some (r1, r2)) :
    Calls Try.prog 17 #[.agg #[.int .i64 P, .int .i64 E, .int .i64 D], .int .i64 d] w fun e w' => ∃ v0_ : Value, e = .returned (.tuple #[v0_, .bool r2]) ∧ Kd.R (Kd.int .i64) 3 w' w.heap.size (fun _ => True) v0_ r1 ∧ Below w.heap.size w w' := by
  unfold impl_BareDays.f at h
  have hu27 := Try.underlying27
  by_cases c : asked P E D d = true
  · rw [if_pos c] at h
    obtain ⟨rfl, rfl⟩ := Prod.mk.inj (Option.some.inj h)
    clear h
    go_enter Try.func17, Try.ntmps17
    go_wp2_with (first | ((with_reducible refine gate_dst (N := 2) rfl ?_); refine box_event ?hg (N := 2) ?hd (cs := #[.int .i64 P, .int .i64 E, .int .i64 D]) (t := 27) ?hr ?_; (case hd => rfl); (case hg => rfl); (case hr => first | (go_simp; done) | (go_simp; rfl)); intro gw hg w1 hbox hb; have hcgw_0 : w1.cell? ⟨gw, 0, none⟩ = some (.int .i64 P) := (blk_cell hbox 0).trans rfl; have hfgw_0 := blk_frozen hbox 0; have hcgw_1 : w1.cell? ⟨gw, 1, none⟩ = some (.int .i64 E) := (blk_cell hbox 1).trans rfl; have hfgw_1 := blk_frozen hbox 1; have hcgw_2 : w1.cell? ⟨gw, 2, none⟩ = some (.int .i64 D) := (blk_cell hbox 2).trans rfl; have hfgw_2 := blk_frozen hbox 2; have HB := Aside0.mk hb; clear hb hg hbox) | (go_at_call 45; refine (some_ok c 46 _ (tells_bare P.toNat E D) (enters_of Try.func46 (by kernel_rfl) rfl)).mono ?_; rintro e w3 ⟨v, rfl, hr, hb⟩; have HR := Aside0.mk (Kd.R_lower hr HB.out.size); have n0 := Aside0.mk (HB.out.trans (hb.mono HB.out.size)); clear HB hb hr hcgw_0 hcgw_1 hcgw_2; have HB := n0; clear n0))
    go_ret2
    exact ⟨_, rfl, HR.out, HB.out⟩
  · rw [if_neg c] at h
    obtain ⟨rfl, rfl⟩ := Prod.mk.inj (Option.some.inj h)
    clear h
    go_enter Try.func17, Try.ntmps17
    go_wp2_with (first | ((with_reducible refine gate_dst (N := 2) rfl ?_); refine box_event ?hg (N := 2) ?hd (cs := #[.int .i64 P, .int .i64 E, .int .i64 D]) (t := 27) ?hr ?_; (case hd => rfl); (case hg => rfl); (case hr => first | (go_simp; done) | (go_simp; rfl)); intro gw hg w1 hbox hb; have hcgw_0 : w1.cell? ⟨gw, 0, none⟩ = some (.int .i64 P) := (blk_cell hbox 0).trans rfl; have hfgw_0 := blk_frozen hbox 0; have hcgw_1 : w1.cell? ⟨gw, 1, none⟩ = some (.int .i64 E) := (blk_cell hbox 1).trans rfl; have hfgw_1 := blk_frozen hbox 1; have hcgw_2 : w1.cell? ⟨gw, 2, none⟩ = some (.int .i64 D) := (blk_cell hbox 2).trans rfl; have hfgw_2 := blk_frozen hbox 2; have HB := Aside0.mk hb; clear hb hg hbox) | (go_at_call 45; refine (some_no (Bool.eq_false_iff.mpr c) _).mono ?_; rintro e w3 ⟨rfl, hb⟩; have n0 := Aside0.mk (HB.out.trans (hb.mono HB.out.size)); clear HB hb hcgw_0 hcgw_1 hcgw_2; have HB := n0; clear n0))
    go_ret2
    exact ⟨_, rfl, Kd.R_nil _ _ _ _ _, HB.out⟩
def impl_WashDays.f (a b c d : Int) : Option (List Int × Bool) := some (if asked a b c d = true then (fl (fun i => decide (0 < (dWash a.toNat b c i).length)) d.toNat, true) else ([], false))
set_option maxHeartbeats 8000000 in
set_option maxRecDepth 100000 in
theorem impl_WashDays.calls (P E D d : Int) (r1 : List Int) (r2 : Bool) (w : World) (h : impl_WashDays.f P E D d = some (r1, r2)) :
    Calls Try.prog 38 #[.agg #[.int .i64 P, .int .i64 E, .int .i64 D], .int .i64 d] w fun e w' => ∃ v0_ : Value, e = .returned (.tuple #[v0_, .bool r2]) ∧ Kd.R (Kd.int .i64) 3 w' w.heap.size (fun _ => True) v0_ r1 ∧ Below w.heap.size w w' := by
  unfold impl_WashDays.f at h
  have hu27 := Try.underlying27
  by_cases c : asked P E D d = true
  · rw [if_pos c] at h
    obtain ⟨rfl, rfl⟩ := Prod.mk.inj (Option.some.inj h)
    clear h
    go_enter Try.func38, Try.ntmps38
    go_wp2_with (first | ((with_reducible refine gate_dst (N := 2) rfl ?_); refine box_event ?hg (N := 2) ?hd (cs := #[.int .i64 P, .int .i64 E, .int .i64 D]) (t := 27) ?hr ?_; (case hd => rfl); (case hg => rfl); (case hr => first | (go_simp; done) | (go_simp; rfl)); intro gw hg w1 hbox hb; have hcgw_0 : w1.cell? ⟨gw, 0, none⟩ = some (.int .i64 P) := (blk_cell hbox 0).trans rfl; have hfgw_0 := blk_frozen hbox 0; have hcgw_1 : w1.cell? ⟨gw, 1, none⟩ = some (.int .i64 E) := (blk_cell hbox 1).trans rfl; have hfgw_1 := blk_frozen hbox 1; have hcgw_2 : w1.cell? ⟨gw, 2, none⟩ = some (.int .i64 D) := (blk_cell hbox 2).trans rfl; have hfgw_2 := blk_frozen hbox 2; have HB := Aside0.mk hb; clear hb hg hbox) | (go_at_call 45; refine (some_ok c 63 _ (tells_wash P.toNat E D) (enters_of Try.func63 (by kernel_rfl) rfl)).mono ?_; rintro e w3 ⟨v, rfl, hr, hb⟩; have HR := Aside0.mk (Kd.R_lower hr HB.out.size); have n0 := Aside0.mk (HB.out.trans (hb.mono HB.out.size)); clear HB hb hr hcgw_0 hcgw_1 hcgw_2; have HB := n0; clear n0))
    go_ret2
    exact ⟨_, rfl, HR.out, HB.out⟩
  · rw [if_neg c] at h
    obtain ⟨rfl, rfl⟩ := Prod.mk.inj (Option.some.inj h)
    clear h
    go_enter Try.func38, Try.ntmps38
    go_wp2_with (first | ((with_reducible refine gate_dst (N := 2) rfl ?_); refine box_event ?hg (N := 2) ?hd (cs := #[.int .i64 P, .int .i64 E, .int .i64 D]) (t := 27) ?hr ?_; (case hd => rfl); (case hg => rfl); (case hr => first | (go_simp; done) | (go_simp; rfl)); intro gw hg w1 hbox hb; have hcgw_0 : w1.cell? ⟨gw, 0, none⟩ = some (.int .i64 P) := (blk_cell hbox 0).trans rfl; have hfgw_0 := blk_frozen hbox 0; have hcgw_1 : w1.cell? ⟨gw, 1, none⟩ = some (.int .i64 E) := (blk_cell hbox 1).trans rfl; have hfgw_1 := blk_frozen hbox 1; have hcgw_2 : w1.cell? ⟨gw, 2, none⟩ = some (.int .i64 D) := (blk_cell hbox 2).trans rfl; have hfgw_2 := blk_frozen hbox 2; have HB := Aside0.mk hb; clear hb hg hbox) | (go_at_call 45; refine (some_no (Bool.eq_false_iff.mpr c) _).mono ?_; rintro e w3 ⟨rfl, hb⟩; have n0 := Aside0.mk (HB.out.trans (hb.mono HB.out.size)); clear HB hb hcgw_0 hcgw_1 hcgw_2; have HB := n0; clear n0))
    go_ret2
    exact ⟨_, rfl, Kd.R_nil _ _ _ _ _, HB.out⟩

end Go.Proofs.Ytpalinpgoalneaa.XSome
