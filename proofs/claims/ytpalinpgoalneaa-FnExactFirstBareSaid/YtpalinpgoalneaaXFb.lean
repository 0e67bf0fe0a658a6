/- The contract of the program's FirstBare. -/
import Derived.Test.YtpalinpgoalneaaXDayF
import Derived.Test.YtpalinpgoalneaaXOn
import Derived.Test.YtpalinpgoalneaaXSome
namespace Go.Proofs.Ytpalinpgoalneaa.XFb
open Go.RowKit Go.Proofs.YtpalinpgoalneaaW.PrintWords Go.Proofs.YtpalinpgoalneaaW.PrintLast Go.Proofs.YtpalinpgoalneaaW.PrintMore
open Go.Proofs.Ytpalinpgoalneaa.QBase Go.Proofs.Ytpalinpgoalneaa.PD Go.Proofs.Ytpalinpgoalneaa.XSt Go.Proofs.Ytpalinpgoalneaa.XSu Go.Proofs.Ytpalinpgoalneaa.XDay Go.Proofs.Ytpalinpgoalneaa.XDayF Go.Proofs.Ytpalinpgoalneaa.XOn Go.Proofs.Ytpalinpgoalneaa.XSome
open Go.Proofs.Ytpalinpgoalneaa.QDayP (S44 z44 k44 k44_open k44_openM k44_mk k44_mkM rd_T44 at_T44)
set_option linter.unusedVariables false
set_option linter.unusedSimpArgs false
/-- The first of the next places at which p holds, or -1. -/
def ff (p : Nat → Bool) : Nat → Nat → Int
  | 0, _ => -1
  | k + 1, i => if p i = true then (i : Int) else ff p k (i + 1)
theorem ff_bd (p : Nat → Bool) : ∀ k i, ff p k i = -1 ∨ ((i : Int) ≤ ff p k i ∧ ff p k i < i + k) := by
  intro k
  induction k with
  | zero => intro i; exact .inl rfl
  | succ k ih =>
    intro i
    unfold ff
    by_cases h : p i = true
    · rw [if_pos h]; right; omega
    · rw [if_neg h]; rcases ih (i + 1) with h1 | h1
      · exact .inl h1
      · right; omega
set_option maxHeartbeats 8000000 in
set_option maxRecDepth 100000 in
theorem indexDays {w : World} {base n m c5 : Nat} {A5 : Option Addr} {E D : Int} {ok : Nat → Prop} (hs : Kd.S k44 44 w base ok (.slice A5 m c5) (dl n E D m)) (hm : m ≤ 600) (g : Nat) (p : Nat → Bool) (hp : Tells g p n E D) (eg : ∀ args w, (callFunc g args).run Try.prog w = .ok (.enter g args) w) :
    Calls Try.prog 52 #[.slice A5 m c5, .func (.func g) #[] #[]] w fun e w' => e = .returned (.int .i64 (ff p m 0)) ∧ Below w.heap.size w w' := by
  have HS := Aside0.mk hs
  have HM6 := Aside0.mk hm
  have HP := Aside0.mk hp
  have hu44 := Try.underlying44
  have HB := Aside0.mk (Below.refl w.heap.size w)
  obtain ⟨r, hr⟩ : ∃ r, ff p m 0 = r := ⟨_, rfl⟩
  have HR := Aside0.mk hr
  rw [hr]
  clear hs hm hp hr
  go_enter Try.func52, Try.ntmps52
  go_wp2
  go_loopg [5, 8] m (fun gg _ v8 wr => ∃ kk : Nat, kk ≤ m ∧ m - kk ≤ gg ∧ v8 = .int .i64 kk ∧ Aside0 (ff p (m - kk) kk = r) ∧ Aside0 (Below w.heap.size w wr))
  case atStart => exact ⟨0, Nat.zero_le _, by omega, rfl, HR, HB⟩
  case round =>
    clear HR HB
    obtain ⟨kk, hkk, hg, rfl, HR, HB⟩ := hrel
    by_cases hlt : kk < m
    · obtain ⟨z, hz⟩ : ∃ z : Int, (kk : Int) = z := ⟨_, rfl⟩
      have HZ := Aside0.mk hz
      have hzn : z.toNat = kk := by omega
      have hst : (if p kk = true then (kk : Int) else ff p (m - (kk + 1)) (kk + 1)) = r := by
        have e := HR.out
        rw [show m - kk = (m - (kk + 1)) + 1 by omega, ff] at e
        exact e
      rw [hz] at hst
      have hltz : z < (m : Int) := by omega
      have hh0 : 0 ≤ z := by omega
      have hz2 : z ≤ 1048576 := by have := HM6.out; omega
      have HG := Aside0.mk (show m - (kk + 1) < gk from by omega)
      have hnx : IntKind.i64.wrap (z + 1) = z + 1 := (i64_w _).trans (by unfold wrap64; omega)
      obtain ⟨ge, ce, A1, c1, A2, c2, A3, c3, e4, k0, k1, k2, k3, _, _, _⟩ := elem (Kd.S_below HS.out HB.out) z hh0 hltz
      injection e4 with ea eb ec
      have hpk := HP.out z.toNat
      obtain ⟨q, hq⟩ : ∃ q, p kk = q := ⟨_, rfl⟩
      have HQ := Aside0.mk (show p z.toNat = q from by rw [hzn]; exact hq)
      rw [hq] at hst
      subst ea
      have hltz' : decide (z < (m : Int)) = true := decide_eq_true hltz
      replace hltz := eq_true hltz
      replace hh0 := eq_true hh0
      generalize dWorn n E D z.toNat = x0 at k0 hpk
      generalize (dClean n E D z.toNat).length = x1 at k1 hpk
      generalize (dBask n E D z.toNat).length = x2 at k2 hpk
      generalize (dWash n E D z.toNat).length = x3 at k3 hpk
      have HPK := Aside0.mk (hpk A1 c1 A2 c2 A3 c3)
      rw [hz]
      clear hz hzn hq hpk ec
      cases q with
      | true =>
        rw [if_pos rfl] at hst
        have HST := Aside0.mk hst
        clear hst
        go_wp2_with (first | (go_at_fn g; refine (HPK.out _).mono ?_; rintro e w6 ⟨rfl, hb⟩; rw [HQ.out]; have n2 := Aside0.mk (below_step (by repeat (first | (with_reducible first | exact HB.out | apply below_alloc | apply pw_below_drewN | apply below_drew1) | exact HB.out)) hb); clear HB hb k0 k1 k2 k3; have HB := n2; clear n2))
        go_ret
        exact ⟨by rw [← HST.out]; rfl, HB.out⟩
      | false =>
        rw [if_neg (by simp)] at hst
        have HST := Aside0.mk hst
        clear hst
        go_wp2_with (first | (go_at_fn g; refine (HPK.out _).mono ?_; rintro e w6 ⟨rfl, hb⟩; rw [HQ.out]; have n2 := Aside0.mk (below_step (by repeat (first | (with_reducible first | exact HB.out | apply below_alloc | apply pw_below_drewN | apply below_drew1) | exact HB.out)) hb); clear HB hb k0 k1 k2 k3; have HB := n2; clear n2))
        go_roundg (m - (kk + 1))
        case measure => have := HG.out; omega
        case rel => exact ⟨kk + 1, by have := HZ.out; have := of_eq_true hltz; omega, by omega, by have := HZ.out; congr 1; omega, HST, HB⟩
    · have hltz : decide ((kk : Int) < (m : Int)) = false := decide_eq_false (by omega)
      obtain rfl : kk = m := by omega
      have HST := Aside0.mk (show (-1 : Int) = r from by have e := HR.out; rwa [Nat.sub_self, ff] at e)
      go_wp2
      go_ret
      exact ⟨by rw [← HST.out]; rfl, HB.out⟩
def firstF (a b c : Int) : Int × Bool := if okw a b c 0 then (if 0 ≤ ff (fun i => decide (dWorn a.toNat b c i < 0)) 501 0 then (ff (fun i => decide (dWorn a.toNat b c i < 0)) 501 0, true) else (0, false)) else (0, false)
def impl_FirstBare.f (a b c : Int) : Option (Int × Bool) := some (firstF a b c)
theorem isWash_calls (a b c : Int) (w : World) : Calls Try.prog 51 #[.agg #[.int .i64 a, .int .i64 b, .int .i64 c]] w fun e w' => e = .returned (.bool (decide (okw a b c 0))) ∧ Below w.heap.size w w' :=
  impl_IsWash.calls a b c _ w (isWash_eq a b c)
set_option maxHeartbeats 8000000 in
set_option maxRecDepth 100000 in
theorem impl_FirstBare.calls (P E D : Int) (r1 : Int) (r2 : Bool) (w : World) (h : impl_FirstBare.f P E D = some (r1, r2)) :
    Calls Try.prog 26 #[.agg #[.int .i64 P, .int .i64 E, .int .i64 D]] w fun e w' => e = .returned (.tuple #[.int .i64 r1, .bool r2]) ∧ Below w.heap.size w w' := by
  unfold impl_FirstBare.f firstF at h
  have hu27 := Try.underlying27
  by_cases c : okw P E D 0
  · rw [if_pos c] at h
    have c5 : okw P E D 501 := ⟨c.1, c.2.1, c.2.2.1, by omega, by omega⟩
    have HA := Aside0.mk (decide_eq_true c)
    have HGD := Aside0.mk c5.good
    have e46 := enters_of Try.func46 (by kernel_rfl) rfl
    obtain ⟨q, hq⟩ : ∃ q, ff (fun i => decide (dWorn P.toNat E D i < 0)) 501 0 = q := ⟨_, rfl⟩
    have hbd := ff_bd (fun i => decide (dWorn P.toNat E D i < 0)) 501 0
    have HQ := Aside0.mk hq
    rw [hq] at h hbd
    clear c c5 hq
    by_cases h0 : 0 ≤ q
    · rw [if_pos h0] at h
      obtain ⟨rfl, rfl⟩ := Prod.mk.inj (Option.some.inj h)
      have hd1 : decide (0 ≤ q) = true := decide_eq_true h0
      have hmx : max q 0 = q := by omega
      clear h hbd
      go_enter Try.func26, Try.ntmps26
      go_wp2_with (first | ((with_reducible refine gate_dst (N := 1) rfl ?_); refine box_event ?hg (N := 1) ?hd (cs := #[.int .i64 P, .int .i64 E, .int .i64 D]) (t := 27) ?hr ?_; (case hd => rfl); (case hg => rfl); (case hr => first | (go_simp; done) | (go_simp; rfl)); intro gw hg w1 hbox hb; have hcgw_0 : w1.cell? ⟨gw, 0, none⟩ = some (.int .i64 P) := (blk_cell hbox 0).trans rfl; have hfgw_0 := blk_frozen hbox 0; have hcgw_1 : w1.cell? ⟨gw, 1, none⟩ = some (.int .i64 E) := (blk_cell hbox 1).trans rfl; have hfgw_1 := blk_frozen hbox 1; have hcgw_2 : w1.cell? ⟨gw, 2, none⟩ = some (.int .i64 D) := (blk_cell hbox 2).trans rfl; have hfgw_2 := blk_frozen hbox 2; have HB := Aside0.mk hb; have HX := Aside0.mk hbox; clear hb hg hbox) | (go_at_call 51; refine (isWash_calls P E D _).mono ?_; rintro e w3 ⟨rfl, hb⟩; rw [HA.out]; have n0 := Aside0.mk (blk_below HX.out hb); have n1 := Aside0.mk (HB.out.trans (hb.mono HB.out.size)); clear hb HX HB hcgw_0 hcgw_1 hcgw_2; have HX := n0; have HB := n1; clear n0 n1; have hcgw_0 : w3.cell? ⟨gw, 0, none⟩ = some (.int .i64 P) := (blk_cell HX.out 0).trans rfl; have hcgw_1 : w3.cell? ⟨gw, 1, none⟩ = some (.int .i64 E) := (blk_cell HX.out 1).trans rfl; have hcgw_2 : w3.cell? ⟨gw, 2, none⟩ = some (.int .i64 D) := (blk_cell HX.out 2).trans rfl) | (go_at_call 53; refine (days (m := 501) HGD.out rfl (by decide)).mono ?_; rintro e w5 ⟨v5, rfl, hs, hb⟩; obtain ⟨A5, c5, e5⟩ := Kd.S_slice hs; rw [dl_len] at e5; subst e5; have HS := Aside0.mk hs; have n1 := Aside0.mk (HB.out.trans (hb.mono HB.out.size)); clear hs hb HX HB hcgw_0 hcgw_1 hcgw_2; have HB := n1; clear n1) | (go_at_call 52; refine (indexDays HS.out (by decide) 46 _ (tells_bare _ _ _) e46).mono ?_; rintro e w6 ⟨rfl, hb⟩; rw [HQ.out]; have n1 := Aside0.mk (HB.out.trans (hb.mono HB.out.size)); clear hb HS HB; have HB := n1; clear n1))
      go_ret2
      exact ⟨by first | rfl | (simp [hmx]; done), HB.out⟩
    · rw [if_neg h0] at h
      obtain ⟨rfl, rfl⟩ := Prod.mk.inj (Option.some.inj h)
      have hd1 : decide (0 ≤ q) = false := decide_eq_false h0
      have hmx : max q 0 = 0 := by omega
      clear h hbd
      go_enter Try.func26, Try.ntmps26
      go_wp2_with (first | ((with_reducible refine gate_dst (N := 1) rfl ?_); refine box_event ?hg (N := 1) ?hd (cs := #[.int .i64 P, .int .i64 E, .int .i64 D]) (t := 27) ?hr ?_; (case hd => rfl); (case hg => rfl); (case hr => first | (go_simp; done) | (go_simp; rfl)); intro gw hg w1 hbox hb; have hcgw_0 : w1.cell? ⟨gw, 0, none⟩ = some (.int .i64 P) := (blk_cell hbox 0).trans rfl; have hfgw_0 := blk_frozen hbox 0; have hcgw_1 : w1.cell? ⟨gw, 1, none⟩ = some (.int .i64 E) := (blk_cell hbox 1).trans rfl; have hfgw_1 := blk_frozen hbox 1; have hcgw_2 : w1.cell? ⟨gw, 2, none⟩ = some (.int .i64 D) := (blk_cell hbox 2).trans rfl; have hfgw_2 := blk_frozen hbox 2; have HB := Aside0.mk hb; have HX := Aside0.mk hbox; clear hb hg hbox) | (go_at_call 51; refine (isWash_calls P E D _).mono ?_; rintro e w3 ⟨rfl, hb⟩; rw [HA.out]; have n0 := Aside0.mk (blk_below HX.out hb); have n1 := Aside0.mk (HB.out.trans (hb.mono HB.out.size)); clear hb HX HB hcgw_0 hcgw_1 hcgw_2; have HX := n0; have HB := n1; clear n0 n1; have hcgw_0 : w3.cell? ⟨gw, 0, none⟩ = some (.int .i64 P) := (blk_cell HX.out 0).trans rfl; have hcgw_1 : w3.cell? ⟨gw, 1, none⟩ = some (.int .i64 E) := (blk_cell HX.out 1).trans rfl; have hcgw_2 : w3.cell? ⟨gw, 2, none⟩ = some (.int .i64 D) := (blk_cell HX.out 2).trans rfl) | (go_at_call 53; refine (days (m := 501) HGD.out rfl (by decide)).mono ?_; rintro e w5 ⟨v5, rfl, hs, hb⟩; obtain ⟨A5, c5, e5⟩ := Kd.S_slice hs; rw [dl_len] at e5; subst e5; have HS := Aside0.mk hs; have n1 := Aside0.mk (HB.out.trans (hb.mono HB.out.size)); clear hs hb HX HB hcgw_0 hcgw_1 hcgw_2; have HB := n1; clear n1) | (go_at_call 52; refine (indexDays HS.out (by decide) 46 _ (tells_bare _ _ _) e46).mono ?_; rintro e w6 ⟨rfl, hb⟩; rw [HQ.out]; have n1 := Aside0.mk (HB.out.trans (hb.mono HB.out.size)); clear hb HS HB; have HB := n1; clear n1))
      go_ret2
      exact ⟨by first | rfl | (simp [hmx]; done), HB.out⟩
  · rw [if_neg c] at h
    obtain ⟨rfl, rfl⟩ := Prod.mk.inj (Option.some.inj h)
    have HA := Aside0.mk (decide_eq_false c)
    clear h c
    go_enter Try.func26, Try.ntmps26
    go_wp2_with (first | ((with_reducible refine gate_dst (N := 1) rfl ?_); refine box_event ?hg (N := 1) ?hd (cs := #[.int .i64 P, .int .i64 E, .int .i64 D]) (t := 27) ?hr ?_; (case hd => rfl); (case hg => rfl); (case hr => first | (go_simp; done) | (go_simp; rfl)); intro gw hg w1 hbox hb; have hcgw_0 : w1.cell? ⟨gw, 0, none⟩ = some (.int .i64 P) := (blk_cell hbox 0).trans rfl; have hfgw_0 := blk_frozen hbox 0; have hcgw_1 : w1.cell? ⟨gw, 1, none⟩ = some (.int .i64 E) := (blk_cell hbox 1).trans rfl; have hfgw_1 := blk_frozen hbox 1; have hcgw_2 : w1.cell? ⟨gw, 2, none⟩ = some (.int .i64 D) := (blk_cell hbox 2).trans rfl; have hfgw_2 := blk_frozen hbox 2; have HB := Aside0.mk hb; have HX := Aside0.mk hbox; clear hb hg hbox) | (go_at_call 51; refine (isWash_calls P E D _).mono ?_; rintro e w3 ⟨rfl, hb⟩; rw [HA.out]; have n0 := Aside0.mk (blk_below HX.out hb); have n1 := Aside0.mk (HB.out.trans (hb.mono HB.out.size)); clear hb HX HB hcgw_0 hcgw_1 hcgw_2; have HX := n0; have HB := n1; clear n0 n1; have hcgw_0 : w3.cell? ⟨gw, 0, none⟩ = some (.int .i64 P) := (blk_cell HX.out 0).trans rfl; have hcgw_1 : w3.cell? ⟨gw, 1, none⟩ = some (.int .i64 E) := (blk_cell HX.out 1).trans rfl; have hcgw_2 : w3.cell? ⟨gw, 2, none⟩ = some (.int .i64 D) := (blk_cell HX.out 2).trans rfl))
    go_ret2
    exact ⟨rfl, HB.out⟩
end Go.Proofs.Ytpalinpgoalneaa.XFb
