/- The contract of the program's LongestUnworn: for every wash and number of days it returns what luF tells; nothing that was there is changed. -/
import Derived.Test.YtpalinpgoalneaaXDayF
import Derived.Test.YtpalinpgoalneaaXOn
import Derived.Test.YtpalinpgoalneaaQPtWx
namespace Go.Proofs.Ytpalinpgoalneaa.XLu
open Go.RowKit Go.Proofs.YtpalinpgoalneaaW.PrintWords Go.Proofs.YtpalinpgoalneaaW.PrintLast Go.Proofs.YtpalinpgoalneaaW.PrintMore
open Go.Proofs.Ytpalinpgoalneaa.QBase Go.Proofs.Ytpalinpgoalneaa.PD Go.Proofs.Ytpalinpgoalneaa.XSt Go.Proofs.Ytpalinpgoalneaa.XSu Go.Proofs.Ytpalinpgoalneaa.XDay Go.Proofs.Ytpalinpgoalneaa.XDayF Go.Proofs.Ytpalinpgoalneaa.XOn Go.Proofs.Ytpalinpgoalneaa.QPtW
open Go.Proofs.Ytpalinpgoalneaa.QDayP (S44 z44 k44 k44_open k44_openM k44_mk k44_mkM rd_T44 at_T44)
set_option linter.unusedVariables false
set_option linter.unusedSimpArgs false
open Go.Maps
theorem law3 : Keyed Try.prog 3 := int_keyed Try.underlying3
theorem zero3 (w : World) : (zeroValue 3).run Try.prog w = .ok (.int .i64 0) w := by kernel_rfl
/-- The greatest gap so far, and for each pair its last day, told from 1 on. -/
def luL (L : List Int) (n : Nat) : Nat → Int × List Int
  | 0 => (0, List.replicate n 0)
  | k + 1 => if rd L k < 0 then luL L n k else ((if 0 < rd (luL L n k).2 (rd L k) then (if (luL L n k).1 > (k : Int) + 1 - rd (luL L n k).2 (rd L k) then (luL L n k).1 else (k : Int) + 1 - rd (luL L n k).2 (rd L k)) else (luL L n k).1), (luL L n k).2.set (rd L k).toNat ((k : Int) + 1))
def wlF (a b c d : Int) : List Int := if asked a b c d = true then wl a.toNat b c d.toNat else []
def luF (a b c d : Int) : Int × Bool := ((luL (wlF a b c d) a.toNat (wlF a b c d).length).1, asked a b c d)
def impl_LongestUnworn.f (a b c d : Int) : Option (Int × Bool) := some (luF a b c d)
theorem luL_len (L : List Int) (n : Nat) : ∀ k, (luL L n k).2.length = n := by
  intro k
  induction k with
  | zero => simp [luL]
  | succ k ih =>
    unfold luL
    split
    · exact ih
    · rw [List.length_set]; exact ih
theorem luL_bd (L : List Int) (n : Nat) (hL : ∀ k : Nat, k < L.length → -1 ≤ rd L k ∧ rd L k < n) : ∀ k, k ≤ L.length → (0 ≤ (luL L n k).1 ∧ (luL L n k).1 ≤ k) ∧ ∀ j : Nat, j < n → 0 ≤ rd (luL L n k).2 j ∧ rd (luL L n k).2 j ≤ k := by
  intro k
  induction k with
  | zero => intro _; refine ⟨⟨Int.le_refl _, Int.le_refl _⟩, fun j hj => ?_⟩; unfold luL; rw [rd_replicate n 0 j hj]; omega
  | succ k ih =>
    intro hk
    obtain ⟨h1, h2⟩ := ih (by omega)
    have hb := hL k (by omega)
    unfold luL
    by_cases hp : rd L k < 0
    · rw [if_pos hp]
      exact ⟨by omega, fun j hj => by have := h2 j hj; omega⟩
    · rw [if_neg hp]
      obtain ⟨q, hq⟩ : ∃ q : Nat, rd L k = q := ⟨(rd L k).toNat, by omega⟩
      have h3 := h2 q (by omega)
      rw [hq, Int.toNat_natCast]
      refine ⟨?_, fun j hj => ?_⟩
      · show 0 ≤ (if 0 < rd (luL L n k).2 q then (if (luL L n k).1 > (k : Int) + 1 - rd (luL L n k).2 q then (luL L n k).1 else (k : Int) + 1 - rd (luL L n k).2 q) else (luL L n k).1) ∧ (if 0 < rd (luL L n k).2 q then (if (luL L n k).1 > (k : Int) + 1 - rd (luL L n k).2 q then (luL L n k).1 else (k : Int) + 1 - rd (luL L n k).2 q) else (luL L n k).1) ≤ ((k + 1 : Nat) : Int)
        split
        · split <;> omega
        · omega
      · show 0 ≤ rd ((luL L n k).2.set q ((k : Int) + 1)) j ∧ rd ((luL L n k).2.set q ((k : Int) + 1)) j ≤ ((k + 1 : Nat) : Int)
        rw [rd_set _ _ _ _ (by rw [luL_len]; omega)]
        split
        · omega
        · have := h2 j hj; omega
/-- What the map holds beside the reference's row. -/
structure Inv (D : DataW Unit) (last : List Int) (n : Nat) : Prop where
  im : IsMap D
  has : ∀ j : Nat, j < n → has D (.int .i64 j) = decide (0 < rd last j)
  val : ∀ j : Nat, j < n → 0 < rd last j → D.atKey (.int .i64 j) (.lit (.int .i64 0)) = .lit (.int .i64 (rd last j - 1))
theorem wf_i64 (x : Int) (h0 : -1 ≤ x) (h1 : x ≤ 1048576) : (Lit.int .i64 x).wf = true := by
  have e : x = wrap64 x := by unfold wrap64; omega
  rw [e]
  exact wrap64_wf _
theorem key_i64 (x : Int) : WideAt.IsKeyLit (.int .i64 x) := by trivial
theorem Inv.start (n : Nat) : Inv (.map []) (List.replicate n 0) n where
  im := ⟨_, rfl⟩
  has := fun j hj => by rw [rd_replicate n 0 j hj]; rfl
  val := fun j hj h => by rw [rd_replicate n 0 j hj] at h; omega
theorem Inv.put {D : DataW Unit} {last : List Int} {n : Nat} (h : Inv D last n) (hl : last.length = n) (q : Nat) (hq : q < n) (k : Int) (hk : 0 ≤ k) : Inv (D.put (.int .i64 q) (.lit (.int .i64 k))) (last.set q (k + 1)) n where
  im := by obtain ⟨es, rfl⟩ := h.im; exact ⟨_, rfl⟩
  has := fun j hj => by
    rw [rd_set _ _ _ _ (by omega)]
    by_cases e : q = j
    · subst e
      rw [has_put_same h.im (key_i64 _), if_pos rfl, decide_eq_true (by omega)]
    · rw [has_put_other (by intro e2; injection e2 with _ e3; omega), if_neg e]
      exact h.has j hj
  val := fun j hj hp => by
    rw [rd_set _ _ _ _ (by omega)] at hp ⊢
    by_cases e : q = j
    · subst e
      rw [atKey_put_same h.im (key_i64 _), if_pos rfl]
      congr 2
      omega
    · rw [if_neg e] at hp ⊢
      rw [atKey_put_other (by intro e2; injection e2 with _ e3; omega)]
      exact h.val j hj hp
theorem wl_get (n : Nat) (b c : Int) (m i : Nat) (h : i < m) : rd (wl n b c m) (i : Int) = dWorn n b c i := by
  rw [rd_nat, List.getD_eq_getElem?_getD, List.getElem?_eq_getElem (by rw [wl_len]; exact h)]
  simp [wl]
theorem dl_get (n : Nat) (b c : Int) (m i : Nat) (h : i < m) : rd_T44 (dl n b c m) (i : Int) = dayOf n b c i := by
  unfold rd_T44
  rw [Int.toNat_natCast, List.getD_eq_getElem?_getD, List.getElem?_eq_getElem (by rw [dl_len]; exact h)]
  simp [dl]
theorem downTo {P : Nat → Prop} (n : Nat) (h0 : P n) (hs : ∀ i, i < n → P (i + 1) → P i) : ∀ i, i ≤ n → P i := by
  intro i hi
  obtain ⟨d, rfl⟩ : ∃ d, n = i + d := ⟨n - i, by omega⟩
  induction d generalizing i with
  | zero => exact h0
  | succ d ih => exact hs i (by omega) (ih (i + 1) (by rw [show i + 1 + d = i + (d + 1) from by omega]; exact h0) (by rw [show i + 1 + d = i + (d + 1) from by omega]; exact hs) (by omega))
theorem ev_wornList (a b c d : Int) : Ev (fun k => impl_WornList.f k a b c d) (wlF a b c d, asked a b c d) := by
  unfold wlF
  by_cases hA : asked a b c d = true
  · rw [if_pos hA, hA]
    obtain ⟨ho, hd⟩ := asked_is hA
    have hd0 := ho.2.2.2.1
    obtain ⟨m, hm⟩ : ∃ m, d.toNat = m := ⟨_, rfl⟩
    rw [hm]
    have h : ∀ i, i ≤ m → Ev (fun k => impl_WornList.l0 k (wl a.toNat b c i) (dl a.toNat b c m) (m : Int) (i : Int)) (wl a.toNat b c m, true) := by
      refine downTo m ?_ ?_
      · refine Ev.step (f := fun _ => some (wl a.toNat b c m, true)) (fun k => ?_) (Ev.now _)
        simp only [impl_WornList.l0]
        rw [if_neg (by omega)]
      · intro i hi ih
        refine Ev.step (f := fun k => impl_WornList.l0 k (wl a.toNat b c (i + 1)) (dl a.toNat b c m) (m : Int) ((i + 1 : Nat) : Int)) (fun k => ?_) ih
        simp only [impl_WornList.l0]
        rw [if_pos (by omega), if_pos (by omega), if_pos (by rw [dl_len]; omega), if_pos (by rw [wl_len]; omega), dl_get _ _ _ _ _ hi, show wrap64 ((i : Int) + 1) = ((i + 1 : Nat) : Int) from by unfold wrap64; omega, wl_succ]
        rfl
    refine Ev.congr (f := fun k => impl_WornList.l0 k [] (dl a.toNat b c m) (m : Int) 0) (fun k => ?_) (h 0 (by omega))
    unfold impl_WornList.f impl_Wash_days.f
    rw [isDay_eq, hA, Option.bind_some, if_pos rfl, if_pos ho, hm]
    show impl_WornList.l0 k [] (dl a.toNat b c m) ((dl a.toNat b c m).length : Int) 0 = _
    rw [dl_len]
  · rw [if_neg hA, Bool.eq_false_iff.mpr hA]
    refine Ev.congr (f := fun _ => some ([], false)) (fun k => ?_) (Ev.now _)
    unfold impl_WornList.f
    rw [isDay_eq, Option.bind_some, if_neg hA]
theorem wornList_calls (a b c d : Int) (w : World) : Calls Try.prog 32 #[.agg #[.int .i64 a, .int .i64 b, .int .i64 c], .int .i64 d] w fun e w' => ∃ v0_ : Value, e = .returned (.tuple #[v0_, .bool (asked a b c d)]) ∧ Kd.R (Kd.int .i64) 3 w' w.heap.size (fun _ => True) v0_ (wlF a b c d) ∧ Below w.heap.size w w' := by
  obtain ⟨k, hk⟩ := Ev.rounds (ev_wornList a b c d)
  exact impl_WornList.calls k a b c d _ _ w hk
theorem wlF_is (a b c d : Int) : (wlF a b c d).length ≤ 600 ∧ a.toNat ≤ 30 ∨ wlF a b c d = [] := by
  unfold wlF
  by_cases hA : asked a b c d = true
  · rw [if_pos hA, wl_len]
    obtain ⟨ho, hd⟩ := asked_is hA
    have := ho.1
    left; omega
  · rw [if_neg hA]; right; rfl
theorem wlF_bd (a b c d : Int) : ∀ k : Nat, k < (wlF a b c d).length → -1 ≤ rd (wlF a b c d) k ∧ rd (wlF a b c d) k < (a.toNat : Int) := by
  unfold wlF
  by_cases hA : asked a b c d = true
  · rw [if_pos hA]
    intro k hk
    rw [wl_len] at hk
    rw [wl_get _ _ _ _ _ hk]
    exact pk_bd _ _ _ _
  · rw [if_neg hA]
    intro k hk
    exact absurd hk (by simp)
set_option maxHeartbeats 8000000 in
set_option maxRecDepth 100000 in
theorem impl_LongestUnworn.calls (P E D d : Int) (r1 : Int) (r2 : Bool) (w : World) (h : impl_LongestUnworn.f P E D d = some (r1, r2)) :
    Calls Try.prog 40 #[.agg #[.int .i64 P, .int .i64 E, .int .i64 D], .int .i64 d] w fun e w' => e = .returned (.tuple #[.int .i64 r1, .bool r2]) ∧ Below w.heap.size w w' := by
  unfold impl_LongestUnworn.f luF at h
  obtain ⟨rfl, rfl⟩ := Prod.mk.inj (Option.some.inj h)
  clear h
  have hu27 := Try.underlying27
  have hmm := @run_makeMap Try.prog
  have HWL := Aside0.mk (wornList_calls P E D d)
  have hlen := wlF_is P E D d
  have HBD := Aside0.mk (wlF_bd P E D d)
  have HLB := Aside0.mk (luL_bd (wlF P E D d) P.toNat HBD.out)
  have HLN := Aside0.mk (luL_len (wlF P E D d) P.toNat)
  generalize wlF P E D d = L at *
  generalize P.toNat = n at *
  generalize asked P E D d = ok at *
  obtain ⟨m, hm⟩ : ∃ m, L.length = m := ⟨_, rfl⟩
  have HLM := Aside0.mk hm
  have HM := Aside0.mk (show (m ≤ 600 ∧ n ≤ 30) ∨ m = 0 from hlen.imp (fun h => ⟨by omega, h.2⟩) (fun h => by rw [← hm, h]; rfl))
  rw [hm]
  clear hlen hm
  go_enter Try.func40, Try.ntmps40
  go_wp2_with (first | ((with_reducible refine gate_dst (N := 2) rfl ?_); refine box_event ?hg (N := 2) ?hd (cs := #[.int .i64 P, .int .i64 E, .int .i64 D]) (t := 27) ?hr ?_; (case hd => rfl); (case hg => rfl); (case hr => first | (go_simp; done) | (go_simp; rfl)); intro gw hg w1 hbox hb; have hcgw_0 : w1.cell? ⟨gw, 0, none⟩ = some (.int .i64 P) := (blk_cell hbox 0).trans rfl; have hfgw_0 := blk_frozen hbox 0; have hcgw_1 : w1.cell? ⟨gw, 1, none⟩ = some (.int .i64 E) := (blk_cell hbox 1).trans rfl; have hfgw_1 := blk_frozen hbox 1; have hcgw_2 : w1.cell? ⟨gw, 2, none⟩ = some (.int .i64 D) := (blk_cell hbox 2).trans rfl; have hfgw_2 := blk_frozen hbox 2; have HB := Aside0.mk hb; clear hb hg hbox) | (go_at_call 32; refine (HWL.out _).mono ?_; rintro e w3 ⟨v3, rfl, hr, hb⟩; obtain ⟨A3, c3, e3⟩ := Kd.R_slice hr; rw [HLM.out] at e3; subst e3; have HR := Aside0.mk (Kd.R_lower hr HB.out.size); have n0 := Aside0.mk (HB.out.trans (hb.mono HB.out.size)); clear HB hb hr hcgw_0 hcgw_1 hcgw_2; have HB := n0; clear n0))
  have HO := Aside0.mk (show (w3.alloc (.map #[] 0)).ownsMap Try.prog 3 (plainElem (H := Unit) Try.prog 3) w3.heap.size 0 (.map []) from World.ownsMap_made _ _ _ _)
  have HRB := Aside0.mk (show Kd.R (Kd.int .i64) 3 (w3.alloc (.map #[] 0)) w.heap.size (fun k => True ∧ k ≠ w3.heap.size) (.slice A3 m c3) L from Kd.R_alloc (Kd.R_elderB HR.out w3.heap.size (Nat.le_refl _)) _)
  have HBB := Aside0.mk (show Below w.heap.size w (w3.alloc (.map #[] 0)) from below_alloc HB.out _)
  have HBM := Aside0.mk HB.out.size
  have HIS := Aside0.mk (Inv.start n)
  clear HR HB
  generalize w3.alloc (.map #[] 0) = wa at *
  generalize w3.heap.size = bm at *
  go_loopg [8, 23] m (fun gg v8 v23 wr => ∃ (kk cnt : Nat) (D0 : DataW Unit), kk ≤ m ∧ m - kk ≤ gg ∧ cnt ≤ kk ∧ v8 = .int .i64 (luL L n kk).1 ∧ v23 = .int .i64 kk ∧ Aside0 (wr.ownsMap Try.prog 3 (plainElem (H := Unit) Try.prog 3) bm cnt D0) ∧ Aside0 (Inv D0 (luL L n kk).2 n) ∧ Aside0 (Kd.R (Kd.int .i64) 3 wr w.heap.size (fun k => True ∧ k ≠ bm) (.slice A3 m c3) L) ∧ Aside0 (Below w.heap.size w wr))
  case atStart => exact ⟨0, 0, .map [], Nat.zero_le _, by omega, Nat.le_refl _, rfl, rfl, HO, HIS, HRB, HBB⟩
  case round =>
    clear HO HIS HRB HBB hmm
    obtain ⟨kk, cnt, D0, hkk, hg, hcnt, rfl, rfl, HO, HI, HR, HB⟩ := hrel
    by_cases hlt : kk < m
    · obtain ⟨hm6, hn3⟩ : m ≤ 600 ∧ n ≤ 30 := HM.out.elim id (fun h => by omega)
      have hbd := HBD.out kk (by rw [HLM.out]; exact hlt)
      obtain ⟨hl1, hl2⟩ := HLB.out kk (by rw [HLM.out]; omega)
      have hll := HLN.out kk
      have hlu : luL L n (kk + 1) = if rd L kk < 0 then luL L n kk else ((if 0 < rd (luL L n kk).2 (rd L kk) then (if (luL L n kk).1 > (kk : Int) + 1 - rd (luL L n kk).2 (rd L kk) then (luL L n kk).1 else (kk : Int) + 1 - rd (luL L n kk).2 (rd L kk)) else (luL L n kk).1), (luL L n kk).2.set (rd L kk).toNat ((kk : Int) + 1)) := rfl
      obtain ⟨z, hz⟩ : ∃ z : Int, (kk : Int) = z := ⟨_, rfl⟩
      have HZ := Aside0.mk hz
      have hltz : z < (m : Int) := by omega
      have hh0 : 0 ≤ z := by omega
      have hz6 : z ≤ 600 := by omega
      have HG := Aside0.mk (show m - (kk + 1) < gk from by omega)
      have hnx : IntKind.i64.wrap (z + 1) = z + 1 := (i64_w _).trans (by unfold wrap64; omega)
      obtain ⟨ad, ea, hx⟩ := Kd.at_int (Kd.R_reads' HR.out).2.2 z hh0 (by rw [HLM.out]; exact hltz)
      cases ea
      rw [hz] at hlu hbd hl1
      obtain ⟨p, hp⟩ : ∃ p, rd L z = p := ⟨_, rfl⟩
      rw [hp] at hlu hbd hx
      have HKM := Aside0.mk hlt
      have HCN := Aside0.mk hcnt
      have HM6 := Aside0.mk hm6
      have hltz' : decide (z < (m : Int)) = true := decide_eq_true hltz
      obtain ⟨l, hl⟩ : ∃ l, (luL L n kk).1 = l := ⟨_, rfl⟩
      have HL := Aside0.mk hl
      rw [hl] at hlu hl1
      rw [hz, hl]
      replace hltz := eq_true hltz
      clear hz hp hl
      by_cases hneg : p < 0
      · have hneg' : decide (p < 0) = true := decide_eq_true hneg
        rw [if_pos hneg] at hlu
        have HLU := Aside0.mk hlu
        have hz0 := eq_true hh0
        clear hlu hbd hl1 hl2 hneg hh0
        go_wp2
        go_roundg (m - (kk + 1))
        case measure => have := HG.out; omega
        case rel => exact ⟨kk + 1, cnt, D0, by have := HKM.out; omega, by omega, by have := HCN.out; omega, by rw [HLU.out, HL.out], by have := HZ.out; congr 1; omega, HO, ⟨by rw [HLU.out]; exact HI.out⟩, HR, HB⟩
      · have hneg' : decide (p < 0) = false := decide_eq_false hneg
        rw [if_neg hneg] at hlu
        obtain ⟨q, rfl⟩ : ∃ q : Nat, p = (q : Int) := ⟨p.toNat, by omega⟩
        have hq : q < n := by omega
        have hx2 := hl2 q hq
        have hhas := HI.out.has q hq
        have hval := HI.out.val q hq
        have HIN := Aside0.mk (HI.out.put hll q hq z hh0)
        rw [Int.toNat_natCast] at hlu
        obtain ⟨x, hxx⟩ : ∃ x, rd (luL L n kk).2 q = x := ⟨_, rfl⟩
        rw [hxx] at hlu hx2 hhas hval
        have hkey : keyOf Try.prog 3 (.int .i64 (q : Int)) = some (.int .i64 (q : Int)) := keyOf_int_mk Try.underlying3 (wf_i64 _ (by omega) (by omega))
        have hwz : (Lit.int .i64 z).wf = true := wf_i64 _ (by omega) (by omega)
        have HKEY := Aside0.mk hkey
        have HWZ := Aside0.mk hwz
        have hz0 := eq_true hh0
        have HML := Aside0.mk (show cnt < maxLen by unfold maxLen; omega)
        generalize (q : Int) = qi at *
        clear hkey hwz hxx hl2 hbd hneg
        by_cases hpos : 0 < x
        · have HHAS := Aside0.mk (hhas.trans (decide_eq_true hpos))
          have HVAL := Aside0.mk (hval hpos)
          rw [if_pos hpos] at hlu
          obtain ⟨y, hy⟩ : ∃ y, z + 1 - x = y := ⟨_, rfl⟩
          rw [hy] at hlu
          have HY := Aside0.mk hy
          have hsub : IntKind.i64.wrap (z - (x - 1)) = y := (i64_w _).trans (by unfold wrap64; omega)
          have hmx : max l y = if l > y then l else y := by split <;> omega
          have HLU := Aside0.mk hlu
          obtain ⟨mx, hmx2⟩ : ∃ mx, (if l > y then l else y) = mx := ⟨_, rfl⟩
          have HMX := Aside0.mk hmx2
          rw [hmx2] at hmx
          clear hhas hval hpos hlu hx2 hl1 hh0 hy hmx2
          go_wp2_with (first | (at_lookup; refine wpList_lookup_own_ok_int _ rfl _ _ 62 rfl 3 3 .i64 law3 Try.underlying62 Try.underlying3 (zero3 _) bm cnt D0 rfl HO.out _ _ rfl HKEY.out ?_; intro cv hat hwc; rw [HHAS.out]; have hcv : cv = x - 1 := (by have e := hat.symm.trans HVAL.out; injection e with e; injection e with _ e); subst hcv; clear hat hwc) | (at_mapUpdate; refine wpList_mapUpdate_own _ rfl _ _ _ 62 rfl 3 3 law3 Try.underlying62 _ bm cnt D0 rfl HO.out HML.out _ _ _ rfl rfl HKEY.out _ [] (plainElem_int Try.underlying3 HWZ.out) ?_; intro w5 hown hgrow; have HO2 := Aside0.mk hown; have HR2 := Aside0.mk (Kd.R_grown HR.out hgrow (fun k hk e => hk.2 (Option.some.inj e))); have HB2 := Aside0.mk (HB.out.grown hgrow HB.out.size (fun k e => by cases e; exact HBM.out)); clear hown hgrow))
          go_roundg (m - (kk + 1))
          case measure => have := HG.out; omega
          case rel => exact ⟨kk + 1, cnt + 1, _, by have := HKM.out; omega, by omega, by have := HCN.out; omega, by rw [HLU.out, HMX.out], by have := HZ.out; congr 1; omega, HO2, ⟨by rw [HLU.out]; exact HIN.out⟩, HR2, HB2⟩
        · have HHAS := Aside0.mk (hhas.trans (decide_eq_false hpos))
          rw [if_neg hpos] at hlu
          have HLU := Aside0.mk hlu
          clear hhas hval hpos hlu hx2 hl1 hh0
          go_wp2_with (first | (at_lookup; refine wpList_lookup_own_ok_int _ rfl _ _ 62 rfl 3 3 .i64 law3 Try.underlying62 Try.underlying3 (zero3 _) bm cnt D0 rfl HO.out _ _ rfl HKEY.out ?_; intro cv hat hwc; rw [HHAS.out]; clear hat hwc) | (at_mapUpdate; refine wpList_mapUpdate_own _ rfl _ _ _ 62 rfl 3 3 law3 Try.underlying62 _ bm cnt D0 rfl HO.out HML.out _ _ _ rfl rfl HKEY.out _ [] (plainElem_int Try.underlying3 HWZ.out) ?_; intro w5 hown hgrow; have HO2 := Aside0.mk hown; have HR2 := Aside0.mk (Kd.R_grown HR.out hgrow (fun k hk e => hk.2 (Option.some.inj e))); have HB2 := Aside0.mk (HB.out.grown hgrow HB.out.size (fun k e => by cases e; exact HBM.out)); clear hown hgrow))
          go_roundg (m - (kk + 1))
          case measure => have := HG.out; omega
          case rel => exact ⟨kk + 1, cnt + 1, _, by have := HKM.out; omega, by omega, by have := HCN.out; omega, by rw [HLU.out], by have := HZ.out; congr 1; omega, HO2, ⟨by rw [HLU.out]; exact HIN.out⟩, HR2, HB2⟩
    · have hltz : decide ((kk : Int) < (m : Int)) = false := decide_eq_false (by omega)
      obtain rfl : kk = m := by omega
      go_wp2
      go_ret2
      exact ⟨rfl, HB.out⟩
end Go.Proofs.Ytpalinpgoalneaa.XLu
