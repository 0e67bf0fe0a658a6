/- The contracts of the reference's dyState methods: what dyStart, isClean, wear, basket and wash return and how they turn the state. -/
import Derived.Shelf.Abstract
import Derived.WalkSpells
import Derived.Test.YtpalinpgoalneaaQBasex
import Derived.Test.YtpalinpgoalneaaPureDays
namespace Go.Proofs.Ytpalinpgoalneaa.XSt
open Go.RowKit Go.Proofs.YtpalinpgoalneaaW.PrintWords Go.Proofs.YtpalinpgoalneaaW.PrintLast Go.Proofs.YtpalinpgoalneaaW.PrintMore
open Go.Proofs.Ytpalinpgoalneaa.QBase Go.Proofs.Ytpalinpgoalneaa.PD
set_option linter.unusedVariables false
set_option linter.unusedSimpArgs false
/-- The reference's state: a block of two slices, and a row behind each. -/
structure St (w : World) (base b gc gl cc cl : Nat) (C L : List Int) : Prop where
  blk : w.heap[b]? = some (.cells #[.slice (some ⟨gc, 0, none⟩) C.length cc, .slice (some ⟨gl, 0, none⟩) L.length cl] 57 (0, 0))
  hb : base ≤ b
  bgc : b ≠ gc
  bgl : b ≠ gl
  gcl : gc ≠ gl
  rc : Kd.R (Kd.int .i64) 3 w base (fun k => k = gc) (.slice (some ⟨gc, 0, none⟩) C.length cc) C
  rl : Kd.R (Kd.int .i64) 3 w base (fun k => k = gl) (.slice (some ⟨gl, 0, none⟩) L.length cl) L
section
variable {w w1 : World} {base b gc gl cc cl : Nat} {C L : List Int}
theorem St.cell0 (h : St w base b gc gl cc cl C L) : w.cell? ⟨b, 0, none⟩ = some (.slice (some ⟨gc, 0, none⟩) C.length cc) := by
  simp [World.cell?, h.blk]
theorem St.cell1 (h : St w base b gc gl cc cl C L) : w.cell? ⟨b, 1, none⟩ = some (.slice (some ⟨gl, 0, none⟩) L.length cl) := by
  simp [World.cell?, h.blk]
theorem St.froz (h : St w base b gc gl cc cl C L) (j : Nat) : w.frozen? ⟨b, j, none⟩ = false := by
  simp [World.frozen?, h.blk]
theorem St.step (h : St w base b gc gl cc cl C L) (hm : ∀ k, (k = b ∨ k = gc ∨ k = gl) → k < w.heap.size → w1.heap[k]? = w.heap[k]?) : St w1 base b gc gl cc cl C L where
  blk := (hm b (.inl rfl) (blk_lt h.blk)).trans h.blk
  hb := h.hb
  bgc := h.bgc
  bgl := h.bgl
  gcl := h.gcl
  rc := Kd.R_step h.rc (fun k hk hlt => hm k (.inr (.inl hk)) hlt)
  rl := Kd.R_step h.rl (fun k hk hlt => hm k (.inr (.inr hk)) hlt)
theorem St.below (h : St w base b gc gl cc cl C L) (hb : Below w.heap.size w w1) : St w1 base b gc gl cc cl C L := h.step (fun k _ hk => hb.block k hk)
theorem St.drew (h : St w base b gc gl cc cl C L) : St w.drew base b gc gl cc cl C L := h.step (fun _ _ _ => rfl)
theorem St.drewN (h : St w base b gc gl cc cl C L) (m : Nat) : St (w.drewN m) base b gc gl cc cl C L := h.step (fun _ _ _ => rfl)
theorem St.alloc (h : St w base b gc gl cc cl C L) (o : Obj) : St (w.alloc o) base b gc gl cc cl C L := h.below (below_alloc (Below.refl _ _) o)
theorem St.base_c (h : St w base b gc gl cc cl C L) : base ≤ gc := by
  obtain ⟨_, ho⟩ := Kd.R_own h.rc
  exact own_base ho gc rfl
theorem St.base_l (h : St w base b gc gl cc cl C L) : base ≤ gl := by
  obtain ⟨_, ho⟩ := Kd.R_own h.rl
  exact own_base ho gl rfl
theorem St.lt_b (h : St w base b gc gl cc cl C L) : b < w.heap.size := blk_lt h.blk
theorem St.lt_c (h : St w base b gc gl cc cl C L) : gc < w.heap.size := by
  obtain ⟨_, ho⟩ := Kd.R_own h.rc
  exact own_lt ho gc rfl
theorem St.lt_l (h : St w base b gc gl cc cl C L) : gl < w.heap.size := by
  obtain ⟨_, ho⟩ := Kd.R_own h.rl
  exact own_lt ho gl rfl
theorem St.getC (h : St w base b gc gl cc cl C L) (i : Int) (h0 : 0 ≤ i) (h1 : i < C.length) : w.cell? ⟨gc, i.toNat, none⟩ = some (.int .i64 (rd C i)) ∧ w.frozen? ⟨gc, i.toNat, none⟩ = false := Kd.R_celln 0 h.rc i h0 h1
theorem St.getL (h : St w base b gc gl cc cl C L) (i : Int) (h0 : 0 ≤ i) (h1 : i < L.length) : w.cell? ⟨gl, i.toNat, none⟩ = some (.int .i64 (rd L i)) ∧ w.frozen? ⟨gl, i.toNat, none⟩ = false := Kd.R_celln 0 h.rl i h0 h1
theorem St.setC (h : St w base b gc gl cc cl C L) (i : Nat) (x : Int) : St (w.setCell ⟨gc, i, none⟩ (.int .i64 x)) base b gc gl cc cl (C.set i x) L where
  blk := by rw [List.length_set]; exact (Below.heap_setCell w _ _ b h.bgc).trans h.blk
  hb := h.hb
  bgc := h.bgc
  bgl := h.bgl
  gcl := h.gcl
  rc := by have := Kd.R_putn h.rc (i : Int) x; rw [Int.toNat_natCast] at this; rw [List.length_set]; exact this
  rl := Kd.R_far h.rl (p := ⟨gc, i, none⟩) (fun k hk => by rw [hk]; exact fun e => h.gcl e.symm) _
theorem St.setL (h : St w base b gc gl cc cl C L) (i : Nat) (x : Int) : St (w.setCell ⟨gl, i, none⟩ (.int .i64 x)) base b gc gl cc cl C (L.set i x) where
  blk := by rw [List.length_set]; exact (Below.heap_setCell w _ _ b h.bgl).trans h.blk
  hb := h.hb
  bgc := h.bgc
  bgl := h.bgl
  gcl := h.gcl
  rc := Kd.R_far h.rc (p := ⟨gl, i, none⟩) (fun k hk => by rw [hk]; exact h.gcl) _
  rl := by have := Kd.R_putn h.rl (i : Int) x; rw [Int.toNat_natCast] at this; rw [List.length_set]; exact this
end
set_option maxHeartbeats 8000000 in
set_option maxRecDepth 100000 in
theorem isClean (w : World) (base b gc gl cc cl : Nat) (C L : List Int) (k day : Int) (hS : St w base b gc gl cc cl C L) (h0 : 0 ≤ k) (h1 : k < (C.length : Int)) :
    Calls Try.prog 57 #[.pointer (some ⟨b, 0, none⟩), .int .i64 k, .int .i64 day] w fun e w' => e = .returned (.bool (isCl C k day)) ∧ Drawn0 w w' := by
  have hx0 := hS.cell0
  have hxk := (hS.getC k h0 h1).1
  obtain ⟨n, hn⟩ : ∃ n, C.length = n := ⟨_, rfl⟩
  rw [hn] at hx0 h1
  replace h0 := eq_true h0
  replace h1 := eq_true h1
  unfold isCl
  generalize rd C k = x at hxk
  clear hS hn
  by_cases c : 0 ≤ x
  · have c0 : decide (0 ≤ x) = true := decide_eq_true c
    rw [c0, Bool.true_and]
    clear c
    go_enter Try.func57, Try.ntmps57
    go_wp2
    go_ret
    exact ⟨rfl, by repeat (first | exact Drawn0.refl _ | apply Drawn0.step)⟩
  · have c0 : decide (0 ≤ x) = false := decide_eq_false c
    rw [c0, Bool.false_and]
    clear c
    go_enter Try.func57, Try.ntmps57
    go_wp2
    go_ret
    exact ⟨rfl, by repeat (first | exact Drawn0.refl _ | apply Drawn0.step)⟩
def okb (C L : List Int) (day : Int) (n : Nat) (b : Int) : Bool := isCl C n day && (decide (b < 0) || decide (rd L n < rd L b))
theorem pk_step (C L : List Int) (day : Int) (n : Nat) : pk C L day (n + 1) = if okb C L day n (pk C L day n) = true then (n : Int) else pk C L day n := rfl
set_option maxHeartbeats 8000000 in
set_option maxRecDepth 100000 in
theorem wear {w : World} {base b gc gl cc cl : Nat} {C L : List Int} {day : Int} {n : Nat} (hS : St w base b gc gl cc cl C L) (hn : C.length = n) (hL : L.length = n) (hN : n ≤ 30) :
    Calls Try.prog 48 #[.pointer (some ⟨b, 0, none⟩), .int .i64 day] w fun e w' => e = .returned (.int .i64 (pk C L day n)) ∧ St w' base b gc gl cc cl (wC C (pk C L day n)) (wL L (pk C L day n) day) ∧ Below base w w' ∧ Kept w w' (fun k => k = gc ∨ k = gl) := by
  have HS0 := Aside0.mk hS
  have hx0 := hS.cell0
  have HN := Aside0.mk hn
  rw [hn] at hx0
  have HNB := Aside0.mk hN
  have HLL := Aside0.mk hL
  clear hS hN hL
  go_enter Try.func48, Try.ntmps48
  go_wp2
  clear hx0 hn
  go_loopg [5, 12] n (fun gg v5 v12 wr => ∃ kk : Nat, kk ≤ n ∧ n - kk ≤ gg ∧ v5 = .int .i64 (pk C L day kk) ∧ v12 = .int .i64 kk ∧ Drawn0 w wr)
  case atStart => exact ⟨0, Nat.zero_le _, by omega, rfl, rfl, by repeat (first | exact Drawn0.refl _ | apply Drawn0.step)⟩
  case round =>
    obtain ⟨kk, hkk, hg, rfl, rfl, ⟨m1, rfl⟩⟩ := hrel
    by_cases hlt : kk < n
    · have hps := pk_step C L day kk
      have hpb := pk_bd C L day kk
      obtain ⟨z, hz⟩ : ∃ z : Int, (kk : Int) = z := ⟨_, rfl⟩
      obtain ⟨p, hp⟩ : ∃ p : Int, pk C L day kk = p := ⟨_, rfl⟩
      have HZ := Aside0.mk hz
      unfold okb at hps
      rw [hp, hz] at hps
      rw [hz] at hpb
      rw [hp] at hpb
      have hltz : z < (n : Int) := by omega
      have HZ0 := Aside0.mk (show 0 ≤ z by omega)
      have HZ1 := Aside0.mk (show z < (C.length : Int) by rw [HN.out]; exact hltz)
      have hz2 : z ≤ 1048576 := by have := HNB.out; omega
      have HG := Aside0.mk (show n - (kk + 1) < gk from by omega)
      have hnx : IntKind.i64.wrap (z + 1) = z + 1 := (i64_w _).trans (by unfold wrap64; have := HZ0.out; omega)
      have hx1 := HS0.out.cell1
      rw [HLL.out] at hx1
      have hl0 := (HS0.out.getL z HZ0.out (by rw [HLL.out]; exact hltz)).1
      have hh0 := eq_true HZ0.out
      replace hltz' : decide (z < (n : Int)) = true := decide_eq_true hltz
      have hlte := eq_true hltz
      rw [hz, hp]
      obtain ⟨q, hq⟩ : ∃ q, isCl C z day = q := ⟨_, rfl⟩
      rw [hq] at hps
      have HQ := Aside0.mk hq
      have HP := Aside0.mk hp
      clear hz hq hp
      cases q with
      | false =>
        rw [if_neg (by simp)] at hps
        have HPS := Aside0.mk hps
        clear hps hpb hl0 hx1
        (try go_wp2_with (first | (go_at_call 57; (with_reducible refine (isClean _ base b gc gl cc cl C L z day ?sS HZ0.out HZ1.out).mono ?_); (case sS => repeat (first | (with_reducible first | exact HS0.out | apply St.drewN | apply St.drew | apply St.alloc) | exact HS0.out)); rintro e w' ⟨rfl, ⟨nd, rfl⟩⟩; (try rw [HQ.out]); (try first | exact ⟨rfl, _, World.drewN_drewN _ _ _⟩ | exact ⟨rfl, _, Eq.trans (World.drewN_drewN _ _ _) (congrArg (World.drewN _) (Nat.add_assoc _ _ _))⟩)))); (repeat (go_quiet (first | (go_at_call 57; (with_reducible refine (isClean _ base b gc gl cc cl C L z day ?sS HZ0.out HZ1.out).mono ?_); (case sS => repeat (first | (with_reducible first | exact HS0.out | apply St.drewN | apply St.drew | apply St.alloc) | exact HS0.out)); rintro e w' ⟨rfl, ⟨nd, rfl⟩⟩; (try rw [HQ.out]); (try first | exact ⟨rfl, _, World.drewN_drewN _ _ _⟩ | exact ⟨rfl, _, Eq.trans (World.drewN_drewN _ _ _) (congrArg (World.drewN _) (Nat.add_assoc _ _ _))⟩))); try go_wp2_with (first | (go_at_call 57; (with_reducible refine (isClean _ base b gc gl cc cl C L z day ?sS HZ0.out HZ1.out).mono ?_); (case sS => repeat (first | (with_reducible first | exact HS0.out | apply St.drewN | apply St.drew | apply St.alloc) | exact HS0.out)); rintro e w' ⟨rfl, ⟨nd, rfl⟩⟩; (try rw [HQ.out]); (try first | exact ⟨rfl, _, World.drewN_drewN _ _ _⟩ | exact ⟨rfl, _, Eq.trans (World.drewN_drewN _ _ _) (congrArg (World.drewN _) (Nat.add_assoc _ _ _))⟩)))))
        go_roundg (n - (kk + 1))
        case measure => have := HG.out; omega
        case rel => exact ⟨kk + 1, by have := HZ.out; omega, by omega, by rw [HPS.out], by have := HZ.out; congr 1; omega, by repeat (first | exact Drawn0.refl _ | apply Drawn0.step)⟩
      | true =>
        rw [Bool.true_and] at hps
        by_cases hneg : p < 0
        · have hneg' : decide (p < 0) = true := decide_eq_true hneg
          rw [hneg', Bool.true_or, if_pos rfl] at hps
          have HPS := Aside0.mk hps
          clear hps hpb hl0 hx1 hneg
          (try go_wp2_with (first | (go_at_call 57; (with_reducible refine (isClean _ base b gc gl cc cl C L z day ?sS HZ0.out HZ1.out).mono ?_); (case sS => repeat (first | (with_reducible first | exact HS0.out | apply St.drewN | apply St.drew | apply St.alloc) | exact HS0.out)); rintro e w' ⟨rfl, ⟨nd, rfl⟩⟩; (try rw [HQ.out]); (try first | exact ⟨rfl, _, World.drewN_drewN _ _ _⟩ | exact ⟨rfl, _, Eq.trans (World.drewN_drewN _ _ _) (congrArg (World.drewN _) (Nat.add_assoc _ _ _))⟩)))); (repeat (go_quiet (first | (go_at_call 57; (with_reducible refine (isClean _ base b gc gl cc cl C L z day ?sS HZ0.out HZ1.out).mono ?_); (case sS => repeat (first | (with_reducible first | exact HS0.out | apply St.drewN | apply St.drew | apply St.alloc) | exact HS0.out)); rintro e w' ⟨rfl, ⟨nd, rfl⟩⟩; (try rw [HQ.out]); (try first | exact ⟨rfl, _, World.drewN_drewN _ _ _⟩ | exact ⟨rfl, _, Eq.trans (World.drewN_drewN _ _ _) (congrArg (World.drewN _) (Nat.add_assoc _ _ _))⟩))); try go_wp2_with (first | (go_at_call 57; (with_reducible refine (isClean _ base b gc gl cc cl C L z day ?sS HZ0.out HZ1.out).mono ?_); (case sS => repeat (first | (with_reducible first | exact HS0.out | apply St.drewN | apply St.drew | apply St.alloc) | exact HS0.out)); rintro e w' ⟨rfl, ⟨nd, rfl⟩⟩; (try rw [HQ.out]); (try first | exact ⟨rfl, _, World.drewN_drewN _ _ _⟩ | exact ⟨rfl, _, Eq.trans (World.drewN_drewN _ _ _) (congrArg (World.drewN _) (Nat.add_assoc _ _ _))⟩)))))
          go_roundg (n - (kk + 1))
          case measure => have := HG.out; omega
          case rel => exact ⟨kk + 1, by have := HZ.out; omega, by omega, by rw [HPS.out], by have := HZ.out; congr 1; omega, by repeat (first | exact Drawn0.refl _ | apply Drawn0.step)⟩
        · have hneg' : decide (p < 0) = false := decide_eq_false hneg
          have hp0 : 0 ≤ p := by omega
          have hp1 : p < (n : Int) := by omega
          have hl1 := (HS0.out.getL p hp0 (by rw [HLL.out]; exact hp1)).1
          replace hp0 := eq_true hp0
          replace hp1 := eq_true hp1
          rw [hneg', Bool.false_or] at hps
          generalize rd L z = x at hl0 hps
          generalize rd L p = y at hl1 hps
          clear hpb hneg
          by_cases hxy : x < y
          · have hxy' : decide (x < y) = true := decide_eq_true hxy
            rw [if_pos hxy'] at hps
            have HPS := Aside0.mk hps
            clear hps hxy
            (try go_wp2_with (first | (go_at_call 57; (with_reducible refine (isClean _ base b gc gl cc cl C L z day ?sS HZ0.out HZ1.out).mono ?_); (case sS => repeat (first | (with_reducible first | exact HS0.out | apply St.drewN | apply St.drew | apply St.alloc) | exact HS0.out)); rintro e w' ⟨rfl, ⟨nd, rfl⟩⟩; (try rw [HQ.out]); (try first | exact ⟨rfl, _, World.drewN_drewN _ _ _⟩ | exact ⟨rfl, _, Eq.trans (World.drewN_drewN _ _ _) (congrArg (World.drewN _) (Nat.add_assoc _ _ _))⟩)))); (repeat (go_quiet (first | (go_at_call 57; (with_reducible refine (isClean _ base b gc gl cc cl C L z day ?sS HZ0.out HZ1.out).mono ?_); (case sS => repeat (first | (with_reducible first | exact HS0.out | apply St.drewN | apply St.drew | apply St.alloc) | exact HS0.out)); rintro e w' ⟨rfl, ⟨nd, rfl⟩⟩; (try rw [HQ.out]); (try first | exact ⟨rfl, _, World.drewN_drewN _ _ _⟩ | exact ⟨rfl, _, Eq.trans (World.drewN_drewN _ _ _) (congrArg (World.drewN _) (Nat.add_assoc _ _ _))⟩))); try go_wp2_with (first | (go_at_call 57; (with_reducible refine (isClean _ base b gc gl cc cl C L z day ?sS HZ0.out HZ1.out).mono ?_); (case sS => repeat (first | (with_reducible first | exact HS0.out | apply St.drewN | apply St.drew | apply St.alloc) | exact HS0.out)); rintro e w' ⟨rfl, ⟨nd, rfl⟩⟩; (try rw [HQ.out]); (try first | exact ⟨rfl, _, World.drewN_drewN _ _ _⟩ | exact ⟨rfl, _, Eq.trans (World.drewN_drewN _ _ _) (congrArg (World.drewN _) (Nat.add_assoc _ _ _))⟩)))))
            go_roundg (n - (kk + 1))
            case measure => have := HG.out; omega
            case rel => exact ⟨kk + 1, by have := HZ.out; omega, by omega, by rw [HPS.out], by have := HZ.out; congr 1; omega, by repeat (first | exact Drawn0.refl _ | apply Drawn0.step)⟩
          · have hxy' : decide (x < y) = false := decide_eq_false hxy
            rw [if_neg (by rw [hxy']; simp)] at hps
            have HPS := Aside0.mk hps
            clear hps hxy
            (try go_wp2_with (first | (go_at_call 57; (with_reducible refine (isClean _ base b gc gl cc cl C L z day ?sS HZ0.out HZ1.out).mono ?_); (case sS => repeat (first | (with_reducible first | exact HS0.out | apply St.drewN | apply St.drew | apply St.alloc) | exact HS0.out)); rintro e w' ⟨rfl, ⟨nd, rfl⟩⟩; (try rw [HQ.out]); (try first | exact ⟨rfl, _, World.drewN_drewN _ _ _⟩ | exact ⟨rfl, _, Eq.trans (World.drewN_drewN _ _ _) (congrArg (World.drewN _) (Nat.add_assoc _ _ _))⟩)))); (repeat (go_quiet (first | (go_at_call 57; (with_reducible refine (isClean _ base b gc gl cc cl C L z day ?sS HZ0.out HZ1.out).mono ?_); (case sS => repeat (first | (with_reducible first | exact HS0.out | apply St.drewN | apply St.drew | apply St.alloc) | exact HS0.out)); rintro e w' ⟨rfl, ⟨nd, rfl⟩⟩; (try rw [HQ.out]); (try first | exact ⟨rfl, _, World.drewN_drewN _ _ _⟩ | exact ⟨rfl, _, Eq.trans (World.drewN_drewN _ _ _) (congrArg (World.drewN _) (Nat.add_assoc _ _ _))⟩))); try go_wp2_with (first | (go_at_call 57; (with_reducible refine (isClean _ base b gc gl cc cl C L z day ?sS HZ0.out HZ1.out).mono ?_); (case sS => repeat (first | (with_reducible first | exact HS0.out | apply St.drewN | apply St.drew | apply St.alloc) | exact HS0.out)); rintro e w' ⟨rfl, ⟨nd, rfl⟩⟩; (try rw [HQ.out]); (try first | exact ⟨rfl, _, World.drewN_drewN _ _ _⟩ | exact ⟨rfl, _, Eq.trans (World.drewN_drewN _ _ _) (congrArg (World.drewN _) (Nat.add_assoc _ _ _))⟩)))))
            go_roundg (n - (kk + 1))
            case measure => have := HG.out; omega
            case rel => exact ⟨kk + 1, by have := HZ.out; omega, by omega, by rw [HPS.out], by have := HZ.out; congr 1; omega, by repeat (first | exact Drawn0.refl _ | apply Drawn0.step)⟩
    · have hltz : decide ((kk : Int) < (n : Int)) = false := decide_eq_false (by omega)
      obtain rfl : kk = n := by omega
      have HS := Aside0.mk (HS0.out.drewN m1)
      have HB := Aside0.mk (show Below base w (w.drewN m1) from by repeat (first | (with_reducible first | exact Below.refl _ _ | apply pw_below_drewN) | exact Below.refl _ _))
      have HK := Aside0.mk (show Kept w (w.drewN m1) (fun k => k = gc ∨ k = gl) from (Kept.refl w _).drewN m1)
      have hpb := pk_bd C L day kk
      have hN := HN.out
      obtain ⟨p, hp⟩ : ∃ p : Int, pk C L day kk = p := ⟨_, rfl⟩
      rw [hp] at hpb ⊢
      have HPE := Aside0.mk hp
      clear hp
      generalize w.drewN m1 = wr at *
      by_cases hneg : p < 0
      · have h0 : decide (0 ≤ p) = false := decide_eq_false (by omega)
        have HP := Aside0.mk (show ¬ 0 ≤ p from by omega)
        clear hpb hneg hN
        go_wp2
        go_ret
        exact ⟨by rw [HPE.out]; rfl, by rw [HPE.out]; unfold wC wL; rw [if_neg (by have := HP.out; omega), if_neg (by have := HP.out; omega)]; exact HS.out, HB.out, HK.out⟩
      · have hp0 : 0 ≤ p := by omega
        have h0 : decide (0 ≤ p) = true := decide_eq_true hp0
        have hp1 : p < (kk : Int) := by omega
        have HP := Aside0.mk hp0
        have HP1 := Aside0.mk hp1
        have hx0 := HS.out.cell0
        rw [hN] at hx0
        obtain ⟨hc1, hc2⟩ := HS.out.getC p hp0 (by rw [hN]; exact hp1)
        replace hp0 := eq_true hp0
        replace hp1 := eq_true hp1
        clear hpb hneg hN
        go_wp2_with (first | ((with_reducible refine gate_store (t := 3) (p := 49) rfl ?_); refine store_event (t := 3) (p := 49) (v := ?vo_w8) (w1 := (wr.setCell ⟨gc, p.toNat, none⟩ (.int .i64 (-1)))) ?hg ?ho ?hn ?hr ?_; (case ho => rfl); (case hg => rfl); (case hn => rfl); (case hr => first | (go_simp; done) | (go_simp; rfl)); intro w8 hw; have HS8 := Aside0.mk (show St w8 base b gc gl cc cl (C.set p.toNat (-1)) L from by rw [hw]; exact HS.out.setC p.toNat (-1)); have HB8 := Aside0.mk (show Below base w w8 from by rw [hw]; exact HB.out.setCell (p := ⟨gc, p.toNat, none⟩) HS.out.base_c _); have HK8 := Aside0.mk (show Kept w w8 (fun k => k = gc ∨ k = gl) from by rw [hw]; exact HK.out.setCell (p := ⟨gc, p.toNat, none⟩) (.inl (.inl rfl)) _); have hx1 := HS8.out.cell1; rw [HLL.out] at hx1; obtain ⟨hl1, hl2⟩ := HS8.out.getL p HP.out (by rw [HLL.out]; exact HP1.out); clear hw hc1 hc2 hx0) | ((with_reducible refine gate_store (t := 3) (p := 56) rfl ?_); refine store_event (t := 3) (p := 56) (v := ?vo_w9) (w1 := (w8.setCell ⟨gl, p.toNat, none⟩ (.int .i64 day))) ?hg ?ho ?hn ?hr ?_; (case ho => rfl); (case hg => rfl); (case hn => rfl); (case hr => first | (go_simp; done) | (go_simp; rfl)); intro w9 hw; have HS9 := Aside0.mk (show St w9 base b gc gl cc cl (C.set p.toNat (-1)) (L.set p.toNat day) from by rw [hw]; exact HS8.out.setL p.toNat day); have HB9 := Aside0.mk (show Below base w w9 from by rw [hw]; exact HB8.out.setCell (p := ⟨gl, p.toNat, none⟩) HS8.out.base_l _); have HK9 := Aside0.mk (show Kept w w9 (fun k => k = gc ∨ k = gl) from by rw [hw]; exact HK8.out.setCell (p := ⟨gl, p.toNat, none⟩) (.inl (.inr rfl)) _); clear hw hl1 hl2 hx1))
        go_ret
        exact ⟨by rw [HPE.out]; rfl, by rw [HPE.out]; unfold wC wL; rw [if_pos HP.out, if_pos HP.out]; exact HS9.out, HB9.out, HK9.out⟩
theorem bas_step (C : List Int) (n : Nat) : bas C (n + 1) = bas C n ++ (if decide (rd C n < 0) = true then [(n : Int)] else []) := fl_succ _ n
set_option maxHeartbeats 8000000 in
set_option maxRecDepth 100000 in
theorem basket {w : World} {base b gc gl cc cl : Nat} {C L : List Int} {n : Nat} (hS : St w base b gc gl cc cl C L) (hn : C.length = n) (hN : n ≤ 30) :
    Calls Try.prog 62 #[.pointer (some ⟨b, 0, none⟩)] w fun e w' => ∃ v, e = .returned v ∧ Kd.R (Kd.int .i64) 3 w' w.heap.size (fun _ => True) v (bas C n) ∧ Below w.heap.size w w' := by
  have HS0 := Aside0.mk hS
  have HNB := Aside0.mk hN
  have hx0 := hS.cell0
  have HN := Aside0.mk hn
  rw [hn] at hx0
  clear hS hN
  go_enter Try.func62, Try.ntmps62
  go_wp2
  clear hx0 hn
  go_loopg [3, 11] n (fun gg v3 v11 wr => ∃ kk : Nat, kk ≤ n ∧ n - kk ≤ gg ∧ v11 = .int .i64 kk ∧ Aside0 (Kd.R (Kd.int .i64) 3 wr w.heap.size (fun _ => True) v3 (bas C kk)) ∧ Aside0 (Below w.heap.size w wr))
  case atStart => exact ⟨0, Nat.zero_le _, by omega, rfl, ⟨Kd.R_nil _ _ _ _ _⟩, ⟨by repeat (first | (with_reducible first | exact Below.refl _ _ | apply pw_below_drewN | apply below_drew1) | exact Below.refl _ _)⟩⟩
  case round =>
    obtain ⟨kk, hkk, hg, rfl, HR, HB⟩ := hrel
    by_cases hlt : kk < n
    · have hps := bas_step C kk
      obtain ⟨z, hz⟩ : ∃ z : Int, (kk : Int) = z := ⟨_, rfl⟩
      have HZ := Aside0.mk hz
      rw [hz] at hps
      have hltz : z < (n : Int) := by omega
      have hh0 : 0 ≤ z := by omega
      have hz2 : z ≤ 1048576 := by have := HNB.out; omega
      have HG := Aside0.mk (show n - (kk + 1) < gk from by omega)
      have hnx : IntKind.i64.wrap (z + 1) = z + 1 := (i64_w _).trans (by unfold wrap64; omega)
      have hc0 := ((HS0.out.below HB.out).getC z hh0 (by rw [HN.out]; exact hltz)).1
      have hltz' : decide (z < (n : Int)) = true := decide_eq_true hltz
      replace hltz := eq_true hltz
      replace hh0 := eq_true hh0
      rw [hz]
      have HLB := Aside0.mk (show (bas C kk).length ≤ 30 from by have := fl_len (fun k => decide (rd C k < 0)) kk; have := HNB.out; unfold bas; omega)
      generalize rd C z = x at hc0 hps
      generalize bas C kk = y at HR hps HLB
      clear hz
      by_cases hx : x < 0
      · have hx' : decide (x < 0) = true := decide_eq_true hx
        rw [if_pos hx'] at hps
        have HPS := Aside0.mk hps
        clear hps hx
        go_wp2_with (first | ((with_reducible refine gate_builtin (b := .append) (xs := #[.tmp 18, .tmp 20]) rfl ?_); at_builtin; refine Kd.R_append (Kd.int .i64) (w0 := w) (w.heap.size) rfl (.tmp 18) (.tmp 20) 24 3 (.int .i64 0) 8 rfl Try.underlying24 info3 rfl (by decide) (by omega) (u3) (y) (z) [.int .i64 (z)] (fun _ => True) (fun _ => False) rfl rfl ?aP (fun _ hk => hk.elim) ?aF ?aO ?aB ?aS ?aL ?_; (case aP => exact rfl); (case aB => exact (by repeat (first | (with_reducible first | exact HB.out | apply below_alloc | apply pw_below_drewN | apply below_drew1) | exact HB.out))); (case aF => exact (fun _ _ => trivial)); (case aO => exact (by (with_reducible repeat (first | apply Kd.R_alloc | apply Kd.R_drewN | apply Kd.R_drew)); exact HR.out)); (case aS => exact (below_size (by repeat (first | (with_reducible first | exact HB.out | apply below_alloc | apply pw_below_drewN | apply below_drew1) | exact HB.out)))); (case aL => have := HLB.out; simp; omega); intro v1 w1 ho hb hg hat; rw [← HPS.out] at ho; have n0_ := Aside0.mk ho; have n1_ := Aside0.mk hb; clear HR HB ho hb hg hat; have HR := n0_; have HB := n1_; clear n0_ n1_))
        go_roundg (n - (kk + 1))
        case measure => have := HG.out; omega
        case rel => exact ⟨kk + 1, by have := HZ.out; have := of_eq_true hltz; omega, by omega, by have := HZ.out; congr 1; omega, HR, HB⟩
      · have hx' : decide (x < 0) = false := decide_eq_false hx
        rw [if_neg (by rw [hx']; simp), List.append_nil] at hps
        have HPS := Aside0.mk hps
        clear hps hx
        go_wp2
        go_roundg (n - (kk + 1))
        case measure => have := HG.out; omega
        case rel => exact ⟨kk + 1, by have := HZ.out; have := of_eq_true hltz; omega, by omega, by have := HZ.out; congr 1; omega, ⟨by rw [HPS.out]; exact (by (with_reducible repeat (first | apply Kd.R_alloc | apply Kd.R_drewN | apply Kd.R_drew)); exact HR.out)⟩, ⟨(by repeat (first | (with_reducible first | exact HB.out | apply below_alloc | apply pw_below_drewN | apply below_drew1) | exact HB.out))⟩⟩
    · have hltz : decide ((kk : Int) < (n : Int)) = false := decide_eq_false (by omega)
      obtain rfl : kk = n := by omega
      go_wp2
      go_ret
      exact ⟨_, rfl, (by (with_reducible repeat (first | apply Kd.R_alloc | apply Kd.R_drewN | apply Kd.R_drew)); exact HR.out), (by repeat (first | (with_reducible first | exact HB.out | apply below_alloc | apply pw_below_drewN | apply below_drew1) | exact HB.out))⟩
def washed (E day : Int) (C : List Int) (n : Nat) : List Int := if (day + 1) % E = 0 then bas C n else []
def washC (E D day : Int) (C : List Int) (n : Nat) : List Int := if (day + 1) % E = 0 then wk (bas C n) (day + D) C (bas C n).length else C
set_option maxHeartbeats 8000000 in
set_option maxRecDepth 100000 in
theorem wash {w : World} {base b gc gl cc cl : Nat} {C L : List Int} {n : Nat} {P E D day : Int} (hS : St w base b gc gl cc cl C L) (hn : C.length = n) (hN : n ≤ 30) (hE : 1 ≤ E) (hE2 : E ≤ 30) (hD : 1 ≤ D) (hD2 : D ≤ 30) (hd : 0 ≤ day) (hd2 : day ≤ 1000) (hbw : base ≤ w.heap.size) :
    Calls Try.prog 58 #[.pointer (some ⟨b, 0, none⟩), .agg #[.int .i64 P, .int .i64 E, .int .i64 D], .int .i64 day] w fun e w' => ∃ v, e = .returned v ∧ Kd.R (Kd.int .i64) 3 w' w.heap.size (fun _ => True) v (washed E day C n) ∧ St w' base b gc gl cc cl (washC E D day C n) L ∧ Below base w w' ∧ Kept w w' (fun k => k = gc) := by
  have HS0 := Aside0.mk hS
  have HNB := Aside0.mk hN
  have HN := Aside0.mk hn
  have HBW := Aside0.mk hbw
  have HB0 := Aside0.mk (Below.refl w.heap.size w)
  obtain ⟨d1, hd1⟩ : ∃ d1 : Int, day + 1 = d1 := ⟨_, rfl⟩
  obtain ⟨dd, hdd⟩ : ∃ dd : Int, day + D = dd := ⟨_, rfl⟩
  have hw1 : IntKind.i64.wrap (day + 1) = d1 := (i64_w _).trans (by unfold wrap64; omega)
  have hw2 : IntKind.i64.wrap (day + D) = dd := (i64_w _).trans (by unfold wrap64; omega)
  have hE0 : (E == 0) = false := by simp; omega
  have HD1 := Aside0.mk hd1
  have HDD := Aside0.mk hdd
  have hm : Int.tmod d1 E = d1 % E := Int.tmod_eq_emod_of_nonneg (by omega)
  clear hS hN hn hbw hd1 hdd
  have hu27 := Try.underlying27
  have hcall : ∀ W, Below w.heap.size w W → Calls Try.prog 62 #[.pointer (some ⟨b, 0, none⟩)] W fun e w' => ∃ v, e = .returned v ∧ Kd.R (Kd.int .i64) 3 w' W.heap.size (fun _ => True) v (bas C n) ∧ Below W.heap.size W w' := fun W hW => basket (HS0.out.below hW) HN.out HNB.out
  have HCALL := Aside0.mk hcall
  clear hcall
  by_cases c : d1 % E = 0
  · have c0 : (d1 % E != 0) = false := by simp [c]
    have e1 : washed E day C n = bas C n := by unfold washed; rw [HD1.out, if_pos c]
    have e2 : washC E D day C n = wk (bas C n) dd C (bas C n).length := by unfold washC; rw [HD1.out, HDD.out, if_pos c]
    rw [e1, e2]
    have HOB := Aside0.mk (show ∀ x ∈ bas C n, 0 ≤ x ∧ x < (n : Int) from by
      intro x hx
      unfold bas at hx
      rw [fl_mem] at hx
      obtain ⟨i, rfl, h1, _⟩ := hx
      omega)
    have HOL := Aside0.mk (show (bas C n).length ≤ 30 from by have := fl_len (fun k => decide (rd C k < 0)) n; have := HNB.out; unfold bas; omega)
    generalize bas C n = out at HCALL HOB HOL
    obtain ⟨m, hm2⟩ : ∃ m, out.length = m := ⟨_, rfl⟩
    have HM := Aside0.mk hm2
    rw [hm2]
    clear c e1 e2 hm2
    go_enter Try.func58, Try.ntmps58
    go_wp2_with (first | ((with_reducible refine gate_dst (N := 4) rfl ?_); refine box_event ?hg (N := 4) ?hd (cs := #[.int .i64 P, .int .i64 E, .int .i64 D]) (t := 27) ?hr ?_; (case hd => rfl); (case hg => rfl); (case hr => first | (go_simp; done) | (go_simp; rfl)); intro gw hg w1 hbox hb; have hcgw_0 : w1.cell? ⟨gw, 0, none⟩ = some (.int .i64 P) := (blk_cell hbox 0).trans rfl; have hfgw_0 := blk_frozen hbox 0; have hcgw_1 : w1.cell? ⟨gw, 1, none⟩ = some (.int .i64 E) := (blk_cell hbox 1).trans rfl; have hfgw_1 := blk_frozen hbox 1; have hcgw_2 : w1.cell? ⟨gw, 2, none⟩ = some (.int .i64 D) := (blk_cell hbox 2).trans rfl; have hfgw_2 := blk_frozen hbox 2; have HB := Aside0.mk hb; have HGW := Aside0.mk hg; have HX := Aside0.mk hbox; clear hb hg hbox) | (go_at_call 62; refine (HCALL.out w1 HB.out).mono ?_; rintro e w2 ⟨v, rfl, hr, hb⟩; obtain ⟨Ab, cb, rfl⟩ := Kd.R_slice hr; rw [HM.out] at hr ⊢; have HR := Aside0.mk (show Kd.R (Kd.int .i64) 3 w2 w.heap.size (fun k => w.heap.size ≤ k) (.slice Ab m cb) out from Kd.R_mono (Kd.R_bound (Kd.R_lower hr HB.out.size)) (fun _ hk => hk.2.1)); have HX2 := Aside0.mk (blk_below HX.out hb); have HB2 := Aside0.mk (HB.out.trans (hb.mono HB.out.size)); clear hr hb HX HB))
    go_loopg [20] m (fun gg v20 wr => ∃ kk : Nat, kk ≤ m ∧ m - kk ≤ gg ∧ v20 = .int .i64 kk ∧ Aside0 (Kd.R (Kd.int .i64) 3 wr w.heap.size (fun k => w.heap.size ≤ k) (.slice Ab m cb) out) ∧ Aside0 (St wr base b gc gl cc cl (wk out dd C kk) L) ∧ Aside0 (wr.heap[gw]? = some (.cells #[.int .i64 P, .int .i64 E, .int .i64 D] 27 (0, 0))) ∧ Aside0 (Below base w wr) ∧ Aside0 (Kept w wr (fun k => k = gc)))
    case atStart => exact ⟨0, Nat.zero_le _, by omega, rfl, HR, ⟨HS0.out.below HB2.out⟩, HX2, ⟨HB2.out.mono HBW.out⟩, ⟨Kept.of_below HB2.out _⟩⟩
    case round =>
      clear HR HX2 HB2
      obtain ⟨kk, hkk, hg, rfl, HR, HS, HX, HB, HK⟩ := hrel
      by_cases hlt : kk < m
      · have hlz : kk < out.length := by rw [HM.out]; exact hlt
        have hps : wk out dd C (kk + 1) = (wk out dd C kk).set (rd out kk).toNat dd := rfl
        obtain ⟨z, hz⟩ : ∃ z : Int, (kk : Int) = z := ⟨_, rfl⟩
        have HZ := Aside0.mk hz
        rw [hz] at hps
        have hltz : z < (m : Int) := by omega
        have hh0 : 0 ≤ z := by omega
        have hz2 : z ≤ 1048576 := by have := HOL.out; have := HM.out; omega
        have HG := Aside0.mk (show m - (kk + 1) < gk from by omega)
        have hnx : IntKind.i64.wrap (z + 1) = z + 1 := (i64_w _).trans (by unfold wrap64; omega)
        obtain ⟨ad, ea, hx⟩ := Kd.at_int (Kd.R_reads' HR.out).2.2 z hh0 (by rw [HM.out]; exact hltz)
        cases ea
        have hxb : 0 ≤ rd out z ∧ rd out z < (n : Int) := HOB.out _ (by rw [← hz, rd_nat, List.getD_eq_getElem?_getD, List.getElem?_eq_getElem hlz]; exact List.getElem_mem hlz)
        generalize rd out z = x at hx hps hxb
        obtain ⟨hx0, hx1⟩ := hxb
        have HX0 := Aside0.mk hx0
        have HX1 := Aside0.mk hx1
        obtain ⟨C1, hC1⟩ : ∃ C1, wk out dd C kk = C1 := ⟨_, rfl⟩
        have HC1 := Aside0.mk hC1
        have hl1 : C1.length = n := by rw [← hC1, wk_len, HN.out]
        have HS1 := Aside0.mk (show St wr base b gc gl cc cl C1 L from by rw [← hC1]; exact HS.out)
        rw [hC1] at hps
        have HPS := Aside0.mk hps
        have hce := HS1.out.cell0
        rw [hl1] at hce
        obtain ⟨hc1, hc2⟩ := HS1.out.getC x hx0 (by rw [hl1]; exact hx1)
        have hgd : wr.cell? ⟨gw, 2, none⟩ = some (.int .i64 D) := (blk_cell HX.out 2).trans rfl
        have hltz' : decide (z < (m : Int)) = true := decide_eq_true hltz
        replace hltz := eq_true hltz
        replace hh0 := eq_true hh0
        replace hx0 := eq_true hx0
        replace hx1 := eq_true hx1
        rw [hz]
        clear hz hps hC1 hlz HS hl1
        go_wp2
        go_region
        obtain ⟨w3, hw3⟩ : ∃ w3, (wr.setCell ⟨gc, x.toNat, none⟩ (.int .i64 dd)).drew = w3 := ⟨_, rfl⟩
        have hne : gw ≠ gc := by have := HS0.out.lt_c; have := HGW.out; omega
        have HS3 := Aside0.mk (show St w3 base b gc gl cc cl (C1.set x.toNat dd) L from by rw [← hw3]; exact (HS1.out.setC x.toNat dd).drew)
        have HR3 := Aside0.mk (show Kd.R (Kd.int .i64) 3 w3 w.heap.size (fun k => w.heap.size ≤ k) (.slice (some ad) m cb) out from by rw [← hw3]; exact Kd.R_drew (Kd.R_far (p := ⟨gc, x.toNat, none⟩) HR.out (fun k hk e => by have := HS0.out.lt_c; have e2 : k = gc := e; omega) _))
        have HX3 := Aside0.mk (show w3.heap[gw]? = some (.cells #[.int .i64 P, .int .i64 E, .int .i64 D] 27 (0, 0)) from by rw [← hw3]; exact (Below.heap_setCell wr ⟨gc, x.toNat, none⟩ _ gw hne).trans HX.out)
        have HB3 := Aside0.mk (show Below base w w3 from by rw [← hw3]; exact (HB.out.setCell (p := ⟨gc, x.toNat, none⟩) HS1.out.base_c _).drew)
        have HK3 := Aside0.mk (show Kept w w3 (fun k => k = gc) from by rw [← hw3]; exact (HK.out.setCell (p := ⟨gc, x.toNat, none⟩) (.inl rfl) _).drew)
        rw [hw3]
        clear hw3 hc1 hc2 hce hgd hx
        go_wp2
        go_roundg (m - (kk + 1))
        case measure => have := HG.out; omega
        case rel => exact ⟨kk + 1, by have := HZ.out; have := of_eq_true hltz; omega, by omega, by have := HZ.out; congr 1; omega, HR3, ⟨by rw [HPS.out]; exact HS3.out⟩, HX3, HB3, HK3⟩
      · have hltz : decide ((kk : Int) < (m : Int)) = false := decide_eq_false (by omega)
        obtain rfl : kk = m := by omega
        go_wp2
        go_ret
        exact ⟨_, rfl, Kd.R_mono (by (with_reducible repeat (first | apply Kd.R_alloc | apply Kd.R_drewN | apply Kd.R_drew)); exact HR.out) (fun _ _ => trivial), HS.out, HB.out, HK.out⟩
  · have c0 : (d1 % E != 0) = true := by simp [c]
    have e1 : washed E day C n = [] := by unfold washed; rw [HD1.out, if_neg c]
    have e2 : washC E D day C n = C := by unfold washC; rw [HD1.out, if_neg c]
    rw [e1, e2]
    clear c e1 e2 HCALL
    go_enter Try.func58, Try.ntmps58
    go_wp2_with (first | ((with_reducible refine gate_dst (N := 4) rfl ?_); refine box_event ?hg (N := 4) ?hd (cs := #[.int .i64 P, .int .i64 E, .int .i64 D]) (t := 27) ?hr ?_; (case hd => rfl); (case hg => rfl); (case hr => first | (go_simp; done) | (go_simp; rfl)); intro gw hg w1 hbox hb; have hcgw_0 : w1.cell? ⟨gw, 0, none⟩ = some (.int .i64 P) := (blk_cell hbox 0).trans rfl; have hfgw_0 := blk_frozen hbox 0; have hcgw_1 : w1.cell? ⟨gw, 1, none⟩ = some (.int .i64 E) := (blk_cell hbox 1).trans rfl; have hfgw_1 := blk_frozen hbox 1; have hcgw_2 : w1.cell? ⟨gw, 2, none⟩ = some (.int .i64 D) := (blk_cell hbox 2).trans rfl; have hfgw_2 := blk_frozen hbox 2; have HB := Aside0.mk hb; clear hb hg hbox))
    go_ret
    exact ⟨_, rfl, Kd.R_nil _ _ _ _ _, HS0.out.below HB.out, HB.out.mono HBW.out, Kept.of_below HB.out _⟩
end Go.Proofs.Ytpalinpgoalneaa.XSt
