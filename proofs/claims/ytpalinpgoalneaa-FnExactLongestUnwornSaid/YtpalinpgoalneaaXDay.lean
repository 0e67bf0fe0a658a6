/- The contract of the program's days: handed a right wash and a number of days up to 600 it returns a row of the call's own that holds, day by day, the pair that is worn, the clean ones, the basket and what is washed; nothing that was there is changed. -/
import Derived.Test.YtpalinpgoalneaaQDayPx0
import Derived.Test.YtpalinpgoalneaaXSu
import Derived.Test.YtpalinpgoalneaaXVals
namespace Go.Proofs.Ytpalinpgoalneaa.XDay
open Go.RowKit Go.Proofs.YtpalinpgoalneaaW.PrintWords Go.Proofs.YtpalinpgoalneaaW.PrintLast Go.Proofs.YtpalinpgoalneaaW.PrintMore
open Go.Proofs.Ytpalinpgoalneaa.QBase Go.Proofs.Ytpalinpgoalneaa.PD Go.Proofs.Ytpalinpgoalneaa.XSt Go.Proofs.Ytpalinpgoalneaa.XSu Go.Proofs.Ytpalinpgoalneaa.XClone
open Go.Proofs.Ytpalinpgoalneaa.QDayP hiding info3
attribute [local go_sem] max2_int min2_int max_two min_two max_three min_three max_four min_four   -- for this text's walks alone
set_option linter.unusedVariables false
set_option linter.unusedSimpArgs false
def impl_Wash_days.T1 : Bool × List (List Nat × List Nat) := (true, [([], []), ([0], [0]), ([1, 1], [1]), ([], []), ([3], [3]), ([4, 4], [4]), ([], []), ([], []), ([2, 0, 1, 2], [2]), ([5, 8, 0, 1, 2, 3, 4, 5, 8], [5]), ([6, 9, 0, 1, 2, 3, 4, 5, 6, 8, 9], [6]), ([7, 10, 0, 1, 2, 3, 4, 5, 6, 7, 8, 9, 10], [7])])
def impl_Wash_days.B1 : List Nat := [0, 1, 3, 0, 8, 24, 0, 0, 7, 319, 895, 2047]
theorem impl_Wash_days.tab1 : rtab .any (opsOf Try.f53 1) = impl_Wash_days.T1 := by kernel_rfl
theorem impl_Wash_days.bits1 : waitsOk impl_Wash_days.T1.2 impl_Wash_days.B1 = true := by kernel_rfl
theorem idx_l0 (l : List Int) (x : Int) (hl : l.length ≤ 1048576) : ∀ (m i k : Nat), i + m = l.length → m < k → ∃ r : Int, slices_Index_int_int.l0 k l x (l.length : Int) (i : Int) = some r ∧ (0 ≤ r ↔ x ∈ l.drop i) := by
  intro m
  induction m with
  | zero =>
    intro i k hi hk
    obtain ⟨k, rfl⟩ : ∃ k', k = k' + 1 := ⟨k - 1, by omega⟩
    refine ⟨-1, ?_, ?_⟩
    · unfold slices_Index_int_int.l0
      rw [if_neg (by omega)]
    · rw [List.drop_eq_nil_of_le (by omega)]
      simp
  | succ m ih =>
    intro i k hi hk
    obtain ⟨k, rfl⟩ : ∃ k', k = k' + 1 := ⟨k - 1, by omega⟩
    have hlt : i < l.length := by omega
    have hd : l.drop i = rd l (i : Int) :: l.drop (i + 1) := by
      rw [List.drop_eq_getElem_cons hlt]
      congr 1
      rw [rd_nat, List.getD_eq_getElem?_getD, List.getElem?_eq_getElem hlt]
      rfl
    unfold slices_Index_int_int.l0
    rw [if_pos (by omega), if_pos (by omega), if_pos (by omega)]
    by_cases h : x = rd l (i : Int)
    · rw [if_pos h]
      exact ⟨_, rfl, by rw [hd, ← h]; simp⟩
    · rw [if_neg h, show wrap64 ((i : Int) + 1) = ((i + 1 : Nat) : Int) from by unfold wrap64; omega]
      obtain ⟨r, h1, h2⟩ := ih (i + 1) k (by omega) (by omega)
      refine ⟨r, h1, ?_⟩
      rw [h2, hd, List.mem_cons]
      exact ⟨.inr, fun h3 => h3.elim (fun h4 => absurd h4 h) id⟩
/-- slices.Contains. -/
theorem contains {w : World} {A : Option Addr} {c : Nat} {l : List Int} {x : Int} (hr : Kd.C (Kd.int .i64) w A l.length l) (hc : l.length ≤ c) (hl : l.length ≤ 1048576) :
    Calls Try.prog 66 #[.slice A l.length c, .int .i64 x] w fun e w' => e = .returned (.bool (l.contains x)) ∧ Drawn0 w w' := by
  obtain ⟨r, h1, h2⟩ := idx_l0 l x hl l.length 0 (l.length + 1) (by omega) (by omega)
  refine slices_Contains_int_int.calls (l.length + 1) A c l x (l.contains x) w hr hc ?_
  unfold slices_Contains_int_int.f slices_Index_int_int.f
  rw [show (0 : Int) = ((0 : Nat) : Int) from rfl, h1]
  rw [List.drop_zero] at h2
  show some (decide (r ≥ 0)) = _
  congr 1
  rw [Bool.eq_iff_iff, decide_eq_true_iff, List.contains_iff_mem]
  exact h2
/-- slices.Values: the slice is boxed. -/
theorem values {w : World} {A : Option Addr} {n c : Nat} :
    Calls Try.prog 68 #[.slice A n c] w fun e w' => ∃ gv, e = .returned (.func (.func 72) #[] #[.pointer (some ⟨gv, 0, none⟩)]) ∧ w'.heap[gv]? = some (.cells #[.slice A n c] 24 (0, 0)) ∧ Below w.heap.size w w' := by
  go_enter Try.func68, Try.ntmps68
  go_wp2
  go_ret
  exact ⟨w.heap.size, rfl, blk_new w _, below_alloc (Below.refl _ _) _⟩
theorem sim_len {P : Nat} {D : Int} {C L last back basket : List Int} {n : Nat} (h : Sim P D C L last back basket n) : basket.length ≤ P := by
  have h1 := congrArg List.length h.sorted
  rw [List.length_mergeSort] at h1
  rw [h1]
  exact fl_len _ _
/-- What is so on a day. -/
def dayOf (n : Nat) (E D : Int) (i : Nat) : S44 := ⟨dWorn n E D i, dClean n E D i, dBask n E D i, dWash n E D i⟩
def dl (n : Nat) (E D : Int) (m : Nat) : List S44 := (List.range m).map fun i => dayOf n E D i
theorem dl_succ (n : Nat) (E D : Int) (m : Nat) : dl n E D (m + 1) = dl n E D m ++ [dayOf n E D m] := by
  unfold dl
  rw [List.range_succ, List.map_append]
  rfl
theorem dl_len (n : Nat) (E D : Int) (m : Nat) : (dl n E D m).length = m := by unfold dl; simp
/-- The program's state between two days. -/
structure Dy (w wr : World) (gw gl gq cl ck n : Nat) (P E D : Int) (T : Nat → Prop) (L B : List Int) (vb vo : Value) (bs : List Int) (ds : List S44) : Prop where
  box : wr.heap[gw]? = some (.cells #[.int .i64 P, .int .i64 E, .int .i64 D] 27 (0, 0))
  rl : Kd.R (Kd.int .i64) 3 wr w.heap.size (fun k => k = gl) (.slice (some ⟨gl, 0, none⟩) n cl) L
  rk : Kd.R (Kd.int .i64) 3 wr w.heap.size (fun k => k = gq) (.slice (some ⟨gq, 0, none⟩) n ck) B
  lk : gl ≠ gq
  rb : Kd.R (Kd.int .i64) 3 wr w.heap.size (fun k => k ≠ gl ∧ k ≠ gq) vb bs
  ro : Kd.S k44 44 wr w.heap.size (fun k => (k ≠ gl ∧ k ≠ gq ∧ some k ≠ vb.ownBlock) ∧ T k) vo ds
  below : Below w.heap.size w wr
section
variable {w wr w1 : World} {gw gl gq cl ck n : Nat} {P E D : Int} {T : Nat → Prop} {L B bs : List Int} {vb vo : Value} {ds : List S44}
theorem Dy.ge_l (h : Dy w wr gw gl gq cl ck n P E D T L B vb vo bs ds) : w.heap.size ≤ gl := Kd.R_base h.rl gl rfl
theorem Dy.ge_k (h : Dy w wr gw gl gq cl ck n P E D T L B vb vo bs ds) : w.heap.size ≤ gq := Kd.R_base h.rk gq rfl
theorem Dy.lt_l (h : Dy w wr gw gl gq cl ck n P E D T L B vb vo bs ds) : gl < wr.heap.size := Kd.R_lt h.rl gl rfl
theorem Dy.lt_k (h : Dy w wr gw gl gq cl ck n P E D T L B vb vo bs ds) : gq < wr.heap.size := Kd.R_lt h.rk gq rfl
theorem Dy.ne_l (h : Dy w wr gw gl gq cl ck n P E D T L B vb vo bs ds) : gw ≠ gl := fun e => Kd.R_ne h.rl h.box (by decide) (by rw [e]; rfl)
theorem Dy.ne_k (h : Dy w wr gw gl gq cl ck n P E D T L B vb vo bs ds) : gw ≠ gq := fun e => Kd.R_ne h.rk h.box (by decide) (by rw [e]; rfl)
theorem Dy.new (h : Dy w wr gw gl gq cl ck n P E D T L B vb vo bs ds) (hb : Below wr.heap.size wr w1) : Dy w w1 gw gl gq cl ck n P E D T L B vb vo bs ds :=
  ⟨blk_below h.box hb, Kd.R_below h.rl hb, Kd.R_below h.rk hb, h.lk, Kd.R_below h.rb hb, Kd.S_below h.ro hb, h.below.trans (hb.mono h.below.size)⟩
theorem Dy.setL (h : Dy w wr gw gl gq cl ck n P E D T L B vb vo bs ds) (i : Nat) (x : Int) : Dy w (wr.setCell ⟨gl, i, none⟩ (.int .i64 x)) gw gl gq cl ck n P E D T (L.set i x) B vb vo bs ds :=
  ⟨(Below.heap_setCell wr ⟨gl, i, none⟩ _ gw h.ne_l).trans h.box, by have := Kd.R_putn h.rl (i : Int) x; rwa [Int.toNat_natCast] at this,
   Kd.R_far (p := ⟨gl, i, none⟩) h.rk (fun k hk e => h.lk (by have e2 : k = gl := e; rw [← e2, hk])) _, h.lk, Kd.R_far (p := ⟨gl, i, none⟩) h.rb (fun k hk => hk.1) _, Kd.S_far (p := ⟨gl, i, none⟩) h.ro (fun k hk => hk.1.1) _, below_set h.below h.ge_l⟩
theorem Dy.setK (h : Dy w wr gw gl gq cl ck n P E D T L B vb vo bs ds) (i : Nat) (x : Int) : Dy w (wr.setCell ⟨gq, i, none⟩ (.int .i64 x)) gw gl gq cl ck n P E D T L (B.set i x) vb vo bs ds :=
  ⟨(Below.heap_setCell wr ⟨gq, i, none⟩ _ gw h.ne_k).trans h.box, Kd.R_far (p := ⟨gq, i, none⟩) h.rl (fun k hk e => h.lk (by have e2 : k = gq := e; rw [← e2, hk])) _,
   by have := Kd.R_putn h.rk (i : Int) x; rwa [Int.toNat_natCast] at this, h.lk, Kd.R_far (p := ⟨gq, i, none⟩) h.rb (fun k hk => hk.2) _, Kd.S_far (p := ⟨gq, i, none⟩) h.ro (fun k hk => hk.1.2.1) _, below_set h.below h.ge_k⟩
theorem Dy.setD (h : Dy w wr gw gl gq cl ck n P E D T L B vb vo bs ds) {g : Nat} {cells : Array Value} (hg : wr.heap[g]? = some (.cells cells 44 (0, 0))) (hT : ∀ k, T k → k ≠ g) (hw : w.heap.size ≤ g) (i : Nat) (x : Value) : Dy w (wr.setCell ⟨g, i, none⟩ x) gw gl gq cl ck n P E D T L B vb vo bs ds :=
  ⟨(Below.heap_setCell wr ⟨g, i, none⟩ _ gw (blk_ne h.box hg (by decide))).trans h.box, Kd.R_set h.rl hg (by simp [Kd.int, Kd.scalar]) i x, Kd.R_set h.rk hg (by simp [Kd.int, Kd.scalar]) i x, h.lk, Kd.R_set h.rb hg (by simp [Kd.int, Kd.scalar]) i x,
   Kd.S_far (p := ⟨g, i, none⟩) h.ro (fun k hk => hT k hk.2) _, below_set h.below hw⟩
theorem Dy.putB (h : Dy w wr gw gl gq cl ck n P E D T L B vb vo bs ds) {v1 : Value} {bs1 : List Int} (hg : wr.grownBy w1 vb.ownBlock) (hat : v1.ownBlock = vb.ownBlock ∨ ∃ b, v1.ownBlock = some b ∧ wr.heap.size ≤ b) (ho : Kd.R (Kd.int .i64) 3 w1 w.heap.size (fun k => k ≠ gl ∧ k ≠ gq) v1 bs1) (hb : Below w.heap.size w w1) :
    Dy w w1 gw gl gq cl ck n P E D T L B v1 vo bs1 ds :=
  ⟨blk_grown h.box hg (Kd.R_ne h.rb h.box (by decide)), Kd.R_grown h.rl hg (fun k hk e => (h.rb.1 k e.symm).1 hk), Kd.R_grown h.rk hg (fun k hk e => (h.rb.1 k e.symm).2 hk), h.lk, ho,
   Kd.S_mono (Kd.S_after (ok := fun k => (k ≠ gl ∧ k ≠ gq) ∧ T k) (Kd.S_mono h.ro (fun k hk => ⟨⟨⟨hk.1.1, hk.1.2.1⟩, hk.2⟩, hk.1.2.2⟩)) hg hat) (fun k hk => ⟨⟨hk.1.1.1, hk.1.1.2, hk.2⟩, hk.1.2⟩), hb⟩
theorem Dy.putO (h : Dy w wr gw gl gq cl ck n P E D T L B vb vo bs ds) {v1 : Value} {ds1 : List S44} (hg : wr.grownBy w1 vo.ownBlock) (ho : Kd.S k44 44 w1 w.heap.size (fun k => k ≠ gl ∧ k ≠ gq ∧ some k ≠ vb.ownBlock) v1 ds1) (hb : Below w.heap.size w w1) :
    Dy w w1 gw gl gq cl ck n P E D (fun _ => True) L B vb v1 bs ds1 :=
  have h1 := (Kd.S_R h.ro).1
  ⟨blk_grown h.box hg (Kd.R_ne (Kd.S_R h.ro) h.box (by decide)), Kd.R_grown h.rl hg (fun k hk e => (h1 k e.symm).1.1 hk), Kd.R_grown h.rk hg (fun k hk e => (h1 k e.symm).1.2.1 hk), h.lk,
   Kd.R_mono (Kd.R_grown (Kd.R_flat (ok' := fun k => (k ≠ gl ∧ k ≠ gq) ∧ some k ≠ vo.ownBlock) (fun h => h) h.rb (fun k hk h2 => ⟨h2, fun e => (h1 k e.symm).1.2.2 hk.symm⟩)) hg (fun _ hk => hk.2)) (fun _ hk => hk.1),
   Kd.S_mono ho (fun k hk => ⟨hk, trivial⟩), hb⟩
theorem Dy.nob (h : Dy w wr gw gl gq cl ck n P E D T L B vb vo bs ds) : Dy w wr gw gl gq cl ck n P E D T L B (.slice none 0 0) vo [] ds :=
  ⟨h.box, h.rl, h.rk, h.lk, Kd.R_nil _ _ _ _ _, Kd.S_mono h.ro (fun k hk => ⟨⟨hk.1.1, hk.1.2.1, by simp [Value.ownBlock]⟩, hk.2⟩), h.below⟩
/-- From here on all that is out's lies below. -/
theorem Dy.top (h : Dy w wr gw gl gq cl ck n P E D T L B vb vo bs ds) : Dy w wr gw gl gq cl ck n P E D (fun k => k < wr.heap.size) L B vb vo bs ds :=
  ⟨h.box, h.rl, h.rk, h.lk, h.rb, Kd.S_mono (Kd.S_bound h.ro) (fun _ hk => ⟨hk.1.1, hk.2.2.1⟩), h.below⟩
end
def lk1 (n : Nat) : Nat → List Int
  | 0 => List.replicate n 0
  | k + 1 => (lk1 n k).set k (-1)
theorem lk1_len (n : Nat) : ∀ k, (lk1 n k).length = n := by
  intro k
  induction k with
  | zero => simp [lk1]
  | succ k ih => unfold lk1; rw [List.length_set, ih]
theorem lk1_get (n : Nat) : ∀ k, k ≤ n → ∀ j, j < n → (lk1 n k)[j]? = some (if j < k then (-1 : Int) else 0) := by
  intro k
  induction k with
  | zero => intro _ j hj; simp [lk1, List.getElem?_replicate, hj]
  | succ k ih =>
    intro hk j hj
    unfold lk1
    rw [List.getElem?_set]
    by_cases h : k = j
    · subst h
      rw [if_pos rfl, if_pos (by rw [lk1_len]; exact hj), if_pos (by omega)]
    · rw [if_neg h, ih (by omega) j hj]
      congr 1
      by_cases h2 : j < k
      · rw [if_pos h2, if_pos (by omega)]
      · rw [if_neg h2, if_neg (by omega)]
theorem lk1_all (n : Nat) : lk1 n n = List.replicate n (-1) := by
  apply List.ext_getElem?
  intro j
  by_cases hj : j < n
  · rw [lk1_get n n (Nat.le_refl _) j hj, if_pos hj, List.getElem?_replicate, if_pos hj]
  · rw [List.getElem?_eq_none (by rw [lk1_len]; omega), List.getElem?_eq_none (by simp; omega)]
set_option maxHeartbeats 16000000 in
set_option maxRecDepth 100000 in
theorem days {w : World} {a0_0 a0_1 a0_2 a1 : Int} {n m : Nat} (hG : WashOk a0_0 a0_1 a0_2 n) (hm : a1 = (m : Int)) (hm2 : m ≤ 600) :
    Calls Try.prog 53 #[.agg #[.int .i64 a0_0, .int .i64 a0_1, .int .i64 a0_2], .int .i64 a1] w fun e w' => ∃ v0_ : Value, e = .returned (v0_) ∧ Kd.S k44 44 w' w.heap.size (fun _ => True) v0_ (dl n a0_1 a0_2 m) ∧ Below w.heap.size w w' := by
  have HGD := Aside0.mk hG
  have HMB := Aside0.mk hm2
  have HMM := Aside0.mk hm
  have hu27 := Try.underlying27
  have hu44 := Try.underlying44
  have HB := Aside0.mk (Below.refl w.heap.size w)
  have c3b0 : (0 ≤ a0_0) = True := eq_true (by rw [hG.p]; omega)
  have c3b1 : decide (0 ≤ a0_0) = true := decide_eq_true (of_eq_true c3b0)
  have c4b0 : ((a0_0 : Int).toNat ≤ 35184372088832) = True := eq_true (by have := hG.n2; rw [hG.p]; omega)
  have c4b1 : decide ((a0_0 : Int).toNat ≤ 35184372088832) = true := decide_eq_true (of_eq_true c4b0)
  clear hG hm hm2
  obtain ⟨y102, hy102⟩ : ∃ y_ : List Int, y_ = (List.replicate (a0_0 : Int).toNat 0) := ⟨_, rfl⟩
  have Ny102 := Aside0.mk hy102
  clear hy102
  obtain ⟨y105, hy105⟩ : ∃ y_ : List Int, y_ = (List.replicate (a0_0 : Int).toNat 0) := ⟨_, rfl⟩
  have Ny105 := Aside0.mk hy105
  clear hy105
  obtain ⟨y108, hy108⟩ : ∃ y_ : List Int, y_ = (([] : List Int)) := ⟨_, rfl⟩
  have Ny108 := Aside0.mk hy108
  clear hy108
  obtain ⟨y111, hy111⟩ : ∃ y_ : List (S44), y_ = (([] : List (S44))) := ⟨_, rfl⟩
  have Ny111 := Aside0.mk hy111
  clear hy111
  go_enter Try.func53, Try.ntmps53
  try go_wp2_with (first | ((with_reducible refine gate_dst (N := 2) rfl ?_); refine box_event ?hg (N := 2) ?hd (cs := #[.int .i64 a0_0, .int .i64 a0_1, .int .i64 a0_2]) (t := 27) ?hr ?_; (case hd => rfl); (case hg => rfl); (case hr => first | (go_simp; done) | (go_simp; rfl)); intro gb101 hg w5 hbox hb; have n0_ := Aside0.mk (below_step (by repeat (first | (with_reducible first | exact HB.out | apply below_alloc | apply pw_below_drewN | apply below_drew1) | exact HB.out)) hb); have n1_ := Aside0.mk (hbox); have n2_ := Aside0.mk ((by rw [hg]; exact (below_size (by repeat (first | (with_reducible first | exact HB.out | apply below_alloc | apply pw_below_drewN | apply below_drew1) | exact HB.out))) : w.heap.size ≤ gb101)); have n3_ := Aside0.mk ((by rw [hg]; exact (below_size (by repeat (first | (with_reducible first | exact HB.out | apply below_alloc | apply pw_below_drewN | apply below_drew1) | exact HB.out))) : w.heap.size ≤ gb101)); clear HB; have HB := n0_; have BK101 := n1_; have GW101 := n2_; have GE101 := n3_; clear n0_ n1_ n2_ n3_; clear hb hbox hg))
  have n0_ := Aside0.mk (blk_drew BK101.out)
  have n1_ := Aside0.mk (below_drew1 HB.out)
  clear BK101
  clear HB
  have BK101 := n0_
  have HB := n1_
  clear n0_ n1_
  refine start_ (n := 12) (S := fun w' => w'.cell? ⟨gb101, 0, none⟩ = some (.int .i64 a0_0) ∧ w'.cell? ⟨gb101, 1, none⟩ = some (.int .i64 a0_1) ∧ w'.cell? ⟨gb101, 2, none⟩ = some (.int .i64 a0_2)) (ds := []) #[false, false, false, false, false, false, false, false, false, false, false, false] (by kernel_rfl) rfl rfl ⟨(blk_cell BK101.out 0).trans rfl, (blk_cell BK101.out 1).trans rfl, (blk_cell BK101.out 2).trans rfl⟩ (fun hHeld => ?_); refine with_tabW impl_Wash_days.tab1 impl_Wash_days.bits1 (fun HT_ HW_ => ?_)
  generalize w5.drew = w6 at BK101 HB hHeld ⊢
  refine pure_ (i := 0) (N := some 15) (v := ?_) (a' := ?_) #[true, false, false, false, false, false, false, false, false, false, false, false] rfl rfl (any_of HT_.out (by kernel_rfl)) (fun _ _ _ h => h) (Or.inl ⟨by rfl, ?_⟩) ?_ ?_
  rotate_left
  · intro w'
    go_simp
    with_reducible rfl
  rotate_left
  · simp only [Act.put, List.setIfInBounds_toArray, List.set_cons_zero, List.set_cons_succ, i64_w, i32_w]
    rfl
  refine pure_ (i := 3) (N := some 18) (v := ?_) (a' := ?_) #[true, false, false, true, false, false, false, false, false, false, false, false] rfl rfl (any_of HT_.out (by kernel_rfl)) (fun _ _ _ h => h) (Or.inl ⟨by rfl, ?_⟩) ?_ ?_
  rotate_left
  · intro w'
    go_simp
    with_reducible rfl
  rotate_left
  · simp only [Act.put, List.setIfInBounds_toArray, List.set_cons_zero, List.set_cons_succ, i64_w, i32_w]
    rfl
  refine take_ (i := 1) (N := some 16) (v := ?_) (a' := ?_) #[true, true, false, true, false, false, false, false, false, false, false, false] rfl rfl (take_ofW HT_.out HW_.out (by kernel_rfl)) (fun _ _ _ h => h) (Or.inl ⟨by rfl, ?_⟩) hHeld ?_ ?_
  rotate_left
  · rintro w' ⟨s0, s1, s2⟩
    go_simp
    with_reducible rfl
  rotate_left
  · simp only [Act.put, List.setIfInBounds_toArray, List.set_cons_zero, List.set_cons_succ, i64_w, i32_w]
    rfl
  refine take_ (i := 4) (N := some 19) (v := ?_) (a' := ?_) #[true, true, false, true, true, false, false, false, false, false, false, false] rfl rfl (take_ofW HT_.out HW_.out (by kernel_rfl)) (fun _ _ _ h => h) (Or.inl ⟨by rfl, ?_⟩) hHeld ?_ ?_
  rotate_left
  · rintro w' ⟨s0, s1, s2⟩
    go_simp
    with_reducible rfl
  rotate_left
  · simp only [Act.put, List.setIfInBounds_toArray, List.set_cons_zero, List.set_cons_succ, i64_w, i32_w]
    rfl
  refine join_ (σ := Value × Value × Value × Value) 1 #[true, true, true, true, true, true, true, true, true, true, true, false] (fun s_ => [(17, s_.1), (20, s_.2.1), (21, s_.2.2.1), (22, s_.2.2.2), (5, s_.1), (6, s_.2.1), (7, s_.2.2.1)]) (fun s_ w' => (w'.cell? ⟨gb101, 0, none⟩ = some (.int .i64 a0_0) ∧ w'.cell? ⟨gb101, 1, none⟩ = some (.int .i64 a0_1) ∧ w'.cell? ⟨gb101, 2, none⟩ = some (.int .i64 a0_2)) ∧ (Kd.R (Kd.int .i64) 3 w' w.heap.size (fun k_ => some k_ ≠ (s_.2.1 : Value).ownBlock ∧ some k_ ≠ (s_.2.2.1 : Value).ownBlock) s_.1 y102) ∧ (Kd.R (Kd.int .i64) 3 w' w.heap.size (fun k_ => some k_ ≠ (s_.1 : Value).ownBlock ∧ some k_ ≠ (s_.2.2.1 : Value).ownBlock) s_.2.1 y105) ∧ (Kd.R (Kd.int .i64) 3 w' w.heap.size (fun k_ => some k_ ≠ (s_.1 : Value).ownBlock ∧ some k_ ≠ (s_.2.1 : Value).ownBlock) s_.2.2.1 y108) ∧ (Kd.S k44 44 w' w.heap.size (fun k_ => some k_ ≠ (s_.1 : Value).ownBlock ∧ some k_ ≠ (s_.2.1 : Value).ownBlock ∧ some k_ ≠ (s_.2.2.1 : Value).ownBlock) s_.2.2.2 y111) ∧ (w'.heap[gb101]? = some (.cells #[.int .i64 a0_0, .int .i64 a0_1, .int .i64 a0_2] 27 (0, 0))) ∧ (Below w.heap.size w w')) ?_ ?_
  rotate_left
  · intro hJ2_5_6_7
    refine join_ (σ := Value × Value × Value) 2 #[true, true, true, true, true, true, true, false, true, true, true, false] (fun s_ => [(17, s_.1), (20, s_.2.1), (21, s_.2.2), (5, s_.1), (6, s_.2.1), (7, s_.2.2)]) (fun s_ w' => (w'.cell? ⟨gb101, 0, none⟩ = some (.int .i64 a0_0) ∧ w'.cell? ⟨gb101, 1, none⟩ = some (.int .i64 a0_1) ∧ w'.cell? ⟨gb101, 2, none⟩ = some (.int .i64 a0_2)) ∧ (Kd.R (Kd.int .i64) 3 w' w.heap.size (fun k_ => some k_ ≠ (s_.2.1 : Value).ownBlock ∧ some k_ ≠ (s_.2.2 : Value).ownBlock) s_.1 y102) ∧ (Kd.R (Kd.int .i64) 3 w' w.heap.size (fun k_ => some k_ ≠ (s_.1 : Value).ownBlock ∧ some k_ ≠ (s_.2.2 : Value).ownBlock) s_.2.1 y105) ∧ (Kd.R (Kd.int .i64) 3 w' w.heap.size (fun k_ => some k_ ≠ (s_.1 : Value).ownBlock ∧ some k_ ≠ (s_.2.1 : Value).ownBlock) s_.2.2 y108) ∧ (w'.heap[gb101]? = some (.cells #[.int .i64 a0_0, .int .i64 a0_1, .int .i64 a0_2] 27 (0, 0))) ∧ (Below w.heap.size w w')) ?_ ?_
    rotate_left
    · intro hJ2_5_6
      refine join_ (σ := Value × Value × Value) 3 #[true, true, true, true, true, true, false, true, true, true, false, false] (fun s_ => [(17, s_.1), (20, s_.2.1), (22, s_.2.2), (5, s_.1), (6, s_.2.1)]) (fun s_ w' => (w'.cell? ⟨gb101, 0, none⟩ = some (.int .i64 a0_0) ∧ w'.cell? ⟨gb101, 1, none⟩ = some (.int .i64 a0_1) ∧ w'.cell? ⟨gb101, 2, none⟩ = some (.int .i64 a0_2)) ∧ (Kd.R (Kd.int .i64) 3 w' w.heap.size (fun k_ => some k_ ≠ (s_.2.1 : Value).ownBlock) s_.1 y102) ∧ (Kd.R (Kd.int .i64) 3 w' w.heap.size (fun k_ => some k_ ≠ (s_.1 : Value).ownBlock) s_.2.1 y105) ∧ (Kd.S k44 44 w' w.heap.size (fun k_ => some k_ ≠ (s_.1 : Value).ownBlock ∧ some k_ ≠ (s_.2.1 : Value).ownBlock) s_.2.2 y111) ∧ (w'.heap[gb101]? = some (.cells #[.int .i64 a0_0, .int .i64 a0_1, .int .i64 a0_2] 27 (0, 0))) ∧ (Below w.heap.size w w')) ?_ ?_
      rotate_left
      · intro hJ2_5_7
        refine join_ (σ := Value × Value × Value) 4 #[true, true, true, true, true, false, true, true, true, false, false, false] (fun s_ => [(17, s_.1), (21, s_.2.1), (22, s_.2.2), (5, s_.1)]) (fun s_ w' => (w'.cell? ⟨gb101, 0, none⟩ = some (.int .i64 a0_0) ∧ w'.cell? ⟨gb101, 1, none⟩ = some (.int .i64 a0_1) ∧ w'.cell? ⟨gb101, 2, none⟩ = some (.int .i64 a0_2)) ∧ (Kd.R (Kd.int .i64) 3 w' w.heap.size (fun k_ => some k_ ≠ (s_.2.1 : Value).ownBlock) s_.1 y102) ∧ (Kd.R (Kd.int .i64) 3 w' w.heap.size (fun k_ => some k_ ≠ (s_.1 : Value).ownBlock) s_.2.1 y108) ∧ (Kd.S k44 44 w' w.heap.size (fun k_ => some k_ ≠ (s_.1 : Value).ownBlock ∧ some k_ ≠ (s_.2.1 : Value).ownBlock) s_.2.2 y111) ∧ (w'.heap[gb101]? = some (.cells #[.int .i64 a0_0, .int .i64 a0_1, .int .i64 a0_2] 27 (0, 0))) ∧ (Below w.heap.size w w')) ?_ ?_
        rotate_left
        · intro hJ2_6_7
          refine join_ (σ := Value × Value × Value) 5 #[true, true, false, true, true, true, true, true, false, false, false, false] (fun s_ => [(20, s_.1), (21, s_.2.1), (22, s_.2.2)]) (fun s_ w' => (w'.cell? ⟨gb101, 0, none⟩ = some (.int .i64 a0_0) ∧ w'.cell? ⟨gb101, 1, none⟩ = some (.int .i64 a0_1) ∧ w'.cell? ⟨gb101, 2, none⟩ = some (.int .i64 a0_2)) ∧ (Kd.R (Kd.int .i64) 3 w' w.heap.size (fun k_ => some k_ ≠ (s_.2.1 : Value).ownBlock) s_.1 y105) ∧ (Kd.R (Kd.int .i64) 3 w' w.heap.size (fun k_ => some k_ ≠ (s_.1 : Value).ownBlock) s_.2.1 y108) ∧ (Kd.S k44 44 w' w.heap.size (fun k_ => some k_ ≠ (s_.1 : Value).ownBlock ∧ some k_ ≠ (s_.2.1 : Value).ownBlock) s_.2.2 y111) ∧ (w'.heap[gb101]? = some (.cells #[.int .i64 a0_0, .int .i64 a0_1, .int .i64 a0_2] 27 (0, 0))) ∧ (Below w.heap.size w w')) ?_ ?_
          rotate_left
          · intro hJ5_6_7
            refine join_ (σ := Value × Value) 4 #[true, true, true, true, true, true, false, false, true, true, false, false] (fun s_ => [(17, s_.1), (20, s_.2), (5, s_.1), (6, s_.2)]) (fun s_ w' => (w'.cell? ⟨gb101, 0, none⟩ = some (.int .i64 a0_0) ∧ w'.cell? ⟨gb101, 1, none⟩ = some (.int .i64 a0_1) ∧ w'.cell? ⟨gb101, 2, none⟩ = some (.int .i64 a0_2)) ∧ (Kd.R (Kd.int .i64) 3 w' w.heap.size (fun k_ => some k_ ≠ (s_.2 : Value).ownBlock) s_.1 y102) ∧ (Kd.R (Kd.int .i64) 3 w' w.heap.size (fun k_ => some k_ ≠ (s_.1 : Value).ownBlock) s_.2 y105) ∧ (w'.heap[gb101]? = some (.cells #[.int .i64 a0_0, .int .i64 a0_1, .int .i64 a0_2] 27 (0, 0))) ∧ (Below w.heap.size w w')) ?_ ?_
            rotate_left
            · intro hJ2_5
              refine join_ (σ := Value × Value) 5 #[true, true, true, true, true, false, true, false, true, false, false, false] (fun s_ => [(17, s_.1), (21, s_.2), (5, s_.1)]) (fun s_ w' => (w'.cell? ⟨gb101, 0, none⟩ = some (.int .i64 a0_0) ∧ w'.cell? ⟨gb101, 1, none⟩ = some (.int .i64 a0_1) ∧ w'.cell? ⟨gb101, 2, none⟩ = some (.int .i64 a0_2)) ∧ (Kd.R (Kd.int .i64) 3 w' w.heap.size (fun k_ => some k_ ≠ (s_.2 : Value).ownBlock) s_.1 y102) ∧ (Kd.R (Kd.int .i64) 3 w' w.heap.size (fun k_ => some k_ ≠ (s_.1 : Value).ownBlock) s_.2 y108) ∧ (w'.heap[gb101]? = some (.cells #[.int .i64 a0_0, .int .i64 a0_1, .int .i64 a0_2] 27 (0, 0))) ∧ (Below w.heap.size w w')) ?_ ?_
              rotate_left
              · intro hJ2_6
                refine join_ (σ := Value × Value) 5 #[true, true, true, true, true, false, false, true, true, false, false, false] (fun s_ => [(17, s_.1), (22, s_.2), (5, s_.1)]) (fun s_ w' => (w'.cell? ⟨gb101, 0, none⟩ = some (.int .i64 a0_0) ∧ w'.cell? ⟨gb101, 1, none⟩ = some (.int .i64 a0_1) ∧ w'.cell? ⟨gb101, 2, none⟩ = some (.int .i64 a0_2)) ∧ (Kd.R (Kd.int .i64) 3 w' w.heap.size (fun _ => True) s_.1 y102) ∧ (Kd.S k44 44 w' w.heap.size (fun k_ => some k_ ≠ (s_.1 : Value).ownBlock) s_.2 y111) ∧ (w'.heap[gb101]? = some (.cells #[.int .i64 a0_0, .int .i64 a0_1, .int .i64 a0_2] 27 (0, 0))) ∧ (Below w.heap.size w w')) ?_ ?_
                rotate_left
                · intro hJ2_7
                  refine join_ (σ := Value × Value) 6 #[true, true, false, true, true, true, true, false, false, false, false, false] (fun s_ => [(20, s_.1), (21, s_.2)]) (fun s_ w' => (w'.cell? ⟨gb101, 0, none⟩ = some (.int .i64 a0_0) ∧ w'.cell? ⟨gb101, 1, none⟩ = some (.int .i64 a0_1) ∧ w'.cell? ⟨gb101, 2, none⟩ = some (.int .i64 a0_2)) ∧ (Kd.R (Kd.int .i64) 3 w' w.heap.size (fun k_ => some k_ ≠ (s_.2 : Value).ownBlock) s_.1 y105) ∧ (Kd.R (Kd.int .i64) 3 w' w.heap.size (fun k_ => some k_ ≠ (s_.1 : Value).ownBlock) s_.2 y108) ∧ (w'.heap[gb101]? = some (.cells #[.int .i64 a0_0, .int .i64 a0_1, .int .i64 a0_2] 27 (0, 0))) ∧ (Below w.heap.size w w')) ?_ ?_
                  rotate_left
                  · intro hJ5_6
                    refine join_ (σ := Value × Value) 6 #[true, true, false, true, true, true, false, true, false, false, false, false] (fun s_ => [(20, s_.1), (22, s_.2)]) (fun s_ w' => (w'.cell? ⟨gb101, 0, none⟩ = some (.int .i64 a0_0) ∧ w'.cell? ⟨gb101, 1, none⟩ = some (.int .i64 a0_1) ∧ w'.cell? ⟨gb101, 2, none⟩ = some (.int .i64 a0_2)) ∧ (Kd.R (Kd.int .i64) 3 w' w.heap.size (fun _ => True) s_.1 y105) ∧ (Kd.S k44 44 w' w.heap.size (fun k_ => some k_ ≠ (s_.1 : Value).ownBlock) s_.2 y111) ∧ (w'.heap[gb101]? = some (.cells #[.int .i64 a0_0, .int .i64 a0_1, .int .i64 a0_2] 27 (0, 0))) ∧ (Below w.heap.size w w')) ?_ ?_
                    rotate_left
                    · intro hJ5_7
                      refine join_ (σ := Value × Value) 6 #[true, true, false, true, true, false, true, true, false, false, false, false] (fun s_ => [(21, s_.1), (22, s_.2)]) (fun s_ w' => (w'.cell? ⟨gb101, 0, none⟩ = some (.int .i64 a0_0) ∧ w'.cell? ⟨gb101, 1, none⟩ = some (.int .i64 a0_1) ∧ w'.cell? ⟨gb101, 2, none⟩ = some (.int .i64 a0_2)) ∧ (Kd.R (Kd.int .i64) 3 w' w.heap.size (fun _ => True) s_.1 y108) ∧ (Kd.S k44 44 w' w.heap.size (fun k_ => some k_ ≠ (s_.1 : Value).ownBlock) s_.2 y111) ∧ (w'.heap[gb101]? = some (.cells #[.int .i64 a0_0, .int .i64 a0_1, .int .i64 a0_2] 27 (0, 0))) ∧ (Below w.heap.size w w')) ?_ ?_
                      rotate_left
                      · intro hJ6_7
                        refine join_ (σ := Value) 6 #[true, true, true, true, true, false, false, false, true, false, false, false] (fun s_ => [(17, s_), (5, s_)]) (fun s_ w' => (w'.cell? ⟨gb101, 0, none⟩ = some (.int .i64 a0_0) ∧ w'.cell? ⟨gb101, 1, none⟩ = some (.int .i64 a0_1) ∧ w'.cell? ⟨gb101, 2, none⟩ = some (.int .i64 a0_2)) ∧ (Kd.R (Kd.int .i64) 3 w' w.heap.size (fun _ => True) s_ y102) ∧ (w'.heap[gb101]? = some (.cells #[.int .i64 a0_0, .int .i64 a0_1, .int .i64 a0_2] 27 (0, 0))) ∧ (Below w.heap.size w w')) ?_ ?_
                        rotate_left
                        · intro hJ2
                          refine join_ (σ := Value) 7 #[true, true, false, true, true, true, false, false, false, false, false, false] (fun s_ => [(20, s_)]) (fun s_ w' => (w'.cell? ⟨gb101, 0, none⟩ = some (.int .i64 a0_0) ∧ w'.cell? ⟨gb101, 1, none⟩ = some (.int .i64 a0_1) ∧ w'.cell? ⟨gb101, 2, none⟩ = some (.int .i64 a0_2)) ∧ (Kd.R (Kd.int .i64) 3 w' w.heap.size (fun _ => True) s_ y105) ∧ (w'.heap[gb101]? = some (.cells #[.int .i64 a0_0, .int .i64 a0_1, .int .i64 a0_2] 27 (0, 0))) ∧ (Below w.heap.size w w')) ?_ ?_
                          rotate_left
                          · intro hJ5
                            refine join_ (σ := Value) 7 #[true, true, false, true, true, false, true, false, false, false, false, false] (fun s_ => [(21, s_)]) (fun s_ w' => (w'.cell? ⟨gb101, 0, none⟩ = some (.int .i64 a0_0) ∧ w'.cell? ⟨gb101, 1, none⟩ = some (.int .i64 a0_1) ∧ w'.cell? ⟨gb101, 2, none⟩ = some (.int .i64 a0_2)) ∧ (Kd.R (Kd.int .i64) 3 w' w.heap.size (fun _ => True) s_ y108) ∧ (w'.heap[gb101]? = some (.cells #[.int .i64 a0_0, .int .i64 a0_1, .int .i64 a0_2] 27 (0, 0))) ∧ (Below w.heap.size w w')) ?_ ?_
                            rotate_left
                            · intro hJ6
                              refine join_ (σ := Value) 7 #[true, true, false, true, true, false, false, true, false, false, false, false] (fun s_ => [(22, s_)]) (fun s_ w' => (w'.cell? ⟨gb101, 0, none⟩ = some (.int .i64 a0_0) ∧ w'.cell? ⟨gb101, 1, none⟩ = some (.int .i64 a0_1) ∧ w'.cell? ⟨gb101, 2, none⟩ = some (.int .i64 a0_2)) ∧ (Kd.S k44 44 w' w.heap.size (fun _ => True) s_ y111) ∧ (w'.heap[gb101]? = some (.cells #[.int .i64 a0_0, .int .i64 a0_1, .int .i64 a0_2] 27 (0, 0))) ∧ (Below w.heap.size w w')) ?_ ?_
                              rotate_left
                              · intro hJ7
                                refine four_ (i := 2) (j := 5) (k := 6) (m := 7) (Ni := some 17) (Nj := some 20) (Nk := some 21) (Nm := some 22) #[true, true, true, true, true, false, false, false, false, false, false, false] #[true, true, false, true, true, true, false, false, false, false, false, false] #[true, true, false, true, true, false, true, false, false, false, false, false] #[true, true, false, true, true, false, false, true, false, false, false, false] rfl rfl rfl rfl rfl rfl rfl rfl (four_of HT_.out (by kernel_rfl)) (by decide) (by decide) (by decide) (by decide) (fun K hK => ?_) (fun K hK => ?_) (fun K hK => ?_) (fun K hK => ?_)
                                · skip
                                  refine Kd.R_make_step (Kd.int .i64) _ 3 (by rfl) (N := 17) rfl 24 _ _ rfl a0_0 rfl rfl Try.underlying24 (.int .i64 0) 8 info3 rfl (by decide) (by omega) 0 (ok := fun _ => True) (okp := fun _ => True) rfl (fun _ hk => hk) trivial (of_decide_eq_true (by first | (with_reducible assumption) | assumption)) (Nat.le_trans (Nat.mul_le_mul_right _ (of_decide_eq_true (by first | (with_reducible assumption) | assumption) : a0_0.toNat ≤ 35184372088832)) (by omega)) (Below.refl _ _) (Nat.le_refl _) ?_
                                  intro v103 w7 ho8 hb hg_ hnew_
                                  clear hg_ hnew_
                                  (first | rw [← Ny102.out] at ho8 | (simp only [Int.reduceToNat] at ho8; rw [← Ny102.out] at ho8))
                                  have n0_ := Aside0.mk (Kd.R_lower ho8 (below_size (by repeat (first | (with_reducible first | exact HB.out | apply below_alloc | apply pw_below_drewN | apply below_drew1 | refine below_set ?_ GE101.out) | exact HB.out))))
                                  have n1_ := Aside0.mk (blk_below (g := gb101) (o := .cells #[.int .i64 a0_0, .int .i64 a0_1, .int .i64 a0_2] 27 (0, 0)) (by (with_reducible repeat (first | refine blk_drewN ?_ _ | refine blk_drew ?_ | refine blk_alloc ?_ _)); exact BK101.out) hb)
                                  have n2_ := Aside0.mk (below_step (by repeat (first | (with_reducible first | exact HB.out | apply below_alloc | apply pw_below_drewN | apply below_drew1 | refine below_set ?_ GE101.out) | exact HB.out)) hb)
                                  clear BK101
                                  clear HB
                                  have HO104 := n0_
                                  have BK101 := n1_
                                  have HB := n2_
                                  clear n0_ n1_ n2_
                                  clear hb ho8
                                  refine hK.out _ _ ⟨(blk_cell BK101.out 0).trans rfl, (blk_cell BK101.out 1).trans rfl, (blk_cell BK101.out 2).trans rfl⟩ (fun hHeld => ?_)
                                  clear hK K
                                  refine norm_ (a' := ?_) ?_ ?_
                                  rotate_left
                                  · show Act.put _ (some 17) _ = _
                                    simp only [Act.put, List.setIfInBounds_toArray, List.set_cons_zero, List.set_cons_succ, i64_w, i32_w]
                                    rfl
                                  refine pure_ (i := 8) (N := some 5) (v := ?_) (a' := ?_) #[true, true, true, true, true, false, false, false, true, false, false, false] rfl rfl (any_of HT_.out (by kernel_rfl)) (fun _ _ _ h => h) (Or.inl ⟨by rfl, ?_⟩) ?_ ?_
                                  rotate_left
                                  · intro w'
                                    go_simp
                                    with_reducible rfl
                                  rotate_left
                                  · simp only [Act.put, List.setIfInBounds_toArray, List.set_cons_zero, List.set_cons_succ, i64_w, i32_w]
                                    rfl
                                  exact norm_ (by first | (simp only [putAll, Act.put, List.setIfInBounds_toArray, List.set_cons_zero, List.set_cons_succ]; done) | (simp only [putAll, Act.put, List.setIfInBounds_toArray, List.set_cons_zero, List.set_cons_succ]; rfl)) (hJ2 (v103) _ ⟨hHeld, (by (with_reducible repeat (first | apply Kd.R_alloc | apply Kd.R_drewN | apply Kd.R_drew)); exact HO104.out), (by (with_reducible repeat (first | refine blk_drewN ?_ _ | refine blk_drew ?_ | refine blk_alloc ?_ _)); exact BK101.out), (by repeat (first | (with_reducible first | exact HB.out | apply below_alloc | apply pw_below_drewN | apply below_drew1 | refine below_set ?_ GE101.out) | exact HB.out))⟩)
                                · skip
                                  refine Kd.R_make_step (Kd.int .i64) _ 3 (by rfl) (N := 20) rfl 24 _ _ rfl a0_0 rfl rfl Try.underlying24 (.int .i64 0) 8 info3 rfl (by decide) (by omega) 0 (ok := fun _ => True) (okp := fun _ => True) rfl (fun _ hk => hk) trivial (of_decide_eq_true (by first | (with_reducible assumption) | assumption)) (Nat.le_trans (Nat.mul_le_mul_right _ (of_decide_eq_true (by first | (with_reducible assumption) | assumption) : a0_0.toNat ≤ 35184372088832)) (by omega)) (Below.refl _ _) (Nat.le_refl _) ?_
                                  intro v106 w7 ho8 hb hg_ hnew_
                                  clear hg_ hnew_
                                  (first | rw [← Ny105.out] at ho8 | (simp only [Int.reduceToNat] at ho8; rw [← Ny105.out] at ho8))
                                  have n0_ := Aside0.mk (Kd.R_lower ho8 (below_size (by repeat (first | (with_reducible first | exact HB.out | apply below_alloc | apply pw_below_drewN | apply below_drew1 | refine below_set ?_ GE101.out) | exact HB.out))))
                                  have n1_ := Aside0.mk (blk_below (g := gb101) (o := .cells #[.int .i64 a0_0, .int .i64 a0_1, .int .i64 a0_2] 27 (0, 0)) (by (with_reducible repeat (first | refine blk_drewN ?_ _ | refine blk_drew ?_ | refine blk_alloc ?_ _)); exact BK101.out) hb)
                                  have n2_ := Aside0.mk (below_step (by repeat (first | (with_reducible first | exact HB.out | apply below_alloc | apply pw_below_drewN | apply below_drew1 | refine below_set ?_ GE101.out) | exact HB.out)) hb)
                                  clear BK101
                                  clear HB
                                  have HO107 := n0_
                                  have BK101 := n1_
                                  have HB := n2_
                                  clear n0_ n1_ n2_
                                  clear hb ho8
                                  refine hK.out _ _ ⟨(blk_cell BK101.out 0).trans rfl, (blk_cell BK101.out 1).trans rfl, (blk_cell BK101.out 2).trans rfl⟩ (fun hHeld => ?_)
                                  clear hK K
                                  refine norm_ (a' := ?_) ?_ ?_
                                  rotate_left
                                  · show Act.put _ (some 20) _ = _
                                    simp only [Act.put, List.setIfInBounds_toArray, List.set_cons_zero, List.set_cons_succ, i64_w, i32_w]
                                    rfl
                                  exact norm_ (by first | (simp only [putAll, Act.put, List.setIfInBounds_toArray, List.set_cons_zero, List.set_cons_succ]; done) | (simp only [putAll, Act.put, List.setIfInBounds_toArray, List.set_cons_zero, List.set_cons_succ]; rfl)) (hJ5 (v106) _ ⟨hHeld, (by (with_reducible repeat (first | apply Kd.R_alloc | apply Kd.R_drewN | apply Kd.R_drew)); exact HO107.out), (by (with_reducible repeat (first | refine blk_drewN ?_ _ | refine blk_drew ?_ | refine blk_alloc ?_ _)); exact BK101.out), (by repeat (first | (with_reducible first | exact HB.out | apply below_alloc | apply pw_below_drewN | apply below_drew1 | refine below_set ?_ GE101.out) | exact HB.out))⟩)
                                · skip
                                  refine Kd.R_lit_step (Kd.int .i64) _ 3 ?hg (N := 21) ?hd (xs := ([] : List Int)) (inner := []) (ok := fun _ => True) (okp := fun _ => True) ?hr ?hp (fun _ hk => hk) trivial (Below.refl _ _) (Nat.le_refl _) (by simp) ?_; (case hd => rfl); (case hg => rfl); (case hr => first | (go_simp; done) | (go_simp; rfl)); (case hp => exact (Reps.none _ _))
                                  intro v109 w7 ho8 hb hg_ hnew_
                                  clear hg_ hnew_
                                  (first | rw [← Ny108.out] at ho8 | (simp only [Int.reduceToNat] at ho8; rw [← Ny108.out] at ho8))
                                  have n0_ := Aside0.mk (Kd.R_lower ho8 (below_size (by repeat (first | (with_reducible first | exact HB.out | apply below_alloc | apply pw_below_drewN | apply below_drew1 | refine below_set ?_ GE101.out) | exact HB.out))))
                                  have n1_ := Aside0.mk (blk_below (g := gb101) (o := .cells #[.int .i64 a0_0, .int .i64 a0_1, .int .i64 a0_2] 27 (0, 0)) (by (with_reducible repeat (first | refine blk_drewN ?_ _ | refine blk_drew ?_ | refine blk_alloc ?_ _)); exact BK101.out) hb)
                                  have n2_ := Aside0.mk (below_step (by repeat (first | (with_reducible first | exact HB.out | apply below_alloc | apply pw_below_drewN | apply below_drew1 | refine below_set ?_ GE101.out) | exact HB.out)) hb)
                                  clear BK101
                                  clear HB
                                  have HO110 := n0_
                                  have BK101 := n1_
                                  have HB := n2_
                                  clear n0_ n1_ n2_
                                  clear hb ho8
                                  refine hK.out _ _ ⟨(blk_cell BK101.out 0).trans rfl, (blk_cell BK101.out 1).trans rfl, (blk_cell BK101.out 2).trans rfl⟩ (fun hHeld => ?_)
                                  clear hK K
                                  refine norm_ (a' := ?_) ?_ ?_
                                  rotate_left
                                  · show Act.put _ (some 21) _ = _
                                    simp only [Act.put, List.setIfInBounds_toArray, List.set_cons_zero, List.set_cons_succ, i64_w, i32_w]
                                    rfl
                                  exact norm_ (by first | (simp only [putAll, Act.put, List.setIfInBounds_toArray, List.set_cons_zero, List.set_cons_succ]; done) | (simp only [putAll, Act.put, List.setIfInBounds_toArray, List.set_cons_zero, List.set_cons_succ]; rfl)) (hJ6 (v109) _ ⟨hHeld, (by (with_reducible repeat (first | apply Kd.R_alloc | apply Kd.R_drewN | apply Kd.R_drew)); exact HO110.out), (by (with_reducible repeat (first | refine blk_drewN ?_ _ | refine blk_drew ?_ | refine blk_alloc ?_ _)); exact BK101.out), (by repeat (first | (with_reducible first | exact HB.out | apply below_alloc | apply pw_below_drewN | apply below_drew1 | refine below_set ?_ GE101.out) | exact HB.out))⟩)
                                · skip
                                  refine Kd.S_lit_step k44 _ 44 ?hg (N := 22) ?hd (xs := ([] : List (S44))) (inner := []) (ok := fun _ => True) (okp := fun _ => True) ?hr ?hp (fun _ hk => hk) trivial (Below.refl _ _) (Nat.le_refl _) (by simp) ?_; (case hd => rfl); (case hg => rfl); (case hr => first | (go_simp; done) | (go_simp; rfl)); (case hp => exact (Reps.none _ _))
                                  intro v112 w7 ho8 hb hg_ hnew_
                                  clear hg_ hnew_
                                  (first | rw [← Ny111.out] at ho8 | (simp only [Int.reduceToNat] at ho8; rw [← Ny111.out] at ho8))
                                  have n0_ := Aside0.mk (Kd.S_lower ho8 (below_size (by repeat (first | (with_reducible first | exact HB.out | apply below_alloc | apply pw_below_drewN | apply below_drew1 | refine below_set ?_ GE101.out) | exact HB.out))))
                                  have n1_ := Aside0.mk (blk_below (g := gb101) (o := .cells #[.int .i64 a0_0, .int .i64 a0_1, .int .i64 a0_2] 27 (0, 0)) (by (with_reducible repeat (first | refine blk_drewN ?_ _ | refine blk_drew ?_ | refine blk_alloc ?_ _)); exact BK101.out) hb)
                                  have n2_ := Aside0.mk (below_step (by repeat (first | (with_reducible first | exact HB.out | apply below_alloc | apply pw_below_drewN | apply below_drew1 | refine below_set ?_ GE101.out) | exact HB.out)) hb)
                                  clear BK101
                                  clear HB
                                  have HO113 := n0_
                                  have BK101 := n1_
                                  have HB := n2_
                                  clear n0_ n1_ n2_
                                  clear hb ho8
                                  refine hK.out _ _ ⟨(blk_cell BK101.out 0).trans rfl, (blk_cell BK101.out 1).trans rfl, (blk_cell BK101.out 2).trans rfl⟩ (fun hHeld => ?_)
                                  clear hK K
                                  refine norm_ (a' := ?_) ?_ ?_
                                  rotate_left
                                  · show Act.put _ (some 22) _ = _
                                    simp only [Act.put, List.setIfInBounds_toArray, List.set_cons_zero, List.set_cons_succ, i64_w, i32_w]
                                    rfl
                                  exact norm_ (by first | (simp only [putAll, Act.put, List.setIfInBounds_toArray, List.set_cons_zero, List.set_cons_succ]; done) | (simp only [putAll, Act.put, List.setIfInBounds_toArray, List.set_cons_zero, List.set_cons_succ]; rfl)) (hJ7 (v112) _ ⟨hHeld, (by (with_reducible repeat (first | apply Kd.S_alloc | apply Kd.S_drewN | apply Kd.S_drew)); exact HO113.out), (by (with_reducible repeat (first | refine blk_drewN ?_ _ | refine blk_drew ?_ | refine blk_alloc ?_ _)); exact BK101.out), (by repeat (first | (with_reducible first | exact HB.out | apply below_alloc | apply pw_below_drewN | apply below_drew1 | refine below_set ?_ GE101.out) | exact HB.out))⟩)
                              · skip
                                rintro v112 w9 ⟨hS_, h0_, h1_, h2_⟩
                                have n0_ : Aside0 (Kd.S k44 44 w9 w.heap.size (fun _ => True) v112 y111) := ⟨h0_⟩
                                have n1_ : Aside0 (w9.heap[gb101]? = some (.cells #[.int .i64 a0_0, .int .i64 a0_1, .int .i64 a0_2] 27 (0, 0))) := ⟨h1_⟩
                                have n2_ : Aside0 (Below w.heap.size w w9) := ⟨h2_⟩
                                clear BK101
                                clear HB
                                clear h0_ h1_ h2_
                                have HO113 := n0_
                                have BK101 := n1_
                                have HB := n2_
                                clear n0_ n1_ n2_
                                have hHeld : w9.cell? ⟨gb101, 0, none⟩ = some (.int .i64 a0_0) ∧ w9.cell? ⟨gb101, 1, none⟩ = some (.int .i64 a0_1) ∧ w9.cell? ⟨gb101, 2, none⟩ = some (.int .i64 a0_2) := hS_
                                refine norm_ (a' := ?_) ?_ ?_
                                rotate_left
                                · simp only [putAll, Act.put, List.setIfInBounds_toArray, List.set_cons_zero, List.set_cons_succ]
                                  rfl
                                refine three_ (i := 2) (j := 5) (k := 6) (Ni := some 17) (Nj := some 20) (Nk := some 21) #[true, true, true, true, true, false, false, true, false, false, false, false] #[true, true, false, true, true, true, false, true, false, false, false, false] #[true, true, false, true, true, false, true, true, false, false, false, false] rfl rfl rfl rfl rfl rfl (three_of HT_.out (by kernel_rfl)) (by decide) (by decide) (by decide) (fun K hK => ?_) (fun K hK => ?_) (fun K hK => ?_)
                                · skip
                                  refine Kd.R_make_step (Kd.int .i64) _ 3 (by rfl) (N := 17) rfl 24 _ _ rfl a0_0 rfl rfl Try.underlying24 (.int .i64 0) 8 info3 rfl (by decide) (by omega) 0 (ok := fun _ => True) (okp := fun _ => True) rfl (fun _ hk => hk) trivial (of_decide_eq_true (by first | (with_reducible assumption) | assumption)) (Nat.le_trans (Nat.mul_le_mul_right _ (of_decide_eq_true (by first | (with_reducible assumption) | assumption) : a0_0.toNat ≤ 35184372088832)) (by omega)) (Below.refl _ _) (Nat.le_refl _) ?_
                                  intro v103 w10 ho11 hb hg_ hnew_
                                  clear hg_ hnew_
                                  (first | rw [← Ny102.out] at ho11 | (simp only [Int.reduceToNat] at ho11; rw [← Ny102.out] at ho11))
                                  have n0_ := Aside0.mk (Kd.S_elder' (by (with_reducible repeat (first | apply Kd.S_alloc | apply Kd.S_drewN | apply Kd.S_drew)); exact HO113.out) (Kd.R_base ho11) hb)
                                  have n1_ := Aside0.mk (Kd.R_lower ho11 (below_size (by repeat (first | (with_reducible first | exact HB.out | apply below_alloc | apply pw_below_drewN | apply below_drew1 | refine below_set ?_ GE101.out) | exact HB.out))))
                                  have n2_ := Aside0.mk (blk_below (g := gb101) (o := .cells #[.int .i64 a0_0, .int .i64 a0_1, .int .i64 a0_2] 27 (0, 0)) (by (with_reducible repeat (first | refine blk_drewN ?_ _ | refine blk_drew ?_ | refine blk_alloc ?_ _)); exact BK101.out) hb)
                                  have n3_ := Aside0.mk (below_step (by repeat (first | (with_reducible first | exact HB.out | apply below_alloc | apply pw_below_drewN | apply below_drew1 | refine below_set ?_ GE101.out) | exact HB.out)) hb)
                                  clear HO113
                                  clear BK101
                                  clear HB
                                  have HO113 := n0_
                                  have HO104 := n1_
                                  have BK101 := n2_
                                  have HB := n3_
                                  clear n0_ n1_ n2_ n3_
                                  clear hb ho11
                                  refine hK.out _ _ ⟨(blk_cell BK101.out 0).trans rfl, (blk_cell BK101.out 1).trans rfl, (blk_cell BK101.out 2).trans rfl⟩ (fun hHeld => ?_)
                                  clear hK K
                                  refine norm_ (a' := ?_) ?_ ?_
                                  rotate_left
                                  · show Act.put _ (some 17) _ = _
                                    simp only [Act.put, List.setIfInBounds_toArray, List.set_cons_zero, List.set_cons_succ, i64_w, i32_w]
                                    rfl
                                  refine pure_ (i := 8) (N := some 5) (v := ?_) (a' := ?_) #[true, true, true, true, true, false, false, true, true, false, false, false] rfl rfl (any_of HT_.out (by kernel_rfl)) (fun _ _ _ h => h) (Or.inl ⟨by rfl, ?_⟩) ?_ ?_
                                  rotate_left
                                  · intro w'
                                    go_simp
                                    with_reducible rfl
                                  rotate_left
                                  · simp only [Act.put, List.setIfInBounds_toArray, List.set_cons_zero, List.set_cons_succ, i64_w, i32_w]
                                    rfl
                                  exact norm_ (by first | (simp only [putAll, Act.put, List.setIfInBounds_toArray, List.set_cons_zero, List.set_cons_succ]; done) | (simp only [putAll, Act.put, List.setIfInBounds_toArray, List.set_cons_zero, List.set_cons_succ]; rfl)) (hJ2_7 (v103, v112) _ ⟨hHeld, (by (with_reducible repeat (first | apply Kd.R_alloc | apply Kd.R_drewN | apply Kd.R_drew)); exact HO104.out), (by (with_reducible repeat (first | apply Kd.S_alloc | apply Kd.S_drewN | apply Kd.S_drew)); exact Kd.S_mono HO113.out (fun _ hk => hk.2)), (by (with_reducible repeat (first | refine blk_drewN ?_ _ | refine blk_drew ?_ | refine blk_alloc ?_ _)); exact BK101.out), (by repeat (first | (with_reducible first | exact HB.out | apply below_alloc | apply pw_below_drewN | apply below_drew1 | refine below_set ?_ GE101.out) | exact HB.out))⟩)
                                · skip
                                  refine Kd.R_make_step (Kd.int .i64) _ 3 (by rfl) (N := 20) rfl 24 _ _ rfl a0_0 rfl rfl Try.underlying24 (.int .i64 0) 8 info3 rfl (by decide) (by omega) 0 (ok := fun _ => True) (okp := fun _ => True) rfl (fun _ hk => hk) trivial (of_decide_eq_true (by first | (with_reducible assumption) | assumption)) (Nat.le_trans (Nat.mul_le_mul_right _ (of_decide_eq_true (by first | (with_reducible assumption) | assumption) : a0_0.toNat ≤ 35184372088832)) (by omega)) (Below.refl _ _) (Nat.le_refl _) ?_
                                  intro v106 w10 ho11 hb hg_ hnew_
                                  clear hg_ hnew_
                                  (first | rw [← Ny105.out] at ho11 | (simp only [Int.reduceToNat] at ho11; rw [← Ny105.out] at ho11))
                                  have n0_ := Aside0.mk (Kd.S_elder' (by (with_reducible repeat (first | apply Kd.S_alloc | apply Kd.S_drewN | apply Kd.S_drew)); exact HO113.out) (Kd.R_base ho11) hb)
                                  have n1_ := Aside0.mk (Kd.R_lower ho11 (below_size (by repeat (first | (with_reducible first | exact HB.out | apply below_alloc | apply pw_below_drewN | apply below_drew1 | refine below_set ?_ GE101.out) | exact HB.out))))
                                  have n2_ := Aside0.mk (blk_below (g := gb101) (o := .cells #[.int .i64 a0_0, .int .i64 a0_1, .int .i64 a0_2] 27 (0, 0)) (by (with_reducible repeat (first | refine blk_drewN ?_ _ | refine blk_drew ?_ | refine blk_alloc ?_ _)); exact BK101.out) hb)
                                  have n3_ := Aside0.mk (below_step (by repeat (first | (with_reducible first | exact HB.out | apply below_alloc | apply pw_below_drewN | apply below_drew1 | refine below_set ?_ GE101.out) | exact HB.out)) hb)
                                  clear HO113
                                  clear BK101
                                  clear HB
                                  have HO113 := n0_
                                  have HO107 := n1_
                                  have BK101 := n2_
                                  have HB := n3_
                                  clear n0_ n1_ n2_ n3_
                                  clear hb ho11
                                  refine hK.out _ _ ⟨(blk_cell BK101.out 0).trans rfl, (blk_cell BK101.out 1).trans rfl, (blk_cell BK101.out 2).trans rfl⟩ (fun hHeld => ?_)
                                  clear hK K
                                  refine norm_ (a' := ?_) ?_ ?_
                                  rotate_left
                                  · show Act.put _ (some 20) _ = _
                                    simp only [Act.put, List.setIfInBounds_toArray, List.set_cons_zero, List.set_cons_succ, i64_w, i32_w]
                                    rfl
                                  exact norm_ (by first | (simp only [putAll, Act.put, List.setIfInBounds_toArray, List.set_cons_zero, List.set_cons_succ]; done) | (simp only [putAll, Act.put, List.setIfInBounds_toArray, List.set_cons_zero, List.set_cons_succ]; rfl)) (hJ5_7 (v106, v112) _ ⟨hHeld, (by (with_reducible repeat (first | apply Kd.R_alloc | apply Kd.R_drewN | apply Kd.R_drew)); exact HO107.out), (by (with_reducible repeat (first | apply Kd.S_alloc | apply Kd.S_drewN | apply Kd.S_drew)); exact Kd.S_mono HO113.out (fun _ hk => hk.2)), (by (with_reducible repeat (first | refine blk_drewN ?_ _ | refine blk_drew ?_ | refine blk_alloc ?_ _)); exact BK101.out), (by repeat (first | (with_reducible first | exact HB.out | apply below_alloc | apply pw_below_drewN | apply below_drew1 | refine below_set ?_ GE101.out) | exact HB.out))⟩)
                                · skip
                                  refine Kd.R_lit_step (Kd.int .i64) _ 3 ?hg (N := 21) ?hd (xs := ([] : List Int)) (inner := []) (ok := fun _ => True) (okp := fun _ => True) ?hr ?hp (fun _ hk => hk) trivial (Below.refl _ _) (Nat.le_refl _) (by simp) ?_; (case hd => rfl); (case hg => rfl); (case hr => first | (go_simp; done) | (go_simp; rfl)); (case hp => exact (Reps.none _ _))
                                  intro v109 w10 ho11 hb hg_ hnew_
                                  clear hg_ hnew_
                                  (first | rw [← Ny108.out] at ho11 | (simp only [Int.reduceToNat] at ho11; rw [← Ny108.out] at ho11))
                                  have n0_ := Aside0.mk (Kd.S_elder' (by (with_reducible repeat (first | apply Kd.S_alloc | apply Kd.S_drewN | apply Kd.S_drew)); exact HO113.out) (Kd.R_base ho11) hb)
                                  have n1_ := Aside0.mk (Kd.R_lower ho11 (below_size (by repeat (first | (with_reducible first | exact HB.out | apply below_alloc | apply pw_below_drewN | apply below_drew1 | refine below_set ?_ GE101.out) | exact HB.out))))
                                  have n2_ := Aside0.mk (blk_below (g := gb101) (o := .cells #[.int .i64 a0_0, .int .i64 a0_1, .int .i64 a0_2] 27 (0, 0)) (by (with_reducible repeat (first | refine blk_drewN ?_ _ | refine blk_drew ?_ | refine blk_alloc ?_ _)); exact BK101.out) hb)
                                  have n3_ := Aside0.mk (below_step (by repeat (first | (with_reducible first | exact HB.out | apply below_alloc | apply pw_below_drewN | apply below_drew1 | refine below_set ?_ GE101.out) | exact HB.out)) hb)
                                  clear HO113
                                  clear BK101
                                  clear HB
                                  have HO113 := n0_
                                  have HO110 := n1_
                                  have BK101 := n2_
                                  have HB := n3_
                                  clear n0_ n1_ n2_ n3_
                                  clear hb ho11
                                  refine hK.out _ _ ⟨(blk_cell BK101.out 0).trans rfl, (blk_cell BK101.out 1).trans rfl, (blk_cell BK101.out 2).trans rfl⟩ (fun hHeld => ?_)
                                  clear hK K
                                  refine norm_ (a' := ?_) ?_ ?_
                                  rotate_left
                                  · show Act.put _ (some 21) _ = _
                                    simp only [Act.put, List.setIfInBounds_toArray, List.set_cons_zero, List.set_cons_succ, i64_w, i32_w]
                                    rfl
                                  exact norm_ (by first | (simp only [putAll, Act.put, List.setIfInBounds_toArray, List.set_cons_zero, List.set_cons_succ]; done) | (simp only [putAll, Act.put, List.setIfInBounds_toArray, List.set_cons_zero, List.set_cons_succ]; rfl)) (hJ6_7 (v109, v112) _ ⟨hHeld, (by (with_reducible repeat (first | apply Kd.R_alloc | apply Kd.R_drewN | apply Kd.R_drew)); exact HO110.out), (by (with_reducible repeat (first | apply Kd.S_alloc | apply Kd.S_drewN | apply Kd.S_drew)); exact Kd.S_mono HO113.out (fun _ hk => hk.2)), (by (with_reducible repeat (first | refine blk_drewN ?_ _ | refine blk_drew ?_ | refine blk_alloc ?_ _)); exact BK101.out), (by repeat (first | (with_reducible first | exact HB.out | apply below_alloc | apply pw_below_drewN | apply below_drew1 | refine below_set ?_ GE101.out) | exact HB.out))⟩)
                            · skip
                              rintro v109 w9 ⟨hS_, h0_, h1_, h2_⟩
                              have n0_ : Aside0 (Kd.R (Kd.int .i64) 3 w9 w.heap.size (fun _ => True) v109 y108) := ⟨h0_⟩
                              have n1_ : Aside0 (w9.heap[gb101]? = some (.cells #[.int .i64 a0_0, .int .i64 a0_1, .int .i64 a0_2] 27 (0, 0))) := ⟨h1_⟩
                              have n2_ : Aside0 (Below w.heap.size w w9) := ⟨h2_⟩
                              clear BK101
                              clear HB
                              clear h0_ h1_ h2_
                              have HO110 := n0_
                              have BK101 := n1_
                              have HB := n2_
                              clear n0_ n1_ n2_
                              have hHeld : w9.cell? ⟨gb101, 0, none⟩ = some (.int .i64 a0_0) ∧ w9.cell? ⟨gb101, 1, none⟩ = some (.int .i64 a0_1) ∧ w9.cell? ⟨gb101, 2, none⟩ = some (.int .i64 a0_2) := hS_
                              refine norm_ (a' := ?_) ?_ ?_
                              rotate_left
                              · simp only [putAll, Act.put, List.setIfInBounds_toArray, List.set_cons_zero, List.set_cons_succ]
                                rfl
                              refine three_ (i := 2) (j := 5) (k := 7) (Ni := some 17) (Nj := some 20) (Nk := some 22) #[true, true, true, true, true, false, true, false, false, false, false, false] #[true, true, false, true, true, true, true, false, false, false, false, false] #[true, true, false, true, true, false, true, true, false, false, false, false] rfl rfl rfl rfl rfl rfl (three_of HT_.out (by kernel_rfl)) (by decide) (by decide) (by decide) (fun K hK => ?_) (fun K hK => ?_) (fun K hK => ?_)
                              · skip
                                refine Kd.R_make_step (Kd.int .i64) _ 3 (by rfl) (N := 17) rfl 24 _ _ rfl a0_0 rfl rfl Try.underlying24 (.int .i64 0) 8 info3 rfl (by decide) (by omega) 0 (ok := fun _ => True) (okp := fun _ => True) rfl (fun _ hk => hk) trivial (of_decide_eq_true (by first | (with_reducible assumption) | assumption)) (Nat.le_trans (Nat.mul_le_mul_right _ (of_decide_eq_true (by first | (with_reducible assumption) | assumption) : a0_0.toNat ≤ 35184372088832)) (by omega)) (Below.refl _ _) (Nat.le_refl _) ?_
                                intro v103 w10 ho11 hb hg_ hnew_
                                clear hg_ hnew_
                                (first | rw [← Ny102.out] at ho11 | (simp only [Int.reduceToNat] at ho11; rw [← Ny102.out] at ho11))
                                have n0_ := Aside0.mk (Kd.R_elder' (by (with_reducible repeat (first | apply Kd.R_alloc | apply Kd.R_drewN | apply Kd.R_drew)); exact HO110.out) (Kd.R_base ho11) hb)
                                have n1_ := Aside0.mk (Kd.R_lower (Kd.R_new' ho11 (Kd.R_lt (by (with_reducible repeat (first | apply Kd.R_alloc | apply Kd.R_drewN | apply Kd.R_drew)); exact HO110.out))) (below_size (by repeat (first | (with_reducible first | exact HB.out | apply below_alloc | apply pw_below_drewN | apply below_drew1 | refine below_set ?_ GE101.out) | exact HB.out))))
                                have n2_ := Aside0.mk (blk_below (g := gb101) (o := .cells #[.int .i64 a0_0, .int .i64 a0_1, .int .i64 a0_2] 27 (0, 0)) (by (with_reducible repeat (first | refine blk_drewN ?_ _ | refine blk_drew ?_ | refine blk_alloc ?_ _)); exact BK101.out) hb)
                                have n3_ := Aside0.mk (below_step (by repeat (first | (with_reducible first | exact HB.out | apply below_alloc | apply pw_below_drewN | apply below_drew1 | refine below_set ?_ GE101.out) | exact HB.out)) hb)
                                clear HO110
                                clear BK101
                                clear HB
                                have HO110 := n0_
                                have HO104 := n1_
                                have BK101 := n2_
                                have HB := n3_
                                clear n0_ n1_ n2_ n3_
                                clear hb ho11
                                refine hK.out _ _ ⟨(blk_cell BK101.out 0).trans rfl, (blk_cell BK101.out 1).trans rfl, (blk_cell BK101.out 2).trans rfl⟩ (fun hHeld => ?_)
                                clear hK K
                                refine norm_ (a' := ?_) ?_ ?_
                                rotate_left
                                · show Act.put _ (some 17) _ = _
                                  simp only [Act.put, List.setIfInBounds_toArray, List.set_cons_zero, List.set_cons_succ, i64_w, i32_w]
                                  rfl
                                refine pure_ (i := 8) (N := some 5) (v := ?_) (a' := ?_) #[true, true, true, true, true, false, true, false, true, false, false, false] rfl rfl (any_of HT_.out (by kernel_rfl)) (fun _ _ _ h => h) (Or.inl ⟨by rfl, ?_⟩) ?_ ?_
                                rotate_left
                                · intro w'
                                  go_simp
                                  with_reducible rfl
                                rotate_left
                                · simp only [Act.put, List.setIfInBounds_toArray, List.set_cons_zero, List.set_cons_succ, i64_w, i32_w]
                                  rfl
                                exact norm_ (by first | (simp only [putAll, Act.put, List.setIfInBounds_toArray, List.set_cons_zero, List.set_cons_succ]; done) | (simp only [putAll, Act.put, List.setIfInBounds_toArray, List.set_cons_zero, List.set_cons_succ]; rfl)) (hJ2_6 (v103, v109) _ ⟨hHeld, (by (with_reducible repeat (first | apply Kd.R_alloc | apply Kd.R_drewN | apply Kd.R_drew)); exact Kd.R_mono HO104.out (fun _ hk => hk.2)), (by (with_reducible repeat (first | apply Kd.R_alloc | apply Kd.R_drewN | apply Kd.R_drew)); exact Kd.R_mono HO110.out (fun _ hk => hk.2)), (by (with_reducible repeat (first | refine blk_drewN ?_ _ | refine blk_drew ?_ | refine blk_alloc ?_ _)); exact BK101.out), (by repeat (first | (with_reducible first | exact HB.out | apply below_alloc | apply pw_below_drewN | apply below_drew1 | refine below_set ?_ GE101.out) | exact HB.out))⟩)
                              · skip
                                refine Kd.R_make_step (Kd.int .i64) _ 3 (by rfl) (N := 20) rfl 24 _ _ rfl a0_0 rfl rfl Try.underlying24 (.int .i64 0) 8 info3 rfl (by decide) (by omega) 0 (ok := fun _ => True) (okp := fun _ => True) rfl (fun _ hk => hk) trivial (of_decide_eq_true (by first | (with_reducible assumption) | assumption)) (Nat.le_trans (Nat.mul_le_mul_right _ (of_decide_eq_true (by first | (with_reducible assumption) | assumption) : a0_0.toNat ≤ 35184372088832)) (by omega)) (Below.refl _ _) (Nat.le_refl _) ?_
                                intro v106 w10 ho11 hb hg_ hnew_
                                clear hg_ hnew_
                                (first | rw [← Ny105.out] at ho11 | (simp only [Int.reduceToNat] at ho11; rw [← Ny105.out] at ho11))
                                have n0_ := Aside0.mk (Kd.R_elder' (by (with_reducible repeat (first | apply Kd.R_alloc | apply Kd.R_drewN | apply Kd.R_drew)); exact HO110.out) (Kd.R_base ho11) hb)
                                have n1_ := Aside0.mk (Kd.R_lower (Kd.R_new' ho11 (Kd.R_lt (by (with_reducible repeat (first | apply Kd.R_alloc | apply Kd.R_drewN | apply Kd.R_drew)); exact HO110.out))) (below_size (by repeat (first | (with_reducible first | exact HB.out | apply below_alloc | apply pw_below_drewN | apply below_drew1 | refine below_set ?_ GE101.out) | exact HB.out))))
                                have n2_ := Aside0.mk (blk_below (g := gb101) (o := .cells #[.int .i64 a0_0, .int .i64 a0_1, .int .i64 a0_2] 27 (0, 0)) (by (with_reducible repeat (first | refine blk_drewN ?_ _ | refine blk_drew ?_ | refine blk_alloc ?_ _)); exact BK101.out) hb)
                                have n3_ := Aside0.mk (below_step (by repeat (first | (with_reducible first | exact HB.out | apply below_alloc | apply pw_below_drewN | apply below_drew1 | refine below_set ?_ GE101.out) | exact HB.out)) hb)
                                clear HO110
                                clear BK101
                                clear HB
                                have HO110 := n0_
                                have HO107 := n1_
                                have BK101 := n2_
                                have HB := n3_
                                clear n0_ n1_ n2_ n3_
                                clear hb ho11
                                refine hK.out _ _ ⟨(blk_cell BK101.out 0).trans rfl, (blk_cell BK101.out 1).trans rfl, (blk_cell BK101.out 2).trans rfl⟩ (fun hHeld => ?_)
                                clear hK K
                                refine norm_ (a' := ?_) ?_ ?_
                                rotate_left
                                · show Act.put _ (some 20) _ = _
                                  simp only [Act.put, List.setIfInBounds_toArray, List.set_cons_zero, List.set_cons_succ, i64_w, i32_w]
                                  rfl
                                exact norm_ (by first | (simp only [putAll, Act.put, List.setIfInBounds_toArray, List.set_cons_zero, List.set_cons_succ]; done) | (simp only [putAll, Act.put, List.setIfInBounds_toArray, List.set_cons_zero, List.set_cons_succ]; rfl)) (hJ5_6 (v106, v109) _ ⟨hHeld, (by (with_reducible repeat (first | apply Kd.R_alloc | apply Kd.R_drewN | apply Kd.R_drew)); exact Kd.R_mono HO107.out (fun _ hk => hk.2)), (by (with_reducible repeat (first | apply Kd.R_alloc | apply Kd.R_drewN | apply Kd.R_drew)); exact Kd.R_mono HO110.out (fun _ hk => hk.2)), (by (with_reducible repeat (first | refine blk_drewN ?_ _ | refine blk_drew ?_ | refine blk_alloc ?_ _)); exact BK101.out), (by repeat (first | (with_reducible first | exact HB.out | apply below_alloc | apply pw_below_drewN | apply below_drew1 | refine below_set ?_ GE101.out) | exact HB.out))⟩)
                              · skip
                                refine Kd.S_lit_step k44 _ 44 ?hg (N := 22) ?hd (xs := ([] : List (S44))) (inner := []) (ok := fun _ => True) (okp := fun _ => True) ?hr ?hp (fun _ hk => hk) trivial (Below.refl _ _) (Nat.le_refl _) (by simp) ?_; (case hd => rfl); (case hg => rfl); (case hr => first | (go_simp; done) | (go_simp; rfl)); (case hp => exact (Reps.none _ _))
                                intro v112 w10 ho11 hb hg_ hnew_
                                clear hg_ hnew_
                                (first | rw [← Ny111.out] at ho11 | (simp only [Int.reduceToNat] at ho11; rw [← Ny111.out] at ho11))
                                have n0_ := Aside0.mk (Kd.R_below (by (with_reducible repeat (first | apply Kd.R_alloc | apply Kd.R_drewN | apply Kd.R_drew)); exact HO110.out) hb)
                                have n1_ := Aside0.mk (Kd.S_lower (Kd.S_new' ho11 (Kd.R_lt (by (with_reducible repeat (first | apply Kd.R_alloc | apply Kd.R_drewN | apply Kd.R_drew)); exact HO110.out))) (below_size (by repeat (first | (with_reducible first | exact HB.out | apply below_alloc | apply pw_below_drewN | apply below_drew1 | refine below_set ?_ GE101.out) | exact HB.out))))
                                have n2_ := Aside0.mk (blk_below (g := gb101) (o := .cells #[.int .i64 a0_0, .int .i64 a0_1, .int .i64 a0_2] 27 (0, 0)) (by (with_reducible repeat (first | refine blk_drewN ?_ _ | refine blk_drew ?_ | refine blk_alloc ?_ _)); exact BK101.out) hb)
                                have n3_ := Aside0.mk (below_step (by repeat (first | (with_reducible first | exact HB.out | apply below_alloc | apply pw_below_drewN | apply below_drew1 | refine below_set ?_ GE101.out) | exact HB.out)) hb)
                                clear HO110
                                clear BK101
                                clear HB
                                have HO110 := n0_
                                have HO113 := n1_
                                have BK101 := n2_
                                have HB := n3_
                                clear n0_ n1_ n2_ n3_
                                clear hb ho11
                                refine hK.out _ _ ⟨(blk_cell BK101.out 0).trans rfl, (blk_cell BK101.out 1).trans rfl, (blk_cell BK101.out 2).trans rfl⟩ (fun hHeld => ?_)
                                clear hK K
                                refine norm_ (a' := ?_) ?_ ?_
                                rotate_left
                                · show Act.put _ (some 22) _ = _
                                  simp only [Act.put, List.setIfInBounds_toArray, List.set_cons_zero, List.set_cons_succ, i64_w, i32_w]
                                  rfl
                                exact norm_ (by first | (simp only [putAll, Act.put, List.setIfInBounds_toArray, List.set_cons_zero, List.set_cons_succ]; done) | (simp only [putAll, Act.put, List.setIfInBounds_toArray, List.set_cons_zero, List.set_cons_succ]; rfl)) (hJ6_7 (v109, v112) _ ⟨hHeld, (by (with_reducible repeat (first | apply Kd.R_alloc | apply Kd.R_drewN | apply Kd.R_drew)); exact HO110.out), (by (with_reducible repeat (first | apply Kd.S_alloc | apply Kd.S_drewN | apply Kd.S_drew)); exact Kd.S_mono HO113.out (fun _ hk => hk.2)), (by (with_reducible repeat (first | refine blk_drewN ?_ _ | refine blk_drew ?_ | refine blk_alloc ?_ _)); exact BK101.out), (by repeat (first | (with_reducible first | exact HB.out | apply below_alloc | apply pw_below_drewN | apply below_drew1 | refine below_set ?_ GE101.out) | exact HB.out))⟩)
                          · skip
                            rintro v106 w9 ⟨hS_, h0_, h1_, h2_⟩
                            have n0_ : Aside0 (Kd.R (Kd.int .i64) 3 w9 w.heap.size (fun _ => True) v106 y105) := ⟨h0_⟩
                            have n1_ : Aside0 (w9.heap[gb101]? = some (.cells #[.int .i64 a0_0, .int .i64 a0_1, .int .i64 a0_2] 27 (0, 0))) := ⟨h1_⟩
                            have n2_ : Aside0 (Below w.heap.size w w9) := ⟨h2_⟩
                            clear BK101
                            clear HB
                            clear h0_ h1_ h2_
                            have HO107 := n0_
                            have BK101 := n1_
                            have HB := n2_
                            clear n0_ n1_ n2_
                            have hHeld : w9.cell? ⟨gb101, 0, none⟩ = some (.int .i64 a0_0) ∧ w9.cell? ⟨gb101, 1, none⟩ = some (.int .i64 a0_1) ∧ w9.cell? ⟨gb101, 2, none⟩ = some (.int .i64 a0_2) := hS_
                            refine norm_ (a' := ?_) ?_ ?_
                            rotate_left
                            · simp only [putAll, Act.put, List.setIfInBounds_toArray, List.set_cons_zero, List.set_cons_succ]
                              rfl
                            refine three_ (i := 2) (j := 6) (k := 7) (Ni := some 17) (Nj := some 21) (Nk := some 22) #[true, true, true, true, true, true, false, false, false, false, false, false] #[true, true, false, true, true, true, true, false, false, false, false, false] #[true, true, false, true, true, true, false, true, false, false, false, false] rfl rfl rfl rfl rfl rfl (three_of HT_.out (by kernel_rfl)) (by decide) (by decide) (by decide) (fun K hK => ?_) (fun K hK => ?_) (fun K hK => ?_)
                            · skip
                              refine Kd.R_make_step (Kd.int .i64) _ 3 (by rfl) (N := 17) rfl 24 _ _ rfl a0_0 rfl rfl Try.underlying24 (.int .i64 0) 8 info3 rfl (by decide) (by omega) 0 (ok := fun _ => True) (okp := fun _ => True) rfl (fun _ hk => hk) trivial (of_decide_eq_true (by first | (with_reducible assumption) | assumption)) (Nat.le_trans (Nat.mul_le_mul_right _ (of_decide_eq_true (by first | (with_reducible assumption) | assumption) : a0_0.toNat ≤ 35184372088832)) (by omega)) (Below.refl _ _) (Nat.le_refl _) ?_
                              intro v103 w10 ho11 hb hg_ hnew_
                              clear hg_ hnew_
                              (first | rw [← Ny102.out] at ho11 | (simp only [Int.reduceToNat] at ho11; rw [← Ny102.out] at ho11))
                              have n0_ := Aside0.mk (Kd.R_elder' (by (with_reducible repeat (first | apply Kd.R_alloc | apply Kd.R_drewN | apply Kd.R_drew)); exact HO107.out) (Kd.R_base ho11) hb)
                              have n1_ := Aside0.mk (Kd.R_lower (Kd.R_new' ho11 (Kd.R_lt (by (with_reducible repeat (first | apply Kd.R_alloc | apply Kd.R_drewN | apply Kd.R_drew)); exact HO107.out))) (below_size (by repeat (first | (with_reducible first | exact HB.out | apply below_alloc | apply pw_below_drewN | apply below_drew1 | refine below_set ?_ GE101.out) | exact HB.out))))
                              have n2_ := Aside0.mk (blk_below (g := gb101) (o := .cells #[.int .i64 a0_0, .int .i64 a0_1, .int .i64 a0_2] 27 (0, 0)) (by (with_reducible repeat (first | refine blk_drewN ?_ _ | refine blk_drew ?_ | refine blk_alloc ?_ _)); exact BK101.out) hb)
                              have n3_ := Aside0.mk (below_step (by repeat (first | (with_reducible first | exact HB.out | apply below_alloc | apply pw_below_drewN | apply below_drew1 | refine below_set ?_ GE101.out) | exact HB.out)) hb)
                              clear HO107
                              clear BK101
                              clear HB
                              have HO107 := n0_
                              have HO104 := n1_
                              have BK101 := n2_
                              have HB := n3_
                              clear n0_ n1_ n2_ n3_
                              clear hb ho11
                              refine hK.out _ _ ⟨(blk_cell BK101.out 0).trans rfl, (blk_cell BK101.out 1).trans rfl, (blk_cell BK101.out 2).trans rfl⟩ (fun hHeld => ?_)
                              clear hK K
                              refine norm_ (a' := ?_) ?_ ?_
                              rotate_left
                              · show Act.put _ (some 17) _ = _
                                simp only [Act.put, List.setIfInBounds_toArray, List.set_cons_zero, List.set_cons_succ, i64_w, i32_w]
                                rfl
                              refine pure_ (i := 8) (N := some 5) (v := ?_) (a' := ?_) #[true, true, true, true, true, true, false, false, true, false, false, false] rfl rfl (any_of HT_.out (by kernel_rfl)) (fun _ _ _ h => h) (Or.inl ⟨by rfl, ?_⟩) ?_ ?_
                              rotate_left
                              · intro w'
                                go_simp
                                with_reducible rfl
                              rotate_left
                              · simp only [Act.put, List.setIfInBounds_toArray, List.set_cons_zero, List.set_cons_succ, i64_w, i32_w]
                                rfl
                              refine pure_ (i := 9) (N := some 6) (v := ?_) (a' := ?_) #[true, true, true, true, true, true, false, false, true, true, false, false] rfl rfl (any_of HT_.out (by kernel_rfl)) (fun _ _ _ h => h) (Or.inl ⟨by rfl, ?_⟩) ?_ ?_
                              rotate_left
                              · intro w'
                                go_simp
                                with_reducible rfl
                              rotate_left
                              · simp only [Act.put, List.setIfInBounds_toArray, List.set_cons_zero, List.set_cons_succ, i64_w, i32_w]
                                rfl
                              exact norm_ (by first | (simp only [putAll, Act.put, List.setIfInBounds_toArray, List.set_cons_zero, List.set_cons_succ]; done) | (simp only [putAll, Act.put, List.setIfInBounds_toArray, List.set_cons_zero, List.set_cons_succ]; rfl)) (hJ2_5 (v103, v106) _ ⟨hHeld, (by (with_reducible repeat (first | apply Kd.R_alloc | apply Kd.R_drewN | apply Kd.R_drew)); exact Kd.R_mono HO104.out (fun _ hk => hk.2)), (by (with_reducible repeat (first | apply Kd.R_alloc | apply Kd.R_drewN | apply Kd.R_drew)); exact Kd.R_mono HO107.out (fun _ hk => hk.2)), (by (with_reducible repeat (first | refine blk_drewN ?_ _ | refine blk_drew ?_ | refine blk_alloc ?_ _)); exact BK101.out), (by repeat (first | (with_reducible first | exact HB.out | apply below_alloc | apply pw_below_drewN | apply below_drew1 | refine below_set ?_ GE101.out) | exact HB.out))⟩)
                            · skip
                              refine Kd.R_lit_step (Kd.int .i64) _ 3 ?hg (N := 21) ?hd (xs := ([] : List Int)) (inner := []) (ok := fun _ => True) (okp := fun _ => True) ?hr ?hp (fun _ hk => hk) trivial (Below.refl _ _) (Nat.le_refl _) (by simp) ?_; (case hd => rfl); (case hg => rfl); (case hr => first | (go_simp; done) | (go_simp; rfl)); (case hp => exact (Reps.none _ _))
                              intro v109 w10 ho11 hb hg_ hnew_
                              clear hg_ hnew_
                              (first | rw [← Ny108.out] at ho11 | (simp only [Int.reduceToNat] at ho11; rw [← Ny108.out] at ho11))
                              have n0_ := Aside0.mk (Kd.R_elder' (by (with_reducible repeat (first | apply Kd.R_alloc | apply Kd.R_drewN | apply Kd.R_drew)); exact HO107.out) (Kd.R_base ho11) hb)
                              have n1_ := Aside0.mk (Kd.R_lower (Kd.R_new' ho11 (Kd.R_lt (by (with_reducible repeat (first | apply Kd.R_alloc | apply Kd.R_drewN | apply Kd.R_drew)); exact HO107.out))) (below_size (by repeat (first | (with_reducible first | exact HB.out | apply below_alloc | apply pw_below_drewN | apply below_drew1 | refine below_set ?_ GE101.out) | exact HB.out))))
                              have n2_ := Aside0.mk (blk_below (g := gb101) (o := .cells #[.int .i64 a0_0, .int .i64 a0_1, .int .i64 a0_2] 27 (0, 0)) (by (with_reducible repeat (first | refine blk_drewN ?_ _ | refine blk_drew ?_ | refine blk_alloc ?_ _)); exact BK101.out) hb)
                              have n3_ := Aside0.mk (below_step (by repeat (first | (with_reducible first | exact HB.out | apply below_alloc | apply pw_below_drewN | apply below_drew1 | refine below_set ?_ GE101.out) | exact HB.out)) hb)
                              clear HO107
                              clear BK101
                              clear HB
                              have HO107 := n0_
                              have HO110 := n1_
                              have BK101 := n2_
                              have HB := n3_
                              clear n0_ n1_ n2_ n3_
                              clear hb ho11
                              refine hK.out _ _ ⟨(blk_cell BK101.out 0).trans rfl, (blk_cell BK101.out 1).trans rfl, (blk_cell BK101.out 2).trans rfl⟩ (fun hHeld => ?_)
                              clear hK K
                              refine norm_ (a' := ?_) ?_ ?_
                              rotate_left
                              · show Act.put _ (some 21) _ = _
                                simp only [Act.put, List.setIfInBounds_toArray, List.set_cons_zero, List.set_cons_succ, i64_w, i32_w]
                                rfl
                              exact norm_ (by first | (simp only [putAll, Act.put, List.setIfInBounds_toArray, List.set_cons_zero, List.set_cons_succ]; done) | (simp only [putAll, Act.put, List.setIfInBounds_toArray, List.set_cons_zero, List.set_cons_succ]; rfl)) (hJ5_6 (v106, v109) _ ⟨hHeld, (by (with_reducible repeat (first | apply Kd.R_alloc | apply Kd.R_drewN | apply Kd.R_drew)); exact Kd.R_mono HO107.out (fun _ hk => hk.2)), (by (with_reducible repeat (first | apply Kd.R_alloc | apply Kd.R_drewN | apply Kd.R_drew)); exact Kd.R_mono HO110.out (fun _ hk => hk.2)), (by (with_reducible repeat (first | refine blk_drewN ?_ _ | refine blk_drew ?_ | refine blk_alloc ?_ _)); exact BK101.out), (by repeat (first | (with_reducible first | exact HB.out | apply below_alloc | apply pw_below_drewN | apply below_drew1 | refine below_set ?_ GE101.out) | exact HB.out))⟩)
                            · skip
                              refine Kd.S_lit_step k44 _ 44 ?hg (N := 22) ?hd (xs := ([] : List (S44))) (inner := []) (ok := fun _ => True) (okp := fun _ => True) ?hr ?hp (fun _ hk => hk) trivial (Below.refl _ _) (Nat.le_refl _) (by simp) ?_; (case hd => rfl); (case hg => rfl); (case hr => first | (go_simp; done) | (go_simp; rfl)); (case hp => exact (Reps.none _ _))
                              intro v112 w10 ho11 hb hg_ hnew_
                              clear hg_ hnew_
                              (first | rw [← Ny111.out] at ho11 | (simp only [Int.reduceToNat] at ho11; rw [← Ny111.out] at ho11))
                              have n0_ := Aside0.mk (Kd.R_below (by (with_reducible repeat (first | apply Kd.R_alloc | apply Kd.R_drewN | apply Kd.R_drew)); exact HO107.out) hb)
                              have n1_ := Aside0.mk (Kd.S_lower (Kd.S_new' ho11 (Kd.R_lt (by (with_reducible repeat (first | apply Kd.R_alloc | apply Kd.R_drewN | apply Kd.R_drew)); exact HO107.out))) (below_size (by repeat (first | (with_reducible first | exact HB.out | apply below_alloc | apply pw_below_drewN | apply below_drew1 | refine below_set ?_ GE101.out) | exact HB.out))))
                              have n2_ := Aside0.mk (blk_below (g := gb101) (o := .cells #[.int .i64 a0_0, .int .i64 a0_1, .int .i64 a0_2] 27 (0, 0)) (by (with_reducible repeat (first | refine blk_drewN ?_ _ | refine blk_drew ?_ | refine blk_alloc ?_ _)); exact BK101.out) hb)
                              have n3_ := Aside0.mk (below_step (by repeat (first | (with_reducible first | exact HB.out | apply below_alloc | apply pw_below_drewN | apply below_drew1 | refine below_set ?_ GE101.out) | exact HB.out)) hb)
                              clear HO107
                              clear BK101
                              clear HB
                              have HO107 := n0_
                              have HO113 := n1_
                              have BK101 := n2_
                              have HB := n3_
                              clear n0_ n1_ n2_ n3_
                              clear hb ho11
                              refine hK.out _ _ ⟨(blk_cell BK101.out 0).trans rfl, (blk_cell BK101.out 1).trans rfl, (blk_cell BK101.out 2).trans rfl⟩ (fun hHeld => ?_)
                              clear hK K
                              refine norm_ (a' := ?_) ?_ ?_
                              rotate_left
                              · show Act.put _ (some 22) _ = _
                                simp only [Act.put, List.setIfInBounds_toArray, List.set_cons_zero, List.set_cons_succ, i64_w, i32_w]
                                rfl
                              exact norm_ (by first | (simp only [putAll, Act.put, List.setIfInBounds_toArray, List.set_cons_zero, List.set_cons_succ]; done) | (simp only [putAll, Act.put, List.setIfInBounds_toArray, List.set_cons_zero, List.set_cons_succ]; rfl)) (hJ5_7 (v106, v112) _ ⟨hHeld, (by (with_reducible repeat (first | apply Kd.R_alloc | apply Kd.R_drewN | apply Kd.R_drew)); exact HO107.out), (by (with_reducible repeat (first | apply Kd.S_alloc | apply Kd.S_drewN | apply Kd.S_drew)); exact Kd.S_mono HO113.out (fun _ hk => hk.2)), (by (with_reducible repeat (first | refine blk_drewN ?_ _ | refine blk_drew ?_ | refine blk_alloc ?_ _)); exact BK101.out), (by repeat (first | (with_reducible first | exact HB.out | apply below_alloc | apply pw_below_drewN | apply below_drew1 | refine below_set ?_ GE101.out) | exact HB.out))⟩)
                        · skip
                          rintro v103 w9 ⟨hS_, h0_, h1_, h2_⟩
                          have n0_ : Aside0 (Kd.R (Kd.int .i64) 3 w9 w.heap.size (fun _ => True) v103 y102) := ⟨h0_⟩
                          have n1_ : Aside0 (w9.heap[gb101]? = some (.cells #[.int .i64 a0_0, .int .i64 a0_1, .int .i64 a0_2] 27 (0, 0))) := ⟨h1_⟩
                          have n2_ : Aside0 (Below w.heap.size w w9) := ⟨h2_⟩
                          clear BK101
                          clear HB
                          clear h0_ h1_ h2_
                          have HO104 := n0_
                          have BK101 := n1_
                          have HB := n2_
                          clear n0_ n1_ n2_
                          have hHeld : w9.cell? ⟨gb101, 0, none⟩ = some (.int .i64 a0_0) ∧ w9.cell? ⟨gb101, 1, none⟩ = some (.int .i64 a0_1) ∧ w9.cell? ⟨gb101, 2, none⟩ = some (.int .i64 a0_2) := hS_
                          refine norm_ (a' := ?_) ?_ ?_
                          rotate_left
                          · simp only [putAll, Act.put, List.setIfInBounds_toArray, List.set_cons_zero, List.set_cons_succ]
                            rfl
                          refine three_ (i := 5) (j := 6) (k := 7) (Ni := some 20) (Nj := some 21) (Nk := some 22) #[true, true, true, true, true, true, false, false, true, false, false, false] #[true, true, true, true, true, false, true, false, true, false, false, false] #[true, true, true, true, true, false, false, true, true, false, false, false] rfl rfl rfl rfl rfl rfl (three_of HT_.out (by kernel_rfl)) (by decide) (by decide) (by decide) (fun K hK => ?_) (fun K hK => ?_) (fun K hK => ?_)
                          · skip
                            refine Kd.R_make_step (Kd.int .i64) _ 3 (by rfl) (N := 20) rfl 24 _ _ rfl a0_0 rfl rfl Try.underlying24 (.int .i64 0) 8 info3 rfl (by decide) (by omega) 0 (ok := fun _ => True) (okp := fun _ => True) rfl (fun _ hk => hk) trivial (of_decide_eq_true (by first | (with_reducible assumption) | assumption)) (Nat.le_trans (Nat.mul_le_mul_right _ (of_decide_eq_true (by first | (with_reducible assumption) | assumption) : a0_0.toNat ≤ 35184372088832)) (by omega)) (Below.refl _ _) (Nat.le_refl _) ?_
                            intro v106 w10 ho11 hb hg_ hnew_
                            clear hg_ hnew_
                            (first | rw [← Ny105.out] at ho11 | (simp only [Int.reduceToNat] at ho11; rw [← Ny105.out] at ho11))
                            have n0_ := Aside0.mk (Kd.R_elder' (by (with_reducible repeat (first | apply Kd.R_alloc | apply Kd.R_drewN | apply Kd.R_drew)); exact HO104.out) (Kd.R_base ho11) hb)
                            have n1_ := Aside0.mk (Kd.R_lower (Kd.R_new' ho11 (Kd.R_lt (by (with_reducible repeat (first | apply Kd.R_alloc | apply Kd.R_drewN | apply Kd.R_drew)); exact HO104.out))) (below_size (by repeat (first | (with_reducible first | exact HB.out | apply below_alloc | apply pw_below_drewN | apply below_drew1 | refine below_set ?_ GE101.out) | exact HB.out))))
                            have n2_ := Aside0.mk (blk_below (g := gb101) (o := .cells #[.int .i64 a0_0, .int .i64 a0_1, .int .i64 a0_2] 27 (0, 0)) (by (with_reducible repeat (first | refine blk_drewN ?_ _ | refine blk_drew ?_ | refine blk_alloc ?_ _)); exact BK101.out) hb)
                            have n3_ := Aside0.mk (below_step (by repeat (first | (with_reducible first | exact HB.out | apply below_alloc | apply pw_below_drewN | apply below_drew1 | refine below_set ?_ GE101.out) | exact HB.out)) hb)
                            clear HO104
                            clear BK101
                            clear HB
                            have HO104 := n0_
                            have HO107 := n1_
                            have BK101 := n2_
                            have HB := n3_
                            clear n0_ n1_ n2_ n3_
                            clear hb ho11
                            refine hK.out _ _ ⟨(blk_cell BK101.out 0).trans rfl, (blk_cell BK101.out 1).trans rfl, (blk_cell BK101.out 2).trans rfl⟩ (fun hHeld => ?_)
                            clear hK K
                            refine norm_ (a' := ?_) ?_ ?_
                            rotate_left
                            · show Act.put _ (some 20) _ = _
                              simp only [Act.put, List.setIfInBounds_toArray, List.set_cons_zero, List.set_cons_succ, i64_w, i32_w]
                              rfl
                            refine pure_ (i := 9) (N := some 6) (v := ?_) (a' := ?_) #[true, true, true, true, true, true, false, false, true, true, false, false] rfl rfl (any_of HT_.out (by kernel_rfl)) (fun _ _ _ h => h) (Or.inl ⟨by rfl, ?_⟩) ?_ ?_
                            rotate_left
                            · intro w'
                              go_simp
                              with_reducible rfl
                            rotate_left
                            · simp only [Act.put, List.setIfInBounds_toArray, List.set_cons_zero, List.set_cons_succ, i64_w, i32_w]
                              rfl
                            exact norm_ (by first | (simp only [putAll, Act.put, List.setIfInBounds_toArray, List.set_cons_zero, List.set_cons_succ]; done) | (simp only [putAll, Act.put, List.setIfInBounds_toArray, List.set_cons_zero, List.set_cons_succ]; rfl)) (hJ2_5 (v103, v106) _ ⟨hHeld, (by (with_reducible repeat (first | apply Kd.R_alloc | apply Kd.R_drewN | apply Kd.R_drew)); exact Kd.R_mono HO104.out (fun _ hk => hk.2)), (by (with_reducible repeat (first | apply Kd.R_alloc | apply Kd.R_drewN | apply Kd.R_drew)); exact Kd.R_mono HO107.out (fun _ hk => hk.2)), (by (with_reducible repeat (first | refine blk_drewN ?_ _ | refine blk_drew ?_ | refine blk_alloc ?_ _)); exact BK101.out), (by repeat (first | (with_reducible first | exact HB.out | apply below_alloc | apply pw_below_drewN | apply below_drew1 | refine below_set ?_ GE101.out) | exact HB.out))⟩)
                          · skip
                            refine Kd.R_lit_step (Kd.int .i64) _ 3 ?hg (N := 21) ?hd (xs := ([] : List Int)) (inner := []) (ok := fun _ => True) (okp := fun _ => True) ?hr ?hp (fun _ hk => hk) trivial (Below.refl _ _) (Nat.le_refl _) (by simp) ?_; (case hd => rfl); (case hg => rfl); (case hr => first | (go_simp; done) | (go_simp; rfl)); (case hp => exact (Reps.none _ _))
                            intro v109 w10 ho11 hb hg_ hnew_
                            clear hg_ hnew_
                            (first | rw [← Ny108.out] at ho11 | (simp only [Int.reduceToNat] at ho11; rw [← Ny108.out] at ho11))
                            have n0_ := Aside0.mk (Kd.R_elder' (by (with_reducible repeat (first | apply Kd.R_alloc | apply Kd.R_drewN | apply Kd.R_drew)); exact HO104.out) (Kd.R_base ho11) hb)
                            have n1_ := Aside0.mk (Kd.R_lower (Kd.R_new' ho11 (Kd.R_lt (by (with_reducible repeat (first | apply Kd.R_alloc | apply Kd.R_drewN | apply Kd.R_drew)); exact HO104.out))) (below_size (by repeat (first | (with_reducible first | exact HB.out | apply below_alloc | apply pw_below_drewN | apply below_drew1 | refine below_set ?_ GE101.out) | exact HB.out))))
                            have n2_ := Aside0.mk (blk_below (g := gb101) (o := .cells #[.int .i64 a0_0, .int .i64 a0_1, .int .i64 a0_2] 27 (0, 0)) (by (with_reducible repeat (first | refine blk_drewN ?_ _ | refine blk_drew ?_ | refine blk_alloc ?_ _)); exact BK101.out) hb)
                            have n3_ := Aside0.mk (below_step (by repeat (first | (with_reducible first | exact HB.out | apply below_alloc | apply pw_below_drewN | apply below_drew1 | refine below_set ?_ GE101.out) | exact HB.out)) hb)
                            clear HO104
                            clear BK101
                            clear HB
                            have HO104 := n0_
                            have HO110 := n1_
                            have BK101 := n2_
                            have HB := n3_
                            clear n0_ n1_ n2_ n3_
                            clear hb ho11
                            refine hK.out _ _ ⟨(blk_cell BK101.out 0).trans rfl, (blk_cell BK101.out 1).trans rfl, (blk_cell BK101.out 2).trans rfl⟩ (fun hHeld => ?_)
                            clear hK K
                            refine norm_ (a' := ?_) ?_ ?_
                            rotate_left
                            · show Act.put _ (some 21) _ = _
                              simp only [Act.put, List.setIfInBounds_toArray, List.set_cons_zero, List.set_cons_succ, i64_w, i32_w]
                              rfl
                            exact norm_ (by first | (simp only [putAll, Act.put, List.setIfInBounds_toArray, List.set_cons_zero, List.set_cons_succ]; done) | (simp only [putAll, Act.put, List.setIfInBounds_toArray, List.set_cons_zero, List.set_cons_succ]; rfl)) (hJ2_6 (v103, v109) _ ⟨hHeld, (by (with_reducible repeat (first | apply Kd.R_alloc | apply Kd.R_drewN | apply Kd.R_drew)); exact Kd.R_mono HO104.out (fun _ hk => hk.2)), (by (with_reducible repeat (first | apply Kd.R_alloc | apply Kd.R_drewN | apply Kd.R_drew)); exact Kd.R_mono HO110.out (fun _ hk => hk.2)), (by (with_reducible repeat (first | refine blk_drewN ?_ _ | refine blk_drew ?_ | refine blk_alloc ?_ _)); exact BK101.out), (by repeat (first | (with_reducible first | exact HB.out | apply below_alloc | apply pw_below_drewN | apply below_drew1 | refine below_set ?_ GE101.out) | exact HB.out))⟩)
                          · skip
                            refine Kd.S_lit_step k44 _ 44 ?hg (N := 22) ?hd (xs := ([] : List (S44))) (inner := []) (ok := fun _ => True) (okp := fun _ => True) ?hr ?hp (fun _ hk => hk) trivial (Below.refl _ _) (Nat.le_refl _) (by simp) ?_; (case hd => rfl); (case hg => rfl); (case hr => first | (go_simp; done) | (go_simp; rfl)); (case hp => exact (Reps.none _ _))
                            intro v112 w10 ho11 hb hg_ hnew_
                            clear hg_ hnew_
                            (first | rw [← Ny111.out] at ho11 | (simp only [Int.reduceToNat] at ho11; rw [← Ny111.out] at ho11))
                            have n0_ := Aside0.mk (Kd.R_below (by (with_reducible repeat (first | apply Kd.R_alloc | apply Kd.R_drewN | apply Kd.R_drew)); exact HO104.out) hb)
                            have n1_ := Aside0.mk (Kd.S_lower (Kd.S_new' ho11 (Kd.R_lt (by (with_reducible repeat (first | apply Kd.R_alloc | apply Kd.R_drewN | apply Kd.R_drew)); exact HO104.out))) (below_size (by repeat (first | (with_reducible first | exact HB.out | apply below_alloc | apply pw_below_drewN | apply below_drew1 | refine below_set ?_ GE101.out) | exact HB.out))))
                            have n2_ := Aside0.mk (blk_below (g := gb101) (o := .cells #[.int .i64 a0_0, .int .i64 a0_1, .int .i64 a0_2] 27 (0, 0)) (by (with_reducible repeat (first | refine blk_drewN ?_ _ | refine blk_drew ?_ | refine blk_alloc ?_ _)); exact BK101.out) hb)
                            have n3_ := Aside0.mk (below_step (by repeat (first | (with_reducible first | exact HB.out | apply below_alloc | apply pw_below_drewN | apply below_drew1 | refine below_set ?_ GE101.out) | exact HB.out)) hb)
                            clear HO104
                            clear BK101
                            clear HB
                            have HO104 := n0_
                            have HO113 := n1_
                            have BK101 := n2_
                            have HB := n3_
                            clear n0_ n1_ n2_ n3_
                            clear hb ho11
                            refine hK.out _ _ ⟨(blk_cell BK101.out 0).trans rfl, (blk_cell BK101.out 1).trans rfl, (blk_cell BK101.out 2).trans rfl⟩ (fun hHeld => ?_)
                            clear hK K
                            refine norm_ (a' := ?_) ?_ ?_
                            rotate_left
                            · show Act.put _ (some 22) _ = _
                              simp only [Act.put, List.setIfInBounds_toArray, List.set_cons_zero, List.set_cons_succ, i64_w, i32_w]
                              rfl
                            exact norm_ (by first | (simp only [putAll, Act.put, List.setIfInBounds_toArray, List.set_cons_zero, List.set_cons_succ]; done) | (simp only [putAll, Act.put, List.setIfInBounds_toArray, List.set_cons_zero, List.set_cons_succ]; rfl)) (hJ2_7 (v103, v112) _ ⟨hHeld, (by (with_reducible repeat (first | apply Kd.R_alloc | apply Kd.R_drewN | apply Kd.R_drew)); exact HO104.out), (by (with_reducible repeat (first | apply Kd.S_alloc | apply Kd.S_drewN | apply Kd.S_drew)); exact Kd.S_mono HO113.out (fun _ hk => hk.2)), (by (with_reducible repeat (first | refine blk_drewN ?_ _ | refine blk_drew ?_ | refine blk_alloc ?_ _)); exact BK101.out), (by repeat (first | (with_reducible first | exact HB.out | apply below_alloc | apply pw_below_drewN | apply below_drew1 | refine below_set ?_ GE101.out) | exact HB.out))⟩)
                      · skip
                        rintro ⟨v109, v112⟩ w11 ⟨hS_, h0_, h1_, h2_, h3_⟩
                        have n0_ : Aside0 (Kd.R (Kd.int .i64) 3 w11 w.heap.size (fun _ => True) v109 y108) := ⟨h0_⟩
                        have n1_ : Aside0 (Kd.S k44 44 w11 w.heap.size (fun k_ => some k_ ≠ (v109 : Value).ownBlock) v112 y111) := ⟨h1_⟩
                        have n2_ : Aside0 (w11.heap[gb101]? = some (.cells #[.int .i64 a0_0, .int .i64 a0_1, .int .i64 a0_2] 27 (0, 0))) := ⟨h2_⟩
                        have n3_ : Aside0 (Below w.heap.size w w11) := ⟨h3_⟩
                        clear BK101
                        clear HB
                        clear h0_ h1_ h2_ h3_
                        have HO110 := n0_
                        have HO113 := n1_
                        have BK101 := n2_
                        have HB := n3_
                        clear n0_ n1_ n2_ n3_
                        have hHeld : w11.cell? ⟨gb101, 0, none⟩ = some (.int .i64 a0_0) ∧ w11.cell? ⟨gb101, 1, none⟩ = some (.int .i64 a0_1) ∧ w11.cell? ⟨gb101, 2, none⟩ = some (.int .i64 a0_2) := hS_
                        refine norm_ (a' := ?_) ?_ ?_
                        rotate_left
                        · simp only [putAll, Act.put, List.setIfInBounds_toArray, List.set_cons_zero, List.set_cons_succ]
                          rfl
                        refine two_ (i := 2) (j := 5) (Ni := some 17) (Nj := some 20) #[true, true, true, true, true, false, true, true, false, false, false, false] #[true, true, false, true, true, true, true, true, false, false, false, false] rfl rfl rfl rfl (two_of HT_.out (by kernel_rfl)) (by decide) (by decide) (fun K hK => ?_) (fun K hK => ?_)
                        · skip
                          refine Kd.R_make_step (Kd.int .i64) _ 3 (by rfl) (N := 17) rfl 24 _ _ rfl a0_0 rfl rfl Try.underlying24 (.int .i64 0) 8 info3 rfl (by decide) (by omega) 0 (ok := fun _ => True) (okp := fun _ => True) rfl (fun _ hk => hk) trivial (of_decide_eq_true (by first | (with_reducible assumption) | assumption)) (Nat.le_trans (Nat.mul_le_mul_right _ (of_decide_eq_true (by first | (with_reducible assumption) | assumption) : a0_0.toNat ≤ 35184372088832)) (by omega)) (Below.refl _ _) (Nat.le_refl _) ?_
                          intro v103 w12 ho13 hb hg_ hnew_
                          clear hg_ hnew_
                          (first | rw [← Ny102.out] at ho13 | (simp only [Int.reduceToNat] at ho13; rw [← Ny102.out] at ho13))
                          have n0_ := Aside0.mk (Kd.R_elder' (by (with_reducible repeat (first | apply Kd.R_alloc | apply Kd.R_drewN | apply Kd.R_drew)); exact HO110.out) (Kd.R_base ho13) hb)
                          have n1_ := Aside0.mk (Kd.S_elder' (by (with_reducible repeat (first | apply Kd.S_alloc | apply Kd.S_drewN | apply Kd.S_drew)); exact HO113.out) (Kd.R_base ho13) hb)
                          have n2_ := Aside0.mk (Kd.R_lower (Kd.R_new' ho13 (Kd.R_lt (by (with_reducible repeat (first | apply Kd.R_alloc | apply Kd.R_drewN | apply Kd.R_drew)); exact HO110.out))) (below_size (by repeat (first | (with_reducible first | exact HB.out | apply below_alloc | apply pw_below_drewN | apply below_drew1 | refine below_set ?_ GE101.out) | exact HB.out))))
                          have n3_ := Aside0.mk (blk_below (g := gb101) (o := .cells #[.int .i64 a0_0, .int .i64 a0_1, .int .i64 a0_2] 27 (0, 0)) (by (with_reducible repeat (first | refine blk_drewN ?_ _ | refine blk_drew ?_ | refine blk_alloc ?_ _)); exact BK101.out) hb)
                          have n4_ := Aside0.mk (below_step (by repeat (first | (with_reducible first | exact HB.out | apply below_alloc | apply pw_below_drewN | apply below_drew1 | refine below_set ?_ GE101.out) | exact HB.out)) hb)
                          clear HO110
                          clear HO113
                          clear BK101
                          clear HB
                          have HO110 := n0_
                          have HO113 := n1_
                          have HO104 := n2_
                          have BK101 := n3_
                          have HB := n4_
                          clear n0_ n1_ n2_ n3_ n4_
                          clear hb ho13
                          refine hK.out _ _ ⟨(blk_cell BK101.out 0).trans rfl, (blk_cell BK101.out 1).trans rfl, (blk_cell BK101.out 2).trans rfl⟩ (fun hHeld => ?_)
                          clear hK K
                          refine norm_ (a' := ?_) ?_ ?_
                          rotate_left
                          · show Act.put _ (some 17) _ = _
                            simp only [Act.put, List.setIfInBounds_toArray, List.set_cons_zero, List.set_cons_succ, i64_w, i32_w]
                            rfl
                          refine pure_ (i := 8) (N := some 5) (v := ?_) (a' := ?_) #[true, true, true, true, true, false, true, true, true, false, false, false] rfl rfl (any_of HT_.out (by kernel_rfl)) (fun _ _ _ h => h) (Or.inl ⟨by rfl, ?_⟩) ?_ ?_
                          rotate_left
                          · intro w'
                            go_simp
                            with_reducible rfl
                          rotate_left
                          · simp only [Act.put, List.setIfInBounds_toArray, List.set_cons_zero, List.set_cons_succ, i64_w, i32_w]
                            rfl
                          exact norm_ (by first | (simp only [putAll, Act.put, List.setIfInBounds_toArray, List.set_cons_zero, List.set_cons_succ]; done) | (simp only [putAll, Act.put, List.setIfInBounds_toArray, List.set_cons_zero, List.set_cons_succ]; rfl)) (hJ2_6_7 (v103, v109, v112) _ ⟨hHeld, (by (with_reducible repeat (first | apply Kd.R_alloc | apply Kd.R_drewN | apply Kd.R_drew)); exact Kd.R_mono HO104.out (fun _ hk => hk.2)), (by (with_reducible repeat (first | apply Kd.R_alloc | apply Kd.R_drewN | apply Kd.R_drew)); exact Kd.R_mono HO110.out (fun _ hk => hk.2)), (by (with_reducible repeat (first | apply Kd.S_alloc | apply Kd.S_drewN | apply Kd.S_drew)); exact Kd.S_mono HO113.out (fun _ hk => ⟨hk.2, hk.1⟩)), (by (with_reducible repeat (first | refine blk_drewN ?_ _ | refine blk_drew ?_ | refine blk_alloc ?_ _)); exact BK101.out), (by repeat (first | (with_reducible first | exact HB.out | apply below_alloc | apply pw_below_drewN | apply below_drew1 | refine below_set ?_ GE101.out) | exact HB.out))⟩)
                        · skip
                          refine Kd.R_make_step (Kd.int .i64) _ 3 (by rfl) (N := 20) rfl 24 _ _ rfl a0_0 rfl rfl Try.underlying24 (.int .i64 0) 8 info3 rfl (by decide) (by omega) 0 (ok := fun _ => True) (okp := fun _ => True) rfl (fun _ hk => hk) trivial (of_decide_eq_true (by first | (with_reducible assumption) | assumption)) (Nat.le_trans (Nat.mul_le_mul_right _ (of_decide_eq_true (by first | (with_reducible assumption) | assumption) : a0_0.toNat ≤ 35184372088832)) (by omega)) (Below.refl _ _) (Nat.le_refl _) ?_
                          intro v106 w12 ho13 hb hg_ hnew_
                          clear hg_ hnew_
                          (first | rw [← Ny105.out] at ho13 | (simp only [Int.reduceToNat] at ho13; rw [← Ny105.out] at ho13))
                          have n0_ := Aside0.mk (Kd.R_elder' (by (with_reducible repeat (first | apply Kd.R_alloc | apply Kd.R_drewN | apply Kd.R_drew)); exact HO110.out) (Kd.R_base ho13) hb)
                          have n1_ := Aside0.mk (Kd.S_elder' (by (with_reducible repeat (first | apply Kd.S_alloc | apply Kd.S_drewN | apply Kd.S_drew)); exact HO113.out) (Kd.R_base ho13) hb)
                          have n2_ := Aside0.mk (Kd.R_lower (Kd.R_new' ho13 (Kd.R_lt (by (with_reducible repeat (first | apply Kd.R_alloc | apply Kd.R_drewN | apply Kd.R_drew)); exact HO110.out))) (below_size (by repeat (first | (with_reducible first | exact HB.out | apply below_alloc | apply pw_below_drewN | apply below_drew1 | refine below_set ?_ GE101.out) | exact HB.out))))
                          have n3_ := Aside0.mk (blk_below (g := gb101) (o := .cells #[.int .i64 a0_0, .int .i64 a0_1, .int .i64 a0_2] 27 (0, 0)) (by (with_reducible repeat (first | refine blk_drewN ?_ _ | refine blk_drew ?_ | refine blk_alloc ?_ _)); exact BK101.out) hb)
                          have n4_ := Aside0.mk (below_step (by repeat (first | (with_reducible first | exact HB.out | apply below_alloc | apply pw_below_drewN | apply below_drew1 | refine below_set ?_ GE101.out) | exact HB.out)) hb)
                          clear HO110
                          clear HO113
                          clear BK101
                          clear HB
                          have HO110 := n0_
                          have HO113 := n1_
                          have HO107 := n2_
                          have BK101 := n3_
                          have HB := n4_
                          clear n0_ n1_ n2_ n3_ n4_
                          clear hb ho13
                          refine hK.out _ _ ⟨(blk_cell BK101.out 0).trans rfl, (blk_cell BK101.out 1).trans rfl, (blk_cell BK101.out 2).trans rfl⟩ (fun hHeld => ?_)
                          clear hK K
                          refine norm_ (a' := ?_) ?_ ?_
                          rotate_left
                          · show Act.put _ (some 20) _ = _
                            simp only [Act.put, List.setIfInBounds_toArray, List.set_cons_zero, List.set_cons_succ, i64_w, i32_w]
                            rfl
                          exact norm_ (by first | (simp only [putAll, Act.put, List.setIfInBounds_toArray, List.set_cons_zero, List.set_cons_succ]; done) | (simp only [putAll, Act.put, List.setIfInBounds_toArray, List.set_cons_zero, List.set_cons_succ]; rfl)) (hJ5_6_7 (v106, v109, v112) _ ⟨hHeld, (by (with_reducible repeat (first | apply Kd.R_alloc | apply Kd.R_drewN | apply Kd.R_drew)); exact Kd.R_mono HO107.out (fun _ hk => hk.2)), (by (with_reducible repeat (first | apply Kd.R_alloc | apply Kd.R_drewN | apply Kd.R_drew)); exact Kd.R_mono HO110.out (fun _ hk => hk.2)), (by (with_reducible repeat (first | apply Kd.S_alloc | apply Kd.S_drewN | apply Kd.S_drew)); exact Kd.S_mono HO113.out (fun _ hk => ⟨hk.2, hk.1⟩)), (by (with_reducible repeat (first | refine blk_drewN ?_ _ | refine blk_drew ?_ | refine blk_alloc ?_ _)); exact BK101.out), (by repeat (first | (with_reducible first | exact HB.out | apply below_alloc | apply pw_below_drewN | apply below_drew1 | refine below_set ?_ GE101.out) | exact HB.out))⟩)
                    · skip
                      rintro ⟨v106, v112⟩ w11 ⟨hS_, h0_, h1_, h2_, h3_⟩
                      have n0_ : Aside0 (Kd.R (Kd.int .i64) 3 w11 w.heap.size (fun _ => True) v106 y105) := ⟨h0_⟩
                      have n1_ : Aside0 (Kd.S k44 44 w11 w.heap.size (fun k_ => some k_ ≠ (v106 : Value).ownBlock) v112 y111) := ⟨h1_⟩
                      have n2_ : Aside0 (w11.heap[gb101]? = some (.cells #[.int .i64 a0_0, .int .i64 a0_1, .int .i64 a0_2] 27 (0, 0))) := ⟨h2_⟩
                      have n3_ : Aside0 (Below w.heap.size w w11) := ⟨h3_⟩
                      clear BK101
                      clear HB
                      clear h0_ h1_ h2_ h3_
                      have HO107 := n0_
                      have HO113 := n1_
                      have BK101 := n2_
                      have HB := n3_
                      clear n0_ n1_ n2_ n3_
                      have hHeld : w11.cell? ⟨gb101, 0, none⟩ = some (.int .i64 a0_0) ∧ w11.cell? ⟨gb101, 1, none⟩ = some (.int .i64 a0_1) ∧ w11.cell? ⟨gb101, 2, none⟩ = some (.int .i64 a0_2) := hS_
                      refine norm_ (a' := ?_) ?_ ?_
                      rotate_left
                      · simp only [putAll, Act.put, List.setIfInBounds_toArray, List.set_cons_zero, List.set_cons_succ]
                        rfl
                      refine two_ (i := 2) (j := 6) (Ni := some 17) (Nj := some 21) #[true, true, true, true, true, true, false, true, false, false, false, false] #[true, true, false, true, true, true, true, true, false, false, false, false] rfl rfl rfl rfl (two_of HT_.out (by kernel_rfl)) (by decide) (by decide) (fun K hK => ?_) (fun K hK => ?_)
                      · skip
                        refine Kd.R_make_step (Kd.int .i64) _ 3 (by rfl) (N := 17) rfl 24 _ _ rfl a0_0 rfl rfl Try.underlying24 (.int .i64 0) 8 info3 rfl (by decide) (by omega) 0 (ok := fun _ => True) (okp := fun _ => True) rfl (fun _ hk => hk) trivial (of_decide_eq_true (by first | (with_reducible assumption) | assumption)) (Nat.le_trans (Nat.mul_le_mul_right _ (of_decide_eq_true (by first | (with_reducible assumption) | assumption) : a0_0.toNat ≤ 35184372088832)) (by omega)) (Below.refl _ _) (Nat.le_refl _) ?_
                        intro v103 w12 ho13 hb hg_ hnew_
                        clear hg_ hnew_
                        (first | rw [← Ny102.out] at ho13 | (simp only [Int.reduceToNat] at ho13; rw [← Ny102.out] at ho13))
                        have n0_ := Aside0.mk (Kd.R_elder' (by (with_reducible repeat (first | apply Kd.R_alloc | apply Kd.R_drewN | apply Kd.R_drew)); exact HO107.out) (Kd.R_base ho13) hb)
                        have n1_ := Aside0.mk (Kd.S_elder' (by (with_reducible repeat (first | apply Kd.S_alloc | apply Kd.S_drewN | apply Kd.S_drew)); exact HO113.out) (Kd.R_base ho13) hb)
                        have n2_ := Aside0.mk (Kd.R_lower (Kd.R_new' ho13 (Kd.R_lt (by (with_reducible repeat (first | apply Kd.R_alloc | apply Kd.R_drewN | apply Kd.R_drew)); exact HO107.out))) (below_size (by repeat (first | (with_reducible first | exact HB.out | apply below_alloc | apply pw_below_drewN | apply below_drew1 | refine below_set ?_ GE101.out) | exact HB.out))))
                        have n3_ := Aside0.mk (blk_below (g := gb101) (o := .cells #[.int .i64 a0_0, .int .i64 a0_1, .int .i64 a0_2] 27 (0, 0)) (by (with_reducible repeat (first | refine blk_drewN ?_ _ | refine blk_drew ?_ | refine blk_alloc ?_ _)); exact BK101.out) hb)
                        have n4_ := Aside0.mk (below_step (by repeat (first | (with_reducible first | exact HB.out | apply below_alloc | apply pw_below_drewN | apply below_drew1 | refine below_set ?_ GE101.out) | exact HB.out)) hb)
                        clear HO107
                        clear HO113
                        clear BK101
                        clear HB
                        have HO107 := n0_
                        have HO113 := n1_
                        have HO104 := n2_
                        have BK101 := n3_
                        have HB := n4_
                        clear n0_ n1_ n2_ n3_ n4_
                        clear hb ho13
                        refine hK.out _ _ ⟨(blk_cell BK101.out 0).trans rfl, (blk_cell BK101.out 1).trans rfl, (blk_cell BK101.out 2).trans rfl⟩ (fun hHeld => ?_)
                        clear hK K
                        refine norm_ (a' := ?_) ?_ ?_
                        rotate_left
                        · show Act.put _ (some 17) _ = _
                          simp only [Act.put, List.setIfInBounds_toArray, List.set_cons_zero, List.set_cons_succ, i64_w, i32_w]
                          rfl
                        refine pure_ (i := 8) (N := some 5) (v := ?_) (a' := ?_) #[true, true, true, true, true, true, false, true, true, false, false, false] rfl rfl (any_of HT_.out (by kernel_rfl)) (fun _ _ _ h => h) (Or.inl ⟨by rfl, ?_⟩) ?_ ?_
                        rotate_left
                        · intro w'
                          go_simp
                          with_reducible rfl
                        rotate_left
                        · simp only [Act.put, List.setIfInBounds_toArray, List.set_cons_zero, List.set_cons_succ, i64_w, i32_w]
                          rfl
                        refine pure_ (i := 9) (N := some 6) (v := ?_) (a' := ?_) #[true, true, true, true, true, true, false, true, true, true, false, false] rfl rfl (any_of HT_.out (by kernel_rfl)) (fun _ _ _ h => h) (Or.inl ⟨by rfl, ?_⟩) ?_ ?_
                        rotate_left
                        · intro w'
                          go_simp
                          with_reducible rfl
                        rotate_left
                        · simp only [Act.put, List.setIfInBounds_toArray, List.set_cons_zero, List.set_cons_succ, i64_w, i32_w]
                          rfl
                        exact norm_ (by first | (simp only [putAll, Act.put, List.setIfInBounds_toArray, List.set_cons_zero, List.set_cons_succ]; done) | (simp only [putAll, Act.put, List.setIfInBounds_toArray, List.set_cons_zero, List.set_cons_succ]; rfl)) (hJ2_5_7 (v103, v106, v112) _ ⟨hHeld, (by (with_reducible repeat (first | apply Kd.R_alloc | apply Kd.R_drewN | apply Kd.R_drew)); exact Kd.R_mono HO104.out (fun _ hk => hk.2)), (by (with_reducible repeat (first | apply Kd.R_alloc | apply Kd.R_drewN | apply Kd.R_drew)); exact Kd.R_mono HO107.out (fun _ hk => hk.2)), (by (with_reducible repeat (first | apply Kd.S_alloc | apply Kd.S_drewN | apply Kd.S_drew)); exact Kd.S_mono HO113.out (fun _ hk => ⟨hk.2, hk.1⟩)), (by (with_reducible repeat (first | refine blk_drewN ?_ _ | refine blk_drew ?_ | refine blk_alloc ?_ _)); exact BK101.out), (by repeat (first | (with_reducible first | exact HB.out | apply below_alloc | apply pw_below_drewN | apply below_drew1 | refine below_set ?_ GE101.out) | exact HB.out))⟩)
                      · skip
                        refine Kd.R_lit_step (Kd.int .i64) _ 3 ?hg (N := 21) ?hd (xs := ([] : List Int)) (inner := []) (ok := fun _ => True) (okp := fun _ => True) ?hr ?hp (fun _ hk => hk) trivial (Below.refl _ _) (Nat.le_refl _) (by simp) ?_; (case hd => rfl); (case hg => rfl); (case hr => first | (go_simp; done) | (go_simp; rfl)); (case hp => exact (Reps.none _ _))
                        intro v109 w12 ho13 hb hg_ hnew_
                        clear hg_ hnew_
                        (first | rw [← Ny108.out] at ho13 | (simp only [Int.reduceToNat] at ho13; rw [← Ny108.out] at ho13))
                        have n0_ := Aside0.mk (Kd.R_elder' (by (with_reducible repeat (first | apply Kd.R_alloc | apply Kd.R_drewN | apply Kd.R_drew)); exact HO107.out) (Kd.R_base ho13) hb)
                        have n1_ := Aside0.mk (Kd.S_elder' (by (with_reducible repeat (first | apply Kd.S_alloc | apply Kd.S_drewN | apply Kd.S_drew)); exact HO113.out) (Kd.R_base ho13) hb)
                        have n2_ := Aside0.mk (Kd.R_lower (Kd.R_new' ho13 (Kd.R_lt (by (with_reducible repeat (first | apply Kd.R_alloc | apply Kd.R_drewN | apply Kd.R_drew)); exact HO107.out))) (below_size (by repeat (first | (with_reducible first | exact HB.out | apply below_alloc | apply pw_below_drewN | apply below_drew1 | refine below_set ?_ GE101.out) | exact HB.out))))
                        have n3_ := Aside0.mk (blk_below (g := gb101) (o := .cells #[.int .i64 a0_0, .int .i64 a0_1, .int .i64 a0_2] 27 (0, 0)) (by (with_reducible repeat (first | refine blk_drewN ?_ _ | refine blk_drew ?_ | refine blk_alloc ?_ _)); exact BK101.out) hb)
                        have n4_ := Aside0.mk (below_step (by repeat (first | (with_reducible first | exact HB.out | apply below_alloc | apply pw_below_drewN | apply below_drew1 | refine below_set ?_ GE101.out) | exact HB.out)) hb)
                        clear HO107
                        clear HO113
                        clear BK101
                        clear HB
                        have HO107 := n0_
                        have HO113 := n1_
                        have HO110 := n2_
                        have BK101 := n3_
                        have HB := n4_
                        clear n0_ n1_ n2_ n3_ n4_
                        clear hb ho13
                        refine hK.out _ _ ⟨(blk_cell BK101.out 0).trans rfl, (blk_cell BK101.out 1).trans rfl, (blk_cell BK101.out 2).trans rfl⟩ (fun hHeld => ?_)
                        clear hK K
                        refine norm_ (a' := ?_) ?_ ?_
                        rotate_left
                        · show Act.put _ (some 21) _ = _
                          simp only [Act.put, List.setIfInBounds_toArray, List.set_cons_zero, List.set_cons_succ, i64_w, i32_w]
                          rfl
                        exact norm_ (by first | (simp only [putAll, Act.put, List.setIfInBounds_toArray, List.set_cons_zero, List.set_cons_succ]; done) | (simp only [putAll, Act.put, List.setIfInBounds_toArray, List.set_cons_zero, List.set_cons_succ]; rfl)) (hJ5_6_7 (v106, v109, v112) _ ⟨hHeld, (by (with_reducible repeat (first | apply Kd.R_alloc | apply Kd.R_drewN | apply Kd.R_drew)); exact Kd.R_mono HO107.out (fun _ hk => hk.2)), (by (with_reducible repeat (first | apply Kd.R_alloc | apply Kd.R_drewN | apply Kd.R_drew)); exact Kd.R_mono HO110.out (fun _ hk => hk.2)), (by (with_reducible repeat (first | apply Kd.S_alloc | apply Kd.S_drewN | apply Kd.S_drew)); exact HO113.out), (by (with_reducible repeat (first | refine blk_drewN ?_ _ | refine blk_drew ?_ | refine blk_alloc ?_ _)); exact BK101.out), (by repeat (first | (with_reducible first | exact HB.out | apply below_alloc | apply pw_below_drewN | apply below_drew1 | refine below_set ?_ GE101.out) | exact HB.out))⟩)
                  · skip
                    rintro ⟨v106, v109⟩ w11 ⟨hS_, h0_, h1_, h2_, h3_⟩
                    have n0_ : Aside0 (Kd.R (Kd.int .i64) 3 w11 w.heap.size (fun k_ => some k_ ≠ (v109 : Value).ownBlock) v106 y105) := ⟨h0_⟩
                    have n1_ : Aside0 (Kd.R (Kd.int .i64) 3 w11 w.heap.size (fun k_ => some k_ ≠ (v106 : Value).ownBlock) v109 y108) := ⟨h1_⟩
                    have n2_ : Aside0 (w11.heap[gb101]? = some (.cells #[.int .i64 a0_0, .int .i64 a0_1, .int .i64 a0_2] 27 (0, 0))) := ⟨h2_⟩
                    have n3_ : Aside0 (Below w.heap.size w w11) := ⟨h3_⟩
                    clear BK101
                    clear HB
                    clear h0_ h1_ h2_ h3_
                    have HO107 := n0_
                    have HO110 := n1_
                    have BK101 := n2_
                    have HB := n3_
                    clear n0_ n1_ n2_ n3_
                    have hHeld : w11.cell? ⟨gb101, 0, none⟩ = some (.int .i64 a0_0) ∧ w11.cell? ⟨gb101, 1, none⟩ = some (.int .i64 a0_1) ∧ w11.cell? ⟨gb101, 2, none⟩ = some (.int .i64 a0_2) := hS_
                    refine norm_ (a' := ?_) ?_ ?_
                    rotate_left
                    · simp only [putAll, Act.put, List.setIfInBounds_toArray, List.set_cons_zero, List.set_cons_succ]
                      rfl
                    refine two_ (i := 2) (j := 7) (Ni := some 17) (Nj := some 22) #[true, true, true, true, true, true, true, false, false, false, false, false] #[true, true, false, true, true, true, true, true, false, false, false, false] rfl rfl rfl rfl (two_of HT_.out (by kernel_rfl)) (by decide) (by decide) (fun K hK => ?_) (fun K hK => ?_)
                    · skip
                      refine Kd.R_make_step (Kd.int .i64) _ 3 (by rfl) (N := 17) rfl 24 _ _ rfl a0_0 rfl rfl Try.underlying24 (.int .i64 0) 8 info3 rfl (by decide) (by omega) 0 (ok := fun _ => True) (okp := fun _ => True) rfl (fun _ hk => hk) trivial (of_decide_eq_true (by first | (with_reducible assumption) | assumption)) (Nat.le_trans (Nat.mul_le_mul_right _ (of_decide_eq_true (by first | (with_reducible assumption) | assumption) : a0_0.toNat ≤ 35184372088832)) (by omega)) (Below.refl _ _) (Nat.le_refl _) ?_
                      intro v103 w12 ho13 hb hg_ hnew_
                      clear hg_ hnew_
                      (first | rw [← Ny102.out] at ho13 | (simp only [Int.reduceToNat] at ho13; rw [← Ny102.out] at ho13))
                      have n0_ := Aside0.mk (Kd.R_elder' (by (with_reducible repeat (first | apply Kd.R_alloc | apply Kd.R_drewN | apply Kd.R_drew)); exact HO107.out) (Kd.R_base ho13) hb)
                      have n1_ := Aside0.mk (Kd.R_elder' (by (with_reducible repeat (first | apply Kd.R_alloc | apply Kd.R_drewN | apply Kd.R_drew)); exact HO110.out) (Kd.R_base ho13) hb)
                      have n2_ := Aside0.mk (Kd.R_lower (Kd.R_new' (Kd.R_new' ho13 (Kd.R_lt (by (with_reducible repeat (first | apply Kd.R_alloc | apply Kd.R_drewN | apply Kd.R_drew)); exact HO107.out))) (Kd.R_lt (by (with_reducible repeat (first | apply Kd.R_alloc | apply Kd.R_drewN | apply Kd.R_drew)); exact HO110.out))) (below_size (by repeat (first | (with_reducible first | exact HB.out | apply below_alloc | apply pw_below_drewN | apply below_drew1 | refine below_set ?_ GE101.out) | exact HB.out))))
                      have n3_ := Aside0.mk (blk_below (g := gb101) (o := .cells #[.int .i64 a0_0, .int .i64 a0_1, .int .i64 a0_2] 27 (0, 0)) (by (with_reducible repeat (first | refine blk_drewN ?_ _ | refine blk_drew ?_ | refine blk_alloc ?_ _)); exact BK101.out) hb)
                      have n4_ := Aside0.mk (below_step (by repeat (first | (with_reducible first | exact HB.out | apply below_alloc | apply pw_below_drewN | apply below_drew1 | refine below_set ?_ GE101.out) | exact HB.out)) hb)
                      clear HO107
                      clear HO110
                      clear BK101
                      clear HB
                      have HO107 := n0_
                      have HO110 := n1_
                      have HO104 := n2_
                      have BK101 := n3_
                      have HB := n4_
                      clear n0_ n1_ n2_ n3_ n4_
                      clear hb ho13
                      refine hK.out _ _ ⟨(blk_cell BK101.out 0).trans rfl, (blk_cell BK101.out 1).trans rfl, (blk_cell BK101.out 2).trans rfl⟩ (fun hHeld => ?_)
                      clear hK K
                      refine norm_ (a' := ?_) ?_ ?_
                      rotate_left
                      · show Act.put _ (some 17) _ = _
                        simp only [Act.put, List.setIfInBounds_toArray, List.set_cons_zero, List.set_cons_succ, i64_w, i32_w]
                        rfl
                      refine pure_ (i := 8) (N := some 5) (v := ?_) (a' := ?_) #[true, true, true, true, true, true, true, false, true, false, false, false] rfl rfl (any_of HT_.out (by kernel_rfl)) (fun _ _ _ h => h) (Or.inl ⟨by rfl, ?_⟩) ?_ ?_
                      rotate_left
                      · intro w'
                        go_simp
                        with_reducible rfl
                      rotate_left
                      · simp only [Act.put, List.setIfInBounds_toArray, List.set_cons_zero, List.set_cons_succ, i64_w, i32_w]
                        rfl
                      refine pure_ (i := 9) (N := some 6) (v := ?_) (a' := ?_) #[true, true, true, true, true, true, true, false, true, true, false, false] rfl rfl (any_of HT_.out (by kernel_rfl)) (fun _ _ _ h => h) (Or.inl ⟨by rfl, ?_⟩) ?_ ?_
                      rotate_left
                      · intro w'
                        go_simp
                        with_reducible rfl
                      rotate_left
                      · simp only [Act.put, List.setIfInBounds_toArray, List.set_cons_zero, List.set_cons_succ, i64_w, i32_w]
                        rfl
                      refine pure_ (i := 10) (N := some 7) (v := ?_) (a' := ?_) #[true, true, true, true, true, true, true, false, true, true, true, false] rfl rfl (any_of HT_.out (by kernel_rfl)) (fun _ _ _ h => h) (Or.inl ⟨by rfl, ?_⟩) ?_ ?_
                      rotate_left
                      · intro w'
                        go_simp
                        with_reducible rfl
                      rotate_left
                      · simp only [Act.put, List.setIfInBounds_toArray, List.set_cons_zero, List.set_cons_succ, i64_w, i32_w]
                        rfl
                      exact norm_ (by first | (simp only [putAll, Act.put, List.setIfInBounds_toArray, List.set_cons_zero, List.set_cons_succ]; done) | (simp only [putAll, Act.put, List.setIfInBounds_toArray, List.set_cons_zero, List.set_cons_succ]; rfl)) (hJ2_5_6 (v103, v106, v109) _ ⟨hHeld, (by (with_reducible repeat (first | apply Kd.R_alloc | apply Kd.R_drewN | apply Kd.R_drew)); exact Kd.R_mono HO104.out (fun _ hk => ⟨hk.1.2, hk.2⟩)), (by (with_reducible repeat (first | apply Kd.R_alloc | apply Kd.R_drewN | apply Kd.R_drew)); exact Kd.R_mono HO107.out (fun _ hk => ⟨hk.2, hk.1⟩)), (by (with_reducible repeat (first | apply Kd.R_alloc | apply Kd.R_drewN | apply Kd.R_drew)); exact Kd.R_mono HO110.out (fun _ hk => ⟨hk.2, hk.1⟩)), (by (with_reducible repeat (first | refine blk_drewN ?_ _ | refine blk_drew ?_ | refine blk_alloc ?_ _)); exact BK101.out), (by repeat (first | (with_reducible first | exact HB.out | apply below_alloc | apply pw_below_drewN | apply below_drew1 | refine below_set ?_ GE101.out) | exact HB.out))⟩)
                    · skip
                      refine Kd.S_lit_step k44 _ 44 ?hg (N := 22) ?hd (xs := ([] : List (S44))) (inner := []) (ok := fun _ => True) (okp := fun _ => True) ?hr ?hp (fun _ hk => hk) trivial (Below.refl _ _) (Nat.le_refl _) (by simp) ?_; (case hd => rfl); (case hg => rfl); (case hr => first | (go_simp; done) | (go_simp; rfl)); (case hp => exact (Reps.none _ _))
                      intro v112 w12 ho13 hb hg_ hnew_
                      clear hg_ hnew_
                      (first | rw [← Ny111.out] at ho13 | (simp only [Int.reduceToNat] at ho13; rw [← Ny111.out] at ho13))
                      have n0_ := Aside0.mk (Kd.R_below (by (with_reducible repeat (first | apply Kd.R_alloc | apply Kd.R_drewN | apply Kd.R_drew)); exact HO107.out) hb)
                      have n1_ := Aside0.mk (Kd.R_below (by (with_reducible repeat (first | apply Kd.R_alloc | apply Kd.R_drewN | apply Kd.R_drew)); exact HO110.out) hb)
                      have n2_ := Aside0.mk (Kd.S_lower (Kd.S_new' (Kd.S_new' ho13 (Kd.R_lt (by (with_reducible repeat (first | apply Kd.R_alloc | apply Kd.R_drewN | apply Kd.R_drew)); exact HO107.out))) (Kd.R_lt (by (with_reducible repeat (first | apply Kd.R_alloc | apply Kd.R_drewN | apply Kd.R_drew)); exact HO110.out))) (below_size (by repeat (first | (with_reducible first | exact HB.out | apply below_alloc | apply pw_below_drewN | apply below_drew1 | refine below_set ?_ GE101.out) | exact HB.out))))
                      have n3_ := Aside0.mk (blk_below (g := gb101) (o := .cells #[.int .i64 a0_0, .int .i64 a0_1, .int .i64 a0_2] 27 (0, 0)) (by (with_reducible repeat (first | refine blk_drewN ?_ _ | refine blk_drew ?_ | refine blk_alloc ?_ _)); exact BK101.out) hb)
                      have n4_ := Aside0.mk (below_step (by repeat (first | (with_reducible first | exact HB.out | apply below_alloc | apply pw_below_drewN | apply below_drew1 | refine below_set ?_ GE101.out) | exact HB.out)) hb)
                      clear HO107
                      clear HO110
                      clear BK101
                      clear HB
                      have HO107 := n0_
                      have HO110 := n1_
                      have HO113 := n2_
                      have BK101 := n3_
                      have HB := n4_
                      clear n0_ n1_ n2_ n3_ n4_
                      clear hb ho13
                      refine hK.out _ _ ⟨(blk_cell BK101.out 0).trans rfl, (blk_cell BK101.out 1).trans rfl, (blk_cell BK101.out 2).trans rfl⟩ (fun hHeld => ?_)
                      clear hK K
                      refine norm_ (a' := ?_) ?_ ?_
                      rotate_left
                      · show Act.put _ (some 22) _ = _
                        simp only [Act.put, List.setIfInBounds_toArray, List.set_cons_zero, List.set_cons_succ, i64_w, i32_w]
                        rfl
                      exact norm_ (by first | (simp only [putAll, Act.put, List.setIfInBounds_toArray, List.set_cons_zero, List.set_cons_succ]; done) | (simp only [putAll, Act.put, List.setIfInBounds_toArray, List.set_cons_zero, List.set_cons_succ]; rfl)) (hJ5_6_7 (v106, v109, v112) _ ⟨hHeld, (by (with_reducible repeat (first | apply Kd.R_alloc | apply Kd.R_drewN | apply Kd.R_drew)); exact HO107.out), (by (with_reducible repeat (first | apply Kd.R_alloc | apply Kd.R_drewN | apply Kd.R_drew)); exact HO110.out), (by (with_reducible repeat (first | apply Kd.S_alloc | apply Kd.S_drewN | apply Kd.S_drew)); exact Kd.S_mono HO113.out (fun _ hk => ⟨hk.1.2, hk.2⟩)), (by (with_reducible repeat (first | refine blk_drewN ?_ _ | refine blk_drew ?_ | refine blk_alloc ?_ _)); exact BK101.out), (by repeat (first | (with_reducible first | exact HB.out | apply below_alloc | apply pw_below_drewN | apply below_drew1 | refine below_set ?_ GE101.out) | exact HB.out))⟩)
                · skip
                  rintro ⟨v103, v112⟩ w11 ⟨hS_, h0_, h1_, h2_, h3_⟩
                  have n0_ : Aside0 (Kd.R (Kd.int .i64) 3 w11 w.heap.size (fun _ => True) v103 y102) := ⟨h0_⟩
                  have n1_ : Aside0 (Kd.S k44 44 w11 w.heap.size (fun k_ => some k_ ≠ (v103 : Value).ownBlock) v112 y111) := ⟨h1_⟩
                  have n2_ : Aside0 (w11.heap[gb101]? = some (.cells #[.int .i64 a0_0, .int .i64 a0_1, .int .i64 a0_2] 27 (0, 0))) := ⟨h2_⟩
                  have n3_ : Aside0 (Below w.heap.size w w11) := ⟨h3_⟩
                  clear BK101
                  clear HB
                  clear h0_ h1_ h2_ h3_
                  have HO104 := n0_
                  have HO113 := n1_
                  have BK101 := n2_
                  have HB := n3_
                  clear n0_ n1_ n2_ n3_
                  have hHeld : w11.cell? ⟨gb101, 0, none⟩ = some (.int .i64 a0_0) ∧ w11.cell? ⟨gb101, 1, none⟩ = some (.int .i64 a0_1) ∧ w11.cell? ⟨gb101, 2, none⟩ = some (.int .i64 a0_2) := hS_
                  refine norm_ (a' := ?_) ?_ ?_
                  rotate_left
                  · simp only [putAll, Act.put, List.setIfInBounds_toArray, List.set_cons_zero, List.set_cons_succ]
                    rfl
                  refine two_ (i := 5) (j := 6) (Ni := some 20) (Nj := some 21) #[true, true, true, true, true, true, false, true, true, false, false, false] #[true, true, true, true, true, false, true, true, true, false, false, false] rfl rfl rfl rfl (two_of HT_.out (by kernel_rfl)) (by decide) (by decide) (fun K hK => ?_) (fun K hK => ?_)
                  · skip
                    refine Kd.R_make_step (Kd.int .i64) _ 3 (by rfl) (N := 20) rfl 24 _ _ rfl a0_0 rfl rfl Try.underlying24 (.int .i64 0) 8 info3 rfl (by decide) (by omega) 0 (ok := fun _ => True) (okp := fun _ => True) rfl (fun _ hk => hk) trivial (of_decide_eq_true (by first | (with_reducible assumption) | assumption)) (Nat.le_trans (Nat.mul_le_mul_right _ (of_decide_eq_true (by first | (with_reducible assumption) | assumption) : a0_0.toNat ≤ 35184372088832)) (by omega)) (Below.refl _ _) (Nat.le_refl _) ?_
                    intro v106 w12 ho13 hb hg_ hnew_
                    clear hg_ hnew_
                    (first | rw [← Ny105.out] at ho13 | (simp only [Int.reduceToNat] at ho13; rw [← Ny105.out] at ho13))
                    have n0_ := Aside0.mk (Kd.R_elder' (by (with_reducible repeat (first | apply Kd.R_alloc | apply Kd.R_drewN | apply Kd.R_drew)); exact HO104.out) (Kd.R_base ho13) hb)
                    have n1_ := Aside0.mk (Kd.S_elder' (by (with_reducible repeat (first | apply Kd.S_alloc | apply Kd.S_drewN | apply Kd.S_drew)); exact HO113.out) (Kd.R_base ho13) hb)
                    have n2_ := Aside0.mk (Kd.R_lower (Kd.R_new' ho13 (Kd.R_lt (by (with_reducible repeat (first | apply Kd.R_alloc | apply Kd.R_drewN | apply Kd.R_drew)); exact HO104.out))) (below_size (by repeat (first | (with_reducible first | exact HB.out | apply below_alloc | apply pw_below_drewN | apply below_drew1 | refine below_set ?_ GE101.out) | exact HB.out))))
                    have n3_ := Aside0.mk (blk_below (g := gb101) (o := .cells #[.int .i64 a0_0, .int .i64 a0_1, .int .i64 a0_2] 27 (0, 0)) (by (with_reducible repeat (first | refine blk_drewN ?_ _ | refine blk_drew ?_ | refine blk_alloc ?_ _)); exact BK101.out) hb)
                    have n4_ := Aside0.mk (below_step (by repeat (first | (with_reducible first | exact HB.out | apply below_alloc | apply pw_below_drewN | apply below_drew1 | refine below_set ?_ GE101.out) | exact HB.out)) hb)
                    clear HO104
                    clear HO113
                    clear BK101
                    clear HB
                    have HO104 := n0_
                    have HO113 := n1_
                    have HO107 := n2_
                    have BK101 := n3_
                    have HB := n4_
                    clear n0_ n1_ n2_ n3_ n4_
                    clear hb ho13
                    refine hK.out _ _ ⟨(blk_cell BK101.out 0).trans rfl, (blk_cell BK101.out 1).trans rfl, (blk_cell BK101.out 2).trans rfl⟩ (fun hHeld => ?_)
                    clear hK K
                    refine norm_ (a' := ?_) ?_ ?_
                    rotate_left
                    · show Act.put _ (some 20) _ = _
                      simp only [Act.put, List.setIfInBounds_toArray, List.set_cons_zero, List.set_cons_succ, i64_w, i32_w]
                      rfl
                    refine pure_ (i := 9) (N := some 6) (v := ?_) (a' := ?_) #[true, true, true, true, true, true, false, true, true, true, false, false] rfl rfl (any_of HT_.out (by kernel_rfl)) (fun _ _ _ h => h) (Or.inl ⟨by rfl, ?_⟩) ?_ ?_
                    rotate_left
                    · intro w'
                      go_simp
                      with_reducible rfl
                    rotate_left
                    · simp only [Act.put, List.setIfInBounds_toArray, List.set_cons_zero, List.set_cons_succ, i64_w, i32_w]
                      rfl
                    exact norm_ (by first | (simp only [putAll, Act.put, List.setIfInBounds_toArray, List.set_cons_zero, List.set_cons_succ]; done) | (simp only [putAll, Act.put, List.setIfInBounds_toArray, List.set_cons_zero, List.set_cons_succ]; rfl)) (hJ2_5_7 (v103, v106, v112) _ ⟨hHeld, (by (with_reducible repeat (first | apply Kd.R_alloc | apply Kd.R_drewN | apply Kd.R_drew)); exact Kd.R_mono HO104.out (fun _ hk => hk.2)), (by (with_reducible repeat (first | apply Kd.R_alloc | apply Kd.R_drewN | apply Kd.R_drew)); exact Kd.R_mono HO107.out (fun _ hk => hk.2)), (by (with_reducible repeat (first | apply Kd.S_alloc | apply Kd.S_drewN | apply Kd.S_drew)); exact HO113.out), (by (with_reducible repeat (first | refine blk_drewN ?_ _ | refine blk_drew ?_ | refine blk_alloc ?_ _)); exact BK101.out), (by repeat (first | (with_reducible first | exact HB.out | apply below_alloc | apply pw_below_drewN | apply below_drew1 | refine below_set ?_ GE101.out) | exact HB.out))⟩)
                  · skip
                    refine Kd.R_lit_step (Kd.int .i64) _ 3 ?hg (N := 21) ?hd (xs := ([] : List Int)) (inner := []) (ok := fun _ => True) (okp := fun _ => True) ?hr ?hp (fun _ hk => hk) trivial (Below.refl _ _) (Nat.le_refl _) (by simp) ?_; (case hd => rfl); (case hg => rfl); (case hr => first | (go_simp; done) | (go_simp; rfl)); (case hp => exact (Reps.none _ _))
                    intro v109 w12 ho13 hb hg_ hnew_
                    clear hg_ hnew_
                    (first | rw [← Ny108.out] at ho13 | (simp only [Int.reduceToNat] at ho13; rw [← Ny108.out] at ho13))
                    have n0_ := Aside0.mk (Kd.R_elder' (by (with_reducible repeat (first | apply Kd.R_alloc | apply Kd.R_drewN | apply Kd.R_drew)); exact HO104.out) (Kd.R_base ho13) hb)
                    have n1_ := Aside0.mk (Kd.S_elder' (by (with_reducible repeat (first | apply Kd.S_alloc | apply Kd.S_drewN | apply Kd.S_drew)); exact HO113.out) (Kd.R_base ho13) hb)
                    have n2_ := Aside0.mk (Kd.R_lower (Kd.R_new' ho13 (Kd.R_lt (by (with_reducible repeat (first | apply Kd.R_alloc | apply Kd.R_drewN | apply Kd.R_drew)); exact HO104.out))) (below_size (by repeat (first | (with_reducible first | exact HB.out | apply below_alloc | apply pw_below_drewN | apply below_drew1 | refine below_set ?_ GE101.out) | exact HB.out))))
                    have n3_ := Aside0.mk (blk_below (g := gb101) (o := .cells #[.int .i64 a0_0, .int .i64 a0_1, .int .i64 a0_2] 27 (0, 0)) (by (with_reducible repeat (first | refine blk_drewN ?_ _ | refine blk_drew ?_ | refine blk_alloc ?_ _)); exact BK101.out) hb)
                    have n4_ := Aside0.mk (below_step (by repeat (first | (with_reducible first | exact HB.out | apply below_alloc | apply pw_below_drewN | apply below_drew1 | refine below_set ?_ GE101.out) | exact HB.out)) hb)
                    clear HO104
                    clear HO113
                    clear BK101
                    clear HB
                    have HO104 := n0_
                    have HO113 := n1_
                    have HO110 := n2_
                    have BK101 := n3_
                    have HB := n4_
                    clear n0_ n1_ n2_ n3_ n4_
                    clear hb ho13
                    refine hK.out _ _ ⟨(blk_cell BK101.out 0).trans rfl, (blk_cell BK101.out 1).trans rfl, (blk_cell BK101.out 2).trans rfl⟩ (fun hHeld => ?_)
                    clear hK K
                    refine norm_ (a' := ?_) ?_ ?_
                    rotate_left
                    · show Act.put _ (some 21) _ = _
                      simp only [Act.put, List.setIfInBounds_toArray, List.set_cons_zero, List.set_cons_succ, i64_w, i32_w]
                      rfl
                    exact norm_ (by first | (simp only [putAll, Act.put, List.setIfInBounds_toArray, List.set_cons_zero, List.set_cons_succ]; done) | (simp only [putAll, Act.put, List.setIfInBounds_toArray, List.set_cons_zero, List.set_cons_succ]; rfl)) (hJ2_6_7 (v103, v109, v112) _ ⟨hHeld, (by (with_reducible repeat (first | apply Kd.R_alloc | apply Kd.R_drewN | apply Kd.R_drew)); exact Kd.R_mono HO104.out (fun _ hk => hk.2)), (by (with_reducible repeat (first | apply Kd.R_alloc | apply Kd.R_drewN | apply Kd.R_drew)); exact Kd.R_mono HO110.out (fun _ hk => hk.2)), (by (with_reducible repeat (first | apply Kd.S_alloc | apply Kd.S_drewN | apply Kd.S_drew)); exact HO113.out), (by (with_reducible repeat (first | refine blk_drewN ?_ _ | refine blk_drew ?_ | refine blk_alloc ?_ _)); exact BK101.out), (by repeat (first | (with_reducible first | exact HB.out | apply below_alloc | apply pw_below_drewN | apply below_drew1 | refine below_set ?_ GE101.out) | exact HB.out))⟩)
              · skip
                rintro ⟨v103, v109⟩ w11 ⟨hS_, h0_, h1_, h2_, h3_⟩
                have n0_ : Aside0 (Kd.R (Kd.int .i64) 3 w11 w.heap.size (fun k_ => some k_ ≠ (v109 : Value).ownBlock) v103 y102) := ⟨h0_⟩
                have n1_ : Aside0 (Kd.R (Kd.int .i64) 3 w11 w.heap.size (fun k_ => some k_ ≠ (v103 : Value).ownBlock) v109 y108) := ⟨h1_⟩
                have n2_ : Aside0 (w11.heap[gb101]? = some (.cells #[.int .i64 a0_0, .int .i64 a0_1, .int .i64 a0_2] 27 (0, 0))) := ⟨h2_⟩
                have n3_ : Aside0 (Below w.heap.size w w11) := ⟨h3_⟩
                clear BK101
                clear HB
                clear h0_ h1_ h2_ h3_
                have HO104 := n0_
                have HO110 := n1_
                have BK101 := n2_
                have HB := n3_
                clear n0_ n1_ n2_ n3_
                have hHeld : w11.cell? ⟨gb101, 0, none⟩ = some (.int .i64 a0_0) ∧ w11.cell? ⟨gb101, 1, none⟩ = some (.int .i64 a0_1) ∧ w11.cell? ⟨gb101, 2, none⟩ = some (.int .i64 a0_2) := hS_
                refine norm_ (a' := ?_) ?_ ?_
                rotate_left
                · simp only [putAll, Act.put, List.setIfInBounds_toArray, List.set_cons_zero, List.set_cons_succ]
                  rfl
                refine two_ (i := 5) (j := 7) (Ni := some 20) (Nj := some 22) #[true, true, true, true, true, true, true, false, true, false, false, false] #[true, true, true, true, true, false, true, true, true, false, false, false] rfl rfl rfl rfl (two_of HT_.out (by kernel_rfl)) (by decide) (by decide) (fun K hK => ?_) (fun K hK => ?_)
                · skip
                  refine Kd.R_make_step (Kd.int .i64) _ 3 (by rfl) (N := 20) rfl 24 _ _ rfl a0_0 rfl rfl Try.underlying24 (.int .i64 0) 8 info3 rfl (by decide) (by omega) 0 (ok := fun _ => True) (okp := fun _ => True) rfl (fun _ hk => hk) trivial (of_decide_eq_true (by first | (with_reducible assumption) | assumption)) (Nat.le_trans (Nat.mul_le_mul_right _ (of_decide_eq_true (by first | (with_reducible assumption) | assumption) : a0_0.toNat ≤ 35184372088832)) (by omega)) (Below.refl _ _) (Nat.le_refl _) ?_
                  intro v106 w12 ho13 hb hg_ hnew_
                  clear hg_ hnew_
                  (first | rw [← Ny105.out] at ho13 | (simp only [Int.reduceToNat] at ho13; rw [← Ny105.out] at ho13))
                  have n0_ := Aside0.mk (Kd.R_elder' (by (with_reducible repeat (first | apply Kd.R_alloc | apply Kd.R_drewN | apply Kd.R_drew)); exact HO104.out) (Kd.R_base ho13) hb)
                  have n1_ := Aside0.mk (Kd.R_elder' (by (with_reducible repeat (first | apply Kd.R_alloc | apply Kd.R_drewN | apply Kd.R_drew)); exact HO110.out) (Kd.R_base ho13) hb)
                  have n2_ := Aside0.mk (Kd.R_lower (Kd.R_new' (Kd.R_new' ho13 (Kd.R_lt (by (with_reducible repeat (first | apply Kd.R_alloc | apply Kd.R_drewN | apply Kd.R_drew)); exact HO104.out))) (Kd.R_lt (by (with_reducible repeat (first | apply Kd.R_alloc | apply Kd.R_drewN | apply Kd.R_drew)); exact HO110.out))) (below_size (by repeat (first | (with_reducible first | exact HB.out | apply below_alloc | apply pw_below_drewN | apply below_drew1 | refine below_set ?_ GE101.out) | exact HB.out))))
                  have n3_ := Aside0.mk (blk_below (g := gb101) (o := .cells #[.int .i64 a0_0, .int .i64 a0_1, .int .i64 a0_2] 27 (0, 0)) (by (with_reducible repeat (first | refine blk_drewN ?_ _ | refine blk_drew ?_ | refine blk_alloc ?_ _)); exact BK101.out) hb)
                  have n4_ := Aside0.mk (below_step (by repeat (first | (with_reducible first | exact HB.out | apply below_alloc | apply pw_below_drewN | apply below_drew1 | refine below_set ?_ GE101.out) | exact HB.out)) hb)
                  clear HO104
                  clear HO110
                  clear BK101
                  clear HB
                  have HO104 := n0_
                  have HO110 := n1_
                  have HO107 := n2_
                  have BK101 := n3_
                  have HB := n4_
                  clear n0_ n1_ n2_ n3_ n4_
                  clear hb ho13
                  refine hK.out _ _ ⟨(blk_cell BK101.out 0).trans rfl, (blk_cell BK101.out 1).trans rfl, (blk_cell BK101.out 2).trans rfl⟩ (fun hHeld => ?_)
                  clear hK K
                  refine norm_ (a' := ?_) ?_ ?_
                  rotate_left
                  · show Act.put _ (some 20) _ = _
                    simp only [Act.put, List.setIfInBounds_toArray, List.set_cons_zero, List.set_cons_succ, i64_w, i32_w]
                    rfl
                  refine pure_ (i := 9) (N := some 6) (v := ?_) (a' := ?_) #[true, true, true, true, true, true, true, false, true, true, false, false] rfl rfl (any_of HT_.out (by kernel_rfl)) (fun _ _ _ h => h) (Or.inl ⟨by rfl, ?_⟩) ?_ ?_
                  rotate_left
                  · intro w'
                    go_simp
                    with_reducible rfl
                  rotate_left
                  · simp only [Act.put, List.setIfInBounds_toArray, List.set_cons_zero, List.set_cons_succ, i64_w, i32_w]
                    rfl
                  refine pure_ (i := 10) (N := some 7) (v := ?_) (a' := ?_) #[true, true, true, true, true, true, true, false, true, true, true, false] rfl rfl (any_of HT_.out (by kernel_rfl)) (fun _ _ _ h => h) (Or.inl ⟨by rfl, ?_⟩) ?_ ?_
                  rotate_left
                  · intro w'
                    go_simp
                    with_reducible rfl
                  rotate_left
                  · simp only [Act.put, List.setIfInBounds_toArray, List.set_cons_zero, List.set_cons_succ, i64_w, i32_w]
                    rfl
                  exact norm_ (by first | (simp only [putAll, Act.put, List.setIfInBounds_toArray, List.set_cons_zero, List.set_cons_succ]; done) | (simp only [putAll, Act.put, List.setIfInBounds_toArray, List.set_cons_zero, List.set_cons_succ]; rfl)) (hJ2_5_6 (v103, v106, v109) _ ⟨hHeld, (by (with_reducible repeat (first | apply Kd.R_alloc | apply Kd.R_drewN | apply Kd.R_drew)); exact Kd.R_mono HO104.out (fun _ hk => ⟨hk.2, hk.1⟩)), (by (with_reducible repeat (first | apply Kd.R_alloc | apply Kd.R_drewN | apply Kd.R_drew)); exact Kd.R_mono HO107.out (fun _ hk => ⟨hk.1.2, hk.2⟩)), (by (with_reducible repeat (first | apply Kd.R_alloc | apply Kd.R_drewN | apply Kd.R_drew)); exact HO110.out), (by (with_reducible repeat (first | refine blk_drewN ?_ _ | refine blk_drew ?_ | refine blk_alloc ?_ _)); exact BK101.out), (by repeat (first | (with_reducible first | exact HB.out | apply below_alloc | apply pw_below_drewN | apply below_drew1 | refine below_set ?_ GE101.out) | exact HB.out))⟩)
                · skip
                  refine Kd.S_lit_step k44 _ 44 ?hg (N := 22) ?hd (xs := ([] : List (S44))) (inner := []) (ok := fun _ => True) (okp := fun _ => True) ?hr ?hp (fun _ hk => hk) trivial (Below.refl _ _) (Nat.le_refl _) (by simp) ?_; (case hd => rfl); (case hg => rfl); (case hr => first | (go_simp; done) | (go_simp; rfl)); (case hp => exact (Reps.none _ _))
                  intro v112 w12 ho13 hb hg_ hnew_
                  clear hg_ hnew_
                  (first | rw [← Ny111.out] at ho13 | (simp only [Int.reduceToNat] at ho13; rw [← Ny111.out] at ho13))
                  have n0_ := Aside0.mk (Kd.R_below (by (with_reducible repeat (first | apply Kd.R_alloc | apply Kd.R_drewN | apply Kd.R_drew)); exact HO104.out) hb)
                  have n1_ := Aside0.mk (Kd.R_below (by (with_reducible repeat (first | apply Kd.R_alloc | apply Kd.R_drewN | apply Kd.R_drew)); exact HO110.out) hb)
                  have n2_ := Aside0.mk (Kd.S_lower (Kd.S_new' (Kd.S_new' ho13 (Kd.R_lt (by (with_reducible repeat (first | apply Kd.R_alloc | apply Kd.R_drewN | apply Kd.R_drew)); exact HO104.out))) (Kd.R_lt (by (with_reducible repeat (first | apply Kd.R_alloc | apply Kd.R_drewN | apply Kd.R_drew)); exact HO110.out))) (below_size (by repeat (first | (with_reducible first | exact HB.out | apply below_alloc | apply pw_below_drewN | apply below_drew1 | refine below_set ?_ GE101.out) | exact HB.out))))
                  have n3_ := Aside0.mk (blk_below (g := gb101) (o := .cells #[.int .i64 a0_0, .int .i64 a0_1, .int .i64 a0_2] 27 (0, 0)) (by (with_reducible repeat (first | refine blk_drewN ?_ _ | refine blk_drew ?_ | refine blk_alloc ?_ _)); exact BK101.out) hb)
                  have n4_ := Aside0.mk (below_step (by repeat (first | (with_reducible first | exact HB.out | apply below_alloc | apply pw_below_drewN | apply below_drew1 | refine below_set ?_ GE101.out) | exact HB.out)) hb)
                  clear HO104
                  clear HO110
                  clear BK101
                  clear HB
                  have HO104 := n0_
                  have HO110 := n1_
                  have HO113 := n2_
                  have BK101 := n3_
                  have HB := n4_
                  clear n0_ n1_ n2_ n3_ n4_
                  clear hb ho13
                  refine hK.out _ _ ⟨(blk_cell BK101.out 0).trans rfl, (blk_cell BK101.out 1).trans rfl, (blk_cell BK101.out 2).trans rfl⟩ (fun hHeld => ?_)
                  clear hK K
                  refine norm_ (a' := ?_) ?_ ?_
                  rotate_left
                  · show Act.put _ (some 22) _ = _
                    simp only [Act.put, List.setIfInBounds_toArray, List.set_cons_zero, List.set_cons_succ, i64_w, i32_w]
                    rfl
                  exact norm_ (by first | (simp only [putAll, Act.put, List.setIfInBounds_toArray, List.set_cons_zero, List.set_cons_succ]; done) | (simp only [putAll, Act.put, List.setIfInBounds_toArray, List.set_cons_zero, List.set_cons_succ]; rfl)) (hJ2_6_7 (v103, v109, v112) _ ⟨hHeld, (by (with_reducible repeat (first | apply Kd.R_alloc | apply Kd.R_drewN | apply Kd.R_drew)); exact HO104.out), (by (with_reducible repeat (first | apply Kd.R_alloc | apply Kd.R_drewN | apply Kd.R_drew)); exact HO110.out), (by (with_reducible repeat (first | apply Kd.S_alloc | apply Kd.S_drewN | apply Kd.S_drew)); exact Kd.S_mono HO113.out (fun _ hk => ⟨hk.1.2, hk.2⟩)), (by (with_reducible repeat (first | refine blk_drewN ?_ _ | refine blk_drew ?_ | refine blk_alloc ?_ _)); exact BK101.out), (by repeat (first | (with_reducible first | exact HB.out | apply below_alloc | apply pw_below_drewN | apply below_drew1 | refine below_set ?_ GE101.out) | exact HB.out))⟩)
            · skip
              rintro ⟨v103, v106⟩ w11 ⟨hS_, h0_, h1_, h2_, h3_⟩
              have n0_ : Aside0 (Kd.R (Kd.int .i64) 3 w11 w.heap.size (fun k_ => some k_ ≠ (v106 : Value).ownBlock) v103 y102) := ⟨h0_⟩
              have n1_ : Aside0 (Kd.R (Kd.int .i64) 3 w11 w.heap.size (fun k_ => some k_ ≠ (v103 : Value).ownBlock) v106 y105) := ⟨h1_⟩
              have n2_ : Aside0 (w11.heap[gb101]? = some (.cells #[.int .i64 a0_0, .int .i64 a0_1, .int .i64 a0_2] 27 (0, 0))) := ⟨h2_⟩
              have n3_ : Aside0 (Below w.heap.size w w11) := ⟨h3_⟩
              clear BK101
              clear HB
              clear h0_ h1_ h2_ h3_
              have HO104 := n0_
              have HO107 := n1_
              have BK101 := n2_
              have HB := n3_
              clear n0_ n1_ n2_ n3_
              have hHeld : w11.cell? ⟨gb101, 0, none⟩ = some (.int .i64 a0_0) ∧ w11.cell? ⟨gb101, 1, none⟩ = some (.int .i64 a0_1) ∧ w11.cell? ⟨gb101, 2, none⟩ = some (.int .i64 a0_2) := hS_
              refine norm_ (a' := ?_) ?_ ?_
              rotate_left
              · simp only [putAll, Act.put, List.setIfInBounds_toArray, List.set_cons_zero, List.set_cons_succ]
                rfl
              refine two_ (i := 6) (j := 7) (Ni := some 21) (Nj := some 22) #[true, true, true, true, true, true, true, false, true, true, false, false] #[true, true, true, true, true, true, false, true, true, true, false, false] rfl rfl rfl rfl (two_of HT_.out (by kernel_rfl)) (by decide) (by decide) (fun K hK => ?_) (fun K hK => ?_)
              · skip
                refine Kd.R_lit_step (Kd.int .i64) _ 3 ?hg (N := 21) ?hd (xs := ([] : List Int)) (inner := []) (ok := fun _ => True) (okp := fun _ => True) ?hr ?hp (fun _ hk => hk) trivial (Below.refl _ _) (Nat.le_refl _) (by simp) ?_; (case hd => rfl); (case hg => rfl); (case hr => first | (go_simp; done) | (go_simp; rfl)); (case hp => exact (Reps.none _ _))
                intro v109 w12 ho13 hb hg_ hnew_
                clear hg_ hnew_
                (first | rw [← Ny108.out] at ho13 | (simp only [Int.reduceToNat] at ho13; rw [← Ny108.out] at ho13))
                have n0_ := Aside0.mk (Kd.R_elder' (by (with_reducible repeat (first | apply Kd.R_alloc | apply Kd.R_drewN | apply Kd.R_drew)); exact HO104.out) (Kd.R_base ho13) hb)
                have n1_ := Aside0.mk (Kd.R_elder' (by (with_reducible repeat (first | apply Kd.R_alloc | apply Kd.R_drewN | apply Kd.R_drew)); exact HO107.out) (Kd.R_base ho13) hb)
                have n2_ := Aside0.mk (Kd.R_lower (Kd.R_new' (Kd.R_new' ho13 (Kd.R_lt (by (with_reducible repeat (first | apply Kd.R_alloc | apply Kd.R_drewN | apply Kd.R_drew)); exact HO104.out))) (Kd.R_lt (by (with_reducible repeat (first | apply Kd.R_alloc | apply Kd.R_drewN | apply Kd.R_drew)); exact HO107.out))) (below_size (by repeat (first | (with_reducible first | exact HB.out | apply below_alloc | apply pw_below_drewN | apply below_drew1 | refine below_set ?_ GE101.out) | exact HB.out))))
                have n3_ := Aside0.mk (blk_below (g := gb101) (o := .cells #[.int .i64 a0_0, .int .i64 a0_1, .int .i64 a0_2] 27 (0, 0)) (by (with_reducible repeat (first | refine blk_drewN ?_ _ | refine blk_drew ?_ | refine blk_alloc ?_ _)); exact BK101.out) hb)
                have n4_ := Aside0.mk (below_step (by repeat (first | (with_reducible first | exact HB.out | apply below_alloc | apply pw_below_drewN | apply below_drew1 | refine below_set ?_ GE101.out) | exact HB.out)) hb)
                clear HO104
                clear HO107
                clear BK101
                clear HB
                have HO104 := n0_
                have HO107 := n1_
                have HO110 := n2_
                have BK101 := n3_
                have HB := n4_
                clear n0_ n1_ n2_ n3_ n4_
                clear hb ho13
                refine hK.out _ _ ⟨(blk_cell BK101.out 0).trans rfl, (blk_cell BK101.out 1).trans rfl, (blk_cell BK101.out 2).trans rfl⟩ (fun hHeld => ?_)
                clear hK K
                refine norm_ (a' := ?_) ?_ ?_
                rotate_left
                · show Act.put _ (some 21) _ = _
                  simp only [Act.put, List.setIfInBounds_toArray, List.set_cons_zero, List.set_cons_succ, i64_w, i32_w]
                  rfl
                refine pure_ (i := 10) (N := some 7) (v := ?_) (a' := ?_) #[true, true, true, true, true, true, true, false, true, true, true, false] rfl rfl (any_of HT_.out (by kernel_rfl)) (fun _ _ _ h => h) (Or.inl ⟨by rfl, ?_⟩) ?_ ?_
                rotate_left
                · intro w'
                  go_simp
                  with_reducible rfl
                rotate_left
                · simp only [Act.put, List.setIfInBounds_toArray, List.set_cons_zero, List.set_cons_succ, i64_w, i32_w]
                  rfl
                exact norm_ (by first | (simp only [putAll, Act.put, List.setIfInBounds_toArray, List.set_cons_zero, List.set_cons_succ]; done) | (simp only [putAll, Act.put, List.setIfInBounds_toArray, List.set_cons_zero, List.set_cons_succ]; rfl)) (hJ2_5_6 (v103, v106, v109) _ ⟨hHeld, (by (with_reducible repeat (first | apply Kd.R_alloc | apply Kd.R_drewN | apply Kd.R_drew)); exact HO104.out), (by (with_reducible repeat (first | apply Kd.R_alloc | apply Kd.R_drewN | apply Kd.R_drew)); exact HO107.out), (by (with_reducible repeat (first | apply Kd.R_alloc | apply Kd.R_drewN | apply Kd.R_drew)); exact Kd.R_mono HO110.out (fun _ hk => ⟨hk.1.2, hk.2⟩)), (by (with_reducible repeat (first | refine blk_drewN ?_ _ | refine blk_drew ?_ | refine blk_alloc ?_ _)); exact BK101.out), (by repeat (first | (with_reducible first | exact HB.out | apply below_alloc | apply pw_below_drewN | apply below_drew1 | refine below_set ?_ GE101.out) | exact HB.out))⟩)
              · skip
                refine Kd.S_lit_step k44 _ 44 ?hg (N := 22) ?hd (xs := ([] : List (S44))) (inner := []) (ok := fun _ => True) (okp := fun _ => True) ?hr ?hp (fun _ hk => hk) trivial (Below.refl _ _) (Nat.le_refl _) (by simp) ?_; (case hd => rfl); (case hg => rfl); (case hr => first | (go_simp; done) | (go_simp; rfl)); (case hp => exact (Reps.none _ _))
                intro v112 w12 ho13 hb hg_ hnew_
                clear hg_ hnew_
                (first | rw [← Ny111.out] at ho13 | (simp only [Int.reduceToNat] at ho13; rw [← Ny111.out] at ho13))
                have n0_ := Aside0.mk (Kd.R_below (by (with_reducible repeat (first | apply Kd.R_alloc | apply Kd.R_drewN | apply Kd.R_drew)); exact HO104.out) hb)
                have n1_ := Aside0.mk (Kd.R_below (by (with_reducible repeat (first | apply Kd.R_alloc | apply Kd.R_drewN | apply Kd.R_drew)); exact HO107.out) hb)
                have n2_ := Aside0.mk (Kd.S_lower (Kd.S_new' (Kd.S_new' ho13 (Kd.R_lt (by (with_reducible repeat (first | apply Kd.R_alloc | apply Kd.R_drewN | apply Kd.R_drew)); exact HO104.out))) (Kd.R_lt (by (with_reducible repeat (first | apply Kd.R_alloc | apply Kd.R_drewN | apply Kd.R_drew)); exact HO107.out))) (below_size (by repeat (first | (with_reducible first | exact HB.out | apply below_alloc | apply pw_below_drewN | apply below_drew1 | refine below_set ?_ GE101.out) | exact HB.out))))
                have n3_ := Aside0.mk (blk_below (g := gb101) (o := .cells #[.int .i64 a0_0, .int .i64 a0_1, .int .i64 a0_2] 27 (0, 0)) (by (with_reducible repeat (first | refine blk_drewN ?_ _ | refine blk_drew ?_ | refine blk_alloc ?_ _)); exact BK101.out) hb)
                have n4_ := Aside0.mk (below_step (by repeat (first | (with_reducible first | exact HB.out | apply below_alloc | apply pw_below_drewN | apply below_drew1 | refine below_set ?_ GE101.out) | exact HB.out)) hb)
                clear HO104
                clear HO107
                clear BK101
                clear HB
                have HO104 := n0_
                have HO107 := n1_
                have HO113 := n2_
                have BK101 := n3_
                have HB := n4_
                clear n0_ n1_ n2_ n3_ n4_
                clear hb ho13
                refine hK.out _ _ ⟨(blk_cell BK101.out 0).trans rfl, (blk_cell BK101.out 1).trans rfl, (blk_cell BK101.out 2).trans rfl⟩ (fun hHeld => ?_)
                clear hK K
                refine norm_ (a' := ?_) ?_ ?_
                rotate_left
                · show Act.put _ (some 22) _ = _
                  simp only [Act.put, List.setIfInBounds_toArray, List.set_cons_zero, List.set_cons_succ, i64_w, i32_w]
                  rfl
                exact norm_ (by first | (simp only [putAll, Act.put, List.setIfInBounds_toArray, List.set_cons_zero, List.set_cons_succ]; done) | (simp only [putAll, Act.put, List.setIfInBounds_toArray, List.set_cons_zero, List.set_cons_succ]; rfl)) (hJ2_5_7 (v103, v106, v112) _ ⟨hHeld, (by (with_reducible repeat (first | apply Kd.R_alloc | apply Kd.R_drewN | apply Kd.R_drew)); exact HO104.out), (by (with_reducible repeat (first | apply Kd.R_alloc | apply Kd.R_drewN | apply Kd.R_drew)); exact HO107.out), (by (with_reducible repeat (first | apply Kd.S_alloc | apply Kd.S_drewN | apply Kd.S_drew)); exact Kd.S_mono HO113.out (fun _ hk => ⟨hk.1.2, hk.2⟩)), (by (with_reducible repeat (first | refine blk_drewN ?_ _ | refine blk_drew ?_ | refine blk_alloc ?_ _)); exact BK101.out), (by repeat (first | (with_reducible first | exact HB.out | apply below_alloc | apply pw_below_drewN | apply below_drew1 | refine below_set ?_ GE101.out) | exact HB.out))⟩)
          · skip
            rintro ⟨v106, v109, v112⟩ w13 ⟨hS_, h0_, h1_, h2_, h3_, h4_⟩
            have n0_ : Aside0 (Kd.R (Kd.int .i64) 3 w13 w.heap.size (fun k_ => some k_ ≠ (v109 : Value).ownBlock) v106 y105) := ⟨h0_⟩
            have n1_ : Aside0 (Kd.R (Kd.int .i64) 3 w13 w.heap.size (fun k_ => some k_ ≠ (v106 : Value).ownBlock) v109 y108) := ⟨h1_⟩
            have n2_ : Aside0 (Kd.S k44 44 w13 w.heap.size (fun k_ => some k_ ≠ (v106 : Value).ownBlock ∧ some k_ ≠ (v109 : Value).ownBlock) v112 y111) := ⟨h2_⟩
            have n3_ : Aside0 (w13.heap[gb101]? = some (.cells #[.int .i64 a0_0, .int .i64 a0_1, .int .i64 a0_2] 27 (0, 0))) := ⟨h3_⟩
            have n4_ : Aside0 (Below w.heap.size w w13) := ⟨h4_⟩
            clear BK101
            clear HB
            clear h0_ h1_ h2_ h3_ h4_
            have HO107 := n0_
            have HO110 := n1_
            have HO113 := n2_
            have BK101 := n3_
            have HB := n4_
            clear n0_ n1_ n2_ n3_ n4_
            have hHeld : w13.cell? ⟨gb101, 0, none⟩ = some (.int .i64 a0_0) ∧ w13.cell? ⟨gb101, 1, none⟩ = some (.int .i64 a0_1) ∧ w13.cell? ⟨gb101, 2, none⟩ = some (.int .i64 a0_2) := hS_
            refine norm_ (a' := ?_) ?_ ?_
            rotate_left
            · simp only [putAll, Act.put, List.setIfInBounds_toArray, List.set_cons_zero, List.set_cons_succ]
              rfl
            refine one_ (i := 2) (N := some 17) #[true, true, true, true, true, true, true, true, false, false, false, false] rfl rfl (one_of HT_.out (by kernel_rfl)) (by decide) (fun K hK => ?_)
            refine Kd.R_make_step (Kd.int .i64) _ 3 (by rfl) (N := 17) rfl 24 _ _ rfl a0_0 rfl rfl Try.underlying24 (.int .i64 0) 8 info3 rfl (by decide) (by omega) 0 (ok := fun _ => True) (okp := fun _ => True) rfl (fun _ hk => hk) trivial (of_decide_eq_true (by first | (with_reducible assumption) | assumption)) (Nat.le_trans (Nat.mul_le_mul_right _ (of_decide_eq_true (by first | (with_reducible assumption) | assumption) : a0_0.toNat ≤ 35184372088832)) (by omega)) (Below.refl _ _) (Nat.le_refl _) ?_
            intro v103 w14 ho15 hb hg_ hnew_
            clear hg_ hnew_
            (first | rw [← Ny102.out] at ho15 | (simp only [Int.reduceToNat] at ho15; rw [← Ny102.out] at ho15))
            have n0_ := Aside0.mk (Kd.R_elder' (by (with_reducible repeat (first | apply Kd.R_alloc | apply Kd.R_drewN | apply Kd.R_drew)); exact HO107.out) (Kd.R_base ho15) hb)
            have n1_ := Aside0.mk (Kd.R_elder' (by (with_reducible repeat (first | apply Kd.R_alloc | apply Kd.R_drewN | apply Kd.R_drew)); exact HO110.out) (Kd.R_base ho15) hb)
            have n2_ := Aside0.mk (Kd.S_elder' (by (with_reducible repeat (first | apply Kd.S_alloc | apply Kd.S_drewN | apply Kd.S_drew)); exact HO113.out) (Kd.R_base ho15) hb)
            have n3_ := Aside0.mk (Kd.R_lower (Kd.R_new' (Kd.R_new' ho15 (Kd.R_lt (by (with_reducible repeat (first | apply Kd.R_alloc | apply Kd.R_drewN | apply Kd.R_drew)); exact HO107.out))) (Kd.R_lt (by (with_reducible repeat (first | apply Kd.R_alloc | apply Kd.R_drewN | apply Kd.R_drew)); exact HO110.out))) (below_size (by repeat (first | (with_reducible first | exact HB.out | apply below_alloc | apply pw_below_drewN | apply below_drew1 | refine below_set ?_ GE101.out) | exact HB.out))))
            have n4_ := Aside0.mk (blk_below (g := gb101) (o := .cells #[.int .i64 a0_0, .int .i64 a0_1, .int .i64 a0_2] 27 (0, 0)) (by (with_reducible repeat (first | refine blk_drewN ?_ _ | refine blk_drew ?_ | refine blk_alloc ?_ _)); exact BK101.out) hb)
            have n5_ := Aside0.mk (below_step (by repeat (first | (with_reducible first | exact HB.out | apply below_alloc | apply pw_below_drewN | apply below_drew1 | refine below_set ?_ GE101.out) | exact HB.out)) hb)
            clear HO107
            clear HO110
            clear HO113
            clear BK101
            clear HB
            have HO107 := n0_
            have HO110 := n1_
            have HO113 := n2_
            have HO104 := n3_
            have BK101 := n4_
            have HB := n5_
            clear n0_ n1_ n2_ n3_ n4_ n5_
            clear hb ho15
            refine hK.out _ _ ⟨(blk_cell BK101.out 0).trans rfl, (blk_cell BK101.out 1).trans rfl, (blk_cell BK101.out 2).trans rfl⟩ (fun hHeld => ?_)
            clear hK K
            refine norm_ (a' := ?_) ?_ ?_
            rotate_left
            · show Act.put _ (some 17) _ = _
              simp only [Act.put, List.setIfInBounds_toArray, List.set_cons_zero, List.set_cons_succ, i64_w, i32_w]
              rfl
            refine pure_ (i := 8) (N := some 5) (v := ?_) (a' := ?_) #[true, true, true, true, true, true, true, true, true, false, false, false] rfl rfl (any_of HT_.out (by kernel_rfl)) (fun _ _ _ h => h) (Or.inl ⟨by rfl, ?_⟩) ?_ ?_
            rotate_left
            · intro w'
              go_simp
              with_reducible rfl
            rotate_left
            · simp only [Act.put, List.setIfInBounds_toArray, List.set_cons_zero, List.set_cons_succ, i64_w, i32_w]
              rfl
            refine pure_ (i := 9) (N := some 6) (v := ?_) (a' := ?_) #[true, true, true, true, true, true, true, true, true, true, false, false] rfl rfl (any_of HT_.out (by kernel_rfl)) (fun _ _ _ h => h) (Or.inl ⟨by rfl, ?_⟩) ?_ ?_
            rotate_left
            · intro w'
              go_simp
              with_reducible rfl
            rotate_left
            · simp only [Act.put, List.setIfInBounds_toArray, List.set_cons_zero, List.set_cons_succ, i64_w, i32_w]
              rfl
            refine pure_ (i := 10) (N := some 7) (v := ?_) (a' := ?_) #[true, true, true, true, true, true, true, true, true, true, true, false] rfl rfl (any_of HT_.out (by kernel_rfl)) (fun _ _ _ h => h) (Or.inl ⟨by rfl, ?_⟩) ?_ ?_
            rotate_left
            · intro w'
              go_simp
              with_reducible rfl
            rotate_left
            · simp only [Act.put, List.setIfInBounds_toArray, List.set_cons_zero, List.set_cons_succ, i64_w, i32_w]
              rfl
            exact norm_ (by first | (simp only [putAll, Act.put, List.setIfInBounds_toArray, List.set_cons_zero, List.set_cons_succ]; done) | (simp only [putAll, Act.put, List.setIfInBounds_toArray, List.set_cons_zero, List.set_cons_succ]; rfl)) (hJ2_5_6_7 (v103, v106, v109, v112) _ ⟨hHeld, (by (with_reducible repeat (first | apply Kd.R_alloc | apply Kd.R_drewN | apply Kd.R_drew)); exact Kd.R_mono HO104.out (fun _ hk => ⟨hk.1.2, hk.2⟩)), (by (with_reducible repeat (first | apply Kd.R_alloc | apply Kd.R_drewN | apply Kd.R_drew)); exact Kd.R_mono HO107.out (fun _ hk => ⟨hk.2, hk.1⟩)), (by (with_reducible repeat (first | apply Kd.R_alloc | apply Kd.R_drewN | apply Kd.R_drew)); exact Kd.R_mono HO110.out (fun _ hk => ⟨hk.2, hk.1⟩)), (by (with_reducible repeat (first | apply Kd.S_alloc | apply Kd.S_drewN | apply Kd.S_drew)); exact Kd.S_mono HO113.out (fun _ hk => ⟨hk.2, ⟨hk.1.1, hk.1.2⟩⟩)), (by (with_reducible repeat (first | refine blk_drewN ?_ _ | refine blk_drew ?_ | refine blk_alloc ?_ _)); exact BK101.out), (by repeat (first | (with_reducible first | exact HB.out | apply below_alloc | apply pw_below_drewN | apply below_drew1 | refine below_set ?_ GE101.out) | exact HB.out))⟩)
        · skip
          rintro ⟨v103, v109, v112⟩ w13 ⟨hS_, h0_, h1_, h2_, h3_, h4_⟩
          have n0_ : Aside0 (Kd.R (Kd.int .i64) 3 w13 w.heap.size (fun k_ => some k_ ≠ (v109 : Value).ownBlock) v103 y102) := ⟨h0_⟩
          have n1_ : Aside0 (Kd.R (Kd.int .i64) 3 w13 w.heap.size (fun k_ => some k_ ≠ (v103 : Value).ownBlock) v109 y108) := ⟨h1_⟩
          have n2_ : Aside0 (Kd.S k44 44 w13 w.heap.size (fun k_ => some k_ ≠ (v103 : Value).ownBlock ∧ some k_ ≠ (v109 : Value).ownBlock) v112 y111) := ⟨h2_⟩
          have n3_ : Aside0 (w13.heap[gb101]? = some (.cells #[.int .i64 a0_0, .int .i64 a0_1, .int .i64 a0_2] 27 (0, 0))) := ⟨h3_⟩
          have n4_ : Aside0 (Below w.heap.size w w13) := ⟨h4_⟩
          clear BK101
          clear HB
          clear h0_ h1_ h2_ h3_ h4_
          have HO104 := n0_
          have HO110 := n1_
          have HO113 := n2_
          have BK101 := n3_
          have HB := n4_
          clear n0_ n1_ n2_ n3_ n4_
          have hHeld : w13.cell? ⟨gb101, 0, none⟩ = some (.int .i64 a0_0) ∧ w13.cell? ⟨gb101, 1, none⟩ = some (.int .i64 a0_1) ∧ w13.cell? ⟨gb101, 2, none⟩ = some (.int .i64 a0_2) := hS_
          refine norm_ (a' := ?_) ?_ ?_
          rotate_left
          · simp only [putAll, Act.put, List.setIfInBounds_toArray, List.set_cons_zero, List.set_cons_succ]
            rfl
          refine one_ (i := 5) (N := some 20) #[true, true, true, true, true, true, true, true, true, false, false, false] rfl rfl (one_of HT_.out (by kernel_rfl)) (by decide) (fun K hK => ?_)
          refine Kd.R_make_step (Kd.int .i64) _ 3 (by rfl) (N := 20) rfl 24 _ _ rfl a0_0 rfl rfl Try.underlying24 (.int .i64 0) 8 info3 rfl (by decide) (by omega) 0 (ok := fun _ => True) (okp := fun _ => True) rfl (fun _ hk => hk) trivial (of_decide_eq_true (by first | (with_reducible assumption) | assumption)) (Nat.le_trans (Nat.mul_le_mul_right _ (of_decide_eq_true (by first | (with_reducible assumption) | assumption) : a0_0.toNat ≤ 35184372088832)) (by omega)) (Below.refl _ _) (Nat.le_refl _) ?_
          intro v106 w14 ho15 hb hg_ hnew_
          clear hg_ hnew_
          (first | rw [← Ny105.out] at ho15 | (simp only [Int.reduceToNat] at ho15; rw [← Ny105.out] at ho15))
          have n0_ := Aside0.mk (Kd.R_elder' (by (with_reducible repeat (first | apply Kd.R_alloc | apply Kd.R_drewN | apply Kd.R_drew)); exact HO104.out) (Kd.R_base ho15) hb)
          have n1_ := Aside0.mk (Kd.R_elder' (by (with_reducible repeat (first | apply Kd.R_alloc | apply Kd.R_drewN | apply Kd.R_drew)); exact HO110.out) (Kd.R_base ho15) hb)
          have n2_ := Aside0.mk (Kd.S_elder' (by (with_reducible repeat (first | apply Kd.S_alloc | apply Kd.S_drewN | apply Kd.S_drew)); exact HO113.out) (Kd.R_base ho15) hb)
          have n3_ := Aside0.mk (Kd.R_lower (Kd.R_new' (Kd.R_new' ho15 (Kd.R_lt (by (with_reducible repeat (first | apply Kd.R_alloc | apply Kd.R_drewN | apply Kd.R_drew)); exact HO104.out))) (Kd.R_lt (by (with_reducible repeat (first | apply Kd.R_alloc | apply Kd.R_drewN | apply Kd.R_drew)); exact HO110.out))) (below_size (by repeat (first | (with_reducible first | exact HB.out | apply below_alloc | apply pw_below_drewN | apply below_drew1 | refine below_set ?_ GE101.out) | exact HB.out))))
          have n4_ := Aside0.mk (blk_below (g := gb101) (o := .cells #[.int .i64 a0_0, .int .i64 a0_1, .int .i64 a0_2] 27 (0, 0)) (by (with_reducible repeat (first | refine blk_drewN ?_ _ | refine blk_drew ?_ | refine blk_alloc ?_ _)); exact BK101.out) hb)
          have n5_ := Aside0.mk (below_step (by repeat (first | (with_reducible first | exact HB.out | apply below_alloc | apply pw_below_drewN | apply below_drew1 | refine below_set ?_ GE101.out) | exact HB.out)) hb)
          clear HO104
          clear HO110
          clear HO113
          clear BK101
          clear HB
          have HO104 := n0_
          have HO110 := n1_
          have HO113 := n2_
          have HO107 := n3_
          have BK101 := n4_
          have HB := n5_
          clear n0_ n1_ n2_ n3_ n4_ n5_
          clear hb ho15
          refine hK.out _ _ ⟨(blk_cell BK101.out 0).trans rfl, (blk_cell BK101.out 1).trans rfl, (blk_cell BK101.out 2).trans rfl⟩ (fun hHeld => ?_)
          clear hK K
          refine norm_ (a' := ?_) ?_ ?_
          rotate_left
          · show Act.put _ (some 20) _ = _
            simp only [Act.put, List.setIfInBounds_toArray, List.set_cons_zero, List.set_cons_succ, i64_w, i32_w]
            rfl
          refine pure_ (i := 9) (N := some 6) (v := ?_) (a' := ?_) #[true, true, true, true, true, true, true, true, true, true, false, false] rfl rfl (any_of HT_.out (by kernel_rfl)) (fun _ _ _ h => h) (Or.inl ⟨by rfl, ?_⟩) ?_ ?_
          rotate_left
          · intro w'
            go_simp
            with_reducible rfl
          rotate_left
          · simp only [Act.put, List.setIfInBounds_toArray, List.set_cons_zero, List.set_cons_succ, i64_w, i32_w]
            rfl
          refine pure_ (i := 10) (N := some 7) (v := ?_) (a' := ?_) #[true, true, true, true, true, true, true, true, true, true, true, false] rfl rfl (any_of HT_.out (by kernel_rfl)) (fun _ _ _ h => h) (Or.inl ⟨by rfl, ?_⟩) ?_ ?_
          rotate_left
          · intro w'
            go_simp
            with_reducible rfl
          rotate_left
          · simp only [Act.put, List.setIfInBounds_toArray, List.set_cons_zero, List.set_cons_succ, i64_w, i32_w]
            rfl
          exact norm_ (by first | (simp only [putAll, Act.put, List.setIfInBounds_toArray, List.set_cons_zero, List.set_cons_succ]; done) | (simp only [putAll, Act.put, List.setIfInBounds_toArray, List.set_cons_zero, List.set_cons_succ]; rfl)) (hJ2_5_6_7 (v103, v106, v109, v112) _ ⟨hHeld, (by (with_reducible repeat (first | apply Kd.R_alloc | apply Kd.R_drewN | apply Kd.R_drew)); exact Kd.R_mono HO104.out (fun _ hk => ⟨hk.2, hk.1⟩)), (by (with_reducible repeat (first | apply Kd.R_alloc | apply Kd.R_drewN | apply Kd.R_drew)); exact Kd.R_mono HO107.out (fun _ hk => ⟨hk.1.2, hk.2⟩)), (by (with_reducible repeat (first | apply Kd.R_alloc | apply Kd.R_drewN | apply Kd.R_drew)); exact HO110.out), (by (with_reducible repeat (first | apply Kd.S_alloc | apply Kd.S_drewN | apply Kd.S_drew)); exact Kd.S_mono HO113.out (fun _ hk => ⟨hk.1.1, ⟨hk.2, hk.1.2⟩⟩)), (by (with_reducible repeat (first | refine blk_drewN ?_ _ | refine blk_drew ?_ | refine blk_alloc ?_ _)); exact BK101.out), (by repeat (first | (with_reducible first | exact HB.out | apply below_alloc | apply pw_below_drewN | apply below_drew1 | refine below_set ?_ GE101.out) | exact HB.out))⟩)
      · skip
        rintro ⟨v103, v106, v112⟩ w13 ⟨hS_, h0_, h1_, h2_, h3_, h4_⟩
        have n0_ : Aside0 (Kd.R (Kd.int .i64) 3 w13 w.heap.size (fun k_ => some k_ ≠ (v106 : Value).ownBlock) v103 y102) := ⟨h0_⟩
        have n1_ : Aside0 (Kd.R (Kd.int .i64) 3 w13 w.heap.size (fun k_ => some k_ ≠ (v103 : Value).ownBlock) v106 y105) := ⟨h1_⟩
        have n2_ : Aside0 (Kd.S k44 44 w13 w.heap.size (fun k_ => some k_ ≠ (v103 : Value).ownBlock ∧ some k_ ≠ (v106 : Value).ownBlock) v112 y111) := ⟨h2_⟩
        have n3_ : Aside0 (w13.heap[gb101]? = some (.cells #[.int .i64 a0_0, .int .i64 a0_1, .int .i64 a0_2] 27 (0, 0))) := ⟨h3_⟩
        have n4_ : Aside0 (Below w.heap.size w w13) := ⟨h4_⟩
        clear BK101
        clear HB
        clear h0_ h1_ h2_ h3_ h4_
        have HO104 := n0_
        have HO107 := n1_
        have HO113 := n2_
        have BK101 := n3_
        have HB := n4_
        clear n0_ n1_ n2_ n3_ n4_
        have hHeld : w13.cell? ⟨gb101, 0, none⟩ = some (.int .i64 a0_0) ∧ w13.cell? ⟨gb101, 1, none⟩ = some (.int .i64 a0_1) ∧ w13.cell? ⟨gb101, 2, none⟩ = some (.int .i64 a0_2) := hS_
        refine norm_ (a' := ?_) ?_ ?_
        rotate_left
        · simp only [putAll, Act.put, List.setIfInBounds_toArray, List.set_cons_zero, List.set_cons_succ]
          rfl
        refine one_ (i := 6) (N := some 21) #[true, true, true, true, true, true, true, true, true, true, false, false] rfl rfl (one_of HT_.out (by kernel_rfl)) (by decide) (fun K hK => ?_)
        refine Kd.R_lit_step (Kd.int .i64) _ 3 ?hg (N := 21) ?hd (xs := ([] : List Int)) (inner := []) (ok := fun _ => True) (okp := fun _ => True) ?hr ?hp (fun _ hk => hk) trivial (Below.refl _ _) (Nat.le_refl _) (by simp) ?_; (case hd => rfl); (case hg => rfl); (case hr => first | (go_simp; done) | (go_simp; rfl)); (case hp => exact (Reps.none _ _))
        intro v109 w14 ho15 hb hg_ hnew_
        clear hg_ hnew_
        (first | rw [← Ny108.out] at ho15 | (simp only [Int.reduceToNat] at ho15; rw [← Ny108.out] at ho15))
        have n0_ := Aside0.mk (Kd.R_elder' (by (with_reducible repeat (first | apply Kd.R_alloc | apply Kd.R_drewN | apply Kd.R_drew)); exact HO104.out) (Kd.R_base ho15) hb)
        have n1_ := Aside0.mk (Kd.R_elder' (by (with_reducible repeat (first | apply Kd.R_alloc | apply Kd.R_drewN | apply Kd.R_drew)); exact HO107.out) (Kd.R_base ho15) hb)
        have n2_ := Aside0.mk (Kd.S_elder' (by (with_reducible repeat (first | apply Kd.S_alloc | apply Kd.S_drewN | apply Kd.S_drew)); exact HO113.out) (Kd.R_base ho15) hb)
        have n3_ := Aside0.mk (Kd.R_lower (Kd.R_new' (Kd.R_new' ho15 (Kd.R_lt (by (with_reducible repeat (first | apply Kd.R_alloc | apply Kd.R_drewN | apply Kd.R_drew)); exact HO104.out))) (Kd.R_lt (by (with_reducible repeat (first | apply Kd.R_alloc | apply Kd.R_drewN | apply Kd.R_drew)); exact HO107.out))) (below_size (by repeat (first | (with_reducible first | exact HB.out | apply below_alloc | apply pw_below_drewN | apply below_drew1 | refine below_set ?_ GE101.out) | exact HB.out))))
        have n4_ := Aside0.mk (blk_below (g := gb101) (o := .cells #[.int .i64 a0_0, .int .i64 a0_1, .int .i64 a0_2] 27 (0, 0)) (by (with_reducible repeat (first | refine blk_drewN ?_ _ | refine blk_drew ?_ | refine blk_alloc ?_ _)); exact BK101.out) hb)
        have n5_ := Aside0.mk (below_step (by repeat (first | (with_reducible first | exact HB.out | apply below_alloc | apply pw_below_drewN | apply below_drew1 | refine below_set ?_ GE101.out) | exact HB.out)) hb)
        clear HO104
        clear HO107
        clear HO113
        clear BK101
        clear HB
        have HO104 := n0_
        have HO107 := n1_
        have HO113 := n2_
        have HO110 := n3_
        have BK101 := n4_
        have HB := n5_
        clear n0_ n1_ n2_ n3_ n4_ n5_
        clear hb ho15
        refine hK.out _ _ ⟨(blk_cell BK101.out 0).trans rfl, (blk_cell BK101.out 1).trans rfl, (blk_cell BK101.out 2).trans rfl⟩ (fun hHeld => ?_)
        clear hK K
        refine norm_ (a' := ?_) ?_ ?_
        rotate_left
        · show Act.put _ (some 21) _ = _
          simp only [Act.put, List.setIfInBounds_toArray, List.set_cons_zero, List.set_cons_succ, i64_w, i32_w]
          rfl
        refine pure_ (i := 10) (N := some 7) (v := ?_) (a' := ?_) #[true, true, true, true, true, true, true, true, true, true, true, false] rfl rfl (any_of HT_.out (by kernel_rfl)) (fun _ _ _ h => h) (Or.inl ⟨by rfl, ?_⟩) ?_ ?_
        rotate_left
        · intro w'
          go_simp
          with_reducible rfl
        rotate_left
        · simp only [Act.put, List.setIfInBounds_toArray, List.set_cons_zero, List.set_cons_succ, i64_w, i32_w]
          rfl
        exact norm_ (by first | (simp only [putAll, Act.put, List.setIfInBounds_toArray, List.set_cons_zero, List.set_cons_succ]; done) | (simp only [putAll, Act.put, List.setIfInBounds_toArray, List.set_cons_zero, List.set_cons_succ]; rfl)) (hJ2_5_6_7 (v103, v106, v109, v112) _ ⟨hHeld, (by (with_reducible repeat (first | apply Kd.R_alloc | apply Kd.R_drewN | apply Kd.R_drew)); exact HO104.out), (by (with_reducible repeat (first | apply Kd.R_alloc | apply Kd.R_drewN | apply Kd.R_drew)); exact HO107.out), (by (with_reducible repeat (first | apply Kd.R_alloc | apply Kd.R_drewN | apply Kd.R_drew)); exact Kd.R_mono HO110.out (fun _ hk => ⟨hk.1.2, hk.2⟩)), (by (with_reducible repeat (first | apply Kd.S_alloc | apply Kd.S_drewN | apply Kd.S_drew)); exact Kd.S_mono HO113.out (fun _ hk => ⟨hk.1.1, ⟨hk.1.2, hk.2⟩⟩)), (by (with_reducible repeat (first | refine blk_drewN ?_ _ | refine blk_drew ?_ | refine blk_alloc ?_ _)); exact BK101.out), (by repeat (first | (with_reducible first | exact HB.out | apply below_alloc | apply pw_below_drewN | apply below_drew1 | refine below_set ?_ GE101.out) | exact HB.out))⟩)
    · skip
      rintro ⟨v103, v106, v109⟩ w13 ⟨hS_, h0_, h1_, h2_, h3_, h4_⟩
      have n0_ : Aside0 (Kd.R (Kd.int .i64) 3 w13 w.heap.size (fun k_ => some k_ ≠ (v106 : Value).ownBlock ∧ some k_ ≠ (v109 : Value).ownBlock) v103 y102) := ⟨h0_⟩
      have n1_ : Aside0 (Kd.R (Kd.int .i64) 3 w13 w.heap.size (fun k_ => some k_ ≠ (v103 : Value).ownBlock ∧ some k_ ≠ (v109 : Value).ownBlock) v106 y105) := ⟨h1_⟩
      have n2_ : Aside0 (Kd.R (Kd.int .i64) 3 w13 w.heap.size (fun k_ => some k_ ≠ (v103 : Value).ownBlock ∧ some k_ ≠ (v106 : Value).ownBlock) v109 y108) := ⟨h2_⟩
      have n3_ : Aside0 (w13.heap[gb101]? = some (.cells #[.int .i64 a0_0, .int .i64 a0_1, .int .i64 a0_2] 27 (0, 0))) := ⟨h3_⟩
      have n4_ : Aside0 (Below w.heap.size w w13) := ⟨h4_⟩
      clear BK101
      clear HB
      clear h0_ h1_ h2_ h3_ h4_
      have HO104 := n0_
      have HO107 := n1_
      have HO110 := n2_
      have BK101 := n3_
      have HB := n4_
      clear n0_ n1_ n2_ n3_ n4_
      have hHeld : w13.cell? ⟨gb101, 0, none⟩ = some (.int .i64 a0_0) ∧ w13.cell? ⟨gb101, 1, none⟩ = some (.int .i64 a0_1) ∧ w13.cell? ⟨gb101, 2, none⟩ = some (.int .i64 a0_2) := hS_
      refine norm_ (a' := ?_) ?_ ?_
      rotate_left
      · simp only [putAll, Act.put, List.setIfInBounds_toArray, List.set_cons_zero, List.set_cons_succ]
        rfl
      refine one_ (i := 7) (N := some 22) #[true, true, true, true, true, true, true, true, true, true, true, false] rfl rfl (one_of HT_.out (by kernel_rfl)) (by decide) (fun K hK => ?_)
      refine Kd.S_lit_step k44 _ 44 ?hg (N := 22) ?hd (xs := ([] : List (S44))) (inner := []) (ok := fun _ => True) (okp := fun _ => True) ?hr ?hp (fun _ hk => hk) trivial (Below.refl _ _) (Nat.le_refl _) (by simp) ?_; (case hd => rfl); (case hg => rfl); (case hr => first | (go_simp; done) | (go_simp; rfl)); (case hp => exact (Reps.none _ _))
      intro v112 w14 ho15 hb hg_ hnew_
      clear hg_ hnew_
      (first | rw [← Ny111.out] at ho15 | (simp only [Int.reduceToNat] at ho15; rw [← Ny111.out] at ho15))
      have n0_ := Aside0.mk (Kd.R_below (by (with_reducible repeat (first | apply Kd.R_alloc | apply Kd.R_drewN | apply Kd.R_drew)); exact HO104.out) hb)
      have n1_ := Aside0.mk (Kd.R_below (by (with_reducible repeat (first | apply Kd.R_alloc | apply Kd.R_drewN | apply Kd.R_drew)); exact HO107.out) hb)
      have n2_ := Aside0.mk (Kd.R_below (by (with_reducible repeat (first | apply Kd.R_alloc | apply Kd.R_drewN | apply Kd.R_drew)); exact HO110.out) hb)
      have n3_ := Aside0.mk (Kd.S_lower (Kd.S_new' (Kd.S_new' (Kd.S_new' ho15 (Kd.R_lt (by (with_reducible repeat (first | apply Kd.R_alloc | apply Kd.R_drewN | apply Kd.R_drew)); exact HO104.out))) (Kd.R_lt (by (with_reducible repeat (first | apply Kd.R_alloc | apply Kd.R_drewN | apply Kd.R_drew)); exact HO107.out))) (Kd.R_lt (by (with_reducible repeat (first | apply Kd.R_alloc | apply Kd.R_drewN | apply Kd.R_drew)); exact HO110.out))) (below_size (by repeat (first | (with_reducible first | exact HB.out | apply below_alloc | apply pw_below_drewN | apply below_drew1 | refine below_set ?_ GE101.out) | exact HB.out))))
      have n4_ := Aside0.mk (blk_below (g := gb101) (o := .cells #[.int .i64 a0_0, .int .i64 a0_1, .int .i64 a0_2] 27 (0, 0)) (by (with_reducible repeat (first | refine blk_drewN ?_ _ | refine blk_drew ?_ | refine blk_alloc ?_ _)); exact BK101.out) hb)
      have n5_ := Aside0.mk (below_step (by repeat (first | (with_reducible first | exact HB.out | apply below_alloc | apply pw_below_drewN | apply below_drew1 | refine below_set ?_ GE101.out) | exact HB.out)) hb)
      clear HO104
      clear HO107
      clear HO110
      clear BK101
      clear HB
      have HO104 := n0_
      have HO107 := n1_
      have HO110 := n2_
      have HO113 := n3_
      have BK101 := n4_
      have HB := n5_
      clear n0_ n1_ n2_ n3_ n4_ n5_
      clear hb ho15
      refine hK.out _ _ ⟨(blk_cell BK101.out 0).trans rfl, (blk_cell BK101.out 1).trans rfl, (blk_cell BK101.out 2).trans rfl⟩ (fun hHeld => ?_)
      clear hK K
      refine norm_ (a' := ?_) ?_ ?_
      rotate_left
      · show Act.put _ (some 22) _ = _
        simp only [Act.put, List.setIfInBounds_toArray, List.set_cons_zero, List.set_cons_succ, i64_w, i32_w]
        rfl
      exact norm_ (by first | (simp only [putAll, Act.put, List.setIfInBounds_toArray, List.set_cons_zero, List.set_cons_succ]; done) | (simp only [putAll, Act.put, List.setIfInBounds_toArray, List.set_cons_zero, List.set_cons_succ]; rfl)) (hJ2_5_6_7 (v103, v106, v109, v112) _ ⟨hHeld, (by (with_reducible repeat (first | apply Kd.R_alloc | apply Kd.R_drewN | apply Kd.R_drew)); exact HO104.out), (by (with_reducible repeat (first | apply Kd.R_alloc | apply Kd.R_drewN | apply Kd.R_drew)); exact HO107.out), (by (with_reducible repeat (first | apply Kd.R_alloc | apply Kd.R_drewN | apply Kd.R_drew)); exact HO110.out), (by (with_reducible repeat (first | apply Kd.S_alloc | apply Kd.S_drewN | apply Kd.S_drew)); exact Kd.S_mono HO113.out (fun _ hk => ⟨hk.1.1.2, ⟨hk.1.2, hk.2⟩⟩)), (by (with_reducible repeat (first | refine blk_drewN ?_ _ | refine blk_drew ?_ | refine blk_alloc ?_ _)); exact BK101.out), (by repeat (first | (with_reducible first | exact HB.out | apply below_alloc | apply pw_below_drewN | apply below_drew1 | refine below_set ?_ GE101.out) | exact HB.out))⟩)
  rintro ⟨v103, v106, v109, v112⟩ w15 ⟨hS_, h0_, h1_, h2_, h3_, h4_, h5_⟩
  have n0_ : Aside0 (Kd.R (Kd.int .i64) 3 w15 w.heap.size (fun k_ => some k_ ≠ (v106 : Value).ownBlock ∧ some k_ ≠ (v109 : Value).ownBlock) v103 y102) := ⟨h0_⟩
  have n1_ : Aside0 (Kd.R (Kd.int .i64) 3 w15 w.heap.size (fun k_ => some k_ ≠ (v103 : Value).ownBlock ∧ some k_ ≠ (v109 : Value).ownBlock) v106 y105) := ⟨h1_⟩
  have n2_ : Aside0 (Kd.R (Kd.int .i64) 3 w15 w.heap.size (fun k_ => some k_ ≠ (v103 : Value).ownBlock ∧ some k_ ≠ (v106 : Value).ownBlock) v109 y108) := ⟨h2_⟩
  have n3_ : Aside0 (Kd.S k44 44 w15 w.heap.size (fun k_ => some k_ ≠ (v103 : Value).ownBlock ∧ some k_ ≠ (v106 : Value).ownBlock ∧ some k_ ≠ (v109 : Value).ownBlock) v112 y111) := ⟨h3_⟩
  have n4_ : Aside0 (w15.heap[gb101]? = some (.cells #[.int .i64 a0_0, .int .i64 a0_1, .int .i64 a0_2] 27 (0, 0))) := ⟨h4_⟩
  have n5_ : Aside0 (Below w.heap.size w w15) := ⟨h5_⟩
  clear BK101
  clear HB
  clear h0_ h1_ h2_ h3_ h4_ h5_
  have HO104 := n0_
  have HO107 := n1_
  have HO110 := n2_
  have HO113 := n3_
  have BK101 := n4_
  have HB := n5_
  clear n0_ n1_ n2_ n3_ n4_ n5_
  have hHeld : w15.cell? ⟨gb101, 0, none⟩ = some (.int .i64 a0_0) ∧ w15.cell? ⟨gb101, 1, none⟩ = some (.int .i64 a0_1) ∧ w15.cell? ⟨gb101, 2, none⟩ = some (.int .i64 a0_2) := hS_
  refine norm_ (a' := ?_) ?_ ?_
  rotate_left
  · simp only [putAll, Act.put, List.setIfInBounds_toArray, List.set_cons_zero, List.set_cons_succ]
    rfl
  refine pure_ (i := 11) (N := some 8) (v := ?_) (a' := ?_) #[true, true, true, true, true, true, true, true, true, true, true, true] rfl rfl (any_of HT_.out (by kernel_rfl)) (fun _ _ _ h => h) (Or.inl ⟨by rfl, ?_⟩) ?_ ?_
  rotate_left
  · intro w'
    go_simp
    with_reducible rfl
  rotate_left
  · simp only [Act.put, List.setIfInBounds_toArray, List.set_cons_zero, List.set_cons_succ, i64_w, i32_w]
    rfl
  refine done_ (done_of HT_.out (by kernel_rfl)) ?_

  rw [Ny102.out, HGD.out.p, Int.toNat_natCast] at HO104
  rw [Ny105.out, HGD.out.p, Int.toNat_natCast] at HO107
  rw [Ny108.out] at HO110
  rw [Ny111.out] at HO113
  obtain ⟨gl, cl, el, _⟩ := Kd.R_form HO104.out (by rw [List.length_replicate]; exact HGD.out.n1)
  obtain ⟨gq, ck, ek, _⟩ := Kd.R_form HO107.out (by rw [List.length_replicate]; exact HGD.out.n1)
  rw [List.length_replicate] at el ek
  subst el
  subst ek
  have HD := Aside0.mk (show Dy w w15 gb101 gl gq cl ck n a0_0 a0_1 a0_2 (fun _ => True) (lk1 n 0) (List.replicate n 0) v109 v112 [] [] from
    ⟨BK101.out, Kd.R_flat (fun h => h) HO104.out (fun k hk _ => (Option.some.inj hk).symm), Kd.R_flat (fun h => h) HO107.out (fun k hk _ => (Option.some.inj hk).symm), fun e => (HO104.out.1 gl rfl).1 (by rw [e]; rfl),
     Kd.R_flat (fun h => h) HO110.out (fun k hk h2 => ⟨fun e => h2.1 (by rw [e]; rfl), fun e => h2.2 (by rw [e]; rfl)⟩), Kd.S_mono HO113.out (fun k hk => ⟨⟨fun e => hk.1 (by rw [e]; rfl), fun e => hk.2.1 (by rw [e]; rfl), hk.2.2⟩, trivial⟩), HB.out⟩)
  clear HO104 HO107 HO110 HO113 BK101 HB hHeld hS_ Ny102 Ny105 Ny108 Ny111
  go_wp2
  go_loopg [25] n (fun gg v25 wr => ∃ kk : Nat, kk ≤ n ∧ n - kk ≤ gg ∧ v25 = .int .i64 kk ∧ Aside0 (Dy w wr gb101 gl gq cl ck n a0_0 a0_1 a0_2 (fun _ => True) (lk1 n kk) (List.replicate n 0) v109 v112 [] []))
  case atStart => exact ⟨0, Nat.zero_le _, by omega, rfl, HD⟩
  case round =>
    clear HD
    obtain ⟨kk, hkk, hg, rfl, HD⟩ := hrel
    by_cases hlt : kk < n
    · have hll := lk1_len n kk
      obtain ⟨z, hz⟩ : ∃ z : Int, (kk : Int) = z := ⟨_, rfl⟩
      have HZ := Aside0.mk hz
      have hzn : z.toNat = kk := by omega
      have hps : lk1 n (kk + 1) = (lk1 n kk).set z.toNat (-1) := by rw [hzn]; rfl
      have hltz : z < (n : Int) := by omega
      have hh0 : 0 ≤ z := by omega
      have hz2 : z ≤ 1048576 := by have := HGD.out.n2; omega
      have HG := Aside0.mk (show n - (kk + 1) < gk from by omega)
      have hnx : IntKind.i64.wrap (z + 1) = z + 1 := (i64_w _).trans (by unfold wrap64; omega)
      obtain ⟨hc1, hc2⟩ := Kd.R_celln 0 HD.out.rl z hh0 hltz
      have hltz' : decide (z < (n : Int)) = true := decide_eq_true hltz
      replace hltz := eq_true hltz
      replace hh0 := eq_true hh0
      have HPS := Aside0.mk hps
      rw [hz]
      clear hz hps hll hzn
      go_wp2_with (first | ((with_reducible refine gate_store (t := 3) (p := 30) rfl ?_); refine store_event (t := 3) (p := 30) (v := ?vo30) (w1 := (wr.setCell ⟨gl, z.toNat, none⟩ (.int .i64 (-1)))) ?hg ?ho ?hn ?hr ?_; (case ho => rfl); (case hg => rfl); (case hn => rfl); (case hr => first | (go_simp; done) | (go_simp; rfl)); intro w2 hw; have n0 := Aside0.mk (show Dy w w2 gb101 gl gq cl ck n a0_0 a0_1 a0_2 (fun _ => True) (lk1 n (kk + 1)) (List.replicate n 0) v109 v112 [] [] from by rw [hw, HPS.out]; exact HD.out.setL z.toNat (-1)); clear hw HD hc1 hc2; have HD := n0; clear n0))
      go_roundg (n - (kk + 1))
      case measure => have := HG.out; omega
      case rel => exact ⟨kk + 1, by have := HZ.out; have := of_eq_true hltz; omega, by omega, by have := HZ.out; congr 1; omega, HD⟩
    · have hltz : decide ((kk : Int) < (n : Int)) = false := decide_eq_false (by omega)
      obtain rfl : kk = n := by omega
      rw [lk1_all] at HD
      have HSM := Aside0.mk (sim_zero kk a0_1 a0_2)
      go_wp2
      go_loopg [7, 8, 33] m (fun gg v7 v8 v33 wr => ∃ (jj : Nat) (bs back : List Int), jj ≤ m ∧ m - jj ≤ gg ∧ v33 = .int .i64 jj ∧ Aside0 (Sim kk a0_2 (st kk a0_1 a0_2 jj).1 (st kk a0_1 a0_2 jj).2 (st kk a0_1 a0_2 jj).2 back bs jj) ∧ Aside0 (Dy w wr gb101 gl gq cl ck kk a0_0 a0_1 a0_2 (fun _ => True) (st kk a0_1 a0_2 jj).2 back v7 v8 bs (dl kk a0_1 a0_2 jj)))
      case atStart => exact ⟨0, [], List.replicate kk 0, Nat.zero_le _, by omega, rfl, HSM, HD⟩
      case round =>
        clear HD HSM
        obtain ⟨jj, bs, back, hjj, hg2, rfl, HSM, HD⟩ := hrel
        obtain ⟨wo, hwo⟩ : ∃ wo, wo = wr := ⟨_, rfl⟩
        subst hwo
        by_cases hlt2 : jj < m
        · obtain ⟨hlC, hlL⟩ := st_len kk a0_1 a0_2 jj
          have hsC := st_nextC kk a0_1 a0_2 jj
          have hsL := st_nextL kk a0_1 a0_2 jj
          have hsD := dl_succ kk a0_1 a0_2 jj
          have hlD := dl_len kk a0_1 a0_2 jj
          obtain ⟨y, hy⟩ : ∃ y : Int, (jj : Int) = y := ⟨_, rfl⟩
          have HY := Aside0.mk hy
          have HSF := Aside0.mk HSM.out.free
          rw [hy] at hsC hsL HSF
          have hy0 : 0 ≤ y := by omega
          have hy2 : y ≤ 1000 := by have := HMB.out; omega
          have HY0 := Aside0.mk hy0
          have HY2 := Aside0.mk hy2
          have HG2 := Aside0.mk (show m - (jj + 1) < gk from by omega)
          have hny : IntKind.i64.wrap (y + 1) = y + 1 := (i64_w _).trans (by unfold wrap64; omega)
          have hlty : decide (y < a1) = true := decide_eq_true (by rw [HMM.out]; omega)
          have HJM := Aside0.mk hlt2
          have HT := Aside0.mk HD.out.top
          have HBT := Aside0.mk (Below.refl wo.heap.size wo)
          have hdo : dayOf kk a0_1 a0_2 jj = ⟨dWorn kk a0_1 a0_2 jj, dClean kk a0_1 a0_2 jj, dBask kk a0_1 a0_2 jj, dWash kk a0_1 a0_2 jj⟩ := rfl
          unfold dWash dBask dWorn dClean at hdo
          rw [hdo] at hsD
          rw [hy] at hsD
          clear hdo HD
          generalize (st kk a0_1 a0_2 jj).1 = C at *
          generalize (st kk a0_1 a0_2 jj).2 = Ls at *
          generalize dl kk a0_1 a0_2 jj = ds at *
          have HSC := Aside0.mk hsC
          have HSL := Aside0.mk hsL
          have HSD := Aside0.mk hsD
          have HLC := Aside0.mk hlC
          have HLL := Aside0.mk hlL
          have HLD := Aside0.mk (show ds.length ≤ 600 from by rw [hlD]; have := HMB.out; omega)
          rw [hy]
          clear hsC hsL hsD hlC hlL hlD hy hlt2
          have hkk1 : decide ((0 : Int) < (kk : Int)) = true := decide_eq_true (by have := HGD.out.n1; omega)
          go_wp2
          obtain ⟨wa, hwa⟩ : ∃ wa, wo.alloc (.cells #[.int .i64 (-1), .slice none 0 0, .slice none 0 0, .slice none 0 0] 44 (0, 0)) = wa := ⟨_, rfl⟩
          have HBK := Aside0.mk (show wa.heap[wo.heap.size]? = some (.cells #[.int .i64 (-1), .slice none 0 0, .slice none 0 0, .slice none 0 0] 44 (0, 0)) from by rw [← hwa]; exact blk_new wo _)
          have HB := Aside0.mk (show Below wo.heap.size wo wa from by rw [← hwa]; exact below_alloc (Below.refl _ _) _)
          rw [hwa]
          clear hwa
          obtain ⟨Ab, cb, eb⟩ := Kd.R_slice HT.out.rb
          subst eb
          have HCB := Aside0.mk ((Kd.R_reads' HT.out.rb).2.1)
          have HBL := Aside0.mk (sim_len HSM.out)
          go_loopg [39] kk (fun gg v39 wr => ∃ (ii : Nat) (vc : Value), ii ≤ kk ∧ kk - ii ≤ gg ∧ v39 = .int .i64 ii ∧ Aside0 (wr.heap[wo.heap.size]? = some (.cells #[.int .i64 (pk C Ls y ii), vc, .slice none 0 0, .slice none 0 0] 44 (0, 0))) ∧ Aside0 (Kd.R (Kd.int .i64) 3 wr wo.heap.size (fun _ => True) vc (fl (fun k => isCl C k y) ii)) ∧ Aside0 (Below wo.heap.size wo wr))
          case atStart => exact ⟨0, .slice none 0 0, Nat.zero_le _, by omega, rfl, HBK, ⟨Kd.R_nil _ _ _ _ _⟩, HB⟩
          case round =>
            clear HBK HB
            obtain ⟨ii, vc, hii, hg3, rfl, HBK, HC, HB⟩ := hrel
            by_cases hlt3 : ii < kk
            · have hps := pk_step C Ls y ii
              have hfs := fl_succ (fun k => isCl C k y) ii
              have hfr := HSF.out ii hlt3
              have hpb := pk_bd C Ls y ii
              have hfl := fl_len (fun k => isCl C k y) ii
              obtain ⟨z, hz⟩ : ∃ z : Int, (ii : Int) = z := ⟨_, rfl⟩
              have HZ := Aside0.mk hz
              unfold okb at hps
              simp only [hz] at hps hfr hpb hfs
              obtain ⟨p, hp⟩ : ∃ p, pk C Ls y ii = p := ⟨_, rfl⟩
              rw [hp] at hps hpb HBK
              have hltz : z < (kk : Int) := by omega
              have hh0 : 0 ≤ z := by omega
              have hz2 : z ≤ 1048576 := by have := HGD.out.n2; omega
              have HG3 := Aside0.mk (show kk - (ii + 1) < gk from by omega)
              have HFL := Aside0.mk (show (fl (fun k => isCl C k y) ii).length ≤ 30 from by have := HGD.out.n2; omega)
              have hnx : IntKind.i64.wrap (z + 1) = z + 1 := (i64_w _).trans (by unfold wrap64; omega)
              have HDX := Aside0.mk (HT.out.new HB.out)
              have hk1 : wr.cell? ⟨gq, z.toNat, none⟩ = some (.int .i64 (rd back z)) := (Kd.R_celln 0 HDX.out.rk z hh0 hltz).1
              have hl1 : wr.cell? ⟨gl, z.toNat, none⟩ = some (.int .i64 (rd Ls z)) := (Kd.R_celln 0 HDX.out.rl z hh0 hltz).1
              generalize rd back z = bz at hk1 hfr
              obtain ⟨x, hx⟩ : ∃ x, rd Ls z = x := ⟨_, rfl⟩
              have HX := Aside0.mk hx
              rw [hx] at hl1 hps
              generalize fl (fun k => isCl C k y) ii = fs at HC hfs hfl HFL
              have hbw : wr.cell? ⟨wo.heap.size, 0, none⟩ = some (.int .i64 p) := (blk_cell HBK.out 0).trans rfl
              have hbv : wr.cell? ⟨wo.heap.size, 1, none⟩ = some vc := (blk_cell HBK.out 1).trans rfl
              have HZ0 := Aside0.mk hh0
              have HZ1 := Aside0.mk hltz
              have hltz' : decide (z < (kk : Int)) = true := decide_eq_true hltz
              replace hltz := eq_true hltz
              replace hh0 := eq_true hh0
              rw [hz]
              clear hz hp hx
              by_cases hbz : bz > y
              · have hbz' : decide (y < bz) = true := decide_eq_true hbz
                rw [decide_eq_true hbz, Bool.true_or, Bool.not_true] at hfr
                rw [hfr, Bool.false_and, if_neg (by simp)] at hps
                rw [hfr, if_neg (by simp), List.append_nil] at hfs
                have HPS := Aside0.mk hps
                have HFS := Aside0.mk hfs
                clear hps hfs hfr hbz hpb hfl
                go_wp2
                go_roundg (kk - (ii + 1))
                case measure => have := HG3.out; omega
                case rel => exact ⟨ii + 1, vc, by have := HZ.out; have := of_eq_true hltz; omega, by omega, by have := HZ.out; congr 1; omega, ⟨by rw [HPS.out]; exact HBK.out⟩, ⟨by rw [HFS.out]; exact HC.out⟩, ⟨HB.out⟩⟩
              · have hbz' : decide (y < bz) = false := decide_eq_false (by omega)
                rw [show decide (bz > y) = false from decide_eq_false hbz, Bool.false_or] at hfr
                obtain ⟨q, hq⟩ : ∃ q, bs.contains z = q := ⟨_, rfl⟩
                rw [hq] at hfr
                have HQ := Aside0.mk hq
                clear hq
                cases q with
                | true =>
                  rw [Bool.not_true] at hfr
                  rw [hfr, Bool.false_and, if_neg (by simp)] at hps
                  rw [hfr, if_neg (by simp), List.append_nil] at hfs
                  have HPS := Aside0.mk hps
                  have HFS := Aside0.mk hfs
                  clear hps hfs hfr hbz hpb hfl
                  go_wp2_with (first | (go_at_call 66; refine (contains (A := Ab) (c := cb) (l := bs) (x := z) ?cr HCB.out (by have := HBL.out; have := HGD.out.n2; omega)).mono ?_; (case cr => exact (Kd.R_reads' HDX.out.rb).2.2); rintro e w' ⟨rfl, ⟨nd, rfl⟩⟩; rw [HQ.out]))
                  go_roundg (kk - (ii + 1))
                  case measure => have := HG3.out; omega
                  case rel => exact ⟨ii + 1, vc, by have := HZ.out; have := of_eq_true hltz; omega, by omega, by have := HZ.out; congr 1; omega, ⟨by rw [HPS.out]; exact HBK.out⟩, ⟨by rw [HFS.out]; exact (Aside0.mk (Kd.R_drewN HC.out _)).out⟩, ⟨(Aside0.mk (pw_below_drewN HB.out _)).out⟩⟩
                | false =>
                  rw [Bool.not_false] at hfr
                  rw [hfr, Bool.true_and] at hps
                  rw [hfr, if_pos rfl] at hfs
                  have HFS := Aside0.mk hfs
                  clear hfs hfr hbz hfl
                  by_cases hneg : p < 0
                  · have hneg' : decide (p < 0) = true := decide_eq_true hneg
                    rw [hneg', Bool.true_or, if_pos rfl] at hps
                    have HPS := Aside0.mk hps
                    clear hps hpb hneg
                    go_wp2_with (first | (go_at_call 66; refine (contains (A := Ab) (c := cb) (l := bs) (x := z) ?cr HCB.out (by have := HBL.out; have := HGD.out.n2; omega)).mono ?_; (case cr => exact (Kd.R_reads' HDX.out.rb).2.2); rintro e w' ⟨rfl, ⟨nd, rfl⟩⟩; rw [HQ.out]) | ((with_reducible refine gate_builtin (b := .append) (xs := #[.tmp 54, .tmp 56]) rfl ?_); at_builtin; refine Kd.R_append (Kd.int .i64) (w0 := wo) (wo.heap.size) rfl (.tmp 54) (.tmp 56) 24 3 (.int .i64 0) 8 rfl Try.underlying24 info3 rfl (by decide) (by omega) (vc) (fs) (z) [.int .i64 (z)] (fun _ => True) (fun _ => False) rfl rfl ?aP (fun _ hk => hk.elim) ?aF ?aO ?aB ?aS ?aL ?_; (case aP => exact rfl); (case aB => exact (by repeat (first | (with_reducible first | exact HB.out | apply below_alloc | apply pw_below_drewN | apply below_drew1) | exact HB.out))); (case aF => exact (fun _ _ => trivial)); (case aO => exact (by (with_reducible repeat (first | apply Kd.R_alloc | apply Kd.R_drewN | apply Kd.R_drew)); exact HC.out)); (case aS => exact (below_size (by repeat (first | (with_reducible first | exact HB.out | apply below_alloc | apply pw_below_drewN | apply below_drew1) | exact HB.out)))); (case aL => have := HFL.out; simp; omega); intro v1 w1 ho hb hg hat; obtain ⟨A1, c1, e1⟩ := Kd.R_slice ho; generalize (fs ++ [z]).length = m1 at e1; subst e1; have HNEV := Aside0.mk (Kd.R_ne HC.out HBK.out (by decide)); have n0 := Aside0.mk ho; have n1 := Aside0.mk hb; have n2 := Aside0.mk (blk_grown (blk_drewN HBK.out _) hg HNEV.out); have hb2 : w1.cell? ⟨wo.heap.size, 1, none⟩ = some vc := (blk_cell n2.out 1).trans rfl; have hf1 := blk_frozen n2.out 1; clear HC HB HBK HNEV ho hb hg hat hbw hbv hk1 hl1; have HC := n0; have HB := n1; have HBK := n2; clear n0 n1 n2) | ((with_reducible refine gate_store (t := 24) (p := 58) rfl ?_); refine store_event (t := 24) (p := 58) (v := ?vo58) (w1 := (w1.setCell ⟨wo.heap.size, 1, none⟩ (.slice A1 m1 c1))) ?hg ?ho ?hn ?hr ?_; (case ho => rfl); (case hg => rfl); (case hn => rfl); (case hr => first | (go_simp; done) | (go_simp; rfl)); intro w2 hw; have n0 := Aside0.mk (show w2.heap[wo.heap.size]? = some (.cells #[.int .i64 p, .slice A1 m1 c1, .slice none 0 0, .slice none 0 0] 44 (0, 0)) from by rw [hw]; exact blk_put HBK.out 1 _ rfl); have n1 := Aside0.mk (show Below wo.heap.size wo w2 from by rw [hw]; exact below_set HB.out (Nat.le_refl _)); have n2 := Aside0.mk (show Kd.R (Kd.int .i64) 3 w2 wo.heap.size (fun _ => True) (.slice A1 m1 c1) (fs ++ [z]) from by rw [hw]; exact Kd.R_set HC.out HBK.out (by simp [Kd.int, Kd.scalar]) 1 _); clear hw HC HB HBK hb2 hf1; have HBK := n0; have HB := n1; have HC := n2; clear n0 n1 n2; have hbw : w2.cell? ⟨wo.heap.size, 0, none⟩ = some (.int .i64 p) := (blk_cell HBK.out 0).trans rfl; have hfw := blk_frozen HBK.out 0; have hl1 : w2.cell? ⟨gl, z.toNat, none⟩ = some (.int .i64 x) := (by have := (Kd.R_celln 0 (HT.out.new HB.out).rl z HZ0.out HZ1.out).1; rw [show rdOf 0 Ls z = rd Ls z from rfl, HX.out] at this; exact this); skip))
                    go_quiet (fail)
                    generalize hq_ : World.drewN w2 _ = w3
                    have HBK3 := Aside0.mk (show w3.heap[wo.heap.size]? = some (.cells #[.int .i64 p, .slice A1 m1 c1, .slice none 0 0, .slice none 0 0] 44 (0, 0)) from by rw [← hq_]; exact HBK.out)
                    have HB3 := Aside0.mk (show Below wo.heap.size wo w3 from by rw [← hq_]; exact pw_below_drewN HB.out _)
                    have HC3 := Aside0.mk (show Kd.R (Kd.int .i64) 3 w3 wo.heap.size (fun _ => True) (.slice A1 m1 c1) (fs ++ [z]) from by rw [← hq_]; exact Kd.R_drewN HC.out _)
                    have hbw3 : w3.cell? ⟨wo.heap.size, 0, none⟩ = some (.int .i64 p) := (blk_cell HBK3.out 0).trans rfl
                    have hfw3 := blk_frozen HBK3.out 0
                    clear hq_ HBK HB HC hbw hfw hl1
                    go_wp2_with (first | ((with_reducible refine gate_store (t := 3) (p := 75) rfl ?_); refine store_event (t := 3) (p := 75) (v := ?vo75) (w1 := (w3.setCell ⟨wo.heap.size, 0, none⟩ (.int .i64 z))) ?hg ?ho ?hn ?hr ?_; (case ho => rfl); (case hg => rfl); (case hn => rfl); (case hr => first | (go_simp; done) | (go_simp; rfl)); intro w4 hw; have n0 := Aside0.mk (show w4.heap[wo.heap.size]? = some (.cells #[.int .i64 z, .slice A1 m1 c1, .slice none 0 0, .slice none 0 0] 44 (0, 0)) from by rw [hw]; exact blk_put HBK3.out 0 _ rfl); have n1 := Aside0.mk (show Below wo.heap.size wo w4 from by rw [hw]; exact below_set HB3.out (Nat.le_refl _)); have n2 := Aside0.mk (show Kd.R (Kd.int .i64) 3 w4 wo.heap.size (fun _ => True) (.slice A1 m1 c1) (fs ++ [z]) from by rw [hw]; exact Kd.R_set HC3.out HBK3.out (by simp [Kd.int, Kd.scalar]) 0 _); clear hw HC3 HB3 HBK3 hbw3 hfw3; have HBK3 := n0; have HB3 := n1; have HC3 := n2; clear n0 n1 n2))
                    go_roundg (kk - (ii + 1))
                    case measure => have := HG3.out; omega
                    case rel => exact ⟨ii + 1, _, by have := HZ.out; have := of_eq_true hltz; omega, by omega, by have := HZ.out; congr 1; omega, ⟨by rw [HPS.out]; exact HBK3.out⟩, ⟨by rw [HFS.out]; exact HC3.out⟩, ⟨HB3.out⟩⟩
                  · have hneg' : decide (p < 0) = false := decide_eq_false hneg
                    have hp0 : 0 ≤ p := by omega
                    have hp1 : p < (kk : Int) := by have := HZ1.out; omega
                    have HP0 := Aside0.mk hp0
                    have HP1 := Aside0.mk hp1
                    obtain ⟨xp, hxp⟩ : ∃ xp, rd Ls p = xp := ⟨_, rfl⟩
                    have HXP := Aside0.mk hxp
                    rw [hneg', Bool.false_or, hxp] at hps
                    replace hp0 := eq_true hp0
                    replace hp1 := eq_true hp1
                    clear hxp hpb hneg
                    by_cases hxy : x < xp
                    · have hxy' : decide (x < xp) = true := decide_eq_true hxy
                      rw [if_pos hxy'] at hps
                      have HPS := Aside0.mk hps
                      clear hps hxy
                      go_wp2_with (first | (go_at_call 66; refine (contains (A := Ab) (c := cb) (l := bs) (x := z) ?cr HCB.out (by have := HBL.out; have := HGD.out.n2; omega)).mono ?_; (case cr => exact (Kd.R_reads' HDX.out.rb).2.2); rintro e w' ⟨rfl, ⟨nd, rfl⟩⟩; rw [HQ.out]) | ((with_reducible refine gate_builtin (b := .append) (xs := #[.tmp 54, .tmp 56]) rfl ?_); at_builtin; refine Kd.R_append (Kd.int .i64) (w0 := wo) (wo.heap.size) rfl (.tmp 54) (.tmp 56) 24 3 (.int .i64 0) 8 rfl Try.underlying24 info3 rfl (by decide) (by omega) (vc) (fs) (z) [.int .i64 (z)] (fun _ => True) (fun _ => False) rfl rfl ?aP (fun _ hk => hk.elim) ?aF ?aO ?aB ?aS ?aL ?_; (case aP => exact rfl); (case aB => exact (by repeat (first | (with_reducible first | exact HB.out | apply below_alloc | apply pw_below_drewN | apply below_drew1) | exact HB.out))); (case aF => exact (fun _ _ => trivial)); (case aO => exact (by (with_reducible repeat (first | apply Kd.R_alloc | apply Kd.R_drewN | apply Kd.R_drew)); exact HC.out)); (case aS => exact (below_size (by repeat (first | (with_reducible first | exact HB.out | apply below_alloc | apply pw_below_drewN | apply below_drew1) | exact HB.out)))); (case aL => have := HFL.out; simp; omega); intro v1 w1 ho hb hg hat; obtain ⟨A1, c1, e1⟩ := Kd.R_slice ho; generalize (fs ++ [z]).length = m1 at e1; subst e1; have HNEV := Aside0.mk (Kd.R_ne HC.out HBK.out (by decide)); have n0 := Aside0.mk ho; have n1 := Aside0.mk hb; have n2 := Aside0.mk (blk_grown (blk_drewN HBK.out _) hg HNEV.out); have hb2 : w1.cell? ⟨wo.heap.size, 1, none⟩ = some vc := (blk_cell n2.out 1).trans rfl; have hf1 := blk_frozen n2.out 1; clear HC HB HBK HNEV ho hb hg hat hbw hbv hk1 hl1; have HC := n0; have HB := n1; have HBK := n2; clear n0 n1 n2) | ((with_reducible refine gate_store (t := 24) (p := 58) rfl ?_); refine store_event (t := 24) (p := 58) (v := ?vo58) (w1 := (w1.setCell ⟨wo.heap.size, 1, none⟩ (.slice A1 m1 c1))) ?hg ?ho ?hn ?hr ?_; (case ho => rfl); (case hg => rfl); (case hn => rfl); (case hr => first | (go_simp; done) | (go_simp; rfl)); intro w2 hw; have n0 := Aside0.mk (show w2.heap[wo.heap.size]? = some (.cells #[.int .i64 p, .slice A1 m1 c1, .slice none 0 0, .slice none 0 0] 44 (0, 0)) from by rw [hw]; exact blk_put HBK.out 1 _ rfl); have n1 := Aside0.mk (show Below wo.heap.size wo w2 from by rw [hw]; exact below_set HB.out (Nat.le_refl _)); have n2 := Aside0.mk (show Kd.R (Kd.int .i64) 3 w2 wo.heap.size (fun _ => True) (.slice A1 m1 c1) (fs ++ [z]) from by rw [hw]; exact Kd.R_set HC.out HBK.out (by simp [Kd.int, Kd.scalar]) 1 _); clear hw HC HB HBK hb2 hf1; have HBK := n0; have HB := n1; have HC := n2; clear n0 n1 n2; have hbw : w2.cell? ⟨wo.heap.size, 0, none⟩ = some (.int .i64 p) := (blk_cell HBK.out 0).trans rfl; have hfw := blk_frozen HBK.out 0; have hl1 : w2.cell? ⟨gl, z.toNat, none⟩ = some (.int .i64 x) := (by have := (Kd.R_celln 0 (HT.out.new HB.out).rl z HZ0.out HZ1.out).1; rw [show rdOf 0 Ls z = rd Ls z from rfl, HX.out] at this; exact this); have hl2 : w2.cell? ⟨gl, p.toNat, none⟩ = some (.int .i64 xp) := (by have := (Kd.R_celln 0 (HT.out.new HB.out).rl p HP0.out HP1.out).1; rw [show rdOf 0 Ls p = rd Ls p from rfl, HXP.out] at this; exact this)))
                      go_quiet (fail)
                      generalize hq_ : World.drewN w2 _ = w3
                      have HBK3 := Aside0.mk (show w3.heap[wo.heap.size]? = some (.cells #[.int .i64 p, .slice A1 m1 c1, .slice none 0 0, .slice none 0 0] 44 (0, 0)) from by rw [← hq_]; exact HBK.out)
                      have HB3 := Aside0.mk (show Below wo.heap.size wo w3 from by rw [← hq_]; exact pw_below_drewN HB.out _)
                      have HC3 := Aside0.mk (show Kd.R (Kd.int .i64) 3 w3 wo.heap.size (fun _ => True) (.slice A1 m1 c1) (fs ++ [z]) from by rw [← hq_]; exact Kd.R_drewN HC.out _)
                      have hbw3 : w3.cell? ⟨wo.heap.size, 0, none⟩ = some (.int .i64 p) := (blk_cell HBK3.out 0).trans rfl
                      have hfw3 := blk_frozen HBK3.out 0
                      clear hq_ HBK HB HC hbw hfw hl1
                      go_wp2_with (first | ((with_reducible refine gate_store (t := 3) (p := 75) rfl ?_); refine store_event (t := 3) (p := 75) (v := ?vo75) (w1 := (w3.setCell ⟨wo.heap.size, 0, none⟩ (.int .i64 z))) ?hg ?ho ?hn ?hr ?_; (case ho => rfl); (case hg => rfl); (case hn => rfl); (case hr => first | (go_simp; done) | (go_simp; rfl)); intro w4 hw; have n0 := Aside0.mk (show w4.heap[wo.heap.size]? = some (.cells #[.int .i64 z, .slice A1 m1 c1, .slice none 0 0, .slice none 0 0] 44 (0, 0)) from by rw [hw]; exact blk_put HBK3.out 0 _ rfl); have n1 := Aside0.mk (show Below wo.heap.size wo w4 from by rw [hw]; exact below_set HB3.out (Nat.le_refl _)); have n2 := Aside0.mk (show Kd.R (Kd.int .i64) 3 w4 wo.heap.size (fun _ => True) (.slice A1 m1 c1) (fs ++ [z]) from by rw [hw]; exact Kd.R_set HC3.out HBK3.out (by simp [Kd.int, Kd.scalar]) 0 _); clear hw HC3 HB3 HBK3 hbw3 hfw3; have HBK3 := n0; have HB3 := n1; have HC3 := n2; clear n0 n1 n2))
                      go_roundg (kk - (ii + 1))
                      case measure => have := HG3.out; omega
                      case rel => exact ⟨ii + 1, _, by have := HZ.out; have := of_eq_true hltz; omega, by omega, by have := HZ.out; congr 1; omega, ⟨by rw [HPS.out]; exact HBK3.out⟩, ⟨by rw [HFS.out]; exact HC3.out⟩, ⟨HB3.out⟩⟩
                    · have hxy' : decide (x < xp) = false := decide_eq_false hxy
                      rw [if_neg (by rw [hxy']; simp)] at hps
                      have HPS := Aside0.mk hps
                      clear hps hxy
                      go_wp2_with (first | (go_at_call 66; refine (contains (A := Ab) (c := cb) (l := bs) (x := z) ?cr HCB.out (by have := HBL.out; have := HGD.out.n2; omega)).mono ?_; (case cr => exact (Kd.R_reads' HDX.out.rb).2.2); rintro e w' ⟨rfl, ⟨nd, rfl⟩⟩; rw [HQ.out]) | ((with_reducible refine gate_builtin (b := .append) (xs := #[.tmp 54, .tmp 56]) rfl ?_); at_builtin; refine Kd.R_append (Kd.int .i64) (w0 := wo) (wo.heap.size) rfl (.tmp 54) (.tmp 56) 24 3 (.int .i64 0) 8 rfl Try.underlying24 info3 rfl (by decide) (by omega) (vc) (fs) (z) [.int .i64 (z)] (fun _ => True) (fun _ => False) rfl rfl ?aP (fun _ hk => hk.elim) ?aF ?aO ?aB ?aS ?aL ?_; (case aP => exact rfl); (case aB => exact (by repeat (first | (with_reducible first | exact HB.out | apply below_alloc | apply pw_below_drewN | apply below_drew1) | exact HB.out))); (case aF => exact (fun _ _ => trivial)); (case aO => exact (by (with_reducible repeat (first | apply Kd.R_alloc | apply Kd.R_drewN | apply Kd.R_drew)); exact HC.out)); (case aS => exact (below_size (by repeat (first | (with_reducible first | exact HB.out | apply below_alloc | apply pw_below_drewN | apply below_drew1) | exact HB.out)))); (case aL => have := HFL.out; simp; omega); intro v1 w1 ho hb hg hat; obtain ⟨A1, c1, e1⟩ := Kd.R_slice ho; generalize (fs ++ [z]).length = m1 at e1; subst e1; have HNEV := Aside0.mk (Kd.R_ne HC.out HBK.out (by decide)); have n0 := Aside0.mk ho; have n1 := Aside0.mk hb; have n2 := Aside0.mk (blk_grown (blk_drewN HBK.out _) hg HNEV.out); have hb2 : w1.cell? ⟨wo.heap.size, 1, none⟩ = some vc := (blk_cell n2.out 1).trans rfl; have hf1 := blk_frozen n2.out 1; clear HC HB HBK HNEV ho hb hg hat hbw hbv hk1 hl1; have HC := n0; have HB := n1; have HBK := n2; clear n0 n1 n2) | ((with_reducible refine gate_store (t := 24) (p := 58) rfl ?_); refine store_event (t := 24) (p := 58) (v := ?vo58) (w1 := (w1.setCell ⟨wo.heap.size, 1, none⟩ (.slice A1 m1 c1))) ?hg ?ho ?hn ?hr ?_; (case ho => rfl); (case hg => rfl); (case hn => rfl); (case hr => first | (go_simp; done) | (go_simp; rfl)); intro w2 hw; have n0 := Aside0.mk (show w2.heap[wo.heap.size]? = some (.cells #[.int .i64 p, .slice A1 m1 c1, .slice none 0 0, .slice none 0 0] 44 (0, 0)) from by rw [hw]; exact blk_put HBK.out 1 _ rfl); have n1 := Aside0.mk (show Below wo.heap.size wo w2 from by rw [hw]; exact below_set HB.out (Nat.le_refl _)); have n2 := Aside0.mk (show Kd.R (Kd.int .i64) 3 w2 wo.heap.size (fun _ => True) (.slice A1 m1 c1) (fs ++ [z]) from by rw [hw]; exact Kd.R_set HC.out HBK.out (by simp [Kd.int, Kd.scalar]) 1 _); clear hw HC HB HBK hb2 hf1; have HBK := n0; have HB := n1; have HC := n2; clear n0 n1 n2; have hbw : w2.cell? ⟨wo.heap.size, 0, none⟩ = some (.int .i64 p) := (blk_cell HBK.out 0).trans rfl; have hfw := blk_frozen HBK.out 0; have hl1 : w2.cell? ⟨gl, z.toNat, none⟩ = some (.int .i64 x) := (by have := (Kd.R_celln 0 (HT.out.new HB.out).rl z HZ0.out HZ1.out).1; rw [show rdOf 0 Ls z = rd Ls z from rfl, HX.out] at this; exact this); have hl2 : w2.cell? ⟨gl, p.toNat, none⟩ = some (.int .i64 xp) := (by have := (Kd.R_celln 0 (HT.out.new HB.out).rl p HP0.out HP1.out).1; rw [show rdOf 0 Ls p = rd Ls p from rfl, HXP.out] at this; exact this)))
                      go_quiet (fail)
                      generalize hq_ : World.drewN w2 _ = w3
                      have HBK3 := Aside0.mk (show w3.heap[wo.heap.size]? = some (.cells #[.int .i64 p, .slice A1 m1 c1, .slice none 0 0, .slice none 0 0] 44 (0, 0)) from by rw [← hq_]; exact HBK.out)
                      have HB3 := Aside0.mk (show Below wo.heap.size wo w3 from by rw [← hq_]; exact pw_below_drewN HB.out _)
                      have HC3 := Aside0.mk (show Kd.R (Kd.int .i64) 3 w3 wo.heap.size (fun _ => True) (.slice A1 m1 c1) (fs ++ [z]) from by rw [← hq_]; exact Kd.R_drewN HC.out _)
                      have hbw3 : w3.cell? ⟨wo.heap.size, 0, none⟩ = some (.int .i64 p) := (blk_cell HBK3.out 0).trans rfl
                      have hfw3 := blk_frozen HBK3.out 0
                      clear hq_ HBK HB HC hbw hfw hl1
                      go_wp2
                      go_roundg (kk - (ii + 1))
                      case measure => have := HG3.out; omega
                      case rel => exact ⟨ii + 1, _, by have := HZ.out; have := of_eq_true hltz; omega, by omega, by have := HZ.out; congr 1; omega, ⟨by rw [HPS.out]; exact HBK3.out⟩, ⟨by rw [HFS.out]; exact HC3.out⟩, ⟨HB3.out⟩⟩
            · have hltz : decide ((ii : Int) < (kk : Int)) = false := decide_eq_false (by omega)
              obtain rfl : kk = ii := by omega
              have hsw := HSM.out.wear (pk C Ls (jj : Int) kk) rfl
              rw [HY.out] at hsw
              have hpb := pk_bd C Ls y kk
              obtain ⟨p, hp⟩ : ∃ p, pk C Ls y kk = p := ⟨_, rfl⟩
              obtain ⟨fs, hfs⟩ : ∃ l, fl (fun k => isCl C (k : Int) y) kk = l := ⟨_, rfl⟩
              obtain ⟨bk, hbk⟩ : ∃ l, bas (wC C p) kk = l := ⟨_, rfl⟩
              rw [hp] at hsw hpb HBK HSC HSL
              rw [hfs] at HC
              rw [hp, hfs, hbk] at HSD
              obtain ⟨Ac, cc, ec⟩ := Kd.R_slice HC.out
              subst ec
              have HBKE := Aside0.mk hbk
              have hlk : bk.length ≤ 30 := by rw [← hbk]; have := fl_len (fun k => decide (rd (wC C p) k < 0)) kk; have := HGD.out.n2; unfold bas; omega
              have HCLN := Aside0.mk (show slices_Clone_int_int.f bk = some bk from by unfold slices_Clone_int_int.f; rw [if_pos (by omega)])
              have HVC := Aside0.mk (show Kd.R (Kd.int .i64) 3 wr w.heap.size (fun k => wo.heap.size ≤ k ∧ some k ≠ (.slice Ab bs.length cb : Value).ownBlock) (.slice Ac fs.length cc) fs from Kd.R_lower (Kd.R_mono (Kd.R_new' (Kd.R_bound HC.out) (Kd.R_lt HT.out.rb)) (fun k hk => ⟨hk.1.2.1, hk.2⟩)) HT.out.below.size)
              have HD := Aside0.mk (HT.out.new HB.out)
              have HVO := Aside0.mk (Kd.S_lt HT.out.ro)
              have HWG := Aside0.mk HT.out.below.size
              obtain ⟨yn, hyn⟩ : ∃ v, y + 1 = v := ⟨_, rfl⟩
              obtain ⟨yd, hyd⟩ : ∃ v, y + a0_2 = v := ⟨_, rfl⟩
              have HYN := Aside0.mk hyn
              have HYD := Aside0.mk hyd
              have hdr := HGD.out
              have hny2 : IntKind.i64.wrap (y + 1) = yn := by rw [hny, hyn]
              have hnd : IntKind.i64.wrap (y + a0_2) = yd := (i64_w _).trans (by have := hdr.d1; have := hdr.d2; have := HY0.out; have := HY2.out; unfold wrap64; omega)
              have hE0 : (a0_1 == 0) = false := by have := hdr.e1; simp; omega
              have hE1 : 1 ≤ a0_1 := hdr.e1
              have hE2 : (a0_1 = 0) = False := eq_false (by omega)
              have hmod : Int.tmod yn a0_1 = yn % a0_1 := Int.tmod_eq_emod_of_nonneg (by have := HY0.out; omega)
              have hd0 : wr.cell? ⟨wo.heap.size, 0, none⟩ = some (.int .i64 p) := (blk_cell HBK.out 0).trans rfl
              clear hdr hny hyn hyd hp hfs hbk HC HB
              by_cases hpos : 0 ≤ p
              · have hpd : decide (0 ≤ p) = true := decide_eq_true hpos
                have hplt : p < (kk : Int) := hpb.2
                obtain ⟨bs2, hbs2⟩ : ∃ l, bs ++ [p] = l := ⟨_, rfl⟩
                rw [if_pos hpos, hbs2] at hsw
                unfold wL at hsw
                rw [if_pos hpos] at hsw
                have HSW := Aside0.mk hsw
                have HSL2 := Aside0.mk (show Ls.set p.toNat y = (st kk a0_1 a0_2 (jj + 1)).2 from by have e := HSL.out; unfold wL at e; rwa [if_pos hpos] at e)
                have HBS2 := Aside0.mk hbs2
                have HBL2 := Aside0.mk (sim_len hsw)
                have HSRT := Aside0.mk (hsw.sorted.trans HBKE.out)
                obtain ⟨hl1, hl2⟩ := Kd.R_celln 0 HD.out.rl p hpos hplt
                have hpt := eq_true hpos
                have hplt' := eq_true hplt
                clear hsw hbs2 hpb hpos hplt
                by_cases hwash : (y + 1) % a0_1 = 0
                · have hw0 : (yn % a0_1 == 0) = true := by rw [← HYN.out]; simp [hwash]
                  have HSN := Aside0.mk (show Sim kk a0_2 (st kk a0_1 a0_2 (jj + 1)).1 (st kk a0_1 a0_2 (jj + 1)).2 (st kk a0_1 a0_2 (jj + 1)).2 (wk bs2 yd back bs2.length) [] (jj + 1) from by
                    have h := HSW.out.wash (by rw [HY.out]; have := HGD.out.d1; omega)
                    rw [HY.out, HYD.out, HBKE.out] at h
                    have e1 := HSC.out
                    unfold washC at e1
                    rw [if_pos hwash, HYD.out, HBKE.out] at e1
                    rw [e1, HSL2.out] at h
                    exact ⟨h.last, h.lenC, h.lenL, h.lenB, h.bk, h.mem, h.nd⟩)
                  have HDS := Aside0.mk (show dl kk a0_1 a0_2 (jj + 1) = ds ++ [⟨p, fs, bk, bk⟩] from by rw [HSD.out, if_pos hwash])
                  clear hwash
                  go_wp2_with (first | ((with_reducible refine gate_store (t := 3) (p := 84) rfl ?_); refine store_event (t := 3) (p := 84) (v := ?vo84) (w1 := (wr.setCell ⟨gl, p.toNat, none⟩ (.int .i64 y))) ?hg ?ho ?hn ?hr ?_; (case ho => rfl); (case hg => rfl); (case hn => rfl); (case hr => first | (go_simp; done) | (go_simp; rfl)); intro w2 hw; have n0 := Aside0.mk (show Dy w w2 gb101 gl gq cl ck kk a0_0 a0_1 a0_2 (fun k => k < wo.heap.size) (Ls.set p.toNat y) back (.slice Ab bs.length cb) (u8) bs ds from by rw [hw]; exact HD.out.setL p.toNat y); have n1 := Aside0.mk (show w2.heap[wo.heap.size]? = some (.cells #[.int .i64 p, .slice Ac fs.length cc, .slice none 0 0, .slice none 0 0] 44 (0, 0)) from by rw [hw]; exact (Below.heap_setCell wr ⟨gl, p.toNat, none⟩ _ wo.heap.size (Nat.ne_of_gt HT.out.lt_l)).trans HBK.out); have n2 := Aside0.mk (show Kd.R (Kd.int .i64) 3 w2 w.heap.size (fun k => wo.heap.size ≤ k ∧ some k ≠ (.slice Ab bs.length cb : Value).ownBlock) (.slice Ac fs.length cc) fs from by rw [hw]; exact Kd.R_far (p := ⟨gl, p.toNat, none⟩) HVC.out (fun k hk e => by have := HT.out.lt_l; have e2 : k = gl := e; have := hk.1; omega) _); clear hw HD HBK HVC hl1 hl2 hd0; have HD := n0; have HBK := n1; have HVC := n2; clear n0 n1 n2; have HB := Aside0.mk HD.out.below; have hd0 : w2.cell? ⟨wo.heap.size, 0, none⟩ = some (.int .i64 p) := (blk_cell HBK.out 0).trans rfl) | ((with_reducible refine gate_builtin (b := .append) (xs := #[.tmp 85, .tmp 88]) rfl ?_); at_builtin; refine Kd.R_append (Kd.int .i64) (w0 := w) (w.heap.size) rfl (.tmp 85) (.tmp 88) 24 3 (.int .i64 0) 8 rfl Try.underlying24 info3 rfl (by decide) (by omega) (.slice Ab bs.length cb) (bs) (p) [.int .i64 (p)] (fun k => k ≠ gl ∧ k ≠ gq) (fun _ => False) rfl rfl ?aP (fun _ hk => hk.elim) ?aF ?aO ?aB ?aS ?aL ?_; (case aP => exact rfl); (case aB => exact (by repeat (first | (with_reducible first | exact HB.out | apply below_alloc | apply pw_below_drewN | apply below_drew1) | exact HB.out))); (case aF => exact (fun k hk => ⟨fun e => by have := HD.out.lt_l; omega, fun e => by have := HD.out.lt_k; omega⟩)); (case aO => exact HD.out.rb); (case aS => exact HD.out.below.size); (case aL => have := HBL.out; have := HGD.out.n2; omega); intro v1 w1 ho hb hg hat; rw [HBS2.out] at ho; obtain ⟨A5, c5, e5⟩ := Kd.R_slice ho; subst e5; have n0 := Aside0.mk (HD.out.putB hg hat ho hb); have n1 := Aside0.mk (blk_grown HBK.out hg (Kd.R_ne HD.out.rb HBK.out (by decide))); have n2 := Aside0.mk (Kd.R_after (ok := fun k => wo.heap.size ≤ k) HVC.out hg hat); clear HD HBK HVC HB ho hb hg hat hd0; have HD := n0; have HBK := n1; have HVC := n2; clear n0 n1 n2) | (go_at_call 68; refine (values).mono ?_; rintro e w5 ⟨gv, rfl, hbv, hb⟩; have HBV := Aside0.mk hbv; have n0 := Aside0.mk (HD.out.new hb); have n1 := Aside0.mk (blk_below HBK.out hb); have n2 := Aside0.mk (Kd.R_below HVC.out hb); clear HD HBK HVC hbv hb; have HD := n0; have HBK := n1; have HVC := n2; clear n0 n1 n2) | (go_at_call 67; refine (XVals.sorted gv _ _ bs2 (by have := HBL2.out; have := HGD.out.n2; omega) _ ((blk_cell HBV.out 0).trans rfl) (Kd.R_reads' HD.out.rb).2.2).mono ?_; rintro e w6 ⟨v6, rfl, hr, hb⟩; rw [HSRT.out] at hr; obtain ⟨As, cs, es⟩ := Kd.R_slice hr; subst es; have HVS := Aside0.mk (show Kd.R (Kd.int .i64) 3 w6 w.heap.size (fun k => wo.heap.size ≤ k ∧ some k ≠ (.slice A5 bs2.length c5 : Value).ownBlock) (.slice As bk.length cs) bk from Kd.R_lower (Kd.R_mono (Kd.R_new' (Kd.R_bound hr) (Kd.R_lt HD.out.rb)) (fun k hk => ⟨Nat.le_trans (Nat.le_of_lt (blk_lt HBK.out)) hk.1.2.1, hk.2⟩)) HD.out.below.size); have n0 := Aside0.mk (HD.out.new hb); have n1 := Aside0.mk (blk_below HBK.out hb); have n2 := Aside0.mk (Kd.R_below HVC.out hb); clear HD HBK HVC HBV hr hb; have HD := n0; have HBK := n1; have HVC := n2; clear n0 n1 n2; have hb20 : w6.cell? ⟨wo.heap.size, 2, none⟩ = some (.slice none 0 0) := (blk_cell HBK.out 2).trans rfl; have hf20 := blk_frozen HBK.out 2) | ((with_reducible refine gate_store (t := 24) (p := 93) rfl ?_); refine store_event (t := 24) (p := 93) (v := ?vo93) (w1 := (w6.setCell ⟨wo.heap.size, 2, none⟩ (.slice As bk.length cs))) ?hg ?ho ?hn ?hr ?_; (case ho => rfl); (case hg => rfl); (case hn => rfl); (case hr => first | (go_simp; done) | (go_simp; rfl)); intro w7 hw; have n0 := Aside0.mk (show Dy w w7 gb101 gl gq cl ck kk a0_0 a0_1 a0_2 (fun k => k < wo.heap.size) (Ls.set p.toNat y) back (.slice A5 bs2.length c5) (u8) bs2 ds from by rw [hw]; exact HD.out.setD HBK.out (fun k hk => Nat.ne_of_lt hk) HWG.out 2 _); have n1 := Aside0.mk (show w7.heap[wo.heap.size]? = some (.cells #[.int .i64 p, .slice Ac fs.length cc, .slice As bk.length cs, .slice none 0 0] 44 (0, 0)) from by rw [hw]; exact blk_put HBK.out 2 _ rfl); have n2 := Aside0.mk (show Kd.R (Kd.int .i64) 3 w7 w.heap.size (fun k => wo.heap.size ≤ k ∧ some k ≠ (.slice A5 bs2.length c5 : Value).ownBlock) (.slice Ac fs.length cc) fs from by rw [hw]; exact Kd.R_set HVC.out HBK.out (by simp [Kd.int, Kd.scalar]) 2 _); have n3 := Aside0.mk (show Kd.R (Kd.int .i64) 3 w7 w.heap.size (fun k => wo.heap.size ≤ k ∧ some k ≠ (.slice A5 bs2.length c5 : Value).ownBlock) (.slice As bk.length cs) bk from by rw [hw]; exact Kd.R_set HVS.out HBK.out (by simp [Kd.int, Kd.scalar]) 2 _); clear hw HD HBK HVC HVS hb20 hf20; have HD := n0; have HBK := n1; have HVC := n2; have HVS := n3; clear n0 n1 n2 n3; have hd0 : w7.cell? ⟨wo.heap.size, 0, none⟩ = some (.int .i64 p) := (blk_cell HBK.out 0).trans rfl; have hd1 : w7.cell? ⟨wo.heap.size, 1, none⟩ = some (.slice Ac fs.length cc) := (blk_cell HBK.out 1).trans rfl; have hd2 : w7.cell? ⟨wo.heap.size, 2, none⟩ = some (.slice As bk.length cs) := (blk_cell HBK.out 2).trans rfl; have hd3 : w7.cell? ⟨wo.heap.size, 3, none⟩ = some (.slice none 0 0) := (blk_cell HBK.out 3).trans rfl; have hf30 := blk_frozen HBK.out 3; have hbx1 : w7.cell? ⟨gb101, 1, none⟩ = some (.int .i64 a0_1) := (blk_cell HD.out.box 1).trans rfl) | (go_at_call 69; (with_reducible refine (slices_Clone_int_int.calls As cs bk bk _ (Kd.R_reads' HVS.out).2.2 (Kd.R_reads' HVS.out).2.1 HCLN.out).mono ?_); rintro e w8 ⟨v8, rfl, hr, hb⟩; obtain ⟨Aw, cw, ew⟩ := Kd.R_slice hr; subst ew; have HVW := Aside0.mk (show Kd.R (Kd.int .i64) 3 w8 w.heap.size (fun k => wo.heap.size ≤ k ∧ some k ≠ (.slice A5 bs2.length c5 : Value).ownBlock) (.slice Aw bk.length cw) bk from Kd.R_lower (Kd.R_mono (Kd.R_new' (Kd.R_bound hr) (Kd.R_lt HD.out.rb)) (fun k hk => ⟨Nat.le_trans (Nat.le_of_lt (blk_lt HBK.out)) hk.1.2.1, hk.2⟩)) HD.out.below.size); have n0 := Aside0.mk (HD.out.new hb); have n1 := Aside0.mk (blk_below HBK.out hb); have n2 := Aside0.mk (Kd.R_below HVC.out hb); have n3 := Aside0.mk (Kd.R_below HVS.out hb); clear HD HBK HVC HVS hr hb hd0 hd1 hd2 hd3 hf30 hbx1; have HD := n0; have HBK := n1; have HVC := n2; have HVS := n3; clear n0 n1 n2 n3; have hb30 : w8.cell? ⟨wo.heap.size, 3, none⟩ = some (.slice none 0 0) := (blk_cell HBK.out 3).trans rfl; have hf30 := blk_frozen HBK.out 3) | ((with_reducible refine gate_store (t := 24) (p := 103) rfl ?_); refine store_event (t := 24) (p := 103) (v := ?vo103) (w1 := (w8.setCell ⟨wo.heap.size, 3, none⟩ (.slice Aw bk.length cw))) ?hg ?ho ?hn ?hr ?_; (case ho => rfl); (case hg => rfl); (case hn => rfl); (case hr => first | (go_simp; done) | (go_simp; rfl)); intro w10 hw; have n0 := Aside0.mk (show Dy w w10 gb101 gl gq cl ck kk a0_0 a0_1 a0_2 (fun k => k < wo.heap.size) (Ls.set p.toNat y) back (.slice A5 bs2.length c5) (u8) bs2 ds from by rw [hw]; exact HD.out.setD HBK.out (fun k hk => Nat.ne_of_lt hk) HWG.out 3 _); have n1 := Aside0.mk (show w10.heap[wo.heap.size]? = some (.cells #[.int .i64 p, .slice Ac fs.length cc, .slice As bk.length cs, .slice Aw bk.length cw] 44 (0, 0)) from by rw [hw]; exact blk_put HBK.out 3 _ rfl); have n2 := Aside0.mk (show Kd.R (Kd.int .i64) 3 w10 w.heap.size (fun k => wo.heap.size ≤ k ∧ some k ≠ (.slice A5 bs2.length c5 : Value).ownBlock) (.slice Ac fs.length cc) fs from by rw [hw]; exact Kd.R_set HVC.out HBK.out (by simp [Kd.int, Kd.scalar]) 3 _); have n3 := Aside0.mk (show Kd.R (Kd.int .i64) 3 w10 w.heap.size (fun k => wo.heap.size ≤ k ∧ some k ≠ (.slice A5 bs2.length c5 : Value).ownBlock) (.slice As bk.length cs) bk from by rw [hw]; exact Kd.R_set HVS.out HBK.out (by simp [Kd.int, Kd.scalar]) 3 _); have n4 := Aside0.mk (show Kd.R (Kd.int .i64) 3 w10 w.heap.size (fun k => wo.heap.size ≤ k ∧ some k ≠ (.slice A5 bs2.length c5 : Value).ownBlock) (.slice Aw bk.length cw) bk from by rw [hw]; exact Kd.R_set HVW.out HBK.out (by simp [Kd.int, Kd.scalar]) 3 _); clear hw HD HBK HVC HVS HVW hb30 hf30; have HD := n0; have HBK := n1; have HVC := n2; have HVS := n3; have HVW := n4; clear n0 n1 n2 n3 n4))
                  go_loopg [106] bs2.length (fun gg v106 wr => ∃ ll : Nat, ll ≤ bs2.length ∧ bs2.length - ll ≤ gg ∧ v106 = .int .i64 ll ∧ Aside0 (Dy w wr gb101 gl gq cl ck kk a0_0 a0_1 a0_2 (fun k => k < wo.heap.size) (Ls.set p.toNat y) (wk bs2 yd back ll) (.slice A5 bs2.length c5) (u8) bs2 ds) ∧ Aside0 (wr.heap[wo.heap.size]? = some (.cells #[.int .i64 p, .slice Ac fs.length cc, .slice As bk.length cs, .slice Aw bk.length cw] 44 (0, 0))) ∧ Aside0 (Kd.R (Kd.int .i64) 3 wr w.heap.size (fun k => wo.heap.size ≤ k ∧ some k ≠ (.slice A5 bs2.length c5 : Value).ownBlock) (.slice Ac fs.length cc) fs) ∧ Aside0 (Kd.R (Kd.int .i64) 3 wr w.heap.size (fun k => wo.heap.size ≤ k ∧ some k ≠ (.slice A5 bs2.length c5 : Value).ownBlock) (.slice As bk.length cs) bk) ∧ Aside0 (Kd.R (Kd.int .i64) 3 wr w.heap.size (fun k => wo.heap.size ≤ k ∧ some k ≠ (.slice A5 bs2.length c5 : Value).ownBlock) (.slice Aw bk.length cw) bk))
                  case atStart => exact ⟨0, Nat.zero_le _, by omega, rfl, HD, HBK, HVC, HVS, HVW⟩
                  case round =>
                    clear HD HBK HVC HVS HVW
                    obtain ⟨ll, hll, hg4, rfl, HD, HBK, HVC, HVS, HVW⟩ := hrel
                    by_cases hlt4 : ll < bs2.length
                    · have hmem := HSW.out.mem (rd bs2 (ll : Int)) (by rw [rd_nat, List.getD_eq_getElem?_getD, List.getElem?_eq_getElem hlt4]; exact List.getElem_mem hlt4)
                      obtain ⟨z, hz⟩ : ∃ z : Int, (ll : Int) = z := ⟨_, rfl⟩
                      have HZ := Aside0.mk hz
                      have hps : wk bs2 yd back (ll + 1) = (wk bs2 yd back ll).set (rd bs2 z).toNat yd := by rw [← hz]; rfl
                      rw [hz] at hmem
                      have hltz : z < (bs2.length : Int) := by omega
                      have hh0 : 0 ≤ z := by omega
                      have hz2 : z ≤ 1048576 := by have := HBL2.out; have := HGD.out.n2; omega
                      have HG4 := Aside0.mk (show bs2.length - (ll + 1) < gk from by omega)
                      have hnx : IntKind.i64.wrap (z + 1) = z + 1 := (i64_w _).trans (by unfold wrap64; omega)
                      obtain ⟨ad, ea, hx⟩ := Kd.at_int (Kd.R_reads' HD.out.rb).2.2 z hh0 hltz
                      cases ea
                      generalize rd bs2 z = x at hx hps hmem
                      obtain ⟨hx0, hx1⟩ := hmem
                      obtain ⟨hk1, hk2⟩ := Kd.R_celln 0 HD.out.rk x hx0 hx1
                      have hbx2 : wr.cell? ⟨gb101, 2, none⟩ = some (.int .i64 a0_2) := (blk_cell HD.out.box 2).trans rfl
                      have hltz' : decide (z < (bs2.length : Int)) = true := decide_eq_true hltz
                      have HPS := Aside0.mk hps
                      replace hltz := eq_true hltz
                      replace hh0 := eq_true hh0
                      replace hx0 := eq_true hx0
                      replace hx1 := eq_true hx1
                      rw [hz]
                      clear hz hps hlt4
                      go_wp2_with (first | ((with_reducible refine gate_store (t := 3) (p := 116) rfl ?_); refine store_event (t := 3) (p := 116) (v := ?vo116) (w1 := (wr.setCell ⟨gq, x.toNat, none⟩ (.int .i64 yd))) ?hg ?ho ?hn ?hr ?_; (case ho => rfl); (case hg => rfl); (case hn => rfl); (case hr => first | (go_simp; done) | (go_simp; rfl)); intro w11 hw; have n0 := Aside0.mk (show Dy w w11 gb101 gl gq cl ck kk a0_0 a0_1 a0_2 (fun k => k < wo.heap.size) (Ls.set p.toNat y) (wk bs2 yd back (ll + 1)) (.slice (some ad) bs2.length c5) (u8) bs2 ds from by rw [hw, HPS.out]; exact HD.out.setK x.toNat yd); have n1 := Aside0.mk (show w11.heap[wo.heap.size]? = some (.cells #[.int .i64 p, .slice Ac fs.length cc, .slice As bk.length cs, .slice Aw bk.length cw] 44 (0, 0)) from by rw [hw]; exact (Below.heap_setCell wr ⟨gq, x.toNat, none⟩ _ wo.heap.size (Nat.ne_of_gt HT.out.lt_k)).trans HBK.out); have n2 := Aside0.mk (show Kd.R (Kd.int .i64) 3 w11 w.heap.size (fun k => wo.heap.size ≤ k ∧ some k ≠ (.slice (some ad) bs2.length c5 : Value).ownBlock) (.slice Ac fs.length cc) fs from by rw [hw]; exact Kd.R_far (p := ⟨gq, x.toNat, none⟩) HVC.out (fun k hk e => by have := HT.out.lt_k; have e2 : k = gq := e; have := hk.1; omega) _); have n3 := Aside0.mk (show Kd.R (Kd.int .i64) 3 w11 w.heap.size (fun k => wo.heap.size ≤ k ∧ some k ≠ (.slice (some ad) bs2.length c5 : Value).ownBlock) (.slice As bk.length cs) bk from by rw [hw]; exact Kd.R_far (p := ⟨gq, x.toNat, none⟩) HVS.out (fun k hk e => by have := HT.out.lt_k; have e2 : k = gq := e; have := hk.1; omega) _); have n4 := Aside0.mk (show Kd.R (Kd.int .i64) 3 w11 w.heap.size (fun k => wo.heap.size ≤ k ∧ some k ≠ (.slice (some ad) bs2.length c5 : Value).ownBlock) (.slice Aw bk.length cw) bk from by rw [hw]; exact Kd.R_far (p := ⟨gq, x.toNat, none⟩) HVW.out (fun k hk e => by have := HT.out.lt_k; have e2 : k = gq := e; have := hk.1; omega) _); clear hw HD HBK HVC HVS HVW hk1 hk2 hx hbx2; have HD := n0; have HBK := n1; have HVC := n2; have HVS := n3; have HVW := n4; clear n0 n1 n2 n3 n4))
                      go_roundg (bs2.length - (ll + 1))
                      case measure => have := HG4.out; omega
                      case rel => exact ⟨ll + 1, by have := HZ.out; have := of_eq_true hltz; omega, by omega, by have := HZ.out; congr 1; omega, HD, HBK, HVC, HVS, HVW⟩
                    · have hltz : decide ((ll : Int) < (bs2.length : Int)) = false := decide_eq_false (by omega)
                      obtain rfl : ll = bs2.length := by omega
                      have hd0 : wr.cell? ⟨wo.heap.size, 0, none⟩ = some (.int .i64 p) := (blk_cell HBK.out 0).trans rfl; have hd1 : wr.cell? ⟨wo.heap.size, 1, none⟩ = some (.slice Ac fs.length cc) := (blk_cell HBK.out 1).trans rfl; have hd2 : wr.cell? ⟨wo.heap.size, 2, none⟩ = some (.slice As bk.length cs) := (blk_cell HBK.out 2).trans rfl; have hd3 : wr.cell? ⟨wo.heap.size, 3, none⟩ = some (.slice Aw bk.length cw) := (blk_cell HBK.out 3).trans rfl
                      go_wp2_with (first | ((with_reducible refine gate_builtin (b := .append) (xs := #[.tmp 118, .tmp 120]) rfl ?_); at_builtin; refine Kd.S_append k44 (w0 := w) w.heap.size rfl (.tmp 118) (.tmp 120) 52 44 (.agg #[.int .i64 0, .slice none 0 0, .slice none 0 0, .slice none 0 0]) 80 rfl Try.underlying52 info44 rfl (by decide) (by omega) u8 ds ⟨p, fs, bk, bk⟩ [.int .i64 p, .slice Ac fs.length cc, .slice As bk.length cs, .slice Aw bk.length cw] (fun k => k ≠ gl ∧ k ≠ gq ∧ some k ≠ (.slice A5 bs2.length c5 : Value).ownBlock) (fun k => wo.heap.size ≤ k ∧ some k ≠ (.slice A5 bs2.length c5 : Value).ownBlock) rfl rfl ?aP ?aK ?aF ?aO ?aB ?aS ?aL ?_; (case aP => exact k44_mkM _ _ _ ⟨p, fs, bk, bk⟩ HVC.out HVS.out HVW.out); (case aK => exact (fun k hk => ⟨⟨fun e => by have := HT.out.lt_l; have := hk.1; omega, fun e => by have := HT.out.lt_k; have := hk.1; omega, hk.2⟩, fun e => by have := HVO.out k e.symm; have := hk.1; omega⟩)); (case aF => exact (fun k hk => ⟨fun e => by have := HD.out.lt_l; omega, fun e => by have := HD.out.lt_k; omega, Kd.fresh' (Kd.R_lt HD.out.rb) k hk⟩)); (case aO => exact Kd.S_mono HD.out.ro (fun k hk => ⟨hk.1, fun h2 => by have := hk.2; have := h2.1; omega⟩)); (case aB => exact HD.out.below); (case aS => exact HD.out.below.size); (case aL => have := HLD.out; omega); intro v9 w9 ho hb hg hat; rw [← HDS.out] at ho; have HN := Aside0.mk (HD.out.nob.putO hg (Kd.S_mono ho (fun k hk => ⟨hk.1, hk.2.1, by simp [Value.ownBlock]⟩)) hb); clear ho hb hg hat))
                      go_roundg (m - (jj + 1))
                      case measure => have := HG2.out; omega
                      case rel => exact ⟨jj + 1, [], (wk bs2 yd back bs2.length), by have := HJM.out; omega, by omega, by have := HY.out; have := HYN.out; congr 1; omega, HSN, ⟨by rw [← HSL2.out]; exact HN.out⟩⟩
                · have hw0 : (yn % a0_1 == 0) = false := by rw [← HYN.out]; simp [hwash]
                  have HSN := Aside0.mk (show Sim kk a0_2 (st kk a0_1 a0_2 (jj + 1)).1 (st kk a0_1 a0_2 (jj + 1)).2 (st kk a0_1 a0_2 (jj + 1)).2 back bs2 (jj + 1) from by
                    have h := HSW.out
                    have e1 := HSC.out
                    unfold washC at e1
                    rw [if_neg hwash] at e1
                    rw [e1, HSL2.out] at h
                    exact ⟨h.last, h.lenC, h.lenL, h.lenB, h.bk, h.mem, h.nd⟩)
                  have HDS := Aside0.mk (show dl kk a0_1 a0_2 (jj + 1) = ds ++ [⟨p, fs, bk, []⟩] from by rw [HSD.out, if_neg hwash])
                  clear hwash
                  go_wp2_with (first | ((with_reducible refine gate_store (t := 3) (p := 84) rfl ?_); refine store_event (t := 3) (p := 84) (v := ?vo84) (w1 := (wr.setCell ⟨gl, p.toNat, none⟩ (.int .i64 y))) ?hg ?ho ?hn ?hr ?_; (case ho => rfl); (case hg => rfl); (case hn => rfl); (case hr => first | (go_simp; done) | (go_simp; rfl)); intro w2 hw; have n0 := Aside0.mk (show Dy w w2 gb101 gl gq cl ck kk a0_0 a0_1 a0_2 (fun k => k < wo.heap.size) (Ls.set p.toNat y) back (.slice Ab bs.length cb) (u8) bs ds from by rw [hw]; exact HD.out.setL p.toNat y); have n1 := Aside0.mk (show w2.heap[wo.heap.size]? = some (.cells #[.int .i64 p, .slice Ac fs.length cc, .slice none 0 0, .slice none 0 0] 44 (0, 0)) from by rw [hw]; exact (Below.heap_setCell wr ⟨gl, p.toNat, none⟩ _ wo.heap.size (Nat.ne_of_gt HT.out.lt_l)).trans HBK.out); have n2 := Aside0.mk (show Kd.R (Kd.int .i64) 3 w2 w.heap.size (fun k => wo.heap.size ≤ k ∧ some k ≠ (.slice Ab bs.length cb : Value).ownBlock) (.slice Ac fs.length cc) fs from by rw [hw]; exact Kd.R_far (p := ⟨gl, p.toNat, none⟩) HVC.out (fun k hk e => by have := HT.out.lt_l; have e2 : k = gl := e; have := hk.1; omega) _); clear hw HD HBK HVC hl1 hl2 hd0; have HD := n0; have HBK := n1; have HVC := n2; clear n0 n1 n2; have HB := Aside0.mk HD.out.below; have hd0 : w2.cell? ⟨wo.heap.size, 0, none⟩ = some (.int .i64 p) := (blk_cell HBK.out 0).trans rfl) | ((with_reducible refine gate_builtin (b := .append) (xs := #[.tmp 85, .tmp 88]) rfl ?_); at_builtin; refine Kd.R_append (Kd.int .i64) (w0 := w) (w.heap.size) rfl (.tmp 85) (.tmp 88) 24 3 (.int .i64 0) 8 rfl Try.underlying24 info3 rfl (by decide) (by omega) (.slice Ab bs.length cb) (bs) (p) [.int .i64 (p)] (fun k => k ≠ gl ∧ k ≠ gq) (fun _ => False) rfl rfl ?aP (fun _ hk => hk.elim) ?aF ?aO ?aB ?aS ?aL ?_; (case aP => exact rfl); (case aB => exact (by repeat (first | (with_reducible first | exact HB.out | apply below_alloc | apply pw_below_drewN | apply below_drew1) | exact HB.out))); (case aF => exact (fun k hk => ⟨fun e => by have := HD.out.lt_l; omega, fun e => by have := HD.out.lt_k; omega⟩)); (case aO => exact HD.out.rb); (case aS => exact HD.out.below.size); (case aL => have := HBL.out; have := HGD.out.n2; omega); intro v1 w1 ho hb hg hat; rw [HBS2.out] at ho; obtain ⟨A5, c5, e5⟩ := Kd.R_slice ho; subst e5; have n0 := Aside0.mk (HD.out.putB hg hat ho hb); have n1 := Aside0.mk (blk_grown HBK.out hg (Kd.R_ne HD.out.rb HBK.out (by decide))); have n2 := Aside0.mk (Kd.R_after (ok := fun k => wo.heap.size ≤ k) HVC.out hg hat); clear HD HBK HVC HB ho hb hg hat hd0; have HD := n0; have HBK := n1; have HVC := n2; clear n0 n1 n2) | (go_at_call 68; refine (values).mono ?_; rintro e w5 ⟨gv, rfl, hbv, hb⟩; have HBV := Aside0.mk hbv; have n0 := Aside0.mk (HD.out.new hb); have n1 := Aside0.mk (blk_below HBK.out hb); have n2 := Aside0.mk (Kd.R_below HVC.out hb); clear HD HBK HVC hbv hb; have HD := n0; have HBK := n1; have HVC := n2; clear n0 n1 n2) | (go_at_call 67; refine (XVals.sorted gv _ _ bs2 (by have := HBL2.out; have := HGD.out.n2; omega) _ ((blk_cell HBV.out 0).trans rfl) (Kd.R_reads' HD.out.rb).2.2).mono ?_; rintro e w6 ⟨v6, rfl, hr, hb⟩; rw [HSRT.out] at hr; obtain ⟨As, cs, es⟩ := Kd.R_slice hr; subst es; have HVS := Aside0.mk (show Kd.R (Kd.int .i64) 3 w6 w.heap.size (fun k => wo.heap.size ≤ k ∧ some k ≠ (.slice A5 bs2.length c5 : Value).ownBlock) (.slice As bk.length cs) bk from Kd.R_lower (Kd.R_mono (Kd.R_new' (Kd.R_bound hr) (Kd.R_lt HD.out.rb)) (fun k hk => ⟨Nat.le_trans (Nat.le_of_lt (blk_lt HBK.out)) hk.1.2.1, hk.2⟩)) HD.out.below.size); have n0 := Aside0.mk (HD.out.new hb); have n1 := Aside0.mk (blk_below HBK.out hb); have n2 := Aside0.mk (Kd.R_below HVC.out hb); clear HD HBK HVC HBV hr hb; have HD := n0; have HBK := n1; have HVC := n2; clear n0 n1 n2; have hb20 : w6.cell? ⟨wo.heap.size, 2, none⟩ = some (.slice none 0 0) := (blk_cell HBK.out 2).trans rfl; have hf20 := blk_frozen HBK.out 2) | ((with_reducible refine gate_store (t := 24) (p := 93) rfl ?_); refine store_event (t := 24) (p := 93) (v := ?vo93) (w1 := (w6.setCell ⟨wo.heap.size, 2, none⟩ (.slice As bk.length cs))) ?hg ?ho ?hn ?hr ?_; (case ho => rfl); (case hg => rfl); (case hn => rfl); (case hr => first | (go_simp; done) | (go_simp; rfl)); intro w7 hw; have n0 := Aside0.mk (show Dy w w7 gb101 gl gq cl ck kk a0_0 a0_1 a0_2 (fun k => k < wo.heap.size) (Ls.set p.toNat y) back (.slice A5 bs2.length c5) (u8) bs2 ds from by rw [hw]; exact HD.out.setD HBK.out (fun k hk => Nat.ne_of_lt hk) HWG.out 2 _); have n1 := Aside0.mk (show w7.heap[wo.heap.size]? = some (.cells #[.int .i64 p, .slice Ac fs.length cc, .slice As bk.length cs, .slice none 0 0] 44 (0, 0)) from by rw [hw]; exact blk_put HBK.out 2 _ rfl); have n2 := Aside0.mk (show Kd.R (Kd.int .i64) 3 w7 w.heap.size (fun k => wo.heap.size ≤ k ∧ some k ≠ (.slice A5 bs2.length c5 : Value).ownBlock) (.slice Ac fs.length cc) fs from by rw [hw]; exact Kd.R_set HVC.out HBK.out (by simp [Kd.int, Kd.scalar]) 2 _); have n3 := Aside0.mk (show Kd.R (Kd.int .i64) 3 w7 w.heap.size (fun k => wo.heap.size ≤ k ∧ some k ≠ (.slice A5 bs2.length c5 : Value).ownBlock) (.slice As bk.length cs) bk from by rw [hw]; exact Kd.R_set HVS.out HBK.out (by simp [Kd.int, Kd.scalar]) 2 _); clear hw HD HBK HVC HVS hb20 hf20; have HD := n0; have HBK := n1; have HVC := n2; have HVS := n3; clear n0 n1 n2 n3; have hd0 : w7.cell? ⟨wo.heap.size, 0, none⟩ = some (.int .i64 p) := (blk_cell HBK.out 0).trans rfl; have hd1 : w7.cell? ⟨wo.heap.size, 1, none⟩ = some (.slice Ac fs.length cc) := (blk_cell HBK.out 1).trans rfl; have hd2 : w7.cell? ⟨wo.heap.size, 2, none⟩ = some (.slice As bk.length cs) := (blk_cell HBK.out 2).trans rfl; have hd3 : w7.cell? ⟨wo.heap.size, 3, none⟩ = some (.slice none 0 0) := (blk_cell HBK.out 3).trans rfl; have hf30 := blk_frozen HBK.out 3; have hbx1 : w7.cell? ⟨gb101, 1, none⟩ = some (.int .i64 a0_1) := (blk_cell HD.out.box 1).trans rfl) | ((with_reducible refine gate_builtin (b := .append) (xs := #[.tmp 118, .tmp 120]) rfl ?_); at_builtin; refine Kd.S_append k44 (w0 := w) w.heap.size rfl (.tmp 118) (.tmp 120) 52 44 (.agg #[.int .i64 0, .slice none 0 0, .slice none 0 0, .slice none 0 0]) 80 rfl Try.underlying52 info44 rfl (by decide) (by omega) u8 ds ⟨p, fs, bk, []⟩ [.int .i64 p, .slice Ac fs.length cc, .slice As bk.length cs, .slice none 0 0] (fun k => k ≠ gl ∧ k ≠ gq ∧ some k ≠ (.slice A5 bs2.length c5 : Value).ownBlock) (fun k => wo.heap.size ≤ k ∧ some k ≠ (.slice A5 bs2.length c5 : Value).ownBlock) rfl rfl ?aP ?aK ?aF ?aO ?aB ?aS ?aL ?_; (case aP => exact k44_mkM _ _ _ ⟨p, fs, bk, []⟩ HVC.out HVS.out (Kd.R_nil _ _ _ _ _)); (case aK => exact (fun k hk => ⟨⟨fun e => by have := HT.out.lt_l; have := hk.1; omega, fun e => by have := HT.out.lt_k; have := hk.1; omega, hk.2⟩, fun e => by have := HVO.out k e.symm; have := hk.1; omega⟩)); (case aF => exact (fun k hk => ⟨fun e => by have := HD.out.lt_l; omega, fun e => by have := HD.out.lt_k; omega, Kd.fresh' (Kd.R_lt HD.out.rb) k hk⟩)); (case aO => exact Kd.S_mono HD.out.ro (fun k hk => ⟨hk.1, fun h2 => by have := hk.2; have := h2.1; omega⟩)); (case aB => exact HD.out.below); (case aS => exact HD.out.below.size); (case aL => have := HLD.out; omega); intro v9 w9 ho hb hg hat; rw [← HDS.out] at ho; have HN := Aside0.mk (HD.out.putO hg ho hb); clear ho hb hg hat))
                  go_roundg (m - (jj + 1))
                  case measure => have := HG2.out; omega
                  case rel => exact ⟨jj + 1, bs2, back, by have := HJM.out; omega, by omega, by have := HY.out; have := HYN.out; congr 1; omega, HSN, ⟨by rw [← HSL2.out]; exact HN.out⟩⟩
              · have hpd : decide (0 ≤ p) = false := decide_eq_false hpos
                rw [if_neg hpos] at hsw
                unfold wL at hsw
                rw [if_neg hpos] at hsw
                have HSW := Aside0.mk hsw
                have HSL2 := Aside0.mk (show Ls = (st kk a0_1 a0_2 (jj + 1)).2 from by have e := HSL.out; unfold wL at e; rwa [if_neg hpos] at e)
                have HBL2 := Aside0.mk (sim_len hsw)
                have HSRT := Aside0.mk (hsw.sorted.trans HBKE.out)
                clear hsw hpb hpos
                by_cases hwash : (y + 1) % a0_1 = 0
                · have hw0 : (yn % a0_1 == 0) = true := by rw [← HYN.out]; simp [hwash]
                  have HSN := Aside0.mk (show Sim kk a0_2 (st kk a0_1 a0_2 (jj + 1)).1 (st kk a0_1 a0_2 (jj + 1)).2 (st kk a0_1 a0_2 (jj + 1)).2 (wk bs yd back bs.length) [] (jj + 1) from by
                    have h := HSW.out.wash (by rw [HY.out]; have := HGD.out.d1; omega)
                    rw [HY.out, HYD.out, HBKE.out] at h
                    have e1 := HSC.out
                    unfold washC at e1
                    rw [if_pos hwash, HYD.out, HBKE.out] at e1
                    rw [e1, HSL2.out] at h
                    exact ⟨h.last, h.lenC, h.lenL, h.lenB, h.bk, h.mem, h.nd⟩)
                  have HDS := Aside0.mk (show dl kk a0_1 a0_2 (jj + 1) = ds ++ [⟨p, fs, bk, bk⟩] from by rw [HSD.out, if_pos hwash])
                  clear hwash
                  go_wp2_with (first | (go_at_call 68; refine (values).mono ?_; rintro e w5 ⟨gv, rfl, hbv, hb⟩; have HBV := Aside0.mk hbv; have n0 := Aside0.mk (HD.out.new hb); have n1 := Aside0.mk (blk_below HBK.out hb); have n2 := Aside0.mk (Kd.R_below HVC.out hb); clear HD HBK HVC hbv hb; have HD := n0; have HBK := n1; have HVC := n2; clear n0 n1 n2) | (go_at_call 67; refine (XVals.sorted gv _ _ bs (by have := HBL2.out; have := HGD.out.n2; omega) _ ((blk_cell HBV.out 0).trans rfl) (Kd.R_reads' HD.out.rb).2.2).mono ?_; rintro e w6 ⟨v6, rfl, hr, hb⟩; rw [HSRT.out] at hr; obtain ⟨As, cs, es⟩ := Kd.R_slice hr; subst es; have HVS := Aside0.mk (show Kd.R (Kd.int .i64) 3 w6 w.heap.size (fun k => wo.heap.size ≤ k ∧ some k ≠ (.slice Ab bs.length cb : Value).ownBlock) (.slice As bk.length cs) bk from Kd.R_lower (Kd.R_mono (Kd.R_new' (Kd.R_bound hr) (Kd.R_lt HD.out.rb)) (fun k hk => ⟨Nat.le_trans (Nat.le_of_lt (blk_lt HBK.out)) hk.1.2.1, hk.2⟩)) HD.out.below.size); have n0 := Aside0.mk (HD.out.new hb); have n1 := Aside0.mk (blk_below HBK.out hb); have n2 := Aside0.mk (Kd.R_below HVC.out hb); clear HD HBK HVC HBV hr hb; have HD := n0; have HBK := n1; have HVC := n2; clear n0 n1 n2; have hb20 : w6.cell? ⟨wo.heap.size, 2, none⟩ = some (.slice none 0 0) := (blk_cell HBK.out 2).trans rfl; have hf20 := blk_frozen HBK.out 2) | ((with_reducible refine gate_store (t := 24) (p := 93) rfl ?_); refine store_event (t := 24) (p := 93) (v := ?vo93) (w1 := (w6.setCell ⟨wo.heap.size, 2, none⟩ (.slice As bk.length cs))) ?hg ?ho ?hn ?hr ?_; (case ho => rfl); (case hg => rfl); (case hn => rfl); (case hr => first | (go_simp; done) | (go_simp; rfl)); intro w7 hw; have n0 := Aside0.mk (show Dy w w7 gb101 gl gq cl ck kk a0_0 a0_1 a0_2 (fun k => k < wo.heap.size) Ls back (.slice Ab bs.length cb) (u8) bs ds from by rw [hw]; exact HD.out.setD HBK.out (fun k hk => Nat.ne_of_lt hk) HWG.out 2 _); have n1 := Aside0.mk (show w7.heap[wo.heap.size]? = some (.cells #[.int .i64 p, .slice Ac fs.length cc, .slice As bk.length cs, .slice none 0 0] 44 (0, 0)) from by rw [hw]; exact blk_put HBK.out 2 _ rfl); have n2 := Aside0.mk (show Kd.R (Kd.int .i64) 3 w7 w.heap.size (fun k => wo.heap.size ≤ k ∧ some k ≠ (.slice Ab bs.length cb : Value).ownBlock) (.slice Ac fs.length cc) fs from by rw [hw]; exact Kd.R_set HVC.out HBK.out (by simp [Kd.int, Kd.scalar]) 2 _); have n3 := Aside0.mk (show Kd.R (Kd.int .i64) 3 w7 w.heap.size (fun k => wo.heap.size ≤ k ∧ some k ≠ (.slice Ab bs.length cb : Value).ownBlock) (.slice As bk.length cs) bk from by rw [hw]; exact Kd.R_set HVS.out HBK.out (by simp [Kd.int, Kd.scalar]) 2 _); clear hw HD HBK HVC HVS hb20 hf20; have HD := n0; have HBK := n1; have HVC := n2; have HVS := n3; clear n0 n1 n2 n3; have hd0 : w7.cell? ⟨wo.heap.size, 0, none⟩ = some (.int .i64 p) := (blk_cell HBK.out 0).trans rfl; have hd1 : w7.cell? ⟨wo.heap.size, 1, none⟩ = some (.slice Ac fs.length cc) := (blk_cell HBK.out 1).trans rfl; have hd2 : w7.cell? ⟨wo.heap.size, 2, none⟩ = some (.slice As bk.length cs) := (blk_cell HBK.out 2).trans rfl; have hd3 : w7.cell? ⟨wo.heap.size, 3, none⟩ = some (.slice none 0 0) := (blk_cell HBK.out 3).trans rfl; have hf30 := blk_frozen HBK.out 3; have hbx1 : w7.cell? ⟨gb101, 1, none⟩ = some (.int .i64 a0_1) := (blk_cell HD.out.box 1).trans rfl) | (go_at_call 69; (with_reducible refine (slices_Clone_int_int.calls As cs bk bk _ (Kd.R_reads' HVS.out).2.2 (Kd.R_reads' HVS.out).2.1 HCLN.out).mono ?_); rintro e w8 ⟨v8, rfl, hr, hb⟩; obtain ⟨Aw, cw, ew⟩ := Kd.R_slice hr; subst ew; have HVW := Aside0.mk (show Kd.R (Kd.int .i64) 3 w8 w.heap.size (fun k => wo.heap.size ≤ k ∧ some k ≠ (.slice Ab bs.length cb : Value).ownBlock) (.slice Aw bk.length cw) bk from Kd.R_lower (Kd.R_mono (Kd.R_new' (Kd.R_bound hr) (Kd.R_lt HD.out.rb)) (fun k hk => ⟨Nat.le_trans (Nat.le_of_lt (blk_lt HBK.out)) hk.1.2.1, hk.2⟩)) HD.out.below.size); have n0 := Aside0.mk (HD.out.new hb); have n1 := Aside0.mk (blk_below HBK.out hb); have n2 := Aside0.mk (Kd.R_below HVC.out hb); have n3 := Aside0.mk (Kd.R_below HVS.out hb); clear HD HBK HVC HVS hr hb hd0 hd1 hd2 hd3 hf30 hbx1; have HD := n0; have HBK := n1; have HVC := n2; have HVS := n3; clear n0 n1 n2 n3; have hb30 : w8.cell? ⟨wo.heap.size, 3, none⟩ = some (.slice none 0 0) := (blk_cell HBK.out 3).trans rfl; have hf30 := blk_frozen HBK.out 3) | ((with_reducible refine gate_store (t := 24) (p := 103) rfl ?_); refine store_event (t := 24) (p := 103) (v := ?vo103) (w1 := (w8.setCell ⟨wo.heap.size, 3, none⟩ (.slice Aw bk.length cw))) ?hg ?ho ?hn ?hr ?_; (case ho => rfl); (case hg => rfl); (case hn => rfl); (case hr => first | (go_simp; done) | (go_simp; rfl)); intro w10 hw; have n0 := Aside0.mk (show Dy w w10 gb101 gl gq cl ck kk a0_0 a0_1 a0_2 (fun k => k < wo.heap.size) Ls back (.slice Ab bs.length cb) (u8) bs ds from by rw [hw]; exact HD.out.setD HBK.out (fun k hk => Nat.ne_of_lt hk) HWG.out 3 _); have n1 := Aside0.mk (show w10.heap[wo.heap.size]? = some (.cells #[.int .i64 p, .slice Ac fs.length cc, .slice As bk.length cs, .slice Aw bk.length cw] 44 (0, 0)) from by rw [hw]; exact blk_put HBK.out 3 _ rfl); have n2 := Aside0.mk (show Kd.R (Kd.int .i64) 3 w10 w.heap.size (fun k => wo.heap.size ≤ k ∧ some k ≠ (.slice Ab bs.length cb : Value).ownBlock) (.slice Ac fs.length cc) fs from by rw [hw]; exact Kd.R_set HVC.out HBK.out (by simp [Kd.int, Kd.scalar]) 3 _); have n3 := Aside0.mk (show Kd.R (Kd.int .i64) 3 w10 w.heap.size (fun k => wo.heap.size ≤ k ∧ some k ≠ (.slice Ab bs.length cb : Value).ownBlock) (.slice As bk.length cs) bk from by rw [hw]; exact Kd.R_set HVS.out HBK.out (by simp [Kd.int, Kd.scalar]) 3 _); have n4 := Aside0.mk (show Kd.R (Kd.int .i64) 3 w10 w.heap.size (fun k => wo.heap.size ≤ k ∧ some k ≠ (.slice Ab bs.length cb : Value).ownBlock) (.slice Aw bk.length cw) bk from by rw [hw]; exact Kd.R_set HVW.out HBK.out (by simp [Kd.int, Kd.scalar]) 3 _); clear hw HD HBK HVC HVS HVW hb30 hf30; have HD := n0; have HBK := n1; have HVC := n2; have HVS := n3; have HVW := n4; clear n0 n1 n2 n3 n4))
                  go_loopg [106] bs.length (fun gg v106 wr => ∃ ll : Nat, ll ≤ bs.length ∧ bs.length - ll ≤ gg ∧ v106 = .int .i64 ll ∧ Aside0 (Dy w wr gb101 gl gq cl ck kk a0_0 a0_1 a0_2 (fun k => k < wo.heap.size) Ls (wk bs yd back ll) (.slice Ab bs.length cb) (u8) bs ds) ∧ Aside0 (wr.heap[wo.heap.size]? = some (.cells #[.int .i64 p, .slice Ac fs.length cc, .slice As bk.length cs, .slice Aw bk.length cw] 44 (0, 0))) ∧ Aside0 (Kd.R (Kd.int .i64) 3 wr w.heap.size (fun k => wo.heap.size ≤ k ∧ some k ≠ (.slice Ab bs.length cb : Value).ownBlock) (.slice Ac fs.length cc) fs) ∧ Aside0 (Kd.R (Kd.int .i64) 3 wr w.heap.size (fun k => wo.heap.size ≤ k ∧ some k ≠ (.slice Ab bs.length cb : Value).ownBlock) (.slice As bk.length cs) bk) ∧ Aside0 (Kd.R (Kd.int .i64) 3 wr w.heap.size (fun k => wo.heap.size ≤ k ∧ some k ≠ (.slice Ab bs.length cb : Value).ownBlock) (.slice Aw bk.length cw) bk))
                  case atStart => exact ⟨0, Nat.zero_le _, by omega, rfl, HD, HBK, HVC, HVS, HVW⟩
                  case round =>
                    clear HD HBK HVC HVS HVW
                    obtain ⟨ll, hll, hg4, rfl, HD, HBK, HVC, HVS, HVW⟩ := hrel
                    by_cases hlt4 : ll < bs.length
                    · have hmem := HSW.out.mem (rd bs (ll : Int)) (by rw [rd_nat, List.getD_eq_getElem?_getD, List.getElem?_eq_getElem hlt4]; exact List.getElem_mem hlt4)
                      obtain ⟨z, hz⟩ : ∃ z : Int, (ll : Int) = z := ⟨_, rfl⟩
                      have HZ := Aside0.mk hz
                      have hps : wk bs yd back (ll + 1) = (wk bs yd back ll).set (rd bs z).toNat yd := by rw [← hz]; rfl
                      rw [hz] at hmem
                      have hltz : z < (bs.length : Int) := by omega
                      have hh0 : 0 ≤ z := by omega
                      have hz2 : z ≤ 1048576 := by have := HBL2.out; have := HGD.out.n2; omega
                      have HG4 := Aside0.mk (show bs.length - (ll + 1) < gk from by omega)
                      have hnx : IntKind.i64.wrap (z + 1) = z + 1 := (i64_w _).trans (by unfold wrap64; omega)
                      obtain ⟨ad, ea, hx⟩ := Kd.at_int (Kd.R_reads' HD.out.rb).2.2 z hh0 hltz
                      cases ea
                      generalize rd bs z = x at hx hps hmem
                      obtain ⟨hx0, hx1⟩ := hmem
                      obtain ⟨hk1, hk2⟩ := Kd.R_celln 0 HD.out.rk x hx0 hx1
                      have hbx2 : wr.cell? ⟨gb101, 2, none⟩ = some (.int .i64 a0_2) := (blk_cell HD.out.box 2).trans rfl
                      have hltz' : decide (z < (bs.length : Int)) = true := decide_eq_true hltz
                      have HPS := Aside0.mk hps
                      replace hltz := eq_true hltz
                      replace hh0 := eq_true hh0
                      replace hx0 := eq_true hx0
                      replace hx1 := eq_true hx1
                      rw [hz]
                      clear hz hps hlt4
                      go_wp2_with (first | ((with_reducible refine gate_store (t := 3) (p := 116) rfl ?_); refine store_event (t := 3) (p := 116) (v := ?vo116) (w1 := (wr.setCell ⟨gq, x.toNat, none⟩ (.int .i64 yd))) ?hg ?ho ?hn ?hr ?_; (case ho => rfl); (case hg => rfl); (case hn => rfl); (case hr => first | (go_simp; done) | (go_simp; rfl)); intro w11 hw; have n0 := Aside0.mk (show Dy w w11 gb101 gl gq cl ck kk a0_0 a0_1 a0_2 (fun k => k < wo.heap.size) Ls (wk bs yd back (ll + 1)) (.slice (some ad) bs.length cb) (u8) bs ds from by rw [hw, HPS.out]; exact HD.out.setK x.toNat yd); have n1 := Aside0.mk (show w11.heap[wo.heap.size]? = some (.cells #[.int .i64 p, .slice Ac fs.length cc, .slice As bk.length cs, .slice Aw bk.length cw] 44 (0, 0)) from by rw [hw]; exact (Below.heap_setCell wr ⟨gq, x.toNat, none⟩ _ wo.heap.size (Nat.ne_of_gt HT.out.lt_k)).trans HBK.out); have n2 := Aside0.mk (show Kd.R (Kd.int .i64) 3 w11 w.heap.size (fun k => wo.heap.size ≤ k ∧ some k ≠ (.slice (some ad) bs.length cb : Value).ownBlock) (.slice Ac fs.length cc) fs from by rw [hw]; exact Kd.R_far (p := ⟨gq, x.toNat, none⟩) HVC.out (fun k hk e => by have := HT.out.lt_k; have e2 : k = gq := e; have := hk.1; omega) _); have n3 := Aside0.mk (show Kd.R (Kd.int .i64) 3 w11 w.heap.size (fun k => wo.heap.size ≤ k ∧ some k ≠ (.slice (some ad) bs.length cb : Value).ownBlock) (.slice As bk.length cs) bk from by rw [hw]; exact Kd.R_far (p := ⟨gq, x.toNat, none⟩) HVS.out (fun k hk e => by have := HT.out.lt_k; have e2 : k = gq := e; have := hk.1; omega) _); have n4 := Aside0.mk (show Kd.R (Kd.int .i64) 3 w11 w.heap.size (fun k => wo.heap.size ≤ k ∧ some k ≠ (.slice (some ad) bs.length cb : Value).ownBlock) (.slice Aw bk.length cw) bk from by rw [hw]; exact Kd.R_far (p := ⟨gq, x.toNat, none⟩) HVW.out (fun k hk e => by have := HT.out.lt_k; have e2 : k = gq := e; have := hk.1; omega) _); clear hw HD HBK HVC HVS HVW hk1 hk2 hx hbx2; have HD := n0; have HBK := n1; have HVC := n2; have HVS := n3; have HVW := n4; clear n0 n1 n2 n3 n4))
                      go_roundg (bs.length - (ll + 1))
                      case measure => have := HG4.out; omega
                      case rel => exact ⟨ll + 1, by have := HZ.out; have := of_eq_true hltz; omega, by omega, by have := HZ.out; congr 1; omega, HD, HBK, HVC, HVS, HVW⟩
                    · have hltz : decide ((ll : Int) < (bs.length : Int)) = false := decide_eq_false (by omega)
                      obtain rfl : ll = bs.length := by omega
                      have hd0 : wr.cell? ⟨wo.heap.size, 0, none⟩ = some (.int .i64 p) := (blk_cell HBK.out 0).trans rfl; have hd1 : wr.cell? ⟨wo.heap.size, 1, none⟩ = some (.slice Ac fs.length cc) := (blk_cell HBK.out 1).trans rfl; have hd2 : wr.cell? ⟨wo.heap.size, 2, none⟩ = some (.slice As bk.length cs) := (blk_cell HBK.out 2).trans rfl; have hd3 : wr.cell? ⟨wo.heap.size, 3, none⟩ = some (.slice Aw bk.length cw) := (blk_cell HBK.out 3).trans rfl
                      go_wp2_with (first | ((with_reducible refine gate_builtin (b := .append) (xs := #[.tmp 118, .tmp 120]) rfl ?_); at_builtin; refine Kd.S_append k44 (w0 := w) w.heap.size rfl (.tmp 118) (.tmp 120) 52 44 (.agg #[.int .i64 0, .slice none 0 0, .slice none 0 0, .slice none 0 0]) 80 rfl Try.underlying52 info44 rfl (by decide) (by omega) u8 ds ⟨p, fs, bk, bk⟩ [.int .i64 p, .slice Ac fs.length cc, .slice As bk.length cs, .slice Aw bk.length cw] (fun k => k ≠ gl ∧ k ≠ gq ∧ some k ≠ (.slice Ab bs.length cb : Value).ownBlock) (fun k => wo.heap.size ≤ k ∧ some k ≠ (.slice Ab bs.length cb : Value).ownBlock) rfl rfl ?aP ?aK ?aF ?aO ?aB ?aS ?aL ?_; (case aP => exact k44_mkM _ _ _ ⟨p, fs, bk, bk⟩ HVC.out HVS.out HVW.out); (case aK => exact (fun k hk => ⟨⟨fun e => by have := HT.out.lt_l; have := hk.1; omega, fun e => by have := HT.out.lt_k; have := hk.1; omega, hk.2⟩, fun e => by have := HVO.out k e.symm; have := hk.1; omega⟩)); (case aF => exact (fun k hk => ⟨fun e => by have := HD.out.lt_l; omega, fun e => by have := HD.out.lt_k; omega, Kd.fresh' (Kd.R_lt HD.out.rb) k hk⟩)); (case aO => exact Kd.S_mono HD.out.ro (fun k hk => ⟨hk.1, fun h2 => by have := hk.2; have := h2.1; omega⟩)); (case aB => exact HD.out.below); (case aS => exact HD.out.below.size); (case aL => have := HLD.out; omega); intro v9 w9 ho hb hg hat; rw [← HDS.out] at ho; have HN := Aside0.mk (HD.out.nob.putO hg (Kd.S_mono ho (fun k hk => ⟨hk.1, hk.2.1, by simp [Value.ownBlock]⟩)) hb); clear ho hb hg hat))
                      go_roundg (m - (jj + 1))
                      case measure => have := HG2.out; omega
                      case rel => exact ⟨jj + 1, [], (wk bs yd back bs.length), by have := HJM.out; omega, by omega, by have := HY.out; have := HYN.out; congr 1; omega, HSN, ⟨by rw [← HSL2.out]; exact HN.out⟩⟩
                · have hw0 : (yn % a0_1 == 0) = false := by rw [← HYN.out]; simp [hwash]
                  have HSN := Aside0.mk (show Sim kk a0_2 (st kk a0_1 a0_2 (jj + 1)).1 (st kk a0_1 a0_2 (jj + 1)).2 (st kk a0_1 a0_2 (jj + 1)).2 back bs (jj + 1) from by
                    have h := HSW.out
                    have e1 := HSC.out
                    unfold washC at e1
                    rw [if_neg hwash] at e1
                    rw [e1, HSL2.out] at h
                    exact ⟨h.last, h.lenC, h.lenL, h.lenB, h.bk, h.mem, h.nd⟩)
                  have HDS := Aside0.mk (show dl kk a0_1 a0_2 (jj + 1) = ds ++ [⟨p, fs, bk, []⟩] from by rw [HSD.out, if_neg hwash])
                  clear hwash
                  go_wp2_with (first | (go_at_call 68; refine (values).mono ?_; rintro e w5 ⟨gv, rfl, hbv, hb⟩; have HBV := Aside0.mk hbv; have n0 := Aside0.mk (HD.out.new hb); have n1 := Aside0.mk (blk_below HBK.out hb); have n2 := Aside0.mk (Kd.R_below HVC.out hb); clear HD HBK HVC hbv hb; have HD := n0; have HBK := n1; have HVC := n2; clear n0 n1 n2) | (go_at_call 67; refine (XVals.sorted gv _ _ bs (by have := HBL2.out; have := HGD.out.n2; omega) _ ((blk_cell HBV.out 0).trans rfl) (Kd.R_reads' HD.out.rb).2.2).mono ?_; rintro e w6 ⟨v6, rfl, hr, hb⟩; rw [HSRT.out] at hr; obtain ⟨As, cs, es⟩ := Kd.R_slice hr; subst es; have HVS := Aside0.mk (show Kd.R (Kd.int .i64) 3 w6 w.heap.size (fun k => wo.heap.size ≤ k ∧ some k ≠ (.slice Ab bs.length cb : Value).ownBlock) (.slice As bk.length cs) bk from Kd.R_lower (Kd.R_mono (Kd.R_new' (Kd.R_bound hr) (Kd.R_lt HD.out.rb)) (fun k hk => ⟨Nat.le_trans (Nat.le_of_lt (blk_lt HBK.out)) hk.1.2.1, hk.2⟩)) HD.out.below.size); have n0 := Aside0.mk (HD.out.new hb); have n1 := Aside0.mk (blk_below HBK.out hb); have n2 := Aside0.mk (Kd.R_below HVC.out hb); clear HD HBK HVC HBV hr hb; have HD := n0; have HBK := n1; have HVC := n2; clear n0 n1 n2; have hb20 : w6.cell? ⟨wo.heap.size, 2, none⟩ = some (.slice none 0 0) := (blk_cell HBK.out 2).trans rfl; have hf20 := blk_frozen HBK.out 2) | ((with_reducible refine gate_store (t := 24) (p := 93) rfl ?_); refine store_event (t := 24) (p := 93) (v := ?vo93) (w1 := (w6.setCell ⟨wo.heap.size, 2, none⟩ (.slice As bk.length cs))) ?hg ?ho ?hn ?hr ?_; (case ho => rfl); (case hg => rfl); (case hn => rfl); (case hr => first | (go_simp; done) | (go_simp; rfl)); intro w7 hw; have n0 := Aside0.mk (show Dy w w7 gb101 gl gq cl ck kk a0_0 a0_1 a0_2 (fun k => k < wo.heap.size) Ls back (.slice Ab bs.length cb) (u8) bs ds from by rw [hw]; exact HD.out.setD HBK.out (fun k hk => Nat.ne_of_lt hk) HWG.out 2 _); have n1 := Aside0.mk (show w7.heap[wo.heap.size]? = some (.cells #[.int .i64 p, .slice Ac fs.length cc, .slice As bk.length cs, .slice none 0 0] 44 (0, 0)) from by rw [hw]; exact blk_put HBK.out 2 _ rfl); have n2 := Aside0.mk (show Kd.R (Kd.int .i64) 3 w7 w.heap.size (fun k => wo.heap.size ≤ k ∧ some k ≠ (.slice Ab bs.length cb : Value).ownBlock) (.slice Ac fs.length cc) fs from by rw [hw]; exact Kd.R_set HVC.out HBK.out (by simp [Kd.int, Kd.scalar]) 2 _); have n3 := Aside0.mk (show Kd.R (Kd.int .i64) 3 w7 w.heap.size (fun k => wo.heap.size ≤ k ∧ some k ≠ (.slice Ab bs.length cb : Value).ownBlock) (.slice As bk.length cs) bk from by rw [hw]; exact Kd.R_set HVS.out HBK.out (by simp [Kd.int, Kd.scalar]) 2 _); clear hw HD HBK HVC HVS hb20 hf20; have HD := n0; have HBK := n1; have HVC := n2; have HVS := n3; clear n0 n1 n2 n3; have hd0 : w7.cell? ⟨wo.heap.size, 0, none⟩ = some (.int .i64 p) := (blk_cell HBK.out 0).trans rfl; have hd1 : w7.cell? ⟨wo.heap.size, 1, none⟩ = some (.slice Ac fs.length cc) := (blk_cell HBK.out 1).trans rfl; have hd2 : w7.cell? ⟨wo.heap.size, 2, none⟩ = some (.slice As bk.length cs) := (blk_cell HBK.out 2).trans rfl; have hd3 : w7.cell? ⟨wo.heap.size, 3, none⟩ = some (.slice none 0 0) := (blk_cell HBK.out 3).trans rfl; have hf30 := blk_frozen HBK.out 3; have hbx1 : w7.cell? ⟨gb101, 1, none⟩ = some (.int .i64 a0_1) := (blk_cell HD.out.box 1).trans rfl) | ((with_reducible refine gate_builtin (b := .append) (xs := #[.tmp 118, .tmp 120]) rfl ?_); at_builtin; refine Kd.S_append k44 (w0 := w) w.heap.size rfl (.tmp 118) (.tmp 120) 52 44 (.agg #[.int .i64 0, .slice none 0 0, .slice none 0 0, .slice none 0 0]) 80 rfl Try.underlying52 info44 rfl (by decide) (by omega) u8 ds ⟨p, fs, bk, []⟩ [.int .i64 p, .slice Ac fs.length cc, .slice As bk.length cs, .slice none 0 0] (fun k => k ≠ gl ∧ k ≠ gq ∧ some k ≠ (.slice Ab bs.length cb : Value).ownBlock) (fun k => wo.heap.size ≤ k ∧ some k ≠ (.slice Ab bs.length cb : Value).ownBlock) rfl rfl ?aP ?aK ?aF ?aO ?aB ?aS ?aL ?_; (case aP => exact k44_mkM _ _ _ ⟨p, fs, bk, []⟩ HVC.out HVS.out (Kd.R_nil _ _ _ _ _)); (case aK => exact (fun k hk => ⟨⟨fun e => by have := HT.out.lt_l; have := hk.1; omega, fun e => by have := HT.out.lt_k; have := hk.1; omega, hk.2⟩, fun e => by have := HVO.out k e.symm; have := hk.1; omega⟩)); (case aF => exact (fun k hk => ⟨fun e => by have := HD.out.lt_l; omega, fun e => by have := HD.out.lt_k; omega, Kd.fresh' (Kd.R_lt HD.out.rb) k hk⟩)); (case aO => exact Kd.S_mono HD.out.ro (fun k hk => ⟨hk.1, fun h2 => by have := hk.2; have := h2.1; omega⟩)); (case aB => exact HD.out.below); (case aS => exact HD.out.below.size); (case aL => have := HLD.out; omega); intro v9 w9 ho hb hg hat; rw [← HDS.out] at ho; have HN := Aside0.mk (HD.out.putO hg ho hb); clear ho hb hg hat))
                  go_roundg (m - (jj + 1))
                  case measure => have := HG2.out; omega
                  case rel => exact ⟨jj + 1, bs, back, by have := HJM.out; omega, by omega, by have := HY.out; have := HYN.out; congr 1; omega, HSN, ⟨by rw [← HSL2.out]; exact HN.out⟩⟩
        · have hltz2 : decide ((jj : Int) < a1) = false := decide_eq_false (by rw [HMM.out]; omega)
          obtain rfl : jj = m := by omega
          go_wp2
          go_ret
          exact ⟨_, rfl, Kd.S_mono HD.out.ro (fun _ _ => trivial), HD.out.below⟩
end Go.Proofs.Ytpalinpgoalneaa.XDay
