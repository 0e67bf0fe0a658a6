/- The contract of impl.FirstOfShape: called with a text it returns what the Lean function '.f' of that name says whenever that has an answer, in memory of its own; nothing that was there is changed. -/
import Derived.Test.YtfllamjkifbpmaaDoorQShapex
import Derived.Lib.OthersKept
import Derived.WalkSmall
import Derived.LoopTactic
namespace Go.Proofs.YtfllamjkifbpmaaDoor.XFirst
open Go.RowKit Go.Proofs.YtfllamjkifbpmaaDoorW.PrintWords Go.Proofs.YtfllamjkifbpmaaDoorW.PrintLast Go.Proofs.YtfllamjkifbpmaaDoorW.PrintMore
open Go.Proofs.YtfllamjkifbpmaaDoor.QBase Go.Proofs.YtfllamjkifbpmaaDoor.XTrim Go.Proofs.YtfllamjkifbpmaaDoor.XHeights Go.Proofs.YtfllamjkifbpmaaDoor.QShape
set_option linter.unusedVariables false
set_option linter.unusedSimpArgs false

/-- The pile of the signs that are left. -/
def fstL : List UInt8 → List Int → List Int → Int → Option (List Int)
  | [], x4, _, _ => some x4
  | c :: cs, x4, x5, x6 => if c.toNat = 43 then fstL cs (x4 ++ [x6]) (x5 ++ [x6]) (wrap64 (x6 + 1)) else if 0 < x5.length then fstL cs (x4 ++ [rd x5 0]) (x5.drop 1) x6 else none
def impl_FirstOfShape.f (k : Nat) (s : ByteArray) : Option (List Int × Bool) := (impl_IsShape.f k s).bind fun t => if t = true then (if s.size ≤ 1048576 ∧ (∀ c ∈ s.data.toList, c.toNat < 128) then (fstL s.data.toList [] [] 0).bind fun r => some (r, true) else none) else some ([], false)
theorem impl_FirstOfShape.mono : ∀ a0 k, LeO (impl_FirstOfShape.f k a0) (impl_FirstOfShape.f (k + 1) a0) := by
  intro a0 k
  unfold impl_FirstOfShape.f
  exact LeO.bind (impl_IsShape.mono _ _) (fun t => LeO.refl _)

set_option maxHeartbeats 8000000 in
set_option maxRecDepth 100000 in
theorem impl_FirstOfShape.calls (k : Nat) (s : ByteArray) (r1 : List Int) (r2 : Bool) (w : World) (h : impl_FirstOfShape.f k s = some (r1, r2)) :
    Calls Tryd.prog 16 #[.string s] w fun e w' => ∃ v0_ : Value, e = .returned (.tuple #[v0_, .bool r2]) ∧ Kd.R (Kd.int .i64) 3 w' w.heap.size (fun _ => True) v0_ r1 ∧ Below w.heap.size w w' := by
  unfold impl_FirstOfShape.f at h
  obtain ⟨t, ht, h⟩ := Option.bind_eq_some_iff.1 h
  have HT := Aside0.mk ht
  have HB := Aside0.mk (Below.refl w.heap.size w)
  clear ht
  cases t with
  | false =>
    rw [if_neg (by decide)] at h
    simp only [Option.some.injEq, Prod.mk.injEq] at h
    obtain ⟨rfl, rfl⟩ := h
    go_enter Tryd.func16, Tryd.ntmps16
    go_wp2_with (first | ((with_reducible refine gate_callee (f := 10) rfl ?_); refine goesL_ (some 10) rfl rfl Tryd.func10 (by kernel_rfl) rfl #[.string s] rfl (by (try simp only [List.map_toArray, List.map_cons, List.map_nil]); first | done | rfl) ?_; (with_reducible refine (impl_IsShape.calls k s false _ HT.out).mono ?_); rintro e w2 ⟨rfl, hb⟩; have HB2 := Aside0.mk hb; clear hb; refine ⟨_, rfl, ?_⟩))
    go_ret2
    exact ⟨_, rfl, Kd.R_nil _ _ _ _ _, HB2.out⟩
  | true =>
    rw [if_pos rfl] at h
    by_cases hcond : s.size ≤ 1048576 ∧ (∀ c ∈ s.data.toList, c.toNat < 128)
    case neg => rw [if_neg hcond] at h; cases h
    rw [if_pos hcond] at h
    obtain ⟨t14, h14, h⟩ := Option.bind_eq_some_iff.1 h
    simp only [Option.some.injEq, Prod.mk.injEq] at h
    obtain ⟨rfl, rfl⟩ := h
    have HR := Aside0.mk h14
    have HA := Aside0.mk hcond.2
    have HC := Aside0.mk hcond.1
    clear h14 hcond
    go_enter Tryd.func16, Tryd.ntmps16
    go_wp2_with (first | ((with_reducible refine gate_callee (f := 10) rfl ?_); refine goesL_ (some 10) rfl rfl Tryd.func10 (by kernel_rfl) rfl #[.string s] rfl (by (try simp only [List.map_toArray, List.map_cons, List.map_nil]); first | done | rfl) ?_; (with_reducible refine (impl_IsShape.calls k s true _ HT.out).mono ?_); rintro e w2 ⟨rfl, hb⟩; have HB2 := Aside0.mk hb; clear hb; refine ⟨_, rfl, ?_⟩) | ((with_reducible refine gate_dst (N := 12) rfl ?_); refine Kd.R_lit (Kd.int .i64) _ 3 ?hg (N := 12) ?hd (xs := ([] : List Int)) (inner := []) (ok := fun _ => True) (okp := fun _ => True) ?hr ?hp (fun _ hk => hk) trivial (Below.refl _ _) (Nat.le_refl _) (by simp) ?_; (case hd => rfl); (case hg => rfl); (case hr => first | (go_simp; done) | (go_simp; rfl)); (case hp => exact (Reps.none _ _)); intro v12 w5 ho hb hg_ hnew_; clear hg_ hnew_; have HO12 := Aside0.mk (Kd.R_lower ho (below_size HB2.out)); have HB5 := Aside0.mk (below_step HB2.out hb); clear ho hb) | ((with_reducible refine gate_dst (N := 13) rfl ?_); refine Kd.R_lit (Kd.int .i64) _ 3 ?hg (N := 13) ?hd (xs := ([] : List Int)) (inner := []) (ok := fun _ => True) (okp := fun _ => True) ?hr ?hp (fun _ hk => hk) trivial (Below.refl _ _) (Nat.le_refl _) (by simp) ?_; (case hd => rfl); (case hg => rfl); (case hr => first | (go_simp; done) | (go_simp; rfl)); (case hp => exact (Reps.none _ _)); intro v13 w6 ho hb hg_ hnew_; clear hg_ hnew_; have HOA := Aside0.mk (Kd.R_elder' HO12.out (Kd.R_base ho) hb); have HOB := Aside0.mk (Kd.R_lower (Kd.R_new' ho (Kd.R_lt HO12.out)) (below_size HB5.out)); have HB6 := Aside0.mk (below_step HB5.out hb); clear ho hb HO12 HB5))
    have HW := Aside0.mk HB6.out.size
    go_loopw [4, 5, 6] (fun v4 v5 v6 w' => ∃ (pos : Nat) (x4 x5 : List Int) (x6 : Int), pos ≤ s.size ∧ v6 = .int .i64 x6 ∧ Aside0 (fstL (s.data.toList.drop pos) x4 x5 x6 = some t14) ∧ Aside0 (x4.length = pos) ∧ Aside0 (x5.length ≤ pos) ∧ Aside0 (Kd.R (Kd.int .i64) 3 w' w.heap.size (fun k_ => k_ ≠ w6.heap.size ∧ some k_ ≠ (v5 : Value).ownBlock) v4 x4) ∧ Aside0 (Kd.Q (Kd.int .i64) 3 w' w.heap.size (fun k_ => k_ ≠ w6.heap.size ∧ some k_ ≠ (v4 : Value).ownBlock) v5 x5) ∧ Aside0 (w'.heap[w6.heap.size]? = some (.stringIter s pos)) ∧ Aside0 (Below w.heap.size w w')) (fun _ _ _ w' => s.size - w'.iterPos w6.heap.size)
    case atStart => exact ⟨0, [], [], 0, by omega, rfl, ⟨by rw [List.drop_zero]; exact HR.out⟩, ⟨rfl⟩, ⟨Nat.le_refl _⟩, ⟨Kd.R_mono (Kd.R_below (Kd.R_bound HOA.out) (below_alloc (Below.refl _ _) _)) (fun k_ hk_ => ⟨Nat.ne_of_lt hk_.2.2.1, hk_.1.2⟩)⟩, ⟨Kd.Q_of_R (Kd.R_mono (Kd.R_below (Kd.R_bound HOB.out) (below_alloc (Below.refl _ _) _)) (fun k_ hk_ => ⟨Nat.ne_of_lt hk_.2.2.1, hk_.1.2⟩))⟩, ⟨World.iter_heap w6 s 0⟩, ⟨below_alloc HB6.out _⟩⟩
    case round =>
      clear HOA HOB HB6 HR HT HB2
      obtain ⟨pos, x4, x5, x6, hp0, rfl, HX, HL, HL5, HO4, HO5, HI, HB⟩ := hrel
      have HP := Aside0.mk (iterPos_of HI.out)
      by_cases hp : pos < s.size
      · obtain ⟨c, hc⟩ : ∃ c : Nat, (s[pos]'hp).toNat = c := ⟨_, rfl⟩
        have ha : (s[pos]'hp).toNat < 128 := HA.out _ (by rw [Array.mem_toList_iff]; exact Array.getElem_mem hp)
        have hdrop : s.data.toList.drop pos = s[pos]'hp :: s.data.toList.drop (pos + 1) := by
          have e := List.drop_eq_getElem_cons (l := s.data.toList) (i := pos) (by simpa using hp)
          rw [e]
          rfl
        have hnx : ∀ ty, (Instr.next (.pointer (some ⟨w6.heap.size, 0, none⟩)) true ty).run Tryd.prog wr = .ok (.tuple #[.bool true, .int .i64 pos, .int .i32 (c : Int)]) (wr.iterAt w6.heap.size s (pos + 1)) := fun ty => by rw [← hc]; exact Lib.run_next_ascii_at wr w6.heap.size s pos ty HI.out hp ha
        have hl128 : c < 128 := by omega
        obtain ⟨cb, hcb⟩ : ∃ cb : UInt8, s[pos]'hp = cb := ⟨_, rfl⟩
        rw [hcb] at hc hdrop
        clear ha
        have hstep := HX.out
        rw [hdrop, fstL] at hstep
        clear hdrop HX
        have HPP := Aside0.mk hp
        by_cases h43 : c = 43
        · rw [if_pos (by omega)] at hstep
          have hbq : ((c : Int) == 43) = true := beq_iff_eq.2 (by omega)
          have HS := Aside0.mk hstep
          have HO41 := Aside0.mk (Kd.R_step (w1 := (wr.iterAt w6.heap.size s (pos + 1))) HO4.out (fun k_ ho_ _ => Lib.iterAt_other _ _ _ _ _ ho_.1))
          have HO51 := Aside0.mk (Kd.Q_step (w1 := (wr.iterAt w6.heap.size s (pos + 1))) HO5.out (fun k_ ho_ _ => Lib.iterAt_other _ _ _ _ _ ho_.1))
          have HI1 := Aside0.mk (Lib.iterAt_heap wr w6.heap.size s pos (pos + 1) HI.out)
          have HB1 := Aside0.mk (Lib.below_iterAt HB.out HW.out s (pos + 1))
          have HZ1 := Aside0.mk ((Array.getElem?_eq_some_iff.1 HI1.out).1)
          clear hstep h43 hc hcb hp HO4 HO5 HI HB
          go_wp2_with (first | ((with_reducible refine gate_builtin (b := .append) (xs := #[.tmp 21, .tmp 23]) rfl ?_); at_builtin; refine Kd.R_append (Kd.int .i64) (w0 := w) w.heap.size rfl (.tmp 21) (.tmp 23) 25 3 (.int .i64 0) 8 rfl Tryd.underlying25 info3 rfl (by decide) (by omega) u4 x4 x6 [.int .i64 x6] (fun k_ => k_ ≠ w6.heap.size ∧ some k_ ≠ (u5 : Value).ownBlock) (fun _ => False) rfl rfl ?aP (fun _ hk => hk.elim) ?aF ?aO ?aB ?aS ?aL ?_; (case aP => exact rfl); (case aF => exact (fun k_ hk => ⟨by have := HZ1.out; omega, Kd.fresh' (Kd.Q_lt HO51.out) k_ hk⟩)); (case aO => exact HO41.out); (case aB => exact HB1.out); (case aS => exact (below_size HB1.out)); (case aL => have := HL.out; have := HC.out; omega); intro v129 w10 ho hb hg hat; have HO52 := Aside0.mk (Kd.Q_after (ok := fun k_ => k_ ≠ w6.heap.size) HO51.out hg hat); have HB3 := Aside0.mk hb; have HO42 := Aside0.mk ho; have HI2 := Aside0.mk ((hg.block w6.heap.size HZ1.out (fun e_ => (HO41.out.1 _ e_.symm).1 rfl)).trans HI1.out); have HZ2 := Aside0.mk ((Array.getElem?_eq_some_iff.1 HI2.out).1); clear ho hb hg hat HO41 HO51 HB1 HI1 HZ1) | ((with_reducible refine gate_builtin (b := .append) (xs := #[.tmp 25, .tmp 27]) rfl ?_); at_builtin; refine Kd.Q_append (Kd.int .i64) (w0 := w) w.heap.size rfl (.tmp 25) (.tmp 27) 25 3 (.int .i64 0) 8 rfl Tryd.underlying25 info3 rfl (by decide) (by omega) u5 x5 x6 [.int .i64 x6] (fun k_ => k_ ≠ w6.heap.size ∧ some k_ ≠ (v129 : Value).ownBlock) (fun _ => False) rfl rfl ?aP (fun _ hk => hk.elim) ?aF ?aO ?aB ?aS ?aL ?_; (case aP => exact rfl); (case aF => exact (fun k_ hk => ⟨by have := HZ2.out; omega, Kd.fresh' (Kd.R_lt HO42.out) k_ hk⟩)); (case aO => exact HO52.out); (case aB => exact HB3.out); (case aS => exact (below_size HB3.out)); (case aL => have := HL5.out; have := HC.out; omega); intro v132 w11 ho hb hg hat; have HO43 := Aside0.mk (Kd.R_after (ok := fun k_ => k_ ≠ w6.heap.size) HO42.out hg hat); have HB4 := Aside0.mk hb; have HO53 := Aside0.mk ho; have HI3 := Aside0.mk ((hg.block w6.heap.size HZ2.out (fun e_ => (HO52.out.1 _ e_.symm).1 rfl)).trans HI2.out); clear ho hb hg hat HO42 HO52 HB3 HI2 HZ2))
          go_roundw
          case rel => exact ⟨pos + 1, x4 ++ [x6], x5 ++ [x6], wrap64 (x6 + 1), by have := HPP.out; omega, by first | rfl | (rw [i64_w]), HS, ⟨by have := HL.out; simp; omega⟩, ⟨by have := HL5.out; simp; omega⟩, HO43, HO53, HI3, HB4⟩
          case measure => (have e1 := iterPos_of HI3.out; have e2 := HP.out; have e3 := HPP.out; rw [e1, e2]; omega)
        · rw [if_neg (by omega)] at hstep
          have hbq : ((c : Int) == 43) = false := beq_eq_false_iff_ne.2 (by omega)
          by_cases h5 : 0 < x5.length
          case neg => rw [if_neg h5] at hstep; cases hstep
          rw [if_pos h5] at hstep
          obtain ⟨Ao15, co15, eo15, _⟩ := Kd.Q_slice HO5.out
          subst eo15
          have HO41 := Aside0.mk (Kd.R_drew (Kd.R_step (w1 := (wr.iterAt w6.heap.size s (pos + 1))) HO4.out (fun k_ ho_ _ => Lib.iterAt_other _ _ _ _ _ ho_.1)))
          have HO50 := Kd.Q_step (w1 := (wr.iterAt w6.heap.size s (pos + 1))) HO5.out (fun k_ ho_ _ => Lib.iterAt_other _ _ _ _ _ ho_.1)
          have HI1 := Aside0.mk (show (wr.iterAt w6.heap.size s (pos + 1)).drew.heap[w6.heap.size]? = some (.stringIter s (pos + 1)) from Lib.iterAt_heap wr w6.heap.size s pos (pos + 1) HI.out)
          have HB1 := Aside0.mk (below_drew (Lib.below_iterAt HB.out HW.out s (pos + 1)))
          have HZ1 := Aside0.mk ((Array.getElem?_eq_some_iff.1 HI1.out).1)
          have p134 : 0 ≤ (0 : Int) := (by omega)
          have q134 : 0 < (x5.length : Int) := (by omega)
          have q17 : (1 : Int) ≤ ((x5.length : Int) : Int) := (by omega)
          obtain ⟨ad134, e134, hx134_0⟩ := Kd.at_int (Kd.Q_reads' HO50).2.2 0 p134 q134
          cases e134
          have qi134 : (0 < x5.length) = True := eq_true (by omega)
          (try rw [show ((0 : Int)).toNat = 0 from rfl] at hx134_0)
          (try rw [Addr.add_zero'] at hx134_0)
          have HO51 := Aside0.mk (Kd.Q_drew HO50)
          clear HO50
          obtain ⟨y138, hy138⟩ : ∃ y_ : List Int, y_ = (x5.drop (1 : Int).toNat) := ⟨_, rfl⟩
          have Ny138 := Aside0.mk hy138
          have HS := Aside0.mk (show fstL (s.data.toList.drop (pos + 1)) (x4 ++ [rd x5 0]) y138 x6 = some t14 from by rw [hy138]; exact hstep)
          obtain ⟨i017, hi017, _, hsz17, _⟩ := info_parts info3
          have hcut17 := cut_from (P := Tryd.prog) 25 3 .i64 Tryd.underlying25 hi017 1 hsz17 (some ad134) x5.length co15 1 (by omega) q17
          obtain ⟨A17, hA17⟩ : ∃ A1, A1 = (if co15 = (1 : Int).toNat then (some ad134) else ((some ad134) : Option Addr).map (·.add ((1 : Int).toNat * 1))) := ⟨_, rfl⟩
          obtain ⟨c17, hc17⟩ : ∃ c1, c1 = co15 - (1 : Int).toNat := ⟨_, rfl⟩
          have hy17 : y138.length = x5.length - (1 : Int).toNat := (by rw [Ny138.out, List.length_drop])
          rw [← hy17, ← hA17, ← hc17] at hcut17
          have HA17 := Aside0.mk hA17
          have HC17 := Aside0.mk hc17
          have HY17 := Aside0.mk hy17
          have HY5 := Aside0.mk (show y138.length ≤ pos + 1 from by have := HL5.out; omega)
          have hp1 := p134
          have hq1 := q134
          replace p134 := eq_true p134
          replace q134 := eq_true q134
          replace q17 := eq_true q17
          clear hstep h43 hc hcb hp HO4 HO5 HI HB hy138 hA17 hc17 hy17 hi017 hsz17
          go_wp2
          refine start_ (n := 10) (S := fun w' => w'.cell? ad134 = some (.int .i64 (rd x5 0))) (ds := [4, 5]) #[false, false, false, false, false, false, false, false, false, false] (by kernel_rfl) rfl rfl hx134_0 (fun hHeld => ?_)
          generalize (wr.iterAt w6.heap.size s (pos + 1)).drew = w14 at HO41 HO51 HI1 HB1 HZ1 hHeld ⊢
          refine pure_ (i := 0) (N := some 31) (v := ?_) (a' := ?_) #[true, false, false, false, false, false, false, false, false, false] rfl rfl (by kernel_rfl) (fun _ _ _ h => h) (Or.inl ⟨by rfl, ?_⟩) ?_ ?_
          rotate_left
          · intro w'
            go_simp
            with_reducible rfl
          rotate_left
          · simp only [Act.put, List.setIfInBounds_toArray, List.set_cons_zero, List.set_cons_succ]
            rfl
          refine pure_ (i := 1) (N := some 32) (v := ?_) (a' := ?_) #[true, true, false, false, false, false, false, false, false, false] rfl rfl (by kernel_rfl) (fun _ _ _ h => h) (Or.inl ⟨by rfl, ?_⟩) ?_ ?_
          rotate_left
          · intro w'
            go_simp
            with_reducible rfl
          rotate_left
          · simp only [Act.put, List.setIfInBounds_toArray, List.set_cons_zero, List.set_cons_succ]
            rfl
          refine pure_ (i := 2) (N := some 33) (v := ?_) (a' := ?_) #[true, true, true, false, false, false, false, false, false, false] rfl rfl (by kernel_rfl) (fun _ _ _ h => h) (Or.inl ⟨by rfl, ?_⟩) ?_ ?_
          rotate_left
          · intro w'
            go_simp
            with_reducible rfl
          rotate_left
          · simp only [Act.put, List.setIfInBounds_toArray, List.set_cons_zero, List.set_cons_succ]
            rfl
          refine take_ (i := 3) (N := some 34) (v := ?_) (a' := ?_) #[true, true, true, true, false, false, false, false, false, false] rfl rfl (by kernel_rfl) (fun _ _ _ h => h) (Or.inl ⟨by rfl, ?_⟩) hHeld ?_ ?_
          rotate_left
          · intro w' s0_
            go_simp
            with_reducible rfl
          rotate_left
          · simp only [Act.put, List.setIfInBounds_toArray, List.set_cons_zero, List.set_cons_succ]
            rfl
          refine pure_ (i := 6) (N := some 37) (v := ?_) (a' := ?_) #[true, true, true, true, false, false, true, false, false, false] rfl rfl (by kernel_rfl) (fun _ _ _ h => h) (Or.inl ⟨by rfl, ?_⟩) ?_ ?_
          rotate_left
          · intro w'
            go_simp
            with_reducible rfl
          rotate_left
          · simp only [Act.put, List.setIfInBounds_toArray, List.set_cons_zero, List.set_cons_succ]
            rfl
          refine pure_ (i := 7) (N := some 38) (v := ?_) (a' := ?_) #[true, true, true, true, false, false, true, true, false, false] rfl rfl (by kernel_rfl) (fun _ _ _ h => h) (Or.inl ⟨by rfl, ?_⟩) ?_ ?_
          rotate_left
          · intro w'
            go_simp
            with_reducible rfl
          rotate_left
          · simp only [Act.put, List.setIfInBounds_toArray, List.set_cons_zero, List.set_cons_succ]
            rfl
          refine last_ (i := 4) (N := some 35) #[true, true, true, true, true, false, true, true, false, false] rfl rfl (by kernel_rfl) (by decide) (fun K hK => ?_)
          refine value_ (v := .slice (some ⟨w14.heap.size, 0, none⟩) 1 1) (w1 := w14.alloc (.cells #[.int .i64 (rd x5 0)] 3)) (by rfl) rfl ?_ ?_
          · go_simp
            try rfl
          refine hK.out _ _ ?_
          clear hK K
          refine norm_ (a' := ?_) ?_ ?_
          rotate_left
          · show Act.put _ (some 35) _ = _
            simp only [Act.put, List.setIfInBounds_toArray, List.set_cons_zero, List.set_cons_succ]
            rfl
          refine last_ (i := 5) (N := some 36) #[true, true, true, true, true, true, true, true, false, false] rfl rfl (by kernel_rfl) (by decide) (fun K hK => ?_)
          refine Kd.R_append_step (Kd.int .i64) (w0 := w) w.heap.size (by rfl) (.tmp 31) (.tmp 35) 25 3 (.int .i64 0) 8 rfl Tryd.underlying25 info3 rfl (by decide) (by omega) u4 x4 (rd x5 0) [.int .i64 (rd x5 0)] (fun k_ => k_ ≠ w6.heap.size ∧ some k_ ≠ (.slice (some ad134) x5.length co15 : Value).ownBlock) (fun _ => False) rfl rfl ?aP (fun _ hk => hk.elim) ?aF ?aO ?aB ?aS ?aL ?_
          case aP => exact rfl
          case aF => exact (fun k_ hk => ⟨by have := HZ1.out; omega, Kd.fresh' (Kd.Q_lt HO51.out) k_ hk⟩)
          case aO => exact HO41.out
          case aB => exact HB1.out
          case aS => exact (below_size HB1.out)
          case aL => have := HL.out; have := HC.out; omega
          intro v136 w16 ho hb hg hat
          have HO52 := Aside0.mk (Kd.Q_after (ok := fun k_ => k_ ≠ w6.heap.size) HO51.out hg hat)
          have HB3 := Aside0.mk hb
          have HI2 := Aside0.mk ((hg.block w6.heap.size HZ1.out (fun e_ => (HO41.out.1 _ e_.symm).1 rfl)).trans HI1.out)
          have hr17 := Kd.Q_drop (k := (1 : Int).toNat) HO52.out (by omega)
          rw [← Ny138.out] at hr17
          replace hr17 : Kd.Q (Kd.int .i64) 3 w16 w.heap.size (fun k_ => k_ ≠ w6.heap.size ∧ some k_ ≠ (v136 : Value).ownBlock) (.slice A17 y138.length c17) y138 := (by rw [HA17.out, HC17.out, HY17.out]; exact hr17)
          have HE17 : (Value.slice A17 y138.length c17).ownBlock = (.slice (some ad134) x5.length co15 : Value).ownBlock := (by rw [HA17.out]; split <;> rfl)
          have HO53 := Aside0.mk hr17
          have HO42 := Aside0.mk (Kd.R_mono (ok' := fun k_ => k_ ≠ w6.heap.size ∧ some k_ ≠ (.slice A17 y138.length c17 : Value).ownBlock) ho (fun k_ hk => (by rw [HE17]; exact hk)))
          clear hr17 HE17 ho hb hg hat HO41 HO51 HB1 HI1 HZ1 HO52
          refine hK.out _ _ ?_
          clear hK K
          refine norm_ (a' := ?_) ?_ ?_
          rotate_left
          · show Act.put _ (some 36) _ = _
            simp only [Act.put, List.setIfInBounds_toArray, List.set_cons_zero, List.set_cons_succ]
            rfl
          refine pure_ (i := 8) (N := some 4) (v := ?_) (a' := ?_) #[true, true, true, true, true, true, true, true, true, false] rfl rfl (by kernel_rfl) (fun _ _ _ h => h) (Or.inl ⟨by rfl, ?_⟩) ?_ ?_
          rotate_left
          · intro w'
            go_simp
            with_reducible rfl
          rotate_left
          · simp only [Act.put, List.setIfInBounds_toArray, List.set_cons_zero, List.set_cons_succ]
            rfl
          refine pure_ (i := 9) (N := some 5) (v := ?_) (a' := ?_) #[true, true, true, true, true, true, true, true, true, true] rfl rfl (by kernel_rfl) (fun _ _ _ h => h) (Or.inl ⟨by rfl, ?_⟩) ?_ ?_
          rotate_left
          · intro w'
            go_simp
            with_reducible rfl
          rotate_left
          · simp only [Act.put, List.setIfInBounds_toArray, List.set_cons_zero, List.set_cons_succ]
            rfl
          refine done_ (by kernel_rfl) ?_
          go_wp2
          go_roundw
          case rel => exact ⟨pos + 1, x4 ++ [rd x5 0], y138, x6, by have := HPP.out; omega, by first | rfl | (rw [i64_w]), HS, ⟨by have := HL.out; simp; omega⟩, HY5, HO42, HO53, HI2, HB3⟩
          case measure => (have e1 := iterPos_of HI2.out; have e2 := HP.out; have e3 := HPP.out; rw [e1, e2]; omega)
      · have hnx : ∀ ty, (Instr.next (.pointer (some ⟨w6.heap.size, 0, none⟩)) true ty).run Tryd.prog wr = .ok (.tuple #[.bool false]) wr := fun ty => Lib.run_next_end_at wr w6.heap.size s pos ty HI.out hp
        have hstep := HX.out
        rw [List.drop_eq_nil_of_le (by simp; omega), fstL] at hstep
        obtain rfl := Option.some.inj hstep
        clear HX
        go_wp2
        go_ret2
        exact ⟨_, rfl, Kd.R_mono HO4.out (fun _ _ => trivial), HB.out⟩
end Go.Proofs.YtfllamjkifbpmaaDoor.XFirst
