/- The contract of the program's heights: called with a text of ASCII bytes, at most 1048576, it returns a row of the call's own: 0 and then, behind each byte, one more at '+' and one less at any other; nothing that was there is changed. -/
import Derived.Test.YtfllamjkifbpmaaDoorQBasex0
import Derived.Lib.OthersKept
import Derived.WalkSmall
import Derived.LoopTactic
namespace Go.Proofs.YtfllamjkifbpmaaDoor.XHeights
open Go.RowKit Go.Proofs.YtfllamjkifbpmaaDoorW.PrintWords Go.Proofs.YtfllamjkifbpmaaDoorW.PrintLast Go.Proofs.YtfllamjkifbpmaaDoorW.PrintMore
open Go.Proofs.YtfllamjkifbpmaaDoor.QBase (info3 errW_none errW_some)

/-- The heights behind each byte, from a height on. -/
def hts : Int → List UInt8 → List Int
  | _, [] => []
  | n, c :: cs => (if c.toNat = 43 then n + 1 else n - 1) :: hts (if c.toNat = 43 then n + 1 else n - 1) cs
def impl_heights.f (s : ByteArray) : Option (List Int) := if s.size ≤ 1048576 ∧ (∀ c ∈ s.data.toList, c.toNat < 128) then some (0 :: hts 0 s.data.toList) else none
set_option maxHeartbeats 8000000 in
set_option maxRecDepth 100000 in
theorem impl_heights.calls (s : ByteArray) (r : List Int) (w : World) (h : impl_heights.f s = some r) :
    Calls Tryd.prog 28 #[.string s] w fun e w' => ∃ v0_ : Value, e = .returned (v0_) ∧ Kd.R (Kd.int .i64) 3 w' w.heap.size (fun _ => True) v0_ r ∧ Below w.heap.size w w' := by
  have HB := Aside0.mk (Below.refl w.heap.size w)
  unfold impl_heights.f at h
  by_cases hs : s.size ≤ 1048576 ∧ (∀ c ∈ s.data.toList, c.toNat < 128)
  · rw [if_pos hs] at h
    have HC := Aside0.mk hs.1
    have HA := Aside0.mk hs.2
    have HR := Aside0.mk (Option.some.inj h)
    clear h hs
    go_enter Tryd.func28, Tryd.ntmps28
    go_wp2_with (first | ((with_reducible refine gate_dst (N := 7) rfl ?_); refine Kd.R_lit (Kd.int .i64) _ 3 ?hg (N := 7) ?hd (xs := ([0] : List Int)) (inner := [.int .i64 0]) (ok := fun _ => True) (okp := fun _ => True) ?hr ?hp (fun _ hk => hk) trivial (Below.refl _ _) (Nat.le_refl _) (by simp) ?_; (case hd => rfl); (case hg => rfl); (case hr => first | (go_simp; done) | (go_simp; rfl)); (case hp => exact (Reps.one (show Kd.M (Kd.int .i64) _ _ _ 0 [.int .i64 0] from rfl) (Reps.none _ _))); intro v135 w2 ho3 hb hg_ hnew_; clear hg_ hnew_; have n0_ := Aside0.mk (Kd.R_lower ho3 (below_size (by repeat (first | (with_reducible first | exact HB.out | apply below_alloc | apply pw_below_drewN | apply below_drew1) | exact HB.out)))); have n1_ := Aside0.mk (below_step (by repeat (first | (with_reducible first | exact HB.out | apply below_alloc | apply pw_below_drewN | apply below_drew1) | exact HB.out)) hb); clear HB; have HO136 := n0_; have HB := n1_; clear n0_ n1_; clear hb ho3))
    have HW := Aside0.mk HB.out.size
    go_loopw [3, 4] (fun v3 v4 w' => ∃ (pos : Nat) (n : Int) (xs : List Int), pos ≤ s.size ∧ v4 = .int .i64 n ∧ -(pos : Int) ≤ n ∧ n ≤ (pos : Int) ∧ Aside0 (xs ++ hts n (s.data.toList.drop pos) = 0 :: hts 0 s.data.toList) ∧ Aside0 (xs.length = pos + 1) ∧ Aside0 (Kd.R (Kd.int .i64) 3 w' w.heap.size (fun k_ => k_ ≠ w2.heap.size) v3 xs) ∧ Aside0 (w'.heap[w2.heap.size]? = some (.stringIter s pos)) ∧ Aside0 (Below w.heap.size w w')) (fun _ _ w' => s.size - w'.iterPos w2.heap.size)
    case atStart => exact ⟨0, 0, [0], by omega, rfl, by omega, by omega, ⟨by simp⟩, ⟨rfl⟩, ⟨Kd.R_mono (Kd.R_below (Kd.R_bound HO136.out) (below_alloc (Below.refl _ _) _)) (fun k_ hk_ => Nat.ne_of_lt hk_.2.2.1)⟩, ⟨World.iter_heap w2 s 0⟩, ⟨below_alloc HB.out _⟩⟩
    case round =>
      clear HB HO136
      obtain ⟨pos, n, xs, hp0, rfl, hn1, hn2_, HX, HL, HO, HI, HB⟩ := hrel
      have HP := Aside0.mk (iterPos_of HI.out)
      obtain ⟨Ao, co, eo⟩ := Kd.R_slice HO.out
      subst eo
      have HZ := Aside0.mk ((Array.getElem?_eq_some_iff.1 HI.out).1)
      by_cases hp : pos < s.size
      · obtain ⟨c, hc⟩ : ∃ c : Nat, (s[pos]'hp).toNat = c := ⟨_, rfl⟩
        have ha : (s[pos]'hp).toNat < 128 := HA.out _ (by rw [Array.mem_toList_iff]; exact Array.getElem_mem hp)
        have hdrop : s.data.toList.drop pos = s[pos]'hp :: s.data.toList.drop (pos + 1) := by
          have e := List.drop_eq_getElem_cons (l := s.data.toList) (i := pos) (by simpa using hp)
          rw [e]
          rfl
        have hnx : ∀ ty, (Instr.next (.pointer (some ⟨w2.heap.size, 0, none⟩)) true ty).run Tryd.prog wr = .ok (.tuple #[.bool true, .int .i64 pos, .int .i32 (c : Int)]) (wr.iterAt w2.heap.size s (pos + 1)) := fun ty => by rw [← hc]; exact Lib.run_next_ascii_at wr w2.heap.size s pos ty HI.out hp ha
        have hl128 : c < 128 := by omega
        obtain ⟨cb, hcb⟩ : ∃ cb : UInt8, s[pos]'hp = cb := ⟨_, rfl⟩
        rw [hcb] at hc hdrop
        clear ha
        by_cases h43 : c = 43
        · have hcc : cb.toNat = 43 := hc.trans h43
          clear hc hcb
          have hbq : ((c : Int) == 43) = true := beq_iff_eq.2 (by omega)
          clear h43
          obtain ⟨n2, hn2⟩ : ∃ n2 : Int, n + 1 = n2 := ⟨_, rfl⟩
          have hb2 : -(pos : Int) - 1 ≤ n2 ∧ n2 ≤ (pos : Int) + 1 := by omega
          have hw : IntKind.i64.wrap (n + 1) = n2 := by rw [hn2]; exact (i64_w n2).trans (by have := HC.out; unfold wrap64; omega)
          have hstep : xs ++ [n2] ++ hts n2 (s.data.toList.drop (pos + 1)) = 0 :: hts 0 s.data.toList := by
            rw [← HX.out, hdrop, hts, List.append_assoc, List.singleton_append, if_pos hcc, hn2]
          have HS := Aside0.mk hstep
          have HB2 := Aside0.mk hb2
          clear hn2 hb2 hstep hdrop hcc HX
          go_wp2_with (first | ((with_reducible refine gate_builtin (b := .append) (xs := #[.tmp 19, .tmp 21]) rfl ?_); at_builtin; refine Kd.R_append (Kd.int .i64) (w0 := w) w.heap.size rfl (.tmp 19) (.tmp 21) 25 3 (.int .i64 0) 8 rfl Tryd.underlying25 info3 rfl (by decide) (by omega) (.slice Ao xs.length co) xs n2 [.int .i64 n2] (fun k_ => k_ ≠ w2.heap.size) (fun _ => False) rfl rfl ?aP (fun _ hk => hk.elim) ?aF ?aO ?aB ?aS ?aL ?_; (case aP => exact rfl); (case aB => exact (Lib.below_iterAt HB.out HW.out s (pos + 1))); (case aF => exact (fun k_ hk_ => by have z := HZ.out; simp [Lib.iterAt_size] at hk_; omega)); (case aO => exact (Kd.R_step HO.out (fun k_ ho_ _ => Lib.iterAt_other _ _ _ _ _ ho_))); (case aS => exact (below_size (Lib.below_iterAt HB.out HW.out s (pos + 1)))); (case aL => have := HL.out; have := HC.out; omega); intro v139 w11 ho hb hg hat; have n0_ := Aside0.mk hb; have n1_ := Aside0.mk ho; have n2_ := Aside0.mk ((hg.block w2.heap.size (by have z := HZ.out; simp [Lib.iterAt_size]; omega) (fun e_ => HO.out.1 _ e_.symm rfl)).trans (Lib.iterAt_heap wr w2.heap.size s pos (pos + 1) HI.out)); clear HB HO HI; have HB := n0_; have HO := n1_; have HI := n2_; clear n0_ n1_ n2_; clear ho hb hg hat))
          go_roundw
          case rel => exact ⟨pos + 1, n2, xs ++ [n2], by omega, rfl, by have := HB2.out; omega, by have := HB2.out; omega, HS, ⟨by have := HL.out; simp; omega⟩, HO, HI, HB⟩
          case measure => (have e1 := iterPos_of HI.out; have e2 := HP.out; rw [e1, e2]; omega)
        · have hcc : ¬ cb.toNat = 43 := fun e_ => h43 (hc.symm.trans e_)
          clear hc hcb
          have hbq : ((c : Int) == 43) = false := beq_eq_false_iff_ne.2 (by omega)
          clear h43
          obtain ⟨n2, hn2⟩ : ∃ n2 : Int, n - 1 = n2 := ⟨_, rfl⟩
          have hb2 : -(pos : Int) - 1 ≤ n2 ∧ n2 ≤ (pos : Int) + 1 := by omega
          have hw : IntKind.i64.wrap (n - 1) = n2 := by rw [hn2]; exact (i64_w n2).trans (by have := HC.out; unfold wrap64; omega)
          have hstep : xs ++ [n2] ++ hts n2 (s.data.toList.drop (pos + 1)) = 0 :: hts 0 s.data.toList := by
            rw [← HX.out, hdrop, hts, List.append_assoc, List.singleton_append, if_neg hcc, hn2]
          have HS := Aside0.mk hstep
          have HB2 := Aside0.mk hb2
          clear hn2 hb2 hstep hdrop hcc HX
          go_wp2_with (first | ((with_reducible refine gate_builtin (b := .append) (xs := #[.tmp 19, .tmp 21]) rfl ?_); at_builtin; refine Kd.R_append (Kd.int .i64) (w0 := w) w.heap.size rfl (.tmp 19) (.tmp 21) 25 3 (.int .i64 0) 8 rfl Tryd.underlying25 info3 rfl (by decide) (by omega) (.slice Ao xs.length co) xs n2 [.int .i64 n2] (fun k_ => k_ ≠ w2.heap.size) (fun _ => False) rfl rfl ?aP (fun _ hk => hk.elim) ?aF ?aO ?aB ?aS ?aL ?_; (case aP => exact rfl); (case aB => exact (Lib.below_iterAt HB.out HW.out s (pos + 1))); (case aF => exact (fun k_ hk_ => by have z := HZ.out; simp [Lib.iterAt_size] at hk_; omega)); (case aO => exact (Kd.R_step HO.out (fun k_ ho_ _ => Lib.iterAt_other _ _ _ _ _ ho_))); (case aS => exact (below_size (Lib.below_iterAt HB.out HW.out s (pos + 1)))); (case aL => have := HL.out; have := HC.out; omega); intro v139 w11 ho hb hg hat; have n0_ := Aside0.mk hb; have n1_ := Aside0.mk ho; have n2_ := Aside0.mk ((hg.block w2.heap.size (by have z := HZ.out; simp [Lib.iterAt_size]; omega) (fun e_ => HO.out.1 _ e_.symm rfl)).trans (Lib.iterAt_heap wr w2.heap.size s pos (pos + 1) HI.out)); clear HB HO HI; have HB := n0_; have HO := n1_; have HI := n2_; clear n0_ n1_ n2_; clear ho hb hg hat))
          go_roundw
          case rel => exact ⟨pos + 1, n2, xs ++ [n2], by omega, rfl, by have := HB2.out; omega, by have := HB2.out; omega, HS, ⟨by have := HL.out; simp; omega⟩, HO, HI, HB⟩
          case measure => (have e1 := iterPos_of HI.out; have e2 := HP.out; rw [e1, e2]; omega)
      · have hnx : ∀ ty, (Instr.next (.pointer (some ⟨w2.heap.size, 0, none⟩)) true ty).run Tryd.prog wr = .ok (.tuple #[.bool false]) wr := fun ty => Lib.run_next_end_at wr w2.heap.size s pos ty HI.out hp
        have hfin : xs = r := by
          have e := HX.out
          rw [List.drop_eq_nil_of_le (by simp; omega), hts, List.append_nil] at e
          rw [e, HR.out]
        have HF := Aside0.mk hfin
        clear hfin
        go_wp2
        go_ret
        exact ⟨_, rfl, by rw [← HF.out]; exact Kd.R_mono HO.out (fun _ _ => trivial), HB.out⟩
  · rw [if_neg hs] at h
    cases h

end Go.Proofs.YtfllamjkifbpmaaDoor.XHeights
