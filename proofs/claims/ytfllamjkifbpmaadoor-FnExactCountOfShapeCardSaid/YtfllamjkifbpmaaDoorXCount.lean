/- The contract of impl.CountOfShape: called with a text it returns what the Lean function '.f' of that name says whenever that has an answer; nothing that was there is changed. -/
import Derived.Test.YtfllamjkifbpmaaDoorQShapex
import Derived.Lib.OthersKept
import Derived.WalkSmall
import Derived.LoopTactic
import Derived.Outline
namespace Go.Proofs.YtfllamjkifbpmaaDoor.XCount
open Go.RowKit Go.Proofs.YtfllamjkifbpmaaDoorW.PrintWords Go.Proofs.YtfllamjkifbpmaaDoorW.PrintLast Go.Proofs.YtfllamjkifbpmaaDoorW.PrintMore
open Go.Proofs.YtfllamjkifbpmaaDoor.QBase Go.Proofs.YtfllamjkifbpmaaDoor.XTrim Go.Proofs.YtfllamjkifbpmaaDoor.XHeights Go.Proofs.YtfllamjkifbpmaaDoor.QShape
set_option linter.unusedVariables false
set_option linter.unusedSimpArgs false

/-- The product over the signs from place i on. -/
def cntL (hs : List Int) : Nat → List UInt8 → Int → Int
  | _, [], out => out
  | i, c :: cs, out => cntL hs (i + 1) cs (if c.toNat = 45 then wrap64 (out * rd hs (i : Int)) else out)
def impl_CountOfShape.f (k : Nat) (s : ByteArray) : Option (Int × Bool) := (impl_IsShape.f k s).bind fun t => if t = true then (impl_factorial.f k ((s.size : Int) / 2)).bind fun t14 => (impl_heights.f s).bind fun hs => some (cntL hs 0 s.data.toList t14, true) else some (0, false)
theorem impl_CountOfShape.mono : ∀ a0 k, LeO (impl_CountOfShape.f k a0) (impl_CountOfShape.f (k + 1) a0) := by
  intro a0 k
  unfold impl_CountOfShape.f
  exact LeO.bind (impl_IsShape.mono _ _) (fun t => LeO.ite (LeO.bind (impl_factorial.mono _ _) (fun _ => LeO.refl _)) (LeO.refl _))
theorem heights_is {s : ByteArray} {hs : List Int} (h : impl_heights.f s = some hs) : s.size ≤ 1048576 ∧ (∀ c ∈ s.data.toList, c.toNat < 128) ∧ hs.length = s.size + 1 := by
  unfold impl_heights.f at h
  by_cases hq : s.size ≤ 1048576 ∧ (∀ c ∈ s.data.toList, c.toNat < 128)
  · rw [if_pos hq] at h
    obtain rfl := Option.some.inj h
    refine ⟨hq.1, hq.2, ?_⟩
    have : ∀ (l : List UInt8) (n : Int), (hts n l).length = l.length := by
      intro l
      induction l with
      | nil => intro n; rfl
      | cons c cs ih => intro n; simp [hts, ih]
    rw [List.length_cons, this]
    simp
  · rw [if_neg hq] at h; cases h

set_option maxHeartbeats 8000000 in
set_option maxRecDepth 100000 in
theorem impl_CountOfShape.calls (k : Nat) (s : ByteArray) (r1 : Int) (r2 : Bool) (w : World) (h : impl_CountOfShape.f k s = some (r1, r2)) :
    Calls Tryd.prog 12 #[.string s] w fun e w' => e = .returned (.tuple #[.int .i64 r1, .bool r2]) ∧ Below w.heap.size w w' := by
  unfold impl_CountOfShape.f at h
  obtain ⟨t, ht, h⟩ := Option.bind_eq_some_iff.1 h
  have HT := Aside0.mk ht
  have HB := Aside0.mk (Below.refl w.heap.size w)
  clear ht
  cases t with
  | false =>
    rw [if_neg (by decide)] at h
    simp only [Option.some.injEq, Prod.mk.injEq] at h
    obtain ⟨rfl, rfl⟩ := h
    go_enter Tryd.func12, Tryd.ntmps12
    go_wp2_with (first | ((with_reducible refine gate_callee (f := 10) rfl ?_); refine goesL_ (some 9) rfl rfl Tryd.func10 (by kernel_rfl) rfl #[.string s] rfl (by (try simp only [List.map_toArray, List.map_cons, List.map_nil]); first | done | rfl) ?_; (with_reducible refine (impl_IsShape.calls k s false _ HT.out).mono ?_); rintro e w2 ⟨rfl, hb⟩; have HB2 := Aside0.mk hb; clear hb; refine ⟨_, rfl, ?_⟩))
    go_ret2
    exact ⟨rfl, HB2.out⟩
  | true =>
    rw [if_pos rfl] at h
    obtain ⟨t14, h14, h⟩ := Option.bind_eq_some_iff.1 h
    obtain ⟨hs, hhs, h⟩ := Option.bind_eq_some_iff.1 h
    simp only [Option.some.injEq, Prod.mk.injEq] at h
    obtain ⟨hr1, rfl⟩ := h
    obtain ⟨hsz, hasc, hlen⟩ := heights_is hhs
    have H14 := Aside0.mk h14
    have HHS := Aside0.mk hhs
    have HR := Aside0.mk hr1
    have HA := Aside0.mk hasc
    have HL := Aside0.mk hlen
    clear h14 hhs hr1 hasc hlen
    go_enter Tryd.func12, Tryd.ntmps12
    go_wp2_with (first | ((with_reducible refine gate_callee (f := 10) rfl ?_); refine goesL_ (some 9) rfl rfl Tryd.func10 (by kernel_rfl) rfl #[.string s] rfl (by (try simp only [List.map_toArray, List.map_cons, List.map_nil]); first | done | rfl) ?_; (with_reducible refine (impl_IsShape.calls k s true _ HT.out).mono ?_); rintro e w2 ⟨rfl, hb⟩; have HB2 := Aside0.mk hb; clear hb; refine ⟨_, rfl, ?_⟩) | (go_at_call 31; (with_reducible refine (impl_factorial.calls k ((s.size : Int) / 2) t14 _ H14.out).mono ?_); rintro e w' ⟨rfl, ⟨nd, rfl⟩⟩) | ((with_reducible refine gate_callee (f := 28) rfl ?_); refine goesL_ (some 16) rfl rfl Tryd.func28 (by kernel_rfl) rfl #[.string s] rfl (by (try simp only [List.map_toArray, List.map_cons, List.map_nil]); first | done | rfl) ?_; (with_reducible refine (impl_heights.calls s hs _ HHS.out).mono ?_); rintro e w3 ⟨v3, rfl, ho, hb⟩; have HO3 := Aside0.mk (Kd.R_lower ho (show w.heap.size ≤ _ from HB2.out.size)); have HB3 := Aside0.mk (below_step (by repeat (first | exact HB2.out | apply pw_below_drewN | apply below_drew1)) hb); clear ho hb; obtain ⟨Ao, co, rfl⟩ := Kd.R_slice HO3.out; refine ⟨_, rfl, ?_⟩))
    have HW := Aside0.mk HB3.out.size
    go_loopw [4] (fun v4 w' => ∃ (pos : Nat) (n : Int), pos ≤ s.size ∧ v4 = .int .i64 n ∧ Aside0 (cntL hs pos (s.data.toList.drop pos) n = r1) ∧ Aside0 (Kd.R (Kd.int .i64) 3 w' w.heap.size (fun k_ => k_ ≠ w3.heap.size) (.slice Ao hs.length co) hs) ∧ Aside0 (w'.heap[w3.heap.size]? = some (.stringIter s pos)) ∧ Aside0 (Below w.heap.size w w')) (fun _ w' => s.size - w'.iterPos w3.heap.size)
    case atStart => exact ⟨0, t14, by omega, rfl, ⟨by rw [List.drop_zero]; exact HR.out⟩, ⟨Kd.R_mono (Kd.R_below (Kd.R_bound HO3.out) (below_alloc (Below.refl _ _) _)) (fun k_ hk_ => Nat.ne_of_lt hk_.2.2.1)⟩, ⟨World.iter_heap w3 s 0⟩, ⟨below_alloc HB3.out _⟩⟩
    case round =>
      clear HO3 HB3 HR H14 HHS HT HB2
      obtain ⟨pos, n, hp0, rfl, HX, HO, HI, HB⟩ := hrel
      have HP := Aside0.mk (iterPos_of HI.out)
      by_cases hp : pos < s.size
      · obtain ⟨c, hc⟩ : ∃ c : Nat, (s[pos]'hp).toNat = c := ⟨_, rfl⟩
        have ha : (s[pos]'hp).toNat < 128 := HA.out _ (by rw [Array.mem_toList_iff]; exact Array.getElem_mem hp)
        have hdrop : s.data.toList.drop pos = s[pos]'hp :: s.data.toList.drop (pos + 1) := by
          have e := List.drop_eq_getElem_cons (l := s.data.toList) (i := pos) (by simpa using hp)
          rw [e]
          rfl
        have hnx : ∀ ty, (Instr.next (.pointer (some ⟨w3.heap.size, 0, none⟩)) true ty).run Tryd.prog wr = .ok (.tuple #[.bool true, .int .i64 pos, .int .i32 (c : Int)]) (wr.iterAt w3.heap.size s (pos + 1)) := fun ty => by rw [← hc]; exact Lib.run_next_ascii_at wr w3.heap.size s pos ty HI.out hp ha
        have hl128 : c < 128 := by omega
        obtain ⟨cb, hcb⟩ : ∃ cb : UInt8, s[pos]'hp = cb := ⟨_, rfl⟩
        rw [hcb] at hc hdrop
        clear ha
        have HO1 := Aside0.mk (Kd.R_step (w1 := wr.iterAt w3.heap.size s (pos + 1)) HO.out (fun k_ ho_ _ => Lib.iterAt_other _ _ _ _ _ ho_))
        have HI1 := Aside0.mk (Lib.iterAt_heap wr w3.heap.size s pos (pos + 1) HI.out)
        have HB1 := Aside0.mk (Lib.below_iterAt HB.out HW.out s (pos + 1))
        have hstep := HX.out
        rw [hdrop, cntL] at hstep
        clear hdrop HX HO HB
        by_cases h45 : c = 45
        · rw [if_pos (by omega)] at hstep
          have hbq : ((c : Int) == 45) = true := beq_iff_eq.2 (by omega)
          have hpl : pos < hs.length := by have := HL.out; omega
          have hplz : (pos : Int) < (hs.length : Int) := by omega
          have hpz : (0 : Int) ≤ (pos : Int) := by omega
          obtain ⟨ad, e, hx⟩ := Kd.at_int (Kd.R_reads' HO1.out).2.2 (pos : Int) hpz hplz
          rw [Int.toNat_natCast] at hx
          have HS := Aside0.mk hstep
          have HPP := Aside0.mk hp
          subst e
          clear hstep h45 hc hcb hp
          go_wp2
          go_roundw
          case rel => exact ⟨pos + 1, wrap64 (n * rd hs (pos : Int)), by have := HPP.out; omega, by first | rfl | (rw [i64_w]), HS, HO1, HI1, HB1⟩
          case measure => (have e1 := iterPos_of HI1.out; have e2 := HP.out; have e3 := HPP.out; rw [e1, e2]; omega)
        · rw [if_neg (by omega)] at hstep
          have hbq : ((c : Int) == 45) = false := beq_eq_false_iff_ne.2 (by omega)
          have HS := Aside0.mk hstep
          have HPP := Aside0.mk hp
          clear hstep h45 hc hcb hp
          go_wp2
          go_roundw
          case rel => exact ⟨pos + 1, n, by have := HPP.out; omega, rfl, HS, HO1, HI1, HB1⟩
          case measure => (have e1 := iterPos_of HI1.out; have e2 := HP.out; have e3 := HPP.out; rw [e1, e2]; omega)
      · have hnx : ∀ ty, (Instr.next (.pointer (some ⟨w3.heap.size, 0, none⟩)) true ty).run Tryd.prog wr = .ok (.tuple #[.bool false]) wr := fun ty => Lib.run_next_end_at wr w3.heap.size s pos ty HI.out hp
        have hstep := HX.out
        rw [List.drop_eq_nil_of_le (by simp; omega), cntL] at hstep
        subst hstep
        clear HX
        go_wp2
        go_ret2
        exact ⟨rfl, HB.out⟩
end Go.Proofs.YtfllamjkifbpmaaDoor.XCount
