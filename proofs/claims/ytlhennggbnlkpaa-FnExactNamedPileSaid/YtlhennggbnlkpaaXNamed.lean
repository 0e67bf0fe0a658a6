/- The contract of the program's NamedPile: where IsPile's Lean function answers, the list is shorter than 1048577 and its numbers lie in 0 to 7, it returns the list with the numbers told in the order in which they come first, and true; where IsPile answers false: nothing and false. What was there is not changed. -/
import Derived.Test.YtlhennggbnlkpaaQPilex
import Derived.Maps.OwnOps
import Derived.Maps.OwnSet
import Derived.LoopTactic
namespace Go.Proofs.Ytlhennggbnlkpaa.XNamed
open Go.RowKit Go.Proofs.YtlhennggbnlkpaaW.PrintWords Go.Proofs.YtlhennggbnlkpaaW.PrintLast Go.Proofs.YtlhennggbnlkpaaW.PrintMore
open Go.Proofs.Ytlhennggbnlkpaa.QPile Go.Maps

/-- The numbers, told in the order in which they come first. -/
def nm : List Int → List Int → List Int
  | _, [] => []
  | seen, x :: xs => if x ∈ seen then (seen.idxOf x : Int) :: nm seen xs else (seen.length : Int) :: nm (seen ++ [x]) xs
def Small (l : List Int) : Prop := l.length ≤ 1048576 ∧ ∀ x ∈ l, 0 ≤ x ∧ x < 8
instance (l : List Int) : Decidable (Small l) := by unfold Small; infer_instance
def impl_NamedPile.f (k : Nat) (l0 : List Int) : Option (List Int × Bool) := (impl_IsPile.f k l0).bind fun t => if t = true then (if Small l0 then some (nm [] l0, true) else none) else some (([] : List Int), false)
theorem impl_NamedPile.mono : ∀ a0 k, LeO (impl_NamedPile.f k a0) (impl_NamedPile.f (k + 1) a0) := by
  intro a0 k
  unfold impl_NamedPile.f
  exact LeO.bind (impl_IsPile.mono _ _) (fun _ => LeO.refl _)

/-- What the map holds: of each number that has come the place at which it came first, among those that had not come. -/
def MapIs (D : DataW Unit) (seen : List Int) : Prop := Tidy D ∧ (∀ v : Int, has D (.int .i64 v) = decide (v ∈ seen)) ∧ (∀ v ∈ seen, D.atKey (.int .i64 v) (.lit (.int .i64 0)) = .lit (.int .i64 (seen.idxOf v : Int))) ∧ size D = seen.length
theorem MapIs.empty : MapIs (.map []) [] := ⟨tidy_empty, fun v => by simp [has], fun v hv => by simp at hv, rfl⟩
theorem MapIs.put {D : DataW Unit} {seen : List Int} (h : MapIs D seen) (v : Int) (hv : ¬ v ∈ seen) : MapIs (D.put (.int .i64 v) (.lit (.int .i64 (seen.length : Int)))) (seen ++ [v]) := by
  obtain ⟨h1, h2, h3, h4⟩ := h
  have hk : WideAt.IsKeyLit (.int .i64 v) := by simp [WideAt.IsKeyLit]
  have hne : ∀ u : Int, u ≠ v → (Lit.int .i64 u) ≠ (Lit.int .i64 v) := fun u hu e => hu (by injection e)
  refine ⟨h1.put hk _, fun u => ?_, fun u hu => ?_, ?_⟩
  · by_cases e : u = v
    · subst e
      rw [has_put_same h1.isMap hk]; simp
    · rw [has_put_other (hne u e), h2]; simp [e]
  · by_cases e : u = v
    · subst e
      rw [atKey_put_same h1.isMap hk, List.idxOf_append, if_neg hv]; simp
    · have hu' : u ∈ seen := by
        rcases List.mem_append.1 hu with h | h
        · exact h
        · exact absurd (List.mem_singleton.1 h) e
      rw [atKey_put_other (hne u e), h3 u hu', List.idxOf_append, if_pos hu']
  · rw [size_put h1, h2, decide_eq_false hv, h4]; simp

theorem law : Keyed Try.prog 3 := int_keyed Try.underlying3
theorem zeroE (w : World) : (zeroValue 3).run Try.prog w = .ok (.int .i64 0) w := by kernel_rfl

set_option maxHeartbeats 8000000 in
set_option maxRecDepth 100000 in
theorem impl_NamedPile.calls (k : Nat) (A0 : Option Addr) (c0 : Nat) (l0 : List Int) (r1 : List Int) (r2 : Bool) (w : World) (hr0 : Kd.C (Kd.int .i64) w A0 l0.length l0) (hc0 : l0.length ≤ c0) (h : impl_NamedPile.f k l0 = some (r1, r2)) :
    Calls Try.prog 21 #[.slice A0 l0.length c0] w fun e w' => ∃ v0_ : Value, e = .returned (.tuple #[v0_, .bool r2]) ∧ Kd.R (Kd.int .i64) 3 w' w.heap.size (fun _ => True) v0_ r1 ∧ Below w.heap.size w w' := by
  have HR0 := Aside0.mk hr0
  have HC0 := Aside0.mk hc0
  clear hr0 hc0
  have HB := Aside0.mk (Below.refl w.heap.size w)
  unfold impl_NamedPile.f at h
  obtain ⟨t, A20, H⟩ := Option.bind_eq_some_iff.mp h
  have A2 := Aside0.mk A20
  clear A20 h
  cases t with
  | false =>
    rw [if_neg (by decide)] at H
    simp only [Option.some.injEq, Prod.mk.injEq] at H
    obtain ⟨rfl, rfl⟩ := H
    go_enter Try.func21, Try.ntmps21
    go_wp2_with (first | ((with_reducible refine gate_callee (f := 36) rfl ?_); refine goesL_ (some 11) rfl rfl Try.func36 (by kernel_rfl) rfl #[.slice A0 l0.length c0] rfl (by (try simp only [List.map_toArray, List.map_cons, List.map_nil]); first | done | rfl | (simp only [List.length_drop, List.length_take]; rfl)) ?_; (with_reducible refine (impl_IsPile.calls k _ _ l0 false _ ?side1 ?side2 A2.out).mono ?_); (case side1 => repeat (first | exact HR0.out | (with_reducible refine Kd.C_alloc ?_ _) | (with_reducible refine Kd.C_drewN ?_ _) | (with_reducible refine Kd.C_drew ?_))); (case side2 => exact HC0.out); rintro e w10 ⟨rfl, hb⟩; refine ⟨_, rfl, ?_⟩; have n0_ := Aside0.mk (below_step (by repeat (first | (with_reducible first | exact HB.out | apply below_alloc | apply pw_below_drewN | apply below_drew1) | exact HB.out)) hb); clear HB; have HB := n0_; clear n0_; (try clear hb)))
    go_ret2
    exact ⟨_, rfl, Kd.R_nil _ _ _ _ _, HB.out⟩
  | true =>
    rw [if_pos rfl] at H
    by_cases hs : Small l0
    · rw [if_pos hs] at H
      simp only [Option.some.injEq, Prod.mk.injEq] at H
      have HN := Aside0.mk H.1
      obtain rfl := H.2
      clear H
      have HS := Aside0.mk hs
      clear hs
      have hmm := @run_makeMap Try.prog
      go_enter Try.func21, Try.ntmps21
      go_wp2_with (first | ((with_reducible refine gate_callee (f := 36) rfl ?_); refine goesL_ (some 11) rfl rfl Try.func36 (by kernel_rfl) rfl #[.slice A0 l0.length c0] rfl (by (try simp only [List.map_toArray, List.map_cons, List.map_nil]); first | done | rfl | (simp only [List.length_drop, List.length_take]; rfl)) ?_; (with_reducible refine (impl_IsPile.calls k _ _ l0 true _ ?side1 ?side2 A2.out).mono ?_); (case side1 => repeat (first | exact HR0.out | (with_reducible refine Kd.C_alloc ?_ _) | (with_reducible refine Kd.C_drewN ?_ _) | (with_reducible refine Kd.C_drew ?_))); (case side2 => exact HC0.out); rintro e w6 ⟨rfl, hb⟩; refine ⟨_, rfl, ?_⟩; have n0_ := Aside0.mk (below_step (by repeat (first | (with_reducible first | exact HB.out | apply below_alloc | apply pw_below_drewN | apply below_drew1) | exact HB.out)) hb); clear HB; have HB := n0_; clear n0_; (try clear hb)) | ((with_reducible refine gate_dst (N := 13) rfl ?_); refine Kd.R_lit (Kd.int .i64) _ 3 ?hg (N := 13) ?hd (xs := ([] : List Int)) (inner := []) (ok := fun _ => True) (okp := fun _ => True) ?hr ?hp (fun _ hk => hk) trivial (Below.refl _ _) (Nat.le_refl _) (by simp) ?_; (case hd => rfl); (case hg => rfl); (case hr => first | (go_simp; done) | (go_simp; rfl)); (case hp => exact (Reps.none _ _)); intro v135 wm ho3 hb hg_ hnew_; clear hg_ hnew_; have n0_ := Aside0.mk (Kd.R_lower ho3 (below_size (by repeat (first | (with_reducible first | exact HB.out | apply below_alloc | apply pw_below_drewN | apply below_drew1) | exact HB.out)))); have n1_ := Aside0.mk (below_step (by repeat (first | (with_reducible first | exact HB.out | apply below_alloc | apply pw_below_drewN | apply below_drew1) | exact HB.out)) hb); clear HB; have HO136 := n0_; have HB := n1_; clear n0_ n1_; clear hb ho3))
      have HW := Aside0.mk HB.out.size
      have hlen : (0 : Int) ≤ (l0.length : Int) := by omega
      go_loopw [4, 17] (fun v4 v17 w' => ∃ (i : Nat) (ys seen : List Int) (D : DataW Unit), v17 = .int .i64 (i : Int) ∧ i ≤ l0.length ∧ Aside0 (ys ++ nm seen (l0.drop i) = nm [] l0) ∧ Aside0 (ys.length = i ∧ seen.length ≤ i) ∧ Aside0 (MapIs D seen) ∧ Aside0 (Kd.R (Kd.int .i64) 3 w' w.heap.size (fun k_ => k_ ≠ wm.heap.size) v4 ys) ∧ Aside0 (w'.ownsMap Try.prog 3 (plainElem Try.prog 3) wm.heap.size i D) ∧ Aside0 (Below w.heap.size w w')) (fun _ v17 _ => l0.length - (intOf v17).toNat)
      case atStart => exact ⟨0, [], [], .map [], rfl, by omega, ⟨rfl⟩, ⟨rfl, Nat.le_refl _⟩, ⟨MapIs.empty⟩, ⟨Kd.R_mono (Kd.R_below (Kd.R_bound HO136.out) (below_alloc (Below.refl _ _) _)) (fun k_ hk_ => Nat.ne_of_lt hk_.2.2.1)⟩, ⟨World.ownsMap_made wm Try.prog 3 (plainElem Try.prog 3)⟩, ⟨below_alloc HB.out _⟩⟩
      case round =>
        clear HB HO136 hmm
        obtain ⟨i, ys, seen, D, rfl, hil, HX, HL, HD, HO, HM, HB⟩ := hrel
        obtain ⟨Ao, co, eo⟩ := Kd.R_slice HO.out
        subst eo
        have h48 : (l0.length : Int) ≤ 1048576 := by have := HS.out.1; omega
        by_cases hp : i < l0.length
        · have p0 : (0 : Int) ≤ (i : Int) := by omega
          have q0 : (i : Int) < (l0.length : Int) := by omega
          obtain ⟨ad, ead, hx0⟩ := Kd.at_int HR0.out (i : Int) p0 q0
          subst ead
          have hx := (HB.out.cell (World.block_lt_of_cell? w _ hx0)).trans hx0
          rw [Int.toNat_natCast] at hx
          clear hx0
          obtain ⟨x, hxd⟩ : ∃ x : Int, rd l0 (i : Int) = x := ⟨_, rfl⟩
          have hxm : x ∈ l0 := by
            rw [← hxd]
            unfold rd
            rw [Int.toNat_natCast, List.getD_eq_getElem?_getD, List.getElem?_eq_getElem hp]
            exact List.getElem_mem hp
          have hxr := HS.out.2 x hxm
          have hwf : (Lit.int .i64 x).wf = true := WalkArith.wf_i64 (by omega)
          have hkey : keyOf Try.prog 3 (.int .i64 x) = some (.int .i64 x) := keyOf_int_mk Try.underlying3 hwf
          have hdrop : l0.drop i = x :: l0.drop (i + 1) := by
            have e := List.drop_eq_getElem_cons hp
            rw [e, ← hxd]
            unfold rd
            rw [Int.toNat_natCast, List.getD_eq_getElem?_getD, List.getElem?_eq_getElem hp]
            rfl
          rw [hxd] at hx
          have HK := Aside0.mk hkey
          have hw1 : IntKind.i64.wrap ((i : Int) + 1) = ((i + 1 : Nat) : Int) := by rw [show ((i : Int) + 1) = ((i + 1 : Nat) : Int) from by omega]; exact (i64_w _).trans (by unfold wrap64; omega)
          clear hxm hxr hwf hxd hkey
          by_cases hm : x ∈ seen
          · have hh : has D (.int .i64 x) = true := by rw [HD.out.2.1, decide_eq_true hm]
            have HV := Aside0.mk (HD.out.2.2.1 x hm)
            have hstep : ys ++ [(seen.idxOf x : Int)] ++ nm seen (l0.drop (i + 1)) = nm [] l0 := by
              rw [← HX.out, hdrop, nm, if_pos hm, List.append_assoc, List.singleton_append]
            have HT := Aside0.mk hstep
            obtain ⟨nx, hnx⟩ : ∃ nx : Int, (seen.idxOf x : Int) = nx := ⟨_, rfl⟩
            rw [hnx] at HT HV
            clear hstep hdrop HX hm hnx
            go_wp2_with (first | (at_lookup; refine wpList_lookup_own_ok_int _ rfl _ _ 39 rfl 3 3 .i64 law Try.underlying39 Try.underlying3 (zeroE _) wm.heap.size i D rfl HM.out _ _ rfl HK.out ?_; intro c hat hwc; clear hat hwc) | (at_lookup; refine wpList_lookup_own_int _ rfl _ _ 39 rfl 3 3 .i64 law Try.underlying39 Try.underlying3 (zeroE _) wm.heap.size i D rfl HM.out _ _ rfl HK.out ?_; intro c2 hat hwc; obtain rfl : c2 = nx := (by rw [HV.out] at hat; injection hat with hat; injection hat with _ hat; exact hat.symm); clear hat hwc) | ((with_reducible refine gate_builtin (b := .append) (xs := #[.tmp 33, .tmp 37]) rfl ?_); at_builtin; refine Kd.R_append (Kd.int .i64) (w0 := w) w.heap.size rfl (.tmp 33) (.tmp 37) 22 3 (.int .i64 0) 8 rfl Try.underlying22 info3 rfl (by decide) (by omega) (.slice Ao ys.length co) ys (c2) [.int .i64 (c2)] (fun k_ => k_ ≠ wm.heap.size) (fun _ => False) rfl rfl ?aP (fun _ hk => hk.elim) ?aF ?aO ?aB ?aS ?aL ?_; (case aP => exact rfl); (case aB => exact HB.out); (case aF => exact (fun k_ hk_ => by have z := HM.out.lt; omega)); (case aO => exact HO.out); (case aS => exact below_size HB.out); (case aL => have := HL.out; have := HS.out.1; omega); intro v139 w11 ho hb hg hat_; have n0_ := Aside0.mk hb; have n1_ := Aside0.mk ho; have n2_ := Aside0.mk (World.ownsMap.kept HM.out hg (fun e_ => HO.out.1 _ e_.symm rfl)); clear HB HO HM; have HB := n0_; have HO := n1_; have HM := n2_; clear n0_ n1_ n2_; clear ho hb hg hat_))
            go_roundw
            case rel => exact ⟨i + 1, ys ++ [c2], seen, D, by first | rfl | (rw [← hw1]) | (simp; done), by omega, HT, ⟨by have := HL.out; simp; omega⟩, HD, HO, ⟨HM.out.mono (by omega)⟩, HB⟩
            case measure => simp [intOf]; omega
          · have hh : has D (.int .i64 x) = false := by rw [HD.out.2.1, decide_eq_false hm]
            have hz : size D = seen.length := HD.out.2.2.2
            have HD2 := Aside0.mk (HD.out.put x hm)
            have HV := Aside0.mk (HD2.out.2.2.1 x (by simp))
            have hix : ((seen ++ [x]).idxOf x : Int) = (seen.length : Int) := by rw [List.idxOf_append, if_neg hm]; simp
            rw [hix] at HV
            have hstep : ys ++ [(seen.length : Int)] ++ nm (seen ++ [x]) (l0.drop (i + 1)) = nm [] l0 := by
              rw [← HX.out, hdrop, nm, if_neg hm, List.append_assoc, List.singleton_append]
            have HT := Aside0.mk hstep
            have hwl : (Lit.int .i64 (seen.length : Int)).wf = true := WalkArith.wf_i64 (by have := HL.out; omega)
            have HWL := Aside0.mk hwl
            clear hstep hdrop HX hm hix hwl
            go_wp2_with (first | (at_lookup; refine wpList_lookup_own_ok_int _ rfl _ _ 39 rfl 3 3 .i64 law Try.underlying39 Try.underlying3 (zeroE _) wm.heap.size i D rfl HM.out _ _ rfl HK.out ?_; intro c hat hwc; clear hat hwc) | (at_len; refine wpList_len_own _ rfl _ 39 rfl 3 3 Try.underlying39 (plainElem Try.prog 3) wm.heap.size i D rfl HM.out ?_; rw [hz]) | (at_mapUpdate; refine wpList_mapUpdate_own _ rfl _ _ _ 39 rfl 3 3 law Try.underlying39 _ wm.heap.size i D rfl HM.out (by unfold maxLen; omega) _ _ _ rfl rfl HK.out _ [] (plainElem_int Try.underlying3 HWL.out) ?_; intro w1 hown1 hgrow1; have n0_ := Aside0.mk (HB.out.grown hgrow1 (below_size HB.out) (fun k_ e_ => by cases e_; exact HW.out)); have n1_ := Aside0.mk (Kd.R_grown HO.out hgrow1 (fun k_ ho_ e_ => ho_ (by injection e_))); have n2_ := Aside0.mk hown1; clear HB HO HM hown1 hgrow1; have HB := n0_; have HO := n1_; have HM := n2_; clear n0_ n1_ n2_) | (at_lookup; refine wpList_lookup_own_int _ rfl _ _ 39 rfl 3 3 .i64 law Try.underlying39 Try.underlying3 (zeroE _) wm.heap.size (i + 1) _ rfl HM.out _ _ rfl HK.out ?_; intro c2 hat hwc; obtain rfl : c2 = (seen.length : Int) := (by rw [HV.out] at hat; injection hat with hat; injection hat with _ hat; exact hat.symm); clear hat hwc) | ((with_reducible refine gate_builtin (b := .append) (xs := #[.tmp 33, .tmp 37]) rfl ?_); at_builtin; refine Kd.R_append (Kd.int .i64) (w0 := w) w.heap.size rfl (.tmp 33) (.tmp 37) 22 3 (.int .i64 0) 8 rfl Try.underlying22 info3 rfl (by decide) (by omega) (.slice Ao ys.length co) ys ((seen.length : Int)) [.int .i64 ((seen.length : Int))] (fun k_ => k_ ≠ wm.heap.size) (fun _ => False) rfl rfl ?aP (fun _ hk => hk.elim) ?aF ?aO ?aB ?aS ?aL ?_; (case aP => exact rfl); (case aB => exact HB.out); (case aF => exact (fun k_ hk_ => by have z := HM.out.lt; omega)); (case aO => exact HO.out); (case aS => exact below_size HB.out); (case aL => have := HL.out; have := HS.out.1; omega); intro v139 w11 ho hb hg hat_; have n0_ := Aside0.mk hb; have n1_ := Aside0.mk ho; have n2_ := Aside0.mk (World.ownsMap.kept HM.out hg (fun e_ => HO.out.1 _ e_.symm rfl)); clear HB HO HM; have HB := n0_; have HO := n1_; have HM := n2_; clear n0_ n1_ n2_; clear ho hb hg hat_))
            go_roundw
            case rel => exact ⟨i + 1, ys ++ [(seen.length : Int)], seen ++ [x], _, by first | rfl | (rw [← hw1]) | (simp; done), by omega, HT, ⟨by have := HL.out; simp; omega⟩, HD2, HO, HM, HB⟩
            case measure => simp [intOf]; omega
        · have hfin : ys = r1 := by
            have e := HX.out
            rw [List.drop_eq_nil_of_le (by omega), nm, List.append_nil] at e
            rw [e, HN.out]
          have HF := Aside0.mk hfin
          clear hfin
          go_wp2
          go_ret2
          exact ⟨_, rfl, by rw [← HF.out]; exact Kd.R_mono HO.out (fun _ _ => trivial), HB.out⟩
    · rw [if_neg hs] at H
      cases H

end Go.Proofs.Ytlhennggbnlkpaa.XNamed
