/- Plain laws of the program's FirstFeet: the stable sort with its closure orders the feet as the reference does, and each foot gets the same shoe. No program and no memory stands in it. -/
import Derived.Test.YtagfnpocloaojaaPureFeet
import Derived.Test.YtagfnpocloaojaaQShoex
namespace Go.Proofs.Ytagfnpocloaojaa.PureShoe
open Go.RowKit Go.Proofs.Ytagfnpocloaojaa.QBase Go.Proofs.Ytagfnpocloaojaa.QSizes Go.Proofs.Ytagfnpocloaojaa.QShoe Go.Proofs.Ytagfnpocloaojaa.XShoeCmp Go.Proofs.Ytagfnpocloaojaa.QCmp Go.Proofs.Ytagfnpocloaojaa.PureBaseF Go.Proofs.Ytagfnpocloaojaa.PureFeet Go.Proofs.YtagfnpocloaojaaW.PrintWords Go.Proofs.YtagfnpocloaojaaW.PrintLast Go.Proofs.YtagfnpocloaojaaW.PrintMore
set_option linter.unusedVariables false

/-! ### the stable sort of at most nineteen places -/
theorem cmp_eq (a b : Int) : cmp_Compare_int.f a b = some (if a < b then -1 else if a > b then 1 else 0) := by
  unfold cmp_Compare_int.f cmp_isNaN_int.f
  simp only [bne_self_eq_false, Option.bind_some, Bool.false_eq_true, if_false]
  split
  · rfl
  · split <;> rfl
theorem swap_at (a : List Int) (y i : Int) (s : List Int) : ((a ++ y :: i :: s).set (a.length + 1) y).set a.length i = a ++ i :: y :: s := by
  induction a with
  | nil => rfl
  | cons x a ih => simp only [List.cons_append, List.length_cons, List.set_cons_succ]; rw [ih]
theorem ev_inner (F : List Int) (i : Nat) (n : Nat) (hn : n ≤ 100) (t : List Int) (r : List Int) (hi : (i : Int) < (F.length : Int)) : ∀ (p s : List Int), (p.length + s.length + t.length + 1 = n) → (∀ y ∈ p, 0 ≤ y ∧ y < (F.length : Int)) → (c : Nat) → c < 100 → Ev (fun k => @slices_insertionSortCmpFunc_int.l0 ⟨F⟩ k (insR F (i : Int) p s ++ t) 0 (n : Int) ((c + 1 : Nat) : Int)) r → Ev (fun k => @slices_insertionSortCmpFunc_int.l1 ⟨F⟩ k (p.reverse ++ (i : Int) :: (s ++ t)) 0 (n : Int) (c : Int) (p.length : Int)) r
  | [], s, hl, _, c, hc, h => by
    refine Ev.step (f := fun k => @slices_insertionSortCmpFunc_int.l0 ⟨F⟩ k ((i : Int) :: (s ++ t)) 0 (n : Int) ((c + 1 : Nat) : Int)) (fun k => ?_) h
    show @slices_insertionSortCmpFunc_int.l1 ⟨F⟩ (k + 1) ((i : Int) :: (s ++ t)) 0 (n : Int) (c : Int) 0 = _
    simp only [slices_insertionSortCmpFunc_int.l1]
    rw [if_neg (by omega), wrap_succ c (by omega)]
  | y :: q, s, hl, hm, c, hc, h => by
    have hy := hm y (List.mem_cons.2 (.inl rfl))
    simp only [List.length_cons] at hl
    have e1 : (y :: q).reverse ++ (i : Int) :: (s ++ t) = q.reverse ++ y :: (i : Int) :: (s ++ t) := by simp
    have e2 : (y :: q).reverse ++ (i : Int) :: (s ++ t) = (q.reverse ++ [y]) ++ (i : Int) :: (s ++ t) := by simp
    have hw : wrap64 (((y :: q).length : Int) - 1) = ((q.reverse).length : Int) := by rw [List.length_reverse, List.length_cons]; unfold wrap64; omega
    have hp : ((y :: q).length : Int) = ((q.reverse ++ [y]).length : Int) := by simp
    have ri : rd (q.reverse ++ y :: (i : Int) :: (s ++ t)) ((y :: q).length : Int) = (i : Int) := by rw [← e1, e2, hp]; exact rd_at _ _ _
    have ry : rd (q.reverse ++ y :: (i : Int) :: (s ++ t)) ((q.reverse).length : Int) = y := rd_at _ _ _
    have hlen : ((q.reverse ++ y :: (i : Int) :: (s ++ t)).length : Int) = (n : Int) + 0 := by simp; omega
    have hsw : ((q.reverse ++ y :: (i : Int) :: (s ++ t)).set (((y :: q).length : Int)).toNat y).set (((q.reverse).length : Int)).toNat (i : Int) = q.reverse ++ (i : Int) :: ((y :: s) ++ t) := by
      rw [show (((y :: q).length : Int)).toNat = q.reverse.length + 1 from by simp, Int.toNat_natCast]
      exact swap_at _ _ _ _
    have hcmp : @impl_FirstFeet_1.f ⟨F⟩ (i : Int) y = some (if rd F (i : Int) < rd F y then -1 else if rd F (i : Int) > rd F y then 1 else 0) := by
      unfold impl_FirstFeet_1.f
      rw [if_pos ⟨by omega, hi, hy.1, hy.2⟩]
      exact cmp_eq _ _
    unfold insR at h
    by_cases hc2 : rd F y > rd F (i : Int)
    · rw [if_pos hc2] at h
      refine Ev.step (f := fun k => @slices_insertionSortCmpFunc_int.l1 ⟨F⟩ k (q.reverse ++ (i : Int) :: ((y :: s) ++ t)) 0 (n : Int) (c : Int) (q.length : Int)) (fun k => ?_) (ev_inner F i n hn t r hi q (y :: s) (by simp only [List.length_cons]; omega) (fun z hz => hm z (List.mem_cons.2 (.inr hz))) c hc h)
      simp only [slices_insertionSortCmpFunc_int.l1]
      rw [e1, hw, ri, ry, hcmp, hlen, hsw, List.length_reverse, if_pos (by simp only [List.length_cons]; omega), if_pos (by omega), if_pos (by simp only [List.length_cons]; omega), if_pos (by omega), if_pos (by omega)]
      simp only [Option.bind_some]
      rw [if_pos hc2, if_pos (by omega)]
    · rw [if_neg hc2] at h
      refine Ev.step (f := fun k => @slices_insertionSortCmpFunc_int.l0 ⟨F⟩ k ((y :: q).reverse ++ (i : Int) :: s ++ t) 0 (n : Int) ((c + 1 : Nat) : Int)) (fun k => ?_) h
      simp only [slices_insertionSortCmpFunc_int.l1]
      rw [e1, hw, ri, ry, hcmp, hlen, List.length_reverse, if_pos (by simp only [List.length_cons]; omega), if_pos (by omega), if_pos (by simp only [List.length_cons]; omega), if_pos (by omega), if_pos (by omega)]
      simp only [Option.bind_some]
      rw [if_neg (show ¬ (if rd F (i : Int) < rd F y then (-1 : Int) else if rd F (i : Int) > rd F y then 1 else 0) < 0 from by rw [if_neg (by omega)]; split <;> omega), wrap_succ c (by omega), ← e1, List.append_assoc, List.cons_append]
theorem ev_stable (F : List Int) (hl : F.length ≤ 19) : Ev (fun k => @slices_SortStableFunc_int_int.f ⟨F⟩ k ((List.range F.length).map fun v : Nat => (v : Int)) 0) (ordUpto F F.length) := by
  have tail : ∀ i, i ≤ F.length → (((List.range F.length).map fun v : Nat => (v : Int)).drop i).length = F.length - i := fun i hi => by simp
  have hdrop : ∀ i, i < F.length → ((List.range F.length).map fun v : Nat => (v : Int)).drop i = (i : Int) :: ((List.range F.length).map fun v : Nat => (v : Int)).drop (i + 1) := fun i hi => by
    rw [List.drop_eq_getElem_cons (by simp; exact hi)]
    simp
  have hins : ∀ i, i ≤ F.length → Ev (fun k => @slices_insertionSortCmpFunc_int.l0 ⟨F⟩ k (ordUpto F i ++ ((List.range F.length).map fun v : Nat => (v : Int)).drop i) 0 (F.length : Int) (i : Int)) (ordUpto F F.length) := by
    refine downTo F.length ?_ ?_
    · refine Ev.step (f := fun _ => some (ordUpto F F.length)) (fun k => ?_) (Ev.now _)
      simp only [slices_insertionSortCmpFunc_int.l0]
      rw [if_neg (by omega), List.drop_of_length_le (by simp), List.append_nil]
    · intro i hi ih
      have hlen := ord_length F i
      have hstep := ev_inner F i F.length (by omega) (((List.range F.length).map fun v : Nat => (v : Int)).drop (i + 1)) (ordUpto F F.length) (by omega) (ordUpto F i).reverse [] (by rw [List.length_reverse, hlen, tail (i + 1) hi, List.length_nil]; omega) (fun y hy => by have := (ord_mem F i y).1 (List.mem_reverse.1 hy); omega) i (by omega) ih
      rw [List.reverse_reverse, List.nil_append, List.length_reverse, hlen, ← hdrop i hi] at hstep
      refine Ev.step (f := fun k => @slices_insertionSortCmpFunc_int.l1 ⟨F⟩ k (ordUpto F i ++ ((List.range F.length).map fun v : Nat => (v : Int)).drop i) 0 (F.length : Int) (i : Int) (i : Int)) (fun k => ?_) hstep
      simp only [slices_insertionSortCmpFunc_int.l0]
      rw [if_pos (by omega)]
  have hsort : Ev (fun k => @slices_insertionSortCmpFunc_int.f ⟨F⟩ k ((List.range F.length).map fun v : Nat => (v : Int)) 0 (F.length : Int) 0) (ordUpto F F.length) := by
    by_cases h0 : F.length = 0
    · refine Ev.step (f := fun _ => some (ordUpto F F.length)) (fun k => ?_) (Ev.now _)
      unfold slices_insertionSortCmpFunc_int.f
      simp only [slices_insertionSortCmpFunc_int.l0]
      rw [if_neg (by rw [h0]; unfold wrap64; omega), h0]
      rfl
    · have h1 := hins 1 (by omega)
      rw [show ordUpto F 1 ++ ((List.range F.length).map fun v : Nat => (v : Int)).drop 1 = (List.range F.length).map fun v : Nat => (v : Int) from by
        have := hdrop 0 (by omega)
        rw [List.drop_zero] at this
        conv => rhs; rw [this]
        rfl] at h1
      refine Ev.congr (fun k => ?_) h1
      unfold slices_insertionSortCmpFunc_int.f
      rw [show wrap64 (0 + 1) = ((1 : Nat) : Int) from by unfold wrap64; omega]
  refine Ev.congr (f := fun k => @slices_stableCmpFunc_int.l0 ⟨F⟩ k ((List.range F.length).map fun v : Nat => (v : Int)) (F.length : Int) 0 20 0 20) (fun k => ?_) ?_
  · unfold slices_SortStableFunc_int_int.f slices_stableCmpFunc_int.f
    rw [show ((((List.range F.length).map fun v : Nat => (v : Int)).length : Nat) : Int) = (F.length : Int) from by simp]
    cases @slices_stableCmpFunc_int.l0 ⟨F⟩ k ((List.range F.length).map fun v : Nat => (v : Int)) (F.length : Int) 0 20 0 20 <;> rfl
  · refine Ev.step (f := fun k => (@slices_insertionSortCmpFunc_int.f ⟨F⟩ k ((List.range F.length).map fun v : Nat => (v : Int)) 0 (F.length : Int) 0).bind fun t => @slices_stableCmpFunc_int.l1 ⟨F⟩ k t (F.length : Int) 20) (fun k => ?_) (Ev.bind hsort ?_)
    · simp only [slices_stableCmpFunc_int.l0]
      rw [if_neg (by omega)]
    · refine Ev.step (f := fun _ => some (ordUpto F F.length)) (fun k => ?_) (Ev.now _)
      simp only [slices_stableCmpFunc_int.l1]
      rw [if_neg (by omega)]

/-! ### the shoe of one foot -/
def okI (F S : List Int) (r : Int) (used : List Bool) (i k : Int) : Prop := rdOf false used k = false ∧ 0 ≤ rd S k - rd F i ∧ rd S k - rd F i ≤ r
def Best (F S : List Int) (r : Int) (used : List Bool) (i : Int) (j : Nat) (b : Int) : Prop :=
  (b = -1 ∧ ∀ q : Nat, q < j → ¬ okI F S r used i (q : Int)) ∨ (0 ≤ b ∧ b < (j : Int) ∧ okI F S r used i b ∧ ∀ q : Nat, q < j → okI F S r used i (q : Int) → (q : Int) ≠ b → lx S b (q : Int))
theorem ev_best (F S : List Int) (r : Int) (hF : Fine F) (hS : Fine S) (hr : 0 ≤ r ∧ r ≤ 60) (out : List Int) (used : List Bool) (hu : used.length = S.length) (hl : S.length ≤ 100) (i : Int) (hi : 0 ≤ i ∧ i < (F.length : Int)) (oF : List Int) (nF c : Int) (res : List Int × Bool)
    (hend : ∀ b, Best F S r used i S.length b → Ev (fun k => if b ≥ 0 then (if 0 ≤ b then (if b < (used.length : Int) then (if 0 ≤ i then (if i < (out.length : Int) then (impl_FirstFeet.l1 k S r F (out.set i.toNat b) (used.set b.toNat true) oF nF (wrap64 (c + 1))) else none) else none) else none) else none) else (impl_FirstFeet.l1 k S r F out used oF nF (wrap64 (c + 1)))) res) :
    Ev (fun k => impl_FirstFeet.l2 k S r F out used i (-1) oF nF c S (S.length : Int) 0) res := by
  have h : ∀ j, j ≤ S.length → ∀ b, Best F S r used i j b → Ev (fun k => impl_FirstFeet.l2 k S r F out used i b oF nF c S (S.length : Int) (j : Int)) res := by
    refine downTo S.length ?_ ?_
    · intro b hb
      refine Ev.step (f := fun k => if b ≥ 0 then (if 0 ≤ b then (if b < (used.length : Int) then (if 0 ≤ i then (if i < (out.length : Int) then (impl_FirstFeet.l1 k S r F (out.set i.toNat b) (used.set b.toNat true) oF nF (wrap64 (c + 1))) else none) else none) else none) else none) else (impl_FirstFeet.l1 k S r F out used oF nF (wrap64 (c + 1)))) (fun k => ?_) (hend b hb)
      simp only [impl_FirstFeet.l2]
      rw [if_neg (by omega)]
    · intro j hj ih b hb
      have hf := hF i hi.1 hi.2
      have hs := hS (j : Int) (by omega) (by omega)
      -- the step keeps the old one
      have keep : ¬ (okI F S r used i (j : Int) ∧ (b = -1 ∨ rd S (j : Int) < rd S b)) → Best F S r used i (j + 1) b := by
        intro hn
        rcases hb with ⟨h1, h2⟩ | ⟨h1, h2, h3, h4⟩
        · refine .inl ⟨h1, fun q hq => ?_⟩
          by_cases e : q = j
          · subst e; exact fun ho => hn ⟨ho, .inl h1⟩
          · exact h2 q (by omega)
        · refine .inr ⟨h1, by omega, h3, fun q hq ho hne => ?_⟩
          by_cases e : q = j
          · subst e
            have hn2 : ¬ rd S (q : Int) < rd S b := fun h => hn ⟨ho, .inr h⟩
            unfold lx
            by_cases e2 : rd S b < rd S (q : Int)
            · exact .inl e2
            · exact .inr ⟨by omega, by omega⟩
          · exact h4 q (by omega) ho hne
      have take_ : okI F S r used i (j : Int) → (b = -1 ∨ rd S (j : Int) < rd S b) → Best F S r used i (j + 1) (j : Int) := by
        intro ho hlt
        refine .inr ⟨by omega, by omega, ho, fun q hq hoq hne => ?_⟩
        rcases hb with ⟨h1, h2⟩ | ⟨h1, h2, h3, h4⟩
        · exact absurd hoq (h2 q (by omega))
        · have hlt' : rd S (j : Int) < rd S b := by rcases hlt with h | h <;> first | exact h | omega
          by_cases e : (q : Int) = b
          · rw [e]; exact .inl hlt'
          · have := h4 q (by omega) hoq e
            unfold lx at this ⊢
            omega
      cases hub : rdOf false used (j : Int) with
      | true =>
        refine Ev.step (f := fun k => impl_FirstFeet.l2 k S r F out used i b oF nF c S (S.length : Int) ((j + 1 : Nat) : Int)) (fun k => ?_) (ih b (keep (fun h => by have := h.1.1; rw [hub] at this; cases this)))
        simp only [impl_FirstFeet.l2]
        rw [if_pos (by omega), if_pos (by omega), if_pos (by omega), if_pos (by omega), if_pos hub, wrap_succ j (by omega)]
      | false =>
        have hstart : ∀ k, impl_FirstFeet.l2 (k + 1) S r F out used i b oF nF c S (S.length : Int) (j : Int) = if (decide (0 ≤ rd S (j : Int) - rd F i) && decide (rd S (j : Int) - rd F i ≤ r)) = true then (if b < 0 then impl_FirstFeet.l2 k S r F out used i (j : Int) oF nF c S (S.length : Int) ((j + 1 : Nat) : Int) else if 0 ≤ b then (if b < (S.length : Int) then (if rd S (j : Int) < rd S b then impl_FirstFeet.l2 k S r F out used i (j : Int) oF nF c S (S.length : Int) ((j + 1 : Nat) : Int) else impl_FirstFeet.l2 k S r F out used i b oF nF c S (S.length : Int) ((j + 1 : Nat) : Int)) else none) else none) else impl_FirstFeet.l2 k S r F out used i b oF nF c S (S.length : Int) ((j + 1 : Nat) : Int) := by
          intro k
          simp only [impl_FirstFeet.l2]
          rw [if_pos (by omega), if_pos (by omega), if_pos (by omega), if_pos (by omega), if_neg (by rw [hub]; decide), if_pos hi.1, if_pos hi.2, within_eq, wrap_succ j (by omega), show wrap64 (rd S (j : Int) - rd F i) = rd S (j : Int) - rd F i from by unfold wrap64; omega]
          rfl
        cases hin : decide (0 ≤ rd S (j : Int) - rd F i) && decide (rd S (j : Int) - rd F i ≤ r) with
        | false =>
          refine Ev.step (f := fun k => impl_FirstFeet.l2 k S r F out used i b oF nF c S (S.length : Int) ((j + 1 : Nat) : Int)) (fun k => ?_) (ih b (keep (fun h => by
            have h1 := h.1.2.1
            have h2 := h.1.2.2
            rw [decide_eq_true h1, decide_eq_true h2] at hin
            cases hin)))
          rw [hstart k, hin, if_neg (by decide)]
        | true =>
          have ho : okI F S r used i (j : Int) := by
            rw [Bool.and_eq_true, decide_eq_true_eq, decide_eq_true_eq] at hin
            exact ⟨hub, hin.1, hin.2⟩
          by_cases hb0 : b < 0
          · refine Ev.step (f := fun k => impl_FirstFeet.l2 k S r F out used i (j : Int) oF nF c S (S.length : Int) ((j + 1 : Nat) : Int)) (fun k => ?_) (ih _ (take_ ho (.inl (by rcases hb with h | h <;> omega))))
            rw [hstart k, hin, if_pos rfl, if_pos hb0]
          · have hbS : b < (S.length : Int) := by rcases hb with h | h <;> omega
            by_cases hlt : rd S (j : Int) < rd S b
            · refine Ev.step (f := fun k => impl_FirstFeet.l2 k S r F out used i (j : Int) oF nF c S (S.length : Int) ((j + 1 : Nat) : Int)) (fun k => ?_) (ih _ (take_ ho (.inr hlt)))
              rw [hstart k, hin, if_pos rfl, if_neg hb0, if_pos (by omega), if_pos hbS, if_pos hlt]
            · refine Ev.step (f := fun k => impl_FirstFeet.l2 k S r F out used i b oF nF c S (S.length : Int) ((j + 1 : Nat) : Int)) (fun k => ?_) (ih _ (keep (fun h => h.2.elim (fun h' => hb0 (by omega)) (fun h' => hlt h'))))
              rw [hstart k, hin, if_pos rfl, if_neg hb0, if_pos (by omega), if_pos hbS, if_neg hlt]
  exact h 0 (by omega) (-1) (.inl ⟨rfl, fun q hq => by omega⟩)
theorem find_lex (S : List Int) (p : Int → Bool) : ∀ (o : List Int) (k : Int), o.Pairwise (lx S) → o.find? p = some k → k ∈ o ∧ p k = true ∧ ∀ q ∈ o, p q = true → q ≠ k → lx S k q
  | [], k, _, h => by cases h
  | y :: t, k, ho, h => by
    obtain ⟨h1, h2⟩ := List.pairwise_cons.1 ho
    cases hp : p y with
    | true =>
      rw [List.find?_cons_of_pos hp] at h
      obtain rfl := Option.some.inj h
      refine ⟨List.mem_cons.2 (.inl rfl), hp, fun q hq _ hne => ?_⟩
      rcases List.mem_cons.1 hq with e | e
      · exact absurd e hne
      · exact h1 q e
    | false =>
      rw [List.find?_cons_of_neg (by rw [hp]; decide)] at h
      obtain ⟨g1, g2, g3⟩ := find_lex S p t k h2 h
      refine ⟨List.mem_cons.2 (.inr g1), g2, fun q hq hpq hne => ?_⟩
      rcases List.mem_cons.1 hq with e | e
      · rw [e, hp] at hpq; cases hpq
      · exact g3 q e hpq hne
theorem rdB_set (o : List Bool) (x q : Nat) (v : Bool) (hx : x < o.length) : rdOf false (o.set x v) (q : Int) = if x = q then v else rdOf false o (q : Int) := by
  unfold rdOf
  rw [Int.toNat_natCast, List.getD_eq_getElem?_getD, List.getElem?_set]
  by_cases e : x = q
  · subst e
    rw [if_pos rfl, if_pos hx, if_pos rfl]; rfl
  · rw [if_neg e, if_neg e, ← List.getD_eq_getElem?_getD]
theorem rd_set' (o : List Int) (i q : Int) (v : Int) (hi : 0 ≤ i) (hi2 : i < (o.length : Int)) (hq : 0 ≤ q) : rd (o.set i.toNat v) q = if i = q then v else rd o q := rd_set o i q v hi hi2 hq
/-- The two walks go side by side. -/
structure Rel (n m : Nat) (proc used outS : List Int) (usedB : List Bool) (outI : List Int) : Prop where
  us : ∀ q : Int, 0 ≤ q → q < (m : Int) → (q ∈ used ↔ rdOf false usedB q = true)
  ub : usedB.length = m
  ls : outS.length = n
  li : outI.length = n
  done_ : ∀ q : Int, 0 ≤ q → q < (n : Int) → q ∈ proc → rd outI q = rd outS q
  yet : ∀ q : Int, 0 ≤ q → q < (n : Int) → ¬ q ∈ proc → rd outI q = -1
theorem list_ext (a b : List Int) (n : Nat) (ha : a.length = n) (hb : b.length = n) (h : ∀ q : Int, 0 ≤ q → q < (n : Int) → rd a q = rd b q) : a = b := by
  refine List.ext_getElem (by omega) (fun q h1 h2 => ?_)
  have := h (q : Int) (by omega) (by omega)
  rw [rd_get a q h1, rd_get b q h2] at this
  exact this
theorem ev_walk (F S : List Int) (r : Int) (hF : Fine F) (hS : Fine S) (hr : 0 ≤ r ∧ r ≤ 60) (hlS : S.length ≤ 100) (hlF : F.length ≤ 100) (oF : List Int) (hoF : ∀ y, y ∈ oF ↔ 0 ≤ y ∧ y < (F.length : Int)) (hnd : oF.Nodup) (hlo : oF.length ≤ 100) :
    ∀ c, c ≤ oF.length → ∀ (used outS : List Int) (usedB : List Bool) (outI : List Int), Rel F.length S.length (oF.take c) used outS usedB outI → Ev (fun k => impl_FirstFeet.l1 k S r F outI usedB oF (oF.length : Int) (c : Int)) (gr F S 0 r (ordUpto S S.length) (oF.drop c) used outS, true) := by
  refine downTo oF.length ?_ ?_
  · intro used outS usedB outI R
    rw [List.drop_length]
    have e : outI = outS := list_ext _ _ _ R.li R.ls (fun q h1 h2 => R.done_ q h1 h2 (by rw [List.take_length]; exact (hoF q).2 ⟨h1, h2⟩))
    subst e
    refine Ev.step (f := fun _ => some (outI, true)) (fun k => ?_) (Ev.now _)
    simp only [impl_FirstFeet.l1]
    rw [if_neg (by omega)]
  · intro c hc ih used outS usedB outI R
    have hq : rd oF (c : Int) ∈ oF := by rw [rd_get oF c hc]; exact List.getElem_mem hc
    have hi := (hoF _).1 hq
    have hnew : ¬ rd oF (c : Int) ∈ oF.take c := by
      have h2 : (oF.take (c + 1)).Nodup := hnd.sublist (List.take_sublist _ _)
      rw [take_snoc oF c hc] at h2
      exact fun h => (List.nodup_append.1 h2).2.2 _ h _ (List.mem_singleton.2 rfl) rfl
    have ht : ∀ q, q ∈ oF.take (c + 1) ↔ q ∈ oF.take c ∨ q = rd oF (c : Int) := fun q => by rw [take_snoc oF c hc, List.mem_append, List.mem_singleton]
    generalize hid : rd oF (c : Int) = i at hq hi hnew ht
    have hiff : ∀ q : Int, 0 ≤ q → q < (S.length : Int) → (okS F S 0 r used i q = true ↔ okI F S r usedB i q) := by
      intro q h1 h2
      have hu := R.us q h1 h2
      unfold okS okI
      rw [Bool.and_eq_true, Bool.and_eq_true, decide_eq_true_eq, decide_eq_true_eq, Bool.not_eq_true', decide_eq_false_iff_not, hu, Bool.not_eq_true]
      constructor
      · rintro ⟨a, b, c⟩; exact ⟨a, by omega, by omega⟩
      · rintro ⟨a, b, c⟩; exact ⟨a, by omega, by omega⟩
    have hsrt := ord_sorted S S.length
    refine Ev.step (f := fun k => impl_FirstFeet.l2 k S r F outI usedB i (-1) oF (oF.length : Int) (c : Int) S (S.length : Int) 0) (fun k => ?_) (ev_best F S r hF hS hr outI usedB R.ub hlS i hi oF (oF.length : Int) (c : Int) _ (fun b hb => ?_))
    · simp only [impl_FirstFeet.l1]
      rw [if_pos (by omega), if_pos (by omega), if_pos (by omega), hid]
    · rw [drop_cons oF c hc, hid]
      unfold gr
      rw [wrap_succ c (by omega)]
      cases hfd : (ordUpto S S.length).find? (okS F S 0 r used i) with
      | none =>
        have hno : ¬ b ≥ 0 := by
          intro h0
          rcases hb with h | ⟨h1, h2, h3, _⟩
          · omega
          · have := List.find?_eq_none.1 hfd b ((ord_mem S _ b).2 ⟨h1, h2⟩)
            exact this ((hiff b h1 h2).2 h3)
        refine Ev.congr (f := fun k => impl_FirstFeet.l1 k S r F outI usedB oF (oF.length : Int) ((c + 1 : Nat) : Int)) (fun k => by rw [if_neg hno]) (ih _ _ _ _ ?_)
        refine ⟨R.us, R.ub, by rw [List.length_set]; exact R.ls, R.li, fun q h1 h2 hm => ?_, fun q h1 h2 hm => R.yet q h1 h2 (fun h => hm ((ht q).2 (.inl h)))⟩
        rw [rd_set' outS i q (-1) hi.1 (by have := R.ls; omega) h1]
        by_cases e : i = q
        · rw [if_pos e]; subst e; exact R.yet i h1 h2 hnew
        · rw [if_neg e]
          rcases (ht q).1 hm with h | h
          · exact R.done_ q h1 h2 h
          · exact absurd h.symm e
      | some k0 =>
        obtain ⟨g1, g2, g3⟩ := find_lex S _ _ k0 hsrt hfd
        have hk := (ord_mem S _ k0).1 g1
        have hbk : b = k0 := by
          rcases hb with ⟨h1, h2⟩ | ⟨h1, h2, h3, h4⟩
          · have hh := (hiff k0 hk.1 hk.2).1 g2
            have := h2 k0.toNat (by omega)
            rw [show ((k0.toNat : Nat) : Int) = k0 from by omega] at this
            exact absurd hh this
          · by_cases e : b = k0
            · exact e
            · have a1 := g3 b ((ord_mem S _ b).2 ⟨h1, h2⟩) ((hiff b h1 h2).2 h3) e
              have a2 := h4 k0.toNat (by omega) (by rw [show ((k0.toNat : Nat) : Int) = k0 from by omega]; exact (hiff k0 hk.1 hk.2).1 g2) (by omega)
              rw [show ((k0.toNat : Nat) : Int) = k0 from by omega] at a2
              exact absurd a2 (fun h => lx_irrefl S _ _ a1 h)
        subst hbk
        refine Ev.congr (f := fun k => impl_FirstFeet.l1 k S r F (outI.set i.toNat b) (usedB.set b.toNat true) oF (oF.length : Int) ((c + 1 : Nat) : Int)) (fun k => by rw [if_pos (by omega), if_pos (by omega), if_pos (by have := R.ub; omega), if_pos (by omega), if_pos (by have := R.li; omega)]) (ih _ _ _ _ ?_)
        refine ⟨fun q h1 h2 => ?_, by rw [List.length_set]; exact R.ub, by rw [List.length_set, List.length_set]; exact R.ls, by rw [List.length_set]; exact R.li, fun q h1 h2 hm => ?_, fun q h1 h2 hm => ?_⟩
        · have e := rdB_set usedB b.toNat q.toNat true (by have := R.ub; omega)
          rw [show ((q.toNat : Nat) : Int) = q from by omega] at e
          rw [e, List.mem_append, List.mem_singleton, R.us q h1 h2]
          by_cases e2 : b.toNat = q.toNat
          · rw [if_pos e2]; simp; right; omega
          · rw [if_neg e2]
            constructor
            · rintro (h | h)
              · exact h
              · omega
            · exact .inl
        · rw [rd_set' outI i q b hi.1 (by have := R.li; omega) h1, rd_set' _ i q b hi.1 (by rw [List.length_set]; have := R.ls; omega) h1, rd_set' outS i q (-1) hi.1 (by have := R.ls; omega) h1]
          by_cases e : i = q
          · rw [if_pos e, if_pos e]
          · rw [if_neg e, if_neg e, if_neg e]
            rcases (ht q).1 hm with h | h
            · exact R.done_ q h1 h2 h
            · exact absurd h.symm e
        · rw [rd_set' outI i q b hi.1 (by have := R.li; omega) h1, if_neg (fun e => hm ((ht q).2 (.inr e.symm)))]
          exact R.yet q h1 h2 (fun h => hm ((ht q).2 (.inl h)))
def okFit (l r : List Int) (a : Int) : Bool := okSizes l && okSizes r && (decide (0 ≤ a) && decide (a ≤ 60))
theorem areFit_eq (l r : List Int) (a : Int) (hl : l.length ≤ 1048576) (hr : r.length ≤ 1048576) : impl_areFit.f l r a = some (okFit l r a) := by
  unfold impl_areFit.f okFit
  rw [areSizes_eq l hl, areSizes_eq r hr]
  simp only [Option.bind_some, within_eq]
  cases okSizes l <;> cases okSizes r <;> simp
theorem rd_repl (n : Nat) (a : Int) (q : Int) (h0 : 0 ≤ q) (h : q < (n : Int)) : rd (List.replicate n a) q = a := by
  have := rd_get (List.replicate n a) q.toNat (by simp; omega)
  rw [show ((q.toNat : Nat) : Int) = q from by omega] at this
  rw [this]; simp
/-- What impl.FirstFeet returns where the sizes are right. -/
theorem ev_FirstFeet (F S : List Int) (r : Int) (hok : okFit F S r = true) : Ev (fun k => impl_FirstFeet.f k F S r) (feet F S 0 r, true) := by
  have hok' := hok
  unfold okFit at hok'
  simp only [Bool.and_eq_true, decide_eq_true_eq] at hok'
  obtain ⟨⟨h1, h2⟩, h3⟩ := hok'
  have f7 := okSizes_is F h1
  have s7 := okSizes_is S h2
  have hord : ∀ i, i ≤ F.length → ∀ x9 : List Int, Ev (fun k => impl_FirstFeet.l0 k S r F ((List.range i).map fun v : Nat => (v : Int)) (List.replicate i (-1)) (List.replicate S.length false) (F.length : Int) (i : Int)) (feet F S 0 r, true) := by
    refine downTo F.length ?_ ?_
    · intro _
      refine Ev.step (f := fun k => (@slices_SortStableFunc_int_int.f ⟨F⟩ k ((List.range F.length).map fun v : Nat => (v : Int)) 0).bind fun t => impl_FirstFeet.l1 k S r F (List.replicate F.length (-1)) (List.replicate S.length false) t (F.length : Int) 0) (fun k => ?_) (Ev.bind (ev_stable F (by omega)) ?_)
      · simp only [impl_FirstFeet.l0]
        rw [if_neg (by omega), show ((((List.range F.length).map fun v : Nat => (v : Int)).length : Nat) : Int) = (F.length : Int) from by simp]
      · have hw := ev_walk F S r (fine_of F h1) (fine_of S h2) h3 (by omega) (by omega) (ordUpto F F.length) (ord_mem F F.length) ((ord_sorted F F.length).imp (fun h => lx_ne h)) (by rw [ord_length]; omega) 0 (by omega) [] (List.replicate F.length 0) (List.replicate S.length false) (List.replicate F.length (-1)) ⟨fun q h0 h => ?_, by simp, by simp, by simp, (fun q _ _ hm => by cases hm), fun q h0 h _ => rd_repl _ _ q h0 h⟩
        · rw [ord_length] at hw
          exact hw
        · constructor
          · intro h; cases h
          · intro h'
            unfold rdOf at h'
            rw [List.getD_eq_getElem?_getD, List.getElem?_replicate] at h'
            split at h' <;> simp at h'
    · intro i hi ih x9
      refine Ev.step (f := fun k => impl_FirstFeet.l0 k S r F ((List.range (i + 1)).map fun v : Nat => (v : Int)) (List.replicate (i + 1) (-1)) (List.replicate S.length false) (F.length : Int) ((i + 1 : Nat) : Int)) (fun k => ?_) (ih x9)
      simp only [impl_FirstFeet.l0]
      rw [if_pos (by omega), if_pos (by simp; omega), if_pos (by simp; omega), wrap_succ i (by omega), List.range_succ, List.map_append, List.replicate_succ']
      rfl
  refine Ev.congr (f := fun k => impl_FirstFeet.l0 k S r F [] [] (List.replicate S.length false) (F.length : Int) 0) (fun k => ?_) (hord 0 (by omega) [])
  unfold impl_FirstFeet.f
  rw [areFit_eq F S r (by omega) (by omega), hok]
  simp only [Option.bind_some, if_true]
  rw [if_pos (by omega), if_pos (by omega), Int.toNat_natCast]

end Go.Proofs.Ytagfnpocloaojaa.PureShoe
