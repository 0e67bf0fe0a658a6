/- Plain laws that several statements of this seat share: what the Lean functions of the helpers come to. No program and no memory stands in it. Conditions stand in each statement. -/
import Derived.Test.YtagfnpocloaojaaQBasex
import Derived.Test.YtagfnpocloaojaaQSizesx
import Derived.Test.YtagfnpocloaojaaXWithin
namespace Go.Proofs.Ytagfnpocloaojaa.PureBase
open Go.RowKit Go.Proofs.Ytagfnpocloaojaa.QBase Go.Proofs.YtagfnpocloaojaaW.PrintWords Go.Proofs.YtagfnpocloaojaaW.PrintLast Go.Proofs.YtagfnpocloaojaaW.PrintMore Go.Proofs.Ytagfnpocloaojaa.QSizes Go.Proofs.Ytagfnpocloaojaa.XWithin

theorem downTo {P : Nat → Prop} (n : Nat) (h0 : P n) (hs : ∀ i, i < n → P (i + 1) → P i) : ∀ i, i ≤ n → P i := by
  intro i hi
  obtain ⟨d, rfl⟩ : ∃ d, n = i + d := ⟨n - i, by omega⟩
  induction d generalizing i with
  | zero => exact h0
  | succ d ih => exact hs i (by omega) (ih (i + 1) (by rw [show i + 1 + d = i + (d + 1) from by omega]; exact h0) (by rw [show i + 1 + d = i + (d + 1) from by omega]; exact hs) (by omega))
theorem rd_nat (l : List Int) (i : Nat) : rd l (i : Int) = l.getD i 0 := by unfold rd; rw [Int.toNat_natCast]
theorem rd_get (l : List Int) (i : Nat) (h : i < l.length) : rd l (i : Int) = l[i] := by rw [rd_nat, List.getD_eq_getElem?_getD, List.getElem?_eq_getElem h]; rfl
theorem drop_cons (l : List Int) (i : Nat) (h : i < l.length) : l.drop i = rd l (i : Int) :: l.drop (i + 1) := by rw [rd_get l i h]; exact List.drop_eq_getElem_cons h
theorem wrap_succ (i : Nat) (h : i < 9223372036854775807) : wrap64 ((i : Int) + 1) = ((i + 1 : Nat) : Int) := by unfold wrap64; omega

/-- A pile, in plain words. -/
def okPile (l : List Int) : Bool := decide (l.length ≠ 0) && decide (l.length % 2 = 0) && decide (l.length ≤ 16) && l.all (fun x => decide (0 ≤ x) && decide (x ≤ ((l.length / 2 : Nat) : Int) - 1)) && l.all (fun x => l.count x == 2)

theorem ev_l1In (x lo hi : Int) : spec_l1In.f x lo hi = some (decide (lo ≤ x) && decide (x ≤ hi)) := by
  unfold spec_l1In.f
  by_cases h : lo ≤ x <;> simp [h]

theorem ev_l1All (l : List Int) (lo hi : Int) (hl : l.length < 9223372036854775807) : Ev (fun k => spec_l1All.f k l lo hi) (l.all fun x => decide (lo ≤ x) && decide (x ≤ hi)) := by
  unfold spec_l1All.f
  have h : ∀ i, i ≤ l.length → Ev (fun k => spec_l1All.l0 k lo hi l (l.length : Int) (i : Int)) ((l.drop i).all fun x => decide (lo ≤ x) && decide (x ≤ hi)) := by
    refine downTo l.length ?_ ?_
    · refine Ev.step (f := fun _ => some true) (fun k => ?_) (by rw [List.drop_length]; exact Ev.now _)
      simp only [spec_l1All.l0]
      rw [if_neg (by omega)]
    · intro i hil ih
      rw [drop_cons l i hil, List.all_cons]
      by_cases hx : (decide (lo ≤ rd l i) && decide (rd l i ≤ hi)) = true
      · rw [hx, Bool.true_and]
        refine Ev.step (f := fun k => spec_l1All.l0 k lo hi l (l.length : Int) ((i + 1 : Nat) : Int)) (fun k => ?_) ih
        simp only [spec_l1All.l0]
        rw [if_pos (by omega), if_pos (by omega), if_pos (by omega), ev_l1In, hx, wrap_succ i (by omega)]
        simp only [Option.bind_some, if_true]
      · rw [Bool.not_eq_true] at hx
        rw [hx, Bool.false_and]
        refine Ev.step (f := fun k => some false) (fun k => ?_) (Ev.now _)
        simp only [spec_l1All.l0]
        rw [if_pos (by omega), if_pos (by omega), if_pos (by omega), ev_l1In, hx]
        simp
  exact h 0 (by omega)

theorem within_eq (x lo hi : Int) : impl_within.f x lo hi = some (decide (lo ≤ x) && decide (x ≤ hi)) := by
  unfold impl_within.f
  by_cases h : lo ≤ x <;> simp [h]

/-- What counting does, element by element. -/
def tally (n : Nat) : List Int → List Int → Option (List Int)
  | o, [] => some o
  | o, x :: xs => if 0 ≤ x ∧ x ≤ (n : Int) - 1 then (if rd o x = 2 then none else tally n (o.set x.toNat (rd o x + 1)) xs) else none

theorem rd_set (o : List Int) (x y v : Int) (hx : 0 ≤ x) (hx' : x < o.length) (hy : 0 ≤ y) : rd (o.set x.toNat v) y = if x = y then v else rd o y := by
  unfold rd
  rw [List.getD_eq_getElem?_getD, List.getD_eq_getElem?_getD, List.getElem?_set]
  by_cases h : x = y
  · subst h
    rw [if_pos rfl, if_pos (by omega), if_pos rfl]; rfl
  · rw [if_neg (by omega), if_neg h]

theorem ev_times (n : Nat) (hn : n ≤ 1000) (l : List Int) (hl : l.length ≤ 1048576) :
    Ev (fun k => impl_times.f k (n : Int) l) (match tally n (List.replicate n 0) l with | some o => (o, true) | none => ([], false)) := by
  have h : ∀ i, i ≤ l.length → ∀ o : List Int, o.length = n → (∀ y : Int, 0 ≤ y → rd o y ≤ 2 ∧ 0 ≤ rd o y) →
      Ev (fun k => impl_times.l0 k (n : Int) o l (l.length : Int) (i : Int)) (match tally n o (l.drop i) with | some o => (o, true) | none => ([], false)) := by
    refine downTo l.length ?_ ?_
    · intro o _ _
      rw [List.drop_length]
      refine Ev.step (f := fun _ => some (o, true)) (fun k => ?_) (Ev.now _)
      simp only [impl_times.l0]
      rw [if_neg (by omega)]
    · intro i hi ih o ho hb
      rw [drop_cons l i hi, tally]
      have hw : wrap64 ((n : Int) - 1) = (n : Int) - 1 := by unfold wrap64; omega
      by_cases hx : 0 ≤ rd l i ∧ rd l i ≤ (n : Int) - 1
      · obtain ⟨hx0, hx1⟩ := hx
        rw [if_pos ⟨hx0, hx1⟩]
        have hb2 := hb (rd l i) hx0
        by_cases h2 : rd o (rd l i) = 2
        · rw [if_pos h2]
          refine Ev.step (f := fun _ => some (([] : List Int), false)) (fun k => ?_) (Ev.now _)
          simp only [impl_times.l0, within_eq, hw, hx0, hx1, decide_true, Bool.and_self, Option.bind_some, if_true]
          rw [if_pos (by omega), if_pos (by omega), if_pos (by omega), if_pos (by omega), if_pos h2]
        · rw [if_neg h2]
          refine Ev.step (f := fun k => impl_times.l0 k (n : Int) (o.set (rd l i).toNat (rd o (rd l i) + 1)) l (l.length : Int) ((i + 1 : Nat) : Int)) (fun k => ?_) (ih _ (by rw [List.length_set]; exact ho) ?_)
          · simp only [impl_times.l0, within_eq, hw, hx0, hx1, decide_true, Bool.and_self, Option.bind_some, if_true]
            rw [if_pos (by omega), if_pos (by omega), if_pos (by omega), if_pos (by omega), if_neg h2, wrap_succ i (by omega), show wrap64 (rd o (rd l i) + 1) = rd o (rd l i) + 1 from by unfold wrap64; omega]
          · intro y hy
            rw [rd_set o _ y _ hx0 (by omega) hy]
            split
            · omega
            · exact hb y hy
      · rw [if_neg hx]
        refine Ev.step (f := fun _ => some (([] : List Int), false)) (fun k => ?_) (Ev.now _)
        simp only [impl_times.l0, within_eq, hw, Option.bind_some]
        rw [if_pos (by omega), if_pos (by omega), if_pos (by omega), if_neg (by simpa using hx)]
  refine Ev.congr (f := fun k => impl_times.l0 k (n : Int) (List.replicate n 0) l (l.length : Int) 0) (fun k => ?_) (h 0 (by omega) _ (by simp) ?_)
  · unfold impl_times.f
    rw [if_pos (by omega), if_pos (by omega), Int.toNat_natCast]
  · intro y hy
    unfold rd
    rw [List.getD_eq_getElem?_getD, List.getElem?_replicate]
    split <;> simp

/-- Counting succeeds where all lie in range and none comes a third time; then it holds the counts. -/
theorem tally_some (n : Nat) : ∀ (l o : List Int), o.length = n → (∀ y : Int, 0 ≤ y → y < n → rd o y ≤ 2) →
    (∀ x ∈ l, 0 ≤ x ∧ x ≤ (n : Int) - 1) → (∀ y : Int, 0 ≤ y → y < n → rd o y + l.count y ≤ 2) →
    ∃ o', tally n o l = some o' ∧ o'.length = n ∧ ∀ y : Int, 0 ≤ y → y < n → rd o' y = rd o y + l.count y := by
  intro l
  induction l with
  | nil => intro o ho _ _ _; exact ⟨o, rfl, ho, fun y _ _ => by simp⟩
  | cons x xs ih =>
    intro o ho hb hr hc
    obtain ⟨hx0, hx1⟩ := hr x (List.mem_cons_self ..)
    have hcx := hc x hx0 (by omega)
    rw [List.count_cons_self] at hcx
    have hs : ∀ y : Int, 0 ≤ y → y < n → rd (o.set x.toNat (rd o x + 1)) y + xs.count y = rd o y + (x :: xs).count y := by
      intro y hy hyn
      rw [rd_set o x y _ hx0 (by omega) hy, List.count_cons]
      by_cases h : x = y
      · subst h; rw [if_pos rfl]; simp; omega
      · rw [if_neg h, beq_false_of_ne h]; simp
    obtain ⟨o', e, hl, hv⟩ := ih (o.set x.toNat (rd o x + 1)) (by rw [List.length_set]; exact ho)
      (fun y hy hyn => by have := hs y hy hyn; have := hc y hy hyn; omega)
      (fun z hz => hr z (List.mem_cons_of_mem _ hz)) (fun y hy hyn => by rw [hs y hy hyn]; exact hc y hy hyn)
    refine ⟨o', ?_, hl, fun y hy hyn => by rw [hv y hy hyn, hs y hy hyn]⟩
    rw [tally, if_pos ⟨hx0, hx1⟩, if_neg (by omega)]
    exact e

theorem tally_inv (n : Nat) : ∀ (l o o' : List Int), o.length = n → (∀ y : Int, 0 ≤ y → y < n → rd o y ≤ 2) → tally n o l = some o' →
    (∀ x ∈ l, 0 ≤ x ∧ x ≤ (n : Int) - 1) ∧ (∀ y : Int, 0 ≤ y → y < n → rd o y + l.count y ≤ 2) := by
  intro l
  induction l with
  | nil => intro o o' _ hb _; exact ⟨fun x hx => (by cases hx), fun y hy hyn => by simpa using hb y hy hyn⟩
  | cons x xs ih =>
    intro o o' ho hb h
    rw [tally] at h
    by_cases hx : 0 ≤ x ∧ x ≤ (n : Int) - 1
    · rw [if_pos hx] at h
      by_cases h2 : rd o x = 2
      · rw [if_pos h2] at h; cases h
      · rw [if_neg h2] at h
        have hbx := hb x hx.1 (by omega)
        have hs : ∀ y : Int, 0 ≤ y → y < n → rd (o.set x.toNat (rd o x + 1)) y + xs.count y = rd o y + (x :: xs).count y := by
          intro y hy hyn
          rw [rd_set o x y _ hx.1 (by omega) hy, List.count_cons]
          by_cases h : x = y
          · subst h; rw [if_pos rfl]; simp; omega
          · rw [if_neg h, beq_false_of_ne h]; simp
        obtain ⟨h3, h4⟩ := ih _ o' (by rw [List.length_set]; exact ho) (fun y hy hyn => by
          rw [rd_set o x y _ hx.1 (by omega) hy]
          split
          · omega
          · exact hb y hy hyn) h
        refine ⟨fun z hz => ?_, fun y hy hyn => by rw [← hs y hy hyn]; exact h4 y hy hyn⟩
        rcases List.mem_cons.1 hz with rfl | hz
        · exact hx
        · exact h3 z hz
    · rw [if_neg hx] at h; cases h

theorem rd_zeros (n : Nat) (y : Int) : rd (List.replicate n 0) y = 0 := by
  unfold rd
  rw [List.getD_eq_getElem?_getD, List.getElem?_replicate]
  split <;> rfl

/-- As many numbers as places, no more than two at each: two at each. -/
theorem sum_zero (n : Nat) : ((List.range n).map fun _ => 0).sum = 0 := by
  induction n with
  | zero => rfl
  | succ n ih => rw [List.range_succ, List.map_append, List.sum_append, ih]; rfl
theorem sum_counts (n : Nat) : ∀ l : List Int, (∀ x ∈ l, 0 ≤ x ∧ x ≤ (n : Int) - 1) → ((List.range n).map fun v : Nat => l.count (v : Int)).sum = l.length := by
  intro l
  induction l with
  | nil =>
    intro _
    simp only [List.count_nil]
    exact sum_zero n
  | cons x xs ih =>
    intro h
    obtain ⟨h0, h1⟩ := h x (List.mem_cons_self ..)
    have e := ih fun z hz => h z (List.mem_cons_of_mem _ hz)
    have key : ∀ m : Nat, ((List.range m).map fun v : Nat => (x :: xs).count (v : Int)).sum = ((List.range m).map fun v : Nat => xs.count (v : Int)).sum + if x < (m : Int) then 1 else 0 := by
      intro m
      induction m with
      | zero => rw [if_neg (by omega)]; rfl
      | succ m ihm =>
        rw [List.range_succ, List.map_append, List.map_append, List.sum_append, List.sum_append, ihm]
        simp only [List.map_cons, List.map_nil, List.sum_cons, List.sum_nil, List.count_cons]
        by_cases hm : x = (m : Int)
        · rw [hm, BEq.rfl, if_pos rfl, if_neg (by omega), if_pos (by omega)]
          omega
        · rw [beq_false_of_ne hm]
          by_cases hlt : x < (m : Int)
          · rw [if_pos hlt, if_pos (show x < ((m + 1 : Nat) : Int) by omega), if_neg (by simp)]
            omega
          · rw [if_neg hlt, if_neg (show ¬ x < ((m + 1 : Nat) : Int) by omega), if_neg (by simp)]
            omega
    rw [key, e, if_pos (by omega), List.length_cons]

theorem counts_two (n : Nat) (f : Nat → Nat) (hle : ∀ v, v < n → f v ≤ 2) (hs : ((List.range n).map f).sum = 2 * n) : ∀ v, v < n → f v = 2 := by
  have hup : ∀ m, m ≤ n → ((List.range m).map f).sum ≤ 2 * m := by
    intro m
    induction m with
    | zero => intro _; exact Nat.le_refl _
    | succ m ih =>
      intro hm
      rw [List.range_succ, List.map_append, List.sum_append]
      have := ih (by omega); have := hle m (by omega)
      simp only [List.map_cons, List.map_nil, List.sum_cons, List.sum_nil]
      omega
  have hdown : ∀ m, m ≤ n → ((List.range m).map f).sum = 2 * m → ∀ v, v < m → f v = 2 := by
    intro m
    induction m with
    | zero => intro _ _ v hv; omega
    | succ m ih =>
      intro hm he v hv
      rw [List.range_succ, List.map_append, List.sum_append] at he
      simp only [List.map_cons, List.map_nil, List.sum_cons, List.sum_nil] at he
      have h1 := hup m (by omega); have h2 := hle m (by omega)
      by_cases hvm : v = m
      · subst hvm; omega
      · exact ih (by omega) (by omega) v (by omega)
  exact hdown n (Nat.le_refl _) hs

theorem tally_pile (l : List Int) (n : Nat) (hn : l.length = 2 * n) : (tally n (List.replicate n 0) l).isSome = (l.all (fun x => decide (0 ≤ x) && decide (x ≤ (n : Int) - 1)) && l.all (fun x => l.count x == 2)) := by
  rw [Bool.eq_iff_iff]
  constructor
  · intro h
    obtain ⟨o', ho'⟩ := Option.isSome_iff_exists.1 h
    obtain ⟨h1, h2⟩ := tally_inv n l _ o' (by simp) (fun y _ _ => by rw [rd_zeros]; omega) ho'
    have h3 : ∀ v, v < n → l.count (v : Int) = 2 := counts_two n (fun v => l.count (v : Int)) (fun v hv => by
      have := h2 (v : Int) (by omega) (by omega)
      rw [rd_zeros] at this
      omega) (by rw [sum_counts n l h1, hn])
    rw [Bool.and_eq_true, List.all_eq_true, List.all_eq_true]
    refine ⟨fun x hx => by have := h1 x hx; simp [this], fun x hx => ?_⟩
    obtain ⟨h4, h5⟩ := h1 x hx
    have := h3 x.toNat (by omega)
    rw [show ((x.toNat : Nat) : Int) = x from by omega] at this
    rw [this]; rfl
  · intro h
    rw [Bool.and_eq_true, List.all_eq_true, List.all_eq_true] at h
    obtain ⟨h1, h2⟩ := h
    have h1' : ∀ x ∈ l, 0 ≤ x ∧ x ≤ (n : Int) - 1 := fun x hx => by have := h1 x hx; simpa using this
    obtain ⟨o', e, _⟩ := tally_some n l (List.replicate n 0) (by simp) (fun y _ _ => by rw [rd_zeros]; omega) h1' (fun y _ _ => by
      rw [rd_zeros]
      by_cases hy : y ∈ l
      · have := h2 y hy
        rw [beq_iff_eq] at this
        omega
      · rw [List.count_eq_zero_of_not_mem hy]; omega)
    rw [e]; rfl

theorem ev_isTwice (l : List Int) (hl : l.length ≤ 1048576) : Ev (fun k => impl_isTwice.f k l 8) (okPile l) := by
  unfold okPile
  by_cases h1 : l.length % 2 = 1
  · refine Ev.congr (f := fun k => some false) (fun k => ?_) (by simpa [h1] using Ev.now false)
    unfold impl_isTwice.f
    rw [if_pos (by omega)]
  obtain ⟨n, hn⟩ : ∃ n, l.length = 2 * n := ⟨l.length / 2, by omega⟩
  have hw : wrap64 ((l.length : Int) / 2) = (n : Int) := by unfold wrap64; omega
  have hd : l.length / 2 = n := by omega
  by_cases h2 : 1 ≤ n ∧ n ≤ 8
  · refine Ev.congr (f := fun k => (impl_times.f k (n : Int) l).bind fun bt => some bt.2) (fun k => ?_) ?_
    · unfold impl_isTwice.f
      rw [if_neg (by omega), hw, within_eq]
      simp [show (1 : Int) ≤ n from by omega, show (n : Int) ≤ 8 from by omega]
    · refine Ev.bind (ev_times n (by omega) l hl) ?_
      rw [hd]
      have ht := tally_pile l n hn
      simp only [show l.length ≠ 0 from by omega, show l.length % 2 = 0 from by omega, show l.length ≤ 16 from by omega, ne_eq, not_false_eq_true, decide_true, Bool.true_and]
      rw [← ht]
      cases tally n (List.replicate n 0) l <;> exact Ev.now _
  · refine Ev.congr (f := fun k => some false) (fun k => ?_) ?_
    · unfold impl_isTwice.f
      rw [if_neg (by omega), hw, within_eq]
      by_cases h3 : 1 ≤ n
      · simp [show (1 : Int) ≤ n from by omega, show ¬ (n : Int) ≤ 8 from by omega]
      · simp [show ¬ (1 : Int) ≤ n from by omega]
    · by_cases h3 : l.length = 0
      · simpa [h3] using Ev.now false
      · simpa [show ¬ l.length ≤ 16 from by omega] using Ev.now false

theorem ev_toIntS (l : List Int) (hl : l.length ≤ 1048576) : Ev (fun k => laws_toIntS.f k l) l := by
  have h : ∀ i, i ≤ l.length → ∀ o : List Int, o.length = l.length → (∀ j, j < i → o.getD j 0 = l.getD j 0) → Ev (fun k => laws_toIntS.l0 k l o (i : Int)) l := by
    refine downTo l.length ?_ ?_
    · intro o ho hj
      have e : o = l := List.ext_getElem ho fun j h1 h2 => by
        have := hj j h2
        rwa [List.getD_eq_getElem?_getD, List.getD_eq_getElem?_getD, List.getElem?_eq_getElem h1, List.getElem?_eq_getElem h2] at this
      refine Ev.step (f := fun _ => some o) (fun k => ?_) (by rw [e]; exact Ev.now _)
      simp only [laws_toIntS.l0]
      rw [if_neg (by omega)]
    · intro i hi ih o ho hj
      refine Ev.step (f := fun k => laws_toIntS.l0 k l (o.set i (rd l (i : Int))) ((i + 1 : Nat) : Int)) (fun k => ?_) (ih _ (by rw [List.length_set]; exact ho) ?_)
      · simp only [laws_toIntS.l0]
        rw [if_pos (by omega), if_pos (by omega), if_pos (by omega), wrap_succ i (by omega), Int.toNat_natCast]
      · intro j hji
        rw [List.getD_eq_getElem?_getD, List.getElem?_set]
        by_cases e : i = j
        · subst e
          rw [if_pos rfl, if_pos (by omega), rd_nat]; rfl
        · rw [if_neg e, ← List.getD_eq_getElem?_getD]
          exact hj j (by omega)
  refine Ev.congr (f := fun k => laws_toIntS.l0 k l (List.replicate l.length 0) 0) (fun k => ?_) (h 0 (by omega) _ (by simp) (fun j hj => by omega))
  unfold laws_toIntS.f
  rw [if_pos (by omega), if_pos (by omega), Int.toNat_natCast]

theorem ev_eqIntS (l : List Int) (hl : l.length ≤ 1048576) : Ev (fun k => laws_eqIntS.f k l l) true := by
  have h : ∀ i, i ≤ l.length → Ev (fun k => laws_eqIntS.l0 k l l (i : Int)) true := by
    refine downTo l.length ?_ ?_
    · refine Ev.step (f := fun _ => some true) (fun k => ?_) (Ev.now _)
      simp only [laws_eqIntS.l0]
      rw [if_neg (by omega)]
    · intro i hi ih
      refine Ev.step (f := fun k => laws_eqIntS.l0 k l l ((i + 1 : Nat) : Int)) (fun k => ?_) ih
      simp only [laws_eqIntS.l0]
      rw [if_pos (by omega), if_pos (by omega), if_pos (by omega), if_pos trivial, wrap_succ i (by omega)]
  refine Ev.congr (f := fun k => laws_eqIntS.l0 k l l 0) (fun k => ?_) (h 0 (by omega))
  unfold laws_eqIntS.f
  rw [if_pos rfl]

theorem take_snoc (l : List Int) (i : Nat) (h : i < l.length) : l.take (i + 1) = l.take i ++ [rd l (i : Int)] := by
  rw [rd_get l i h, List.take_succ_eq_append_getElem h]

theorem ev_l1Has (l : List Int) (x : Int) (hl : l.length < 9223372036854775807) : Ev (fun k => spec_l1Has.f k l x) (decide (x ∈ l)) := by
  have h : ∀ i, i ≤ l.length → Ev (fun k => spec_l1Has.l0 k x l (l.length : Int) (i : Int)) (decide (x ∈ l.drop i)) := by
    refine downTo l.length ?_ ?_
    · refine Ev.step (f := fun _ => some false) (fun k => ?_) (by rw [List.drop_length]; simpa using Ev.now false)
      simp only [spec_l1Has.l0]
      rw [if_neg (by omega)]
    · intro i hil ih
      rw [drop_cons l i hil]
      by_cases hx : rd l (i : Int) = x
      · refine Ev.step (f := fun _ => some true) (fun k => ?_) (by rw [decide_eq_true (List.mem_cons.2 (.inl hx.symm))]; exact Ev.now _)
        simp only [spec_l1Has.l0]
        rw [if_pos (by omega), if_pos (by omega), if_pos (by omega), if_pos hx]
      · have e : decide (x ∈ rd l (i : Int) :: l.drop (i + 1)) = decide (x ∈ l.drop (i + 1)) := by
          simp [List.mem_cons, show ¬ x = rd l (i : Int) from fun e => hx e.symm]
        rw [e]
        refine Ev.step (f := fun k => spec_l1Has.l0 k x l (l.length : Int) ((i + 1 : Nat) : Int)) (fun k => ?_) ih
        simp only [spec_l1Has.l0]
        rw [if_pos (by omega), if_pos (by omega), if_pos (by omega), if_neg hx, wrap_succ i (by omega)]
  exact h 0 (by omega)

/-- One bit of a small number, as the program asks it; and one bit laid. -/
theorem bit_table : ((List.range 256).all fun s => (List.range 8).all fun k => (decide (Go.bits .and .i64 (shr .i64 (s : Int) (k : Int)) 1 = 1) == Nat.testBit s k) && decide (Go.bits .or .i64 (s : Int) (shl .i64 1 (k : Int)) = ((s ||| 2 ^ k : Nat) : Int)) && decide (s ||| 2 ^ k < 256)) = true := by decide +kernel
theorem bit_at (s k : Nat) (hs : s < 256) (hk : k < 8) : (Go.bits .and .i64 (shr .i64 (s : Int) (k : Int)) 1 = 1 ↔ Nat.testBit s k = true) ∧ Go.bits .or .i64 (s : Int) (shl .i64 1 (k : Int)) = ((s ||| 2 ^ k : Nat) : Int) ∧ s ||| 2 ^ k < 256 := by
  have t := bit_table
  rw [List.all_eq_true] at t
  have t1 := t s (List.mem_range.2 hs)
  rw [List.all_eq_true] at t1
  have t2 := t1 k (List.mem_range.2 hk)
  simp only [Bool.and_eq_true, beq_iff_eq, decide_eq_true_eq] at t2
  refine ⟨?_, t2.1.2, t2.2⟩
  rw [← t2.1.1, decide_eq_true_eq]

theorem rd_last (xs : List Int) (n : Int) (i : Nat) (h : xs.length = i) : rd (xs ++ [n]) (i : Int) = n := by
  rw [rd_get _ i (by simp [h]), List.getElem_append_right (by omega)]
  simp
theorem ev_heldIntS (l : List Int) (hl : l.length ≤ 1048576) (hm : ∀ j, j < l.length → l.getD j 0 = (j : Int) + 1) : Ev (fun k => laws_heldIntS.f k l 1) ((l.length : Int) + 1) := by
  have h : ∀ i, i ≤ l.length → Ev (fun k => laws_heldIntS.l0 k l ((i : Int) + 1) (i : Int)) ((l.length : Int) + 1) := by
    refine downTo l.length ?_ ?_
    · refine Ev.step (f := fun _ => some ((l.length : Int) + 1)) (fun k => ?_) (Ev.now _)
      simp only [laws_heldIntS.l0]
      rw [if_neg (by omega)]
    · intro i hil ih
      refine Ev.step (f := fun k => laws_heldIntS.l0 k l (((i + 1 : Nat) : Int) + 1) ((i + 1 : Nat) : Int)) (fun k => ?_) ih
      simp only [laws_heldIntS.l0]
      rw [if_pos (by omega), if_pos (by omega), if_pos (by rw [rd_nat]; exact hm i hil), wrap_succ i (by omega), show wrap64 ((i : Int) + 1 + 1) = ((i + 1 : Nat) : Int) + 1 from by unfold wrap64; omega]
  exact h 0 (by omega)

-- NEED: sum_zero sum_counts rd_set tally ev_times tally_some tally_inv rd_zeros counts_two okPile tally_pile ev_isTwice
/-! ### sizes -/
def okSizes (l : List Int) : Bool := decide (1 ≤ l.length) && decide (l.length ≤ 7) && l.all fun x => decide (1 ≤ x) && decide (x ≤ 60)
theorem okSizes_is (l : List Int) (h : okSizes l = true) : 1 ≤ l.length ∧ l.length ≤ 7 ∧ ∀ x ∈ l, 1 ≤ x ∧ x ≤ 60 := by
  unfold okSizes at h
  simp only [Bool.and_eq_true, decide_eq_true_eq, List.all_eq_true] at h
  exact ⟨h.1.1, h.1.2, h.2⟩
theorem ev_shGood (l : List Int) (hl : l.length ≤ 1048576) : Ev (fun k => spec_shGood.f k l) (okSizes l) := by
  have e1 : (decide ((1 : Int) ≤ (l.length : Int)) && decide ((l.length : Int) ≤ 7)) = (decide (1 ≤ l.length) && decide (l.length ≤ 7)) := by
    congr 1 <;> (rw [decide_eq_decide]; omega)
  refine Ev.congr (f := fun k => if (decide (1 ≤ l.length) && decide (l.length ≤ 7)) = true then (spec_l1All.f k l 1 60).bind fun t => some t else some false) (fun k => ?_) ?_
  · unfold spec_shGood.f
    rw [ev_l1In, e1]
    rfl
  · unfold okSizes
    by_cases h : (decide (1 ≤ l.length) && decide (l.length ≤ 7)) = true
    · rw [h, Bool.true_and]
      simp only [if_true]
      exact Ev.bind (ev_l1All l 1 60 (by omega)) (Ev.now _)
    · rw [Bool.eq_false_iff.mpr h, Bool.false_and]
      simp only [Bool.false_eq_true, if_false]
      exact Ev.now _
theorem areSizes_eq (l : List Int) (hl : l.length ≤ 1048576) : impl_AreSizes.f l = some (okSizes l) := by
  have e1 : (decide ((1 : Int) ≤ (l.length : Int)) && decide ((l.length : Int) ≤ 7)) = (decide (1 ≤ l.length) && decide (l.length ≤ 7)) := by
    congr 1 <;> (rw [decide_eq_decide]; omega)
  unfold impl_AreSizes.f okSizes impl_areWithin.f
  rw [within_eq, e1, if_pos hl]
  by_cases h : (decide (1 ≤ l.length) && decide (l.length ≤ 7)) = true
  · rw [h]; simp
  · rw [Bool.eq_false_iff.mpr h]; simp
def okBoth (l r : List Int) : Bool := okSizes l && okSizes r && decide (l.length = r.length)
theorem lenEq (l r : List Int) : ((l.length : Int) == (r.length : Int)) = decide (l.length = r.length) := by
  rw [Bool.eq_iff_iff, beq_iff_eq, decide_eq_true_eq]
  omega
theorem ev_shBoth (l r : List Int) (hl : l.length ≤ 1048576) (hr : r.length ≤ 1048576) : Ev (fun k => spec_shBoth.f k l r) (okBoth l r) := by
  refine Ev.congr (f := fun k => (spec_shGood.f k l).bind fun t105 => (if t105 = true then ((spec_shGood.f k r).bind fun t106 => (if t106 = true then (some ((l.length : Int) == (r.length : Int))) else (some false))) else (some false))) (fun k => rfl) (Ev.bind (ev_shGood l hl) ?_)
  unfold okBoth
  cases h1 : okSizes l
  · simp only [Bool.false_eq_true, if_false, Bool.false_and]; exact Ev.now _
  · simp only [if_true, Bool.true_and]
    refine Ev.bind (ev_shGood r hr) ?_
    cases h2 : okSizes r
    · simp only [Bool.false_eq_true, if_false, Bool.false_and]; exact Ev.now _
    · simp only [if_true, Bool.true_and, lenEq]; exact Ev.now _
theorem areTwo_eq (l r : List Int) (hl : l.length ≤ 1048576) (hr : r.length ≤ 1048576) : impl_areTwo.f l r = some (okBoth l r) := by
  unfold impl_areTwo.f okBoth
  rw [areSizes_eq l hl, areSizes_eq r hr, lenEq]
  cases okSizes l <;> cases okSizes r <;> rfl

/-! ### orders -/
def okPerm (n : Nat) (p : List Int) : Bool := decide (p.length = n) && p.all (fun x => decide (0 ≤ x) && decide (x ≤ (n : Int) - 1)) && decide p.Nodup
/-- What the reference asks, one after another. -/
def chk (n : Nat) : List Int → List Int → Bool
  | _, [] => true
  | s, x :: xs => decide (0 ≤ x) && decide (x ≤ (n : Int) - 1) && !decide (x ∈ s) && chk n (s ++ [x]) xs
theorem chk_iff (n : Nat) : ∀ xs s, chk n s xs = true ↔ (∀ x ∈ xs, 0 ≤ x ∧ x ≤ (n : Int) - 1) ∧ xs.Nodup ∧ ∀ x ∈ xs, ¬ x ∈ s := by
  intro xs
  induction xs with
  | nil => intro s; simp [chk]
  | cons x xs ih =>
    intro s
    simp only [chk, Bool.and_eq_true, decide_eq_true_eq, Bool.not_eq_true', decide_eq_false_iff_not, ih, List.mem_cons, List.nodup_cons, List.mem_append]
    constructor
    · rintro ⟨⟨⟨h1, h2⟩, h3⟩, h4, h5, h6⟩
      refine ⟨fun y hy => ?_, ⟨fun hx => ?_, h5⟩, fun y hy => ?_⟩
      · rcases hy with rfl | hy
        · exact ⟨h1, h2⟩
        · exact h4 y hy
      · exact h6 x hx (.inr (.inl rfl))
      · rcases hy with rfl | hy
        · exact h3
        · exact fun hs => h6 y hy (.inl hs)
    · rintro ⟨h1, ⟨h2, h3⟩, h4⟩
      refine ⟨⟨h1 x (.inl rfl), h4 x (.inl rfl)⟩, fun y hy => h1 y (.inr hy), h3, fun y hy => ?_⟩
      rintro (hs | hs | hs)
      · exact h4 y (.inr hy) hs
      · subst hs; exact h2 hy
      · cases hs
theorem okPerm_chk (n : Nat) (p : List Int) (hn : p.length = n) : okPerm n p = chk n [] p := by
  unfold okPerm
  rw [Bool.eq_iff_iff, chk_iff]
  simp [hn]

def okPairing (l r p : List Int) : Bool := okBoth l r && okPerm l.length p
theorem ev_shPairing (l r p : List Int) (hl : l.length ≤ 1048576) (hr : r.length ≤ 1048576) (hp : p.length ≤ 1048576) : Ev (fun k => spec_shPairing.f k l r p) (okPairing l r p) := by
  refine Ev.congr (f := fun k => (spec_shBoth.f k l r).bind fun t108 => (if t108 = true then (spec_shPairing.j0 k r p ((p.length : Int) != (l.length : Int))) else (spec_shPairing.j0 k r p true))) (fun k => rfl) (Ev.bind (ev_shBoth l r hl hr) ?_)
  unfold okPairing
  have hno : Ev (fun k => spec_shPairing.j0 k r p true) false := by
    refine Ev.step (f := fun _ => some false) (fun k => ?_) (Ev.now _)
    simp only [spec_shPairing.j0, if_true]
  cases h1 : okBoth l r
  · simp only [Bool.false_eq_true, if_false, Bool.false_and]; exact hno
  · simp only [if_true, Bool.true_and]
    have hlr : l.length = r.length := by unfold okBoth at h1; simp only [Bool.and_eq_true, decide_eq_true_eq] at h1; exact h1.2
    by_cases hn : p.length = l.length
    · rw [show ((p.length : Int) != (l.length : Int)) = false from by rw [hn]; simp, okPerm_chk _ _ hn]
      have h : ∀ i, i ≤ p.length → Ev (fun k => spec_shPairing.l0 k r p p (p.length : Int) (i : Int)) (chk l.length (p.take i) (p.drop i)) := by
        refine downTo p.length ?_ ?_
        · rw [List.drop_length]
          refine Ev.step (f := fun _ => some true) (fun k => ?_) (Ev.now _)
          simp only [spec_shPairing.l0]
          rw [if_neg (by omega)]
        · intro i hil ih
          rw [drop_cons p i hil, chk]
          refine Ev.step (f := fun k => if (decide (0 ≤ rd p (i : Int)) && decide (rd p (i : Int) ≤ (l.length : Int) - 1)) = true then (spec_l1Has.f k (p.take i) (rd p (i : Int))).bind fun t => (if t = true then some false else spec_shPairing.l0 k r p p (p.length : Int) ((i + 1 : Nat) : Int)) else some false) (fun k => ?_) ?_
          · simp only [spec_shPairing.l0, Int.toNat_natCast]
            rw [if_pos (by omega), if_pos (by omega), if_pos (by omega), ev_l1In, show wrap64 ((r.length : Int) - 1) = (l.length : Int) - 1 from by unfold wrap64; omega, if_pos (show (i : Int) ≤ (p.length : Int) by omega), wrap_succ i (by omega)]
            rfl
          · by_cases hq : (decide (0 ≤ rd p (i : Int)) && decide (rd p (i : Int) ≤ (l.length : Int) - 1)) = true
            · rw [hq]
              simp only [if_true, Bool.true_and]
              refine Ev.bind (ev_l1Has _ _ (by rw [List.length_take]; omega)) ?_
              by_cases hm : rd p (i : Int) ∈ p.take i
              · simp only [hm, decide_true, if_true, Bool.not_true, Bool.false_and]; exact Ev.now _
              · simp only [hm, decide_false, Bool.false_eq_true, if_false, Bool.not_false, Bool.true_and]
                rw [← take_snoc p i hil]
                exact ih
            · rw [Bool.eq_false_iff.mpr hq]
              simp only [Bool.false_eq_true, if_false, Bool.false_and]
              exact Ev.now _
      refine Ev.step (f := fun k => spec_shPairing.l0 k r p p (p.length : Int) ((0 : Nat) : Int)) (fun k => ?_) (h 0 (by omega))
      simp only [spec_shPairing.j0, Bool.false_eq_true, if_false]
      rfl
    · rw [show ((p.length : Int) != (l.length : Int)) = true from by simp; omega, show okPerm l.length p = false from by unfold okPerm; simp [hn]]
      exact hno

theorem one_table : ((List.range 8).all fun n => decide (wrap64 ((shl .i64 1 (n : Int)) - 1) = ((2 ^ n - 1 : Nat) : Int))) = true := by decide +kernel
theorem counts_one (n : Nat) (f : Nat → Nat) (hle : ∀ v, v < n → 1 ≤ f v) (hs : ((List.range n).map f).sum = n) : ∀ v, v < n → f v = 1 := by
  have hup : ∀ m, m ≤ n → m ≤ ((List.range m).map f).sum := by
    intro m
    induction m with
    | zero => intro _; exact Nat.le_refl _
    | succ m ih =>
      intro hm
      rw [List.range_succ, List.map_append, List.sum_append]
      have := ih (by omega); have := hle m (by omega)
      simp only [List.map_cons, List.map_nil, List.sum_cons, List.sum_nil]
      omega
  have hdown : ∀ m, m ≤ n → ((List.range m).map f).sum = m → ∀ v, v < m → f v = 1 := by
    intro m
    induction m with
    | zero => intro _ _ v hv; omega
    | succ m ih =>
      intro hm he v hv
      rw [List.range_succ, List.map_append, List.sum_append] at he
      simp only [List.map_cons, List.map_nil, List.sum_cons, List.sum_nil] at he
      have h1 := hup m (by omega); have h2 := hle m (by omega)
      by_cases hvm : v = m
      · subst hvm; omega
      · exact ih (by omega) (by omega) v (by omega)
  exact hdown n (Nat.le_refl _) hs
theorem counts_one' (n : Nat) (f : Nat → Nat) (hle : ∀ v, v < n → f v ≤ 1) (hs : ((List.range n).map f).sum = n) : ∀ v, v < n → f v = 1 := by
  have hup : ∀ m, m ≤ n → ((List.range m).map f).sum ≤ m := by
    intro m
    induction m with
    | zero => intro _; exact Nat.le_refl _
    | succ m ih =>
      intro hm
      rw [List.range_succ, List.map_append, List.sum_append]
      have := ih (by omega); have := hle m (by omega)
      simp only [List.map_cons, List.map_nil, List.sum_cons, List.sum_nil]
      omega
  have hdown : ∀ m, m ≤ n → ((List.range m).map f).sum = m → ∀ v, v < m → f v = 1 := by
    intro m
    induction m with
    | zero => intro _ _ v hv; omega
    | succ m ih =>
      intro hm he v hv
      rw [List.range_succ, List.map_append, List.sum_append] at he
      simp only [List.map_cons, List.map_nil, List.sum_cons, List.sum_nil] at he
      have h1 := hup m (by omega); have h2 := hle m (by omega)
      by_cases hvm : v = m
      · subst hvm; omega
      · exact ih (by omega) (by omega) v (by omega)
  exact hdown n (Nat.le_refl _) hs
/-- A list of n numbers of 0 to n - 1 holds each just where none stands twice. -/
theorem full_iff (n : Nat) (p : List Int) (hn : p.length = n) (hr : ∀ x ∈ p, 0 ≤ x ∧ x ≤ (n : Int) - 1) : (∀ v : Nat, v < n → (v : Int) ∈ p) ↔ p.Nodup := by
  have hs := sum_counts n p hr
  rw [hn] at hs
  constructor
  · intro h
    have h1 := counts_one n (fun v => p.count (v : Int)) (fun v hv => List.count_pos_iff.2 (h v hv)) hs
    rw [List.nodup_iff_count]
    intro a
    by_cases ha : a ∈ p
    · obtain ⟨h0, h2⟩ := hr a ha
      have e := h1 a.toNat (by omega)
      simp only [show ((a.toNat : Nat) : Int) = a from by omega] at e
      omega
    · rw [List.count_eq_zero.2 ha]; omega
  · intro h v hv
    have h1 := counts_one' n (fun v => p.count (v : Int)) (fun u _ => List.nodup_iff_count.1 h _) hs v hv
    exact List.count_pos_iff.1 (by omega)
theorem ev_isOrder (n : Nat) (p : List Int) (hn : n ≤ 7) (hp : p.length ≤ 1048576) : Ev (fun k => impl_isOrder.f k p (n : Int)) (okPerm n p) := by
  have h : ∀ i, i ≤ p.length → ∀ s : Nat, s < 256 → (∀ x ∈ p.take i, 0 ≤ x ∧ x ≤ (n : Int) - 1) → (∀ v, v < 8 → (Nat.testBit s v = true ↔ (v : Int) ∈ p.take i)) → Ev (fun k => impl_isOrder.l0 k p (n : Int) (s : Int) p (p.length : Int) (i : Int)) (okPerm n p) := by
    refine downTo p.length ?_ ?_
    · intro s hs hr hb
      rw [List.take_length] at hr hb
      have hall : p.all (fun x => decide (0 ≤ x) && decide (x ≤ (n : Int) - 1)) = true := by
        rw [List.all_eq_true]; intro x hx; have := hr x hx; simp [this]
      refine Ev.step (f := fun _ => some (okPerm n p)) (fun k => ?_) (Ev.now _)
      simp only [impl_isOrder.l0]
      rw [if_neg (by omega)]
      by_cases he : p.length = n
      · rw [if_pos (by omega), if_pos (by omega)]
        have t := one_table
        rw [List.all_eq_true] at t
        have t1 := of_decide_eq_true (t n (List.mem_range.2 (by omega)))
        rw [t1]
        unfold okPerm
        rw [hall, decide_eq_true he, Bool.true_and, Bool.true_and]
        congr 1
        rw [Bool.eq_iff_iff, beq_iff_eq, decide_eq_true_eq, ← full_iff n p he hr]
        constructor
        · intro e v hv
          have e' : s = 2 ^ n - 1 := by omega
          rw [← hb v (by omega), e', Nat.testBit_two_pow_sub_one, decide_eq_true hv]
        · intro hf
          have e' : s = 2 ^ n - 1 := by
            apply Nat.eq_of_testBit_eq
            intro i
            rw [Nat.testBit_two_pow_sub_one]
            by_cases hi8 : i < 8
            · rw [Bool.eq_iff_iff, hb i hi8, decide_eq_true_eq]
              constructor
              · intro hm; have := hr _ hm; omega
              · exact hf i
            · rw [Nat.testBit_lt_two_pow (Nat.lt_of_lt_of_le hs (by have := Nat.pow_le_pow_right (n := 2) (by decide) (show 8 ≤ i by omega); omega))]
              exact (decide_eq_false (by omega)).symm
          omega
      · rw [if_neg (by omega)]
        unfold okPerm
        rw [decide_eq_false he]
        rfl
    · intro i hil ih s hs hr hb
      have hx : rd p (i : Int) ∈ p := by rw [rd_get p i hil]; exact List.getElem_mem hil
      by_cases hq : (decide (0 ≤ rd p (i : Int)) && decide (rd p (i : Int) ≤ (n : Int) - 1)) = true
      · have hq' := hq
        simp only [Bool.and_eq_true, decide_eq_true_eq] at hq'
        obtain ⟨v, hv⟩ : ∃ v : Nat, rd p (i : Int) = (v : Int) := ⟨(rd p (i : Int)).toNat, by omega⟩
        obtain ⟨b1, b2, b3⟩ := bit_at s v hs (by omega)
        refine Ev.step (f := fun k => impl_isOrder.l0 k p (n : Int) ((s ||| 2 ^ v : Nat) : Int) p (p.length : Int) ((i + 1 : Nat) : Int)) (fun k => ?_) (ih _ b3 ?_ ?_)
        · simp only [impl_isOrder.l0]
          rw [if_pos (by omega), if_pos (by omega), if_pos (by omega), within_eq, show wrap64 ((n : Int) - 1) = (n : Int) - 1 from by unfold wrap64; omega, hq, Option.bind_some, if_pos rfl, if_pos (by omega), hv, b2, wrap_succ i (by omega)]
        · intro x hx'
          rw [take_snoc p i hil, List.mem_append, List.mem_singleton] at hx'
          rcases hx' with h | h
          · exact hr x h
          · rw [h]; omega
        · intro u hu
          rw [take_snoc p i hil, hv, Nat.testBit_or, Bool.or_eq_true, hb u hu, List.mem_append, List.mem_singleton, Nat.testBit_two_pow]
          simp only [decide_eq_true_eq]
          constructor
          · rintro (h | h)
            · exact .inl h
            · exact .inr (by omega)
          · rintro (h | h)
            · exact .inl h
            · exact .inr (by omega)
      · have hno : okPerm n p = false := by
          unfold okPerm
          rw [show p.all (fun x => decide (0 ≤ x) && decide (x ≤ (n : Int) - 1)) = false from by
            rw [List.all_eq_false]; exact ⟨_, hx, hq⟩]
          simp
        rw [hno]
        refine Ev.step (f := fun _ => some false) (fun k => ?_) (Ev.now _)
        simp only [impl_isOrder.l0]
        rw [if_pos (by omega), if_pos (by omega), if_pos (by omega), within_eq, show wrap64 ((n : Int) - 1) = (n : Int) - 1 from by unfold wrap64; omega, Bool.eq_false_iff.mpr hq, Option.bind_some, if_neg (by decide)]
  exact h 0 (by omega) 0 (by omega) (fun x hx => by simp at hx) (fun v _ => by simp)
theorem ev_isPairing (l r p : List Int) (hl : l.length ≤ 1048576) (hr : r.length ≤ 1048576) (hp : p.length ≤ 1048576) : Ev (fun k => impl_isPairing.f k l r p) (okPairing l r p) := by
  unfold okPairing
  refine Ev.congr (f := fun k => if okBoth l r = true then (impl_isOrder.f k p (l.length : Int)).bind fun t => some t else some false) (fun k => ?_) ?_
  · unfold impl_isPairing.f
    rw [areTwo_eq l r hl hr]
    rfl
  · cases h : okBoth l r
    · simp only [Bool.false_eq_true, if_false, Bool.false_and]; exact Ev.now _
    · simp only [if_true, Bool.true_and]
      refine Ev.bind (ev_isOrder l.length p ?_ hp) (Ev.now _)
      unfold okBoth at h
      simp only [Bool.and_eq_true] at h
      exact (okSizes_is l h.1.1).2.1

/-! ### how far apart -/
def gp (l r : List Int) : Nat → List Int → List Int
  | _, [] => []
  | i, x :: xs => mx (rd l (i : Int) - rd r x) (rd r x - rd l (i : Int)) :: gp l r (i + 1) xs
theorem gp_length (l r : List Int) : ∀ xs i, (gp l r i xs).length = xs.length := by
  intro xs
  induction xs with
  | nil => intro i; rfl
  | cons x xs ih => intro i; simp [gp, ih]
def Fine (l : List Int) : Prop := ∀ i : Int, 0 ≤ i → i < (l.length : Int) → 1 ≤ rd l i ∧ rd l i ≤ 60
theorem fine_of (l : List Int) (h : okSizes l = true) : Fine l := by
  intro i h0 h1
  obtain ⟨n, rfl⟩ : ∃ n : Nat, i = (n : Int) := ⟨i.toNat, by omega⟩
  rw [rd_get l n (by omega)]
  exact (okSizes_is l h).2.2 _ (List.getElem_mem _)
theorem apart_eq (a b : Int) (h1 : 1 ≤ a ∧ a ≤ 60) (h2 : 1 ≤ b ∧ b ≤ 60) : impl_apart.f a b = some (mx (a - b) (b - a)) := by
  unfold impl_apart.f
  rw [show wrap64 (a - b) = a - b from by unfold wrap64; omega, show wrap64 (b - a) = b - a from by unfold wrap64; omega]
theorem gp_bound (l r : List Int) (hl : Fine l) (hr : Fine r) : ∀ (xs : List Int) (i : Nat), i + xs.length ≤ l.length → (∀ x ∈ xs, 0 ≤ x ∧ x < (r.length : Int)) → ∀ g ∈ gp l r i xs, 0 ≤ g ∧ g ≤ 59 := by
  intro xs
  induction xs with
  | nil => intro i _ _ g hg; cases hg
  | cons x xs ih =>
    intro i hi hx g hg
    rw [gp, List.mem_cons] at hg
    rcases hg with rfl | hg
    · have h1 := hl (i : Int) (by omega) (by simp at hi; omega)
      have h2 := hr x (hx x (List.mem_cons_self ..)).1 (hx x (List.mem_cons_self ..)).2
      unfold mx; split <;> omega
    · exact ih (i + 1) (by simp at hi; omega) (fun y hy => hx y (List.mem_cons_of_mem _ hy)) g hg
theorem most_eq (a b : Int) : spec_l1Most.f a b = some (mx a b) := by
  unfold spec_l1Most.f mx
  by_cases h : a > b
  · rw [if_pos h, if_neg (by omega)]
  · rw [if_neg h]
    congr 1
    split <;> omega
theorem absMx (a b : Int) : spec_l1Abs.f (a - b) = some (mx (a - b) (b - a)) ∨ ¬ (1 ≤ a ∧ a ≤ 60 ∧ 1 ≤ b ∧ b ≤ 60) := by
  by_cases h : 1 ≤ a ∧ a ≤ 60 ∧ 1 ≤ b ∧ b ≤ 60
  · refine .inl ?_
    unfold spec_l1Abs.f
    rw [show wrap64 (-(a - b)) = b - a from by unfold wrap64; omega, most_eq]
    rfl
  · exact .inr h
theorem sum_nonneg (g : List Int) (h : ∀ x ∈ g, 0 ≤ x ∧ x ≤ 59) : 0 ≤ g.sum ∧ g.sum ≤ 59 * (g.length : Int) := by
  induction g with
  | nil => simp
  | cons x g ih =>
    have h1 := h x (List.mem_cons_self ..)
    have h2 := ih fun y hy => h y (List.mem_cons_of_mem _ hy)
    simp only [List.sum_cons, List.length_cons]
    push_cast
    omega
theorem ev_shApart (l r p : List Int) (hl : Fine l) (hr : Fine r) (hp7 : p.length ≤ 7) (hpl : p.length ≤ l.length) (hx : ∀ x ∈ p, 0 ≤ x ∧ x < (r.length : Int)) : Ev (fun k => spec_shApart.f k l r p) ((gp l r 0 p).sum, (gp l r 0 p).foldl mx 0) := by
  have h : ∀ i, i ≤ p.length → ∀ s m : Int, 0 ≤ s → s ≤ 59 * (i : Int) → Ev (fun k => spec_shApart.l0 k l r s m p (p.length : Int) (i : Int)) (s + (gp l r i (p.drop i)).sum, (gp l r i (p.drop i)).foldl mx m) := by
    refine downTo p.length ?_ ?_
    · intro s m _ _
      rw [List.drop_length, gp]
      refine Ev.step (f := fun _ => some (s, m)) (fun k => ?_) (by simpa using Ev.now (s, m))
      simp only [spec_shApart.l0]
      rw [if_neg (by omega)]
    · intro i hil ih s m h0 h1
      have hx1 := hx (rd p (i : Int)) (by rw [rd_get p i hil]; exact List.getElem_mem hil)
      have hb1 := hl (i : Int) (by omega) (by omega)
      have hb2 := hr (rd p (i : Int)) hx1.1 hx1.2
      rw [drop_cons p i hil, gp]
      obtain ⟨a, ha⟩ : ∃ a, rd l (i : Int) = a := ⟨_, rfl⟩
      obtain ⟨b, hb⟩ : ∃ b, rd r (rd p (i : Int)) = b := ⟨_, rfl⟩
      rw [ha] at hb1
      rw [hb] at hb2
      have habs := (absMx a b).resolve_right (fun hn => hn ⟨hb1.1, hb1.2, hb2.1, hb2.2⟩)
      have hg : 0 ≤ mx (a - b) (b - a) ∧ mx (a - b) (b - a) ≤ 59 := by unfold mx; split <;> omega
      rw [ha, hb]
      generalize hgd : mx (a - b) (b - a) = g at habs hg
      have e := ih (s + g) (mx m g) (by omega) (by push_cast; omega)
      rw [List.sum_cons, List.foldl_cons, ← Int.add_assoc]
      refine Ev.step (f := fun k => spec_shApart.l0 k l r (s + g) (mx m g) p (p.length : Int) ((i + 1 : Nat) : Int)) (fun k => ?_) e
      simp only [spec_shApart.l0]
      rw [if_pos (by omega), if_pos (by omega), if_pos (by omega), if_pos (by omega), if_pos hx1.1, if_pos hx1.2, ha, hb, show wrap64 (a - b) = a - b from by unfold wrap64; omega, habs, Option.bind_some, most_eq, Option.bind_some, wrap_succ i (by omega), show wrap64 (s + g) = s + g from by unfold wrap64; omega]
  have e := h 0 (by omega) 0 0 (by omega) (by omega)
  rw [Int.zero_add] at e
  exact e
theorem ev_gaps (l r p : List Int) (hl : Fine l) (hr : Fine r) (hp7 : p.length ≤ 7) (hpl : p.length ≤ l.length) (hx : ∀ x ∈ p, 0 ≤ x ∧ x < (r.length : Int)) : Ev (fun k => impl_gaps.f k l r p) (gp l r 0 p) := by
  have h : ∀ i, i ≤ p.length → ∀ ys : List Int, ys.length = i → Ev (fun k => impl_gaps.l0 k l r ys p (p.length : Int) (i : Int)) (ys ++ gp l r i (p.drop i)) := by
    refine downTo p.length ?_ ?_
    · intro ys _
      rw [List.drop_length, gp, List.append_nil]
      refine Ev.step (f := fun _ => some ys) (fun k => ?_) (Ev.now _)
      simp only [impl_gaps.l0]
      rw [if_neg (by omega)]
    · intro i hil ih ys hy
      have hx1 := hx (rd p (i : Int)) (by rw [rd_get p i hil]; exact List.getElem_mem hil)
      have hb1 := hl (i : Int) (by omega) (by omega)
      have hb2 := hr (rd p (i : Int)) hx1.1 hx1.2
      rw [drop_cons p i hil, gp]
      obtain ⟨g, hg⟩ : ∃ g, mx (rd l (i : Int) - rd r (rd p (i : Int))) (rd r (rd p (i : Int)) - rd l (i : Int)) = g := ⟨_, rfl⟩
      have ha := apart_eq _ _ hb1 hb2
      rw [hg] at ha
      have e := ih (ys ++ [g]) (by simp [hy])
      rw [hg]
      rw [List.append_assoc, List.singleton_append] at e
      refine Ev.step (f := fun k => impl_gaps.l0 k l r (ys ++ [g]) p (p.length : Int) ((i + 1 : Nat) : Int)) (fun k => ?_) e
      simp only [impl_gaps.l0]
      rw [if_pos (by omega), if_pos (by omega), if_pos (by omega), if_pos (by omega), if_pos hx1.1, if_pos hx1.2, ha, Option.bind_some, if_pos (by omega), wrap_succ i (by omega)]
  exact h 0 (by omega) [] rfl
theorem ev_total (g : List Int) (hg : ∀ x ∈ g, 0 ≤ x ∧ x ≤ 59) (h7 : g.length ≤ 1048576) : Ev (fun k => impl_total.f k g) g.sum := by
  have h : ∀ i, i ≤ g.length → ∀ s : Int, 0 ≤ s → s ≤ 59 * (i : Int) → Ev (fun k => impl_total.l0 k s g (g.length : Int) (i : Int)) (s + (g.drop i).sum) := by
    refine downTo g.length ?_ ?_
    · intro s _ _
      rw [List.drop_length]
      refine Ev.step (f := fun _ => some s) (fun k => ?_) (by simpa using Ev.now s)
      simp only [impl_total.l0]
      rw [if_neg (by omega)]
    · intro i hil ih s h0 h1
      have hx := hg (rd g (i : Int)) (by rw [rd_get g i hil]; exact List.getElem_mem hil)
      rw [drop_cons g i hil, List.sum_cons, ← Int.add_assoc]
      refine Ev.step (f := fun k => impl_total.l0 k (s + rd g (i : Int)) g (g.length : Int) ((i + 1 : Nat) : Int)) (fun k => ?_) (ih _ (by omega) (by push_cast; omega))
      simp only [impl_total.l0]
      rw [if_pos (by omega), if_pos (by omega), if_pos (by omega), wrap_succ i (by omega), show wrap64 (s + rd g (i : Int)) = s + rd g (i : Int) from by unfold wrap64; omega]
  have e := h 0 (by omega) 0 (by omega) (by omega)
  rw [Int.zero_add] at e
  exact e
theorem okPairing_is (l r p : List Int) (h : okPairing l r p = true) : Fine l ∧ Fine r ∧ p.length = l.length ∧ l.length = r.length ∧ 1 ≤ p.length ∧ p.length ≤ 7 ∧ (∀ x ∈ p, 0 ≤ x ∧ x < (r.length : Int)) := by
  unfold okPairing okBoth okPerm at h
  simp only [Bool.and_eq_true, decide_eq_true_eq, List.all_eq_true] at h
  obtain ⟨⟨⟨h1, h2⟩, h3⟩, ⟨h4, h5⟩, h6⟩ := h
  obtain ⟨a1, a2, _⟩ := okSizes_is l h1
  exact ⟨fine_of l h1, fine_of r h2, h4, h3, by omega, by omega, fun x hx => by have := h5 x hx; omega⟩

end Go.Proofs.Ytagfnpocloaojaa.PureBase
