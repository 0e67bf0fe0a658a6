/- Plain laws of the functions on piles that several statements of this seat share: what the Lean functions of IsPile, the reference's piGood, the copies that the laws make, the shapes and the heights come to. No program and no memory stands in it. Conditions: the lengths are at most 1048576. -/
import Derived.Test.YtlhennggbnlkpaaQPilex
import Derived.Test.YtlhennggbnlkpaaXHeights
namespace Go.Proofs.Ytlhennggbnlkpaa.PurePile
open Go.RowKit Go.Proofs.Ytlhennggbnlkpaa.QPile Go.Proofs.YtlhennggbnlkpaaW.PrintWords Go.Proofs.YtlhennggbnlkpaaW.PrintLast Go.Proofs.YtlhennggbnlkpaaW.PrintMore
open Go.Proofs.Ytlhennggbnlkpaa.XHeights (hts)

/-! ### plain lists -/
theorem downTo {P : Nat → Prop} (n : Nat) (h0 : P n) (hs : ∀ i, i < n → P (i + 1) → P i) : ∀ i, i ≤ n → P i := by
  intro i hi
  obtain ⟨d, rfl⟩ : ∃ d, n = i + d := ⟨n - i, by omega⟩
  induction d generalizing i with
  | zero => exact h0
  | succ d ih => exact hs i (by omega) (ih (i + 1) (by rw [show i + 1 + d = i + (d + 1) from by omega]; exact h0) (by rw [show i + 1 + d = i + (d + 1) from by omega]; exact hs) (by omega))
theorem rd_nat (l : List Int) (i : Nat) : rd l (i : Int) = l.getD i 0 := by unfold rd; rw [Int.toNat_natCast]
theorem rd_get (l : List Int) (i : Nat) (h : i < l.length) : rd l (i : Int) = l[i] := by rw [rd_nat, List.getD_eq_getElem?_getD, List.getElem?_eq_getElem h]; rfl
theorem drop_cons (l : List Int) (i : Nat) (h : i < l.length) : l.drop i = rd l (i : Int) :: l.drop (i + 1) := by rw [rd_get l i h]; exact List.drop_eq_getElem_cons h
theorem wrap_succ (i : Nat) (h : i < 9223372036854775807) : wrap64 ((i : Int) + 1) = ((i + 1 : Nat) : Int) := by unfold wrap64; omega

/-- A pile, in plain words. -/
def okPile (l : List Int) : Bool := decide (l.length ≠ 0) && decide (l.length % 2 = 0) && decide (l.length ≤ 16) && l.all (fun x => decide (0 ≤ x) && decide (x ≤ ((l.length / 2 : Nat) : Int) - 1)) && l.all (fun x => l.count x == 2)

/-! ### the reference -/
theorem ev_l1In (x lo hi : Int) : spec_l1In.f x lo hi = some (decide (lo ≤ x) && decide (x ≤ hi)) := by
  unfold spec_l1In.f
  by_cases h : lo ≤ x <;> simp [h]

theorem ev_l1All (l : List Int) (lo hi : Int) (hl : l.length < 9223372036854775807) : Ev (fun k => spec_l1All.f k l lo hi) (l.all fun x => decide (lo ≤ x) && decide (x ≤ hi)) := by
  unfold spec_l1All.f
  have h : ∀ i, i ≤ l.length → Ev (fun k => spec_l1All.l0 k lo hi l (l.length : Int) (i : Int)) ((l.drop i).all fun x => decide (lo ≤ x) && decide (x ≤ hi)) := by
    refine downTo l.length ?_ ?_
    · refine Ev.step (f := fun _ => some true) (fun k => ?_) (by rw [List.drop_length]; exact Ev.now _)
      simp only [spec_l1All.l0]
      rw [if_neg (by omega)]
    · intro i hil ih
      rw [drop_cons l i hil, List.all_cons]
      by_cases hx : (decide (lo ≤ rd l i) && decide (rd l i ≤ hi)) = true
      · rw [hx, Bool.true_and]
        refine Ev.step (f := fun k => spec_l1All.l0 k lo hi l (l.length : Int) ((i + 1 : Nat) : Int)) (fun k => ?_) ih
        simp only [spec_l1All.l0]
        rw [if_pos (by omega), if_pos (by omega), if_pos (by omega), ev_l1In, hx, wrap_succ i (by omega)]
        simp only [Option.bind_some, if_true]
      · rw [Bool.not_eq_true] at hx
        rw [hx, Bool.false_and]
        refine Ev.step (f := fun k => some false) (fun k => ?_) (Ev.now _)
        simp only [spec_l1All.l0]
        rw [if_pos (by omega), if_pos (by omega), if_pos (by omega), ev_l1In, hx]
        simp
  exact h 0 (by omega)

theorem ev_pgInner (l : List Int) (hl : l.length < 1000) (x : Int) (i : Nat) (_hi : i < l.length) (r : Bool)
    (hnext : l.count x = 2 → Ev (fun k => spec_piGood.l0 k l l (l.length : Int) ((i + 1 : Nat) : Int)) r) (hno : l.count x ≠ 2 → r = false) :
    Ev (fun k => spec_piGood.l1 k l x 0 l (l.length : Int) (i : Int) l (l.length : Int) 0) r := by
  have h : ∀ j, j ≤ l.length → ∀ c : Nat, c + (l.drop j).count x = l.count x → c ≤ j → Ev (fun k => spec_piGood.l1 k l x (c : Int) l (l.length : Int) (i : Int) l (l.length : Int) (j : Int)) r := by
    refine downTo l.length ?_ ?_
    · intro c hc hcj
      rw [List.drop_length, List.count_nil, Nat.add_zero] at hc
      by_cases h2 : l.count x = 2
      · refine Ev.step (f := fun k => spec_piGood.l0 k l l (l.length : Int) ((i + 1 : Nat) : Int)) (fun k => ?_) (hnext h2)
        simp only [spec_piGood.l1]
        rw [if_neg (by omega), if_pos (by omega), wrap_succ i (by omega)]
      · rw [hno h2]
        refine Ev.step (f := fun k => some false) (fun k => ?_) (Ev.now _)
        simp only [spec_piGood.l1]
        rw [if_neg (by omega), if_neg (by omega)]
    · intro j hj ih c hc hcj
      rw [drop_cons l j hj, List.count_cons] at hc
      by_cases hx : rd l (j : Int) = x
      · rw [hx] at hc
        simp only [BEq.rfl, if_true] at hc
        refine Ev.step (f := fun k => spec_piGood.l1 k l x ((c + 1 : Nat) : Int) l (l.length : Int) (i : Int) l (l.length : Int) ((j + 1 : Nat) : Int)) (fun k => ?_) (ih (c + 1) (by omega) (by omega))
        simp only [spec_piGood.l1]
        rw [if_pos (by omega), if_pos (by omega), if_pos (by omega), if_pos hx, wrap_succ j (by omega), wrap_succ c (by omega)]
      · rw [beq_false_of_ne hx] at hc
        simp only [Bool.false_eq_true, if_false, Nat.add_zero] at hc
        refine Ev.step (f := fun k => spec_piGood.l1 k l x (c : Int) l (l.length : Int) (i : Int) l (l.length : Int) ((j + 1 : Nat) : Int)) (fun k => ?_) (ih c (by omega) (by omega))
        simp only [spec_piGood.l1]
        rw [if_pos (by omega), if_pos (by omega), if_pos (by omega), if_neg hx, wrap_succ j (by omega)]
  exact h 0 (by omega) 0 (by simp) (by omega)

theorem ev_pgOuter (l : List Int) (hl : l.length < 1000) : Ev (fun k => spec_piGood.l0 k l l (l.length : Int) 0) (l.all fun x => l.count x == 2) := by
  have h : ∀ i, i ≤ l.length → Ev (fun k => spec_piGood.l0 k l l (l.length : Int) (i : Int)) ((l.drop i).all fun x => l.count x == 2) := by
    refine downTo l.length ?_ ?_
    · refine Ev.step (f := fun _ => some true) (fun k => ?_) (by rw [List.drop_length]; exact Ev.now _)
      simp only [spec_piGood.l0]
      rw [if_neg (by omega)]
    · intro i hi ih
      refine Ev.step (f := fun k => spec_piGood.l1 k l (rd l (i : Int)) 0 l (l.length : Int) (i : Int) l (l.length : Int) 0) (fun k => ?_) (ev_pgInner l hl _ i hi _ ?_ ?_)
      · simp only [spec_piGood.l0]
        rw [if_pos (by omega), if_pos (by omega), if_pos (by omega)]
      · intro h2
        rw [drop_cons l i hi, List.all_cons, h2]
        exact ih
      · intro h2
        rw [drop_cons l i hi, List.all_cons, beq_false_of_ne h2, Bool.false_and]
  exact h 0 (by omega)

theorem ev_piGood (l : List Int) (hl : l.length ≤ 1048576) : Ev (fun k => spec_piGood.f k l) (okPile l) := by
  have hbad : ∀ b : Bool, b = true → Ev (fun k => spec_piGood.j0 k l b) false := by
    rintro b rfl
    refine Ev.step (f := fun k => some false) (fun k => ?_) (Ev.now _)
    simp only [spec_piGood.j0, if_true]
  unfold okPile
  by_cases h0 : l.length = 0
  · refine Ev.congr (f := fun k => spec_piGood.j0 k l true) (fun k => ?_) (by simpa [h0] using hbad true rfl)
    unfold spec_piGood.f
    rw [if_pos (by omega)]
  by_cases h1 : l.length % 2 = 1
  · refine Ev.congr (f := fun k => spec_piGood.j0 k l true) (fun k => ?_) (by simpa [h0, h1] using hbad true rfl)
    unfold spec_piGood.f
    rw [if_neg (by omega), if_pos (by omega)]
  by_cases h2 : l.length ≤ 16
  · refine Ev.congr (f := fun k => (spec_l1All.f k l 0 (((l.length / 2 : Nat) : Int) - 1)).bind fun t => spec_piGood.j0 k l (!t)) (fun k => ?_) ?_
    · unfold spec_piGood.f
      rw [if_neg (by omega), if_neg (by omega), if_neg (by omega), show wrap64 (wrap64 ((l.length : Int) / 2) - 1) = ((l.length / 2 : Nat) : Int) - 1 from by unfold wrap64; omega]
    · refine Ev.bind (ev_l1All l 0 _ (by omega)) ?_
      by_cases hall : (l.all fun x => decide (0 ≤ x) && decide (x ≤ ((l.length / 2 : Nat) : Int) - 1)) = true
      · rw [hall]
        simp only [h0, show l.length % 2 = 0 from by omega, h2, ne_eq, not_false_eq_true, decide_true, Bool.true_and, Bool.not_true]
        refine Ev.step (f := fun k => spec_piGood.l0 k l l (l.length : Int) 0) (fun k => ?_) (ev_pgOuter l (by omega))
        simp only [spec_piGood.j0, Bool.false_eq_true, if_false]
      · rw [Bool.not_eq_true] at hall
        rw [hall]
        simpa using hbad true rfl
  · refine Ev.congr (f := fun k => spec_piGood.j0 k l true) (fun k => ?_) (by simpa [h0, h1, h2] using hbad true rfl)
    unfold spec_piGood.f
    rw [if_neg (by omega), if_neg (by omega), if_pos (by omega)]

/-! ### the program -/
theorem within_eq (x lo hi : Int) : impl_within.f x lo hi = some (decide (lo ≤ x) && decide (x ≤ hi)) := by
  unfold impl_within.f
  by_cases h : lo ≤ x <;> simp [h]

/-- What counting does, element by element. -/
def tally (n : Nat) : List Int → List Int → Option (List Int)
  | o, [] => some o
  | o, x :: xs => if 0 ≤ x ∧ x ≤ (n : Int) - 1 then (if rd o x = 2 then none else tally n (o.set x.toNat (rd o x + 1)) xs) else none

theorem rd_set (o : List Int) (x y v : Int) (hx : 0 ≤ x) (hx' : x < o.length) (hy : 0 ≤ y) : rd (o.set x.toNat v) y = if x = y then v else rd o y := by
  unfold rd
  rw [List.getD_eq_getElem?_getD, List.getD_eq_getElem?_getD, List.getElem?_set]
  by_cases h : x = y
  · subst h
    rw [if_pos rfl, if_pos (by omega), if_pos rfl]; rfl
  · rw [if_neg (by omega), if_neg h]

theorem ev_times (n : Nat) (hn : n ≤ 1000) (l : List Int) (hl : l.length ≤ 1048576) :
    Ev (fun k => impl_times.f k (n : Int) l) (match tally n (List.replicate n 0) l with | some o => (o, true) | none => ([], false)) := by
  have h : ∀ i, i ≤ l.length → ∀ o : List Int, o.length = n → (∀ y : Int, 0 ≤ y → rd o y ≤ 2 ∧ 0 ≤ rd o y) →
      Ev (fun k => impl_times.l0 k (n : Int) o l (l.length : Int) (i : Int)) (match tally n o (l.drop i) with | some o => (o, true) | none => ([], false)) := by
    refine downTo l.length ?_ ?_
    · intro o _ _
      rw [List.drop_length]
      refine Ev.step (f := fun _ => some (o, true)) (fun k => ?_) (Ev.now _)
      simp only [impl_times.l0]
      rw [if_neg (by omega)]
    · intro i hi ih o ho hb
      rw [drop_cons l i hi, tally]
      have hw : wrap64 ((n : Int) - 1) = (n : Int) - 1 := by unfold wrap64; omega
      by_cases hx : 0 ≤ rd l i ∧ rd l i ≤ (n : Int) - 1
      · obtain ⟨hx0, hx1⟩ := hx
        rw [if_pos ⟨hx0, hx1⟩]
        have hb2 := hb (rd l i) hx0
        by_cases h2 : rd o (rd l i) = 2
        · rw [if_pos h2]
          refine Ev.step (f := fun _ => some (([] : List Int), false)) (fun k => ?_) (Ev.now _)
          simp only [impl_times.l0, within_eq, hw, hx0, hx1, decide_true, Bool.and_self, Option.bind_some, if_true]
          rw [if_pos (by omega), if_pos (by omega), if_pos (by omega), if_pos (by omega), if_pos h2]
        · rw [if_neg h2]
          refine Ev.step (f := fun k => impl_times.l0 k (n : Int) (o.set (rd l i).toNat (rd o (rd l i) + 1)) l (l.length : Int) ((i + 1 : Nat) : Int)) (fun k => ?_) (ih _ (by rw [List.length_set]; exact ho) ?_)
          · simp only [impl_times.l0, within_eq, hw, hx0, hx1, decide_true, Bool.and_self, Option.bind_some, if_true]
            rw [if_pos (by omega), if_pos (by omega), if_pos (by omega), if_pos (by omega), if_neg h2, wrap_succ i (by omega), show wrap64 (rd o (rd l i) + 1) = rd o (rd l i) + 1 from by unfold wrap64; omega]
          · intro y hy
            rw [rd_set o _ y _ hx0 (by omega) hy]
            split
            · omega
            · exact hb y hy
      · rw [if_neg hx]
        refine Ev.step (f := fun _ => some (([] : List Int), false)) (fun k => ?_) (Ev.now _)
        simp only [impl_times.l0, within_eq, hw, Option.bind_some]
        rw [if_pos (by omega), if_pos (by omega), if_pos (by omega), if_neg (by simpa using hx)]
  refine Ev.congr (f := fun k => impl_times.l0 k (n : Int) (List.replicate n 0) l (l.length : Int) 0) (fun k => ?_) (h 0 (by omega) _ (by simp) ?_)
  · unfold impl_times.f
    rw [if_pos (by omega), if_pos (by omega), Int.toNat_natCast]
  · intro y hy
    unfold rd
    rw [List.getD_eq_getElem?_getD, List.getElem?_replicate]
    split <;> simp

/-- Counting succeeds where all lie in range and none comes a third time; then it holds the counts. -/
theorem tally_some (n : Nat) : ∀ (l o : List Int), o.length = n → (∀ y : Int, 0 ≤ y → y < n → rd o y ≤ 2) →
    (∀ x ∈ l, 0 ≤ x ∧ x ≤ (n : Int) - 1) → (∀ y : Int, 0 ≤ y → y < n → rd o y + l.count y ≤ 2) →
    ∃ o', tally n o l = some o' ∧ o'.length = n ∧ ∀ y : Int, 0 ≤ y → y < n → rd o' y = rd o y + l.count y := by
  intro l
  induction l with
  | nil => intro o ho _ _ _; exact ⟨o, rfl, ho, fun y _ _ => by simp⟩
  | cons x xs ih =>
    intro o ho hb hr hc
    obtain ⟨hx0, hx1⟩ := hr x (List.mem_cons_self ..)
    have hcx := hc x hx0 (by omega)
    rw [List.count_cons_self] at hcx
    have hs : ∀ y : Int, 0 ≤ y → y < n → rd (o.set x.toNat (rd o x + 1)) y + xs.count y = rd o y + (x :: xs).count y := by
      intro y hy hyn
      rw [rd_set o x y _ hx0 (by omega) hy, List.count_cons]
      by_cases h : x = y
      · subst h; rw [if_pos rfl]; simp; omega
      · rw [if_neg h, beq_false_of_ne h]; simp
    obtain ⟨o', e, hl, hv⟩ := ih (o.set x.toNat (rd o x + 1)) (by rw [List.length_set]; exact ho)
      (fun y hy hyn => by have := hs y hy hyn; have := hc y hy hyn; omega)
      (fun z hz => hr z (List.mem_cons_of_mem _ hz)) (fun y hy hyn => by rw [hs y hy hyn]; exact hc y hy hyn)
    refine ⟨o', ?_, hl, fun y hy hyn => by rw [hv y hy hyn, hs y hy hyn]⟩
    rw [tally, if_pos ⟨hx0, hx1⟩, if_neg (by omega)]
    exact e

theorem tally_inv (n : Nat) : ∀ (l o o' : List Int), o.length = n → (∀ y : Int, 0 ≤ y → y < n → rd o y ≤ 2) → tally n o l = some o' →
    (∀ x ∈ l, 0 ≤ x ∧ x ≤ (n : Int) - 1) ∧ (∀ y : Int, 0 ≤ y → y < n → rd o y + l.count y ≤ 2) := by
  intro l
  induction l with
  | nil => intro o o' _ hb _; exact ⟨fun x hx => (by cases hx), fun y hy hyn => by simpa using hb y hy hyn⟩
  | cons x xs ih =>
    intro o o' ho hb h
    rw [tally] at h
    by_cases hx : 0 ≤ x ∧ x ≤ (n : Int) - 1
    · rw [if_pos hx] at h
      by_cases h2 : rd o x = 2
      · rw [if_pos h2] at h; cases h
      · rw [if_neg h2] at h
        have hbx := hb x hx.1 (by omega)
        have hs : ∀ y : Int, 0 ≤ y → y < n → rd (o.set x.toNat (rd o x + 1)) y + xs.count y = rd o y + (x :: xs).count y := by
          intro y hy hyn
          rw [rd_set o x y _ hx.1 (by omega) hy, List.count_cons]
          by_cases h : x = y
          · subst h; rw [if_pos rfl]; simp; omega
          · rw [if_neg h, beq_false_of_ne h]; simp
        obtain ⟨h3, h4⟩ := ih _ o' (by rw [List.length_set]; exact ho) (fun y hy hyn => by
          rw [rd_set o x y _ hx.1 (by omega) hy]
          split
          · omega
          · exact hb y hy hyn) h
        refine ⟨fun z hz => ?_, fun y hy hyn => by rw [← hs y hy hyn]; exact h4 y hy hyn⟩
        rcases List.mem_cons.1 hz with rfl | hz
        · exact hx
        · exact h3 z hz
    · rw [if_neg hx] at h; cases h

theorem rd_zeros (n : Nat) (y : Int) : rd (List.replicate n 0) y = 0 := by
  unfold rd
  rw [List.getD_eq_getElem?_getD, List.getElem?_replicate]
  split <;> rfl

/-- As many numbers as places, no more than two at each: two at each. -/
theorem sum_zero (n : Nat) : ((List.range n).map fun _ => 0).sum = 0 := by
  induction n with
  | zero => rfl
  | succ n ih => rw [List.range_succ, List.map_append, List.sum_append, ih]; rfl
theorem sum_counts (n : Nat) : ∀ l : List Int, (∀ x ∈ l, 0 ≤ x ∧ x ≤ (n : Int) - 1) → ((List.range n).map fun v : Nat => l.count (v : Int)).sum = l.length := by
  intro l
  induction l with
  | nil =>
    intro _
    simp only [List.count_nil]
    exact sum_zero n
  | cons x xs ih =>
    intro h
    obtain ⟨h0, h1⟩ := h x (List.mem_cons_self ..)
    have e := ih fun z hz => h z (List.mem_cons_of_mem _ hz)
    have key : ∀ m : Nat, ((List.range m).map fun v : Nat => (x :: xs).count (v : Int)).sum = ((List.range m).map fun v : Nat => xs.count (v : Int)).sum + if x < (m : Int) then 1 else 0 := by
      intro m
      induction m with
      | zero => rw [if_neg (by omega)]; rfl
      | succ m ihm =>
        rw [List.range_succ, List.map_append, List.map_append, List.sum_append, List.sum_append, ihm]
        simp only [List.map_cons, List.map_nil, List.sum_cons, List.sum_nil, List.count_cons]
        by_cases hm : x = (m : Int)
        · rw [hm, BEq.rfl, if_pos rfl, if_neg (by omega), if_pos (by omega)]
          omega
        · rw [beq_false_of_ne hm]
          by_cases hlt : x < (m : Int)
          · rw [if_pos hlt, if_pos (show x < ((m + 1 : Nat) : Int) by omega), if_neg (by simp)]
            omega
          · rw [if_neg hlt, if_neg (show ¬ x < ((m + 1 : Nat) : Int) by omega), if_neg (by simp)]
            omega
    rw [key, e, if_pos (by omega), List.length_cons]

theorem counts_two (n : Nat) (f : Nat → Nat) (hle : ∀ v, v < n → f v ≤ 2) (hs : ((List.range n).map f).sum = 2 * n) : ∀ v, v < n → f v = 2 := by
  have hup : ∀ m, m ≤ n → ((List.range m).map f).sum ≤ 2 * m := by
    intro m
    induction m with
    | zero => intro _; exact Nat.le_refl _
    | succ m ih =>
      intro hm
      rw [List.range_succ, List.map_append, List.sum_append]
      have := ih (by omega); have := hle m (by omega)
      simp only [List.map_cons, List.map_nil, List.sum_cons, List.sum_nil]
      omega
  have hdown : ∀ m, m ≤ n → ((List.range m).map f).sum = 2 * m → ∀ v, v < m → f v = 2 := by
    intro m
    induction m with
    | zero => intro _ _ v hv; omega
    | succ m ih =>
      intro hm he v hv
      rw [List.range_succ, List.map_append, List.sum_append] at he
      simp only [List.map_cons, List.map_nil, List.sum_cons, List.sum_nil] at he
      have h1 := hup m (by omega); have h2 := hle m (by omega)
      by_cases hvm : v = m
      · subst hvm; omega
      · exact ih (by omega) (by omega) v (by omega)
  exact hdown n (Nat.le_refl _) hs

theorem tally_pile (l : List Int) (n : Nat) (hn : l.length = 2 * n) : (tally n (List.replicate n 0) l).isSome = (l.all (fun x => decide (0 ≤ x) && decide (x ≤ (n : Int) - 1)) && l.all (fun x => l.count x == 2)) := by
  rw [Bool.eq_iff_iff]
  constructor
  · intro h
    obtain ⟨o', ho'⟩ := Option.isSome_iff_exists.1 h
    obtain ⟨h1, h2⟩ := tally_inv n l _ o' (by simp) (fun y _ _ => by rw [rd_zeros]; omega) ho'
    have h3 : ∀ v, v < n → l.count (v : Int) = 2 := counts_two n (fun v => l.count (v : Int)) (fun v hv => by
      have := h2 (v : Int) (by omega) (by omega)
      rw [rd_zeros] at this
      omega) (by rw [sum_counts n l h1, hn])
    rw [Bool.and_eq_true, List.all_eq_true, List.all_eq_true]
    refine ⟨fun x hx => by have := h1 x hx; simp [this], fun x hx => ?_⟩
    obtain ⟨h4, h5⟩ := h1 x hx
    have := h3 x.toNat (by omega)
    rw [show ((x.toNat : Nat) : Int) = x from by omega] at this
    rw [this]; rfl
  · intro h
    rw [Bool.and_eq_true, List.all_eq_true, List.all_eq_true] at h
    obtain ⟨h1, h2⟩ := h
    have h1' : ∀ x ∈ l, 0 ≤ x ∧ x ≤ (n : Int) - 1 := fun x hx => by have := h1 x hx; simpa using this
    obtain ⟨o', e, _⟩ := tally_some n l (List.replicate n 0) (by simp) (fun y _ _ => by rw [rd_zeros]; omega) h1' (fun y _ _ => by
      rw [rd_zeros]
      by_cases hy : y ∈ l
      · have := h2 y hy
        rw [beq_iff_eq] at this
        omega
      · rw [List.count_eq_zero_of_not_mem hy]; omega)
    rw [e]; rfl

theorem ev_isTwice (l : List Int) (hl : l.length ≤ 1048576) : Ev (fun k => impl_isTwice.f k l 8) (okPile l) := by
  unfold okPile
  by_cases h1 : l.length % 2 = 1
  · refine Ev.congr (f := fun k => some false) (fun k => ?_) (by simpa [h1] using Ev.now false)
    unfold impl_isTwice.f
    rw [if_pos (by omega)]
  obtain ⟨n, hn⟩ : ∃ n, l.length = 2 * n := ⟨l.length / 2, by omega⟩
  have hw : wrap64 ((l.length : Int) / 2) = (n : Int) := by unfold wrap64; omega
  have hd : l.length / 2 = n := by omega
  by_cases h2 : 1 ≤ n ∧ n ≤ 8
  · refine Ev.congr (f := fun k => (impl_times.f k (n : Int) l).bind fun bt => some bt.2) (fun k => ?_) ?_
    · unfold impl_isTwice.f
      rw [if_neg (by omega), hw, within_eq]
      simp [show (1 : Int) ≤ n from by omega, show (n : Int) ≤ 8 from by omega]
    · refine Ev.bind (ev_times n (by omega) l hl) ?_
      rw [hd]
      have ht := tally_pile l n hn
      simp only [show l.length ≠ 0 from by omega, show l.length % 2 = 0 from by omega, show l.length ≤ 16 from by omega, ne_eq, not_false_eq_true, decide_true, Bool.true_and]
      rw [← ht]
      cases tally n (List.replicate n 0) l <;> exact Ev.now _
  · refine Ev.congr (f := fun k => some false) (fun k => ?_) ?_
    · unfold impl_isTwice.f
      rw [if_neg (by omega), hw, within_eq]
      by_cases h3 : 1 ≤ n
      · simp [show (1 : Int) ≤ n from by omega, show ¬ (n : Int) ≤ 8 from by omega]
      · simp [show ¬ (1 : Int) ≤ n from by omega]
    · by_cases h3 : l.length = 0
      · simpa [h3] using Ev.now false
      · simpa [show ¬ l.length ≤ 16 from by omega] using Ev.now false

/-! ### the law's own copies -/
theorem ev_toIntS (l : List Int) (hl : l.length ≤ 1048576) : Ev (fun k => laws_toIntS.f k l) l := by
  have h : ∀ i, i ≤ l.length → ∀ o : List Int, o.length = l.length → (∀ j, j < i → o.getD j 0 = l.getD j 0) → Ev (fun k => laws_toIntS.l0 k l o (i : Int)) l := by
    refine downTo l.length ?_ ?_
    · intro o ho hj
      have e : o = l := List.ext_getElem ho fun j h1 h2 => by
        have := hj j h2
        rwa [List.getD_eq_getElem?_getD, List.getD_eq_getElem?_getD, List.getElem?_eq_getElem h1, List.getElem?_eq_getElem h2] at this
      refine Ev.step (f := fun _ => some o) (fun k => ?_) (by rw [e]; exact Ev.now _)
      simp only [laws_toIntS.l0]
      rw [if_neg (by omega)]
    · intro i hi ih o ho hj
      refine Ev.step (f := fun k => laws_toIntS.l0 k l (o.set i (rd l (i : Int))) ((i + 1 : Nat) : Int)) (fun k => ?_) (ih _ (by rw [List.length_set]; exact ho) ?_)
      · simp only [laws_toIntS.l0]
        rw [if_pos (by omega), if_pos (by omega), if_pos (by omega), wrap_succ i (by omega), Int.toNat_natCast]
      · intro j hji
        rw [List.getD_eq_getElem?_getD, List.getElem?_set]
        by_cases e : i = j
        · subst e
          rw [if_pos rfl, if_pos (by omega), rd_nat]; rfl
        · rw [if_neg e, ← List.getD_eq_getElem?_getD]
          exact hj j (by omega)
  refine Ev.congr (f := fun k => laws_toIntS.l0 k l (List.replicate l.length 0) 0) (fun k => ?_) (h 0 (by omega) _ (by simp) (fun j hj => by omega))
  unfold laws_toIntS.f
  rw [if_pos (by omega), if_pos (by omega), Int.toNat_natCast]

theorem ev_eqIntS (l : List Int) (hl : l.length ≤ 1048576) : Ev (fun k => laws_eqIntS.f k l l) true := by
  have h : ∀ i, i ≤ l.length → Ev (fun k => laws_eqIntS.l0 k l l (i : Int)) true := by
    refine downTo l.length ?_ ?_
    · refine Ev.step (f := fun _ => some true) (fun k => ?_) (Ev.now _)
      simp only [laws_eqIntS.l0]
      rw [if_neg (by omega)]
    · intro i hi ih
      refine Ev.step (f := fun k => laws_eqIntS.l0 k l l ((i + 1 : Nat) : Int)) (fun k => ?_) ih
      simp only [laws_eqIntS.l0]
      rw [if_pos (by omega), if_pos (by omega), if_pos (by omega), if_pos trivial, wrap_succ i (by omega)]
  refine Ev.congr (f := fun k => laws_eqIntS.l0 k l l 0) (fun k => ?_) (h 0 (by omega))
  unfold laws_eqIntS.f
  rw [if_pos rfl]


/-! ### more of the plain lists -/
theorem take_snoc (l : List Int) (i : Nat) (h : i < l.length) : l.take (i + 1) = l.take i ++ [rd l (i : Int)] := by
  rw [rd_get l i h, List.take_succ_eq_append_getElem h]

theorem ev_l1Has (l : List Int) (x : Int) (hl : l.length < 9223372036854775807) : Ev (fun k => spec_l1Has.f k l x) (decide (x ∈ l)) := by
  have h : ∀ i, i ≤ l.length → Ev (fun k => spec_l1Has.l0 k x l (l.length : Int) (i : Int)) (decide (x ∈ l.drop i)) := by
    refine downTo l.length ?_ ?_
    · refine Ev.step (f := fun _ => some false) (fun k => ?_) (by rw [List.drop_length]; simpa using Ev.now false)
      simp only [spec_l1Has.l0]
      rw [if_neg (by omega)]
    · intro i hil ih
      rw [drop_cons l i hil]
      by_cases hx : rd l (i : Int) = x
      · refine Ev.step (f := fun _ => some true) (fun k => ?_) (by rw [decide_eq_true (List.mem_cons.2 (.inl hx.symm))]; exact Ev.now _)
        simp only [spec_l1Has.l0]
        rw [if_pos (by omega), if_pos (by omega), if_pos (by omega), if_pos hx]
      · have e : decide (x ∈ rd l (i : Int) :: l.drop (i + 1)) = decide (x ∈ l.drop (i + 1)) := by
          simp [List.mem_cons, show ¬ x = rd l (i : Int) from fun e => hx e.symm]
        rw [e]
        refine Ev.step (f := fun k => spec_l1Has.l0 k x l (l.length : Int) ((i + 1 : Nat) : Int)) (fun k => ?_) ih
        simp only [spec_l1Has.l0]
        rw [if_pos (by omega), if_pos (by omega), if_pos (by omega), if_neg hx, wrap_succ i (by omega)]
  exact h 0 (by omega)

/-! ### shapes -/
/-- The signs of a pile, as bytes: 45 where a number has come before, else 43. -/
def signs : List Int → List Int → List Int
  | _, [] => []
  | seen, x :: xs => (if x ∈ seen then 45 else 43) :: signs (seen ++ [x]) xs
def shapeL (l : List Int) : List Int := signs [] l
theorem signs_length (l : List Int) : ∀ s, (signs s l).length = l.length := by
  induction l with
  | nil => intro s; rfl
  | cons x xs ih => intro s; simp [signs, ih]
theorem signs_mem (l : List Int) : ∀ s c, c ∈ signs s l → c = 43 ∨ c = 45 := by
  induction l with
  | nil => intro s c h; cases h
  | cons x xs ih =>
    intro s c h
    rw [signs, List.mem_cons] at h
    rcases h with h | h
    · split at h
      · exact .inr h
      · exact .inl h
    · exact ih _ _ h
theorem str_size (xs : List Int) : (strOfNums xs).size = xs.length := by simp [strOfNums, ByteArray.size]
theorem str_plus (xs : List Int) : strOfNums (xs ++ [43]) = strOfNums xs ++ (⟨#[43]⟩ : ByteArray) := by
  apply ByteArray.ext
  simp [strOfNums]
theorem str_minus (xs : List Int) : strOfNums (xs ++ [45]) = strOfNums xs ++ (⟨#[45]⟩ : ByteArray) := by
  apply ByteArray.ext
  simp [strOfNums]

theorem ev_piShape (l : List Int) (hl : l.length ≤ 1048576) : Ev (fun k => spec_piShape.f k l) (strOfNums (shapeL l)) := by
  have h : ∀ i, i ≤ l.length → ∀ ys : List Int, ys.length = i → ys ++ signs (l.take i) (l.drop i) = shapeL l →
      Ev (fun k => spec_piShape.l0 k l (strOfNums ys) l (l.length : Int) (i : Int)) (strOfNums (shapeL l)) := by
    refine downTo l.length ?_ ?_
    · intro ys _ e
      rw [List.drop_length, signs, List.append_nil] at e
      refine Ev.step (f := fun _ => some (strOfNums ys)) (fun k => ?_) (by rw [e]; exact Ev.now _)
      simp only [spec_piShape.l0]
      rw [if_neg (by omega)]
    · intro i hil ih ys hy e
      rw [drop_cons l i hil, signs] at e
      refine Ev.step (f := fun k => (spec_l1Has.f k (l.take i) (rd l (i : Int))).bind fun t => if t = true then spec_piShape.l0 k l (strOfNums (ys ++ [45])) l (l.length : Int) ((i + 1 : Nat) : Int) else spec_piShape.l0 k l (strOfNums (ys ++ [43])) l (l.length : Int) ((i + 1 : Nat) : Int)) (fun k => ?_) ?_
      · have hs : (strOfNums ys).size + 1 ≤ 9223372036854775807 := by rw [str_size]; omega
        simp only [spec_piShape.l0, Int.toNat_natCast]
        rw [if_pos (by omega), if_pos (by omega), if_pos (by omega), if_pos (by omega), wrap_succ i (by omega), str_plus, str_minus, if_pos hs, if_pos hs]
      · refine Ev.bind (ev_l1Has _ _ (by rw [List.length_take]; omega)) ?_
        by_cases hm : rd l (i : Int) ∈ l.take i
        · simp only [hm, decide_true, if_true] at e ⊢
          exact ih (ys ++ [45]) (by simp [hy]) (by rw [take_snoc l i hil, List.append_assoc]; exact e)
        · simp only [hm, decide_false, if_false, Bool.false_eq_true] at e ⊢
          exact ih (ys ++ [43]) (by simp [hy]) (by rw [take_snoc l i hil, List.append_assoc]; exact e)
  exact h 0 (by omega) [] rfl rfl

/-- One bit of a small number, as the program asks it; and one bit laid. -/
theorem bit_table : ((List.range 256).all fun s => (List.range 8).all fun k => (decide (Go.bits .and .i64 (shr .i64 (s : Int) (k : Int)) 1 = 1) == Nat.testBit s k) && decide (Go.bits .or .i64 (s : Int) (shl .i64 1 (k : Int)) = ((s ||| 2 ^ k : Nat) : Int)) && decide (s ||| 2 ^ k < 256)) = true := by decide +kernel
theorem bit_at (s k : Nat) (hs : s < 256) (hk : k < 8) : (Go.bits .and .i64 (shr .i64 (s : Int) (k : Int)) 1 = 1 ↔ Nat.testBit s k = true) ∧ Go.bits .or .i64 (s : Int) (shl .i64 1 (k : Int)) = ((s ||| 2 ^ k : Nat) : Int) ∧ s ||| 2 ^ k < 256 := by
  have t := bit_table
  rw [List.all_eq_true] at t
  have t1 := t s (List.mem_range.2 hs)
  rw [List.all_eq_true] at t1
  have t2 := t1 k (List.mem_range.2 hk)
  simp only [Bool.and_eq_true, beq_iff_eq, decide_eq_true_eq] at t2
  refine ⟨?_, t2.1.2, t2.2⟩
  rw [← t2.1.1, decide_eq_true_eq]

theorem ev_shapeOf (l : List Int) (hl : l.length ≤ 16) (hr : ∀ x ∈ l, 0 ≤ x ∧ x < 8) : Ev (fun k => impl_shapeOf.f k l) (strOfNums (shapeL l)) := by
  have h : ∀ i, i ≤ l.length → ∀ (ys : List Int) (s : Nat), ys.length = i → ys ++ signs (l.take i) (l.drop i) = shapeL l → s < 256 → (∀ v, v < 8 → (Nat.testBit s v = true ↔ (v : Int) ∈ l.take i)) →
      Ev (fun k => impl_shapeOf.l0 k ys (s : Int) l (l.length : Int) (i : Int)) (strOfNums (shapeL l)) := by
    refine downTo l.length ?_ ?_
    · intro ys s _ e _ _
      rw [List.drop_length, signs, List.append_nil] at e
      refine Ev.step (f := fun _ => some (strOfNums ys)) (fun k => ?_) (by rw [e]; exact Ev.now _)
      simp only [impl_shapeOf.l0]
      rw [if_neg (by omega)]
    · intro i hil ih ys s hy e hs hb
      obtain ⟨hx0, hx8⟩ := hr (rd l (i : Int)) (by rw [rd_get l i hil]; exact List.getElem_mem hil)
      obtain ⟨v, hv⟩ : ∃ v : Nat, rd l (i : Int) = (v : Int) := ⟨(rd l (i : Int)).toNat, by omega⟩
      obtain ⟨b1, b2, b3⟩ := bit_at s v hs (by omega)
      rw [drop_cons l i hil, signs, hv] at e
      have hnb : ∀ u, u < 8 → (Nat.testBit (s ||| 2 ^ v) u = true ↔ (u : Int) ∈ l.take (i + 1)) := by
        intro u hu
        rw [take_snoc l i hil, hv, Nat.testBit_or, Bool.or_eq_true, hb u hu, List.mem_append, List.mem_singleton, Nat.testBit_two_pow]
        simp only [decide_eq_true_eq]
        constructor
        · rintro (h | h)
          · exact .inl h
          · exact .inr (by omega)
        · rintro (h | h)
          · exact .inl h
          · exact .inr (by omega)
      by_cases hm : (v : Int) ∈ l.take i
      · rw [if_pos hm] at e
        refine Ev.step (f := fun k => impl_shapeOf.l0 k (ys ++ [45]) ((s ||| 2 ^ v : Nat) : Int) l (l.length : Int) ((i + 1 : Nat) : Int)) (fun k => ?_) (ih _ _ (by simp [hy]) (by rw [take_snoc l i hil, hv, List.append_assoc]; exact e) b3 hnb)
        simp only [impl_shapeOf.l0, hv]
        rw [if_pos (by omega), if_pos (by omega), if_pos (by omega), if_pos (by omega), if_pos (b1.2 ((hb v (by omega)).2 hm)), if_pos (by omega), b2, wrap_succ i (by omega)]
      · rw [if_neg hm] at e
        refine Ev.step (f := fun k => impl_shapeOf.l0 k (ys ++ [43]) ((s ||| 2 ^ v : Nat) : Int) l (l.length : Int) ((i + 1 : Nat) : Int)) (fun k => ?_) (ih _ _ (by simp [hy]) (by rw [take_snoc l i hil, hv, List.append_assoc]; exact e) b3 hnb)
        simp only [impl_shapeOf.l0, hv]
        rw [if_pos (by omega), if_pos (by omega), if_pos (by omega), if_pos (by omega), if_neg (fun h => hm ((hb v (by omega)).1 (b1.1 h))), if_pos (by omega), b2, wrap_succ i (by omega)]
  exact h 0 (by omega) [] 0 rfl rfl (by omega) (fun v _ => by simp)

/-! ### heights -/
theorem bt_get (s : ByteArray) (i : Nat) (h : i < s.size) : bt s (i : Int) = (((s.data.toList)[i]'(by simpa using h)).toNat : Int) := by
  unfold bt
  rw [dif_pos (by simpa using h)]
  rfl
theorem rd_last (xs : List Int) (n : Int) (i : Nat) (h : xs.length = i) : rd (xs ++ [n]) (i : Int) = n := by
  rw [rd_get _ i (by simp [h]), List.getElem_append_right (by omega)]
  simp
theorem ev_piLoose (s : ByteArray) (hs : s.size ≤ 1048576) : Ev (fun k => spec_piLoose.f k s) (0 :: hts 0 s.data.toList) := by
  have h : ∀ i, i ≤ s.size → ∀ (xs : List Int) (n : Int), xs.length = i + 1 → rd xs (i : Int) = n → -(i : Int) ≤ n → n ≤ (i : Int) → xs ++ hts n (s.data.toList.drop i) = 0 :: hts 0 s.data.toList →
      Ev (fun k => spec_piLoose.l0 k s xs (i : Int)) (0 :: hts 0 s.data.toList) := by
    refine downTo s.size ?_ ?_
    · intro xs n _ _ _ _ e
      rw [List.drop_eq_nil_of_le (by simp), hts, List.append_nil] at e
      refine Ev.step (f := fun _ => some xs) (fun k => ?_) (by rw [e]; exact Ev.now _)
      simp only [spec_piLoose.l0]
      rw [if_neg (by omega)]
    · intro i hil ih xs n hx hn h1 h2 e
      have hd : s.data.toList.drop i = (s.data.toList)[i]'(by simpa using hil) :: s.data.toList.drop (i + 1) := List.drop_eq_getElem_cons (by simpa using hil)
      rw [hd, hts] at e
      have hb := bt_get s i hil
      have e' := e
      rw [← List.singleton_append, ← List.append_assoc] at e'
      by_cases hc : ((s.data.toList)[i]'(by simpa using hil)).toNat = 43
      · rw [if_pos hc] at e'
        refine Ev.step (f := fun k => spec_piLoose.l0 k s (xs ++ [n + 1]) ((i + 1 : Nat) : Int)) (fun k => ?_) (ih _ (n + 1) (by simp [hx]) (rd_last xs _ (i + 1) hx) (by omega) (by omega) e')
        simp only [spec_piLoose.l0]
        rw [if_pos (by omega), if_pos (by omega), if_pos (by rw [hb]; omega), if_pos (by omega), if_pos (by omega), hn, wrap_succ i (by omega), show wrap64 (n + 1) = n + 1 from by unfold wrap64; omega]
      · rw [if_neg hc] at e'
        refine Ev.step (f := fun k => spec_piLoose.l0 k s (xs ++ [n - 1]) ((i + 1 : Nat) : Int)) (fun k => ?_) (ih _ (n - 1) (by simp [hx]) (rd_last xs _ (i + 1) hx) (by omega) (by omega) e')
        simp only [spec_piLoose.l0]
        rw [if_pos (by omega), if_pos (by omega), if_neg (by rw [hb]; omega), if_pos (by omega), if_pos (by omega), hn, wrap_succ i (by omega), show wrap64 (n - 1) = n - 1 from by unfold wrap64; omega]
  exact h 0 (by omega) [0] 0 rfl rfl (by omega) (by omega) rfl

theorem hts_length (l : List UInt8) : ∀ n, (hts n l).length = l.length := by
  induction l with
  | nil => intro n; rfl
  | cons c cs ih => intro n; simp [hts, ih]

theorem shape_bytes (l : List Int) : ∀ c ∈ (strOfNums (shapeL l)).data.toList, c.toNat < 128 := by
  intro c hc
  rw [strOfNums_data, List.mem_map] at hc
  obtain ⟨x, hx, rfl⟩ := hc
  rcases signs_mem _ _ _ hx with rfl | rfl <;> decide

theorem okPile_range (l : List Int) (h : okPile l = true) : l.length ≤ 16 ∧ l.length ≠ 0 ∧ l.length % 2 = 0 ∧ (∀ x ∈ l, 0 ≤ x ∧ x ≤ ((l.length / 2 : Nat) : Int) - 1) ∧ (∀ x ∈ l, l.count x = 2) := by
  unfold okPile at h
  simp only [Bool.and_eq_true, decide_eq_true_eq, List.all_eq_true, beq_iff_eq] at h
  exact ⟨h.1.1.2, h.1.1.1.1, h.1.1.1.2, h.1.2, h.2⟩

/-! ### marks -/
theorem ev_heldIntS (l : List Int) (hl : l.length ≤ 1048576) (hm : ∀ j, j < l.length → l.getD j 0 = (j : Int) + 1) : Ev (fun k => laws_heldIntS.f k l 1) ((l.length : Int) + 1) := by
  have h : ∀ i, i ≤ l.length → Ev (fun k => laws_heldIntS.l0 k l ((i : Int) + 1) (i : Int)) ((l.length : Int) + 1) := by
    refine downTo l.length ?_ ?_
    · refine Ev.step (f := fun _ => some ((l.length : Int) + 1)) (fun k => ?_) (Ev.now _)
      simp only [laws_heldIntS.l0]
      rw [if_neg (by omega)]
    · intro i hil ih
      refine Ev.step (f := fun k => laws_heldIntS.l0 k l (((i + 1 : Nat) : Int) + 1) ((i + 1 : Nat) : Int)) (fun k => ?_) ih
      simp only [laws_heldIntS.l0]
      rw [if_pos (by omega), if_pos (by omega), if_pos (by rw [rd_nat]; exact hm i hil), wrap_succ i (by omega), show wrap64 ((i : Int) + 1 + 1) = ((i + 1 : Nat) : Int) + 1 from by unfold wrap64; omega]
  exact h 0 (by omega)

theorem ev_IsPile (l : List Int) (hl : l.length ≤ 1048576) : Ev (fun k => impl_IsPile.f k l) (okPile l) := by
  refine Ev.congr (f := fun k => (impl_isTwice.f k l 8).bind fun t => some t) (fun k => ?_) (Ev.bind (ev_isTwice l hl) (Ev.now _))
  unfold impl_IsPile.f
  rfl

end Go.Proofs.Ytlhennggbnlkpaa.PurePile
