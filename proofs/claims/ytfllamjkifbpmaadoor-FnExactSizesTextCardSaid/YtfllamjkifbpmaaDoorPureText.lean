/- Plain laws that the statements on texts of numbers of this seat share: what a pile is, the digits of a number, and what the program's joined and the reference's piText and soText come to. No program and no memory stands in it. -/
import Derived.Test.YtfllamjkifbpmaaDoorQTextx
import Derived.Lib.Join
namespace Go.Proofs.YtfllamjkifbpmaaDoor.PureText
open Go.RowKit Go.Proofs.YtfllamjkifbpmaaDoor.QBase Go.Proofs.YtfllamjkifbpmaaDoor.QText Go.Proofs.YtfllamjkifbpmaaDoor.XJoin Go.Proofs.YtfllamjkifbpmaaDoorW.PrintWords Go.Proofs.YtfllamjkifbpmaaDoorW.PrintLast Go.Proofs.YtfllamjkifbpmaaDoorW.PrintMore
set_option linter.unusedVariables false
set_option linter.unusedSimpArgs false

/-! ### plain lists -/
theorem downTo {P : Nat → Prop} (n : Nat) (h0 : P n) (hs : ∀ i, i < n → P (i + 1) → P i) : ∀ i, i ≤ n → P i := by
  intro i hi
  obtain ⟨d, rfl⟩ : ∃ d, n = i + d := ⟨n - i, by omega⟩
  induction d generalizing i with
  | zero => exact h0
  | succ d ih => exact hs i (by omega) (ih (i + 1) (by rw [show i + 1 + d = i + (d + 1) from by omega]; exact h0) (by rw [show i + 1 + d = i + (d + 1) from by omega]; exact hs) (by omega))
theorem rd_nat (l : List Int) (i : Nat) : rd l (i : Int) = l.getD i 0 := by unfold rd; rw [Int.toNat_natCast]
theorem rd_get (l : List Int) (i : Nat) (h : i < l.length) : rd l (i : Int) = l[i] := by rw [rd_nat, List.getD_eq_getElem?_getD, List.getElem?_eq_getElem h]; rfl
theorem drop_cons (l : List Int) (i : Nat) (h : i < l.length) : l.drop i = rd l (i : Int) :: l.drop (i + 1) := by rw [rd_get l i h]; exact List.drop_eq_getElem_cons h
theorem wrap_succ (i : Nat) (h : i < 9223372036854775807) : wrap64 ((i : Int) + 1) = ((i + 1 : Nat) : Int) := by unfold wrap64; omega

/-- A pile, in plain words. -/
def okPile (l : List Int) : Bool := decide (l.length ≠ 0) && decide (l.length % 2 = 0) && decide (l.length ≤ 16) && l.all (fun x => decide (0 ≤ x) && decide (x ≤ ((l.length / 2 : Nat) : Int) - 1)) && l.all (fun x => l.count x == 2)

/-! ### the reference -/
theorem ev_l1In (x lo hi : Int) : spec_l1In.f x lo hi = some (decide (lo ≤ x) && decide (x ≤ hi)) := by
  unfold spec_l1In.f
  by_cases h : lo ≤ x <;> simp [h]

theorem ev_l1All (l : List Int) (lo hi : Int) (hl : l.length < 9223372036854775807) : Ev (fun k => spec_l1All.f k l lo hi) (l.all fun x => decide (lo ≤ x) && decide (x ≤ hi)) := by
  unfold spec_l1All.f
  have h : ∀ i, i ≤ l.length → Ev (fun k => spec_l1All.l0 k lo hi l (l.length : Int) (i : Int)) ((l.drop i).all fun x => decide (lo ≤ x) && decide (x ≤ hi)) := by
    refine downTo l.length ?_ ?_
    · refine Ev.step (f := fun _ => some true) (fun k => ?_) (by rw [List.drop_length]; exact Ev.now _)
      simp only [spec_l1All.l0]
      rw [if_neg (by omega)]
    · intro i hil ih
      rw [drop_cons l i hil, List.all_cons]
      by_cases hx : (decide (lo ≤ rd l i) && decide (rd l i ≤ hi)) = true
      · rw [hx, Bool.true_and]
        refine Ev.step (f := fun k => spec_l1All.l0 k lo hi l (l.length : Int) ((i + 1 : Nat) : Int)) (fun k => ?_) ih
        simp only [spec_l1All.l0]
        rw [if_pos (by omega), if_pos (by omega), if_pos (by omega), ev_l1In, hx, wrap_succ i (by omega)]
        simp only [Option.bind_some, if_true]
      · rw [Bool.not_eq_true] at hx
        rw [hx, Bool.false_and]
        refine Ev.step (f := fun k => some false) (fun k => ?_) (Ev.now _)
        simp only [spec_l1All.l0]
        rw [if_pos (by omega), if_pos (by omega), if_pos (by omega), ev_l1In, hx]
        simp
  exact h 0 (by omega)

theorem ev_pgInner (l : List Int) (hl : l.length < 1000) (x : Int) (i : Nat) (_hi : i < l.length) (r : Bool)
    (hnext : l.count x = 2 → Ev (fun k => spec_piGood.l0 k l l (l.length : Int) ((i + 1 : Nat) : Int)) r) (hno : l.count x ≠ 2 → r = false) :
    Ev (fun k => spec_piGood.l1 k l x 0 l (l.length : Int) (i : Int) l (l.length : Int) 0) r := by
  have h : ∀ j, j ≤ l.length → ∀ c : Nat, c + (l.drop j).count x = l.count x → c ≤ j → Ev (fun k => spec_piGood.l1 k l x (c : Int) l (l.length : Int) (i : Int) l (l.length : Int) (j : Int)) r := by
    refine downTo l.length ?_ ?_
    · intro c hc hcj
      rw [List.drop_length, List.count_nil, Nat.add_zero] at hc
      by_cases h2 : l.count x = 2
      · refine Ev.step (f := fun k => spec_piGood.l0 k l l (l.length : Int) ((i + 1 : Nat) : Int)) (fun k => ?_) (hnext h2)
        simp only [spec_piGood.l1]
        rw [if_neg (by omega), if_pos (by omega), wrap_succ i (by omega)]
      · rw [hno h2]
        refine Ev.step (f := fun k => some false) (fun k => ?_) (Ev.now _)
        simp only [spec_piGood.l1]
        rw [if_neg (by omega), if_neg (by omega)]
    · intro j hj ih c hc hcj
      rw [drop_cons l j hj, List.count_cons] at hc
      by_cases hx : rd l (j : Int) = x
      · rw [hx] at hc
        simp only [BEq.rfl, if_true] at hc
        refine Ev.step (f := fun k => spec_piGood.l1 k l x ((c + 1 : Nat) : Int) l (l.length : Int) (i : Int) l (l.length : Int) ((j + 1 : Nat) : Int)) (fun k => ?_) (ih (c + 1) (by omega) (by omega))
        simp only [spec_piGood.l1]
        rw [if_pos (by omega), if_pos (by omega), if_pos (by omega), if_pos hx, wrap_succ j (by omega), wrap_succ c (by omega)]
      · rw [beq_false_of_ne hx] at hc
        simp only [Bool.false_eq_true, if_false, Nat.add_zero] at hc
        refine Ev.step (f := fun k => spec_piGood.l1 k l x (c : Int) l (l.length : Int) (i : Int) l (l.length : Int) ((j + 1 : Nat) : Int)) (fun k => ?_) (ih c (by omega) (by omega))
        simp only [spec_piGood.l1]
        rw [if_pos (by omega), if_pos (by omega), if_pos (by omega), if_neg hx, wrap_succ j (by omega)]
  exact h 0 (by omega) 0 (by simp) (by omega)

theorem ev_pgOuter (l : List Int) (hl : l.length < 1000) : Ev (fun k => spec_piGood.l0 k l l (l.length : Int) 0) (l.all fun x => l.count x == 2) := by
  have h : ∀ i, i ≤ l.length → Ev (fun k => spec_piGood.l0 k l l (l.length : Int) (i : Int)) ((l.drop i).all fun x => l.count x == 2) := by
    refine downTo l.length ?_ ?_
    · refine Ev.step (f := fun _ => some true) (fun k => ?_) (by rw [List.drop_length]; exact Ev.now _)
      simp only [spec_piGood.l0]
      rw [if_neg (by omega)]
    · intro i hi ih
      refine Ev.step (f := fun k => spec_piGood.l1 k l (rd l (i : Int)) 0 l (l.length : Int) (i : Int) l (l.length : Int) 0) (fun k => ?_) (ev_pgInner l hl _ i hi _ ?_ ?_)
      · simp only [spec_piGood.l0]
        rw [if_pos (by omega), if_pos (by omega), if_pos (by omega)]
      · intro h2
        rw [drop_cons l i hi, List.all_cons, h2]
        exact ih
      · intro h2
        rw [drop_cons l i hi, List.all_cons, beq_false_of_ne h2, Bool.false_and]
  exact h 0 (by omega)

theorem ev_piGood (l : List Int) (hl : l.length ≤ 1048576) : Ev (fun k => spec_piGood.f k l) (okPile l) := by
  have hbad : ∀ b : Bool, b = true → Ev (fun k => spec_piGood.j0 k l b) false := by
    rintro b rfl
    refine Ev.step (f := fun k => some false) (fun k => ?_) (Ev.now _)
    simp only [spec_piGood.j0, if_true]
  unfold okPile
  by_cases h0 : l.length = 0
  · refine Ev.congr (f := fun k => spec_piGood.j0 k l true) (fun k => ?_) (by simpa [h0] using hbad true rfl)
    unfold spec_piGood.f
    rw [if_pos (by omega)]
  by_cases h1 : l.length % 2 = 1
  · refine Ev.congr (f := fun k => spec_piGood.j0 k l true) (fun k => ?_) (by simpa [h0, h1] using hbad true rfl)
    unfold spec_piGood.f
    rw [if_neg (by omega), if_pos (by omega)]
  by_cases h2 : l.length ≤ 16
  · refine Ev.congr (f := fun k => (spec_l1All.f k l 0 (((l.length / 2 : Nat) : Int) - 1)).bind fun t => spec_piGood.j0 k l (!t)) (fun k => ?_) ?_
    · unfold spec_piGood.f
      rw [if_neg (by omega), if_neg (by omega), if_neg (by omega), show wrap64 (wrap64 ((l.length : Int) / 2) - 1) = ((l.length / 2 : Nat) : Int) - 1 from by unfold wrap64; omega]
    · refine Ev.bind (ev_l1All l 0 _ (by omega)) ?_
      by_cases hall : (l.all fun x => decide (0 ≤ x) && decide (x ≤ ((l.length / 2 : Nat) : Int) - 1)) = true
      · rw [hall]
        simp only [h0, show l.length % 2 = 0 from by omega, h2, ne_eq, not_false_eq_true, decide_true, Bool.true_and, Bool.not_true]
        refine Ev.step (f := fun k => spec_piGood.l0 k l l (l.length : Int) 0) (fun k => ?_) (ev_pgOuter l (by omega))
        simp only [spec_piGood.j0, Bool.false_eq_true, if_false]
      · rw [Bool.not_eq_true] at hall
        rw [hall]
        simpa using hbad true rfl
  · refine Ev.congr (f := fun k => spec_piGood.j0 k l true) (fun k => ?_) (by simpa [h0, h1, h2] using hbad true rfl)
    unfold spec_piGood.f
    rw [if_neg (by omega), if_neg (by omega), if_pos (by omega)]

/-! ### the program -/
theorem within_eq (x lo hi : Int) : impl_within.f x lo hi = some (decide (lo ≤ x) && decide (x ≤ hi)) := by
  unfold impl_within.f
  by_cases h : lo ≤ x <;> simp [h]

/-- What counting does, element by element. -/
def tally (n : Nat) : List Int → List Int → Option (List Int)
  | o, [] => some o
  | o, x :: xs => if 0 ≤ x ∧ x ≤ (n : Int) - 1 then (if rd o x = 2 then none else tally n (o.set x.toNat (rd o x + 1)) xs) else none

theorem rd_set (o : List Int) (x y v : Int) (hx : 0 ≤ x) (hx' : x < o.length) (hy : 0 ≤ y) : rd (o.set x.toNat v) y = if x = y then v else rd o y := by
  unfold rd
  rw [List.getD_eq_getElem?_getD, List.getD_eq_getElem?_getD, List.getElem?_set]
  by_cases h : x = y
  · subst h
    rw [if_pos rfl, if_pos (by omega), if_pos rfl]; rfl
  · rw [if_neg (by omega), if_neg h]

theorem ev_times (n : Nat) (hn : n ≤ 1000) (l : List Int) (hl : l.length ≤ 1048576) :
    Ev (fun k => impl_times.f k (n : Int) l) (match tally n (List.replicate n 0) l with | some o => (o, true) | none => ([], false)) := by
  have h : ∀ i, i ≤ l.length → ∀ o : List Int, o.length = n → (∀ y : Int, 0 ≤ y → rd o y ≤ 2 ∧ 0 ≤ rd o y) →
      Ev (fun k => impl_times.l0 k (n : Int) o l (l.length : Int) (i : Int)) (match tally n o (l.drop i) with | some o => (o, true) | none => ([], false)) := by
    refine downTo l.length ?_ ?_
    · intro o _ _
      rw [List.drop_length]
      refine Ev.step (f := fun _ => some (o, true)) (fun k => ?_) (Ev.now _)
      simp only [impl_times.l0]
      rw [if_neg (by omega)]
    · intro i hi ih o ho hb
      rw [drop_cons l i hi, tally]
      have hw : wrap64 ((n : Int) - 1) = (n : Int) - 1 := by unfold wrap64; omega
      by_cases hx : 0 ≤ rd l i ∧ rd l i ≤ (n : Int) - 1
      · obtain ⟨hx0, hx1⟩ := hx
        rw [if_pos ⟨hx0, hx1⟩]
        have hb2 := hb (rd l i) hx0
        by_cases h2 : rd o (rd l i) = 2
        · rw [if_pos h2]
          refine Ev.step (f := fun _ => some (([] : List Int), false)) (fun k => ?_) (Ev.now _)
          simp only [impl_times.l0, within_eq, hw, hx0, hx1, decide_true, Bool.and_self, Option.bind_some, if_true]
          rw [if_pos (by omega), if_pos (by omega), if_pos (by omega), if_pos (by omega), if_pos h2]
        · rw [if_neg h2]
          refine Ev.step (f := fun k => impl_times.l0 k (n : Int) (o.set (rd l i).toNat (rd o (rd l i) + 1)) l (l.length : Int) ((i + 1 : Nat) : Int)) (fun k => ?_) (ih _ (by rw [List.length_set]; exact ho) ?_)
          · simp only [impl_times.l0, within_eq, hw, hx0, hx1, decide_true, Bool.and_self, Option.bind_some, if_true]
            rw [if_pos (by omega), if_pos (by omega), if_pos (by omega), if_pos (by omega), if_neg h2, wrap_succ i (by omega), show wrap64 (rd o (rd l i) + 1) = rd o (rd l i) + 1 from by unfold wrap64; omega]
          · intro y hy
            rw [rd_set o _ y _ hx0 (by omega) hy]
            split
            · omega
            · exact hb y hy
      · rw [if_neg hx]
        refine Ev.step (f := fun _ => some (([] : List Int), false)) (fun k => ?_) (Ev.now _)
        simp only [impl_times.l0, within_eq, hw, Option.bind_some]
        rw [if_pos (by omega), if_pos (by omega), if_pos (by omega), if_neg (by simpa using hx)]
  refine Ev.congr (f := fun k => impl_times.l0 k (n : Int) (List.replicate n 0) l (l.length : Int) 0) (fun k => ?_) (h 0 (by omega) _ (by simp) ?_)
  · unfold impl_times.f
    rw [if_pos (by omega), if_pos (by omega), Int.toNat_natCast]
  · intro y hy
    unfold rd
    rw [List.getD_eq_getElem?_getD, List.getElem?_replicate]
    split <;> simp

/-- Counting succeeds where all lie in range and none comes a third time; then it holds the counts. -/
theorem tally_some (n : Nat) : ∀ (l o : List Int), o.length = n → (∀ y : Int, 0 ≤ y → y < n → rd o y ≤ 2) →
    (∀ x ∈ l, 0 ≤ x ∧ x ≤ (n : Int) - 1) → (∀ y : Int, 0 ≤ y → y < n → rd o y + l.count y ≤ 2) →
    ∃ o', tally n o l = some o' ∧ o'.length = n ∧ ∀ y : Int, 0 ≤ y → y < n → rd o' y = rd o y + l.count y := by
  intro l
  induction l with
  | nil => intro o ho _ _ _; exact ⟨o, rfl, ho, fun y _ _ => by simp⟩
  | cons x xs ih =>
    intro o ho hb hr hc
    obtain ⟨hx0, hx1⟩ := hr x (List.mem_cons_self ..)
    have hcx := hc x hx0 (by omega)
    rw [List.count_cons_self] at hcx
    have hs : ∀ y : Int, 0 ≤ y → y < n → rd (o.set x.toNat (rd o x + 1)) y + xs.count y = rd o y + (x :: xs).count y := by
      intro y hy hyn
      rw [rd_set o x y _ hx0 (by omega) hy, List.count_cons]
      by_cases h : x = y
      · subst h; rw [if_pos rfl]; simp; omega
      · rw [if_neg h, beq_false_of_ne h]; simp
    obtain ⟨o', e, hl, hv⟩ := ih (o.set x.toNat (rd o x + 1)) (by rw [List.length_set]; exact ho)
      (fun y hy hyn => by have := hs y hy hyn; have := hc y hy hyn; omega)
      (fun z hz => hr z (List.mem_cons_of_mem _ hz)) (fun y hy hyn => by rw [hs y hy hyn]; exact hc y hy hyn)
    refine ⟨o', ?_, hl, fun y hy hyn => by rw [hv y hy hyn, hs y hy hyn]⟩
    rw [tally, if_pos ⟨hx0, hx1⟩, if_neg (by omega)]
    exact e

theorem tally_inv (n : Nat) : ∀ (l o o' : List Int), o.length = n → (∀ y : Int, 0 ≤ y → y < n → rd o y ≤ 2) → tally n o l = some o' →
    (∀ x ∈ l, 0 ≤ x ∧ x ≤ (n : Int) - 1) ∧ (∀ y : Int, 0 ≤ y → y < n → rd o y + l.count y ≤ 2) := by
  intro l
  induction l with
  | nil => intro o o' _ hb _; exact ⟨fun x hx => (by cases hx), fun y hy hyn => by simpa using hb y hy hyn⟩
  | cons x xs ih =>
    intro o o' ho hb h
    rw [tally] at h
    by_cases hx : 0 ≤ x ∧ x ≤ (n : Int) - 1
    · rw [if_pos hx] at h
      by_cases h2 : rd o x = 2
      · rw [if_pos h2] at h; cases h
      · rw [if_neg h2] at h
        have hbx := hb x hx.1 (by omega)
        have hs : ∀ y : Int, 0 ≤ y → y < n → rd (o.set x.toNat (rd o x + 1)) y + xs.count y = rd o y + (x :: xs).count y := by
          intro y hy hyn
          rw [rd_set o x y _ hx.1 (by omega) hy, List.count_cons]
          by_cases h : x = y
          · subst h; rw [if_pos rfl]; simp; omega
          · rw [if_neg h, beq_false_of_ne h]; simp
        obtain ⟨h3, h4⟩ := ih _ o' (by rw [List.length_set]; exact ho) (fun y hy hyn => by
          rw [rd_set o x y _ hx.1 (by omega) hy]
          split
          · omega
          · exact hb y hy hyn) h
        refine ⟨fun z hz => ?_, fun y hy hyn => by rw [← hs y hy hyn]; exact h4 y hy hyn⟩
        rcases List.mem_cons.1 hz with rfl | hz
        · exact hx
        · exact h3 z hz
    · rw [if_neg hx] at h; cases h

theorem rd_zeros (n : Nat) (y : Int) : rd (List.replicate n 0) y = 0 := by
  unfold rd
  rw [List.getD_eq_getElem?_getD, List.getElem?_replicate]
  split <;> rfl

/-- As many numbers as places, no more than two at each: two at each. -/
theorem sum_zero (n : Nat) : ((List.range n).map fun _ => 0).sum = 0 := by
  induction n with
  | zero => rfl
  | succ n ih => rw [List.range_succ, List.map_append, List.sum_append, ih]; rfl
theorem sum_counts (n : Nat) : ∀ l : List Int, (∀ x ∈ l, 0 ≤ x ∧ x ≤ (n : Int) - 1) → ((List.range n).map fun v : Nat => l.count (v : Int)).sum = l.length := by
  intro l
  induction l with
  | nil =>
    intro _
    simp only [List.count_nil]
    exact sum_zero n
  | cons x xs ih =>
    intro h
    obtain ⟨h0, h1⟩ := h x (List.mem_cons_self ..)
    have e := ih fun z hz => h z (List.mem_cons_of_mem _ hz)
    have key : ∀ m : Nat, ((List.range m).map fun v : Nat => (x :: xs).count (v : Int)).sum = ((List.range m).map fun v : Nat => xs.count (v : Int)).sum + if x < (m : Int) then 1 else 0 := by
      intro m
      induction m with
      | zero => rw [if_neg (by omega)]; rfl
      | succ m ihm =>
        rw [List.range_succ, List.map_append, List.map_append, List.sum_append, List.sum_append, ihm]
        simp only [List.map_cons, List.map_nil, List.sum_cons, List.sum_nil, List.count_cons]
        by_cases hm : x = (m : Int)
        · rw [hm, BEq.rfl, if_pos rfl, if_neg (by omega), if_pos (by omega)]
          omega
        · rw [beq_false_of_ne hm]
          by_cases hlt : x < (m : Int)
          · rw [if_pos hlt, if_pos (show x < ((m + 1 : Nat) : Int) by omega), if_neg (by simp)]
            omega
          · rw [if_neg hlt, if_neg (show ¬ x < ((m + 1 : Nat) : Int) by omega), if_neg (by simp)]
            omega
    rw [key, e, if_pos (by omega), List.length_cons]

theorem counts_two (n : Nat) (f : Nat → Nat) (hle : ∀ v, v < n → f v ≤ 2) (hs : ((List.range n).map f).sum = 2 * n) : ∀ v, v < n → f v = 2 := by
  have hup : ∀ m, m ≤ n → ((List.range m).map f).sum ≤ 2 * m := by
    intro m
    induction m with
    | zero => intro _; exact Nat.le_refl _
    | succ m ih =>
      intro hm
      rw [List.range_succ, List.map_append, List.sum_append]
      have := ih (by omega); have := hle m (by omega)
      simp only [List.map_cons, List.map_nil, List.sum_cons, List.sum_nil]
      omega
  have hdown : ∀ m, m ≤ n → ((List.range m).map f).sum = 2 * m → ∀ v, v < m → f v = 2 := by
    intro m
    induction m with
    | zero => intro _ _ v hv; omega
    | succ m ih =>
      intro hm he v hv
      rw [List.range_succ, List.map_append, List.sum_append] at he
      simp only [List.map_cons, List.map_nil, List.sum_cons, List.sum_nil] at he
      have h1 := hup m (by omega); have h2 := hle m (by omega)
      by_cases hvm : v = m
      · subst hvm; omega
      · exact ih (by omega) (by omega) v (by omega)
  exact hdown n (Nat.le_refl _) hs

theorem tally_pile (l : List Int) (n : Nat) (hn : l.length = 2 * n) : (tally n (List.replicate n 0) l).isSome = (l.all (fun x => decide (0 ≤ x) && decide (x ≤ (n : Int) - 1)) && l.all (fun x => l.count x == 2)) := by
  rw [Bool.eq_iff_iff]
  constructor
  · intro h
    obtain ⟨o', ho'⟩ := Option.isSome_iff_exists.1 h
    obtain ⟨h1, h2⟩ := tally_inv n l _ o' (by simp) (fun y _ _ => by rw [rd_zeros]; omega) ho'
    have h3 : ∀ v, v < n → l.count (v : Int) = 2 := counts_two n (fun v => l.count (v : Int)) (fun v hv => by
      have := h2 (v : Int) (by omega) (by omega)
      rw [rd_zeros] at this
      omega) (by rw [sum_counts n l h1, hn])
    rw [Bool.and_eq_true, List.all_eq_true, List.all_eq_true]
    refine ⟨fun x hx => by have := h1 x hx; simp [this], fun x hx => ?_⟩
    obtain ⟨h4, h5⟩ := h1 x hx
    have := h3 x.toNat (by omega)
    rw [show ((x.toNat : Nat) : Int) = x from by omega] at this
    rw [this]; rfl
  · intro h
    rw [Bool.and_eq_true, List.all_eq_true, List.all_eq_true] at h
    obtain ⟨h1, h2⟩ := h
    have h1' : ∀ x ∈ l, 0 ≤ x ∧ x ≤ (n : Int) - 1 := fun x hx => by have := h1 x hx; simpa using this
    obtain ⟨o', e, _⟩ := tally_some n l (List.replicate n 0) (by simp) (fun y _ _ => by rw [rd_zeros]; omega) h1' (fun y _ _ => by
      rw [rd_zeros]
      by_cases hy : y ∈ l
      · have := h2 y hy
        rw [beq_iff_eq] at this
        omega
      · rw [List.count_eq_zero_of_not_mem hy]; omega)
    rw [e]; rfl

theorem ev_isTwice (l : List Int) (hl : l.length ≤ 1048576) : Ev (fun k => impl_isTwice.f k l 8) (okPile l) := by
  unfold okPile
  by_cases h1 : l.length % 2 = 1
  · refine Ev.congr (f := fun k => some false) (fun k => ?_) (by simpa [h1] using Ev.now false)
    unfold impl_isTwice.f
    rw [if_pos (by omega)]
  obtain ⟨n, hn⟩ : ∃ n, l.length = 2 * n := ⟨l.length / 2, by omega⟩
  have hw : wrap64 ((l.length : Int) / 2) = (n : Int) := by unfold wrap64; omega
  have hd : l.length / 2 = n := by omega
  by_cases h2 : 1 ≤ n ∧ n ≤ 8
  · refine Ev.congr (f := fun k => (impl_times.f k (n : Int) l).bind fun bt => some bt.2) (fun k => ?_) ?_
    · unfold impl_isTwice.f
      rw [if_neg (by omega), hw, within_eq]
      simp [show (1 : Int) ≤ n from by omega, show (n : Int) ≤ 8 from by omega]
    · refine Ev.bind (ev_times n (by omega) l hl) ?_
      rw [hd]
      have ht := tally_pile l n hn
      simp only [show l.length ≠ 0 from by omega, show l.length % 2 = 0 from by omega, show l.length ≤ 16 from by omega, ne_eq, not_false_eq_true, decide_true, Bool.true_and]
      rw [← ht]
      cases tally n (List.replicate n 0) l <;> exact Ev.now _
  · refine Ev.congr (f := fun k => some false) (fun k => ?_) ?_
    · unfold impl_isTwice.f
      rw [if_neg (by omega), hw, within_eq]
      by_cases h3 : 1 ≤ n
      · simp [show (1 : Int) ≤ n from by omega, show ¬ (n : Int) ≤ 8 from by omega]
      · simp [show ¬ (1 : Int) ≤ n from by omega]
    · by_cases h3 : l.length = 0
      · simpa [h3] using Ev.now false
      · simpa [show ¬ l.length ≤ 16 from by omega] using Ev.now false

/-! ### the law's own copies -/
theorem ev_toIntS (l : List Int) (hl : l.length ≤ 1048576) : Ev (fun k => laws_toIntS.f k l) l := by
  have h : ∀ i, i ≤ l.length → ∀ o : List Int, o.length = l.length → (∀ j, j < i → o.getD j 0 = l.getD j 0) → Ev (fun k => laws_toIntS.l0 k l o (i : Int)) l := by
    refine downTo l.length ?_ ?_
    · intro o ho hj
      have e : o = l := List.ext_getElem ho fun j h1 h2 => by
        have := hj j h2
        rwa [List.getD_eq_getElem?_getD, List.getD_eq_getElem?_getD, List.getElem?_eq_getElem h1, List.getElem?_eq_getElem h2] at this
      refine Ev.step (f := fun _ => some o) (fun k => ?_) (by rw [e]; exact Ev.now _)
      simp only [laws_toIntS.l0]
      rw [if_neg (by omega)]
    · intro i hi ih o ho hj
      refine Ev.step (f := fun k => laws_toIntS.l0 k l (o.set i (rd l (i : Int))) ((i + 1 : Nat) : Int)) (fun k => ?_) (ih _ (by rw [List.length_set]; exact ho) ?_)
      · simp only [laws_toIntS.l0]
        rw [if_pos (by omega), if_pos (by omega), if_pos (by omega), wrap_succ i (by omega), Int.toNat_natCast]
      · intro j hji
        rw [List.getD_eq_getElem?_getD, List.getElem?_set]
        by_cases e : i = j
        · subst e
          rw [if_pos rfl, if_pos (by omega), rd_nat]; rfl
        · rw [if_neg e, ← List.getD_eq_getElem?_getD]
          exact hj j (by omega)
  refine Ev.congr (f := fun k => laws_toIntS.l0 k l (List.replicate l.length 0) 0) (fun k => ?_) (h 0 (by omega) _ (by simp) (fun j hj => by omega))
  unfold laws_toIntS.f
  rw [if_pos (by omega), if_pos (by omega), Int.toNat_natCast]

theorem ev_eqIntS (l : List Int) (hl : l.length ≤ 1048576) : Ev (fun k => laws_eqIntS.f k l l) true := by
  have h : ∀ i, i ≤ l.length → Ev (fun k => laws_eqIntS.l0 k l l (i : Int)) true := by
    refine downTo l.length ?_ ?_
    · refine Ev.step (f := fun _ => some true) (fun k => ?_) (Ev.now _)
      simp only [laws_eqIntS.l0]
      rw [if_neg (by omega)]
    · intro i hi ih
      refine Ev.step (f := fun k => laws_eqIntS.l0 k l l ((i + 1 : Nat) : Int)) (fun k => ?_) ih
      simp only [laws_eqIntS.l0]
      rw [if_pos (by omega), if_pos (by omega), if_pos (by omega), if_pos trivial, wrap_succ i (by omega)]
  refine Ev.congr (f := fun k => laws_eqIntS.l0 k l l 0) (fun k => ?_) (h 0 (by omega))
  unfold laws_eqIntS.f
  rw [if_pos rfl]


/-! ### more of the plain lists -/
theorem take_snoc (l : List Int) (i : Nat) (h : i < l.length) : l.take (i + 1) = l.take i ++ [rd l (i : Int)] := by
  rw [rd_get l i h, List.take_succ_eq_append_getElem h]

theorem okPile_range (l : List Int) (h : okPile l = true) : l.length ≤ 16 ∧ l.length ≠ 0 ∧ l.length % 2 = 0 ∧ (∀ x ∈ l, 0 ≤ x ∧ x ≤ ((l.length / 2 : Nat) : Int) - 1) ∧ (∀ x ∈ l, l.count x = 2) := by
  unfold okPile at h
  simp only [Bool.and_eq_true, decide_eq_true_eq, List.all_eq_true, beq_iff_eq] at h
  exact ⟨h.1.1.2, h.1.1.1.1, h.1.1.1.2, h.1.2, h.2⟩

theorem ev_IsPile (l : List Int) (hl : l.length ≤ 1048576) : Ev (fun k => impl_IsPile.f k l) (okPile l) := by
  refine Ev.congr (f := fun k => (impl_isTwice.f k l 8).bind fun t => some t) (fun k => ?_) (Ev.bind (ev_isTwice l hl) (Ev.now _))
  unfold impl_IsPile.f
  rfl

/-! ### numbers as texts -/
def dd (x : Int) : List UInt8 := Lib.decDigits x.toNat
def bd (x : Int) : ByteArray := ⟨(dd x).toArray⟩
/-- The digits of a number of one or two. -/
def dg2 (n : Nat) : List UInt8 := if n < 10 then [UInt8.ofNat (48 + n)] else [UInt8.ofNat (48 + n / 10), UInt8.ofNat (48 + n % 10)]
theorem num_table : ((List.range 100).all fun n => decide (spec_l1Num.f 5 (n : Int) = some (⟨(dg2 n).toArray⟩ : ByteArray))) = true := by decide +kernel
theorem dd_nat (n : Nat) (h : n < 100) : dd (n : Int) = dg2 n := by
  unfold dd dg2
  rw [Int.toNat_natCast]
  by_cases h1 : n < 10
  · rw [if_pos h1, Lib.decDigits_one h1]
  · rw [if_neg h1, Lib.decDigits_two h1 h]
theorem dd_len (x : Int) (h0 : 0 ≤ x) (h1 : x < 100) : (dd x).length ≤ 2 := by
  obtain ⟨n, rfl⟩ : ∃ n : Nat, x = (n : Int) := ⟨x.toNat, by omega⟩
  rw [dd_nat n (by omega)]
  unfold dg2
  split <;> simp
theorem ev_l1Num (x : Int) (h0 : 0 ≤ x) (h1 : x < 100) : Ev (fun k => spec_l1Num.f k x) (bd x) := by
  obtain ⟨n, rfl⟩ : ∃ n : Nat, x = (n : Int) := ⟨x.toNat, by omega⟩
  have t := num_table
  rw [List.all_eq_true] at t
  have t1 := t n (by rw [List.mem_range]; omega)
  rw [decide_eq_true_eq] at t1
  unfold bd
  rw [dd_nat n (by omega)]
  exact Ev.of (spec_l1Num.mono _) t1
theorem itoa_eq (x : Int) (h0 : 0 ≤ x) (h1 : x < 100) : strconv_Itoa.f x = some (bd x) := by
  unfold strconv_Itoa.f
  rw [if_pos ⟨h0, h1⟩]
  rfl
def small (l : List Int) : Prop := ∀ x ∈ l, 0 ≤ x ∧ x < 100
theorem small_rd (l : List Int) (h : small l) (i : Nat) (hi : i < l.length) : 0 ≤ rd l (i : Int) ∧ rd l (i : Int) < 100 := by
  rw [rd_get l i hi]
  exact h _ (List.getElem_mem hi)
theorem bd_size (x : Int) : (bd x).size = (dd x).length := by simp [bd, ByteArray.size]
theorem bd_list (x : Int) : (bd x).data.toList = dd x := by simp [bd]
theorem tail_len (sep : List UInt8) : ∀ l : List Int, small l → (Lib.joinTail sep (l.map dd)).length ≤ l.length * (sep.length + 2)
  | [], _ => by simp [Lib.joinTail]
  | x :: l, h => by
    have ih := tail_len sep l (fun y hy => h y (List.mem_cons_of_mem _ hy))
    have hx := dd_len x (h x (List.mem_cons_self ..)).1 (h x (List.mem_cons_self ..)).2
    unfold Lib.joinTail at ih ⊢
    simp only [List.map_cons, List.flatten_cons, List.length_append, List.length_cons]
    rw [Nat.succ_mul]
    omega
theorem join_len (sep : List UInt8) (l : List Int) (h : small l) : (Lib.join (l.map dd) sep).length ≤ l.length * (sep.length + 2) := by
  cases l with
  | nil => simp [Lib.join_nil]
  | cons x l =>
    have ht := tail_len sep l (fun y hy => h y (List.mem_cons_of_mem _ hy))
    have hx := dd_len x (h x (List.mem_cons_self ..)).1 (h x (List.mem_cons_self ..)).2
    rw [List.map_cons, Lib.join_cons, List.length_append, List.length_cons, Nat.succ_mul]
    omega
theorem ev_joined (l : List Int) (sep : ByteArray) (hl : l.length ≤ 16) (hs : sep.size ≤ 1) (h : small l) :
    Ev (fun k => impl_joined.f k l sep) (⟨(Lib.join (l.map dd) sep.data.toList).toArray⟩ : ByteArray) := by
  have hmm : (l.map bd).map (·.data.toList) = l.map dd := by
    rw [List.map_map]
    exact List.map_congr_left (fun x _ => bd_list x)
  have hg : ∀ i, i ≤ l.length → Ev (fun k => impl_joined.l0 k sep ((l.take i).map bd) l (l.length : Int) (i : Int)) (⟨(Lib.join (l.map dd) sep.data.toList).toArray⟩ : ByteArray) := by
    refine downTo l.length ?_ ?_
    · have hj : strings_Join.f (l.map bd) sep = some (⟨(Lib.join (l.map dd) sep.data.toList).toArray⟩ : ByteArray) := by
        unfold strings_Join.f
        rw [hmm, if_pos]
        have hb := join_len sep.data.toList l h
        have hsl : sep.data.toList.length = sep.size := by simp
        rw [hsl] at hb
        have : l.length * (sep.size + 2) ≤ 16 * 3 := Nat.mul_le_mul hl (by omega)
        exact ⟨by rw [List.length_map]; omega, by omega⟩
      refine Ev.step (f := fun _ => some (⟨(Lib.join (l.map dd) sep.data.toList).toArray⟩ : ByteArray)) (fun k => ?_) (Ev.now _)
      simp only [impl_joined.l0]
      rw [if_neg (by omega), List.take_length, hj, Option.bind_some]
    · intro i hi ih
      obtain ⟨h0, h1⟩ := small_rd l h i hi
      rw [take_snoc l i hi, List.map_append, List.map_cons, List.map_nil] at ih
      refine Ev.step (f := fun k => impl_joined.l0 k sep ((l.take i).map bd ++ [bd (rd l (i : Int))]) l (l.length : Int) ((i + 1 : Nat) : Int)) (fun k => ?_) ih
      simp only [impl_joined.l0]
      rw [if_pos (by omega), if_pos (by omega), if_pos (by omega), itoa_eq _ h0 h1, Option.bind_some, if_pos (by rw [List.length_map, List.length_take]; omega), wrap_succ i (by omega)]
  exact hg 0 (by omega)
theorem ba_list (B : ByteArray) (L : List UInt8) (h : B.data.toList = L) : B = ⟨L.toArray⟩ := by
  subst h
  apply ByteArray.ext
  simp
theorem ba_append (a b : ByteArray) : (a ++ b).data.toList = a.data.toList ++ b.data.toList := by simp
theorem ev_piText (l : List Int) (hl : l.length ≤ 16) (h : small l) : Ev (fun k => spec_piText.f k l) (⟨(Lib.join (l.map dd) []).toArray⟩ : ByteArray) := by
  have hg : ∀ i, i ≤ l.length → ∀ x : ByteArray, x.size ≤ 2 * i → ∃ B : ByteArray, B.data.toList = x.data.toList ++ ((l.drop i).map dd).flatten ∧ Ev (fun k => spec_piText.l0 k x l (l.length : Int) (i : Int)) B := by
    refine downTo l.length ?_ ?_
    · intro x hx
      refine ⟨x, by rw [List.drop_length]; simp, Ev.step (f := fun _ => some x) (fun k => ?_) (Ev.now _)⟩
      simp only [spec_piText.l0]
      rw [if_neg (by omega)]
    · intro i hi ih x hx
      obtain ⟨h0, h1⟩ := small_rd l h i hi
      have hd := dd_len _ h0 h1
      have hs : (x ++ bd (rd l (i : Int))).size = x.size + (dd (rd l (i : Int))).length := by rw [ByteArray.size_append, bd_size]
      obtain ⟨B, e, ev⟩ := ih (x ++ bd (rd l (i : Int))) (by omega)
      refine ⟨B, by rw [e, ba_append, bd_list, drop_cons l i hi, List.map_cons, List.flatten_cons, List.append_assoc], Ev.step (f := fun k => (spec_l1Num.f k (rd l (i : Int))).bind fun t => if x.size + t.size ≤ 9223372036854775807 then spec_piText.l0 k (x ++ t) l (l.length : Int) ((i + 1 : Nat) : Int) else none) (fun k => ?_) (Ev.bind (ev_l1Num _ h0 h1) ?_)⟩
      · simp only [spec_piText.l0]
        rw [if_pos (by omega), if_pos (by omega), if_pos (by omega), wrap_succ i (by omega)]
      · have hb := bd_size (rd l (i : Int))
        have hc : x.size + (bd (rd l (i : Int))).size ≤ 9223372036854775807 := by omega
        simp only [hc, if_true]
        exact ev
  obtain ⟨B, e, ev⟩ := hg 0 (by omega) (⟨#[]⟩ : ByteArray) (by simp [ByteArray.size])
  have hj : ∀ xs : List (List UInt8), Lib.join xs [] = xs.flatten := by
    intro xs
    cases xs with
    | nil => rfl
    | cons y ys =>
      rw [Lib.join_cons, List.flatten_cons]
      unfold Lib.joinTail
      simp
  have eB := ba_list B (Lib.join (l.map dd) []) (by rw [e, hj]; simp)
  rw [← eB]
  exact ev
theorem ev_soText (l : List Int) (hl : l.length ≤ 16) (h : small l) : Ev (fun k => spec_soText.f k l) (⟨(Lib.join (l.map dd) [45]).toArray⟩ : ByteArray) := by
  have hg : ∀ i, i ≤ l.length → 0 < i → ∀ x : ByteArray, x.size ≤ 3 * i → ∃ B : ByteArray, B.data.toList = x.data.toList ++ Lib.joinTail [45] ((l.drop i).map dd) ∧ Ev (fun k => spec_soText.l0 k x l (l.length : Int) (i : Int)) B := by
    refine downTo l.length ?_ ?_
    · intro _ x hx
      refine ⟨x, by rw [List.drop_length]; simp [Lib.joinTail], Ev.step (f := fun _ => some x) (fun k => ?_) (Ev.now _)⟩
      simp only [spec_soText.l0]
      rw [if_neg (by omega)]
    · intro i hi ih hp x hx
      obtain ⟨h0, h1⟩ := small_rd l h i hi
      have hd := dd_len _ h0 h1
      have hs1 : (x ++ (⟨#[45]⟩ : ByteArray)).size = x.size + 1 := by rw [ByteArray.size_append]; rfl
      have hs : ((x ++ (⟨#[45]⟩ : ByteArray)) ++ bd (rd l (i : Int))).size = x.size + 1 + (dd (rd l (i : Int))).length := by rw [ByteArray.size_append, hs1, bd_size]
      obtain ⟨B, e, ev⟩ := ih (by omega) ((x ++ (⟨#[45]⟩ : ByteArray)) ++ bd (rd l (i : Int))) (by omega)
      refine ⟨B, ?_, Ev.step (f := fun k => (spec_l1Num.f k (rd l (i : Int))).bind fun t => if (x ++ (⟨#[45]⟩ : ByteArray)).size + t.size ≤ 9223372036854775807 then spec_soText.l0 k ((x ++ (⟨#[45]⟩ : ByteArray)) ++ t) l (l.length : Int) ((i + 1 : Nat) : Int) else none) (fun k => ?_) (Ev.bind (ev_l1Num _ h0 h1) ?_)⟩
      · rw [e, ba_append, ba_append, bd_list, drop_cons l i hi, List.map_cons]
        unfold Lib.joinTail
        simp
      · simp only [spec_soText.l0]
        rw [if_pos (by omega), if_pos (by omega), if_pos (by omega), if_pos (by omega), if_pos (by omega), wrap_succ i (by omega)]
      · have hb := bd_size (rd l (i : Int))
        have hc : (x ++ (⟨#[45]⟩ : ByteArray)).size + (bd (rd l (i : Int))).size ≤ 9223372036854775807 := by omega
        simp only [hc, if_true]
        exact ev
  cases l with
  | nil =>
    refine Ev.congr (fun k => by unfold spec_soText.f; rfl) (Ev.step (f := fun _ => some (⟨#[]⟩ : ByteArray)) (fun k => ?_) (Ev.now _))
    simp only [spec_soText.l0]
    rw [if_neg (by simp)]
  | cons y ys =>
    obtain ⟨h0, h1⟩ := h y (List.mem_cons_self ..)
    have hd := dd_len _ h0 h1
    have hb := bd_size y
    obtain ⟨B, e, ev⟩ := hg 1 (by simp) (by omega) (bd y) (by omega)
    have eB := ba_list B (Lib.join ((y :: ys).map dd) [45]) (by rw [e, List.map_cons, Lib.join_cons, bd_list]; rfl)
    rw [← eB]
    refine Ev.congr (f := fun k => spec_soText.l0 k (⟨#[]⟩ : ByteArray) (y :: ys) ((y :: ys).length : Int) ((0 : Nat) : Int)) (fun k => by unfold spec_soText.f; rfl) ?_
    have hrd : rd (y :: ys) ((0 : Nat) : Int) = y := by rw [rd_nat]; rfl
    refine Ev.step (f := fun k => (spec_l1Num.f k y).bind fun t => if (⟨#[]⟩ : ByteArray).size + t.size ≤ 9223372036854775807 then spec_soText.l0 k ((⟨#[]⟩ : ByteArray) ++ t) (y :: ys) ((y :: ys).length : Int) ((1 : Nat) : Int) else none) (fun k => ?_) (Ev.bind (ev_l1Num _ h0 h1) ?_)
    · simp only [spec_soText.l0]
      rw [if_pos (by simp), if_pos (by omega), if_pos (by simp), if_neg (by omega), hrd, wrap_succ 0 (by omega)]
    · have hz : (⟨#[]⟩ : ByteArray).size = 0 := rfl
      have hc : (⟨#[]⟩ : ByteArray).size + (bd y).size ≤ 9223372036854775807 := by omega
      simp only [hc, if_true]
      have hn : (⟨#[]⟩ : ByteArray) ++ bd y = bd y := by
        apply ByteArray.ext
        simp
      rw [hn]
      exact ev

end Go.Proofs.YtfllamjkifbpmaaDoor.PureText
