/- The pure statement of the law FnExactWaitsOfPile: for every slice of int64 numbers the program's WaitsOfPile and the reference's WaitsOfPile return the same list and the same bool, the result is new memory, and the argument reads afterwards as before. No condition beside the row's own reach. -/
import Derived.Test.YtlhennggbnlkpaaQWaitsOfPilex2
import Derived.Test.YtlhennggbnlkpaaPurePile
namespace Go.Proofs.Ytlhennggbnlkpaa.PureWaitsOfPile
open Go.RowKit Go.Proofs.Ytlhennggbnlkpaa.QWaitsOfPile Go.Proofs.Ytlhennggbnlkpaa.QPile Go.Proofs.Ytlhennggbnlkpaa.PurePile Go.Proofs.YtlhennggbnlkpaaW.PrintWords Go.Proofs.YtlhennggbnlkpaaW.PrintLast Go.Proofs.YtlhennggbnlkpaaW.PrintMore
open Go.Proofs.Ytlhennggbnlkpaa.XHeights

/-! ### the law's own marks, and the law -/
theorem ev_markIntS (l : List Int) (hl : l.length ≤ 1048576) : ∃ o : List Int, o.length = l.length ∧ (∀ j, j < o.length → o.getD j 0 = (j : Int) + 1) ∧ Ev (fun k => QWaitsOfPile.laws_markIntS.f k l 1) ((l.length : Int) + 1, o) := by
  have h : ∀ i, i ≤ l.length → ∀ o : List Int, o.length = l.length → (∀ j, j < i → o.getD j 0 = (j : Int) + 1) → ∃ o' : List Int, o'.length = l.length ∧ (∀ j, j < o'.length → o'.getD j 0 = (j : Int) + 1) ∧ Ev (fun k => QWaitsOfPile.laws_markIntS.l0 k o ((i : Int) + 1) (i : Int)) ((l.length : Int) + 1, o') := by
    refine downTo l.length ?_ ?_
    · intro o ho hj
      refine ⟨o, ho, fun j h => hj j (by omega), Ev.step (f := fun _ => some ((l.length : Int) + 1, o)) (fun k => ?_) (Ev.now _)⟩
      simp only [QWaitsOfPile.laws_markIntS.l0]
      rw [if_neg (by omega)]
    · intro i hil ih o ho hj
      obtain ⟨o', h1, h2, h3⟩ := ih (o.set i ((i : Int) + 1)) (by rw [List.length_set]; exact ho) (fun j hji => by
        rw [List.getD_eq_getElem?_getD, List.getElem?_set]
        by_cases e : i = j
        · subst e
          rw [if_pos rfl, if_pos (by omega)]; rfl
        · rw [if_neg e, ← List.getD_eq_getElem?_getD]
          exact hj j (by omega))
      refine ⟨o', h1, h2, Ev.step (f := fun k => QWaitsOfPile.laws_markIntS.l0 k (o.set i ((i : Int) + 1)) (((i + 1 : Nat) : Int) + 1) ((i + 1 : Nat) : Int)) (fun k => ?_) h3⟩
      simp only [QWaitsOfPile.laws_markIntS.l0, Int.toNat_natCast]
      rw [if_pos (by omega), if_pos (by omega), wrap_succ i (by omega), show wrap64 ((i : Int) + 1 + 1) = ((i + 1 : Nat) : Int) + 1 from by unfold wrap64; omega]
  obtain ⟨o, h1, h2, h3⟩ := h 0 (by omega) l rfl (fun j hj => by omega)
  exact ⟨o, h1, h2, h3⟩

theorem law_of (l : List Int) (hl : l.length ≤ 1048576) (res : List Int) (ok : Bool) (hres : res.length ≤ 1048576) (hs : Ev (fun k => spec_WaitsOfPile.f k l) (res, ok)) (hi : Ev (fun k => impl_WaitsOfPile.f k l) (res, ok)) : Ev (fun k => laws_FnExactWaitsOfPile.f k l) true := by
  obtain ⟨o, ho1, ho2, ho3⟩ := ev_markIntS l hl
  obtain ⟨o2, hq1, hq2, hq3⟩ := ev_markIntS res hres
  have hh := ev_heldIntS o2 (by omega) hq2
  rw [hq1] at hh
  have h2 : Ev (fun k => laws_FnExactWaitsOfPile.j2 k o2 ((res.length : Int) + 1) false) true := by
    refine Ev.step (f := fun k => (laws_heldIntS.f k o2 1).bind fun t => if t < 0 then some false else if t = (res.length : Int) + 1 then some true else some false) (fun k => ?_) (Ev.bind hh ?_)
    · simp only [laws_FnExactWaitsOfPile.j2, Bool.false_eq_true, if_false]
    · refine Ev.congr (f := fun _ => some true) (fun k => ?_) (Ev.now _)
      rw [if_neg (by omega), if_pos rfl]
  have h1 : Ev (fun k => laws_FnExactWaitsOfPile.j1 k l res ok res false) true := by
    refine Ev.step (f := fun k => (QWaitsOfPile.laws_markIntS.f k res 1).bind fun bt => (laws_heldIntS.f k bt.2 1).bind fun t => if t < 0 then some false else if t = bt.1 then (laws_toIntS.f k l).bind fun t2 => (impl_WaitsOfPile.f k t2).bind fun b2 => (laws_eqIntS.f k b2.1 res).bind fun t3 => if t3 = true then laws_FnExactWaitsOfPile.j2 k bt.2 bt.1 (b2.2 != ok) else laws_FnExactWaitsOfPile.j2 k bt.2 bt.1 true else some false) (fun k => ?_) (Ev.bind hq3 (Ev.bind hh ?_))
    · simp only [laws_FnExactWaitsOfPile.j1, Bool.false_eq_true, if_false]
    · refine Ev.congr (f := fun k => (laws_toIntS.f k l).bind fun t2 => (impl_WaitsOfPile.f k t2).bind fun b2 => (laws_eqIntS.f k b2.1 res).bind fun t3 => if t3 = true then laws_FnExactWaitsOfPile.j2 k o2 ((res.length : Int) + 1) (b2.2 != ok) else laws_FnExactWaitsOfPile.j2 k o2 ((res.length : Int) + 1) true) (fun k => ?_) ?_
      · rw [if_neg (by omega), if_pos rfl]
      · refine Ev.bind (ev_toIntS l hl) (Ev.bind hi (Ev.bind (ev_eqIntS res hres) ?_))
        simp only [if_true, bne_self_eq_false]
        exact h2
  have h0 : Ev (fun k => laws_FnExactWaitsOfPile.j0 k l res ok l res ok false) true := by
    refine Ev.step (f := fun k => (laws_toIntS.f k l).bind fun t => (laws_eqIntS.f k l t).bind fun t2 => if t2 = true then (QWaitsOfPile.laws_markIntS.f k l 1).bind fun bt => if bt.1 < 0 then laws_FnExactWaitsOfPile.j1 k l res ok res true else (laws_eqIntS.f k res res).bind fun t3 => if t3 = true then laws_FnExactWaitsOfPile.j1 k l res ok res (ok != ok) else laws_FnExactWaitsOfPile.j1 k l res ok res true else some false) (fun k => ?_) (Ev.bind (ev_toIntS l hl) (Ev.bind (ev_eqIntS l hl) ?_))
    · simp only [laws_FnExactWaitsOfPile.j0, Bool.false_eq_true, if_false]
    · simp only [if_true]
      refine Ev.bind ho3 ?_
      refine Ev.congr (f := fun k => (laws_eqIntS.f k res res).bind fun t3 => if t3 = true then laws_FnExactWaitsOfPile.j1 k l res ok res (ok != ok) else laws_FnExactWaitsOfPile.j1 k l res ok res true) (fun k => ?_) (Ev.bind (ev_eqIntS res hres) ?_)
      · rw [if_neg (by omega)]
      · simp only [if_true, bne_self_eq_false]
        exact h1
  refine Ev.congr (f := fun k => (laws_toIntS.f k l).bind fun t => (spec_WaitsOfPile.f k t).bind fun b => (laws_toIntS.f k l).bind fun t2 => (impl_WaitsOfPile.f k t2).bind fun b2 => (laws_eqIntS.f k b2.1 b.1).bind fun t3 => if t3 = true then laws_FnExactWaitsOfPile.j0 k l b.1 b.2 t2 b2.1 b2.2 (b2.2 != b.2) else laws_FnExactWaitsOfPile.j0 k l b.1 b.2 t2 b2.1 b2.2 true) (fun k => ?_) ?_
  · unfold laws_FnExactWaitsOfPile.f
    rw [if_neg (by omega)]
  · refine Ev.bind (ev_toIntS l hl) (Ev.bind hs (Ev.bind (ev_toIntS l hl) (Ev.bind hi (Ev.bind (ev_eqIntS res hres) ?_))))
    simp only [if_true, bne_self_eq_false]
    exact h0

theorem law_long (l : List Int) (hl : ¬ l.length ≤ 1048576) : Ev (fun k => laws_FnExactWaitsOfPile.f k l) true := by
  refine Ev.congr (f := fun k => some true) (fun k => ?_) (Ev.now _)
  unfold laws_FnExactWaitsOfPile.f
  rw [if_pos (by omega)]

/-! ### where the two socks of a pair lie -/
theorem none_at (v : Int) : ∀ l : List Int, l.count v = 0 → ∀ j, j < l.length → l.getD j 0 ≠ v := by
  intro l
  induction l with
  | nil => intro _ j hj; simp at hj
  | cons x xs ih =>
    intro h j hj
    rw [List.count_cons] at h
    by_cases hx : x = v
    · rw [hx] at h; simp at h
    · rcases j with _ | j
      · exact hx
      · exact ih (by omega) j (by simpa using hj)
theorem one_at (v : Int) : ∀ l : List Int, l.count v = 1 → ∃ q, q < l.length ∧ l.getD q 0 = v ∧ ∀ j, j < l.length → l.getD j 0 = v → j = q := by
  intro l
  induction l with
  | nil => intro h; simp at h
  | cons x xs ih =>
    intro h
    rw [List.count_cons] at h
    by_cases hx : x = v
    · subst hx
      simp only [BEq.rfl, if_true] at h
      refine ⟨0, by simp, rfl, fun j hj e => ?_⟩
      rcases j with _ | j
      · rfl
      · exact absurd e (none_at x xs (by omega) j (by simpa using hj))
    · rw [beq_false_of_ne hx] at h
      obtain ⟨q, h1, h2, h3⟩ := ih (by simpa using h)
      refine ⟨q + 1, by simpa using h1, h2, fun j hj e => ?_⟩
      rcases j with _ | j
      · exact absurd e hx
      · have := h3 j (by simpa using hj) e; omega
def Places (l : List Int) (v : Int) (p q : Nat) : Prop := p < q ∧ q < l.length ∧ l.getD p 0 = v ∧ l.getD q 0 = v ∧ ∀ j, j < l.length → l.getD j 0 = v → j = p ∨ j = q
theorem two_at (v : Int) : ∀ l : List Int, l.count v = 2 → ∃ p q, Places l v p q := by
  intro l
  induction l with
  | nil => intro h; simp at h
  | cons x xs ih =>
    intro h
    rw [List.count_cons] at h
    by_cases hx : x = v
    · subst hx
      simp only [BEq.rfl, if_true] at h
      obtain ⟨q, h1, h2, h3⟩ := one_at x xs (by omega)
      refine ⟨0, q + 1, by omega, by simpa using h1, rfl, h2, fun j hj e => ?_⟩
      rcases j with _ | j
      · exact .inl rfl
      · have := h3 j (by simpa using hj) e; exact .inr (by omega)
    · rw [beq_false_of_ne hx] at h
      obtain ⟨p, q, h1, h2, h3, h4, h5⟩ := ih (by simpa using h)
      refine ⟨p + 1, q + 1, by omega, by simpa using h2, h3, h4, fun j hj e => ?_⟩
      rcases j with _ | j
      · exact absurd e hx
      · rcases h5 j (by simpa using hj) e with h | h
        · exact .inl (by omega)
        · exact .inr (by omega)
theorem places_one {l : List Int} {v : Int} {p q p' q' : Nat} (h : Places l v p q) (h' : Places l v p' q') : p = p' ∧ q = q' := by
  obtain ⟨a1, a2, a3, a4, a5⟩ := h
  obtain ⟨b1, b2, b3, b4, b5⟩ := h'
  have c1 := b5 p (by omega) a3
  have c2 := b5 q (by omega) a4
  have c3 := a5 p' (by omega) b3
  omega
theorem mem_take_iff (l : List Int) (i : Nat) (hi : i ≤ l.length) (x : Int) : x ∈ l.take i ↔ ∃ j, j < i ∧ l.getD j 0 = x := by
  rw [List.mem_take_iff_getElem]
  constructor
  · rintro ⟨j, hj, e⟩
    refine ⟨j, by omega, ?_⟩
    rw [List.getD_eq_getElem?_getD, List.getElem?_eq_getElem (by omega)]
    exact e
  · rintro ⟨j, hj, e⟩
    refine ⟨j, by omega, ?_⟩
    rw [List.getD_eq_getElem?_getD, List.getElem?_eq_getElem (by omega)] at e
    exact e
theorem two_of (l : List Int) (n : Nat) (hn : l.length = 2 * n) (hr : ∀ x ∈ l, 0 ≤ x ∧ x ≤ (n : Int) - 1) (hc : ∀ x ∈ l, l.count x = 2) : ∀ v, v < n → l.count (v : Int) = 2 :=
  counts_two n (fun v => l.count (v : Int)) (fun v _ => by
    by_cases h : (v : Int) ∈ l
    · rw [hc _ h]; exact Nat.le_refl _
    · rw [List.count_eq_zero_of_not_mem h]; omega) (by rw [sum_counts n l hr, hn])

/-- The list of waits. -/
def Waits (l : List Int) (n : Nat) (R : List Int) : Prop := R.length = n ∧ ∀ v, v < n → ∀ p q, Places l (v : Int) p q → R.getD v 0 = (q : Int) - p - 1
theorem waits_ext {l : List Int} {n : Nat} {R R' : List Int} (hp : ∀ v, v < n → ∃ p q, Places l (v : Int) p q) (h : Waits l n R) (h' : Waits l n R') : R = R' :=
  List.ext_getElem (h.1.trans h'.1.symm) fun v h1 h2 => by
    obtain ⟨p, q, e⟩ := hp v (by have := h.1; omega)
    have a := h.2 v (by have := h.1; omega) p q e
    have b := h'.2 v (by have := h.1; omega) p q e
    rw [List.getD_eq_getElem?_getD, List.getElem?_eq_getElem h1] at a
    rw [List.getD_eq_getElem?_getD, List.getElem?_eq_getElem h2] at b
    exact a.trans b.symm

theorem getD_set (o : List Int) (a b : Nat) (x : Int) (ha : a < o.length) : (o.set a x).getD b 0 = if a = b then x else o.getD b 0 := by
  rw [List.getD_eq_getElem?_getD, List.getElem?_set]
  by_cases h : a = b
  · subst h; rw [if_pos rfl, if_pos ha, if_pos rfl]; rfl
  · rw [if_neg h, if_neg h, List.getD_eq_getElem?_getD]

theorem ev_waitsSpec (l : List Int) (n : Nat) (hl : l.length ≤ 1048576) (hr : ∀ x ∈ l, 0 ≤ x ∧ x ≤ (n : Int) - 1) (hp : ∀ v, v < n → ∃ p q, Places l (v : Int) p q) :
    ∃ R, Waits l n R ∧ Ev (fun k => spec_WaitsOfPile.l0 k l (List.replicate n 0) (List.replicate n 0) l (l.length : Int) 0) (R, true) := by
  have h : ∀ i, i ≤ l.length → ∀ out first : List Int, out.length = n → first.length = n →
      (∀ v, v < n → ∀ p q, Places l (v : Int) p q → (p < i → first.getD v 0 = (p : Int)) ∧ (q < i → out.getD v 0 = (q : Int) - p - 1)) →
      ∃ R, Waits l n R ∧ Ev (fun k => spec_WaitsOfPile.l0 k l out first l (l.length : Int) (i : Int)) (R, true) := by
    refine downTo l.length ?_ ?_
    · intro out first ho hf hi
      refine ⟨out, ⟨ho, fun v hv p q hpq => (hi v hv p q hpq).2 hpq.2.1⟩, Ev.step (f := fun _ => some (out, true)) (fun k => ?_) (Ev.now _)⟩
      simp only [spec_WaitsOfPile.l0]
      rw [if_neg (by omega)]
    · intro i hil ih out first ho hf hinv
      obtain ⟨hx0, hx1⟩ := hr (rd l (i : Int)) (by rw [rd_get l i hil]; exact List.getElem_mem hil)
      obtain ⟨v, hv⟩ : ∃ v : Nat, rd l (i : Int) = (v : Int) := ⟨(rd l (i : Int)).toNat, by omega⟩
      have hvn : v < n := by omega
      obtain ⟨p, q, hpq⟩ := hp v hvn
      obtain ⟨h1, h2, h3, h4, h5⟩ := hpq
      have hgi : l.getD i 0 = (v : Int) := by rw [← rd_nat]; exact hv
      have hhas : Ev (fun k => spec_l1Has.f k (l.take i) (v : Int)) (decide ((v : Int) ∈ l.take i)) := ev_l1Has _ _ (by rw [List.length_take]; omega)
      rcases h5 i hil hgi with hip | hiq
      · -- the first one
        have hnm : ¬ (v : Int) ∈ l.take i := by
          rw [mem_take_iff l i (by omega)]
          rintro ⟨j, hj, e⟩
          rcases h5 j (by omega) e with h | h <;> omega
        obtain ⟨R, hR, he⟩ := ih out (first.set v (i : Int)) ho (by rw [List.length_set]; exact hf) (fun v' hv' p' q' hpq' => by
          by_cases e : v = v'
          · subst e
            obtain ⟨rfl, rfl⟩ := places_one ⟨h1, h2, h3, h4, h5⟩ hpq'
            exact ⟨fun _ => by rw [getD_set _ _ _ _ (by omega), if_pos rfl, hip], fun h => by omega⟩
          · refine ⟨fun h => ?_, fun h => ?_⟩
            · rw [getD_set _ _ _ _ (by omega), if_neg e]
              refine (hinv v' hv' p' q' hpq').1 ?_
              by_cases e2 : p' = i
              · have := hpq'.2.2.1; rw [e2, hgi] at this; omega
              · omega
            · refine (hinv v' hv' p' q' hpq').2 ?_
              by_cases e2 : q' = i
              · have := hpq'.2.2.2.1; rw [e2, hgi] at this; omega
              · omega)
        refine ⟨R, hR, Ev.step (f := fun k => (spec_l1Has.f k (l.take i) (v : Int)).bind fun t => if t = true then (if (v : Int) < (first.length : Int) then (if (v : Int) < (out.length : Int) then spec_WaitsOfPile.l0 k l (out.set v (wrap64 (wrap64 ((i : Int) - rd first (v : Int)) - 1))) first l (l.length : Int) ((i + 1 : Nat) : Int) else none) else none) else spec_WaitsOfPile.l0 k l out (first.set v (i : Int)) l (l.length : Int) ((i + 1 : Nat) : Int)) (fun k => ?_) (Ev.bind hhas ?_)⟩
        · simp only [spec_WaitsOfPile.l0, hv, Int.toNat_natCast]
          rw [if_pos (by omega), if_pos (by omega), if_pos (by omega), if_pos (by omega), wrap_succ i (by omega)]
          simp only [show (0 : Int) ≤ (v : Int) from by omega, show (v : Int) < (first.length : Int) from by omega, if_true]
        · simp only [hnm, decide_false, Bool.false_eq_true, if_false]
          exact he
      · -- the second one
        have hnm : (v : Int) ∈ l.take i := by
          rw [mem_take_iff l i (by omega)]
          exact ⟨p, by omega, h3⟩
        have hfp : rd first (v : Int) = (p : Int) := by rw [rd_nat]; exact (hinv v hvn p q ⟨h1, h2, h3, h4, h5⟩).1 (by omega)
        obtain ⟨R, hR, he⟩ := ih (out.set v ((i : Int) - p - 1)) first (by rw [List.length_set]; exact ho) hf (fun v' hv' p' q' hpq' => by
          by_cases e : v = v'
          · subst e
            obtain ⟨rfl, rfl⟩ := places_one ⟨h1, h2, h3, h4, h5⟩ hpq'
            exact ⟨fun _ => (hinv v hvn p q ⟨h1, h2, h3, h4, h5⟩).1 (by omega), fun _ => by rw [getD_set _ _ _ _ (by omega), if_pos rfl, hiq]⟩
          · refine ⟨fun h => ?_, fun h => ?_⟩
            · refine (hinv v' hv' p' q' hpq').1 ?_
              by_cases e2 : p' = i
              · have := hpq'.2.2.1; rw [e2, hgi] at this; omega
              · omega
            · rw [getD_set _ _ _ _ (by omega), if_neg e]
              refine (hinv v' hv' p' q' hpq').2 ?_
              by_cases e2 : q' = i
              · have := hpq'.2.2.2.1; rw [e2, hgi] at this; omega
              · omega)
        refine ⟨R, hR, Ev.step (f := fun k => (spec_l1Has.f k (l.take i) (v : Int)).bind fun t => if t = true then spec_WaitsOfPile.l0 k l (out.set v ((i : Int) - p - 1)) first l (l.length : Int) ((i + 1 : Nat) : Int) else spec_WaitsOfPile.l0 k l out (first.set v (i : Int)) l (l.length : Int) ((i + 1 : Nat) : Int)) (fun k => ?_) (Ev.bind hhas ?_)⟩
        · simp only [spec_WaitsOfPile.l0, hv, Int.toNat_natCast, hfp]
          rw [if_pos (by omega), if_pos (by omega), if_pos (by omega), if_pos (by omega), wrap_succ i (by omega), show wrap64 (wrap64 ((i : Int) - (p : Int)) - 1) = (i : Int) - p - 1 from by unfold wrap64; omega]
          simp only [show (0 : Int) ≤ (v : Int) from by omega, show (v : Int) < (first.length : Int) from by omega, show (v : Int) < (out.length : Int) from by omega, if_true]
        · simp only [hnm, decide_true, if_true]
          exact he
  exact h 0 (by omega) _ _ (by simp) (by simp) (fun v _ p q _ => ⟨fun h => by omega, fun h => by omega⟩)

theorem ev_IndexAt (L : List Int) (hl : L.length ≤ 1048576) (m : Int) (a : Nat) (ha : a < L.length) (hm : L.getD a 0 = m) (hne : ∀ j, j < a → L.getD j 0 ≠ m) : Ev (fun k => slices_Index_int_int.f k L m) (a : Int) := by
  have h : ∀ i, i ≤ a → Ev (fun k => slices_Index_int_int.l0 k L m (L.length : Int) (i : Int)) (a : Int) := by
    refine downTo a ?_ ?_
    · refine Ev.step (f := fun _ => some (a : Int)) (fun k => ?_) (Ev.now _)
      simp only [slices_Index_int_int.l0]
      rw [if_pos (by omega), if_pos (by omega), if_pos (by omega), if_pos (by rw [rd_nat]; exact hm.symm)]
    · intro i hia ih
      refine Ev.step (f := fun k => slices_Index_int_int.l0 k L m (L.length : Int) ((i + 1 : Nat) : Int)) (fun k => ?_) ih
      simp only [slices_Index_int_int.l0]
      rw [if_pos (by omega), if_pos (by omega), if_pos (by omega), if_neg (fun e => hne i hia (by rw [← rd_nat]; exact e.symm)), wrap_succ i (by omega)]
  exact h 0 (by omega)

theorem ev_waitsImpl (l : List Int) (n : Nat) (hl : l.length ≤ 1048576) (hn : l.length = 2 * n) (hp : ∀ v, v < n → ∃ p q, Places l (v : Int) p q) (R : List Int) (hR : Waits l n R) :
    Ev (fun k => impl_WaitsOfPile.l0 k l [] (n : Int) 0) (R, true) := by
  have h : ∀ v, v ≤ n → ∀ xs : List Int, xs = R.take v → Ev (fun k => impl_WaitsOfPile.l0 k l xs (n : Int) (v : Int)) (R, true) := by
    refine downTo n ?_ ?_
    · intro xs e
      refine Ev.step (f := fun _ => some (xs, true)) (fun k => ?_) (by rw [e, List.take_of_length_le (by rw [hR.1]; exact Nat.le_refl _)]; exact Ev.now _)
      simp only [impl_WaitsOfPile.l0]
      rw [if_neg (by omega)]
    · intro v hv ih xs e
      obtain ⟨p, q, h1, h2, h3, h4, h5⟩ := hp v hv
      have hxl : xs.length ≤ 1048576 := by rw [e, List.length_take]; have := hR.1; omega
      have hi1 := ev_IndexAt l hl (v : Int) p (by omega) h3 (fun j hj ej => by rcases h5 j (by omega) ej with h | h <;> omega)
      have hdl : (l.drop (p + 1)).length = l.length - (p + 1) := List.length_drop
      have hdg : ∀ j, (l.drop (p + 1)).getD j 0 = l.getD (p + 1 + j) 0 := fun j => by
        rw [List.getD_eq_getElem?_getD, List.getElem?_drop, List.getD_eq_getElem?_getD]
      have hi2 := ev_IndexAt (l.drop (p + 1)) (by omega) (v : Int) (q - (p + 1)) (by omega) (by rw [hdg, show p + 1 + (q - (p + 1)) = q from by omega]; exact h4) (fun j hj ej => by
        rw [hdg] at ej
        rcases h5 (p + 1 + j) (by omega) ej with h | h <;> omega)
      have hpart : Ev (fun k => impl_partner.f k l (p : Int)) (q : Int) := by
        refine Ev.congr (f := fun k => (slices_Index_int_int.f k (l.drop (p + 1)) (v : Int)).bind fun t => some (wrap64 (((p + 1 : Nat) : Int) + t))) (fun k => ?_) (Ev.bind hi2 ?_)
        · unfold impl_partner.f
          rw [wrap_succ p (by omega), if_pos (by omega), if_pos (by omega), if_pos (by omega), if_pos (by omega), Int.toNat_natCast, rd_nat, h3]
        · rw [show wrap64 (((p + 1 : Nat) : Int) + ((q - (p + 1) : Nat) : Int)) = (q : Int) from by unfold wrap64; omega]
          exact Ev.now _
      have hval := hR.2 v hv p q ⟨h1, h2, h3, h4, h5⟩
      refine Ev.step (f := fun k => (slices_Index_int_int.f k l (v : Int)).bind fun t => (impl_partner.f k l t).bind fun t2 => impl_WaitsOfPile.l0 k l (xs ++ [wrap64 (wrap64 (t2 - t) - 1)]) (n : Int) ((v + 1 : Nat) : Int)) (fun k => ?_) (Ev.bind hi1 (Ev.bind hpart ?_))
      · simp only [impl_WaitsOfPile.l0]
        rw [if_pos (by omega), wrap_succ v (by omega)]
        simp only [show xs.length < 17592186044416 from by omega, if_true]
      · rw [show wrap64 (wrap64 ((q : Int) - (p : Int)) - 1) = (q : Int) - p - 1 from by unfold wrap64; omega]
        refine ih _ ?_
        rw [take_snoc R v (by rw [hR.1]; exact hv), e, rd_nat, hval]
  exact h 0 (by omega) [] rfl

theorem law : laws_FnExactWaitsOfPile.Pure := by
  intro l _ _ _
  apply Ev.rounds
  by_cases hl : l.length ≤ 1048576
  · cases hp : okPile l with
    | true =>
      obtain ⟨h16, _, heven, hr, hc⟩ := okPile_range l hp
      obtain ⟨n, hn⟩ : ∃ n, l.length = 2 * n := ⟨l.length / 2, by omega⟩
      have hd : l.length / 2 = n := by omega
      rw [hd] at hr
      have hw : wrap64 ((l.length : Int) / 2) = (n : Int) := by unfold wrap64; omega
      have hpl : ∀ v, v < n → ∃ p q, Places l (v : Int) p q := fun v hv => two_at _ _ (two_of l n hn hr hc v hv)
      obtain ⟨R, hR, he⟩ := ev_waitsSpec l n hl hr hpl
      refine law_of l hl R true (by rw [hR.1]; omega) ?_ ?_
      · unfold spec_WaitsOfPile.f
        refine Ev.bind (ev_piGood l hl) ?_
        rw [hp, hw]
        simp only [if_true, Int.toNat_natCast, show (0 : Int) ≤ (n : Int) from by omega, show n ≤ 35184372088832 from by omega]
        exact he
      · unfold impl_WaitsOfPile.f
        refine Ev.bind (ev_IsPile l hl) ?_
        rw [hp, hw]
        simp only [if_true]
        exact ev_waitsImpl l n hl hn hpl R hR
    | false =>
      refine law_of l hl [] false (by simp) ?_ ?_
      · unfold spec_WaitsOfPile.f
        refine Ev.bind (ev_piGood l hl) ?_
        rw [hp]
        simp only [Bool.false_eq_true, if_false]
        exact Ev.now _
      · unfold impl_WaitsOfPile.f
        refine Ev.bind (ev_IsPile l hl) ?_
        rw [hp]
        simp only [Bool.false_eq_true, if_false]
        exact Ev.now _
  · exact law_long l hl

end Go.Proofs.Ytlhennggbnlkpaa.PureWaitsOfPile
namespace Go.Proofs.Ytlhennggbnlkpaa.Pure
theorem FnExactWaitsOfPile : Go.Proofs.Ytlhennggbnlkpaa.QWaitsOfPile.laws_FnExactWaitsOfPile.Pure := Go.Proofs.Ytlhennggbnlkpaa.PureWaitsOfPile.law
end Go.Proofs.Ytlhennggbnlkpaa.Pure
