/- The pure statement of the law FnExactMatchedBehind: for every slice of int64 numbers and every int64 number the program's MatchedBehind and the reference's MatchedBehind return the same list and the same bool, the result is new memory, and the argument reads afterwards as before. No condition beside the row's own reach. -/
import Derived.Test.YtlhennggbnlkpaaQMatchedBehindx2
import Derived.Test.YtlhennggbnlkpaaPurePile
namespace Go.Proofs.Ytlhennggbnlkpaa.PureMatchedBehind
open Go.RowKit Go.Proofs.Ytlhennggbnlkpaa.QMatchedBehind Go.Proofs.Ytlhennggbnlkpaa.QPile Go.Proofs.Ytlhennggbnlkpaa.PurePile Go.Proofs.YtlhennggbnlkpaaW.PrintWords Go.Proofs.YtlhennggbnlkpaaW.PrintLast Go.Proofs.YtlhennggbnlkpaaW.PrintMore
open Go.Proofs.Ytlhennggbnlkpaa.XHeights

/-! ### the law's own marks, and the law -/
theorem ev_markIntS (l : List Int) (hl : l.length ≤ 1048576) : ∃ o : List Int, o.length = l.length ∧ (∀ j, j < o.length → o.getD j 0 = (j : Int) + 1) ∧ Ev (fun k => QMatchedBehind.laws_markIntS.f k l 1) ((l.length : Int) + 1, o) := by
  have h : ∀ i, i ≤ l.length → ∀ o : List Int, o.length = l.length → (∀ j, j < i → o.getD j 0 = (j : Int) + 1) → ∃ o' : List Int, o'.length = l.length ∧ (∀ j, j < o'.length → o'.getD j 0 = (j : Int) + 1) ∧ Ev (fun k => QMatchedBehind.laws_markIntS.l0 k o ((i : Int) + 1) (i : Int)) ((l.length : Int) + 1, o') := by
    refine downTo l.length ?_ ?_
    · intro o ho hj
      refine ⟨o, ho, fun j h => hj j (by omega), Ev.step (f := fun _ => some ((l.length : Int) + 1, o)) (fun k => ?_) (Ev.now _)⟩
      simp only [QMatchedBehind.laws_markIntS.l0]
      rw [if_neg (by omega)]
    · intro i hil ih o ho hj
      obtain ⟨o', h1, h2, h3⟩ := ih (o.set i ((i : Int) + 1)) (by rw [List.length_set]; exact ho) (fun j hji => by
        rw [List.getD_eq_getElem?_getD, List.getElem?_set]
        by_cases e : i = j
        · subst e
          rw [if_pos rfl, if_pos (by omega)]; rfl
        · rw [if_neg e, ← List.getD_eq_getElem?_getD]
          exact hj j (by omega))
      refine ⟨o', h1, h2, Ev.step (f := fun k => QMatchedBehind.laws_markIntS.l0 k (o.set i ((i : Int) + 1)) (((i + 1 : Nat) : Int) + 1) ((i + 1 : Nat) : Int)) (fun k => ?_) h3⟩
      simp only [QMatchedBehind.laws_markIntS.l0, Int.toNat_natCast]
      rw [if_pos (by omega), if_pos (by omega), wrap_succ i (by omega), show wrap64 ((i : Int) + 1 + 1) = ((i + 1 : Nat) : Int) + 1 from by unfold wrap64; omega]
  obtain ⟨o, h1, h2, h3⟩ := h 0 (by omega) l rfl (fun j hj => by omega)
  exact ⟨o, h1, h2, h3⟩

theorem law_of (l : List Int) (a1 : Int) (hl : l.length ≤ 1048576) (res : List Int) (ok : Bool) (hres : res.length ≤ 1048576) (hs : Ev (fun k => spec_MatchedBehind.f k l a1) (res, ok)) (hi : Ev (fun k => impl_MatchedBehind.f k l a1) (res, ok)) : Ev (fun k => laws_FnExactMatchedBehind.f k l a1) true := by
  obtain ⟨o, ho1, ho2, ho3⟩ := ev_markIntS l hl
  obtain ⟨o2, hq1, hq2, hq3⟩ := ev_markIntS res hres
  have hh := ev_heldIntS o2 (by omega) hq2
  rw [hq1] at hh
  have h2 : Ev (fun k => laws_FnExactMatchedBehind.j2 k o2 ((res.length : Int) + 1) false) true := by
    refine Ev.step (f := fun k => (laws_heldIntS.f k o2 1).bind fun t => if t < 0 then some false else if t = (res.length : Int) + 1 then some true else some false) (fun k => ?_) (Ev.bind hh ?_)
    · simp only [laws_FnExactMatchedBehind.j2, Bool.false_eq_true, if_false]
    · refine Ev.congr (f := fun _ => some true) (fun k => ?_) (Ev.now _)
      rw [if_neg (by omega), if_pos rfl]
  have h1 : Ev (fun k => laws_FnExactMatchedBehind.j1 k l a1 res ok res false) true := by
    refine Ev.step (f := fun k => (QMatchedBehind.laws_markIntS.f k res 1).bind fun bt => (laws_heldIntS.f k bt.2 1).bind fun t => if t < 0 then some false else if t = bt.1 then (laws_toIntS.f k l).bind fun t2 => (impl_MatchedBehind.f k t2 a1).bind fun b2 => (laws_eqIntS.f k b2.1 res).bind fun t3 => if t3 = true then laws_FnExactMatchedBehind.j2 k bt.2 bt.1 (b2.2 != ok) else laws_FnExactMatchedBehind.j2 k bt.2 bt.1 true else some false) (fun k => ?_) (Ev.bind hq3 (Ev.bind hh ?_))
    · simp only [laws_FnExactMatchedBehind.j1, Bool.false_eq_true, if_false]
    · refine Ev.congr (f := fun k => (laws_toIntS.f k l).bind fun t2 => (impl_MatchedBehind.f k t2 a1).bind fun b2 => (laws_eqIntS.f k b2.1 res).bind fun t3 => if t3 = true then laws_FnExactMatchedBehind.j2 k o2 ((res.length : Int) + 1) (b2.2 != ok) else laws_FnExactMatchedBehind.j2 k o2 ((res.length : Int) + 1) true) (fun k => ?_) ?_
      · rw [if_neg (by omega), if_pos rfl]
      · refine Ev.bind (ev_toIntS l hl) (Ev.bind hi (Ev.bind (ev_eqIntS res hres) ?_))
        simp only [if_true, bne_self_eq_false]
        exact h2
  have h0 : Ev (fun k => laws_FnExactMatchedBehind.j0 k l a1 res ok l res ok false) true := by
    refine Ev.step (f := fun k => (laws_toIntS.f k l).bind fun t => (laws_eqIntS.f k l t).bind fun t2 => if t2 = true then (QMatchedBehind.laws_markIntS.f k l 1).bind fun bt => if bt.1 < 0 then laws_FnExactMatchedBehind.j1 k l a1 res ok res true else (laws_eqIntS.f k res res).bind fun t3 => if t3 = true then laws_FnExactMatchedBehind.j1 k l a1 res ok res (ok != ok) else laws_FnExactMatchedBehind.j1 k l a1 res ok res true else some false) (fun k => ?_) (Ev.bind (ev_toIntS l hl) (Ev.bind (ev_eqIntS l hl) ?_))
    · simp only [laws_FnExactMatchedBehind.j0, Bool.false_eq_true, if_false]
    · simp only [if_true]
      refine Ev.bind ho3 ?_
      refine Ev.congr (f := fun k => (laws_eqIntS.f k res res).bind fun t3 => if t3 = true then laws_FnExactMatchedBehind.j1 k l a1 res ok res (ok != ok) else laws_FnExactMatchedBehind.j1 k l a1 res ok res true) (fun k => ?_) (Ev.bind (ev_eqIntS res hres) ?_)
      · rw [if_neg (by omega)]
      · simp only [if_true, bne_self_eq_false]
        exact h1
  refine Ev.congr (f := fun k => (laws_toIntS.f k l).bind fun t => (spec_MatchedBehind.f k t a1).bind fun b => (laws_toIntS.f k l).bind fun t2 => (impl_MatchedBehind.f k t2 a1).bind fun b2 => (laws_eqIntS.f k b2.1 b.1).bind fun t3 => if t3 = true then laws_FnExactMatchedBehind.j0 k l a1 b.1 b.2 t2 b2.1 b2.2 (b2.2 != b.2) else laws_FnExactMatchedBehind.j0 k l a1 b.1 b.2 t2 b2.1 b2.2 true) (fun k => ?_) ?_
  · unfold laws_FnExactMatchedBehind.f
    rw [if_neg (by omega)]
  · refine Ev.bind (ev_toIntS l hl) (Ev.bind hs (Ev.bind (ev_toIntS l hl) (Ev.bind hi (Ev.bind (ev_eqIntS res hres) ?_))))
    simp only [if_true, bne_self_eq_false]
    exact h0

theorem law_long (l : List Int) (a1 : Int) (hl : ¬ l.length ≤ 1048576) : Ev (fun k => laws_FnExactMatchedBehind.f k l a1) true := by
  refine Ev.congr (f := fun k => some true) (fun k => ?_) (Ev.now _)
  unfold laws_FnExactMatchedBehind.f
  rw [if_pos (by omega)]

/-! ### the matched pairs, increasing -/
def pick (p : Nat → Bool) (n : Nat) : List Int := ((List.range n).filter p).map fun v : Nat => (v : Int)
theorem pick_succ (p : Nat → Bool) (n : Nat) : pick p (n + 1) = pick p n ++ if p n = true then [(n : Int)] else [] := by
  unfold pick
  rw [List.range_succ, List.filter_append, List.map_append]
  by_cases h : p n = true
  · simp [h]
  · simp [h]
theorem pick_mem (p : Nat → Bool) (n : Nat) : ∀ x ∈ pick p n, 0 ≤ x ∧ x < (n : Int) := by
  intro x hx
  unfold pick at hx
  rw [List.mem_map] at hx
  obtain ⟨v, hv, rfl⟩ := hx
  have := List.mem_range.1 (List.mem_filter.1 hv).1
  omega
theorem pick_length (p : Nat → Bool) (n : Nat) : (pick p n).length ≤ n := by
  unfold pick
  rw [List.length_map]
  exact Nat.le_trans (List.length_filter_le _ _) (by rw [List.length_range]; exact Nat.le_refl _)
theorem pick_congr (p p' : Nat → Bool) (n : Nat) (h : ∀ v, v < n → p v = p' v) : pick p n = pick p' n := by
  unfold pick
  rw [List.filter_congr (fun v hv => h v (List.mem_range.1 hv))]
/-- One more is picked: it goes between the lesser and the greater ones. -/
theorem pick_put (p p' : Nat → Bool) (a : Nat) (hpa : p a = false) (hp'a : p' a = true) (h : ∀ v, v ≠ a → p' v = p v) : ∀ n, a < n →
    ∃ A B, pick p n = A ++ B ∧ pick p' n = A ++ [(a : Int)] ++ B ∧ (∀ x ∈ A, x < (a : Int)) ∧ ∀ x ∈ B, (a : Int) < x := by
  intro n
  induction n with
  | zero => intro h; omega
  | succ n ih =>
    intro hn
    rw [pick_succ, pick_succ]
    by_cases e : n = a
    · subst e
      refine ⟨pick p n, [], ?_, ?_, fun x hx => (pick_mem p n x hx).2, fun x hx => by cases hx⟩
      · rw [hpa]; simp
      · rw [hp'a, pick_congr p' p n (fun v hv => h v (by omega))]; simp
    · obtain ⟨A, B, h1, h2, h3, h4⟩ := ih (by omega)
      rw [h n e]
      refine ⟨A, B ++ (if p n = true then [(n : Int)] else []), by rw [h1, List.append_assoc], by rw [h2, List.append_assoc], h3, fun x hx => ?_⟩
      rcases List.mem_append.1 hx with hx | hx
      · exact h4 x hx
      · split at hx
        · rw [List.mem_singleton.1 hx]; omega
        · cases hx

theorem ev_l1Put (A B : List Int) (a : Int) (hl : (A ++ B).length ≤ 1048576) (hA : ∀ x ∈ A, x < a) (hB : ∀ x ∈ B, a < x) : Ev (fun k => spec_l1Put.f k (A ++ B) a) (A ++ [a] ++ B) := by
  rw [List.length_append] at hl
  have h : ∀ i, i ≤ A.length → Ev (fun k => spec_l1Put.l0 k (A ++ B) a (i : Int)) (A ++ [a] ++ B) := by
    refine downTo A.length ?_ ?_
    · refine Ev.step (f := fun _ => some (A ++ [a] ++ B)) (fun k => ?_) (Ev.now _)
      have ht : (A ++ B).take ((A.length : Nat) : Int).toNat = A := by rw [Int.toNat_natCast]; exact List.take_left' rfl
      have hd : (A ++ B).drop ((A.length : Nat) : Int).toNat = B := by rw [Int.toNat_natCast]; exact List.drop_left' rfl
      have hlen : (A ++ B).length = A.length + B.length := List.length_append
      simp only [spec_l1Put.l0, ht, hd, Option.bind_some, List.nil_append, List.length_nil, List.length_append, List.length_cons]
      by_cases hb : B = []
      · subst hb
        rw [if_neg (by simp), if_pos (by omega), if_pos (by simp), if_pos (by omega), if_pos (by omega), if_pos (by simp; omega)]
      · have hb0 : 0 < B.length := List.length_pos_iff.2 hb
        have hr : rd (A ++ B) ((A.length : Nat) : Int) = B[0] := by
          rw [rd_get _ _ (by omega), List.getElem_append_right (by omega)]
          simp
        have hgt := hB B[0] (List.getElem_mem hb0)
        rw [if_pos (by omega), if_pos (by omega), hr, if_neg (by omega), if_neg (by omega), if_pos (by omega), if_pos (by omega), if_pos (by omega), if_pos (by omega)]
    · intro i hi ih
      refine Ev.step (f := fun k => spec_l1Put.l0 k (A ++ B) a ((i + 1 : Nat) : Int)) (fun k => ?_) ih
      have hlen : (A ++ B).length = A.length + B.length := List.length_append
      have hr : rd (A ++ B) (i : Int) = A[i] := by rw [rd_get _ _ (by omega), List.getElem_append_left hi]
      have hlt := hA A[i] (List.getElem_mem hi)
      simp only [spec_l1Put.l0]
      rw [if_pos (by omega), if_pos (by omega), hr, if_pos hlt, wrap_succ i (by omega)]
  exact h 0 (by omega)

theorem count_take_succ (l : List Int) (i : Nat) (h : i < l.length) (v : Int) : (l.take (i + 1)).count v = (l.take i).count v + if rd l (i : Int) = v then 1 else 0 := by
  rw [take_snoc l i h, List.count_append, List.count_singleton]
  by_cases e : rd l (i : Int) = v
  · rw [if_pos e, e]; simp
  · rw [if_neg e, if_neg (by simpa using fun h => e h)]
def two (l : List Int) (i : Nat) : Nat → Bool := fun v => (l.take i).count (v : Int) == 2

theorem ev_mbSpec (l : List Int) (n m : Nat) (hl : l.length ≤ 1048576) (hm : m ≤ l.length) (hn : n ≤ l.length) (hr : ∀ x ∈ l, 0 ≤ x ∧ x ≤ (n : Int) - 1) (hc : ∀ x ∈ l, l.count x = 2) :
    Ev (fun k => spec_MatchedBehind.l0 k l (m : Int) [] 0) (pick (two l m) n, true) := by
  have hle : ∀ i v, (l.take i).count v ≤ 2 := fun i v => by
    by_cases h : v ∈ l
    · rw [← hc v h]; exact (List.take_sublist i l).count_le v
    · rw [List.count_eq_zero_of_not_mem (fun h' => h (List.mem_of_mem_take h'))]; omega
  have h : ∀ i, i ≤ m → Ev (fun k => spec_MatchedBehind.l0 k l (m : Int) (pick (two l i) n) (i : Int)) (pick (two l m) n, true) := by
    refine downTo m ?_ ?_
    · refine Ev.step (f := fun _ => some (pick (two l m) n, true)) (fun k => ?_) (Ev.now _)
      simp only [spec_MatchedBehind.l0]
      rw [if_neg (by omega)]
    · intro i him ih
      have hil : i < l.length := by omega
      have hxm : rd l (i : Int) ∈ l := by rw [rd_get l i hil]; exact List.getElem_mem hil
      obtain ⟨hx0, hx1⟩ := hr _ hxm
      obtain ⟨v, hv⟩ : ∃ v : Nat, rd l (i : Int) = (v : Int) := ⟨(rd l (i : Int)).toNat, by omega⟩
      have hhas : Ev (fun k => spec_l1Has.f k (l.take i) (v : Int)) (decide ((v : Int) ∈ l.take i)) := ev_l1Has _ _ (by rw [List.length_take]; omega)
      have hcv := count_take_succ l i hil (v : Int)
      rw [if_pos hv] at hcv
      have h2 := hle (i + 1) (v : Int)
      have hother : ∀ u, u ≠ v → two l (i + 1) u = two l i u := fun u hu => by
        unfold two
        rw [count_take_succ l i hil, if_neg (by rw [hv]; omega), Nat.add_zero]
      have hstep : ∀ k, spec_MatchedBehind.l0 (k + 1) l (m : Int) (pick (two l i) n) (i : Int) = (spec_l1Has.f k (l.take i) (v : Int)).bind fun t => if t = true then (spec_l1Put.f k (pick (two l i) n) (v : Int)).bind fun t2 => spec_MatchedBehind.l0 k l (m : Int) t2 ((i + 1 : Nat) : Int) else spec_MatchedBehind.l0 k l (m : Int) (pick (two l i) n) ((i + 1 : Nat) : Int) := fun k => by
        simp only [spec_MatchedBehind.l0, hv, Int.toNat_natCast]
        rw [if_pos (by omega), if_pos (by omega), if_pos (by omega), if_pos (by omega), wrap_succ i (by omega)]
      refine Ev.step hstep (Ev.bind hhas ?_)
      by_cases hmem : (v : Int) ∈ l.take i
      · have hpos := List.count_pos_iff.2 hmem
        obtain ⟨A, B, e1, e2, e3, e4⟩ := pick_put (two l i) (two l (i + 1)) v (by unfold two; exact beq_false_of_ne (by omega)) (by unfold two; rw [hcv, show (l.take i).count (v : Int) = 1 from by omega]; rfl) hother n (by omega)
        simp only [hmem, decide_true, if_true]
        have hlen := pick_length (two l i) n
        rw [e1] at hlen ⊢
        refine Ev.bind (ev_l1Put A B (v : Int) (by omega) e3 e4) ?_
        rw [e2] at ih
        exact ih
      · simp only [hmem, decide_false, Bool.false_eq_true, if_false]
        have h0 : (l.take i).count (v : Int) = 0 := List.count_eq_zero_of_not_mem hmem
        have e : pick (two l i) n = pick (two l (i + 1)) n := pick_congr _ _ _ fun u _ => by
          by_cases hu : u = v
          · subst hu
            unfold two
            rw [hcv, h0]; rfl
          · exact (hother u hu).symm
        rw [e]
        exact ih
  have h0 := h 0 (by omega)
  have e0 : pick (two l 0) n = [] := by
    unfold pick
    rw [List.filter_eq_nil_iff.2 (fun v _ => by unfold two; simp)]
    rfl
  rw [e0] at h0
  exact h0

theorem ev_mbImpl (o : List Int) (p : Nat → Bool) (n : Nat) (hn : n ≤ 1048576) (ho : o.length = n) (hp : ∀ v, v < n → (rd o (v : Int) = 2 ↔ p v = true)) : Ev (fun k => impl_MatchedBehind.l0 k [] o (o.length : Int) 0) (pick p n, true) := by
  have h : ∀ i, i ≤ n → Ev (fun k => impl_MatchedBehind.l0 k (pick p i) o (o.length : Int) (i : Int)) (pick p n, true) := by
    refine downTo n ?_ ?_
    · refine Ev.step (f := fun _ => some (pick p n, true)) (fun k => ?_) (Ev.now _)
      simp only [impl_MatchedBehind.l0]
      rw [if_neg (by omega)]
    · intro i hi ih
      have hlen := pick_length p i
      by_cases h2 : rd o (i : Int) = 2
      · have e := pick_succ p i
        rw [if_pos ((hp i hi).1 h2)] at e
        rw [e] at ih
        refine Ev.step (f := fun k => impl_MatchedBehind.l0 k (pick p i ++ [(i : Int)]) o (o.length : Int) ((i + 1 : Nat) : Int)) (fun k => ?_) ih
        simp only [impl_MatchedBehind.l0]
        rw [if_pos (by omega), if_pos (by omega), if_pos (by omega), if_pos h2, if_pos (by omega), wrap_succ i (by omega)]
      · have e := pick_succ p i
        rw [if_neg (fun h => h2 ((hp i hi).2 h)), List.append_nil] at e
        rw [e] at ih
        refine Ev.step (f := fun k => impl_MatchedBehind.l0 k (pick p i) o (o.length : Int) ((i + 1 : Nat) : Int)) (fun k => ?_) ih
        simp only [impl_MatchedBehind.l0]
        rw [if_pos (by omega), if_pos (by omega), if_pos (by omega), if_neg h2, wrap_succ i (by omega)]
  exact h 0 (by omega)

theorem law : laws_FnExactMatchedBehind.Pure := by
  intro l a _ _ _ _
  apply Ev.rounds
  by_cases hl : l.length ≤ 1048576
  · have hbadS : ∀ b : Bool, b = true → Ev (fun k => spec_MatchedBehind.j0 k l a b) ([], false) := by
      rintro b rfl
      refine Ev.step (f := fun _ => some (([] : List Int), false)) (fun k => ?_) (Ev.now _)
      simp only [spec_MatchedBehind.j0, if_true]
    have hbadI : ∀ b : Bool, b = true → Ev (fun k => impl_MatchedBehind.j0 k l a b) ([], false) := by
      rintro b rfl
      refine Ev.step (f := fun _ => some (([] : List Int), false)) (fun k => ?_) (Ev.now _)
      simp only [impl_MatchedBehind.j0, if_true]
    cases hp : okPile l with
    | true =>
      obtain ⟨h16, _, heven, hr, hc⟩ := okPile_range l hp
      obtain ⟨n, hn⟩ : ∃ n, l.length = 2 * n := ⟨l.length / 2, by omega⟩
      have hd : l.length / 2 = n := by omega
      rw [hd] at hr
      have hw : wrap64 ((l.length : Int) / 2) = (n : Int) := by unfold wrap64; omega
      have hspec : ∀ res, Ev (fun k => spec_MatchedBehind.j0 k l a (!(decide (0 ≤ a) && decide (a ≤ (l.length : Int))))) res → Ev (fun k => spec_MatchedBehind.f k l a) res := by
        intro res h
        unfold spec_MatchedBehind.f
        refine Ev.bind (ev_piGood l hl) ?_
        rw [hp]
        simp only [if_true, ev_l1In, Option.bind_some]
        exact h
      have himpl : ∀ res, Ev (fun k => impl_MatchedBehind.j0 k l a (!(decide (0 ≤ a) && decide (a ≤ (l.length : Int))))) res → Ev (fun k => impl_MatchedBehind.f k l a) res := by
        intro res h
        unfold impl_MatchedBehind.f
        refine Ev.bind (ev_IsPile l hl) ?_
        rw [hp]
        simp only [if_true, within_eq, Option.bind_some]
        exact h
      by_cases ha : 0 ≤ a ∧ a ≤ (l.length : Int)
      · obtain ⟨m, hm⟩ : ∃ m : Nat, a = (m : Int) := ⟨a.toNat, by omega⟩
        subst hm
        have hb : (!(decide (0 ≤ (m : Int)) && decide ((m : Int) ≤ (l.length : Int)))) = false := by simp [ha.2]
        have hml : m ≤ l.length := by omega
        obtain ⟨o, ho1, ho2, ho3⟩ := tally_some n (l.take m) (List.replicate n 0) (by simp) (fun y _ _ => by rw [rd_zeros]; omega) (fun x hx => hr x (List.mem_of_mem_take hx)) (fun y _ _ => by
          rw [rd_zeros]
          have : (l.take m).count y ≤ 2 := by
            by_cases h : y ∈ l
            · rw [← hc y h]; exact (List.take_sublist m l).count_le y
            · rw [List.count_eq_zero_of_not_mem (fun h' => h (List.mem_of_mem_take h'))]; omega
          omega)
        refine law_of l (m : Int) hl (pick (two l m) n) true (by have := pick_length (two l m) n; omega) (hspec _ ?_) (himpl _ ?_)
        · rw [hb]
          refine Ev.step (f := fun k => spec_MatchedBehind.l0 k l (m : Int) [] 0) (fun k => ?_) (ev_mbSpec l n m hl hml (by omega) hr hc)
          simp only [spec_MatchedBehind.j0, Bool.false_eq_true, if_false]
        · rw [hb]
          have ht := ev_times n (by omega) (l.take m) (by rw [List.length_take]; omega)
          rw [ho1] at ht
          refine Ev.step (f := fun k => (impl_times.f k (n : Int) (l.take m)).bind fun bt => impl_MatchedBehind.l0 k [] bt.1 (bt.1.length : Int) 0) (fun k => ?_) (Ev.bind ht (ev_mbImpl o (two l m) n (by omega) ho2 (fun v hv => ?_)))
          · simp only [impl_MatchedBehind.j0, Bool.false_eq_true, if_false, Int.toNat_natCast, hw]
            rw [if_pos (by omega), if_pos (by omega)]
          · rw [ho3 (v : Int) (by omega) (by omega), rd_zeros]
            unfold two
            rw [beq_iff_eq]
            omega
      · have hb : (!(decide (0 ≤ a) && decide (a ≤ (l.length : Int)))) = true := by
          by_cases h0 : 0 ≤ a
          · simp [h0, show ¬ a ≤ (l.length : Int) from fun h => ha ⟨h0, h⟩]
          · simp [h0]
        exact law_of l a hl [] false (by simp) (hspec _ (hbadS _ hb)) (himpl _ (hbadI _ hb))
    | false =>
      refine law_of l a hl [] false (by simp) ?_ ?_
      · unfold spec_MatchedBehind.f
        refine Ev.bind (ev_piGood l hl) ?_
        rw [hp]
        simp only [Bool.false_eq_true, if_false]
        exact hbadS _ rfl
      · unfold impl_MatchedBehind.f
        refine Ev.bind (ev_IsPile l hl) ?_
        rw [hp]
        simp only [Bool.false_eq_true, if_false]
        exact hbadI _ rfl
  · exact law_long l a hl

end Go.Proofs.Ytlhennggbnlkpaa.PureMatchedBehind
namespace Go.Proofs.Ytlhennggbnlkpaa.Pure
theorem FnExactMatchedBehind : Go.Proofs.Ytlhennggbnlkpaa.QMatchedBehind.laws_FnExactMatchedBehind.Pure := Go.Proofs.Ytlhennggbnlkpaa.PureMatchedBehind.law
end Go.Proofs.Ytlhennggbnlkpaa.Pure
