/- The pure statement of the law FnExactFirstMatch: for every slice of int64 numbers the program's FirstMatch and the reference's FirstMatch return the same results, and the argument reads afterwards as before. No condition beside the row's own reach. -/
import Derived.Test.YtlhennggbnlkpaaQFirstMatchx1
import Derived.Test.YtlhennggbnlkpaaPurePile
import Derived.Test.YtlhennggbnlkpaaXIndex
import Derived.Lib.IndexLaws
namespace Go.Proofs.Ytlhennggbnlkpaa.PureFirstMatch
open Go.RowKit Go.Proofs.Ytlhennggbnlkpaa.QFirstMatch Go.Proofs.Ytlhennggbnlkpaa.QPile Go.Proofs.Ytlhennggbnlkpaa.PurePile Go.Proofs.YtlhennggbnlkpaaW.PrintWords Go.Proofs.YtlhennggbnlkpaaW.PrintLast Go.Proofs.YtlhennggbnlkpaaW.PrintMore
open Go.Proofs.Ytlhennggbnlkpaa.XHeights Go.Proofs.Ytlhennggbnlkpaa.XIndex

/-! ### the law's own look at its argument -/
theorem law_j0 (l : List Int) (hl : l.length ≤ 1048576) : Ev (fun k => laws_FnExactFirstMatch.j0 k l l false) true := by
  refine Ev.step (f := fun k => (laws_toIntS.f k l).bind fun t => (laws_eqIntS.f k l t).bind fun t2 => if t2 = true then some true else some false) (fun k => ?_) (Ev.bind (ev_toIntS l hl) (Ev.bind (ev_eqIntS l hl) ?_))
  · simp only [laws_FnExactFirstMatch.j0, Bool.false_eq_true, if_false]
  · simp only [if_true]
    exact Ev.now _
theorem law_long (l : List Int) (hl : ¬ l.length ≤ 1048576) : Ev (fun k => laws_FnExactFirstMatch.f k l) true := by
  refine Ev.congr (f := fun k => some true) (fun k => ?_) (Ev.now _)
  unfold laws_FnExactFirstMatch.f
  rw [if_pos (by omega)]

theorem signs_get : ∀ (xs s : List Int) (j : Nat), j < xs.length → (signs s xs).getD j 0 = if xs.getD j 0 ∈ s ++ xs.take j then 45 else 43 := by
  intro xs
  induction xs with
  | nil => intro s j hj; simp at hj
  | cons x xs ih =>
    intro s j hj
    rw [signs]
    rcases j with _ | j
    · simp
    · have := ih (s ++ [x]) j (by simpa using hj)
      rw [List.getD_cons_succ, this, List.getD_cons_succ, List.take_succ_cons, List.append_assoc, List.singleton_append]
theorem index_at : ∀ (l : List UInt8) (c : UInt8) (a : Nat), l[a]? = some c → (∀ j, j < a → l[j]? ≠ some c) → Lib.indexByte l c = (a : Int) := by
  intro l c a h1 h2
  have hge := Lib.indexByte_ge l c
  by_cases hn : Lib.indexByte l c = -1
  · exact absurd h1 (Lib.indexByte_none hn a)
  · obtain ⟨o, ho⟩ : ∃ o : Nat, Lib.indexByte l c = (o : Int) := ⟨(Lib.indexByte l c).toNat, by omega⟩
    obtain ⟨h3, h4⟩ := Lib.indexByte_some ho
    have e : o = a := by
      rcases Nat.lt_trichotomy o a with h | h | h
      · exact absurd h3 (h2 o h)
      · exact h
      · exact absurd h1 (h4 a h)
    rw [ho, e]

/-- The place of the first number that has come before. -/
def First (l : List Int) (a : Nat) : Prop := a < l.length ∧ l.getD a 0 ∈ l.take a ∧ ∀ j, j < a → ¬ l.getD j 0 ∈ l.take j
theorem first_of (l : List Int) (b : Nat) (hb : b < l.length) (hm : l.getD b 0 ∈ l.take b) : ∃ a, First l a := by
  have h : ∀ d b, b ≤ d → b < l.length → l.getD b 0 ∈ l.take b → ∃ a, First l a := by
    intro d
    induction d with
    | zero =>
      intro b hd hb hm
      obtain rfl : b = 0 := by omega
      exact ⟨0, hb, hm, fun j hj => by omega⟩
    | succ d ih =>
      intro b hd hb hm
      by_cases h : ∃ j, j < b ∧ l.getD j 0 ∈ l.take j
      · obtain ⟨j, hj, hjm⟩ := h
        exact ih j (by omega) (by omega) hjm
      · exact ⟨b, hb, hm, fun j hj hjm => h ⟨j, hj, hjm⟩⟩
  exact h b b (Nat.le_refl _) hb hm
theorem pile_match (l : List Int) (h0 : 0 < l.length) (hc : ∀ x ∈ l, l.count x = 2) : ∃ a, First l a := by
  rcases l with _ | ⟨x, xs⟩
  · simp at h0
  · have h := hc x (List.mem_cons_self ..)
    rw [List.count_cons_self] at h
    have hm : x ∈ xs := List.count_pos_iff.1 (by omega)
    obtain ⟨j, hj, e⟩ := List.getElem_of_mem hm
    refine first_of _ (j + 1) (by simpa using hj) ?_
    rw [List.getD_cons_succ, List.getD_eq_getElem?_getD, List.getElem?_eq_getElem hj, Option.getD_some, e, List.take_succ_cons]
    exact List.mem_cons_self ..

theorem ev_first (l : List Int) (hl : l.length ≤ 1048576) (a : Nat) (ha : First l a) : Ev (fun k => spec_FirstMatch.l0 k l 0) ((a : Int), true) := by
  obtain ⟨h1, h2, h3⟩ := ha
  have h : ∀ i, i ≤ a → Ev (fun k => spec_FirstMatch.l0 k l (i : Int)) ((a : Int), true) := by
    refine downTo a ?_ ?_
    · refine Ev.step (f := fun k => (spec_l1Has.f k (l.take a) (l.getD a 0)).bind fun t => if t = true then some ((a : Int), true) else spec_FirstMatch.l0 k l ((a + 1 : Nat) : Int)) (fun k => ?_) (Ev.bind (ev_l1Has _ _ (by rw [List.length_take]; omega)) ?_)
      · simp only [spec_FirstMatch.l0, Int.toNat_natCast, rd_nat]
        rw [if_pos (by omega), if_pos (by omega), if_pos (by omega), wrap_succ a (by omega)]
      · simp only [h2, decide_true, if_true]
        exact Ev.now _
    · intro i hia ih
      refine Ev.step (f := fun k => (spec_l1Has.f k (l.take i) (l.getD i 0)).bind fun t => if t = true then some ((i : Int), true) else spec_FirstMatch.l0 k l ((i + 1 : Nat) : Int)) (fun k => ?_) (Ev.bind (ev_l1Has _ _ (by rw [List.length_take]; omega)) ?_)
      · simp only [spec_FirstMatch.l0, Int.toNat_natCast, rd_nat]
        rw [if_pos (by omega), if_pos (by omega), if_pos (by omega), wrap_succ i (by omega)]
      · simp only [h3 i hia, decide_false, Bool.false_eq_true, if_false]
        exact ih
  exact h 0 (by omega)

theorem index_first (l : List Int) (a : Nat) (ha : First l a) : strings_Index.f (strOfNums (shapeL l)) (⟨#[45]⟩ : ByteArray) = some (a : Int) := by
  obtain ⟨h1, h2, h3⟩ := ha
  have hg : ∀ j, j < l.length → (strOfNums (shapeL l)).data.toList[j]? = some (if l.getD j 0 ∈ l.take j then 45 else 43) := fun j hj => by
    rw [strOfNums_data, List.getElem?_map]
    have e := signs_get l [] j hj
    rw [List.getD_eq_getElem?_getD, List.getElem?_eq_getElem (by rw [signs_length]; exact hj), Option.getD_some] at e
    unfold shapeL
    rw [List.getElem?_eq_getElem (by rw [signs_length]; exact hj), Option.map_some, e, List.nil_append]
    split <;> rfl
  show some (Lib.indexByte (strOfNums (shapeL l)).data.toList 45) = some (a : Int)
  rw [index_at _ _ a (by rw [hg a h1, if_pos h2]) (fun j hj => by
    rw [hg j (by omega), if_neg (h3 j hj)]
    intro e
    exact absurd (Option.some.inj e) (by decide))]

theorem law : laws_FnExactFirstMatch.Pure := by
  intro l _ _ _
  apply Ev.rounds
  by_cases hl : l.length ≤ 1048576
  · suffices h : ∃ res : Int × Bool, Ev (fun k => spec_FirstMatch.f k l) res ∧ Ev (fun k => impl_FirstMatch.f k l) res by
      obtain ⟨res, h1, h2⟩ := h
      refine Ev.congr (f := fun k => (laws_toIntS.f k l).bind fun t => (spec_FirstMatch.f k t).bind fun b => (laws_toIntS.f k l).bind fun t2 => (impl_FirstMatch.f k t2).bind fun b2 => if b2.1 = b.1 then laws_FnExactFirstMatch.j0 k l t2 (b2.2 != b.2) else laws_FnExactFirstMatch.j0 k l t2 true) (fun k => ?_) ?_
      · unfold laws_FnExactFirstMatch.f
        rw [if_neg (by omega)]
      · refine Ev.bind (ev_toIntS l hl) (Ev.bind h1 (Ev.bind (ev_toIntS l hl) (Ev.bind h2 ?_)))
        simp only [if_true, bne_self_eq_false]
        exact law_j0 l hl
    cases hp : okPile l with
    | true =>
      obtain ⟨h16, h0, _, hr, hc⟩ := okPile_range l hp
      obtain ⟨a, ha⟩ := pile_match l (by omega) hc
      refine ⟨((a : Int), true), ?_, ?_⟩
      · unfold spec_FirstMatch.f
        refine Ev.bind (ev_piGood l hl) ?_
        rw [hp]
        simp only [if_true]
        exact ev_first l hl a ha
      · unfold impl_FirstMatch.f
        refine Ev.bind (a := (strOfNums (shapeL l), true)) ?_ ?_
        · unfold impl_ShapeOfPile.f
          refine Ev.bind (ev_IsPile l hl) ?_
          rw [hp]
          simp only [if_true]
          exact Ev.bind (ev_shapeOf l h16 (fun x hx => by have := hr x hx; omega)) (Ev.now _)
        · simp only [if_true, index_first l a ha, Option.bind_some]
          exact Ev.now _
    | false =>
      refine ⟨(0, false), ?_, ?_⟩
      · unfold spec_FirstMatch.f
        refine Ev.bind (ev_piGood l hl) ?_
        rw [hp]
        simp only [Bool.false_eq_true, if_false]
        exact Ev.now _
      · unfold impl_FirstMatch.f
        refine Ev.bind (a := ((⟨#[]⟩ : ByteArray), false)) ?_ ?_
        · unfold impl_ShapeOfPile.f
          refine Ev.bind (ev_IsPile l hl) ?_
          rw [hp]
          simp only [Bool.false_eq_true, if_false]
          exact Ev.now _
        · simp only [Bool.false_eq_true, if_false]
          exact Ev.now _
  · exact law_long l hl

end Go.Proofs.Ytlhennggbnlkpaa.PureFirstMatch
namespace Go.Proofs.Ytlhennggbnlkpaa.Pure
theorem FnExactFirstMatch : Go.Proofs.Ytlhennggbnlkpaa.QFirstMatch.laws_FnExactFirstMatch.Pure := Go.Proofs.Ytlhennggbnlkpaa.PureFirstMatch.law
end Go.Proofs.Ytlhennggbnlkpaa.Pure
