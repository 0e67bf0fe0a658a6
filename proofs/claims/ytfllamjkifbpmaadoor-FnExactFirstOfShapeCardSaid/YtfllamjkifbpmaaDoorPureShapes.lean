/- Plain laws of shapes that several statements of this seat share: what the Lean functions of IsShape, the heights and the reference's piIs and piLoose come to. No program and no memory stands in it. -/
import Derived.Test.YtfllamjkifbpmaaDoorQShapex
namespace Go.Proofs.YtfllamjkifbpmaaDoor.PureShapes
open Go.RowKit Go.Proofs.YtfllamjkifbpmaaDoor.QBase Go.Proofs.YtfllamjkifbpmaaDoor.QShape Go.Proofs.YtfllamjkifbpmaaDoor.XTrim Go.Proofs.YtfllamjkifbpmaaDoor.XHeights Go.Proofs.YtfllamjkifbpmaaDoorW.PrintWords Go.Proofs.YtfllamjkifbpmaaDoorW.PrintLast Go.Proofs.YtfllamjkifbpmaaDoorW.PrintMore
set_option linter.unusedVariables false
set_option linter.unusedSimpArgs false

theorem downTo {P : Nat → Prop} (n : Nat) (h0 : P n) (hs : ∀ i, i < n → P (i + 1) → P i) : ∀ i, i ≤ n → P i := by
  intro i hi
  obtain ⟨d, rfl⟩ : ∃ d, n = i + d := ⟨n - i, by omega⟩
  induction d generalizing i with
  | zero => exact h0
  | succ d ih => exact hs i (by omega) (ih (i + 1) (by rw [show i + 1 + d = i + (d + 1) from by omega]; exact h0) (by rw [show i + 1 + d = i + (d + 1) from by omega]; exact hs) (by omega))
theorem rd_nat (l : List Int) (i : Nat) : rd l (i : Int) = l.getD i 0 := by unfold rd; rw [Int.toNat_natCast]
theorem rd_get (l : List Int) (i : Nat) (h : i < l.length) : rd l (i : Int) = l[i] := by rw [rd_nat, List.getD_eq_getElem?_getD, List.getElem?_eq_getElem h]; rfl
theorem drop_cons (l : List Int) (i : Nat) (h : i < l.length) : l.drop i = rd l (i : Int) :: l.drop (i + 1) := by rw [rd_get l i h]; exact List.drop_eq_getElem_cons h
theorem wrap_succ (i : Nat) (h : i < 9223372036854775807) : wrap64 ((i : Int) + 1) = ((i + 1 : Nat) : Int) := by unfold wrap64; omega
theorem bt_get (s : ByteArray) (i : Nat) (h : i < s.size) : bt s (i : Int) = (((s.data.toList)[i]'(by simpa using h)).toNat : Int) := by
  unfold bt
  rw [dif_pos (by simpa using h)]
  rfl
theorem rd_last (xs : List Int) (n : Int) (i : Nat) (h : xs.length = i) : rd (xs ++ [n]) (i : Int) = n := by
  rw [rd_get _ i (by simp [h]), List.getElem_append_right (by omega)]
  simp
theorem ev_piLoose (s : ByteArray) (hs : s.size ≤ 1048576) : Ev (fun k => spec_piLoose.f k s) (0 :: hts 0 s.data.toList) := by
  have h : ∀ i, i ≤ s.size → ∀ (xs : List Int) (n : Int), xs.length = i + 1 → rd xs (i : Int) = n → -(i : Int) ≤ n → n ≤ (i : Int) → xs ++ hts n (s.data.toList.drop i) = 0 :: hts 0 s.data.toList →
      Ev (fun k => spec_piLoose.l0 k s xs (i : Int)) (0 :: hts 0 s.data.toList) := by
    refine downTo s.size ?_ ?_
    · intro xs n _ _ _ _ e
      rw [List.drop_eq_nil_of_le (by simp), hts, List.append_nil] at e
      refine Ev.step (f := fun _ => some xs) (fun k => ?_) (by rw [e]; exact Ev.now _)
      simp only [spec_piLoose.l0]
      rw [if_neg (by omega)]
    · intro i hil ih xs n hx hn h1 h2 e
      have hd : s.data.toList.drop i = (s.data.toList)[i]'(by simpa using hil) :: s.data.toList.drop (i + 1) := List.drop_eq_getElem_cons (by simpa using hil)
      rw [hd, hts] at e
      have hb := bt_get s i hil
      have e' := e
      rw [← List.singleton_append, ← List.append_assoc] at e'
      by_cases hc : ((s.data.toList)[i]'(by simpa using hil)).toNat = 43
      · rw [if_pos hc] at e'
        refine Ev.step (f := fun k => spec_piLoose.l0 k s (xs ++ [n + 1]) ((i + 1 : Nat) : Int)) (fun k => ?_) (ih _ (n + 1) (by simp [hx]) (rd_last xs _ (i + 1) hx) (by omega) (by omega) e')
        simp only [spec_piLoose.l0]
        rw [if_pos (by omega), if_pos (by omega), if_pos (by rw [hb]; omega), if_pos (by omega), if_pos (by omega), hn, wrap_succ i (by omega), show wrap64 (n + 1) = n + 1 from by unfold wrap64; omega]
      · rw [if_neg hc] at e'
        refine Ev.step (f := fun k => spec_piLoose.l0 k s (xs ++ [n - 1]) ((i + 1 : Nat) : Int)) (fun k => ?_) (ih _ (n - 1) (by simp [hx]) (rd_last xs _ (i + 1) hx) (by omega) (by omega) e')
        simp only [spec_piLoose.l0]
        rw [if_pos (by omega), if_pos (by omega), if_neg (by rw [hb]; omega), if_pos (by omega), if_pos (by omega), hn, wrap_succ i (by omega), show wrap64 (n - 1) = n - 1 from by unfold wrap64; omega]
  exact h 0 (by omega) [0] 0 rfl rfl (by omega) (by omega) rfl

theorem hts_length (l : List UInt8) : ∀ n, (hts n l).length = l.length := by
  induction l with
  | nil => intro n; rfl
  | cons c cs ih => intro n; simp [hts, ih]

theorem ev_heldIntS (l : List Int) (hl : l.length ≤ 1048576) (hm : ∀ j, j < l.length → l.getD j 0 = (j : Int) + 1) : Ev (fun k => laws_heldIntS.f k l 1) ((l.length : Int) + 1) := by
  have h : ∀ i, i ≤ l.length → Ev (fun k => laws_heldIntS.l0 k l ((i : Int) + 1) (i : Int)) ((l.length : Int) + 1) := by
    refine downTo l.length ?_ ?_
    · refine Ev.step (f := fun _ => some ((l.length : Int) + 1)) (fun k => ?_) (Ev.now _)
      simp only [laws_heldIntS.l0]
      rw [if_neg (by omega)]
    · intro i hil ih
      refine Ev.step (f := fun k => laws_heldIntS.l0 k l (((i + 1 : Nat) : Int) + 1) ((i + 1 : Nat) : Int)) (fun k => ?_) ih
      simp only [laws_heldIntS.l0]
      rw [if_pos (by omega), if_pos (by omega), if_pos (by rw [rd_nat]; exact hm i hil), wrap_succ i (by omega), show wrap64 ((i : Int) + 1 + 1) = ((i + 1 : Nat) : Int) + 1 from by unfold wrap64; omega]
  exact h 0 (by omega)

/-! ### a text of signs -/
/-- The signs lead from a height back to 0 and never below it. -/
def okL : Int → List UInt8 → Bool
  | n, [] => decide (n = 0)
  | n, c :: cs => if c.toNat = 43 then okL (n + 1) cs else if c.toNat = 45 then (if n - 1 < 0 then false else okL (n - 1) cs) else false
/-- A shape, in plain words. -/
def shp (s : ByteArray) : Bool := decide (s.size ≠ 0) && decide (s.size ≤ 16) && okL 0 s.data.toList
theorem bt_hd (s : ByteArray) (i : Nat) (h : i < s.size) : ∃ c, s.data.toList.drop i = c :: s.data.toList.drop (i + 1) ∧ bt s (i : Int) = (c.toNat : Int) :=
  ⟨(s.data.toList)[i]'(by simpa using h), List.drop_eq_getElem_cons (by simpa using h), bt_get s i h⟩
theorem ev_piIs (s : ByteArray) : Ev (fun k => spec_piIs.f k s) (shp s) := by
  have hl : s.size ≤ 16 → ∀ i, i ≤ s.size → ∀ n : Int, 0 ≤ n → n ≤ (i : Int) → Ev (fun k => spec_piIs.l0 k s n (i : Int)) (okL n (s.data.toList.drop i)) := by
    intro h16
    refine downTo s.size ?_ ?_
    · intro n _ _
      rw [List.drop_eq_nil_of_le (by simp), okL]
      refine Ev.step (f := fun _ => some (decide (n = 0))) (fun k => ?_) (Ev.now _)
      simp only [spec_piIs.l0]
      rw [if_neg (by omega)]
      congr 1
    · intro i hi ih n h0 h1
      obtain ⟨c, hd, hb⟩ := bt_hd s i hi
      rw [hd, okL]
      by_cases h43 : c.toNat = 43
      · rw [if_pos h43]
        refine Ev.step (f := fun k => spec_piIs.l0 k s (n + 1) ((i + 1 : Nat) : Int)) (fun k => ?_) (ih _ (by omega) (by omega))
        simp only [spec_piIs.l0]
        rw [if_pos (by omega), if_pos (by omega), if_pos (by omega), show wrap64 (n + 1) = n + 1 from by unfold wrap64; omega, if_neg (by omega), wrap_succ i (by omega)]
      · rw [if_neg h43]
        by_cases h45 : c.toNat = 45
        · rw [if_pos h45]
          by_cases hn : n - 1 < 0
          · rw [if_pos hn]
            refine Ev.step (f := fun _ => some false) (fun k => ?_) (Ev.now _)
            simp only [spec_piIs.l0]
            rw [if_pos (by omega), if_pos (by omega), if_neg (by omega), if_pos (by omega), show wrap64 (n - 1) = n - 1 from by unfold wrap64; omega, if_pos hn]
          · rw [if_neg hn]
            refine Ev.step (f := fun k => spec_piIs.l0 k s (n - 1) ((i + 1 : Nat) : Int)) (fun k => ?_) (ih _ (by omega) (by omega))
            simp only [spec_piIs.l0]
            rw [if_pos (by omega), if_pos (by omega), if_neg (by omega), if_pos (by omega), show wrap64 (n - 1) = n - 1 from by unfold wrap64; omega, if_neg hn, wrap_succ i (by omega)]
        · rw [if_neg h45]
          refine Ev.step (f := fun _ => some false) (fun k => ?_) (Ev.now _)
          simp only [spec_piIs.l0]
          rw [if_pos (by omega), if_pos (by omega), if_neg (by omega), if_neg (by omega)]
  unfold shp
  by_cases h0 : s.size = 0
  · rw [decide_eq_false (by omega), Bool.false_and, Bool.false_and]
    refine Ev.congr (f := fun k => spec_piIs.j0 k s true) (fun k => ?_) (Ev.step (f := fun _ => some false) (fun k => ?_) (Ev.now _))
    · unfold spec_piIs.f; rw [if_pos (by omega)]
    · simp only [spec_piIs.j0, if_true]
  · by_cases h16 : s.size ≤ 16
    · rw [decide_eq_true h0, decide_eq_true h16, Bool.true_and, Bool.true_and]
      have h := hl h16 0 (by omega) 0 (by omega) (by omega)
      rw [List.drop_zero] at h
      refine Ev.congr (f := fun k => spec_piIs.j0 k s false) (fun k => ?_) (Ev.step (f := fun k => spec_piIs.l0 k s 0 ((0 : Nat) : Int)) (fun k => ?_) h)
      · unfold spec_piIs.f; rw [if_neg (by omega), decide_eq_false (by omega)]
      · simp only [spec_piIs.j0, Bool.false_eq_true, if_false]; rfl
    · rw [decide_eq_false h16, Bool.and_false, Bool.false_and]
      refine Ev.congr (f := fun k => spec_piIs.j0 k s true) (fun k => ?_) (Ev.step (f := fun _ => some false) (fun k => ?_) (Ev.now _))
      · unfold spec_piIs.f; rw [if_neg (by omega), decide_eq_true (by omega)]
      · simp only [spec_piIs.j0, if_true]
/-! ### what Trim leaves -/
theorem mem_dropWhile {α : Type} (p : α → Bool) (x : α) (hx : p x = false) : ∀ l : List α, x ∈ l → x ∈ l.dropWhile p
  | [], h => h
  | y :: l, h => by
    rw [List.dropWhile_cons]
    by_cases hy : p y = true
    · rw [if_pos hy]
      rcases List.mem_cons.1 h with e | e
      · subst e; rw [hx] at hy; cases hy
      · exact mem_dropWhile p x hx l e
    · rw [if_neg hy]; exact h
theorem dropWhile_all {α : Type} (p : α → Bool) : ∀ l : List α, (∀ x ∈ l, p x = true) → l.dropWhile p = []
  | [], _ => rfl
  | y :: l, h => by
    rw [List.dropWhile_cons, if_pos (h y (List.mem_cons_self ..))]
    exact dropWhile_all p l (fun x hx => h x (List.mem_cons_of_mem _ hx))
theorem trimS_nil (l cs : List UInt8) : Lib.trimS l cs = [] ↔ ∀ x ∈ l, cs.contains x = true := by
  unfold Lib.trimS Lib.trimLeftS Lib.trimRightS
  constructor
  · intro h x hx
    apply Classical.byContradiction
    intro hn
    rw [Bool.not_eq_true] at hn
    have h1 := mem_dropWhile (fun y => cs.contains y) x hn l.reverse (List.mem_reverse.2 hx)
    have h2 := mem_dropWhile (fun y => cs.contains y) x hn _ (List.mem_reverse.2 h1)
    rw [h] at h2
    cases h2
  · intro h
    rw [dropWhile_all (fun y => cs.contains y) l.reverse (fun x hx => h x (List.mem_reverse.1 hx))]
    rfl
def signs (l : List UInt8) : Prop := ∀ c ∈ l, c.toNat = 43 ∨ c.toNat = 45
theorem contains_signs (c : UInt8) : ([43, 45] : List UInt8).contains c = true ↔ (c.toNat = 43 ∨ c.toNat = 45) := by
  rw [List.contains_iff_mem]
  simp only [List.mem_cons, List.not_mem_nil, or_false]
  constructor
  · rintro (rfl | rfl)
    · exact .inl rfl
    · exact .inr rfl
  · rintro (h | h)
    · exact .inl (UInt8.toNat_inj.1 (by rw [h]; rfl))
    · exact .inr (UInt8.toNat_inj.1 (by rw [h]; rfl))
theorem okL_signs : ∀ (l : List UInt8) (n : Int), okL n l = true → signs l
  | [], _, _ => fun c hc => by cases hc
  | c :: l, n, h => by
    rw [okL] at h
    by_cases h43 : c.toNat = 43
    · rw [if_pos h43] at h
      intro x hx
      rcases List.mem_cons.1 hx with e | e
      · rw [e]; exact .inl h43
      · exact okL_signs l _ h x e
    · rw [if_neg h43] at h
      by_cases h45 : c.toNat = 45
      · rw [if_pos h45] at h
        by_cases hn : n - 1 < 0
        · rw [if_pos hn] at h; cases h
        · rw [if_neg hn] at h
          intro x hx
          rcases List.mem_cons.1 hx with e | e
          · rw [e]; exact .inr h45
          · exact okL_signs l _ h x e
      · rw [if_neg h45] at h; cases h
/-- The height at the end. -/
def fin : Int → List UInt8 → Int
  | n, [] => n
  | n, c :: cs => fin (if c.toNat = 43 then n + 1 else n - 1) cs
theorem fin_rd : ∀ (l : List UInt8) (n : Int), rd (n :: hts n l) (l.length : Int) = fin n l
  | [], n => by rw [rd_nat]; rfl
  | c :: l, n => by
    rw [hts, fin, ← fin_rd l, rd_nat, rd_nat, List.length_cons]
    rfl
theorem okL_iff : ∀ (l : List UInt8) (n : Int), 0 ≤ n → signs l → (okL n l = true ↔ (∀ h ∈ hts n l, 0 ≤ h) ∧ fin n l = 0)
  | [], n, _, _ => by simp [okL, hts, fin]
  | c :: l, n, h0, hs => by
    have hs' : signs l := fun x hx => hs x (List.mem_cons_of_mem _ hx)
    rw [okL, hts, fin]
    by_cases h43 : c.toNat = 43
    · simp only [if_pos h43]
      rw [okL_iff l (n + 1) (by omega) hs']
      simp only [List.mem_cons, forall_eq_or_imp]
      constructor
      · rintro ⟨a, b⟩; exact ⟨⟨by omega, a⟩, b⟩
      · rintro ⟨⟨_, a⟩, b⟩; exact ⟨a, b⟩
    · have h45 : c.toNat = 45 := (hs c (List.mem_cons_self ..)).resolve_left h43
      simp only [if_neg h43, if_pos h45]
      simp only [List.mem_cons, forall_eq_or_imp]
      by_cases hn : n - 1 < 0
      · rw [if_pos hn]
        constructor
        · intro h; cases h
        · rintro ⟨⟨a, _⟩, _⟩; omega
      · rw [if_neg hn, okL_iff l (n - 1) (by omega) hs']
        constructor
        · rintro ⟨a, b⟩; exact ⟨⟨by omega, a⟩, b⟩
        · rintro ⟨⟨_, a⟩, b⟩; exact ⟨a, b⟩
theorem fin_parity : ∀ (l : List UInt8) (n : Int), (fin n l + n + (l.length : Int)) % 2 = 0
  | [], n => by simp [fin]; omega
  | c :: l, n => by
    rw [fin]
    split
    · have := fin_parity l (n + 1); simp only [List.length_cons]; push_cast; omega
    · have := fin_parity l (n - 1); simp only [List.length_cons]; push_cast; omega
theorem ev_min (l : List Int) (h1 : 1 ≤ l.length) (h7 : l.length ≤ 1048576) : Ev (fun k => slices_Min_int_int.f k l) ((l.drop 1).foldl mn (rd l 0)) := by
  have h : ∀ i, i ≤ l.length → ∀ m : Int, Ev (fun k => slices_Min_int_int.l0 k l m (i : Int)) ((l.drop i).foldl mn m) := by
    refine downTo l.length ?_ ?_
    · intro m
      rw [List.drop_length]
      refine Ev.step (f := fun _ => some m) (fun k => ?_) (Ev.now m)
      simp only [slices_Min_int_int.l0]
      rw [if_neg (by omega)]
    · intro i hil ih m
      rw [drop_cons l i hil, List.foldl_cons]
      refine Ev.step (f := fun k => slices_Min_int_int.l0 k l (mn m (rd l (i : Int))) ((i + 1 : Nat) : Int)) (fun k => ?_) (ih _)
      simp only [slices_Min_int_int.l0]
      rw [if_pos (by omega), if_pos (by omega), wrap_succ i (by omega)]
  refine Ev.congr (f := fun k => slices_Min_int_int.l0 k l (rd l 0) ((1 : Nat) : Int)) (fun k => ?_) (h 1 (by omega) (rd l 0))
  unfold slices_Min_int_int.f
  rw [if_neg (by omega), if_pos (by omega)]
  rfl
theorem fold_mn : ∀ (l : List Int) (m : Int), l.foldl mn m ≤ m ∧ (m ≤ l.foldl mn m ↔ ∀ x ∈ l, m ≤ x)
  | [], m => by simp
  | x :: l, m => by
    rw [List.foldl_cons]
    have ih := fold_mn l (mn m x)
    simp only [List.mem_cons, forall_eq_or_imp]
    unfold mn at ih ⊢
    by_cases h : x < m
    · rw [if_pos h] at ih ⊢
      exact ⟨by omega, by constructor <;> intro h' <;> omega⟩
    · rw [if_neg h] at ih ⊢
      exact ⟨ih.1, ⟨fun h' => ⟨by omega, ih.2.1 h'⟩, fun h' => ih.2.2 h'.2⟩⟩
theorem within_eq (x lo hi : Int) : impl_within.f x lo hi = some (decide (lo ≤ x) && decide (x ≤ hi)) := by
  unfold impl_within.f
  by_cases h : lo ≤ x <;> simp [h]
theorem toList_data (s : ByteArray) : s.toList = s.data.toList := Lib.toList_data s
theorem heights_eq (s : ByteArray) (hs : s.size ≤ 1048576) (h : signs s.data.toList) : impl_heights.f s = some (0 :: hts 0 s.data.toList) := by
  unfold impl_heights.f
  rw [if_pos ⟨hs, fun c hc => by rcases h c hc with e | e <;> omega⟩]
theorem ev_IsShape (s : ByteArray) (hs : s.size ≤ 1048576) : Ev (fun k => impl_IsShape.f k s) (shp s) := by
  have hsz : s.data.toList.length = s.size := by simp
  have hno : shp s = false → Ev (fun k => impl_IsShape.j0 k s true) (shp s) := fun h => by
    rw [h]
    refine Ev.step (f := fun _ => some false) (fun k => ?_) (Ev.now _)
    simp only [impl_IsShape.j0, if_true]
  have hpar : shp s = true → s.size % 2 = 0 ∧ s.size ≠ 0 ∧ s.size ≤ 16 ∧ signs s.data.toList ∧ okL 0 s.data.toList = true := fun h => by
    unfold shp at h
    simp only [Bool.and_eq_true, decide_eq_true_eq] at h
    obtain ⟨⟨a, b⟩, c⟩ := h
    have hsg := okL_signs _ _ c
    have hf := ((okL_iff _ 0 (Int.le_refl _) hsg).1 c).2
    have hp := fin_parity s.data.toList 0
    rw [hf, hsz] at hp
    exact ⟨by omega, a, b, hsg, c⟩
  by_cases h2 : ((s.size : Int) % 2) = 1
  · refine Ev.congr (f := fun k => impl_IsShape.j0 k s true) (fun k => ?_) (hno ?_)
    · unfold impl_IsShape.f; rw [if_pos h2]
    · cases he : shp s with
      | false => rfl
      | true => have := (hpar he).1; omega
  · have hw : wrap64 ((s.size : Int) / 2) = (s.size : Int) / 2 := by unfold wrap64; omega
    have hpp : impl_isPilePairs.f (wrap64 ((s.size : Int) / 2)) = some (decide (1 ≤ (s.size : Int) / 2) && decide ((s.size : Int) / 2 ≤ 8)) := by
      unfold impl_isPilePairs.f
      rw [hw, within_eq]; rfl
    by_cases hb : 1 ≤ (s.size : Int) / 2 ∧ (s.size : Int) / 2 ≤ 8
    · have htr : strings_Trim.f s (⟨#[43, 45]⟩ : ByteArray) = some ⟨(Lib.trimS s.data.toList [43, 45]).toArray⟩ := by
        unfold strings_Trim.f
        rw [if_pos ⟨by omega, by decide, by decide⟩]
      have hbase : ∀ k, impl_IsShape.f k s = impl_IsShape.j0 k s (Lib.trimS s.data.toList [43, 45] != ([] : List UInt8)) := fun k => by
        unfold impl_IsShape.f
        rw [if_neg h2, hpp, decide_eq_true hb.1, decide_eq_true hb.2]
        simp only [Bool.and_self, Option.bind_some, if_true]
        rw [htr, Option.bind_some, toList_data]
      refine Ev.congr hbase ?_
      by_cases hsg : signs s.data.toList
      · have ht : Lib.trimS s.data.toList [43, 45] = [] := (trimS_nil _ _).2 (fun x hx => (contains_signs x).2 (hsg x hx))
        rw [ht]
        have hlen : (0 :: hts 0 s.data.toList).length = s.size + 1 := by rw [List.length_cons, hts_length, hsz]
        have hmin := ev_min (0 :: hts 0 s.data.toList) (by omega) (by omega)
        have hfr := fin_rd s.data.toList 0
        rw [hsz] at hfr
        have hq : shp s = okL 0 s.data.toList := by unfold shp; rw [decide_eq_true (by omega), decide_eq_true (by omega), Bool.true_and, Bool.true_and]
        rw [hq]
        have hiff := okL_iff s.data.toList 0 (Int.le_refl _) hsg
        have hfm := fold_mn (hts 0 s.data.toList) 0
        have e0 : ((0 :: hts 0 s.data.toList).drop 1).foldl mn (rd (0 :: hts 0 s.data.toList) 0) = (hts 0 s.data.toList).foldl mn 0 := rfl
        rw [e0] at hmin
        generalize hH : hts 0 s.data.toList = H at *
        refine Ev.step (f := fun k => (slices_Min_int_int.f k (0 :: H)).bind fun t106 => if t106 = 0 then some (rd (0 :: H) (s.size : Int) == 0) else some false) (fun k => ?_) (Ev.bind hmin ?_)
        · simp only [impl_IsShape.j0, bne_self_eq_false, Bool.false_eq_true, if_false]
          rw [heights_eq s hs hsg, hH, Option.bind_some]
          rw [if_pos (show (0 : Int) ≤ (s.size : Int) from by omega), if_pos (show (s.size : Int) < ((0 :: H).length : Int) from by omega)]
        · rw [hfr]
          refine Ev.congr (fun k => ?_) (Ev.now _)
          by_cases hm : H.foldl mn 0 = 0
          · rw [if_pos hm]
            congr 1
            rw [Bool.eq_iff_iff, hiff, beq_iff_eq]
            exact ⟨fun h => ⟨hfm.2.1 (by omega), h⟩, fun h => h.2⟩
          · rw [if_neg hm]
            congr 1
            cases he : okL 0 s.data.toList with
            | false => rfl
            | true =>
              have := hfm.2.2 (hiff.1 he).1
              omega
      · have ht : (Lib.trimS s.data.toList [43, 45] != ([] : List UInt8)) = true := by
          rw [bne_iff_ne]
          intro e
          exact hsg (fun x hx => (contains_signs x).1 ((trimS_nil _ _).1 e x hx))
        rw [ht]
        refine hno ?_
        cases he : shp s with
        | false => rfl
        | true => exact absurd (hpar he).2.2.2.1 hsg
    · refine Ev.congr (f := fun k => impl_IsShape.j0 k s true) (fun k => ?_) (hno ?_)
      · unfold impl_IsShape.f
        rw [if_neg h2, hpp]
        have : (decide (1 ≤ (s.size : Int) / 2) && decide ((s.size : Int) / 2 ≤ 8)) = false := by
          rw [Bool.eq_false_iff]
          intro h
          simp only [Bool.and_eq_true, decide_eq_true_eq] at h
          exact hb h
        rw [this]
        simp only [Option.bind_some, Bool.false_eq_true, if_false]
      · cases he : shp s with
        | false => rfl
        | true => have := hpar he; omega

end Go.Proofs.YtfllamjkifbpmaaDoor.PureShapes
