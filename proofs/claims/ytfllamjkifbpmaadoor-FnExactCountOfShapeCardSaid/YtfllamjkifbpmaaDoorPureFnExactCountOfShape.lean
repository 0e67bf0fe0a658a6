/- The pure statement of the law FnExactCountOfShape: for whatever text of at most 140737488351232 bytes the program's and the reference's CountOfShape answer alike. -/
import Derived.Test.YtfllamjkifbpmaaDoorQCountOfShapex1
import Derived.Test.YtfllamjkifbpmaaDoorPureShapes
import Derived.Test.YtfllamjkifbpmaaDoorXCount
namespace Go.Proofs.YtfllamjkifbpmaaDoor.PureCountOfShape
open Go.RowKit Go.Proofs.YtfllamjkifbpmaaDoor.QCountOfShape Go.Proofs.YtfllamjkifbpmaaDoorW.PrintWords Go.Proofs.YtfllamjkifbpmaaDoorW.PrintLast Go.Proofs.YtfllamjkifbpmaaDoorW.PrintMore Go.Proofs.YtfllamjkifbpmaaDoor.QBase Go.Proofs.YtfllamjkifbpmaaDoor.QShape Go.Proofs.YtfllamjkifbpmaaDoor.XHeights Go.Proofs.YtfllamjkifbpmaaDoor.XCount Go.Proofs.YtfllamjkifbpmaaDoor.PureShapes
set_option linter.unusedVariables false
set_option linter.unusedSimpArgs false

theorem wrap_eq (x : Int) : ∃ q : Int, wrap64 x = x + 18446744073709551616 * q := ⟨-((x + 9223372036854775808) / 18446744073709551616), by unfold wrap64; have := Int.mul_ediv_add_emod (x + 9223372036854775808) 18446744073709551616; omega⟩
theorem wrap_add_mul (x q : Int) : wrap64 (x + 18446744073709551616 * q) = wrap64 x := by unfold wrap64; omega
theorem wrap_mul (a b : Int) : wrap64 (wrap64 a * b) = wrap64 (a * b) := by
  obtain ⟨q, h⟩ := wrap_eq a
  rw [h, Int.add_mul, Int.mul_assoc, wrap_add_mul]
/-- The ways of the signs '-', from a height on. -/
def P : Int → List UInt8 → Int
  | _, [] => 1
  | n, c :: cs => if c.toNat = 43 then P (n + 1) cs else n * P (n - 1) cs
def fct : Nat → Int
  | 0 => 1
  | n + 1 => ((n + 1 : Nat) : Int) * fct n
theorem okL_len : ∀ (l : List UInt8) (n : Int), okL n l = true → ∃ u : Nat, (l.length : Int) = 2 * (u : Int) + n
  | [], n, h => ⟨0, by rw [okL] at h; simp at h; simp [h]⟩
  | c :: l, n, h => by
    rw [okL] at h
    by_cases h43 : c.toNat = 43
    · rw [if_pos h43] at h
      obtain ⟨u, e⟩ := okL_len l _ h
      exact ⟨u + 1, by rw [List.length_cons]; omega⟩
    · rw [if_neg h43] at h
      by_cases h45 : c.toNat = 45
      · rw [if_pos h45] at h
        by_cases hn : n - 1 < 0
        · rw [if_pos hn] at h; cases h
        · rw [if_neg hn] at h
          obtain ⟨u, e⟩ := okL_len l _ h
          exact ⟨u, by rw [List.length_cons]; omega⟩
      · rw [if_neg h45] at h; cases h
theorem drop_next (hs : List Int) (i : Nat) (n : Int) (l : List Int) (h : hs.drop i = n :: l) : rd hs (i : Int) = n ∧ hs.drop (i + 1) = l := by
  have hi : i < hs.length := by
    rcases Nat.lt_or_ge i hs.length with h' | h'
    · exact h'
    · rw [List.drop_eq_nil_of_le h'] at h; cases h
  rw [drop_cons hs i hi] at h
  exact ⟨(List.cons.inj h).1, (List.cons.inj h).2⟩
theorem cnt_impl (hs : List Int) : ∀ (l : List UInt8) (i : Nat) (n out : Int), signs l → hs.drop i = n :: hts n l → wrap64 out = out → cntL hs i l out = wrap64 (out * P n l)
  | [], i, n, out, _, _, h => by rw [cntL, P, Int.mul_one, h]
  | c :: l, i, n, out, hsg, hd, h => by
    obtain ⟨e1, e2⟩ := drop_next hs i n _ hd
    have hsg' : signs l := fun x hx => hsg x (List.mem_cons_of_mem _ hx)
    rw [hts] at e2
    rw [cntL, P]
    by_cases h43 : c.toNat = 43
    · simp only [if_pos h43] at e2 ⊢
      rw [if_neg (by omega)]
      exact cnt_impl hs l (i + 1) _ _ hsg' e2 h
    · have h45 : c.toNat = 45 := (hsg c (List.mem_cons_self ..)).resolve_left h43
      simp only [if_neg h43] at e2 ⊢
      rw [if_pos h45, e1, cnt_impl hs l (i + 1) _ _ hsg' e2 (by unfold wrap64; omega), wrap_mul, Int.mul_assoc]
theorem rd_take (hs : List Int) (m i : Nat) (h : i < m) : rd (hs.take m) (i : Int) = rd hs (i : Int) := by
  rw [rd_nat, rd_nat, List.getD_eq_getElem?_getD, List.getD_eq_getElem?_getD, List.getElem?_take, if_pos h]
theorem cnt_spec (s : ByteArray) (hs : List Int) (hlen : hs.length = s.size + 1) (hsz : s.size ≤ 16) : ∀ (l : List UInt8) (i : Nat) (u : Nat) (n out : Int), signs l → okL n l = true → (l.length : Int) = 2 * (u : Int) + n → 0 ≤ n →
    s.data.toList.drop i = l → i + l.length = s.size → hs.drop i = n :: hts n l → wrap64 out = out →
    Ev (fun k => spec_CountOfShape.l0 k s out (u : Int) (hs.take s.size) (s.size : Int) (i : Int)) (wrap64 (out * (fct u * P n l)), true) := by
  intro l
  induction l with
  | nil =>
    intro i u n out hsg hok hul h0 hd hi _ h
    have hu : u = 0 := by simp at hul; omega
    subst hu
    rw [P, fct, Int.mul_one, Int.mul_one, h]
    refine Ev.step (f := fun _ => some (out, true)) (fun k => ?_) (Ev.now _)
    simp only [spec_CountOfShape.l0]
    rw [if_neg (by simp at hi; omega)]
  | cons c l ihl =>
    intro i u n out hsg hok hul h0 hd hi hh h
    rw [List.length_cons] at hi hul
    have hil : i < s.size := by omega
    have htl : ((hs.take s.size).length : Int) = (s.size : Int) := by rw [List.length_take]; omega
    have hnx := wrap_succ i (by omega)
    obtain ⟨c', hd', hb⟩ := bt_hd s i hil
    rw [hd] at hd'
    obtain ⟨rfl, hd2⟩ := List.cons.inj hd'
    obtain ⟨e1, e2⟩ := drop_next hs i n _ hh
    have hsg' : signs l := fun x hx => hsg x (List.mem_cons_of_mem _ hx)
    rw [hts] at e2
    rw [P]
    rw [okL] at hok
    by_cases h43 : c.toNat = 43
    · simp only [if_pos h43] at e2 hok ⊢
      obtain ⟨v, rfl⟩ : ∃ v, u = v + 1 := by
        obtain ⟨v, e⟩ := okL_len l _ hok
        exact ⟨u - 1, by omega⟩
      have ih := ihl (i + 1) v (n + 1) (wrap64 (out * ((v + 1 : Nat) : Int))) hsg' hok (by omega) (by omega) hd2.symm (by omega) e2 (by unfold wrap64; omega)
      rw [wrap_mul, Int.mul_assoc, ← Int.mul_assoc ((v + 1 : Nat) : Int)] at ih
      refine Ev.step (f := fun k => spec_CountOfShape.l0 k s (wrap64 (out * ((v + 1 : Nat) : Int))) (v : Int) (hs.take s.size) (s.size : Int) ((i + 1 : Nat) : Int)) (fun k => ?_) ih
      have c1 : (i : Int) < (s.size : Int) := by omega
      have c2 : (0 : Int) ≤ (i : Int) := by omega
      have c3 : (i : Int) < ((hs.take s.size).length : Int) := by omega
      simp only [spec_CountOfShape.l0]
      rw [if_pos c1, if_pos c2, if_pos c3, if_pos c1, if_pos (hb.trans (by omega)), hnx, show wrap64 (((v + 1 : Nat) : Int) - 1) = (v : Int) from by unfold wrap64; omega]
    · have h45 : c.toNat = 45 := (hsg c (List.mem_cons_self ..)).resolve_left h43
      simp only [if_neg h43, if_pos h45] at e2 hok ⊢
      by_cases hn : n - 1 < 0
      · rw [if_pos hn] at hok; cases hok
      rw [if_neg hn] at hok
      have ih := ihl (i + 1) u (n - 1) (wrap64 (out * n)) hsg' hok (by omega) (by omega) hd2.symm (by omega) e2 (by unfold wrap64; omega)
      rw [wrap_mul, show out * n * (fct u * P (n - 1) l) = out * (fct u * (n * P (n - 1) l)) from by rw [Int.mul_assoc, Int.mul_left_comm n]] at ih
      refine Ev.step (f := fun k => spec_CountOfShape.l0 k s (wrap64 (out * n)) (u : Int) (hs.take s.size) (s.size : Int) ((i + 1 : Nat) : Int)) (fun k => ?_) ih
      have c1 : (i : Int) < (s.size : Int) := by omega
      have c2 : (0 : Int) ≤ (i : Int) := by omega
      have c3 : (i : Int) < ((hs.take s.size).length : Int) := by omega
      simp only [spec_CountOfShape.l0]
      rw [if_pos c1, if_pos c2, if_pos c3, if_pos c1, if_neg (fun e => h43 (by have := hb.symm.trans e; omega)), hnx, rd_take _ _ _ hil, e1]
theorem fct_table : ((List.range 9).all fun u => impl_factorial.f 20 (u : Int) == some (fct u) && (wrap64 (fct u) == fct u)) = true := by decide +kernel
theorem shp_is (s : ByteArray) (h : shp s = true) : s.size ≠ 0 ∧ s.size ≤ 16 ∧ okL 0 s.data.toList = true ∧ signs s.data.toList := by
  unfold shp at h
  simp only [Bool.and_eq_true, decide_eq_true_eq] at h
  obtain ⟨⟨a, b⟩, c⟩ := h
  exact ⟨a, b, c, okL_signs _ _ c⟩

theorem law : laws_FnExactCountOfShape.Pure := by
  intro s _
  apply Ev.rounds
  by_cases hs : s.size ≤ 1048576
  · suffices h : ∃ res, Ev (fun k => spec_CountOfShape.f k s) res ∧ Ev (fun k => impl_CountOfShape.f k s) res by
      obtain ⟨res, h1, h2⟩ := h
      refine Ev.congr (f := fun k => (spec_CountOfShape.f k s).bind fun bt101 => (impl_CountOfShape.f k s).bind fun bt103 => if bt103.1 = bt101.1 then (if (bt103.2 != bt101.2) = true then some false else some true) else some false) (fun k => ?_) (Ev.bind h1 (Ev.bind h2 ?_))
      · unfold laws_FnExactCountOfShape.f
        rw [if_neg (by omega)]
      · simp only [bne_self_eq_false, Bool.false_eq_true, if_false, if_true]
        exact Ev.now _
    have hsl : s.data.toList.length = s.size := by simp
    cases hq : shp s with
    | false =>
      refine ⟨(0, false), Ev.congr (fun k => by unfold spec_CountOfShape.f; rfl) (Ev.bind (ev_piIs s) ?_), Ev.congr (fun k => by unfold impl_CountOfShape.f; rfl) (Ev.bind (ev_IsShape s hs) ?_)⟩
      · simp only [hq, Bool.false_eq_true, if_false]; exact Ev.now _
      · simp only [hq, Bool.false_eq_true, if_false]; exact Ev.now _
    | true =>
      obtain ⟨hne, h16, hok, hsg⟩ := shp_is s hq
      obtain ⟨u, hu⟩ := okL_len _ _ hok
      rw [hsl] at hu
      have ht := fct_table
      rw [List.all_eq_true] at ht
      have ht := ht u (by rw [List.mem_range]; omega)
      simp only [Bool.and_eq_true, beq_iff_eq] at ht
      obtain ⟨hf, hfw⟩ := ht
      have hh2 : (s.size : Int) / 2 = (u : Int) := by omega
      have hlen : (0 :: hts 0 s.data.toList).length = s.size + 1 := by rw [List.length_cons, hts_length, hsl]
      refine ⟨(wrap64 (fct u * P 0 s.data.toList), true), Ev.congr (fun k => by unfold spec_CountOfShape.f; rfl) (Ev.bind (ev_piIs s) ?_), Ev.congr (fun k => by unfold impl_CountOfShape.f; rfl) (Ev.bind (ev_IsShape s hs) ?_)⟩
      · simp only [hq, if_true]
        refine Ev.bind (ev_piLoose s hs) ?_
        have h := cnt_spec s (0 :: hts 0 s.data.toList) hlen h16 s.data.toList 0 u 0 1 hsg hok (by rw [hsl]; omega) (Int.le_refl _) rfl (by rw [hsl]; omega) rfl (by unfold wrap64; omega)
        rw [Int.one_mul] at h
        refine Ev.congr (fun k => ?_) h
        rw [if_pos (by omega), if_pos (by omega), hh2, Option.bind_some, Int.toNat_natCast, List.length_take, hlen, show min s.size (s.size + 1) = s.size from by omega, show wrap64 (u : Int) = (u : Int) from by unfold wrap64; omega]
        rfl
      · simp only [hq, if_true]
        rw [hh2]
        refine Ev.bind (Ev.of (impl_factorial.mono _) hf) ?_
        rw [heights_eq s hs hsg]
        rw [Option.bind_some, cnt_impl _ s.data.toList 0 0 _ hsg rfl hfw]
        exact Ev.now _
  · refine Ev.congr (f := fun _ => some true) (fun k => ?_) (Ev.now _)
    unfold laws_FnExactCountOfShape.f
    rw [if_pos (by omega)]

end Go.Proofs.YtfllamjkifbpmaaDoor.PureCountOfShape
namespace Go.Proofs.YtfllamjkifbpmaaDoor.Pure
theorem FnExactCountOfShape : Go.Proofs.YtfllamjkifbpmaaDoor.QCountOfShape.laws_FnExactCountOfShape.Pure := Go.Proofs.YtfllamjkifbpmaaDoor.PureCountOfShape.law
end Go.Proofs.YtfllamjkifbpmaaDoor.Pure
