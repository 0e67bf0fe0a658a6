/- The pure statement of the law FnExactRankOfShape: for whatever text of at most 140737488351232 bytes the program's and the reference's RankOfShape answer alike. -/
import Derived.Test.YtfllamjkifbpmaaDoorQRankOfShapex1
import Derived.Test.YtfllamjkifbpmaaDoorPureShapes
import Derived.Test.YtfllamjkifbpmaaDoorXRank
namespace Go.Proofs.YtfllamjkifbpmaaDoor.PureRankOfShape
open Go.RowKit Go.Proofs.YtfllamjkifbpmaaDoor.QRankOfShape Go.Proofs.YtfllamjkifbpmaaDoorW.PrintWords Go.Proofs.YtfllamjkifbpmaaDoorW.PrintLast Go.Proofs.YtfllamjkifbpmaaDoorW.PrintMore Go.Proofs.YtfllamjkifbpmaaDoor.QBase Go.Proofs.YtfllamjkifbpmaaDoor.QShape Go.Proofs.YtfllamjkifbpmaaDoor.XHeights Go.Proofs.YtfllamjkifbpmaaDoor.XRank Go.Proofs.YtfllamjkifbpmaaDoor.PureShapes
set_option linter.unusedVariables false
set_option linter.unusedSimpArgs false

theorem okL_len : ∀ (l : List UInt8) (n : Int), okL n l = true → ∃ u : Nat, (l.length : Int) = 2 * (u : Int) + n
  | [], n, h => ⟨0, by rw [okL] at h; simp at h; simp [h]⟩
  | c :: l, n, h => by
    rw [okL] at h
    by_cases h43 : c.toNat = 43
    · rw [if_pos h43] at h
      obtain ⟨u, e⟩ := okL_len l _ h
      exact ⟨u + 1, by rw [List.length_cons]; omega⟩
    · rw [if_neg h43] at h
      by_cases h45 : c.toNat = 45
      · rw [if_pos h45] at h
        by_cases hn : n - 1 < 0
        · rw [if_pos hn] at h; cases h
        · rw [if_neg hn] at h
          obtain ⟨u, e⟩ := okL_len l _ h
          exact ⟨u, by rw [List.length_cons]; omega⟩
      · rw [if_neg h45] at h; cases h
theorem drop_next (hs : List Int) (i : Nat) (n : Int) (l : List Int) (h : hs.drop i = n :: l) : rd hs (i : Int) = n ∧ hs.drop (i + 1) = l := by
  have hi : i < hs.length := by
    rcases Nat.lt_or_ge i hs.length with h' | h'
    · exact h'
    · rw [List.drop_eq_nil_of_le h'] at h; cases h
  rw [drop_cons hs i hi] at h
  exact ⟨(List.cons.inj h).1, (List.cons.inj h).2⟩
theorem shp_is (s : ByteArray) (h : shp s = true) : s.size ≠ 0 ∧ s.size ≤ 16 ∧ okL 0 s.data.toList = true ∧ signs s.data.toList := by
  unfold shp at h
  simp only [Bool.and_eq_true, decide_eq_true_eq] at h
  obtain ⟨⟨a, b⟩, c⟩ := h
  exact ⟨a, b, c, okL_signs _ _ c⟩


/-- How many shapes go on, as the reference's recursion counts them. -/
def shc : Nat → Nat → Nat → Int
  | 0, _, _ => 0
  | _ + 1, 0, _ => 1
  | k + 1, u + 1, 0 => shc k u 1
  | k + 1, u + 1, l + 1 => shc k u (l + 2) + shc k (u + 1) l
def S0 (u l : Nat) : Int := shc 40 u l
theorem srTable : ((List.range 9).all fun u => (List.range (9 - u)).all fun l =>
    if u = 0 then (l == 0) || (impl_rests.f 700 ((l : Int) - 1) ((l : Int) + 1) == some 0)
     else (impl_rests.f 700 (2 * (u : Int) + l - 1) ((l : Int) + 1) == some (S0 (u - 1) (l + 1))) && (spec_piShapes.f 40 ((u - 1 : Nat) : Int) ((l + 1 : Nat) : Int) == some (S0 (u - 1) (l + 1)))) = true := by decide +kernel
/-- What the counts satisfy. -/
def Facts (S : Nat → Nat → Int) : Prop := ∀ u l : Nat, u + l ≤ 8 →
    (u = 0 → l ≠ 0 → impl_rests.f 700 ((l : Int) - 1) ((l : Int) + 1) = some 0) ∧
    (u ≠ 0 → impl_rests.f 700 (2 * (u : Int) + l - 1) ((l : Int) + 1) = some (S (u - 1) (l + 1)) ∧ spec_piShapes.f 40 ((u - 1 : Nat) : Int) ((l + 1 : Nat) : Int) = some (S (u - 1) (l + 1)))
theorem sr_at : Facts S0 := by
  intro u l h
  have t := srTable
  rw [List.all_eq_true] at t
  have t1 := t u (by rw [List.mem_range]; omega)
  rw [List.all_eq_true] at t1
  have t2 := t1 l (by rw [List.mem_range]; omega)
  by_cases hu : u = 0
  · rw [if_pos hu] at t2
    refine ⟨fun _ hl => ?_, fun h => absurd hu h⟩
    simp only [Bool.or_eq_true, beq_iff_eq] at t2
    exact t2.resolve_left hl
  · rw [if_neg hu] at t2
    simp only [Bool.and_eq_true, beq_iff_eq] at t2
    exact ⟨fun h => absurd h hu, fun _ => t2⟩
theorem wrap_wrap (x : Int) : wrap64 (wrap64 x) = wrap64 x := by unfold wrap64; omega
theorem rank_loop (S : Nat → Nat → Int) (F : Facts S) (s : ByteArray) (hs : List Int) (hsz : s.size ≤ 16) : ∀ (l : List UInt8) (i u n : Nat) (out : Int), signs l → okL (n : Int) l = true → l.length = 2 * u + n → n ≤ i →
    s.data.toList.drop i = l → i + l.length = s.size → hs.drop i = (n : Int) :: hts (n : Int) l → wrap64 out = out →
    ∃ r, Ev (fun k => spec_RankOfShape.l0 k s out (u : Int) (n : Int) (i : Int)) (r, true) ∧ Ev (fun k => rnkL k (s.size : Int) hs i l out) r := by
  intro l
  induction l with
  | nil =>
    intro i u n out hsg hok hul h0 hd hi _ h
    refine ⟨out, Ev.step (f := fun _ => some (out, true)) (fun k => ?_) (Ev.now _), Ev.congr (f := fun _ => some out) (fun k => by rw [rnkL]) (Ev.now _)⟩
    simp only [spec_RankOfShape.l0]
    rw [if_neg (by simp at hi; omega)]
  | cons c l ihl =>
    intro i u n out hsg hok hul h0 hd hi hh h
    rw [List.length_cons] at hi hul
    have hil : i < s.size := by omega
    have h8 : u + n ≤ 8 := by omega
    have hnx := wrap_succ i (by omega)
    obtain ⟨c', hd', hb⟩ := bt_hd s i hil
    rw [hd] at hd'
    obtain ⟨rfl, hd2⟩ := List.cons.inj hd'
    obtain ⟨e1, e2⟩ := drop_next hs i n _ hh
    have hsg' : signs l := fun x hx => hsg x (List.mem_cons_of_mem _ hx)
    rw [hts] at e2
    rw [okL] at hok
    have c1 : (i : Int) < (s.size : Int) := by omega
    have c2 : (0 : Int) ≤ (i : Int) := by omega
    by_cases h43 : c.toNat = 43
    · simp only [if_pos h43] at e2 hok
      obtain ⟨v, rfl⟩ : ∃ v, u = v + 1 := by
        obtain ⟨v, e⟩ := okL_len l _ hok
        exact ⟨u - 1, by omega⟩
      obtain ⟨r, a, b⟩ := ihl (i + 1) v (n + 1) out hsg' (by rw [show ((n + 1 : Nat) : Int) = (n : Int) + 1 from by omega]; exact hok) (by omega) (by omega) hd2.symm (by omega) (by rw [show ((n + 1 : Nat) : Int) = (n : Int) + 1 from by omega]; exact e2) h
      refine ⟨r, Ev.step (f := fun k => spec_RankOfShape.l0 k s out (v : Int) ((n + 1 : Nat) : Int) ((i + 1 : Nat) : Int)) (fun k => ?_) a, Ev.congr (fun k => by rw [rnkL, if_neg (by omega)]) b⟩
      simp only [spec_RankOfShape.l0]
      rw [if_pos c1, if_pos c2, if_pos (hb.trans (by omega)), hnx, show wrap64 (((v + 1 : Nat) : Int) - 1) = (v : Int) from by unfold wrap64; omega, show wrap64 ((n : Int) + 1) = ((n + 1 : Nat) : Int) from by unfold wrap64; omega]
    · have h45 : c.toNat = 45 := (hsg c (List.mem_cons_self ..)).resolve_left h43
      simp only [if_neg h43, if_pos h45] at e2 hok
      by_cases hn : (n : Int) - 1 < 0
      · rw [if_pos hn] at hok; cases hok
      rw [if_neg hn] at hok
      obtain ⟨m, rfl⟩ : ∃ m, n = m + 1 := ⟨n - 1, by omega⟩
      obtain ⟨F1, F2⟩ := F u (m + 1) h8
      have em : ((m + 1 : Nat) : Int) - 1 = (m : Int) := by omega
      rw [em] at e2 hok
      have hb43 : ¬ bt s (i : Int) = 43 := fun e => h43 (by have := hb.symm.trans e; omega)
      by_cases hu : u = 0
      · subst hu
        obtain ⟨r, a, b⟩ := ihl (i + 1) 0 m out hsg' hok (by omega) (by omega) hd2.symm (by omega) e2 h
        refine ⟨r, Ev.step (f := fun k => spec_RankOfShape.l0 k s out ((0 : Nat) : Int) (m : Int) ((i + 1 : Nat) : Int)) (fun k => ?_) a, Ev.congr (f := fun k => (impl_rests.f k (((m + 1 : Nat) : Int) - 1) (((m + 1 : Nat) : Int) + 1)).bind fun t => rnkL k (s.size : Int) hs (i + 1) l (wrap64 (out + t))) (fun k => ?_) (Ev.bind (Ev.of (impl_rests.mono _ _) (F1 rfl (by omega))) ?_)⟩
        · simp only [spec_RankOfShape.l0]
          rw [if_pos c1, if_pos c2, if_neg hb43, if_neg (by omega), hnx, show wrap64 (((m + 1 : Nat) : Int) - 1) = (m : Int) from by unfold wrap64; omega]
        · rw [rnkL, if_pos h45, e1, show wrap64 (((m + 1 : Nat) : Int) + 1) = ((m + 1 : Nat) : Int) + 1 from by unfold wrap64; omega, show (s.size : Int) - (i : Int) - 1 = ((m + 1 : Nat) : Int) - 1 from by omega]
        · simp only [Int.add_zero, h]; exact b
      · obtain ⟨F3, F4⟩ := F2 hu
        obtain ⟨r, a, b⟩ := ihl (i + 1) u m (wrap64 (out + S (u - 1) (m + 1 + 1))) hsg' hok (by omega) (by omega) hd2.symm (by omega) e2 (wrap_wrap _)
        refine ⟨r, Ev.step (f := fun k => (spec_piShapes.f k ((u - 1 : Nat) : Int) ((m + 1 + 1 : Nat) : Int)).bind fun t => spec_RankOfShape.l0 k s (wrap64 (out + t)) (u : Int) (m : Int) ((i + 1 : Nat) : Int)) (fun k => ?_) (Ev.bind (Ev.of (spec_piShapes.mono _ _) F4) a), Ev.congr (f := fun k => (impl_rests.f k (2 * (u : Int) + ((m + 1 : Nat) : Int) - 1) (((m + 1 : Nat) : Int) + 1)).bind fun t => rnkL k (s.size : Int) hs (i + 1) l (wrap64 (out + t))) (fun k => ?_) (Ev.bind (Ev.of (impl_rests.mono _ _) F3) b)⟩
        · simp only [spec_RankOfShape.l0]
          rw [if_pos c1, if_pos c2, if_neg hb43, if_pos (by omega), hnx, show wrap64 (((m + 1 : Nat) : Int) - 1) = (m : Int) from by unfold wrap64; omega, show wrap64 (((m + 1 : Nat) : Int) + 1) = ((m + 1 : Nat) : Int) + 1 from by unfold wrap64; omega, show wrap64 ((u : Int) - 1) = ((u - 1 : Nat) : Int) from by unfold wrap64; omega]
          rfl
        · rw [rnkL, if_pos h45, e1, show wrap64 (((m + 1 : Nat) : Int) + 1) = ((m + 1 : Nat) : Int) + 1 from by unfold wrap64; omega, show (s.size : Int) - (i : Int) - 1 = 2 * (u : Int) + ((m + 1 : Nat) : Int) - 1 from by omega]

theorem law : laws_FnExactRankOfShape.Pure := by
  intro s _
  obtain ⟨S, F⟩ : ∃ S, Facts S := ⟨S0, sr_at⟩
  apply Ev.rounds
  by_cases hs : s.size ≤ 1048576
  · suffices h : ∃ res, Ev (fun k => spec_RankOfShape.f k s) res ∧ Ev (fun k => impl_RankOfShape.f k s) res by
      obtain ⟨res, h1, h2⟩ := h
      refine Ev.congr (f := fun k => (spec_RankOfShape.f k s).bind fun bt101 => (impl_RankOfShape.f k s).bind fun bt103 => if bt103.1 = bt101.1 then (if (bt103.2 != bt101.2) = true then some false else some true) else some false) (fun k => ?_) (Ev.bind h1 (Ev.bind h2 ?_))
      · unfold laws_FnExactRankOfShape.f
        rw [if_neg (by omega)]
      · simp only [bne_self_eq_false, Bool.false_eq_true, if_false, if_true]
        exact Ev.now _
    have hsl : s.data.toList.length = s.size := by simp
    cases hq : shp s with
    | false =>
      refine ⟨(0, false), Ev.congr (fun k => by unfold spec_RankOfShape.f; rfl) (Ev.bind (ev_piIs s) ?_), Ev.congr (fun k => by unfold impl_RankOfShape.f; rfl) (Ev.bind (ev_IsShape s hs) ?_)⟩
      · simp only [hq, Bool.false_eq_true, if_false]; exact Ev.now _
      · simp only [hq, Bool.false_eq_true, if_false]; exact Ev.now _
    | true =>
      obtain ⟨hne, h16, hok, hsg⟩ := shp_is s hq
      obtain ⟨u, hu⟩ := okL_len _ _ hok
      obtain ⟨r, a, b⟩ := rank_loop S F s (0 :: hts 0 s.data.toList) h16 s.data.toList 0 u 0 0 hsg hok (by omega) (Nat.le_refl _) rfl (by rw [hsl]; omega) rfl (by unfold wrap64; omega)
      rw [hsl] at hu
      refine ⟨(r, true), Ev.congr (fun k => by unfold spec_RankOfShape.f; rfl) (Ev.bind (ev_piIs s) ?_), Ev.congr (fun k => by unfold impl_RankOfShape.f; rfl) (Ev.bind (ev_IsShape s hs) ?_)⟩
      · simp only [hq, if_true]
        rw [show wrap64 ((s.size : Int) / 2) = (u : Int) from by unfold wrap64; omega]
        exact a
      · simp only [hq, if_true]
        rw [heights_eq s hs hsg]
        exact Ev.bind (Ev.now _) (Ev.bind b (Ev.now _))
  · refine Ev.congr (f := fun _ => some true) (fun k => ?_) (Ev.now _)
    unfold laws_FnExactRankOfShape.f
    rw [if_pos (by omega)]

end Go.Proofs.YtfllamjkifbpmaaDoor.PureRankOfShape
namespace Go.Proofs.YtfllamjkifbpmaaDoor.Pure
theorem FnExactRankOfShape : Go.Proofs.YtfllamjkifbpmaaDoor.QRankOfShape.laws_FnExactRankOfShape.Pure := Go.Proofs.YtfllamjkifbpmaaDoor.PureRankOfShape.law
end Go.Proofs.YtfllamjkifbpmaaDoor.Pure
