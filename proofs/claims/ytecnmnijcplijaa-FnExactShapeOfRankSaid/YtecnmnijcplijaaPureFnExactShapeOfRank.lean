/- The pure statement of the law FnExactShapeOfRank: for all int64 numbers pairs and rank the program's ShapeOfRank and the reference's ShapeOfRank return the same text and the same bool. No condition beside that both numbers are int64. -/
import Derived.Test.YtecnmnijcplijaaQShapeOfRankx1
namespace Go.Proofs.Ytecnmnijcplijaa.Pure
open Go.RowKit Go.Proofs.Ytecnmnijcplijaa.QShapeOfRank Go.Proofs.Ytecnmnijcplijaa.QRests Go.Proofs.YtecnmnijcplijaaW.PrintWords Go.Proofs.YtecnmnijcplijaaW.PrintLast

/-- How many shapes go on, as the reference's recursion counts them. -/
def shp : Nat → Nat → Nat → Int
  | 0, _, _ => 0
  | _ + 1, 0, _ => 1
  | k + 1, u + 1, 0 => shp k u 1
  | k + 1, u + 1, l + 1 => shp k u (l + 2) + shp k (u + 1) l

def S0 (u l : Nat) : Int := shp 40 u l

theorem srTable : ((List.range 9).all fun u => (List.range (9 - u)).all fun l =>
    (spec_piShapes.f 40 (u : Int) (l : Int) == some (S0 u l)) && decide (1 ≤ S0 u l) && decide (S0 u l ≤ 100000) &&
    (if u = 0 then (l == 0) || (impl_rests.f 700 ((l : Int) - 1) ((l : Int) + 1) == some 0) && decide (S0 u l = S0 u (l - 1))
     else (impl_rests.f 700 (2 * (u : Int) + l - 1) ((l : Int) + 1) == some (S0 (u - 1) (l + 1))) && (if l = 0 then decide (S0 u l = S0 (u - 1) 1) else decide (S0 u l = S0 (u - 1) (l + 1) + S0 u (l - 1)))) &&
    ((l != 0) || (impl_rests.f 700 (2 * (u : Int)) 0 == some (S0 u 0)))) = true := by decide +kernel

/-- What the counts satisfy. -/
def Facts (S : Nat → Nat → Int) : Prop := ∀ u l : Nat, u + l ≤ 8 →
    spec_piShapes.f 40 (u : Int) (l : Int) = some (S u l) ∧ 1 ≤ S u l ∧ S u l ≤ 100000 ∧
    (u = 0 → l ≠ 0 → impl_rests.f 700 ((l : Int) - 1) ((l : Int) + 1) = some 0 ∧ S u l = S u (l - 1)) ∧
    (u ≠ 0 → impl_rests.f 700 (2 * (u : Int) + l - 1) ((l : Int) + 1) = some (S (u - 1) (l + 1)) ∧ (l = 0 → S u l = S (u - 1) 1) ∧ (l ≠ 0 → S u l = S (u - 1) (l + 1) + S u (l - 1))) ∧
    (l = 0 → impl_rests.f 700 (2 * (u : Int)) 0 = some (S u 0))

theorem sr_at : Facts S0 := by
  intro u l h
  have t := srTable
  rw [List.all_eq_true] at t
  have t1 := t u (by rw [List.mem_range]; omega)
  rw [List.all_eq_true] at t1
  have t2 := t1 l (by rw [List.mem_range]; omega)
  simp only [Bool.and_eq_true, beq_iff_eq, decide_eq_true_eq, Bool.or_eq_true, bne_iff_ne] at t2
  obtain ⟨⟨⟨⟨a, b⟩, c⟩, d⟩, e⟩ := t2
  refine ⟨a, b, c, fun hu hl => ?_, fun hu => ?_, fun hl => ?_⟩
  · rw [if_pos hu] at d
    simpa [hl] using d
  · rw [if_neg hu] at d
    simp only [Bool.and_eq_true, beq_iff_eq] at d
    refine ⟨d.1, fun hl => ?_, fun hl => ?_⟩
    · have := d.2; rw [if_pos hl] at this; simpa using this
    · have := d.2; rw [if_neg hl] at this; simpa using this
  · rcases e with e | e
    · exact absurd hl e
    · exact e

theorem str_plus (xs : List Int) : strOfNums (xs ++ [43]) = strOfNums xs ++ (⟨#[43]⟩ : ByteArray) := by
  apply ByteArray.ext
  simp [strOfNums]
theorem str_minus (xs : List Int) : strOfNums (xs ++ [45]) = strOfNums xs ++ (⟨#[45]⟩ : ByteArray) := by
  apply ByteArray.ext
  simp [strOfNums]
theorem str_size (xs : List Int) : (strOfNums xs).size = xs.length := by simp [strOfNums, ByteArray.size]

theorem sr_loop (S : Nat → Nat → Int) (F : Facts S) (p : Nat) (hp : p ≤ 8) : ∀ (r u l : Nat) (rank : Int) (xs : List Int), 2 * u + l = r → u + l ≤ 8 → xs.length + r = 2 * p → 0 ≤ rank → rank < S u l →
    ∃ ys, Ev (fun k => spec_ShapeOfRank.l0 k (p : Int) rank (strOfNums xs) (u : Int) (l : Int)) (strOfNums ys, true) ∧ Ev (fun k => impl_ShapeOfRank.l0 k rank xs (l : Int) ((r : Int) - 1)) (strOfNums ys, true) := by
  intro r
  induction r with
  | zero =>
    intro u l rank xs hr hul hlen h0 hS
    refine ⟨xs, Ev.step (f := fun _ => some (strOfNums xs, true)) (fun k => ?_) (Ev.now _), Ev.step (f := fun _ => some (strOfNums xs, true)) (fun k => ?_) (Ev.now _)⟩
    · simp only [spec_ShapeOfRank.l0]
      rw [str_size, if_neg (by unfold wrap64; omega)]
    · simp only [impl_ShapeOfRank.l0]
      rw [if_neg (by omega)]
  | succ r ih =>
    intro u l rank xs hr hul hlen h0 hS
    obtain ⟨_, _, hS2, hz, hnz, _⟩ := F u l hul
    have hsz : ((strOfNums xs).size : Int) < wrap64 (2 * (p : Int)) := by rw [str_size]; unfold wrap64; omega
    have hlim : (strOfNums xs).size + 1 ≤ 9223372036854775807 := by rw [str_size]; omega
    have hw1 : wrap64 ((l : Int) + 1) = ((l + 1 : Nat) : Int) := by unfold wrap64; omega
    have hw2 : wrap64 (((r + 1 : Nat) : Int) - 1 - 1) = (r : Int) - 1 := by unfold wrap64; omega
    by_cases hu : u = 0
    · obtain ⟨hr0, hS3⟩ := hz hu (by omega)
      subst hu
      obtain ⟨m, rfl⟩ : ∃ m, l = m + 1 := ⟨l - 1, by omega⟩
      obtain ⟨ys, e1, e2⟩ := ih 0 m rank (xs ++ [45]) (by omega) (by omega) (by simp; omega) h0 (by rw [hS3] at hS; simpa using hS)
      refine ⟨ys, ?_, ?_⟩
      · refine Ev.step (f := fun k => spec_ShapeOfRank.l0 k (p : Int) rank (strOfNums (xs ++ [45])) ((0 : Nat) : Int) (m : Int)) (fun k => ?_) e1
        simp only [spec_ShapeOfRank.l0]
        rw [if_pos hsz, if_neg (by omega), if_neg (by omega), if_pos hlim, str_minus, show wrap64 (rank - 0) = rank from by unfold wrap64; omega, show wrap64 (((m + 1 : Nat) : Int) - 1) = (m : Int) from by unfold wrap64; omega]
      · refine Ev.step (f := fun k => (impl_rests.f k (((m + 1 : Nat) : Int) - 1) (((m + 1 : Nat) : Int) + 1)).bind fun t => if rank < t then (if xs.length < 140737488355328 then impl_ShapeOfRank.l0 k rank (xs ++ [43]) (((m + 1 : Nat) : Int) + 1) ((r : Int) - 1) else none) else if xs.length < 140737488355328 then impl_ShapeOfRank.l0 k (wrap64 (rank - t)) (xs ++ [45]) (m : Int) ((r : Int) - 1) else none) (fun k => ?_) ?_
        · simp only [impl_ShapeOfRank.l0]
          rw [if_pos (by omega), hw1, hw2, show ((r + 1 : Nat) : Int) - 1 = ((m + 1 : Nat) : Int) - 1 from by omega, show wrap64 (((m + 1 : Nat) : Int) - 1) = (m : Int) from by unfold wrap64; omega]
          rfl
        · refine Ev.bind (Ev.of (impl_rests.mono _ _) hr0) ?_
          simp only [show ¬ rank < 0 from by omega, show xs.length < 140737488355328 from by omega, show wrap64 (rank - 0) = rank from by unfold wrap64; omega, if_true, if_false]
          exact e2
    · obtain ⟨hrr, hl0, hl1⟩ := hnz hu
      obtain ⟨v, rfl⟩ : ∃ v, u = v + 1 := ⟨u - 1, by omega⟩
      obtain ⟨hsp, _, hSv, _⟩ := F v (l + 1) (by omega)
      have hrr : impl_rests.f 700 (2 * ((v + 1 : Nat) : Int) + l - 1) ((l : Int) + 1) = some (S v (l + 1)) := hrr
      have hl0 : l = 0 → S (v + 1) l = S v 1 := hl0
      have hl1 : l ≠ 0 → S (v + 1) l = S v (l + 1) + S (v + 1) (l - 1) := hl1
      have hw3 : wrap64 (((v + 1 : Nat) : Int) - 1) = (v : Int) := by unfold wrap64; omega
      have spec1 : ∀ (res : ByteArray × Bool), (rank < S v (l + 1) → Ev (fun k => spec_ShapeOfRank.l0 k (p : Int) rank (strOfNums (xs ++ [43])) (v : Int) ((l + 1 : Nat) : Int)) res) →
          (¬ rank < S v (l + 1) → Ev (fun k => spec_ShapeOfRank.l0 k (p : Int) (rank - S v (l + 1)) (strOfNums (xs ++ [45])) ((v + 1 : Nat) : Int) (wrap64 ((l : Int) - 1))) res) →
          Ev (fun k => spec_ShapeOfRank.l0 k (p : Int) rank (strOfNums xs) ((v + 1 : Nat) : Int) (l : Int)) res := by
        intro res ha hb
        refine Ev.step (f := fun k => (spec_piShapes.f k (v : Int) ((l + 1 : Nat) : Int)).bind fun t => if rank < t then spec_ShapeOfRank.l0 k (p : Int) rank (strOfNums (xs ++ [43])) (v : Int) ((l + 1 : Nat) : Int) else spec_ShapeOfRank.l0 k (p : Int) (wrap64 (rank - t)) (strOfNums (xs ++ [45])) ((v + 1 : Nat) : Int) (wrap64 ((l : Int) - 1))) (fun k => ?_) ?_
        · simp only [spec_ShapeOfRank.l0]
          rw [if_pos hsz, if_pos (by omega), hw3, hw1, str_plus, str_minus]
          simp only [hlim, if_true]
        · refine Ev.bind (Ev.of (spec_piShapes.mono _ _) hsp) ?_
          by_cases hlt : rank < S v (l + 1)
          · simp only [hlt, if_true]; exact ha hlt
          · simp only [hlt, if_false, show wrap64 (rank - S v (l + 1)) = rank - S v (l + 1) from by unfold wrap64; omega]; exact hb hlt
      have impl1 : ∀ (res : ByteArray × Bool), (rank < S v (l + 1) → Ev (fun k => impl_ShapeOfRank.l0 k rank (xs ++ [43]) ((l + 1 : Nat) : Int) ((r : Int) - 1)) res) →
          (¬ rank < S v (l + 1) → Ev (fun k => impl_ShapeOfRank.l0 k (rank - S v (l + 1)) (xs ++ [45]) (wrap64 ((l : Int) - 1)) ((r : Int) - 1)) res) →
          Ev (fun k => impl_ShapeOfRank.l0 k rank xs (l : Int) (((r + 1 : Nat) : Int) - 1)) res := by
        intro res ha hb
        refine Ev.step (f := fun k => (impl_rests.f k (2 * ((v + 1 : Nat) : Int) + l - 1) ((l : Int) + 1)).bind fun t => if rank < t then impl_ShapeOfRank.l0 k rank (xs ++ [43]) ((l + 1 : Nat) : Int) ((r : Int) - 1) else impl_ShapeOfRank.l0 k (wrap64 (rank - t)) (xs ++ [45]) (wrap64 ((l : Int) - 1)) ((r : Int) - 1)) (fun k => ?_) ?_
        · simp only [impl_ShapeOfRank.l0]
          rw [if_pos (by omega), hw1, hw2, show ((r + 1 : Nat) : Int) - 1 = 2 * ((v + 1 : Nat) : Int) + l - 1 from by omega]
          simp only [show xs.length < 140737488355328 from by omega, if_true]
          rfl
        · refine Ev.bind (Ev.of (impl_rests.mono _ _) hrr) ?_
          by_cases hlt : rank < S v (l + 1)
          · simp only [hlt, if_true]; exact ha hlt
          · simp only [hlt, if_false, show wrap64 (rank - S v (l + 1)) = rank - S v (l + 1) from by unfold wrap64; omega]; exact hb hlt
      by_cases hlt : rank < S v (l + 1)
      · obtain ⟨ys, e1, e2⟩ := ih v (l + 1) rank (xs ++ [43]) (by omega) (by omega) (by simp; omega) h0 hlt
        exact ⟨ys, spec1 _ (fun _ => e1) (fun h => absurd hlt h), impl1 _ (fun _ => e2) (fun h => absurd hlt h)⟩
      · have hl : l ≠ 0 := by
          intro h
          have e := hl0 h
          rw [h] at hlt hS e
          have hlt : ¬ rank < S v 1 := hlt
          omega
        obtain ⟨m, rfl⟩ : ∃ m, l = m + 1 := ⟨l - 1, by omega⟩
        have hS4 : S (v + 1) (m + 1) = S v (m + 1 + 1) + S (v + 1) m := hl1 hl
        have hw4 : wrap64 (((m + 1 : Nat) : Int) - 1) = (m : Int) := by unfold wrap64; omega
        obtain ⟨ys, e1, e2⟩ := ih (v + 1) m (rank - S v (m + 1 + 1)) (xs ++ [45]) (by omega) (by omega) (by simp; omega) (by omega) (by omega)
        exact ⟨ys, spec1 _ (fun h => absurd h hlt) (fun _ => by rw [hw4]; exact e1), impl1 _ (fun h => absurd h hlt) (fun _ => by rw [hw4]; exact e2)⟩

theorem FnExactShapeOfRank : laws_FnExactShapeOfRank.Pure := by
  intro a b _ _
  obtain ⟨S, F⟩ : ∃ S, Facts S := ⟨S0, sr_at⟩
  apply Ev.rounds
  suffices h : ∃ res, Ev (fun k => spec_ShapeOfRank.f k a b) res ∧ Ev (fun k => impl_ShapeOfRank.f k a b) res by
    obtain ⟨res, h1, h2⟩ := h
    refine Ev.bind h1 (Ev.bind h2 ?_)
    simpa using Ev.now true
  have hbadS : ∀ c : Bool, c = true → Ev (fun k => spec_ShapeOfRank.j0 k a b c) ((⟨#[]⟩ : ByteArray), false) := by
    rintro c rfl
    refine Ev.step (f := fun k => some ((⟨#[]⟩ : ByteArray), false)) (fun k => ?_) (Ev.now _)
    simp only [spec_ShapeOfRank.j0, if_true]
  have hbadI : ∀ c : Bool, c = true → Ev (fun k => impl_ShapeOfRank.j0 k a b c) ((⟨#[]⟩ : ByteArray), false) := by
    rintro c rfl
    refine Ev.step (f := fun k => some ((⟨#[]⟩ : ByteArray), false)) (fun k => ?_) (Ev.now _)
    simp only [impl_ShapeOfRank.j0, if_true]
  by_cases ha : 1 ≤ a ∧ a ≤ 8
  · obtain ⟨p, rfl⟩ : ∃ p : Nat, a = (p : Int) := ⟨a.toNat, by omega⟩
    obtain ⟨h1, h2⟩ := ha
    obtain ⟨hs, hS1, hS2, _, _, hr⟩ := F p 0 (by omega)
    have hr := hr rfl
    have hs2 : Ev (fun k => spec_piShapes.f k (p : Int) 0) (S p 0) := Ev.of (spec_piShapes.mono _ _) hs
    have hr2 : Ev (fun k => impl_rests.f k (wrap64 (2 * (p : Int))) 0) (S p 0) := by
      rw [show wrap64 (2 * (p : Int)) = 2 * (p : Int) from by unfold wrap64; omega]
      exact Ev.of (impl_rests.mono _ _) hr
    have hw : wrap64 (S p 0 - 1) = S p 0 - 1 := by unfold wrap64; omega
    have himp : ∀ res, Ev (fun k => impl_ShapeOfRank.j0 k (p : Int) b (!(decide (0 ≤ b) && decide (b ≤ S p 0 - 1)))) res → Ev (fun k => impl_ShapeOfRank.f k (p : Int) b) res := by
      intro res h
      refine Ev.congr (f := fun k => (impl_rests.f k (wrap64 (2 * (p : Int))) 0).bind fun t => (impl_within.f b 0 (wrap64 (t - 1))).bind fun t2 => impl_ShapeOfRank.j0 k (p : Int) b (!t2)) (fun k => ?_) (Ev.bind hr2 ?_)
      · have e2 : impl_isPilePairs.f (p : Int) = some true := by
          unfold impl_isPilePairs.f impl_within.f
          simp [h1, h2]
        unfold impl_ShapeOfRank.f
        rw [e2, Option.bind_some, if_pos rfl]
      · rw [hw]
        have e : impl_within.f b 0 (S p 0 - 1) = some (decide (0 ≤ b) && decide (b ≤ S p 0 - 1)) := by
          unfold impl_within.f
          by_cases h : 0 ≤ b <;> simp [h]
        simp only [e, Option.bind_some]
        exact h
    by_cases hb0 : b < 0
    · refine ⟨_, ?_, himp _ (hbadI _ (by simp; omega))⟩
      refine Ev.congr (f := fun k => spec_ShapeOfRank.j0 k (p : Int) b true) (fun k => ?_) (hbadS _ rfl)
      unfold spec_ShapeOfRank.f spec_piPairs.f spec_l1In.f
      simp [h1, h2, hb0]
    · have hspec : ∀ res, Ev (fun k => spec_ShapeOfRank.j0 k (p : Int) b (decide (b ≥ S p 0))) res → Ev (fun k => spec_ShapeOfRank.f k (p : Int) b) res := by
        intro res h
        refine Ev.congr (f := fun k => (spec_piShapes.f k (p : Int) 0).bind fun t => spec_ShapeOfRank.j0 k (p : Int) b (decide (b ≥ t))) (fun k => ?_) (Ev.bind hs2 h)
        unfold spec_ShapeOfRank.f spec_piPairs.f spec_l1In.f
        simp [h1, h2, hb0]
      by_cases hbS : b < S p 0
      · obtain ⟨ys, e1, e2⟩ := sr_loop S F p (by omega) (2 * p) p 0 b [] (by omega) (by omega) (by simp) (by omega) hbS
        refine ⟨(strOfNums ys, true), hspec _ ?_, himp _ ?_⟩
        · refine Ev.step (f := fun k => spec_ShapeOfRank.l0 k (p : Int) b (⟨#[]⟩ : ByteArray) (p : Int) 0) (fun k => ?_) e1
          simp only [spec_ShapeOfRank.j0]
          rw [if_neg (by simp; omega)]
        · refine Ev.step (f := fun k => impl_ShapeOfRank.l0 k b [] 0 (((2 * p : Nat) : Int) - 1)) (fun k => ?_) e2
          simp only [impl_ShapeOfRank.j0]
          rw [if_neg (by simp; omega), show wrap64 (wrap64 (2 * (p : Int)) - 1) = ((2 * p : Nat) : Int) - 1 from by unfold wrap64; omega]
      · exact ⟨_, hspec _ (hbadS _ (by simp; omega)), himp _ (hbadI _ (by simp; omega))⟩
  · refine ⟨((⟨#[]⟩ : ByteArray), false), ?_, ?_⟩
    · refine Ev.congr (f := fun k => spec_ShapeOfRank.j0 k a b true) (fun k => ?_) (hbadS _ rfl)
      unfold spec_ShapeOfRank.f spec_piPairs.f spec_l1In.f
      by_cases h1 : 1 ≤ a <;> by_cases h2 : a ≤ 8 <;> simp [h1, h2]
      exact absurd ⟨h1, h2⟩ ha
    · refine Ev.congr (f := fun k => impl_ShapeOfRank.j0 k a b true) (fun k => ?_) (hbadI _ rfl)
      unfold impl_ShapeOfRank.f impl_isPilePairs.f impl_within.f
      by_cases h1 : 1 ≤ a <;> by_cases h2 : a ≤ 8 <;> simp [h1, h2]
      exact absurd ⟨h1, h2⟩ ha

end Go.Proofs.Ytecnmnijcplijaa.Pure
