/- Plain laws of the reference's order of sizes and of its greedy choice of shoes: what the Lean functions of spec.shOrder and spec.shFeet come to. No program and no memory stands in it. -/
import Derived.Test.YtagfnpocloaojaaQFeetx
import Derived.Test.YtagfnpocloaojaaPureBase
namespace Go.Proofs.Ytagfnpocloaojaa.PureFeet
open Go.RowKit Go.Proofs.Ytagfnpocloaojaa.QBase Go.Proofs.Ytagfnpocloaojaa.QSizes Go.Proofs.Ytagfnpocloaojaa.QFeet Go.Proofs.Ytagfnpocloaojaa.PureBase Go.Proofs.YtagfnpocloaojaaW.PrintWords Go.Proofs.YtagfnpocloaojaaW.PrintLast Go.Proofs.YtagfnpocloaojaaW.PrintMore
set_option linter.unusedVariables false

/-! ### an index is put in its place, seen from the end -/
def insR (L : List Int) (i : Int) : List Int → List Int → List Int
  | [], s => i :: s
  | y :: q, s => if rd L y > rd L i then insR L i q (y :: s) else (y :: q).reverse ++ i :: s
def ordUpto (L : List Int) : Nat → List Int
  | 0 => []
  | i + 1 => insR L (i : Int) (ordUpto L i).reverse []
def lx (L : List Int) (a b : Int) : Prop := rd L a < rd L b ∨ (rd L a = rd L b ∧ a < b)
theorem insR_perm (L : List Int) (i : Int) : ∀ p s, (insR L i p s).Perm (i :: (p ++ s))
  | [], s => List.Perm.refl _
  | y :: q, s => by
    unfold insR
    by_cases h : rd L y > rd L i
    · rw [if_pos h]
      refine (insR_perm L i q (y :: s)).trans (List.Perm.cons i ?_)
      rw [List.cons_append]
      exact List.perm_middle
    · rw [if_neg h]
      refine (List.perm_middle).trans (List.Perm.cons i ?_)
      exact (List.reverse_perm _).append_right s
theorem insR_sorted (L : List Int) (i : Int) : ∀ p s, (p.reverse ++ s).Pairwise (lx L) → (∀ y ∈ p, y < i) → (∀ y ∈ s, rd L i < rd L y) → (insR L i p s).Pairwise (lx L)
  | [], s, hp, _, hs => by
    unfold insR
    exact List.pairwise_cons.2 ⟨fun y hy => .inl (hs y hy), by simpa using hp⟩
  | y :: q, s, hp, hl, hs => by
    unfold insR
    by_cases h : rd L y > rd L i
    · rw [if_pos h]
      refine insR_sorted L i q (y :: s) ?_ (fun z hz => hl z (List.mem_cons.2 (.inr hz))) (fun z hz => ?_)
      · simpa using hp
      · rcases List.mem_cons.1 hz with e | e
        · rw [e]; exact h
        · exact hs z e
    · rw [if_neg h]
      obtain ⟨h1, h2, h3⟩ := List.pairwise_append.1 hp
      refine List.pairwise_append.2 ⟨h1, List.pairwise_cons.2 ⟨fun z hz => .inl (hs z hz), h2⟩, fun a ha b hb => ?_⟩
      rcases List.mem_cons.1 hb with e | e
      · subst e
        have hal : a < b := hl a (List.mem_reverse.1 ha)
        have hay : rd L a ≤ rd L y := by
          rw [List.reverse_cons] at ha h1
          rcases List.mem_append.1 ha with h' | h'
          · rcases (List.pairwise_append.1 h1).2.2 a h' y (List.mem_singleton.2 rfl) with h4 | h4 <;> omega
          · rw [List.mem_singleton.1 h']; omega
        by_cases e2 : rd L a < rd L b
        · exact .inl e2
        · exact .inr ⟨by omega, hal⟩
      · exact h3 a ha b e
theorem ord_perm (L : List Int) : ∀ i, (ordUpto L i).Perm ((List.range i).map fun v : Nat => (v : Int))
  | 0 => List.Perm.refl _
  | i + 1 => by
    unfold ordUpto
    refine (insR_perm L i _ _).trans ?_
    rw [List.append_nil, List.range_succ, List.map_append]
    refine (List.Perm.cons _ ((List.reverse_perm _).trans (ord_perm L i))).trans ?_
    exact (List.perm_append_comm (l₁ := [(i : Int)])).trans (List.Perm.refl _)
theorem ord_length (L : List Int) (i : Nat) : (ordUpto L i).length = i := by rw [(ord_perm L i).length_eq]; simp
theorem ord_mem (L : List Int) (i : Nat) (y : Int) : y ∈ ordUpto L i ↔ 0 ≤ y ∧ y < (i : Int) := by
  rw [(ord_perm L i).mem_iff, List.mem_map]
  constructor
  · rintro ⟨v, hv, rfl⟩
    have := List.mem_range.1 hv
    omega
  · rintro ⟨h1, h2⟩
    exact ⟨y.toNat, List.mem_range.2 (by omega), by omega⟩
theorem ord_sorted (L : List Int) : ∀ i, (ordUpto L i).Pairwise (lx L)
  | 0 => List.Pairwise.nil
  | i + 1 => by
    unfold ordUpto
    refine insR_sorted L i _ _ ?_ (fun y hy => ?_) (fun y hy => by cases hy)
    · rw [List.reverse_reverse, List.append_nil]; exact ord_sorted L i
    · exact ((ord_mem L i y).1 (List.mem_reverse.1 hy)).2
theorem lx_irrefl (L : List Int) (a b : Int) (h : lx L a b) (h2 : lx L b a) : False := by
  unfold lx at h h2; omega
theorem lx_ne {L : List Int} {a b : Int} (h : lx L a b) : a ≠ b := fun e => by subst e; exact lx_irrefl L a a h h

/-! ### spec.shOrder -/
theorem own_eq (l : List Int) (hl : l.length < 17592186044416) : spec_l1Own.f l = some l := by
  unfold spec_l1Own.f
  simp only [Option.bind_some, List.length_nil, Nat.zero_add, List.nil_append]
  rw [if_pos hl]
theorem rd_at (a : List Int) (y : Int) (s : List Int) : rd (a ++ y :: s) (a.length : Int) = y := by
  rw [rd_nat, List.getD_eq_getElem?_getD, List.getElem?_append_right (Nat.le_refl _), Nat.sub_self]
  rfl
theorem ev_ins1 (L : List Int) (i : Nat) (hi : i < 1000) (r : List Int) : ∀ (p s : List Int), p.length + s.length ≤ 1000 → (∀ y ∈ p, 0 ≤ y ∧ y < (L.length : Int)) → Ev (fun k => spec_shOrder.l0 k L (insR L (i : Int) p s) L (L.length : Int) ((i + 1 : Nat) : Int)) r → Ev (fun k => spec_shOrder.l1 k L (p.reverse ++ s) (i : Int) (rd L (i : Int)) (p.length : Int) L (L.length : Int) (i : Int)) r
  | [], s, hl, _, h => by
    refine Ev.step (f := fun k => spec_shOrder.l0 k L (insR L (i : Int) [] s) L (L.length : Int) ((i + 1 : Nat) : Int)) (fun k => ?_) h
    simp only [List.length_nil, Nat.zero_add] at hl
    show spec_shOrder.l1 (k + 1) L s (i : Int) (rd L (i : Int)) 0 L (L.length : Int) (i : Int) = _
    simp only [spec_shOrder.l1]
    rw [if_neg (by omega), if_pos (by omega), if_pos (by omega), show ((0 : Int)).toNat = 0 from rfl, List.take_zero, List.drop_zero, own_eq [] (by simp)]
    simp only [Option.bind_some, List.nil_append, List.length_nil]
    rw [if_pos (by omega), if_pos (by simp; omega), wrap_succ i (by omega)]
    rfl
  | y :: q, s, hl, hm, h => by
    have hy := hm y (List.mem_cons.2 (.inl rfl))
    simp only [List.length_cons] at hl
    have e1 : (y :: q).reverse ++ s = q.reverse ++ y :: s := by simp
    have hw : wrap64 (((y :: q).length : Int) - 1) = ((q.reverse).length : Int) := by rw [List.length_reverse, List.length_cons]; unfold wrap64; omega
    unfold insR at h
    have hlen : ((q.reverse ++ y :: s).length : Int) = (q.length : Int) + 1 + (s.length : Int) := by simp; omega
    by_cases hc : rd L y > rd L (i : Int)
    · rw [if_pos hc] at h
      refine Ev.step (f := fun k => spec_shOrder.l1 k L (q.reverse ++ y :: s) (i : Int) (rd L (i : Int)) (q.length : Int) L (L.length : Int) (i : Int)) (fun k => ?_) (ev_ins1 L i hi r q (y :: s) (by simp only [List.length_cons]; omega) (fun z hz => hm z (List.mem_cons.2 (.inr hz))) h)
      simp only [spec_shOrder.l1]
      rw [e1, hw, rd_at, if_pos (by simp only [List.length_cons]; omega), if_pos (by omega), if_pos (by rw [hlen, List.length_reverse]; omega), if_pos hy.1, if_pos hy.2, if_pos hc, List.length_reverse]
    · rw [if_neg hc] at h
      refine Ev.step (f := fun k => spec_shOrder.l0 k L ((y :: q).reverse ++ (i : Int) :: s) L (L.length : Int) ((i + 1 : Nat) : Int)) (fun k => ?_) h
      simp only [spec_shOrder.l1]
      have et : (q.reverse ++ y :: s).take ((((y :: q).length : Nat) : Int)).toNat = (y :: q).reverse := by rw [← e1]; exact List.take_left' (by simp)
      have ed : (q.reverse ++ y :: s).drop ((((y :: q).length : Nat) : Int)).toNat = s := by rw [← e1]; exact List.drop_left' (by simp)
      rw [e1, hw, rd_at, if_pos (by simp only [List.length_cons]; omega), if_pos (by omega), if_pos (by rw [hlen, List.length_reverse]; omega), if_pos hy.1, if_pos hy.2, if_neg hc, if_pos (by omega), if_pos (by rw [hlen, List.length_cons]; omega), et, ed, own_eq _ (by simp; omega)]
      simp only [Option.bind_some]
      rw [if_pos (by simp; omega), if_pos (by simp; omega), wrap_succ i (by omega), List.append_assoc]
      rfl
theorem ev_shOrder (L : List Int) (hl : L.length ≤ 100) : Ev (fun k => spec_shOrder.f k L) (ordUpto L L.length) := by
  have h : ∀ i, i ≤ L.length → Ev (fun k => spec_shOrder.l0 k L (ordUpto L i) L (L.length : Int) (i : Int)) (ordUpto L L.length) := by
    refine downTo L.length ?_ ?_
    · refine Ev.step (f := fun _ => some (ordUpto L L.length)) (fun k => ?_) (Ev.now _)
      simp only [spec_shOrder.l0]
      rw [if_neg (by omega)]
    · intro i hi ih
      have hlen := ord_length L i
      have hstep := ev_ins1 L i (by omega) (ordUpto L L.length) (ordUpto L i).reverse [] (by simp; omega) (fun y hy => by have := (ord_mem L i y).1 (List.mem_reverse.1 hy); omega) ih
      rw [List.reverse_reverse, List.append_nil, List.length_reverse] at hstep
      refine Ev.step (f := fun k => spec_shOrder.l1 k L (ordUpto L i) (i : Int) (rd L (i : Int)) ((ordUpto L i).length : Int) L (L.length : Int) (i : Int)) (fun k => ?_) hstep
      simp only [spec_shOrder.l0]
      rw [if_pos (by omega), if_pos (by omega), if_pos (by omega)]
  exact h 0 (by omega)

/-! ### spec.shFeet: each foot in order gets the first fitting shoe in order -/
def okS (F S : List Int) (b r : Int) (used : List Int) (i k : Int) : Bool := !decide (k ∈ used) && (decide (rd F i - b ≤ rd S k) && decide (rd S k ≤ rd F i + r))
def gr (F S : List Int) (b r : Int) (oS : List Int) : List Int → List Int → List Int → List Int
  | [], _, out => out
  | i :: t, used, out => match oS.find? (okS F S b r used i) with
    | none => gr F S b r oS t used (out.set i.toNat (-1))
    | some k => gr F S b r oS t (used ++ [k]) ((out.set i.toNat (-1)).set i.toNat k)
theorem ev_look (F S : List Int) (b r : Int) (hF : Fine F) (hS : Fine S) (hb : 0 ≤ b ∧ b ≤ 60) (hr : 0 ≤ r ∧ r ≤ 60) (oS oF used out : List Int) (i : Int) (c : Nat) (hc : c < 1000) (hoS : ∀ y ∈ oS, 0 ≤ y ∧ y < (S.length : Int)) (hlS : oS.length ≤ 100) (hi : 0 ≤ i ∧ i < (F.length : Int)) (ho : out.length = F.length) (hu : used.length ≤ 100) (res : List Int)
    (hnone : oS.find? (okS F S b r used i) = none → Ev (fun k => spec_shFeet.l0 k F S b r out oS used oF (oF.length : Int) ((c + 1 : Nat) : Int)) res)
    (hsome : ∀ q, oS.find? (okS F S b r used i) = some q → Ev (fun k => spec_shFeet.l0 k F S b r (out.set i.toNat q) oS (used ++ [q]) oF (oF.length : Int) ((c + 1 : Nat) : Int)) res) :
    Ev (fun k => spec_shFeet.l1 k F S b r out oS used i oF (oF.length : Int) (c : Int) oS (oS.length : Int) 0) res := by
  have h : ∀ j, j ≤ oS.length → (∀ y ∈ oS.take j, okS F S b r used i y = false) → Ev (fun k => spec_shFeet.l1 k F S b r out oS used i oF (oF.length : Int) (c : Int) oS (oS.length : Int) (j : Int)) res := by
    refine downTo oS.length ?_ ?_
    · intro hall
      rw [List.take_length] at hall
      refine Ev.step (f := fun k => spec_shFeet.l0 k F S b r out oS used oF (oF.length : Int) ((c + 1 : Nat) : Int)) (fun k => ?_) (hnone (List.find?_eq_none.2 (fun y hy => by rw [hall y hy]; decide)))
      simp only [spec_shFeet.l1]
      rw [if_neg (by omega), wrap_succ c (by omega)]
    · intro j hj ih hall
      have hq : rd oS (j : Int) ∈ oS := by rw [rd_get oS j hj]; exact List.getElem_mem hj
      have hqr := hoS _ hq
      have hk : okS F S b r used i (rd oS (j : Int)) = false → Ev (fun k => spec_shFeet.l1 k F S b r out oS used i oF (oF.length : Int) (c : Int) oS (oS.length : Int) ((j + 1 : Nat) : Int)) res := fun he => ih (fun y hy => by
        rw [take_snoc oS j hj] at hy
        rcases List.mem_append.1 hy with h' | h'
        · exact hall y h'
        · rw [List.mem_singleton.1 h']; exact he)
      have hf := hF i hi.1 hi.2
      have hs := hS _ hqr.1 hqr.2
      refine Ev.step (f := fun k => (spec_l1Has.f k used (rd oS (j : Int))).bind fun t => if t = true then spec_shFeet.l1 k F S b r out oS used i oF (oF.length : Int) (c : Int) oS (oS.length : Int) ((j + 1 : Nat) : Int) else (spec_l1In.f (rd S (rd oS (j : Int))) (rd F i - b) (rd F i + r)).bind fun t2 => if t2 = true then spec_shFeet.l0 k F S b r (out.set i.toNat (rd oS (j : Int))) oS (used ++ [rd oS (j : Int)]) oF (oF.length : Int) ((c + 1 : Nat) : Int) else spec_shFeet.l1 k F S b r out oS used i oF (oF.length : Int) (c : Int) oS (oS.length : Int) ((j + 1 : Nat) : Int)) (fun k => ?_) (Ev.bind (ev_l1Has used _ (by omega)) ?_)
      · simp only [spec_shFeet.l1]
        rw [if_pos (by omega), if_pos (by omega), if_pos (by omega), if_pos hqr.1, if_pos hqr.2, if_pos hi.1, if_pos hi.2, if_pos (by omega), if_pos (by omega), wrap_succ j (by omega), wrap_succ c (by omega), show wrap64 (rd F i - b) = rd F i - b from by unfold wrap64; omega, show wrap64 (rd F i + r) = rd F i + r from by unfold wrap64; omega]
      · by_cases hm : rd oS (j : Int) ∈ used
        · rw [decide_eq_true hm]
          simp only [if_true]
          exact hk (by unfold okS; rw [decide_eq_true hm]; rfl)
        · rw [decide_eq_false hm]
          simp only [Bool.false_eq_true, if_false]
          rw [ev_l1In]
          simp only [Option.bind_some]
          cases hin : decide (rd F i - b ≤ rd S (rd oS (j : Int))) && decide (rd S (rd oS (j : Int)) ≤ rd F i + r) with
          | false =>
            simp only [Bool.false_eq_true, if_false]
            exact hk (by unfold okS; rw [hin]; simp)
          | true =>
            simp only [if_true]
            refine hsome _ ?_
            have e : oS.find? (okS F S b r used i) = (oS.take j ++ oS.drop j).find? (okS F S b r used i) := by rw [List.take_append_drop]
            rw [e, List.find?_append, List.find?_eq_none.2 (fun y hy => by rw [hall y hy]; decide), drop_cons oS j hj]
            simp only [Option.none_or]
            rw [List.find?_cons_of_pos (by unfold okS; rw [hin, decide_eq_false hm]; rfl)]
  exact h 0 (by omega) (fun y hy => by cases hy)
theorem ev_gr (F S : List Int) (b r : Int) (hF : Fine F) (hS : Fine S) (hb : 0 ≤ b ∧ b ≤ 60) (hr : 0 ≤ r ∧ r ≤ 60) (oS oF : List Int) (hoS : ∀ y ∈ oS, 0 ≤ y ∧ y < (S.length : Int)) (hlS : oS.length ≤ 100) (hoF : ∀ y ∈ oF, 0 ≤ y ∧ y < (F.length : Int)) (hlF : oF.length ≤ 50) :
    ∀ c, c ≤ oF.length → ∀ used out : List Int, used.length ≤ c → out.length = F.length → Ev (fun k => spec_shFeet.l0 k F S b r out oS used oF (oF.length : Int) (c : Int)) (gr F S b r oS (oF.drop c) used out) := by
  refine downTo oF.length ?_ ?_
  · intro used out _ _
    rw [List.drop_length]
    refine Ev.step (f := fun _ => some out) (fun k => ?_) (Ev.now _)
    simp only [spec_shFeet.l0]
    rw [if_neg (by omega)]
  · intro c hc ih used out hu ho
    have hq : rd oF (c : Int) ∈ oF := by rw [rd_get oF c hc]; exact List.getElem_mem hc
    have hi := hoF _ hq
    rw [drop_cons oF c hc]
    refine Ev.step (f := fun k => spec_shFeet.l1 k F S b r (out.set (rd oF (c : Int)).toNat (-1)) oS used (rd oF (c : Int)) oF (oF.length : Int) (c : Int) oS (oS.length : Int) 0) (fun k => ?_) ?_
    · simp only [spec_shFeet.l0]
      rw [if_pos (by omega), if_pos (by omega), if_pos (by omega), if_pos hi.1, if_pos (by omega)]
    · unfold gr
      cases hfd : oS.find? (okS F S b r used (rd oF (c : Int))) with
      | none =>
        refine ev_look F S b r hF hS hb hr oS oF used _ _ c (by omega) hoS hlS hi (by rw [List.length_set]; exact ho) (by omega) _ (fun _ => ?_) (fun q hq => by rw [hfd] at hq; cases hq)
        exact ih used _ (by omega) (by rw [List.length_set]; exact ho)
      | some q =>
        refine ev_look F S b r hF hS hb hr oS oF used _ _ c (by omega) hoS hlS hi (by rw [List.length_set]; exact ho) (by omega) _ (fun h => by rw [hfd] at h; cases h) (fun q' hq' => ?_)
        rw [hfd] at hq'
        obtain rfl := Option.some.inj hq'
        exact ih _ _ (by simp; omega) (by rw [List.length_set, List.length_set]; exact ho)
/-- What spec.shFeet returns. -/
def feet (F S : List Int) (b r : Int) : List Int := gr F S b r (ordUpto S S.length) (ordUpto F F.length) [] (List.replicate F.length 0)
theorem ev_shFeet (F S : List Int) (b r : Int) (hF : Fine F) (hS : Fine S) (h7F : F.length ≤ 50) (h7S : S.length ≤ 50) (hb : 0 ≤ b ∧ b ≤ 60) (hr : 0 ≤ r ∧ r ≤ 60) : Ev (fun k => spec_shFeet.f k F S b r) (feet F S b r) := by
  refine Ev.congr (f := fun k => (spec_shOrder.f k S).bind fun t => (spec_shOrder.f k F).bind fun t2 => spec_shFeet.l0 k F S b r (List.replicate F.length 0) t [] t2 (t2.length : Int) 0) (fun k => ?_) (Ev.bind (ev_shOrder S (by omega)) (Ev.bind (ev_shOrder F (by omega)) ?_))
  · unfold spec_shFeet.f
    rw [if_pos (by omega), if_pos (by omega), Int.toNat_natCast]
  · exact ev_gr F S b r hF hS hb hr _ _ (fun y hy => (ord_mem S _ y).1 hy) (by rw [ord_length]; omega) (fun y hy => (ord_mem F _ y).1 hy) (by rw [ord_length]; omega) 0 (by omega) [] _ (by simp) (by simp)

end Go.Proofs.Ytagfnpocloaojaa.PureFeet
