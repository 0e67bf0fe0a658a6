/- The pure statement of the law FnExactLongestUnworn: for every wash and number of days the program's greatest number of days between two wearings of a pair is the reference's. No condition beside that the arguments are int64. -/
import Derived.Test.YtpalinpgoalneaaQLongestUnwornx1
import Derived.Test.YtpalinpgoalneaaPureB0
import Derived.Test.YtpalinpgoalneaaXOn
import Derived.Test.YtpalinpgoalneaaXLu
import Derived.Test.YtpalinpgoalneaaQPtBx
namespace Go.Proofs.Ytpalinpgoalneaa.PureLongestUnworn
open Go.RowKit Go.Proofs.YtpalinpgoalneaaW.PrintWords Go.Proofs.YtpalinpgoalneaaW.PrintLast Go.Proofs.YtpalinpgoalneaaW.PrintMore
open Go.Proofs.Ytpalinpgoalneaa.QBase Go.Proofs.Ytpalinpgoalneaa.PD Go.Proofs.Ytpalinpgoalneaa.XSu Go.Proofs.Ytpalinpgoalneaa.XDay Go.Proofs.Ytpalinpgoalneaa.XDayF Go.Proofs.Ytpalinpgoalneaa.PureB0 Go.Proofs.Ytpalinpgoalneaa.QLongestUnworn Go.Proofs.Ytpalinpgoalneaa.XOn Go.Proofs.Ytpalinpgoalneaa.XLu Go.Proofs.Ytpalinpgoalneaa.QPtB
open Go.Proofs.Ytpalinpgoalneaa.QDayP (S44 z44 k44 rd_T44)
set_option linter.unusedVariables false
set_option linter.unusedSimpArgs false
theorem law_of (a b c d : Int) (r : Int) (ok : Bool) (hs : Ev (fun k => spec_LongestUnworn.f k a b c d) (r, ok)) (hi : Ev (fun k => impl_LongestUnworn.f a b c d) (r, ok)) : Ev (fun k => laws_FnExactLongestUnworn.f k a b c d) true := by
  refine Ev.congr (f := fun k => (spec_LongestUnworn.f k a b c d).bind fun b1 => (impl_LongestUnworn.f a b c d).bind fun b2 => if b2.1 = b1.1 then if (b2.2 != b1.2) = true then some false else some true else some false) (fun k => rfl) ?_
  refine Ev.bind hs (Ev.bind hi ?_)
  simp only [if_true, bne_self_eq_false, Bool.false_eq_true, if_false]
  exact Ev.now _

theorem list_eq {a b c d : Int} (h : okw a b c d) : spec_dyList.f a b c d = some (wl a.toNat b c d.toNat) := by unfold spec_dyList.f; rw [if_pos h]
theorem w_one (i : Nat) (h : i ≤ 1000) : wrap64 ((i : Int) + 1) = (i : Int) + 1 := by unfold wrap64; omega
theorem w_sub (i : Nat) (x : Int) (h : i ≤ 1000) (h1 : 0 ≤ x) (h2 : x ≤ i) : wrap64 ((i : Int) + 1 - x) = (i : Int) + 1 - x := by unfold wrap64; omega
/-- One round of the reference's loop. -/
theorem step_spec (k n m i : Nat) (L : List Int) (hlen : L.length = m) (hi : i < m) (hm : m ≤ 1000) (l : Int) (last : List Int) (hl : last.length = n) (p : Int) (hp : rd L i = p) (h1 : -1 ≤ p) (h2 : p < n) (x : Int) (hx : rd last p = x) (hx0 : 0 ≤ p → 0 ≤ x ∧ x ≤ i) :
    spec_LongestUnworn.l0 (k + 1) l last L (m : Int) (i : Int) = spec_LongestUnworn.l0 k (if p < 0 then l else if 0 < x then (if l > (i : Int) + 1 - x then l else (i : Int) + 1 - x) else l) (if p < 0 then last else last.set p.toNat ((i : Int) + 1)) L (m : Int) ((i + 1 : Nat) : Int) := by
  have hw := w_one i (by omega)
  simp only [spec_LongestUnworn.l0]
  rw [if_pos (show (i : Int) < (m : Int) by omega), if_pos (show (0 : Int) ≤ (i : Int) by omega), if_pos (show (i : Int) < (L.length : Int) by omega), hp]
  by_cases hneg : p < 0
  · rw [if_pos hneg, if_pos hneg, if_pos hneg, hw]
    rfl
  · obtain ⟨hx1, hx2⟩ := hx0 (by omega)
    rw [if_neg hneg, if_pos (show 0 ≤ p by omega), if_pos (show p < (last.length : Int) by omega), if_neg hneg, if_neg hneg, hx, hw, w_sub i x (by omega) hx1 hx2]
    by_cases hpos : 0 < x
    · rw [if_pos hpos, if_pos hpos]
      unfold spec_l1Most.f
      by_cases hgt : l > (i : Int) + 1 - x
      · rw [if_pos hgt, if_pos hgt]
        rfl
      · rw [if_neg hgt, if_neg hgt]
        rfl
    · rw [if_neg hpos, if_neg hpos]
      rfl
theorem luL_succ (L : List Int) (n i : Nat) : (luL L n (i + 1)).1 = (if rd L i < 0 then (luL L n i).1 else if 0 < rd (luL L n i).2 (rd L i) then (if (luL L n i).1 > (i : Int) + 1 - rd (luL L n i).2 (rd L i) then (luL L n i).1 else (i : Int) + 1 - rd (luL L n i).2 (rd L i)) else (luL L n i).1) ∧ (luL L n (i + 1)).2 = (if rd L i < 0 then (luL L n i).2 else (luL L n i).2.set (rd L i).toNat ((i : Int) + 1)) := by
  have e : luL L n (i + 1) = if rd L i < 0 then luL L n i else ((if 0 < rd (luL L n i).2 (rd L i) then (if (luL L n i).1 > (i : Int) + 1 - rd (luL L n i).2 (rd L i) then (luL L n i).1 else (i : Int) + 1 - rd (luL L n i).2 (rd L i)) else (luL L n i).1), (luL L n i).2.set (rd L i).toNat ((i : Int) + 1)) := rfl
  rw [e]
  by_cases h : rd L i < 0
  · rw [if_pos h, if_pos h, if_pos h]
    exact ⟨rfl, rfl⟩
  · rw [if_neg h, if_neg h, if_neg h]
    exact ⟨rfl, rfl⟩
theorem ev_spec (a b c d : Int) : Ev (fun k => spec_LongestUnworn.f k a b c d) (luF a b c d) := by
  by_cases hA : asked a b c d = true
  · obtain ⟨ho, hd⟩ := asked_is hA
    have hd0 := ho.2.2.2.1
    have ha := ho.1
    have hB := wlF_bd a b c d
    have hF : luF a b c d = ((luL (wl a.toNat b c d.toNat) a.toNat d.toNat).1, true) := by
      unfold luF wlF
      rw [if_pos hA, hA, wl_len]
    rw [show wlF a b c d = wl a.toNat b c d.toNat from by unfold wlF; rw [if_pos hA]] at hB
    rw [hF]
    obtain ⟨m, hm⟩ : ∃ m, d.toNat = m := ⟨_, rfl⟩
    obtain ⟨n, hn⟩ : ∃ n, a.toNat = n := ⟨_, rfl⟩
    rw [hm, hn] at hB ⊢
    have hlb := luL_bd (wl n b c m) n hB
    have hll := luL_len (wl n b c m) n
    rw [wl_len] at hB hlb
    obtain ⟨L, hL⟩ : ∃ L, wl n b c m = L := ⟨_, rfl⟩
    have hlen : L.length = m := by rw [← hL, wl_len]
    rw [hL] at hB hlb hll ⊢
    have h : ∀ i, i ≤ m → Ev (fun k => spec_LongestUnworn.l0 k (luL L n i).1 (luL L n i).2 L (m : Int) (i : Int)) ((luL L n m).1, true) := by
      refine PureB0.downTo m ?_ ?_
      · refine Ev.step (f := fun _ => some ((luL L n m).1, true)) (fun k => ?_) (Ev.now _)
        simp only [spec_LongestUnworn.l0]
        rw [if_neg (by omega)]
      · intro i hi ih
        obtain ⟨e1, e2⟩ := luL_succ L n i
        have hb := hB i hi
        refine Ev.step (f := fun k => spec_LongestUnworn.l0 k (luL L n (i + 1)).1 (luL L n (i + 1)).2 L (m : Int) ((i + 1 : Nat) : Int)) (fun k => ?_) ih
        rw [e1, e2]
        refine step_spec k n m i L hlen hi (by omega) _ _ (hll i) _ rfl hb.1 hb.2 _ rfl (fun h0 => ?_)
        have hx := (hlb i (by omega)).2 (rd L i).toNat (by omega)
        rwa [show (((rd L i).toNat : Nat) : Int) = rd L i by omega] at hx
    refine Ev.congr (f := fun k => spec_LongestUnworn.l0 k 0 (List.replicate n 0) L (m : Int) 0) (fun k => ?_) (h 0 (by omega))
    unfold spec_LongestUnworn.f
    rw [dyAsked_eq, hA, Option.bind_some, if_pos rfl, if_pos (by omega), if_pos (by omega), list_eq ho, hm, hn, hL]
    show spec_LongestUnworn.l0 k 0 (List.replicate n 0) L (L.length : Int) 0 = _
    rw [hlen]
  · have hF : luF a b c d = (0, false) := by
      unfold luF wlF
      rw [if_neg hA, Bool.eq_false_iff.mpr hA]
      rfl
    rw [hF]
    refine Ev.congr (f := fun _ => some (0, false)) (fun k => ?_) (Ev.now _)
    unfold spec_LongestUnworn.f
    rw [dyAsked_eq, Option.bind_some, if_neg hA]
theorem law : laws_FnExactLongestUnworn.Pure := by
  intro a b c d _ _ _ _
  exact Ev.rounds (law_of a b c d (luF a b c d).1 (luF a b c d).2 (ev_spec a b c d) (Ev.now _))

end Go.Proofs.Ytpalinpgoalneaa.PureLongestUnworn
namespace Go.Proofs.Ytpalinpgoalneaa.Pure
theorem FnExactLongestUnworn : Go.Proofs.Ytpalinpgoalneaa.QLongestUnworn.laws_FnExactLongestUnworn.Pure := Go.Proofs.Ytpalinpgoalneaa.PureLongestUnworn.law
end Go.Proofs.Ytpalinpgoalneaa.Pure
