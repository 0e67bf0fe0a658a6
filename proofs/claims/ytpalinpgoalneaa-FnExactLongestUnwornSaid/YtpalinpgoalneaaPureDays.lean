/- Plain laws of the washing days: the reference's state day by day, the program's state that goes with it, and that both tell the same pairs. -/
import Derived.Test.YtpalinpgoalneaaQBasex0
namespace Go.Proofs.Ytpalinpgoalneaa.PD
open Go.Proofs.YtpalinpgoalneaaW.PrintWords

theorem rd_nat (xs : List Int) (i : Nat) : rd xs (i : Int) = xs.getD i 0 := by unfold rd; rw [Int.toNat_natCast]
theorem rd_set (xs : List Int) (i j : Nat) (v : Int) (hi : i < xs.length) : rd (xs.set i v) (j : Int) = if i = j then v else rd xs j := by
  rw [rd_nat, rd_nat, List.getD_eq_getElem?_getD, List.getD_eq_getElem?_getD, List.getElem?_set]
  by_cases h : i = j
  · subst h; simp [hi]
  · simp [h]
/-- The places below n at which p holds, ascending. -/
def fl (p : Nat → Bool) (n : Nat) : List Int := ((List.range n).filter p).map fun i : Nat => (i : Int)
theorem fl_zero (p : Nat → Bool) : fl p 0 = [] := rfl
theorem fl_succ (p : Nat → Bool) (n : Nat) : fl p (n + 1) = fl p n ++ (if p n = true then [(n : Int)] else []) := by
  unfold fl
  rw [List.range_succ, List.filter_append, List.map_append]
  congr 1
  by_cases h : p n = true
  · simp [h]
  · simp [h]
theorem fl_len (p : Nat → Bool) (n : Nat) : (fl p n).length ≤ n := by
  unfold fl
  rw [List.length_map]
  exact Nat.le_trans (List.length_filter_le _ _) (by simp)
theorem fl_mem (p : Nat → Bool) (n : Nat) (x : Int) : x ∈ fl p n ↔ ∃ i : Nat, x = i ∧ i < n ∧ p i = true := by
  unfold fl
  rw [List.mem_map]
  constructor
  · rintro ⟨a, ha, rfl⟩
    rw [List.mem_filter, List.mem_range] at ha
    exact ⟨a, rfl, ha.1, ha.2⟩
  · rintro ⟨i, rfl, h1, h2⟩
    exact ⟨i, by rw [List.mem_filter, List.mem_range]; exact ⟨h1, h2⟩, rfl⟩
theorem fl_congr {p q : Nat → Bool} {n : Nat} (h : ∀ i, i < n → p i = q i) : fl p n = fl q n := by
  unfold fl
  congr 1
  apply List.filter_congr
  intro x hx
  exact h x (List.mem_range.mp hx)
theorem fl_lt (p : Nat → Bool) (n : Nat) : (fl p n).Pairwise (fun a b => a < b) := by
  unfold fl
  rw [List.pairwise_map]
  refine List.Pairwise.imp ?_ ((List.pairwise_lt_range).filter p)
  intro a b h; omega
/-- Is pair k clean on a day. -/
def isCl (C : List Int) (k : Int) (day : Int) : Bool := decide (0 ≤ rd C k) && decide (rd C k ≤ day)
/-- The best of the first n pairs. -/
def pk (C L : List Int) (day : Int) : Nat → Int
  | 0 => -1
  | n + 1 => if (isCl C n day && (decide (pk C L day n < 0) || decide (rd L n < rd L (pk C L day n)))) = true then (n : Int) else pk C L day n
theorem pk_bd (C L : List Int) (day : Int) : ∀ n : Nat, -1 ≤ pk C L day n ∧ pk C L day n < n := by
  intro n
  induction n with
  | zero => unfold pk; omega
  | succ n ih => unfold pk; split <;> omega
theorem pk_cl (C L : List Int) (day : Int) : ∀ n : Nat, 0 ≤ pk C L day n → isCl C (pk C L day n) day = true := by
  intro n
  induction n with
  | zero => unfold pk; omega
  | succ n ih =>
    unfold pk
    split
    · rename_i h
      intro _
      simp only [Bool.and_eq_true] at h
      exact h.1
    · exact ih
def wC (C : List Int) (b : Int) : List Int := if 0 ≤ b then C.set b.toNat (-1) else C
def wL (L : List Int) (b day : Int) : List Int := if 0 ≤ b then L.set b.toNat day else L
theorem wC_len (C : List Int) (b : Int) : (wC C b).length = C.length := by unfold wC; split <;> simp
theorem wL_len (C : List Int) (b d : Int) : (wL C b d).length = C.length := by unfold wL; split <;> simp
def bas (C : List Int) (n : Nat) : List Int := fl (fun k => decide (rd C k < 0)) n
/-- v written at the first n places that a list tells. -/
def wk (out : List Int) (v : Int) (C : List Int) : Nat → List Int
  | 0 => C
  | n + 1 => (wk out v C n).set (rd out n).toNat v
theorem wk_len (out : List Int) (v : Int) (C : List Int) : ∀ n, (wk out v C n).length = C.length := by
  intro n
  induction n with
  | zero => rfl
  | succ n ih => unfold wk; rw [List.length_set, ih]
theorem wk_rd (out : List Int) (v : Int) (C : List Int) (ho : ∀ x ∈ out, 0 ≤ x ∧ x < C.length) : ∀ n, n ≤ out.length → ∀ j : Nat, rd (wk out v C n) j = if (j : Int) ∈ out.take n then v else rd C j := by
  intro n
  induction n with
  | zero => intro _ j; simp [wk]
  | succ n ih =>
    intro hn j
    have hlt : n < out.length := by omega
    have hx : rd out n = out[n] := by rw [rd_nat, List.getD_eq_getElem?_getD, List.getElem?_eq_getElem hlt]; rfl
    have hb := ho out[n] (List.getElem_mem hlt)
    unfold wk
    rw [rd_set _ _ _ _ (by rw [wk_len, hx]; omega), ih (by omega) j, List.take_succ_eq_append_getElem hlt, hx]
    by_cases h : out[n].toNat = j
    · have : (j : Int) = out[n] := by omega
      rw [if_pos h, if_pos (by rw [List.mem_append, this]; exact .inr (List.mem_singleton.mpr rfl))]
    · have : ¬ (j : Int) = out[n] := by omega
      rw [if_neg h]
      have e : ((j : Int) ∈ List.take n out ++ [out[n]]) ↔ (j : Int) ∈ List.take n out := by
        rw [List.mem_append, List.mem_singleton]
        exact ⟨fun h => h.elim id (fun h => absurd h this), .inl⟩
      simp only [e]
/-- One day's evening: the state behind it. -/
def nextC (E D : Int) (C L : List Int) (n : Nat) : List Int :=
  let C1 := wC C (pk C L n C.length)
  if ((n : Int) + 1) % E = 0 then wk (bas C1 C1.length) (n + D) C1 (bas C1 C1.length).length else C1
def nextL (C L : List Int) (n : Nat) : List Int := wL L (pk C L n C.length) n
/-- The state in the morning of day n. -/
def st (P : Nat) (E D : Int) : Nat → List Int × List Int
  | 0 => (List.replicate P 0, List.replicate P (-1))
  | n + 1 => (nextC E D (st P E D n).1 (st P E D n).2 n, nextL (st P E D n).1 (st P E D n).2 n)
theorem nextC_len (E D : Int) (C L : List Int) (n : Nat) : (nextC E D C L n).length = C.length := by
  unfold nextC; dsimp only; split
  · rw [wk_len, wC_len]
  · rw [wC_len]
theorem nextL_len (C L : List Int) (n : Nat) : (nextL C L n).length = L.length := by unfold nextL; rw [wL_len]
theorem st_len (P : Nat) (E D : Int) : ∀ n, (st P E D n).1.length = P ∧ (st P E D n).2.length = P := by
  intro n
  induction n with
  | zero => simp [st]
  | succ n ih => unfold st; dsimp only; rw [nextC_len, nextL_len]; exact ih
def dWorn (P : Nat) (E D : Int) (n : Nat) : Int := pk (st P E D n).1 (st P E D n).2 n P
def dClean (P : Nat) (E D : Int) (n : Nat) : List Int := fl (fun k => isCl (st P E D n).1 k n) P
def dBask (P : Nat) (E D : Int) (n : Nat) : List Int := bas (wC (st P E D n).1 (dWorn P E D n)) P
def dWash (P : Nat) (E D : Int) (n : Nat) : List Int := if ((n : Int) + 1) % E = 0 then dBask P E D n else []
/-- The program's state that goes with it. -/
structure Sim (P : Nat) (D : Int) (C L last back basket : List Int) (n : Nat) : Prop where
  last : last = L
  lenC : C.length = P
  lenL : L.length = P
  lenB : back.length = P
  bk : ∀ k : Nat, k < P → ((k : Int) ∈ basket ∧ rd C k = -1) ∨ ((k : Int) ∉ basket ∧ rd C k = rd back k ∧ 0 ≤ rd back k)
  mem : ∀ x ∈ basket, 0 ≤ x ∧ x < P
  nd : basket.Nodup
theorem rd_replicate (P : Nat) (v : Int) (k : Nat) (h : k < P) : rd (List.replicate P v) k = v := by
  rw [rd_nat, List.getD_eq_getElem?_getD, List.getElem?_replicate, if_pos h]; rfl
theorem sim_zero (P : Nat) (E D : Int) : Sim P D (st P E D 0).1 (st P E D 0).2 (List.replicate P (-1)) (List.replicate P 0) [] 0 where
  last := rfl
  lenC := (st_len P E D 0).1
  lenL := (st_len P E D 0).2
  lenB := by simp
  bk := fun k hk => .inr ⟨by simp, rfl, by rw [rd_replicate P 0 k hk]; exact Int.le_refl _⟩
  mem := by simp
  nd := List.nodup_nil
variable {P : Nat} {D : Int} {C L last back basket : List Int} {n : Nat}
theorem Sim.free (h : Sim P D C L last back basket n) (k : Nat) (hk : k < P) : isCl C k n = !(decide (rd back k > n) || basket.contains (k : Int)) := by
  unfold isCl
  rcases h.bk k hk with ⟨h1, h2⟩ | ⟨h1, h2, h3⟩
  · simp [h1, h2]
  · have e1 : basket.contains (k : Int) = false := by simp [h1]
    rw [h2, e1, Bool.or_false]
    by_cases h4 : rd back k ≤ n
    · simp [h3, h4]
    · simp [h4]; omega
/-- The pairs in the basket behind the evening's putting in. -/
theorem Sim.wear (h : Sim P D C L last back basket n) (b : Int) (hb : b = pk C L n P) :
    Sim P D (wC C b) (wL L b n) (wL last b n) back (if 0 ≤ b then basket ++ [b] else basket) n := by
  have hbd := pk_bd C L n P
  rw [← hb] at hbd
  by_cases h0 : 0 ≤ b
  · have hcl := pk_cl C L n P (by rw [← hb]; exact h0)
    rw [← hb] at hcl
    obtain ⟨m, rfl⟩ : ∃ m : Nat, b = m := ⟨b.toNat, by omega⟩
    have hm : m < P := by omega
    have hnb : (m : Int) ∉ basket := by
      rcases h.bk m hm with ⟨h1, h2⟩ | ⟨h1, _⟩
      · exfalso; unfold isCl at hcl; rw [h2] at hcl; simp at hcl
      · exact h1
    rw [if_pos h0]
    refine ⟨by rw [h.last], by rw [wC_len]; exact h.lenC, by rw [wL_len]; exact h.lenL, h.lenB, ?_, ?_, ?_⟩
    · intro k hk
      unfold wC
      rw [if_pos h0, Int.toNat_natCast, rd_set _ _ _ _ (by rw [h.lenC]; exact hm)]
      by_cases hkm : m = k
      · subst hkm; left; simp
      · rw [if_neg hkm]
        rcases h.bk k hk with ⟨h1, h2⟩ | ⟨h1, h2, h3⟩
        · exact .inl ⟨by simp [h1], h2⟩
        · exact .inr ⟨by simp [h1]; omega, h2, h3⟩
    · intro x hx
      rcases List.mem_append.mp hx with hx | hx
      · exact h.mem x hx
      · simp at hx; omega
    · rw [List.nodup_append]
      exact ⟨h.nd, by simp, by simp; intro a ha e; exact hnb (e ▸ ha)⟩
  · rw [if_neg h0]
    unfold wC wL
    rw [if_neg h0, if_neg h0, if_neg h0]
    exact h
/-- The basket, sorted, is the pairs that the reference tells. -/
theorem eq_of_sorted : ∀ (xs ys : List Int), xs.Perm ys → xs.Pairwise (· ≤ ·) → ys.Pairwise (· ≤ ·) → xs = ys := by
  intro xs
  induction xs with
  | nil => intro ys h _ _; exact (List.nil_perm.mp h).symm
  | cons x xs ih =>
    intro ys h hx hy
    cases ys with
    | nil => exact absurd h.length_eq (by simp)
    | cons y ys =>
      have e : x = y := by
        have h1 : y ∈ x :: xs := h.mem_iff.mpr List.mem_cons_self
        have h2 : x ∈ y :: ys := h.mem_iff.mp List.mem_cons_self
        rcases List.mem_cons.mp h1 with h1 | h1
        · exact h1.symm
        · rcases List.mem_cons.mp h2 with h2 | h2
          · exact h2
          · have := (List.pairwise_cons.mp hx).1 y h1
            have := (List.pairwise_cons.mp hy).1 x h2
            omega
      subst e
      rw [ih ys (List.perm_cons x |>.mp h) (List.pairwise_cons.mp hx).2 (List.pairwise_cons.mp hy).2]
theorem Sim.sorted (h : Sim P D C L last back basket n) : basket.mergeSort (fun x y => decide (x ≤ y)) = bas C P := by
  have hs : (basket.mergeSort (fun x y => decide (x ≤ y))).Pairwise (· ≤ ·) := by
    have := List.pairwise_mergeSort (le := fun (x y : Int) => decide (x ≤ y)) (by intro a b c; simp; omega) (by intro a b; simp; omega) basket
    exact this.imp (by intro a b h; simpa using h)
  have hb : (bas C P).Pairwise (· ≤ ·) := (fl_lt _ _).imp (by intro a b h; omega)
  refine eq_of_sorted _ _ ?_ hs hb
  refine (List.mergeSort_perm basket _).trans ?_
  refine (List.perm_ext_iff_of_nodup h.nd ?_).mpr ?_
  · exact (fl_lt _ P).imp (by intro a b h; omega)
  · intro x
    unfold bas
    rw [fl_mem]
    constructor
    · intro hx
      obtain ⟨h1, h2⟩ := h.mem x hx
      obtain ⟨i, rfl⟩ : ∃ i : Nat, x = i := ⟨x.toNat, by omega⟩
      refine ⟨i, rfl, by omega, ?_⟩
      rcases h.bk i (by omega) with ⟨_, h4⟩ | ⟨h3, _⟩
      · rw [h4]; rfl
      · exact absurd hx h3
    · rintro ⟨i, rfl, h1, h2⟩
      rcases h.bk i h1 with ⟨h3, _⟩ | ⟨_, h4, h5⟩
      · exact h3
      · rw [h4] at h2; simp at h2; omega
/-- The washing. -/
theorem Sim.wash (h : Sim P D C L last back basket n) (hv : 0 ≤ (n : Int) + D) :
    Sim P D (wk (bas C P) (n + D) C (bas C P).length) L last (wk basket (n + D) back basket.length) [] n := by
  have hm1 : ∀ x ∈ basket, 0 ≤ x ∧ x < back.length := by rw [h.lenB]; exact h.mem
  have hm2 : ∀ x ∈ bas C P, 0 ≤ x ∧ x < C.length := by
    intro x hx
    unfold bas at hx
    rw [fl_mem] at hx
    obtain ⟨i, rfl, h1, _⟩ := hx
    rw [h.lenC]; omega
  refine ⟨h.last, by rw [wk_len]; exact h.lenC, h.lenL, by rw [wk_len]; exact h.lenB, ?_, by simp, List.nodup_nil⟩
  intro k hk
  right
  refine ⟨by simp, ?_⟩
  rw [wk_rd _ _ _ hm1 _ (Nat.le_refl _), wk_rd _ _ _ hm2 _ (Nat.le_refl _), List.take_length, List.take_length]
  have hiff : (k : Int) ∈ bas C P ↔ (k : Int) ∈ basket := by
    unfold bas
    rw [fl_mem]
    constructor
    · rintro ⟨i, hi, _, h2⟩
      have : i = k := by omega
      subst this
      rcases h.bk i hk with ⟨h3, _⟩ | ⟨_, h4, h5⟩
      · exact h3
      · rw [h4] at h2; simp at h2; omega
    · intro hb
      rcases h.bk k hk with ⟨_, h4⟩ | ⟨h3, _⟩
      · exact ⟨k, rfl, hk, by rw [h4]; rfl⟩
      · exact absurd hb h3
  rcases h.bk k hk with ⟨h1, h2⟩ | ⟨h1, h2, h3⟩
  · rw [if_pos h1, if_pos (hiff.mpr h1)]
    exact ⟨rfl, hv⟩
  · rw [if_neg h1, if_neg (fun h => h1 (hiff.mp h))]
    exact ⟨h2, h3⟩

end Go.Proofs.Ytpalinpgoalneaa.PD
