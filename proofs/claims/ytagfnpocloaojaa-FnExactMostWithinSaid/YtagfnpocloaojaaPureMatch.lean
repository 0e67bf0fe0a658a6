/- Plain laws of impl.matched's search and of the reference's greedy choice of shoes: both serve as many. No program and no memory stands in it. -/
import Derived.Test.YtagfnpocloaojaaXMost
import Derived.Test.YtagfnpocloaojaaPureFeet
namespace Go.Proofs.Ytagfnpocloaojaa.PureMatch
open Go.RowKit Go.Proofs.Ytagfnpocloaojaa.QBase Go.Proofs.Ytagfnpocloaojaa.QSizes Go.Proofs.Ytagfnpocloaojaa.QFeet Go.Proofs.Ytagfnpocloaojaa.XFind Go.Proofs.Ytagfnpocloaojaa.XMatched Go.Proofs.Ytagfnpocloaojaa.PureBase Go.Proofs.Ytagfnpocloaojaa.PureFeet Go.Proofs.YtagfnpocloaojaaW.PrintWords Go.Proofs.YtagfnpocloaojaaW.PrintLast Go.Proofs.YtagfnpocloaojaaW.PrintMore
set_option linter.unusedVariables false
set_option linter.unusedSimpArgs false

/-! ### reading and writing rows -/
theorem rdB_nat (s : List Bool) (k : Nat) : rdB s (k : Int) = s.getD k false := by unfold rdB; rw [Int.toNat_natCast]
theorem rdB_set (s : List Bool) (k j : Nat) (x : Bool) (hk : k < s.length) : rdB (s.set k x) (j : Int) = if k = j then x else rdB s (j : Int) := by
  rw [rdB_nat, rdB_nat, List.getD_eq_getElem?_getD, List.getD_eq_getElem?_getD, List.getElem?_set]
  by_cases h : k = j
  · subst h; rw [if_pos rfl, if_pos hk, if_pos rfl]; rfl
  · rw [if_neg h, if_neg h]
theorem rdV_set (v : List Int) (k j : Nat) (x : Int) (hk : k < v.length) : rd (v.set k x) (j : Int) = if k = j then x else rd v (j : Int) := by
  rw [rd_nat, rd_nat, List.getD_eq_getElem?_getD, List.getD_eq_getElem?_getD, List.getElem?_set]
  by_cases h : k = j
  · subst h; rw [if_pos rfl, if_pos hk, if_pos rfl]; rfl
  · rw [if_neg h, if_neg h]
theorem count_set (q : Int → Bool) : ∀ (v : List Int) (k : Nat) (x : Int), k < v.length → (v.set k x).countP q + (if q (rd v (k : Int)) then 1 else 0) = v.countP q + (if q x then 1 else 0)
  | [], k, x, h => by simp at h
  | y :: v, 0, x, _ => by
    have e : rd (y :: v) ((0 : Nat) : Int) = y := by rw [rd_nat]; rfl
    rw [e, List.set_cons_zero, List.countP_cons, List.countP_cons]
    omega
  | y :: v, k + 1, x, h => by
    have e : rd (y :: v) ((k + 1 : Nat) : Int) = rd v (k : Int) := by rw [rd_nat, rd_nat]; rfl
    have ih := count_set q v k x (by simpa using h)
    rw [e, List.set_cons_succ, List.countP_cons, List.countP_cons]
    omega
theorem count_rd (q : Int → Bool) (v : List Int) : v.countP q = (List.range v.length).countP fun k : Nat => q (rd v (k : Int)) := by
  have e : v = (List.range v.length).map fun k : Nat => rd v (k : Int) := by
    refine List.ext_getElem (by simp) (fun i h1 h2 => ?_)
    rw [List.getElem_map, List.getElem_range, rd_get v i h1]
  have e2 : v.countP q = ((List.range v.length).map fun k : Nat => rd v (k : Int)).countP q := by rw [← e]
  rw [e2, List.countP_map]
  rfl
theorem count_pos (q : Int → Bool) (v : List Int) (h : v.countP q ≠ 0) : ∃ k : Nat, k < v.length ∧ q (rd v (k : Int)) = true := by
  rw [count_rd] at h
  obtain ⟨k, hk, hq⟩ := List.countP_pos_iff.1 (Nat.pos_of_ne_zero h)
  exact ⟨k, List.mem_range.1 hk, hq⟩
theorem count_at (q : Int → Bool) (v : List Int) (k : Nat) (hk : k < v.length) (h : q (rd v (k : Int)) = true) : v.countP q ≠ 0 := by
  rw [count_rd]
  have := (List.countP_pos_iff (p := fun k : Nat => q (rd v (k : Int)))).2 ⟨k, List.mem_range.2 hk, h⟩
  omega
/-- How many places are not seen. -/
def uns (s : List Bool) : Nat := s.countP (fun x => !x)
theorem uns_set : ∀ (s : List Bool) (k : Nat), k < s.length → rdB s (k : Int) = false → uns (s.set k true) + 1 = uns s
  | [], k, h, _ => by simp at h
  | y :: s, 0, _, hf => by
    have e : y = false := by rw [rdB_nat] at hf; exact hf
    subst e
    unfold uns
    simp
  | y :: s, k + 1, h, hf => by
    have e : rdB (y :: s) ((k + 1 : Nat) : Int) = rdB s (k : Int) := by rw [rdB_nat, rdB_nat]; rfl
    have ih := uns_set s k (by simpa using h) (by rw [← e]; exact hf)
    unfold uns at ih ⊢
    rw [List.set_cons_succ, List.countP_cons, List.countP_cons]
    omega
theorem uns_mono : ∀ (s s' : List Bool), s.length = s'.length → (∀ k : Nat, rdB s (k : Int) = true → rdB s' (k : Int) = true) → uns s' ≤ uns s
  | [], [], _, _ => Nat.le_refl _
  | [], _ :: _, h, _ => by simp at h
  | _ :: _, [], h, _ => by simp at h
  | y :: s, z :: s', h, hm => by
    have ih := uns_mono s s' (by simpa using h) (fun k hk => by
      have := hm (k + 1) (by rw [rdB_nat] at hk ⊢; exact hk)
      rw [rdB_nat] at this ⊢; exact this)
    have h0 : y = true → z = true := fun hy => by
      have := hm 0 (by rw [rdB_nat]; exact hy)
      rw [rdB_nat] at this; exact this
    unfold uns at ih ⊢
    rw [List.countP_cons, List.countP_cons]
    cases y <;> cases z <;> simp at h0 ⊢ <;> omega

/-! ### the search from one place -/
section
variable (p : Int → Int → Bool) (a b : List Int)
/-- Left i goes with right k. -/
def Ed (i : Int) (k : Nat) : Prop := p (rd a i) (rd b (k : Int)) = true
/-- Rights that are matched, with all rights of those that they are matched to. -/
def Cl (v : List Int) (T : Nat → Prop) : Prop := ∀ k, k < b.length → T k → 0 ≤ rd v (k : Int) ∧ ∀ k', k' < b.length → Ed p a b (rd v (k : Int)) k' → T k'
structure Post (D : Nat → Prop) (i : Int) (s : List Bool) (v : List Int) (r : Bool) (s' : List Bool) (v' : List Int) : Prop where
  ls : s'.length = b.length
  lv : v'.length = b.length
  mono : ∀ k : Nat, rdB s (k : Int) = true → rdB s' (k : Int) = true
  same : r = false → v' = v
  newly : r = false → ∀ k, k < b.length → rdB s' (k : Int) = true → rdB s (k : Int) = false → 0 ≤ rd v (k : Int) ∧ ∀ k', k' < b.length → Ed p a b (rd v (k : Int)) k' → rdB s' (k' : Int) = true
  all : r = false → ∀ k', D k' → Ed p a b i k' → rdB s' (k' : Int) = true
  keep : r = true → ∀ k : Nat, rdB s (k : Int) = true → rd v' (k : Int) = rd v (k : Int)
  edge : r = true → ∀ k, k < b.length → rd v' (k : Int) = rd v (k : Int) ∨ (0 ≤ rd v' (k : Int) ∧ Ed p a b (rd v' (k : Int)) k)
  cnt : r = true → ∀ q : Int → Bool, (∀ x, x < 0 → q x = false) → v'.countP q = v.countP q + (if q i then 1 else 0)
  clo : ∀ T, Cl p a b v T → ((∀ k', D k' → Ed p a b i k' → T k') → r = false) ∧ (r = true → ∀ k, k < b.length → T k → rd v' (k : Int) = rd v (k : Int))
def Good (f : Int → List Bool → List Int → Option (Bool × List Bool × List Int)) : Prop := ∀ i s v r s' v', 0 ≤ i → s.length = b.length → v.length = b.length → f i s v = some (r, s', v') → Post p a b (fun k => k < b.length) i s v r s' v'
theorem good_loop (f : Int → List Bool → List Int → Option (Bool × List Bool × List Int)) (hf : Good p a b f) (i : Int) (hi : 0 ≤ i) : ∀ (ks : List Nat) (s : List Bool) (v : List Int) (r : Bool) (s' : List Bool) (v' : List Int), (∀ k ∈ ks, k < b.length) → s.length = b.length → v.length = b.length → findL f p a b i ks s v = some (r, s', v') → Post p a b (fun k => k ∈ ks) i s v r s' v' := by
  intro ks
  induction ks with
  | nil =>
    intro s v r s' v' _ hs hv h
    rw [findL] at h
    simp only [Option.some.injEq, Prod.mk.injEq] at h
    obtain ⟨rfl, rfl, rfl⟩ := h
    exact ⟨hs, hv, fun k h => h, fun _ => rfl, fun _ k _ h1 h2 => (by rw [h1] at h2; cases h2), fun _ k' hk => by (cases hk), fun h => (by cases h), fun h => (by cases h), fun h => (by cases h), fun T _ => ⟨fun _ => rfl, fun h => (by cases h)⟩⟩
  | cons k ks ih =>
    intro s v r s' v' hks hs hv h
    have hk := hks k (List.mem_cons_self ..)
    have hks' : ∀ j ∈ ks, j < b.length := fun j hj => hks j (List.mem_cons_of_mem _ hj)
    rw [findL] at h
    by_cases h1 : rdB s (k : Int) = true
    · rw [if_pos h1] at h
      have P := ih s v r s' v' hks' hs hv h
      refine ⟨P.ls, P.lv, P.mono, P.same, P.newly, fun hr k' hk' he => ?_, P.keep, P.edge, P.cnt, fun T hT => ⟨fun hall => (P.clo T hT).1 (fun k' hk' => hall k' (List.mem_cons_of_mem _ hk')), (P.clo T hT).2⟩⟩
      rcases List.mem_cons.1 hk' with e | e
      · subst e; exact P.mono _ h1
      · exact P.all hr k' e he
    · rw [if_neg h1] at h
      rw [Bool.not_eq_true] at h1
      by_cases h2 : p (rd a i) (rd b (k : Int)) = false
      · rw [if_pos h2] at h
        have P := ih s v r s' v' hks' hs hv h
        refine ⟨P.ls, P.lv, P.mono, P.same, P.newly, fun hr k' hk' he => ?_, P.keep, P.edge, P.cnt, fun T hT => ⟨fun hall => (P.clo T hT).1 (fun k' hk' => hall k' (List.mem_cons_of_mem _ hk')), (P.clo T hT).2⟩⟩
        rcases List.mem_cons.1 hk' with e | e
        · subst e; unfold Ed at he; rw [h2] at he; cases he
        · exact P.all hr k' e he
      · rw [if_neg h2] at h
        have hE : Ed p a b i k := by unfold Ed; simpa using h2
        by_cases h3 : rd v (k : Int) < 0
        · rw [if_pos h3] at h
          simp only [Option.some.injEq, Prod.mk.injEq] at h
          obtain ⟨rfl, rfl, rfl⟩ := h
          refine ⟨by rw [List.length_set]; exact hs, by rw [List.length_set]; exact hv, fun j hj => ?_, fun h => (by cases h), fun h => (by cases h), fun h => (by cases h), fun _ j hj => ?_, fun _ j hj => ?_, fun _ q hq => ?_, fun T hT => ⟨fun hall => ?_, fun _ j hj hTj => ?_⟩⟩
          · rw [rdB_set s k j true (by omega)]
            split
            · rfl
            · exact hj
          · rw [rdV_set v k j i (by omega), if_neg (fun e => by subst e; rw [h1] at hj; cases hj)]
          · rw [rdV_set v k j i (by omega)]
            by_cases e : k = j
            · rw [if_pos e]; subst e; exact .inr ⟨hi, hE⟩
            · rw [if_neg e]; exact .inl rfl
          · have := count_set q v k i (by omega)
            rw [hq _ h3] at this
            simpa using this
          · have hTk := hall k (List.mem_cons_self ..) hE
            have := (hT k hk hTk).1
            omega
          · rw [rdV_set v k j i (by omega), if_neg (fun e => by subst e; have := (hT k hk hTj).1; omega)]
        · rw [if_neg h3] at h
          obtain ⟨⟨r1, s2, v2⟩, hrec, hrest⟩ := Option.bind_eq_some_iff.1 h
          have R := hf (rd v (k : Int)) (s.set k true) v r1 s2 v2 (by omega) (by rw [List.length_set]; exact hs) hv hrec
          have hs2 : ∀ j : Nat, rdB s (j : Int) = true → rdB s2 (j : Int) = true := fun j hj => R.mono j (by
            rw [rdB_set s k j true (by omega)]
            split
            · rfl
            · exact hj)
          have hk2 : rdB s2 (k : Int) = true := R.mono k (by rw [rdB_set s k k true (by omega), if_pos rfl])
          cases r1 with
          | true =>
            simp only [if_true, Option.some.injEq, Prod.mk.injEq] at hrest
            obtain ⟨rfl, rfl, rfl⟩ := hrest
            have hkk : rd v2 (k : Int) = rd v (k : Int) := R.keep rfl k (by rw [rdB_set s k k true (by omega), if_pos rfl])
            refine ⟨R.ls, by rw [List.length_set]; exact R.lv, hs2, fun h => (by cases h), fun h => (by cases h), fun h => (by cases h), fun _ j hj => ?_, fun _ j hj => ?_, fun _ q hq => ?_, fun T hT => ⟨fun hall => ?_, fun _ j hj hTj => ?_⟩⟩
            · rw [rdV_set v2 k j i (by have := R.lv; omega), if_neg (fun e => by subst e; rw [h1] at hj; cases hj)]
              exact R.keep rfl j (by
                rw [rdB_set s k j true (by omega)]
                split
                · rfl
                · exact hj)
            · rw [rdV_set v2 k j i (by have := R.lv; omega)]
              by_cases e : k = j
              · rw [if_pos e]; subst e; exact .inr ⟨hi, hE⟩
              · rw [if_neg e]; exact R.edge rfl j hj
            · have c1 := count_set q v2 k i (by have := R.lv; omega)
              have c2 := R.cnt rfl q hq
              rw [hkk] at c1
              omega
            · have hTk := hall k (List.mem_cons_self ..) hE
              have := (R.clo T hT).1 (fun k' hk' he => (hT k hk hTk).2 k' hk' he)
              cases this
            · by_cases e : k = j
              · subst e
                have := (R.clo T hT).1 (fun k' hk' he => (hT k hk hTj).2 k' hk' he)
                cases this
              · rw [rdV_set v2 k j i (by have := R.lv; omega), if_neg e]
                exact (R.clo T hT).2 rfl j hj hTj
          | false =>
            simp only [Bool.false_eq_true, if_false] at hrest
            obtain rfl := R.same rfl
            have P := ih s2 v2 r s' v' hks' R.ls R.lv hrest
            refine ⟨P.ls, P.lv, fun j hj => P.mono j (hs2 j hj), P.same, fun hr j hj hj1 hj2 => ?_, fun hr k' hk' he => ?_, fun hr j hj => P.keep hr j (hs2 j hj), P.edge, P.cnt, fun T hT => ⟨fun hall => (P.clo T hT).1 (fun k' hk' => hall k' (List.mem_cons_of_mem _ hk')), (P.clo T hT).2⟩⟩
            · by_cases hj3 : rdB s2 (j : Int) = true
              · by_cases e : k = j
                · subst e
                  exact ⟨by omega, fun k' hk' he => P.mono k' (R.all rfl k' hk' he)⟩
                · have hx := R.newly rfl j hj hj3 (by rw [rdB_set s k j true (by omega), if_neg e]; exact hj2)
                  exact ⟨hx.1, fun k' hk' he => P.mono k' (hx.2 k' hk' he)⟩
              · exact P.newly hr j hj hj1 (by simpa using hj3)
            · rcases List.mem_cons.1 hk' with e | e
              · subst e; exact P.mono _ hk2
              · exact P.all hr k' e he
theorem good_find : ∀ d, Good p a b (find p a b d)
  | 0 => fun i s v r s' v' _ _ _ h => by simp [find] at h
  | d + 1 => fun i s v r s' v' hi hs hv h => by
    rw [find] at h
    by_cases h1 : 0 ≤ i ∧ i < (a.length : Int)
    · rw [if_pos h1] at h
      have P := good_loop p a b _ (good_find d) i hi (List.range b.length) s v r s' v' (fun k hk => List.mem_range.1 hk) hs hv h
      exact ⟨P.ls, P.lv, P.mono, P.same, P.newly, fun hr k' hk' => P.all hr k' (List.mem_range.2 hk'), P.keep, P.edge, P.cnt, fun T hT => ⟨fun hall => (P.clo T hT).1 (fun k' hk' => hall k' (List.mem_range.1 hk')), (P.clo T hT).2⟩⟩
    · rw [if_neg h1] at h; cases h
/-- The search ends. -/
theorem find_ends : ∀ d i s v, uns s < d → 0 ≤ i → i < (a.length : Int) → s.length = b.length → v.length = b.length → (∀ k : Nat, k < b.length → rd v (k : Int) < (a.length : Int)) → (find p a b d i s v).isSome = true := by
  intro d
  induction d with
  | zero => intro i s v h; omega
  | succ d ih =>
    intro i s v hu hi hi2 hs hv hr
    rw [find, if_pos ⟨hi, hi2⟩]
    have hl : ∀ (ks : List Nat) (s : List Bool), (∀ k ∈ ks, k < b.length) → uns s < d + 1 → s.length = b.length → (findL (find p a b d) p a b i ks s v).isSome = true := by
      intro ks
      induction ks with
      | nil => intro s _ _ _; rfl
      | cons k ks ihk =>
        intro s hks hu hs
        have hk := hks k (List.mem_cons_self ..)
        have hks' : ∀ j ∈ ks, j < b.length := fun j hj => hks j (List.mem_cons_of_mem _ hj)
        rw [findL]
        by_cases h1 : rdB s (k : Int) = true
        · rw [if_pos h1]; exact ihk s hks' hu hs
        · rw [if_neg h1]
          by_cases h2 : p (rd a i) (rd b (k : Int)) = false
          · rw [if_pos h2]; exact ihk s hks' hu hs
          · rw [if_neg h2]
            by_cases h3 : rd v (k : Int) < 0
            · rw [if_pos h3]; rfl
            · rw [if_neg h3]
              have hu2 := uns_set s k (by omega) (by simpa using h1)
              have hsome := ih (rd v (k : Int)) (s.set k true) v (by omega) (by omega) (hr k hk) (by rw [List.length_set]; exact hs) hv hr
              obtain ⟨⟨r1, s2, v2⟩, hrec⟩ := Option.isSome_iff_exists.1 hsome
              have R := good_find p a b d (rd v (k : Int)) (s.set k true) v r1 s2 v2 (by omega) (by rw [List.length_set]; exact hs) hv hrec
              rw [hrec, Option.bind_some]
              cases r1 with
              | true => rfl
              | false =>
                simp only [Bool.false_eq_true, if_false]
                obtain rfl := R.same rfl
                have hm := uns_mono (s.set k true) s2 (by rw [List.length_set, R.ls]; exact hs) R.mono
                exact ihk s2 hks' (by omega) R.ls
    exact hl (List.range b.length) s (fun k hk => List.mem_range.1 hk) hu hs

/-! ### all lefts one behind the other -/
structure KInv (i : Nat) (c : Int) (v : List Int) : Prop where
  lv : v.length = b.length
  rng : ∀ k : Nat, k < b.length → rd v (k : Int) < 0 ∨ (rd v (k : Int) < (i : Int) ∧ Ed p a b (rd v (k : Int)) k)
  cnt : (v.countP (fun x => decide (0 ≤ x)) : Int) = c
  one : ∀ x : Int, 0 ≤ x → v.countP (fun y => y == x) ≤ 1
  cert : ∃ T : Nat → Prop, Cl p a b v T ∧ ∀ j : Nat, j < i → v.countP (fun y => y == (j : Int)) = 0 → ∀ k', k' < b.length → Ed p a b (j : Int) k' → T k'
theorem rdB_repl (m k : Nat) : rdB (List.replicate m false) (k : Int) = false := by
  rw [rdB_nat, List.getD_eq_getElem?_getD, List.getElem?_replicate]
  split <;> rfl
theorem KInv.step {i : Nat} {c : Int} {v : List Int} (h : KInv p a b i c v) (r : Bool) (s' : List Bool) (v' : List Int) (P : Post p a b (fun k => k < b.length) (i : Int) (List.replicate b.length false) v r s' v') : KInv p a b (i + 1) (if r = true then c + 1 else c) v' := by
  obtain ⟨T, hT, hj⟩ := h.cert
  cases r with
  | false =>
    obtain rfl := P.same rfl
    simp only [Bool.false_eq_true, if_false]
    refine ⟨h.lv, fun k hk => ?_, h.cnt, h.one, fun k => T k ∨ rdB s' (k : Int) = true, fun k hk hTk => ?_, fun j hj1 hj2 k' hk' he => ?_⟩
    · rcases h.rng k hk with e | e
      · exact .inl e
      · exact .inr ⟨by omega, e.2⟩
    · rcases hTk with hTk | hTk
      · have := hT k hk hTk
        exact ⟨this.1, fun k' hk' he => .inl (this.2 k' hk' he)⟩
      · have := P.newly rfl k hk hTk (rdB_repl _ _)
        exact ⟨this.1, fun k' hk' he => .inr (this.2 k' hk' he)⟩
    · by_cases e : j = i
      · subst e; exact .inr (P.all rfl k' hk' he)
      · exact .inl (hj j (by omega) hj2 k' hk' he)
  | true =>
    simp only [if_true]
    have hcx : ∀ x : Int, 0 ≤ x → v'.countP (fun y => y == x) = v.countP (fun y => y == x) + (if (i : Int) == x then 1 else 0) := fun x hx => P.cnt rfl (fun y => y == x) (fun y hy => by simp; omega)
    have hi0 : v.countP (fun y => y == (i : Int)) = 0 := by
      apply Classical.byContradiction
      intro hne
      obtain ⟨k, hk, hq⟩ := count_pos _ v hne
      have hq : rd v (k : Int) = (i : Int) := by simpa using hq
      rw [h.lv] at hk
      rcases h.rng k hk with e | e <;> omega
    refine ⟨P.lv, fun k hk => ?_, ?_, fun x hx => ?_, T, fun k hk hTk => ?_, fun j hj1 hj2 k' hk' he => ?_⟩
    · have hbound : 0 ≤ rd v' (k : Int) → rd v' (k : Int) < ((i + 1 : Nat) : Int) := fun h0 => by
        have hne := count_at (fun y => y == rd v' (k : Int)) v' k (by rw [P.lv]; exact hk) (by simp)
        rw [hcx _ h0] at hne
        by_cases e : (i : Int) = rd v' (k : Int)
        · omega
        · rw [if_neg (by simpa using e), Nat.add_zero] at hne
          obtain ⟨j, hj1, hj2⟩ := count_pos _ v hne
          have hj2 : rd v (j : Int) = rd v' (k : Int) := by simpa using hj2
          rw [h.lv] at hj1
          rcases h.rng j hj1 with e2 | e2 <;> omega
      by_cases h0 : rd v' (k : Int) < 0
      · exact .inl h0
      · refine .inr ⟨hbound (by omega), ?_⟩
        rcases P.edge rfl k hk with e | e
        · rw [e]
          rcases h.rng k hk with e2 | e2
          · omega
          · exact e2.2
        · exact e.2
    · have := P.cnt rfl (fun x => decide (0 ≤ x)) (fun x hx => by simp; omega)
      rw [if_pos (by simp)] at this
      have := h.cnt
      omega
    · rw [hcx x hx]
      by_cases e : (i : Int) = x
      · subst e
        rw [hi0, if_pos (by simp)]
        exact Nat.le_refl _
      · rw [if_neg (by simpa using e)]
        exact h.one x hx
    · have e := (P.clo T hT).2 rfl k hk hTk
      rw [e]
      exact hT k hk hTk
    · have := hcx (j : Int) (by omega)
      rw [hj2] at this
      by_cases e : j = i
      · subst e; rw [if_pos (by simp)] at this; omega
      · exact hj j (by omega) (by omega) k' hk' he
theorem mtL_is : ∀ (d i : Nat), i + d = a.length → ∀ (c : Int) (v : List Int), KInv p a b i c v → ∃ c' v', mtL p a b ((List.range a.length).drop i) c v = some c' ∧ KInv p a b a.length c' v'
  | 0, i, hd, c, v, h => by
    rw [List.drop_eq_nil_of_le (by simp; omega), mtL]
    obtain rfl : i = a.length := by omega
    exact ⟨c, v, rfl, h⟩
  | d + 1, i, hd, c, v, h => by
    rw [drop_range _ _ (by omega), mtL]
    have hsome := find_ends p a b (b.length + 1) (i : Int) (List.replicate b.length false) v (by unfold uns; have := List.countP_le_length (p := fun x : Bool => !x) (l := List.replicate b.length false); rw [List.length_replicate] at this; omega) (by omega) (by omega) (by simp) h.lv (fun k hk => by rcases h.rng k hk with e | e <;> omega)
    obtain ⟨⟨r1, s2, v2⟩, hrec⟩ := Option.isSome_iff_exists.1 hsome
    have P := good_find p a b _ (i : Int) (List.replicate b.length false) v r1 s2 v2 (by omega) (by simp) h.lv hrec
    rw [hrec, Option.bind_some]
    exact mtL_is d (i + 1) (by omega) _ v2 (h.step p a b r1 s2 v2 P)
theorem kinv_zero : KInv p a b 0 0 (List.replicate b.length (-1)) := by
  have hr : ∀ k : Nat, k < b.length → rd (List.replicate b.length (-1)) (k : Int) = -1 := fun k hk => by
    rw [rd_nat, List.getD_eq_getElem?_getD, List.getElem?_replicate, if_pos hk]; rfl
  refine ⟨by simp, fun k hk => .inl (by rw [hr k hk]; decide), ?_, fun x hx => ?_, fun _ => False, fun k _ h => h.elim, fun j hj => by omega⟩
  · rw [List.countP_replicate]; simp
  · rw [List.countP_replicate, if_neg (by simp; omega)]; exact Nat.zero_le _

/-! ### no matching is greater than one with such rights -/
theorem pigeon {α β : Type} [DecidableEq β] (R : α → β → Prop) : ∀ (l : List α) (l' : List β), l.Nodup → (∀ x ∈ l, ∃ y ∈ l', R x y) → (∀ x ∈ l, ∀ x' ∈ l, ∀ y, R x y → R x' y → x = x') → l.length ≤ l'.length
  | [], _, _, _, _ => Nat.zero_le _
  | x :: l, l', hn, hR, hi => by
    obtain ⟨n1, n2⟩ := List.nodup_cons.1 hn
    obtain ⟨y, hy, hxy⟩ := hR x (List.mem_cons_self ..)
    have hlen := List.length_erase_of_mem hy
    have hpos : 0 < l'.length := List.length_pos_of_mem hy
    have ih := pigeon R l (l'.erase y) n2 (fun x' hx' => by
      obtain ⟨y', hy', h'⟩ := hR x' (List.mem_cons_of_mem _ hx')
      refine ⟨y', ?_, h'⟩
      by_cases e : y' = y
      · subst e
        have := hi x (List.mem_cons_self ..) x' (List.mem_cons_of_mem _ hx') y' hxy h'
        subst this
        exact absurd hx' n1
      · exact (List.mem_erase_of_ne e).2 hy') (fun x' hx' x'' hx'' y' => hi x' (List.mem_cons_of_mem _ hx') x'' (List.mem_cons_of_mem _ hx'') y')
    rw [List.length_cons]
    omega
structure Mat (n m : Nat) (M : List (Int × Int)) : Prop where
  nd : M.Nodup
  l1 : ∀ x ∈ M, ∀ y ∈ M, x.1 = y.1 → x = y
  l2 : ∀ x ∈ M, ∀ y ∈ M, x.2 = y.2 → x = y
  ed : ∀ x ∈ M, (0 ≤ x.1 ∧ x.1 < (n : Int)) ∧ (0 ≤ x.2 ∧ x.2 < (m : Int)) ∧ p (rd a x.1) (rd b x.2) = true
def Cert (n m : Nat) (M : List (Int × Int)) : Prop := ∃ T : Int → Prop, (∀ k, 0 ≤ k → k < (m : Int) → T k → ∃ i, (i, k) ∈ M) ∧ ∀ i, 0 ≤ i → i < (n : Int) → (∀ k, (i, k) ∈ M → T k) → ∀ k', 0 ≤ k' → k' < (m : Int) → p (rd a i) (rd b k') = true → T k'
theorem dual {n m : Nat} {M N : List (Int × Int)} (h : Mat p a b n m M) (hc : Cert p a b n m N) : M.length ≤ N.length := by
  obtain ⟨T, t1, t2⟩ := hc
  refine pigeon (fun x y => (x.1 = y.1 ∧ ¬ T y.2) ∨ (x.2 = y.2 ∧ T y.2)) M N h.nd (fun x hx => ?_) (fun x hx x' hx' y h1 h2 => ?_)
  · obtain ⟨e1, e2, e3⟩ := h.ed x hx
    by_cases hq : ∃ k, (x.1, k) ∈ N ∧ ¬ T k
    · obtain ⟨k, hk, hT⟩ := hq
      exact ⟨(x.1, k), hk, .inl ⟨rfl, hT⟩⟩
    · have hT : T x.2 := t2 x.1 e1.1 e1.2 (fun k hk => Classical.byContradiction fun hn => hq ⟨k, hk, hn⟩) x.2 e2.1 e2.2 e3
      obtain ⟨i, hi⟩ := t1 x.2 e2.1 e2.2 hT
      exact ⟨(i, x.2), hi, .inr ⟨rfl, hT⟩⟩
  · rcases h1 with ⟨a1, a2⟩ | ⟨a1, a2⟩ <;> rcases h2 with ⟨b1, b2⟩ | ⟨b1, b2⟩
    · exact h.l1 x hx x' hx' (a1.trans b1.symm)
    · exact absurd b2 a2
    · exact absurd a2 b2
    · exact h.l2 x hx x' hx' (a1.trans b1.symm)

/-! ### the search's matching -/
def kP (v : List Int) : List (Int × Int) := ((List.range v.length).filter (fun k : Nat => decide (0 ≤ rd v (k : Int)))).map fun k : Nat => (rd v (k : Int), (k : Int))
theorem mem_kP (v : List Int) (x : Int × Int) : x ∈ kP v ↔ ∃ k : Nat, k < v.length ∧ 0 ≤ rd v (k : Int) ∧ x = (rd v (k : Int), (k : Int)) := by
  unfold kP
  rw [List.mem_map]
  constructor
  · rintro ⟨k, hk, rfl⟩
    obtain ⟨h1, h2⟩ := List.mem_filter.1 hk
    exact ⟨k, List.mem_range.1 h1, by simpa using h2, rfl⟩
  · rintro ⟨k, h1, h2, rfl⟩
    exact ⟨k, List.mem_filter.2 ⟨List.mem_range.2 h1, by simpa using h2⟩, rfl⟩
theorem two_count (v : List Int) (k j : Nat) (hk : k < v.length) (hj : j < v.length) (hne : k ≠ j) (he : rd v (k : Int) = rd v (j : Int)) : 2 ≤ v.countP (fun y => y == rd v (k : Int)) := by
  have c := count_set (fun y => y == rd v (k : Int)) v k (rd v (k : Int) + 1) hk
  have hj' := count_at (fun y => y == rd v (k : Int)) (v.set k (rd v (k : Int) + 1)) j (by rw [List.length_set]; exact hj) (by rw [rdV_set v k j _ hk, if_neg hne, he]; simp)
  rw [if_pos (by simp), if_neg (by simp; omega)] at c
  omega
theorem kP_ok {c : Int} {v : List Int} (h : KInv p a b a.length c v) : Mat p a b a.length b.length (kP v) ∧ Cert p a b a.length b.length (kP v) ∧ ((kP v).length : Int) = c := by
  have hinj : ∀ (k j : Nat), k < v.length → j < v.length → 0 ≤ rd v (k : Int) → rd v (k : Int) = rd v (j : Int) → k = j := fun k j hk hj h0 he => by
    apply Classical.byContradiction
    intro hne
    have := two_count v k j hk hj hne he
    have := h.one _ h0
    omega
  refine ⟨⟨?_, ?_, ?_, ?_⟩, ?_, ?_⟩
  · unfold kP List.Nodup
    rw [List.pairwise_map]
    exact (List.Pairwise.filter _ (List.nodup_range (n := v.length))).imp (fun {x y} hxy e => hxy (by have := congrArg Prod.snd e; simp only at this; omega))
  · intro x hx y hy e
    obtain ⟨k, h1, h2, rfl⟩ := (mem_kP v x).1 hx
    obtain ⟨j, h3, h4, rfl⟩ := (mem_kP v y).1 hy
    obtain rfl := hinj k j h1 h3 h2 e
    rfl
  · intro x hx y hy e
    obtain ⟨k, h1, h2, rfl⟩ := (mem_kP v x).1 hx
    obtain ⟨j, h3, h4, rfl⟩ := (mem_kP v y).1 hy
    simp only at e
    obtain rfl : k = j := by omega
    rfl
  · intro x hx
    obtain ⟨k, h1, h2, rfl⟩ := (mem_kP v x).1 hx
    rw [h.lv] at h1
    rcases h.rng k h1 with e | e
    · omega
    · exact ⟨⟨h2, e.1⟩, ⟨by simp only; omega, by simp only; omega⟩, e.2⟩
  · obtain ⟨T, hT, hj⟩ := h.cert
    refine ⟨fun x => T x.toNat, fun k h0 h1 hTk => ?_, fun i h0 h1 hall k' h2 h3 he => ?_⟩
    · have hk : k.toNat < b.length := by omega
      refine ⟨rd v (k.toNat : Int), (mem_kP v _).2 ⟨k.toNat, by rw [h.lv]; exact hk, (hT _ hk hTk).1, ?_⟩⟩
      rw [show ((k.toNat : Nat) : Int) = k from by omega]
    · have he' : Ed p a b i k'.toNat := by unfold Ed; rw [show ((k'.toNat : Nat) : Int) = k' from by omega]; exact he
      by_cases hz : v.countP (fun y => y == i) = 0
      · have := hj i.toNat (by omega) (by rw [show ((i.toNat : Nat) : Int) = i from by omega]; exact hz) k'.toNat (by omega) (by rw [show ((i.toNat : Nat) : Int) = i from by omega]; exact he')
        exact this
      · obtain ⟨k, hk, hq⟩ := count_pos _ v hz
        have hq : rd v (k : Int) = i := by simpa using hq
        have hm : (i, (k : Int)) ∈ kP v := (mem_kP v _).2 ⟨k, hk, by omega, by rw [hq]⟩
        have hTk : T k := by
          have h9 : T ((k : Int)).toNat := hall _ hm
          rw [Int.toNat_natCast] at h9
          exact h9
        exact (hT k (by rw [← h.lv]; exact hk) hTk).2 k'.toNat (by omega) (by rw [hq]; exact he')
  · rw [← h.cnt, count_rd]
    unfold kP
    rw [List.length_map, List.countP_eq_length_filter]
end

/-! ### the greedy matching -/
theorem find_lex (S : List Int) (p : Int → Bool) : ∀ (o : List Int) (k : Int), o.Pairwise (lx S) → o.find? p = some k → k ∈ o ∧ p k = true ∧ ∀ q ∈ o, p q = true → q ≠ k → lx S k q
  | [], k, _, h => by cases h
  | y :: t, k, ho, h => by
    obtain ⟨h1, h2⟩ := List.pairwise_cons.1 ho
    cases hp : p y with
    | true =>
      rw [List.find?_cons_of_pos hp] at h
      obtain rfl := Option.some.inj h
      refine ⟨List.mem_cons.2 (.inl rfl), hp, fun q hq _ hne => ?_⟩
      rcases List.mem_cons.1 hq with e | e
      · exact absurd e hne
      · exact h1 q e
    | false =>
      rw [List.find?_cons_of_neg (by rw [hp]; decide)] at h
      obtain ⟨g1, g2, g3⟩ := find_lex S p t k h2 h
      refine ⟨List.mem_cons.2 (.inr g1), g2, fun q hq hpq hne => ?_⟩
      rcases List.mem_cons.1 hq with e | e
      · subst e; rw [hp] at hpq; cases hpq
      · exact g3 q e hpq hne
/-- A foot and a shoe that fits. -/
def Fit (F S : List Int) (b r : Int) (i k : Int) : Prop := rd F i - b ≤ rd S k ∧ rd S k ≤ rd F i + r
structure GInv (F S : List Int) (b r : Int) (pr used out : List Int) : Prop where
  lo : out.length = F.length
  g1 : ∀ i ∈ pr, rd out i = -1 ∨ (rd out i ∈ used ∧ (0 ≤ rd out i ∧ rd out i < (S.length : Int)) ∧ Fit F S b r i (rd out i))
  g2 : ∀ k ∈ used, ∃ i ∈ pr, rd out i = k
  g3 : ∀ i ∈ pr, ∀ j ∈ pr, 0 ≤ rd out i → rd out i = rd out j → i = j
  g4 : ∀ i ∈ pr, 0 ≤ rd out i → ∀ k', 0 ≤ k' → k' < (S.length : Int) → Fit F S b r i k' → lx S k' (rd out i) → k' ∈ used
  g5 : ∃ T : Int → Prop, (∀ k, 0 ≤ k → k < (S.length : Int) → T k → ∃ i ∈ pr, rd out i = k ∧ ∀ k', 0 ≤ k' → k' < (S.length : Int) → Fit F S b r i k' → T k') ∧ ∀ i ∈ pr, rd out i < 0 → ∀ k', 0 ≤ k' → k' < (S.length : Int) → Fit F S b r i k' → T k'
theorem okS_iff (F S : List Int) (b r : Int) (used : List Int) (i k : Int) : okS F S b r used i k = true ↔ ¬ k ∈ used ∧ Fit F S b r i k := by
  unfold okS Fit
  rw [Bool.and_eq_true, Bool.and_eq_true, decide_eq_true_eq, decide_eq_true_eq, Bool.not_eq_true', decide_eq_false_iff_not]
theorem gr_inv (F S : List Int) (b r : Int) (oS : List Int) (hoS : oS.Pairwise (lx S)) (hmS : ∀ k, k ∈ oS ↔ 0 ≤ k ∧ k < (S.length : Int)) : ∀ (oF pr used out : List Int), GInv F S b r pr used out → (∀ i ∈ oF, 0 ≤ i ∧ i < (F.length : Int)) → (∀ i ∈ pr, 0 ≤ i ∧ i < (F.length : Int)) → (∀ i ∈ oF, ¬ i ∈ pr) → oF.Pairwise (lx F) → (∀ i ∈ pr, ∀ j ∈ oF, rd F i ≤ rd F j) → ∃ used', GInv F S b r (pr ++ oF) used' (gr F S b r oS oF used out) := by
  intro oF
  induction oF with
  | nil =>
    intro pr used out h _ _ _ _ _
    rw [List.append_nil, gr]
    exact ⟨used, h⟩
  | cons i t ih =>
    intro pr used out h hF hP hN hs hle
    obtain ⟨s1, s2⟩ := List.pairwise_cons.1 hs
    have hi := hF i (List.mem_cons_self ..)
    have hni := hN i (List.mem_cons_self ..)
    have hnext : ∀ (used' out' : List Int), GInv F S b r (pr ++ [i]) used' out' → ∃ used'', GInv F S b r (pr ++ i :: t) used'' (gr F S b r oS t used' out') := fun used' out' h' => by
      have := ih (pr ++ [i]) used' out' h' (fun j hj => hF j (List.mem_cons_of_mem _ hj)) (fun j hj => by
        rcases List.mem_append.1 hj with e | e
        · exact hP j e
        · rw [List.mem_singleton.1 e]; exact hi) (fun j hj hm => by
        rcases List.mem_append.1 hm with e | e
        · exact hN j (List.mem_cons_of_mem _ hj) e
        · rw [List.mem_singleton.1 e] at hj; exact lx_ne (s1 i hj) rfl) s2 (fun j hj q hq => by
        rcases List.mem_append.1 hj with e | e
        · exact hle j e q (List.mem_cons_of_mem _ hq)
        · rw [List.mem_singleton.1 e]; have := s1 q hq; unfold lx at this; omega)
      rw [List.append_assoc, List.singleton_append] at this
      exact this
    have hold : ∀ (x : Int) (out' : List Int), (∀ q, 0 ≤ q → i ≠ q → rd out' q = rd out q) → ∀ j ∈ pr, rd out' j = rd out j := fun x out' hq j hj => hq j (hP j hj).1 (fun e => by subst e; exact hni hj)
    unfold gr
    cases hfd : oS.find? (okS F S b r used i) with
    | none =>
      refine hnext used (out.set i.toNat (-1)) ?_
      have hne := List.find?_eq_none.1 hfd
      have hused : ∀ k, 0 ≤ k → k < (S.length : Int) → Fit F S b r i k → k ∈ used := fun k h0 h1 hf => Classical.byContradiction fun hn => hne k ((hmS k).2 ⟨h0, h1⟩) ((okS_iff F S b r used i k).2 ⟨hn, hf⟩)
      have hsame : ∀ j ∈ pr, rd (out.set i.toNat (-1)) j = rd out j := hold (-1) _ (fun q hq hne => by rw [rd_set out i q (-1) hi.1 (by rw [h.lo]; omega) hq, if_neg hne])
      have hnew : rd (out.set i.toNat (-1)) i = -1 := by rw [rd_set out i i (-1) hi.1 (by rw [h.lo]; omega) hi.1, if_pos rfl]
      obtain ⟨T, t1, t2⟩ := h.g5
      refine ⟨by rw [List.length_set]; exact h.lo, fun j hj => ?_, fun k hk => ?_, fun j hj q hq h0 he => ?_, fun j hj h0 => ?_, fun k => T k ∨ ((0 ≤ k ∧ k < (S.length : Int)) ∧ rd S k ≤ rd F i + r ∧ ∀ u, 0 ≤ u → u < (S.length : Int) → ¬ u ∈ used → rd S u ≤ rd F i + r → rd S u < rd S k), fun k h0 h1 hTk => ?_, fun j hj hneg k' h0 h1 hf => ?_⟩
      · rcases List.mem_append.1 hj with e | e
        · rw [hsame j e]; exact h.g1 j e
        · rw [List.mem_singleton.1 e]; exact .inl hnew
      · obtain ⟨j, hj, e⟩ := h.g2 k hk
        exact ⟨j, List.mem_append_left _ hj, by rw [hsame j hj]; exact e⟩
      · rcases List.mem_append.1 hj with e | e
        · rcases List.mem_append.1 hq with e2 | e2
          · rw [hsame j e] at h0 he; rw [hsame q e2] at he
            exact h.g3 j e q e2 h0 he
          · rw [List.mem_singleton.1 e2, hnew] at he; omega
        · rw [List.mem_singleton.1 e, hnew] at h0; omega
      · rcases List.mem_append.1 hj with e | e
        · rw [hsame j e] at h0 ⊢; exact h.g4 j e h0
        · rw [List.mem_singleton.1 e, hnew] at h0; omega
      · rcases hTk with hTk | ⟨_, hTk1, hTk2⟩
        · obtain ⟨j, hj, e, hcl⟩ := t1 k h0 h1 hTk
          exact ⟨j, List.mem_append_left _ hj, by rw [hsame j hj]; exact e, fun k' a1 a2 a3 => .inl (hcl k' a1 a2 a3)⟩
        · have hku : k ∈ used := Classical.byContradiction fun hn => by
            have := hTk2 k h0 h1 hn hTk1
            omega
          obtain ⟨j, hj, e⟩ := h.g2 k hku
          refine ⟨j, List.mem_append_left _ hj, by rw [hsame j hj]; exact e, fun k' a1 a2 a3 => .inr ⟨⟨a1, a2⟩, ?_, fun u u0 u1 hu huF => ?_⟩⟩
          · have := hle j hj i (List.mem_cons_self ..)
            unfold Fit at a3; omega
          · have hlt := hTk2 u u0 u1 hu huF
            apply Classical.byContradiction
            intro hge
            have hfj : Fit F S b r j k := by
              rcases h.g1 j hj with e2 | e2
              · omega
              · rw [← e]; exact e2.2.2
            have hfu : Fit F S b r j u := by unfold Fit at a3 hfj ⊢; omega
            exact hu (h.g4 j hj (by omega) u u0 u1 hfu (.inl (by rw [e]; exact hlt)))
      · rcases List.mem_append.1 hj with e | e
        · rw [hsame j e] at hneg; exact .inl (t2 j e hneg k' h0 h1 hf)
        · rw [List.mem_singleton.1 e] at hf
          refine .inr ⟨⟨h0, h1⟩, hf.2, fun u u0 u1 hu huF => ?_⟩
          apply Classical.byContradiction
          intro hge
          exact hu (hused u u0 u1 (by unfold Fit at hf ⊢; omega))
    | some k0 =>
      obtain ⟨f1, f2, f3⟩ := find_lex S _ oS k0 hoS hfd
      obtain ⟨o1, o2⟩ := (okS_iff F S b r used i k0).1 f2
      have hk0 := (hmS k0).1 f1
      refine hnext (used ++ [k0]) ((out.set i.toNat (-1)).set i.toNat k0) ?_
      have hsame : ∀ j ∈ pr, rd ((out.set i.toNat (-1)).set i.toNat k0) j = rd out j := hold k0 _ (fun q hq hne => by rw [rd_set _ i q k0 hi.1 (by rw [List.length_set, h.lo]; omega) hq, if_neg hne, rd_set out i q (-1) hi.1 (by rw [h.lo]; omega) hq, if_neg hne])
      have hnew : rd ((out.set i.toNat (-1)).set i.toNat k0) i = k0 := by rw [rd_set _ i i k0 hi.1 (by rw [List.length_set, h.lo]; omega) hi.1, if_pos rfl]
      obtain ⟨T, t1, t2⟩ := h.g5
      refine ⟨by rw [List.length_set, List.length_set]; exact h.lo, fun j hj => ?_, fun k hk => ?_, fun j hj q hq h0 he => ?_, fun j hj h0 k' a1 a2 a3 a4 => ?_, T, fun k h0 h1 hTk => ?_, fun j hj hneg k' h0 h1 hf => ?_⟩
      · rcases List.mem_append.1 hj with e | e
        · rw [hsame j e]
          rcases h.g1 j e with e2 | e2
          · exact .inl e2
          · exact .inr ⟨List.mem_append_left _ e2.1, e2.2⟩
        · rw [List.mem_singleton.1 e, hnew]; exact .inr ⟨by simp, hk0, o2⟩
      · rcases List.mem_append.1 hk with e | e
        · obtain ⟨j, hj, e2⟩ := h.g2 k e
          exact ⟨j, List.mem_append_left _ hj, by rw [hsame j hj]; exact e2⟩
        · rw [List.mem_singleton.1 e]; exact ⟨i, by simp, hnew⟩
      · have hcross : ∀ j ∈ pr, 0 ≤ rd out j → rd out j ≠ k0 := fun j hj h0 e => by
          rcases h.g1 j hj with e2 | e2
          · omega
          · rw [e] at e2; exact o1 e2.1
        rcases List.mem_append.1 hj with e | e
        · rcases List.mem_append.1 hq with e2 | e2
          · rw [hsame j e] at h0 he; rw [hsame q e2] at he
            exact h.g3 j e q e2 h0 he
          · rw [List.mem_singleton.1 e2, hnew, hsame j e] at he; rw [hsame j e] at h0; exact absurd he (hcross j e h0)
        · rcases List.mem_append.1 hq with e2 | e2
          · rw [List.mem_singleton.1 e, hnew, hsame q e2] at he; exact absurd he.symm (hcross q e2 (by rw [← he]; exact hk0.1))
          · rw [List.mem_singleton.1 e, List.mem_singleton.1 e2]
      · rcases List.mem_append.1 hj with e | e
        · rw [hsame j e] at h0 a4; exact List.mem_append_left _ (h.g4 j e h0 k' a1 a2 a3 a4)
        · rw [List.mem_singleton.1 e] at a3 a4
          rw [hnew] at a4
          apply Classical.byContradiction
          intro hn
          have hnu : ¬ k' ∈ used := fun hm => hn (List.mem_append_left _ hm)
          have := f3 k' ((hmS k').2 ⟨a1, a2⟩) ((okS_iff F S b r used i k').2 ⟨hnu, a3⟩) (lx_ne a4)
          exact lx_irrefl S _ _ a4 this
      · obtain ⟨j, hj, e, hcl⟩ := t1 k h0 h1 hTk
        exact ⟨j, List.mem_append_left _ hj, by rw [hsame j hj]; exact e, hcl⟩
      · rcases List.mem_append.1 hj with e | e
        · rw [hsame j e] at hneg; exact t2 j e hneg k' h0 h1 hf
        · rw [List.mem_singleton.1 e, hnew] at hneg; omega
theorem feet_inv (F S : List Int) (b r : Int) : ∃ used, GInv F S b r (ordUpto F F.length) used (feet F S b r) := by
  have h := gr_inv F S b r (ordUpto S S.length) (ord_sorted S S.length) (ord_mem S S.length) (ordUpto F F.length) [] [] (List.replicate F.length 0) ⟨by simp, fun i h => by (cases h), fun k h => by (cases h), fun i h => by (cases h), fun i h => by (cases h), fun _ => False, fun k _ _ h => h.elim, fun i h => by (cases h)⟩ (fun i hi => (ord_mem F _ i).1 hi) (fun i h => by (cases h)) (fun i _ h => by (cases h)) (ord_sorted F F.length) (fun i h => by (cases h))
  rw [List.nil_append] at h
  exact h
def gP (out : List Int) : List (Int × Int) := ((List.range out.length).filter (fun i : Nat => decide (0 ≤ rd out (i : Int)))).map fun i : Nat => ((i : Int), rd out (i : Int))
theorem mem_gP (v : List Int) (x : Int × Int) : x ∈ gP v ↔ ∃ k : Nat, k < v.length ∧ 0 ≤ rd v (k : Int) ∧ x = ((k : Int), rd v (k : Int)) := by
  unfold gP
  rw [List.mem_map]
  constructor
  · rintro ⟨k, hk, rfl⟩
    obtain ⟨h1, h2⟩ := List.mem_filter.1 hk
    exact ⟨k, List.mem_range.1 h1, by simpa using h2, rfl⟩
  · rintro ⟨k, h1, h2, rfl⟩
    exact ⟨k, List.mem_filter.2 ⟨List.mem_range.2 h1, by simpa using h2⟩, rfl⟩
theorem gP_ok (p : Int → Int → Bool) (F S : List Int) (b r : Int) (hp : ∀ i k, 0 ≤ i → i < (F.length : Int) → 0 ≤ k → k < (S.length : Int) → (p (rd F i) (rd S k) = true ↔ Fit F S b r i k)) : Mat p F S F.length S.length (gP (feet F S b r)) ∧ Cert p F S F.length S.length (gP (feet F S b r)) := by
  obtain ⟨used, h⟩ := feet_inv F S b r
  have hm : ∀ k : Nat, k < (feet F S b r).length → (k : Int) ∈ ordUpto F F.length := fun k hk => (ord_mem F _ _).2 ⟨by omega, by rw [h.lo] at hk; omega⟩
  refine ⟨⟨?_, ?_, ?_, ?_⟩, ?_⟩
  · unfold gP List.Nodup
    rw [List.pairwise_map]
    exact (List.Pairwise.filter _ (List.nodup_range (n := (feet F S b r).length))).imp (fun {x y} hxy e => hxy (by have := congrArg Prod.fst e; simp only at this; omega))
  · intro x hx y hy e
    obtain ⟨k, h1, h2, rfl⟩ := (mem_gP _ x).1 hx
    obtain ⟨j, h3, h4, rfl⟩ := (mem_gP _ y).1 hy
    simp only at e
    obtain rfl : k = j := by omega
    rfl
  · intro x hx y hy e
    obtain ⟨k, h1, h2, rfl⟩ := (mem_gP _ x).1 hx
    obtain ⟨j, h3, h4, rfl⟩ := (mem_gP _ y).1 hy
    have := h.g3 _ (hm k h1) _ (hm j h3) h2 e
    obtain rfl : k = j := by omega
    rfl
  · intro x hx
    obtain ⟨k, h1, h2, rfl⟩ := (mem_gP _ x).1 hx
    have hr := (ord_mem F _ _).1 (hm k h1)
    rcases h.g1 _ (hm k h1) with e | e
    · omega
    · exact ⟨hr, e.2.1, (hp _ _ hr.1 hr.2 e.2.1.1 e.2.1.2).2 e.2.2⟩
  · obtain ⟨T, t1, t2⟩ := h.g5
    refine ⟨T, fun k h0 h1 hTk => ?_, fun i h0 h1 hall k' h2 h3 he => ?_⟩
    · obtain ⟨i, hi, e, _⟩ := t1 k h0 h1 hTk
      have hr := (ord_mem F _ i).1 hi
      exact ⟨i, (mem_gP _ _).2 ⟨i.toNat, by rw [h.lo]; omega, by rw [show ((i.toNat : Nat) : Int) = i from by omega, e]; exact h0, by rw [show ((i.toNat : Nat) : Int) = i from by omega, e]⟩⟩
    · have hi := (ord_mem F F.length i).2 ⟨h0, h1⟩
      have hf := (hp i k' h0 h1 h2 h3).1 he
      rcases h.g1 i hi with e | e
      · exact t2 i hi (by omega) k' h2 h3 hf
      · have hm' : (i, rd (feet F S b r) i) ∈ gP (feet F S b r) := (mem_gP _ _).2 ⟨i.toNat, by rw [h.lo]; omega, by rw [show ((i.toNat : Nat) : Int) = i from by omega]; exact e.2.1.1, by rw [show ((i.toNat : Nat) : Int) = i from by omega]⟩
        have hT := hall _ hm'
        obtain ⟨j, hj, e2, hcl⟩ := t1 _ e.2.1.1 e.2.1.2 hT
        have := h.g3 j hj i hi (by rw [e2]; exact e.2.1.1) e2
        subst this
        exact hcl k' h2 h3 hf
/-- How many feet get a shoe. -/
def srvd (l : List Int) : Int := ((l.countP fun x => decide (0 ≤ x) : Nat) : Int)
theorem gP_len (out : List Int) : ((gP out).length : Int) = srvd out := by
  unfold srvd
  rw [count_rd]
  unfold gP
  rw [List.length_map, List.countP_eq_length_filter]
/-- The search serves as many as the greedy choice. -/
theorem mtc_is (p : Int → Int → Bool) (F S : List Int) (b r : Int) (hF : F.length ≤ 1000) (hS : S.length ≤ 1000) (hp : ∀ i k, 0 ≤ i → i < (F.length : Int) → 0 ≤ k → k < (S.length : Int) → (p (rd F i) (rd S k) = true ↔ Fit F S b r i k)) : mtc p F S = some (srvd (feet F S b r)) := by
  obtain ⟨c, v, h1, h2⟩ := mtL_is p F S F.length 0 (by omega) 0 _ (kinv_zero p F S)
  obtain ⟨k1, k2, k3⟩ := kP_ok p F S h2
  obtain ⟨g1, g2⟩ := gP_ok p F S b r hp
  have d1 := dual p F S k1 g2
  have d2 := dual p F S g1 k2
  unfold mtc
  rw [if_pos ⟨hF, hS⟩]
  rw [List.drop_zero] at h1
  rw [h1, ← gP_len]
  congr 1
  omega

/-! ### spec.shServed -/
theorem ev_shServed (l : List Int) (hl : l.length ≤ 1048576) : Ev (fun k => spec_shServed.f k l) (srvd l) := by
  have h : ∀ i, i ≤ l.length → ∀ c : Int, 0 ≤ c → c ≤ (i : Int) → Ev (fun k => spec_shServed.l0 k c l (l.length : Int) (i : Int)) (c + srvd (l.drop i)) := by
    refine downTo l.length ?_ ?_
    · intro c _ _
      rw [List.drop_length]
      refine Ev.step (f := fun _ => some c) (fun k => ?_) (by unfold srvd; simpa using Ev.now c)
      simp only [spec_shServed.l0]
      rw [if_neg (by omega)]
    · intro i hi ih c h0 h1
      have e : srvd (l.drop i) = (if 0 ≤ rd l (i : Int) then 1 else 0) + srvd (l.drop (i + 1)) := by
        unfold srvd
        rw [drop_cons l i hi, List.countP_cons]
        by_cases hx : 0 ≤ rd l (i : Int)
        · rw [if_pos hx, if_pos (by simpa using hx)]; omega
        · rw [if_neg hx, if_neg (by simpa using hx)]; omega
      rw [e]
      by_cases hx : 0 ≤ rd l (i : Int)
      · rw [if_pos hx]
        have := ih (c + 1) (by omega) (by omega)
        rw [Int.add_assoc] at this
        refine Ev.step (f := fun k => spec_shServed.l0 k (c + 1) l (l.length : Int) ((i + 1 : Nat) : Int)) (fun k => ?_) this
        simp only [spec_shServed.l0]
        rw [if_pos (by omega), if_pos (by omega), if_pos (by omega), if_pos hx, wrap_succ i (by omega), show wrap64 (c + 1) = c + 1 from by unfold wrap64; omega]
      · rw [if_neg hx]
        have := ih c h0 (by omega)
        rw [show c + (0 + srvd (l.drop (i + 1))) = c + srvd (l.drop (i + 1)) from by omega]
        refine Ev.step (f := fun k => spec_shServed.l0 k c l (l.length : Int) ((i + 1 : Nat) : Int)) (fun k => ?_) this
        simp only [spec_shServed.l0]
        rw [if_pos (by omega), if_pos (by omega), if_pos (by omega), if_neg hx, wrap_succ i (by omega)]
  have e := h 0 (by omega) 0 (by omega) (by omega)
  rw [List.drop_zero, Int.zero_add] at e
  exact e

end Go.Proofs.Ytagfnpocloaojaa.PureMatch
