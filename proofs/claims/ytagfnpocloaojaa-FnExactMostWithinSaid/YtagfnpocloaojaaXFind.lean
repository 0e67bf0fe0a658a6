/- The contract of impl.matched's closure: called with a place and a row of what was seen it returns what the Lean function 'find' does, and leaves the rows of what was seen and of who goes with whom as that function says; nothing else that was there is changed. -/
import Derived.Shelf.Abstract
import Derived.Test.YtagfnpocloaojaaXGoes
import Derived.StillTailTactics
namespace Go.Proofs.Ytagfnpocloaojaa.XFind
open Go.RowKit Go.Proofs.YtagfnpocloaojaaW.PrintWords Go.Proofs.YtagfnpocloaojaaW.PrintLast Go.Proofs.YtagfnpocloaojaaW.PrintMore
open Go.Proofs.Ytagfnpocloaojaa.QBase
set_option linter.unusedVariables false
set_option linter.unusedSimpArgs false

def rdB (s : List Bool) (k : Int) : Bool := s.getD k.toNat false
/-- The places from k on, up to m. -/
def findL (rec : Int → List Bool → List Int → Option (Bool × List Bool × List Int)) (p : Int → Int → Bool) (a b : List Int) (i : Int) : List Nat → List Bool → List Int → Option (Bool × List Bool × List Int)
  | [], s, v => some (false, s, v)
  | k :: ks, s, v =>
    if rdB s k = true then findL rec p a b i ks s v
    else if p (rd a i) (rd b k) = false then findL rec p a b i ks s v
    else if rd v k < 0 then some (true, s.set k true, v.set k i)
    else (rec (rd v k) (s.set k true) v).bind fun r => if r.1 = true then some (true, r.2.1, r.2.2.set k i) else findL rec p a b i ks r.2.1 r.2.2
def find (p : Int → Int → Bool) (a b : List Int) : Nat → Int → List Bool → List Int → Option (Bool × List Bool × List Int)
  | 0, _, _, _ => none
  | d + 1, i, s, v => if 0 ≤ i ∧ i < (a.length : Int) then findL (find p a b d) p a b i (List.range b.length) s v else none

/-- The two rows that the search writes. -/
abbrev SR (gs gw : Nat) : Nat → Prop := fun k => k = gs ∨ k = gw
/-- The closure, with what it captures. -/
abbrev CF (bB bG bA bW bF : Nat) : Value := .func (.func 84) #[] #[.pointer (some ⟨bB, 0, none⟩), .pointer (some ⟨bG, 0, none⟩), .pointer (some ⟨bA, 0, none⟩), .pointer (some ⟨bW, 0, none⟩), .pointer (some ⟨bF, 0, none⟩)]
abbrev rowS (s : List Bool) : Obj := .cells (bools s).toArray 4 (0, 0)
abbrev rowV (v : List Int) : Obj := .cells (nums .i64 v).toArray 3 (0, 0)
structure Env (W : World) (g bB bG bA bW bF bS gw : Nat) (Aa Ab : Option Addr) (ca cb : Nat) (la lb : List Int) (sl : Int) : Prop where
  cB : W.cell? ⟨bB, 0, none⟩ = some (.slice Ab lb.length cb)
  cG : W.cell? ⟨bG, 0, none⟩ = some (.func (.func g) #[] #[.pointer (some ⟨bS, 0, none⟩)])
  cA : W.cell? ⟨bA, 0, none⟩ = some (.slice Aa la.length ca)
  cW : W.cell? ⟨bW, 0, none⟩ = some (.slice (some ⟨gw, 0, none⟩) lb.length lb.length)
  cF : W.cell? ⟨bF, 0, none⟩ = some (CF bB bG bA bW bF)
  cS : W.cell? ⟨bS, 0, none⟩ = some (.int .i64 sl)
  rA : Kd.C (Kd.int .i64) W Aa la.length la
  rB : Kd.C (Kd.int .i64) W Ab lb.length lb
/-- The rows lie apart from all that the closure reads. -/
structure Sep (bB bG bA bW bF bS gs gw : Nat) (Aa Ab : Option Addr) (la lb : List Int) : Prop where
  b1 : ¬ SR gs gw bB
  b2 : ¬ SR gs gw bG
  b3 : ¬ SR gs gw bA
  b4 : ¬ SR gs gw bW
  b5 : ¬ SR gs gw bF
  b6 : ¬ SR gs gw bS
  fA : ∀ ad, Aa = some ad → 0 < la.length → ¬ SR gs gw ad.block
  fB : ∀ ad, Ab = some ad → 0 < lb.length → ¬ SR gs gw ad.block
  ne : gs ≠ gw
theorem cell_kept {w W : World} {S : Nat → Prop} (hk : Kept w W S) {b : Nat} (hb : ¬ S b) {v : Value} (h : w.cell? ⟨b, 0, none⟩ = some v) : W.cell? ⟨b, 0, none⟩ = some v := by
  have hlt := World.block_lt_of_cell? w _ h
  have := hk.2 b hlt hb
  rw [← h]
  simp [World.cell?, this]
theorem Env.keep {w W : World} {g bB bG bA bW bF bS gs gw : Nat} {Aa Ab : Option Addr} {ca cb : Nat} {la lb : List Int} {sl : Int} (h : Env w g bB bG bA bW bF bS gw Aa Ab ca cb la lb sl) (s : Sep bB bG bA bW bF bS gs gw Aa Ab la lb) (hk : Kept w W (SR gs gw)) : Env W g bB bG bA bW bF bS gw Aa Ab ca cb la lb sl :=
  ⟨cell_kept hk s.b1 h.cB, cell_kept hk s.b2 h.cG, cell_kept hk s.b3 h.cA, cell_kept hk s.b4 h.cW, cell_kept hk s.b5 h.cF, cell_kept hk s.b6 h.cS, Kd.C_foot_neS (fun h => h) h.rA s.fA W hk, Kd.C_foot_neS (fun h => h) h.rB s.fB W hk⟩
theorem rowS_at {W : World} {gs : Nat} {s : List Bool} (h : W.heap[gs]? = some (rowS s)) (k : Nat) (hk : k < s.length) : W.cell? ⟨gs, k, none⟩ = some (.bool (rdB s k)) := by
  rw [blk_cell h k]
  simp [bools, rdB, hk, List.getD_eq_getElem?_getD]
theorem rowV_at {W : World} {gw : Nat} {v : List Int} (h : W.heap[gw]? = some (rowV v)) (k : Nat) (hk : k < v.length) : W.cell? ⟨gw, k, none⟩ = some (.int .i64 (rd v k)) := by
  rw [blk_cell h k]
  simp [nums, rd, hk, List.getD_eq_getElem?_getD]
theorem rowS_set {W : World} {gs : Nat} {s : List Bool} (h : W.heap[gs]? = some (rowS s)) (k : Nat) (x : Bool) : (W.setCell ⟨gs, k, none⟩ (.bool x)).heap[gs]? = some (rowS (s.set k x)) := by
  rw [blk_set h k (.bool x)]
  simp [bools, List.map_set]
theorem rowV_set {W : World} {gw : Nat} {v : List Int} (h : W.heap[gw]? = some (rowV v)) (k : Nat) (x : Int) : (W.setCell ⟨gw, k, none⟩ (.int .i64 x)).heap[gw]? = some (rowV (v.set k x)) := by
  rw [blk_set h k (.int .i64 x)]
  simp [nums, List.map_set]
theorem drop_range (m kk : Nat) (h : kk < m) : (List.range m).drop kk = kk :: (List.range m).drop (kk + 1) := by
  rw [List.drop_eq_getElem_cons (by simpa using h), List.getElem_range]

set_option maxHeartbeats 8000000 in
set_option maxRecDepth 100000 in
theorem find84 (p : Int → Int → Bool) (g bB bG bA bW bF bS gw : Nat) (Aa Ab : Option Addr) (ca cb : Nat) (la lb : List Int) (sl : Int)
    (eg : ∀ args w, (callFunc g args).run Try.prog w = .ok (.enter g args) w)
    (hp : ∀ (W : World) (x y : Int), W.cell? ⟨bS, 0, none⟩ = some (.int .i64 sl) → Calls Try.prog g #[.int .i64 x, .int .i64 y, .pointer (some ⟨bS, 0, none⟩)] W fun e w' => e = .returned (.bool (p x y)) ∧ Drawn0 W w')
    (hm : lb.length ≤ 1000) (d : Nat) : ∀ (i : Int) (s : List Bool) (v : List Int) (r : Bool) (s' : List Bool) (v' : List Int) (gs : Nat) (w0 w : World), Sep bB bG bA bW bF bS gs gw Aa Ab la lb → Env w g bB bG bA bW bF bS gw Aa Ab ca cb la lb sl → w0.heap.size ≤ gs → w0.heap.size ≤ gw → Below w0.heap.size w0 w → s.length = lb.length → v.length = lb.length → w.heap[gs]? = some (rowS s) → w.heap[gw]? = some (rowV v) → find p la lb d i s v = some (r, s', v') →
    Calls Try.prog 84 #[.int .i64 i, .slice (some ⟨gs, 0, none⟩) lb.length lb.length, .pointer (some ⟨bB, 0, none⟩), .pointer (some ⟨bG, 0, none⟩), .pointer (some ⟨bA, 0, none⟩), .pointer (some ⟨bW, 0, none⟩), .pointer (some ⟨bF, 0, none⟩)] w fun e w' => e = .returned (.bool r) ∧ s'.length = lb.length ∧ v'.length = lb.length ∧ w'.heap[gs]? = some (rowS s') ∧ w'.heap[gw]? = some (rowV v') ∧ Kept w w' (SR gs gw) ∧ Below w0.heap.size w0 w' := by
  have HP := Aside0.mk hp
  clear hp
  have e84 : ∀ args w, (callFunc 84 args).run Try.prog w = .ok (.enter 84 args) w := enters_of Try.func84 (by kernel_rfl) rfl
  induction d with
  | zero => intro i s v r s' v' gs w0 w _ _ _ _ _ _ _ _ _ h; simp [find] at h
  | succ d ih =>
    intro i s v r s' v' gs w0 w hsep henv hgs hgw hb hls hlv hrs hrv h
    have IH := Aside0.mk ih
    clear ih
    unfold find at h
    by_cases hi : 0 ≤ i ∧ i < (la.length : Int)
    · rw [if_pos hi] at h
      obtain ⟨hi0, hi1⟩ := hi
      have SEP := Aside0.mk hsep
      have ENV := Aside0.mk henv
      have HB := Aside0.mk hb
      have HGS := Aside0.mk hgs
      have HGW := Aside0.mk hgw
      have HF := Aside0.mk h
      have HLS := Aside0.mk hls
      have HLV := Aside0.mk hlv
      have HRS := Aside0.mk hrs
      have HRV := Aside0.mk hrv
      have hcb := henv.cB
      clear hsep henv hgs hgw hb hls hlv hrs hrv h
      go_enter Try.func84, Try.ntmps84
      go_wp2
      clear hcb
      go_loopg [14] lb.length (fun gg s14 wr => ∃ (kk : Nat) (s1 : List Bool) (v1 : List Int), kk ≤ lb.length ∧ lb.length - kk ≤ gg ∧ s14 = .int .i64 kk ∧ Aside0 (findL (find p la lb d) p la lb i ((List.range lb.length).drop kk) s1 v1 = some (r, s', v')) ∧ Aside0 (s1.length = lb.length) ∧ Aside0 (v1.length = lb.length) ∧ Aside0 (wr.heap[gs]? = some (rowS s1)) ∧ Aside0 (wr.heap[gw]? = some (rowV v1)) ∧ Aside0 (Kept w wr (SR gs gw)) ∧ Aside0 (Below w0.heap.size w0 wr))
      case atStart => exact ⟨0, s, v, Nat.zero_le _, by omega, rfl, HF, HLS, HLV, HRS, HRV, ⟨Kept.refl _ _⟩, HB⟩
      case round =>
        clear HF HLS HLV HRS HRV HB
        obtain ⟨kk, s1, v1, hkk, hg, rfl, HX, HLS, HLV, HRS, HRV, HK, HB⟩ := hrel
        have ENVr := Aside0.mk (ENV.out.keep SEP.out HK.out)
        by_cases hlt : kk < lb.length
        · have hltz' : decide ((kk : Int) < (lb.length : Int)) = true := decide_eq_true (by omega)
          have h0 : (0 : Int) ≤ (kk : Int) := by omega
          have hltz : (kk : Int) < (lb.length : Int) := by omega
          obtain ⟨ad, e, hx⟩ := Kd.at_int ENVr.out.rB (kk : Int) h0 hltz
          rw [Int.toNat_natCast] at hx
          have hstep := HX.out
          rw [drop_range _ _ hlt, findL] at hstep
          have hnx : IntKind.i64.wrap ((kk : Int) + 1) = ((kk + 1 : Nat) : Int) := (i64_w _).trans (by unfold wrap64; omega)
          have HG := Aside0.mk (show lb.length - (kk + 1) < gk from by omega)
          clear HX hg
          have hsc := rowS_at HRS.out kk (by rw [HLS.out]; exact hlt)
          have hvc := rowV_at HRV.out kk (by rw [HLV.out]; exact hlt)
          have hsf := blk_frozen HRS.out kk
          have hvf := blk_frozen HRV.out kk
          cases hs : rdB s1 kk with
          | true =>
            rw [if_pos hs] at hstep
            rw [hs] at hsc
            have HS := Aside0.mk hstep
            clear hstep hs
            subst e
            go_wp2
            go_quiet (fail)
            go_wp2
            go_roundg (lb.length - (kk + 1))
            case measure => have := HG.out; omega
            case rel => exact ⟨kk + 1, s1, v1, by omega, by omega, by first | rfl | (rw [hnx]), HS, HLS, HLV, HRS, HRV, ⟨by repeat (first | exact HK.out | apply Kept.drewN | apply Kept.drew)⟩, ⟨by repeat (first | exact HB.out | apply pw_below_drewN | apply below_drew1)⟩⟩
          | false =>
            rw [if_neg (by rw [hs]; decide)] at hstep
            rw [hs] at hsc
            clear hs
            obtain ⟨ai, eA, hxa⟩ := Kd.at_int ENVr.out.rA i hi0 hi1
            have hcA := ENVr.out.cA
            have hcG := ENVr.out.cG
            have hcS := ENVr.out.cS
            have hcW := ENVr.out.cW
            have hcF := ENVr.out.cF
            subst e
            subst eA
            have hcall := fun (W : World) (h : W.cell? ⟨bS, 0, none⟩ = some (.int .i64 sl)) => HP.out W (rd la i) (rd lb (kk : Int)) h
            cases hpp : p (rd la i) (rd lb (kk : Int)) with
            | false =>
              rw [if_pos hpp] at hstep
              rw [hpp] at hcall
              have HCALL := Aside0.mk hcall
              have HS := Aside0.mk hstep
              clear hstep hpp hcall
              go_wp2
              go_quiet (first | (go_at_fn g; (with_reducible refine (HCALL.out _ ?c0).mono ?_); (case c0 => go_simp); rintro e w' ⟨rfl, ⟨nd, rfl⟩⟩; (try first | exact ⟨rfl, _, World.drewN_drewN _ _ _⟩ | exact ⟨rfl, _, Eq.trans (World.drewN_drewN _ _ _) (congrArg (World.drewN _) (Nat.add_assoc _ _ _))⟩)))
              go_wp2
              go_roundg (lb.length - (kk + 1))
              case measure => have := HG.out; omega
              case rel => exact ⟨kk + 1, s1, v1, by omega, by omega, by first | rfl | (rw [hnx]), HS, HLS, HLV, HRS, HRV, ⟨by repeat (first | exact HK.out | apply Kept.drewN | apply Kept.drew)⟩, ⟨by repeat (first | exact HB.out | apply pw_below_drewN | apply below_drew1)⟩⟩
            | true =>
              rw [if_neg (by rw [hpp]; decide)] at hstep
              rw [hpp] at hcall
              have HCALL := Aside0.mk hcall
              clear hpp hcall
              have HST := Aside0.mk hstep
              clear hstep
              go_wp2
              go_quiet (first | (go_at_fn g; (with_reducible refine (HCALL.out _ ?c0).mono ?_); (case c0 => go_simp); rintro e w' ⟨rfl, ⟨nd, rfl⟩⟩; (try first | exact ⟨rfl, _, World.drewN_drewN _ _ _⟩ | exact ⟨rfl, _, Eq.trans (World.drewN_drewN _ _ _) (congrArg (World.drewN _) (Nat.add_assoc _ _ _))⟩)))
              go_wp2
              obtain ⟨W6, hW6⟩ : ∃ W6 : World, (wr.drewN nq).setCell ⟨gs, kk, none⟩ (.bool true) = W6 := ⟨_, rfl⟩
              rw [hW6]
              have RS6 := Aside0.mk (show W6.heap[gs]? = some (rowS (s1.set kk true)) from by rw [← hW6]; exact rowS_set (W := wr.drewN nq) HRS.out kk true)
              have RV6 := Aside0.mk (show W6.heap[gw]? = some (rowV v1) from by rw [← hW6]; exact blk_far (w := wr.drewN nq) HRV.out (fun e => SEP.out.ne e.symm) _)
              have K6 := Aside0.mk (show Kept w W6 (SR gs gw) from by rw [← hW6]; exact Kept.setCell (HK.out.drewN nq) (.inl (.inl rfl)) _)
              have B6 := Aside0.mk (show Below w0.heap.size w0 W6 from by rw [← hW6]; exact below_set (pw_below_drewN HB.out nq) HGS.out)
              clear hW6 hx hsc hvc hsf hvf hxa hcA hcG hcS hcW hcF HRS HRV HK HB ENVr HCALL
              have E6 := Aside0.mk (ENV.out.keep SEP.out K6.out)
              have hcW := E6.out.cW
              have hvc := rowV_at RV6.out kk (by rw [HLV.out]; exact hlt)
              have hvf := blk_frozen RV6.out kk
              by_cases hv : rd v1 (kk : Int) < 0
              · have hvd : decide (rd v1 (kk : Int) < 0) = true := decide_eq_true hv
                have hstep := HST.out
                rw [if_pos hv] at hstep
                simp only [Option.some.injEq, Prod.mk.injEq] at hstep
                obtain ⟨rfl, rfl, rfl⟩ := hstep
                clear HST
                go_quiet (fail)
                go_wp2
                go_ret
                refine ⟨rfl, by rw [List.length_set]; exact HLS.out, by rw [List.length_set]; exact HLV.out, ?_, ?_, ?_, ?_⟩
                · exact blk_far (w := W6.drewN _) RS6.out SEP.out.ne _
                · exact rowV_set (W := W6.drewN _) RV6.out kk i
                · exact Kept.setCell (K6.out.drewN _) (.inl (.inr rfl)) _
                · exact below_set (pw_below_drewN B6.out _) HGW.out
              · have hvd : decide (rd v1 (kk : Int) < 0) = false := decide_eq_false hv
                have hstep := HST.out
                rw [if_neg hv] at hstep
                have HS := Aside0.mk hstep
                clear HST hstep
                have hcF := E6.out.cF
                obtain ⟨⟨r1, s2, v2⟩, hrec, hrest⟩ := Option.bind_eq_some_iff.1 HS.out
                have hcall := IH.out (rd v1 (kk : Int)) (s1.set kk true) v1 r1 s2 v2 gs w0 W6.drew SEP.out (E6.out.keep SEP.out ((Kept.refl W6 _).drew)) HGS.out HGW.out (below_drew1 B6.out) (by rw [List.length_set]; exact HLS.out) HLV.out RS6.out RV6.out hrec
                have HCALL := Aside0.mk hcall
                have HREST := Aside0.mk hrest
                clear hcall hrec hrest HS
                cases r1 with
                | true =>
                  have hrest := HREST.out
                  simp only [if_true, Option.some.injEq, Prod.mk.injEq] at hrest
                  obtain ⟨rfl, rfl, rfl⟩ := hrest
                  clear HREST
                  go_still_tail 12, (by kernel_rfl)
                  change wpList _ _ _ _ _ W6.drew
                  go_wp2_with (go_at_fn 84; (with_reducible refine HCALL.out.mono ?_); rintro e w8 ⟨rfl, hl2, hl3, hr2, hr3, hk8, hb8⟩; have HL2 := Aside0.mk hl2; have HL3 := Aside0.mk hl3; have HR2 := Aside0.mk hr2; have HR3 := Aside0.mk hr3; have K8 := Aside0.mk (Kept.then_ (K6.out.drew) hk8 (fun _ h => .inl h)); have B8 := Aside0.mk hb8; clear hl2 hl3 hr2 hr3 hk8 hb8 hcW hvc hvf hcF; have E8 := Aside0.mk (ENV.out.keep SEP.out K8.out); have hcW := E8.out.cW; have hvf := blk_frozen HR3.out kk; have hvc := rowV_at HR3.out kk (by rw [HL3.out]; exact hlt))
                  go_ret
                  refine ⟨rfl, HL2.out, by rw [List.length_set]; exact HL3.out, ?_, ?_, ?_, ?_⟩
                  · exact blk_far HR2.out SEP.out.ne _
                  · exact rowV_set HR3.out kk i
                  · exact Kept.setCell K8.out (.inl (.inr rfl)) _
                  · exact below_set B8.out HGW.out
                | false =>
                  have hrest := HREST.out
                  rw [if_neg (by simp)] at hrest
                  have HS := Aside0.mk hrest
                  clear HREST hrest
                  go_still_tail 12, (by kernel_rfl)
                  change wpList _ _ _ _ _ W6.drew
                  go_wp2_with (go_at_fn 84; (with_reducible refine HCALL.out.mono ?_); rintro e w8 ⟨rfl, hl2, hl3, hr2, hr3, hk8, hb8⟩; have HL2 := Aside0.mk hl2; have HL3 := Aside0.mk hl3; have HR2 := Aside0.mk hr2; have HR3 := Aside0.mk hr3; have K8 := Aside0.mk (Kept.then_ (K6.out.drew) hk8 (fun _ h => .inl h)); have B8 := Aside0.mk hb8; clear hl2 hl3 hr2 hr3 hk8 hb8 hcW hvc hvf hcF)
                  go_roundg (lb.length - (kk + 1))
                  case measure => have := HG.out; omega
                  case rel => exact ⟨kk + 1, s2, v2, by omega, by omega, by first | rfl | (rw [hnx]), HS, HL2, HL3, HR2, HR3, K8, B8⟩
        · have hltz : decide ((kk : Int) < (lb.length : Int)) = false := decide_eq_false (by omega)
          have hstep := HX.out
          rw [List.drop_eq_nil_of_le (by simp; omega), findL] at hstep
          simp only [Option.some.injEq, Prod.mk.injEq] at hstep
          obtain ⟨rfl, rfl, rfl⟩ := hstep
          clear HX
          go_wp2
          go_ret
          exact ⟨rfl, HLS.out, HLV.out, HRS.out, HRV.out, HK.out, HB.out⟩
    · rw [if_neg hi] at h; cases h
end Go.Proofs.Ytagfnpocloaojaa.XFind
