/-
  No cell of these rows narrows 'for every input' (looked for: loops, veiled, ifaces, maps, wideKeys, modest, calm, conditions, laid).
  DERIVED. THE GIVEN ROWS OF THIS SEAT. 12 by the template 'for every input the law returns true; each argument reads behind the call as it read before'; 0 by the template 'total and deterministic' (their statements: YtagfnpocloaojaaTotals.lean).
  GIVEN WITH THE SEED: the statements are not yours to turn. If you find one false, say at which input.
  Laid BY PROGRAM, IN A SANDBOX (cutbox-rows.mjs): the forced cells as the released guide's own fill.sh prints them over the translation d9a430c91b1f7910… (all of the seat's roots in one cut). By AI agents, Wed Nov 11 2026. No macro, syntax, notation, axiom, sorry.
-/
import Derived.Test.YtagfnpocloaojaaChecked
import GoSem.Claim
import GoSem.ClaimJoined
import GoSem.ClaimMapViews
import Derived.JoinedTies
import Derived.KernelRfl
namespace Go.Proofs.Ytagfnpocloaojaa
/- THE CELL 'sum', in the pinned program and in every row, IS THE sha256 OF THE DUMP (.gsa) THAT YtagfnpocloaojaaProg.lean LOADS. Nothing in Lean hashes anything: it is a label: what it is worth is what the hold of that sum in a sandbox is worth. -/
noncomputable def Try.pinned : Pinned := { name := "ytagfnpocloaojaa", sum := "d9a430c91b1f791079b72a7516aee7f445d7612fdabf2d6c3a3f6db7846e4193", checked := Try.checked }
namespace Rows
def none {H : Type} : Left H := { results := [], args := [] }

/-- 'laws.FnExactSumApart': WHATEVER THE INPUT: true; the input reads as it did. -/
def fnExactSumApartSpec : ChangeSpec := { name := "fnExactSumApart", fn := fun _ => fun
  | [d1, d2, d3] => { results := [.lit (.bool true)], args := [d1, d2, d3] }
  | _ => none }
def fnExactSumApartRow : OpenClaim := { program := "ytagfnpocloaojaa", sum := "d9a430c91b1f791079b72a7516aee7f445d7612fdabf2d6c3a3f6db7846e4193", func := "loop.example/g01372/laws.FnExactSumApart", spec := "fnExactSumApart", unfollowed := true, recurses := true, apart := false }
def FnExactSumApartSaid : Prop := fnExactSumApartRow.holds Try.pinned (OpenSpec.ofChange fnExactSumApartSpec)

/-- ITS FALSE NEIGHBOUR: 'it returns false'. Refute it at one input. -/
def fnExactSumApartWrong : ChangeSpec := { name := "fnExactSumApart", fn := fun _ => fun
  | [d1, d2, d3] => { results := [.lit (.bool false)], args := [d1, d2, d3] }
  | _ => none }
def FnExactSumApartWrongFalsely : Prop := fnExactSumApartRow.holds Try.pinned (OpenSpec.ofChange fnExactSumApartWrong)

/-- 'laws.FnExactMostApart': WHATEVER THE INPUT: true; the input reads as it did. -/
def fnExactMostApartSpec : ChangeSpec := { name := "fnExactMostApart", fn := fun _ => fun
  | [d1, d2, d3] => { results := [.lit (.bool true)], args := [d1, d2, d3] }
  | _ => none }
def fnExactMostApartRow : OpenClaim := { program := "ytagfnpocloaojaa", sum := "d9a430c91b1f791079b72a7516aee7f445d7612fdabf2d6c3a3f6db7846e4193", func := "loop.example/g01372/laws.FnExactMostApart", spec := "fnExactMostApart", unfollowed := true, recurses := true, apart := false }
def FnExactMostApartSaid : Prop := fnExactMostApartRow.holds Try.pinned (OpenSpec.ofChange fnExactMostApartSpec)

/-- ITS FALSE NEIGHBOUR: 'it returns false'. Refute it at one input. -/
def fnExactMostApartWrong : ChangeSpec := { name := "fnExactMostApart", fn := fun _ => fun
  | [d1, d2, d3] => { results := [.lit (.bool false)], args := [d1, d2, d3] }
  | _ => none }
def FnExactMostApartWrongFalsely : Prop := fnExactMostApartRow.holds Try.pinned (OpenSpec.ofChange fnExactMostApartWrong)

/-- 'laws.FnExactMostWithin': WHATEVER THE INPUT: true; the input reads as it did. -/
def fnExactMostWithinSpec : ChangeSpec := { name := "fnExactMostWithin", fn := fun _ => fun
  | [d1, d2, d3] => { results := [.lit (.bool true)], args := [d1, d2, d3] }
  | _ => none }
def fnExactMostWithinRow : OpenClaim := { program := "ytagfnpocloaojaa", sum := "d9a430c91b1f791079b72a7516aee7f445d7612fdabf2d6c3a3f6db7846e4193", func := "loop.example/g01372/laws.FnExactMostWithin", spec := "fnExactMostWithin", unfollowed := true, recurses := true, apart := false }
def FnExactMostWithinSaid : Prop := fnExactMostWithinRow.holds Try.pinned (OpenSpec.ofChange fnExactMostWithinSpec)

/-- ITS FALSE NEIGHBOUR: 'it returns false'. Refute it at one input. -/
def fnExactMostWithinWrong : ChangeSpec := { name := "fnExactMostWithin", fn := fun _ => fun
  | [d1, d2, d3] => { results := [.lit (.bool false)], args := [d1, d2, d3] }
  | _ => none }
def FnExactMostWithinWrongFalsely : Prop := fnExactMostWithinRow.holds Try.pinned (OpenSpec.ofChange fnExactMostWithinWrong)

/-- 'laws.FnExactMostFeet': WHATEVER THE INPUT: true; the input reads as it did. -/
def fnExactMostFeetSpec : ChangeSpec := { name := "fnExactMostFeet", fn := fun _ => fun
  | [d1, d2, d3] => { results := [.lit (.bool true)], args := [d1, d2, d3] }
  | _ => none }
def fnExactMostFeetRow : OpenClaim := { program := "ytagfnpocloaojaa", sum := "d9a430c91b1f791079b72a7516aee7f445d7612fdabf2d6c3a3f6db7846e4193", func := "loop.example/g01372/laws.FnExactMostFeet", spec := "fnExactMostFeet", unfollowed := true, recurses := true, apart := false }
def FnExactMostFeetSaid : Prop := fnExactMostFeetRow.holds Try.pinned (OpenSpec.ofChange fnExactMostFeetSpec)

/-- ITS FALSE NEIGHBOUR: 'it returns false'. Refute it at one input. -/
def fnExactMostFeetWrong : ChangeSpec := { name := "fnExactMostFeet", fn := fun _ => fun
  | [d1, d2, d3] => { results := [.lit (.bool false)], args := [d1, d2, d3] }
  | _ => none }
def FnExactMostFeetWrongFalsely : Prop := fnExactMostFeetRow.holds Try.pinned (OpenSpec.ofChange fnExactMostFeetWrong)

/-- 'laws.FnExactFirstExchanges': WHATEVER THE INPUT: true; the input reads as it did. -/
def fnExactFirstExchangesSpec : ChangeSpec := { name := "fnExactFirstExchanges", fn := fun _ => fun
  | [d] => { results := [.lit (.bool true)], args := [d] }
  | _ => none }
def fnExactFirstExchangesRow : OpenClaim := { program := "ytagfnpocloaojaa", sum := "d9a430c91b1f791079b72a7516aee7f445d7612fdabf2d6c3a3f6db7846e4193", func := "loop.example/g01372/laws.FnExactFirstExchanges", spec := "fnExactFirstExchanges", apart := false }
def FnExactFirstExchangesSaid : Prop := fnExactFirstExchangesRow.holds Try.pinned (OpenSpec.ofChange fnExactFirstExchangesSpec)

/-- ITS FALSE NEIGHBOUR: 'it returns false'. Refute it at one input. -/
def fnExactFirstExchangesWrong : ChangeSpec := { name := "fnExactFirstExchanges", fn := fun _ => fun
  | [d] => { results := [.lit (.bool false)], args := [d] }
  | _ => none }
def FnExactFirstExchangesWrongFalsely : Prop := fnExactFirstExchangesRow.holds Try.pinned (OpenSpec.ofChange fnExactFirstExchangesWrong)

/-- 'laws.FnExactLeastMostApart': WHATEVER THE INPUT: true; the input reads as it did. -/
def fnExactLeastMostApartSpec : ChangeSpec := { name := "fnExactLeastMostApart", fn := fun _ => fun
  | [d1, d2] => { results := [.lit (.bool true)], args := [d1, d2] }
  | _ => none }
def fnExactLeastMostApartRow : OpenClaim := { program := "ytagfnpocloaojaa", sum := "d9a430c91b1f791079b72a7516aee7f445d7612fdabf2d6c3a3f6db7846e4193", func := "loop.example/g01372/laws.FnExactLeastMostApart", spec := "fnExactLeastMostApart", unfollowed := true, recurses := true, apart := false }
def FnExactLeastMostApartSaid : Prop := fnExactLeastMostApartRow.holds Try.pinned (OpenSpec.ofChange fnExactLeastMostApartSpec)

/-- ITS FALSE NEIGHBOUR: 'it returns false'. Refute it at one input. -/
def fnExactLeastMostApartWrong : ChangeSpec := { name := "fnExactLeastMostApart", fn := fun _ => fun
  | [d1, d2] => { results := [.lit (.bool false)], args := [d1, d2] }
  | _ => none }
def FnExactLeastMostApartWrongFalsely : Prop := fnExactLeastMostApartRow.holds Try.pinned (OpenSpec.ofChange fnExactLeastMostApartWrong)

/-- 'laws.FnExactLeastSumApart': WHATEVER THE INPUT: true; the input reads as it did. -/
def fnExactLeastSumApartSpec : ChangeSpec := { name := "fnExactLeastSumApart", fn := fun _ => fun
  | [d1, d2] => { results := [.lit (.bool true)], args := [d1, d2] }
  | _ => none }
def fnExactLeastSumApartRow : OpenClaim := { program := "ytagfnpocloaojaa", sum := "d9a430c91b1f791079b72a7516aee7f445d7612fdabf2d6c3a3f6db7846e4193", func := "loop.example/g01372/laws.FnExactLeastSumApart", spec := "fnExactLeastSumApart", unfollowed := true, recurses := true, apart := false }
def FnExactLeastSumApartSaid : Prop := fnExactLeastSumApartRow.holds Try.pinned (OpenSpec.ofChange fnExactLeastSumApartSpec)

/-- ITS FALSE NEIGHBOUR: 'it returns false'. Refute it at one input. -/
def fnExactLeastSumApartWrong : ChangeSpec := { name := "fnExactLeastSumApart", fn := fun _ => fun
  | [d1, d2] => { results := [.lit (.bool false)], args := [d1, d2] }
  | _ => none }
def FnExactLeastSumApartWrongFalsely : Prop := fnExactLeastSumApartRow.holds Try.pinned (OpenSpec.ofChange fnExactLeastSumApartWrong)

/-- 'laws.FnExactCountPairings': WHATEVER THE INPUT: true; the input reads as it did. -/
def fnExactCountPairingsSpec : ChangeSpec := { name := "fnExactCountPairings", fn := fun _ => fun
  | [d1, d2] => { results := [.lit (.bool true)], args := [d1, d2] }
  | _ => none }
def fnExactCountPairingsRow : OpenClaim := { program := "ytagfnpocloaojaa", sum := "d9a430c91b1f791079b72a7516aee7f445d7612fdabf2d6c3a3f6db7846e4193", func := "loop.example/g01372/laws.FnExactCountPairings", spec := "fnExactCountPairings", unfollowed := true, recurses := true, apart := false }
def FnExactCountPairingsSaid : Prop := fnExactCountPairingsRow.holds Try.pinned (OpenSpec.ofChange fnExactCountPairingsSpec)

/-- ITS FALSE NEIGHBOUR: 'it returns false'. Refute it at one input. -/
def fnExactCountPairingsWrong : ChangeSpec := { name := "fnExactCountPairings", fn := fun _ => fun
  | [d1, d2] => { results := [.lit (.bool false)], args := [d1, d2] }
  | _ => none }
def FnExactCountPairingsWrongFalsely : Prop := fnExactCountPairingsRow.holds Try.pinned (OpenSpec.ofChange fnExactCountPairingsWrong)

/-- 'laws.FnExactFirstPairing': WHATEVER THE INPUT: true; the input reads as it did. -/
def fnExactFirstPairingSpec : ChangeSpec := { name := "fnExactFirstPairing", fn := fun _ => fun
  | [d1, d2] => { results := [.lit (.bool true)], args := [d1, d2] }
  | _ => none }
def fnExactFirstPairingRow : OpenClaim := { program := "ytagfnpocloaojaa", sum := "d9a430c91b1f791079b72a7516aee7f445d7612fdabf2d6c3a3f6db7846e4193", func := "loop.example/g01372/laws.FnExactFirstPairing", spec := "fnExactFirstPairing", unfollowed := true, recurses := true, apart := false }
def FnExactFirstPairingSaid : Prop := fnExactFirstPairingRow.holds Try.pinned (OpenSpec.ofChange fnExactFirstPairingSpec)

/-- ITS FALSE NEIGHBOUR: 'it returns false'. Refute it at one input. -/
def fnExactFirstPairingWrong : ChangeSpec := { name := "fnExactFirstPairing", fn := fun _ => fun
  | [d1, d2] => { results := [.lit (.bool false)], args := [d1, d2] }
  | _ => none }
def FnExactFirstPairingWrongFalsely : Prop := fnExactFirstPairingRow.holds Try.pinned (OpenSpec.ofChange fnExactFirstPairingWrong)

/-- 'laws.FnExactFirstFeet': WHATEVER THE INPUT: true; the input reads as it did. -/
def fnExactFirstFeetSpec : ChangeSpec := { name := "fnExactFirstFeet", fn := fun _ => fun
  | [d1, d2, d3] => { results := [.lit (.bool true)], args := [d1, d2, d3] }
  | _ => none }
def fnExactFirstFeetRow : OpenClaim := { program := "ytagfnpocloaojaa", sum := "d9a430c91b1f791079b72a7516aee7f445d7612fdabf2d6c3a3f6db7846e4193", func := "loop.example/g01372/laws.FnExactFirstFeet", spec := "fnExactFirstFeet", unfollowed := true, recurses := true, apart := false }
def FnExactFirstFeetSaid : Prop := fnExactFirstFeetRow.holds Try.pinned (OpenSpec.ofChange fnExactFirstFeetSpec)

/-- ITS FALSE NEIGHBOUR: 'it returns false'. Refute it at one input. -/
def fnExactFirstFeetWrong : ChangeSpec := { name := "fnExactFirstFeet", fn := fun _ => fun
  | [d1, d2, d3] => { results := [.lit (.bool false)], args := [d1, d2, d3] }
  | _ => none }
def FnExactFirstFeetWrongFalsely : Prop := fnExactFirstFeetRow.holds Try.pinned (OpenSpec.ofChange fnExactFirstFeetWrong)

/-- 'laws.FnExactSizesToBuy': WHATEVER THE INPUT: true; the input reads as it did. -/
def fnExactSizesToBuySpec : ChangeSpec := { name := "fnExactSizesToBuy", fn := fun _ => fun
  | [d1, d2, d3] => { results := [.lit (.bool true)], args := [d1, d2, d3] }
  | _ => none }
def fnExactSizesToBuyRow : OpenClaim := { program := "ytagfnpocloaojaa", sum := "d9a430c91b1f791079b72a7516aee7f445d7612fdabf2d6c3a3f6db7846e4193", func := "loop.example/g01372/laws.FnExactSizesToBuy", spec := "fnExactSizesToBuy", unfollowed := true, recurses := true, apart := false }
def FnExactSizesToBuySaid : Prop := fnExactSizesToBuyRow.holds Try.pinned (OpenSpec.ofChange fnExactSizesToBuySpec)

/-- ITS FALSE NEIGHBOUR: 'it returns false'. Refute it at one input. -/
def fnExactSizesToBuyWrong : ChangeSpec := { name := "fnExactSizesToBuy", fn := fun _ => fun
  | [d1, d2, d3] => { results := [.lit (.bool false)], args := [d1, d2, d3] }
  | _ => none }
def FnExactSizesToBuyWrongFalsely : Prop := fnExactSizesToBuyRow.holds Try.pinned (OpenSpec.ofChange fnExactSizesToBuyWrong)

/-- 'laws.FnExactTogetherOnRack': WHATEVER THE INPUT: true; the input reads as it did. -/
def fnExactTogetherOnRackSpec : ChangeSpec := { name := "fnExactTogetherOnRack", fn := fun _ => fun
  | [d] => { results := [.lit (.bool true)], args := [d] }
  | _ => none }
def fnExactTogetherOnRackRow : OpenClaim := { program := "ytagfnpocloaojaa", sum := "d9a430c91b1f791079b72a7516aee7f445d7612fdabf2d6c3a3f6db7846e4193", func := "loop.example/g01372/laws.FnExactTogetherOnRack", spec := "fnExactTogetherOnRack", recurses := true, apart := false }
def FnExactTogetherOnRackSaid : Prop := fnExactTogetherOnRackRow.holds Try.pinned (OpenSpec.ofChange fnExactTogetherOnRackSpec)

/-- ITS FALSE NEIGHBOUR: 'it returns false'. Refute it at one input. -/
def fnExactTogetherOnRackWrong : ChangeSpec := { name := "fnExactTogetherOnRack", fn := fun _ => fun
  | [d] => { results := [.lit (.bool false)], args := [d] }
  | _ => none }
def FnExactTogetherOnRackWrongFalsely : Prop := fnExactTogetherOnRackRow.holds Try.pinned (OpenSpec.ofChange fnExactTogetherOnRackWrong)

/- THE SECOND FORM. 'bulk': how many values and letters a reading holds, each counted each time it is reached (what is shared counts as often as it is met; a slice's spare places count too). A statement '..UptoSaid' is the law's where the arguments, and the package variables that the reading takes, are together of bulk at most 1048576: NARROWER than '..Said'. Prove '..Said' where nothing that the law and all that it calls make is longer than what came in: it says more and counts as full. Else prove '..UptoSaid'. A law counts once. -/
mutual
def uptoBulk {H : Type} : DataW H → Nat
  | .lit (.string bytes) => bytes.length + 1
  | .lit _ => 1
  | .nil => 1
  | .ptr d => uptoBulk d + 1
  | .slice elems spare => uptoBulkAll elems + uptoBulkAll spare + 1
  | .agg parts => uptoBulkAll parts + 1
  | .iface _ d => uptoBulk d + 1
  | .map entries => uptoBulkEntries entries + 1
  | .held _ => 1
def uptoBulkAll {H : Type} : List (DataW H) → Nat
  | [] => 0
  | d :: r => uptoBulk d + uptoBulkAll r
def uptoBulkEntries {H : Type} : List (Lit × DataW H) → Nat
  | [] => 0
  | x :: r => uptoBulkEntry x + uptoBulkEntries r
def uptoBulkEntry {H : Type} : Lit × DataW H → Nat
  | (.string bytes, d) => bytes.length + uptoBulk d + 1
  | (_, d) => uptoBulk d + 1
 end
def uptoSmall : (H : Type) → List (DataW H) → Bool := fun _ ds => decide (uptoBulkAll ds ≤ 1048576)
def OpenSpec.upto (s : _root_.Go.ChangeSpec) : _root_.Go.OpenSpec := { _root_.Go.OpenSpec.ofChange s with cond := some uptoSmall }

/-- 'laws.FnExactSumApart', WHERE WHAT IT READS IS OF BULK AT MOST 1048576: true; the input reads as it did. -/
def fnExactSumApartUptoRow : OpenClaim := { program := "ytagfnpocloaojaa", sum := "d9a430c91b1f791079b72a7516aee7f445d7612fdabf2d6c3a3f6db7846e4193", func := "loop.example/g01372/laws.FnExactSumApart", spec := "fnExactSumApart", unfollowed := true, recurses := true, apart := false, narrowed := true }
def FnExactSumApartUptoSaid : Prop := fnExactSumApartUptoRow.holds Try.pinned (OpenSpec.upto fnExactSumApartSpec)

/-- 'laws.FnExactMostApart', WHERE WHAT IT READS IS OF BULK AT MOST 1048576: true; the input reads as it did. -/
def fnExactMostApartUptoRow : OpenClaim := { program := "ytagfnpocloaojaa", sum := "d9a430c91b1f791079b72a7516aee7f445d7612fdabf2d6c3a3f6db7846e4193", func := "loop.example/g01372/laws.FnExactMostApart", spec := "fnExactMostApart", unfollowed := true, recurses := true, apart := false, narrowed := true }
def FnExactMostApartUptoSaid : Prop := fnExactMostApartUptoRow.holds Try.pinned (OpenSpec.upto fnExactMostApartSpec)

/-- 'laws.FnExactMostWithin', WHERE WHAT IT READS IS OF BULK AT MOST 1048576: true; the input reads as it did. -/
def fnExactMostWithinUptoRow : OpenClaim := { program := "ytagfnpocloaojaa", sum := "d9a430c91b1f791079b72a7516aee7f445d7612fdabf2d6c3a3f6db7846e4193", func := "loop.example/g01372/laws.FnExactMostWithin", spec := "fnExactMostWithin", unfollowed := true, recurses := true, apart := false, narrowed := true }
def FnExactMostWithinUptoSaid : Prop := fnExactMostWithinUptoRow.holds Try.pinned (OpenSpec.upto fnExactMostWithinSpec)

/-- 'laws.FnExactMostFeet', WHERE WHAT IT READS IS OF BULK AT MOST 1048576: true; the input reads as it did. -/
def fnExactMostFeetUptoRow : OpenClaim := { program := "ytagfnpocloaojaa", sum := "d9a430c91b1f791079b72a7516aee7f445d7612fdabf2d6c3a3f6db7846e4193", func := "loop.example/g01372/laws.FnExactMostFeet", spec := "fnExactMostFeet", unfollowed := true, recurses := true, apart := false, narrowed := true }
def FnExactMostFeetUptoSaid : Prop := fnExactMostFeetUptoRow.holds Try.pinned (OpenSpec.upto fnExactMostFeetSpec)

/-- 'laws.FnExactFirstExchanges', WHERE WHAT IT READS IS OF BULK AT MOST 1048576: true; the input reads as it did. -/
def fnExactFirstExchangesUptoRow : OpenClaim := { program := "ytagfnpocloaojaa", sum := "d9a430c91b1f791079b72a7516aee7f445d7612fdabf2d6c3a3f6db7846e4193", func := "loop.example/g01372/laws.FnExactFirstExchanges", spec := "fnExactFirstExchanges", apart := false, narrowed := true }
def FnExactFirstExchangesUptoSaid : Prop := fnExactFirstExchangesUptoRow.holds Try.pinned (OpenSpec.upto fnExactFirstExchangesSpec)

/-- 'laws.FnExactLeastMostApart', WHERE WHAT IT READS IS OF BULK AT MOST 1048576: true; the input reads as it did. -/
def fnExactLeastMostApartUptoRow : OpenClaim := { program := "ytagfnpocloaojaa", sum := "d9a430c91b1f791079b72a7516aee7f445d7612fdabf2d6c3a3f6db7846e4193", func := "loop.example/g01372/laws.FnExactLeastMostApart", spec := "fnExactLeastMostApart", unfollowed := true, recurses := true, apart := false, narrowed := true }
def FnExactLeastMostApartUptoSaid : Prop := fnExactLeastMostApartUptoRow.holds Try.pinned (OpenSpec.upto fnExactLeastMostApartSpec)

/-- 'laws.FnExactLeastSumApart', WHERE WHAT IT READS IS OF BULK AT MOST 1048576: true; the input reads as it did. -/
def fnExactLeastSumApartUptoRow : OpenClaim := { program := "ytagfnpocloaojaa", sum := "d9a430c91b1f791079b72a7516aee7f445d7612fdabf2d6c3a3f6db7846e4193", func := "loop.example/g01372/laws.FnExactLeastSumApart", spec := "fnExactLeastSumApart", unfollowed := true, recurses := true, apart := false, narrowed := true }
def FnExactLeastSumApartUptoSaid : Prop := fnExactLeastSumApartUptoRow.holds Try.pinned (OpenSpec.upto fnExactLeastSumApartSpec)

/-- 'laws.FnExactCountPairings', WHERE WHAT IT READS IS OF BULK AT MOST 1048576: true; the input reads as it did. -/
def fnExactCountPairingsUptoRow : OpenClaim := { program := "ytagfnpocloaojaa", sum := "d9a430c91b1f791079b72a7516aee7f445d7612fdabf2d6c3a3f6db7846e4193", func := "loop.example/g01372/laws.FnExactCountPairings", spec := "fnExactCountPairings", unfollowed := true, recurses := true, apart := false, narrowed := true }
def FnExactCountPairingsUptoSaid : Prop := fnExactCountPairingsUptoRow.holds Try.pinned (OpenSpec.upto fnExactCountPairingsSpec)

/-- 'laws.FnExactFirstPairing', WHERE WHAT IT READS IS OF BULK AT MOST 1048576: true; the input reads as it did. -/
def fnExactFirstPairingUptoRow : OpenClaim := { program := "ytagfnpocloaojaa", sum := "d9a430c91b1f791079b72a7516aee7f445d7612fdabf2d6c3a3f6db7846e4193", func := "loop.example/g01372/laws.FnExactFirstPairing", spec := "fnExactFirstPairing", unfollowed := true, recurses := true, apart := false, narrowed := true }
def FnExactFirstPairingUptoSaid : Prop := fnExactFirstPairingUptoRow.holds Try.pinned (OpenSpec.upto fnExactFirstPairingSpec)

/-- 'laws.FnExactFirstFeet', WHERE WHAT IT READS IS OF BULK AT MOST 1048576: true; the input reads as it did. -/
def fnExactFirstFeetUptoRow : OpenClaim := { program := "ytagfnpocloaojaa", sum := "d9a430c91b1f791079b72a7516aee7f445d7612fdabf2d6c3a3f6db7846e4193", func := "loop.example/g01372/laws.FnExactFirstFeet", spec := "fnExactFirstFeet", unfollowed := true, recurses := true, apart := false, narrowed := true }
def FnExactFirstFeetUptoSaid : Prop := fnExactFirstFeetUptoRow.holds Try.pinned (OpenSpec.upto fnExactFirstFeetSpec)

/-- 'laws.FnExactSizesToBuy', WHERE WHAT IT READS IS OF BULK AT MOST 1048576: true; the input reads as it did. -/
def fnExactSizesToBuyUptoRow : OpenClaim := { program := "ytagfnpocloaojaa", sum := "d9a430c91b1f791079b72a7516aee7f445d7612fdabf2d6c3a3f6db7846e4193", func := "loop.example/g01372/laws.FnExactSizesToBuy", spec := "fnExactSizesToBuy", unfollowed := true, recurses := true, apart := false, narrowed := true }
def FnExactSizesToBuyUptoSaid : Prop := fnExactSizesToBuyUptoRow.holds Try.pinned (OpenSpec.upto fnExactSizesToBuySpec)

/-- 'laws.FnExactTogetherOnRack', WHERE WHAT IT READS IS OF BULK AT MOST 1048576: true; the input reads as it did. -/
def fnExactTogetherOnRackUptoRow : OpenClaim := { program := "ytagfnpocloaojaa", sum := "d9a430c91b1f791079b72a7516aee7f445d7612fdabf2d6c3a3f6db7846e4193", func := "loop.example/g01372/laws.FnExactTogetherOnRack", spec := "fnExactTogetherOnRack", recurses := true, apart := false, narrowed := true }
def FnExactTogetherOnRackUptoSaid : Prop := fnExactTogetherOnRackUptoRow.holds Try.pinned (OpenSpec.upto fnExactTogetherOnRackSpec)

end Rows
end Go.Proofs.Ytagfnpocloaojaa
