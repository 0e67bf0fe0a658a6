/-
  No cell of these rows narrows 'for every input' (looked for: loops, veiled, ifaces, maps, wideKeys, modest, calm, conditions, laid).
  DERIVED. THE GIVEN ROWS OF THIS SEAT. 9 by the template 'for every input the law returns true; each argument reads behind the call as it read before'; 0 by the template 'total and deterministic' (their statements: YtlhennggbnlkpaaTotals.lean).
  GIVEN WITH THE SEED: the statements are not yours to turn. If you find one false, say at which input.
  Laid BY PROGRAM, IN A SANDBOX (cutbox-rows.mjs): the forced cells as the released guide's own fill.sh prints them over the translation d715bb0e5807d013… (all of the seat's roots in one cut). By AI agents, Wed Nov 11 2026. No macro, syntax, notation, axiom, sorry.
-/
import Derived.Test.YtlhennggbnlkpaaChecked
import GoSem.Claim
import GoSem.ClaimJoined
import GoSem.ClaimMapViews
import Derived.JoinedTies
import Derived.KernelRfl
namespace Go.Proofs.Ytlhennggbnlkpaa
/- THE CELL 'sum', in the pinned program and in every row, IS THE sha256 OF THE DUMP (.gsa) THAT YtlhennggbnlkpaaProg.lean LOADS. Nothing in Lean hashes anything: it is a label: what it is worth is what the hold of that sum in a sandbox is worth. -/
noncomputable def Try.pinned : Pinned := { name := "ytlhennggbnlkpaa", sum := "d715bb0e5807d0131d9c3ad109441e9e3d1f998270d9bc45d0c03f4bb0ca903e", checked := Try.checked }
namespace Rows
def none {H : Type} : Left H := { results := [], args := [] }

/-- 'laws.FnExactShapeOfPile': WHATEVER THE INPUT: true; the input reads as it did. -/
def fnExactShapeOfPileSpec : ChangeSpec := { name := "fnExactShapeOfPile", fn := fun _ => fun
  | [d] => { results := [.lit (.bool true)], args := [d] }
  | _ => none }
def fnExactShapeOfPileRow : OpenClaim := { program := "ytlhennggbnlkpaa", sum := "d715bb0e5807d0131d9c3ad109441e9e3d1f998270d9bc45d0c03f4bb0ca903e", func := "loop.example/g01372/laws.FnExactShapeOfPile", spec := "fnExactShapeOfPile", apart := false }
def FnExactShapeOfPileSaid : Prop := fnExactShapeOfPileRow.holds Try.pinned (OpenSpec.ofChange fnExactShapeOfPileSpec)

/-- ITS FALSE NEIGHBOUR: 'it returns false'. Refute it at one input. -/
def fnExactShapeOfPileWrong : ChangeSpec := { name := "fnExactShapeOfPile", fn := fun _ => fun
  | [d] => { results := [.lit (.bool false)], args := [d] }
  | _ => none }
def FnExactShapeOfPileWrongFalsely : Prop := fnExactShapeOfPileRow.holds Try.pinned (OpenSpec.ofChange fnExactShapeOfPileWrong)

/-- 'laws.FnExactTurnPile': WHATEVER THE INPUT: true; the input reads as it did. -/
def fnExactTurnPileSpec : ChangeSpec := { name := "fnExactTurnPile", fn := fun _ => fun
  | [d] => { results := [.lit (.bool true)], args := [d] }
  | _ => none }
def fnExactTurnPileRow : OpenClaim := { program := "ytlhennggbnlkpaa", sum := "d715bb0e5807d0131d9c3ad109441e9e3d1f998270d9bc45d0c03f4bb0ca903e", func := "loop.example/g01372/laws.FnExactTurnPile", spec := "fnExactTurnPile", apart := false }
def FnExactTurnPileSaid : Prop := fnExactTurnPileRow.holds Try.pinned (OpenSpec.ofChange fnExactTurnPileSpec)

/-- ITS FALSE NEIGHBOUR: 'it returns false'. Refute it at one input. -/
def fnExactTurnPileWrong : ChangeSpec := { name := "fnExactTurnPile", fn := fun _ => fun
  | [d] => { results := [.lit (.bool false)], args := [d] }
  | _ => none }
def FnExactTurnPileWrongFalsely : Prop := fnExactTurnPileRow.holds Try.pinned (OpenSpec.ofChange fnExactTurnPileWrong)

/-- 'laws.FnExactNamedPile': WHATEVER THE INPUT: true; the input reads as it did. -/
def fnExactNamedPileSpec : ChangeSpec := { name := "fnExactNamedPile", fn := fun _ => fun
  | [d] => { results := [.lit (.bool true)], args := [d] }
  | _ => none }
def fnExactNamedPileRow : OpenClaim := { program := "ytlhennggbnlkpaa", sum := "d715bb0e5807d0131d9c3ad109441e9e3d1f998270d9bc45d0c03f4bb0ca903e", func := "loop.example/g01372/laws.FnExactNamedPile", spec := "fnExactNamedPile", apart := false }
def FnExactNamedPileSaid : Prop := fnExactNamedPileRow.holds Try.pinned (OpenSpec.ofChange fnExactNamedPileSpec)

/-- ITS FALSE NEIGHBOUR: 'it returns false'. Refute it at one input. -/
def fnExactNamedPileWrong : ChangeSpec := { name := "fnExactNamedPile", fn := fun _ => fun
  | [d] => { results := [.lit (.bool false)], args := [d] }
  | _ => none }
def FnExactNamedPileWrongFalsely : Prop := fnExactNamedPileRow.holds Try.pinned (OpenSpec.ofChange fnExactNamedPileWrong)

/-- 'laws.FnExactMatchedBehind': WHATEVER THE INPUT: true; the input reads as it did. -/
def fnExactMatchedBehindSpec : ChangeSpec := { name := "fnExactMatchedBehind", fn := fun _ => fun
  | [d1, d2] => { results := [.lit (.bool true)], args := [d1, d2] }
  | _ => none }
def fnExactMatchedBehindRow : OpenClaim := { program := "ytlhennggbnlkpaa", sum := "d715bb0e5807d0131d9c3ad109441e9e3d1f998270d9bc45d0c03f4bb0ca903e", func := "loop.example/g01372/laws.FnExactMatchedBehind", spec := "fnExactMatchedBehind", apart := false }
def FnExactMatchedBehindSaid : Prop := fnExactMatchedBehindRow.holds Try.pinned (OpenSpec.ofChange fnExactMatchedBehindSpec)

/-- ITS FALSE NEIGHBOUR: 'it returns false'. Refute it at one input. -/
def fnExactMatchedBehindWrong : ChangeSpec := { name := "fnExactMatchedBehind", fn := fun _ => fun
  | [d1, d2] => { results := [.lit (.bool false)], args := [d1, d2] }
  | _ => none }
def FnExactMatchedBehindWrongFalsely : Prop := fnExactMatchedBehindRow.holds Try.pinned (OpenSpec.ofChange fnExactMatchedBehindWrong)

/-- 'laws.FnExactWaitsOfPile': WHATEVER THE INPUT: true; the input reads as it did. -/
def fnExactWaitsOfPileSpec : ChangeSpec := { name := "fnExactWaitsOfPile", fn := fun _ => fun
  | [d] => { results := [.lit (.bool true)], args := [d] }
  | _ => none }
def fnExactWaitsOfPileRow : OpenClaim := { program := "ytlhennggbnlkpaa", sum := "d715bb0e5807d0131d9c3ad109441e9e3d1f998270d9bc45d0c03f4bb0ca903e", func := "loop.example/g01372/laws.FnExactWaitsOfPile", spec := "fnExactWaitsOfPile", apart := false }
def FnExactWaitsOfPileSaid : Prop := fnExactWaitsOfPileRow.holds Try.pinned (OpenSpec.ofChange fnExactWaitsOfPileSpec)

/-- ITS FALSE NEIGHBOUR: 'it returns false'. Refute it at one input. -/
def fnExactWaitsOfPileWrong : ChangeSpec := { name := "fnExactWaitsOfPile", fn := fun _ => fun
  | [d] => { results := [.lit (.bool false)], args := [d] }
  | _ => none }
def FnExactWaitsOfPileWrongFalsely : Prop := fnExactWaitsOfPileRow.holds Try.pinned (OpenSpec.ofChange fnExactWaitsOfPileWrong)

/-- 'laws.FnExactLooseAfter': WHATEVER THE INPUT: true; the input reads as it did. -/
def fnExactLooseAfterSpec : ChangeSpec := { name := "fnExactLooseAfter", fn := fun _ => fun
  | [d] => { results := [.lit (.bool true)], args := [d] }
  | _ => none }
def fnExactLooseAfterRow : OpenClaim := { program := "ytlhennggbnlkpaa", sum := "d715bb0e5807d0131d9c3ad109441e9e3d1f998270d9bc45d0c03f4bb0ca903e", func := "loop.example/g01372/laws.FnExactLooseAfter", spec := "fnExactLooseAfter", apart := false }
def FnExactLooseAfterSaid : Prop := fnExactLooseAfterRow.holds Try.pinned (OpenSpec.ofChange fnExactLooseAfterSpec)

/-- ITS FALSE NEIGHBOUR: 'it returns false'. Refute it at one input. -/
def fnExactLooseAfterWrong : ChangeSpec := { name := "fnExactLooseAfter", fn := fun _ => fun
  | [d] => { results := [.lit (.bool false)], args := [d] }
  | _ => none }
def FnExactLooseAfterWrongFalsely : Prop := fnExactLooseAfterRow.holds Try.pinned (OpenSpec.ofChange fnExactLooseAfterWrong)

/-- 'laws.FnExactSumOfLoose': WHATEVER THE INPUT: true; the input reads as it did. -/
def fnExactSumOfLooseSpec : ChangeSpec := { name := "fnExactSumOfLoose", fn := fun _ => fun
  | [d] => { results := [.lit (.bool true)], args := [d] }
  | _ => none }
def fnExactSumOfLooseRow : OpenClaim := { program := "ytlhennggbnlkpaa", sum := "d715bb0e5807d0131d9c3ad109441e9e3d1f998270d9bc45d0c03f4bb0ca903e", func := "loop.example/g01372/laws.FnExactSumOfLoose", spec := "fnExactSumOfLoose", apart := false }
def FnExactSumOfLooseSaid : Prop := fnExactSumOfLooseRow.holds Try.pinned (OpenSpec.ofChange fnExactSumOfLooseSpec)

/-- ITS FALSE NEIGHBOUR: 'it returns false'. Refute it at one input. -/
def fnExactSumOfLooseWrong : ChangeSpec := { name := "fnExactSumOfLoose", fn := fun _ => fun
  | [d] => { results := [.lit (.bool false)], args := [d] }
  | _ => none }
def FnExactSumOfLooseWrongFalsely : Prop := fnExactSumOfLooseRow.holds Try.pinned (OpenSpec.ofChange fnExactSumOfLooseWrong)

/-- 'laws.FnExactMostLoose': WHATEVER THE INPUT: true; the input reads as it did. -/
def fnExactMostLooseSpec : ChangeSpec := { name := "fnExactMostLoose", fn := fun _ => fun
  | [d] => { results := [.lit (.bool true)], args := [d] }
  | _ => none }
def fnExactMostLooseRow : OpenClaim := { program := "ytlhennggbnlkpaa", sum := "d715bb0e5807d0131d9c3ad109441e9e3d1f998270d9bc45d0c03f4bb0ca903e", func := "loop.example/g01372/laws.FnExactMostLoose", spec := "fnExactMostLoose", apart := false }
def FnExactMostLooseSaid : Prop := fnExactMostLooseRow.holds Try.pinned (OpenSpec.ofChange fnExactMostLooseSpec)

/-- ITS FALSE NEIGHBOUR: 'it returns false'. Refute it at one input. -/
def fnExactMostLooseWrong : ChangeSpec := { name := "fnExactMostLoose", fn := fun _ => fun
  | [d] => { results := [.lit (.bool false)], args := [d] }
  | _ => none }
def FnExactMostLooseWrongFalsely : Prop := fnExactMostLooseRow.holds Try.pinned (OpenSpec.ofChange fnExactMostLooseWrong)

/-- 'laws.FnExactFirstMatch': WHATEVER THE INPUT: true; the input reads as it did. -/
def fnExactFirstMatchSpec : ChangeSpec := { name := "fnExactFirstMatch", fn := fun _ => fun
  | [d] => { results := [.lit (.bool true)], args := [d] }
  | _ => none }
def fnExactFirstMatchRow : OpenClaim := { program := "ytlhennggbnlkpaa", sum := "d715bb0e5807d0131d9c3ad109441e9e3d1f998270d9bc45d0c03f4bb0ca903e", func := "loop.example/g01372/laws.FnExactFirstMatch", spec := "fnExactFirstMatch", inPlace := ["internal/bytealg.IndexByteString", "internal/bytealg.IndexString"], named := ["internal/bytealg.MaxLen"], apart := false }
def FnExactFirstMatchSaid : Prop := fnExactFirstMatchRow.holds Try.pinned (OpenSpec.ofChange fnExactFirstMatchSpec)

/-- ITS FALSE NEIGHBOUR: 'it returns false'. Refute it at one input. -/
def fnExactFirstMatchWrong : ChangeSpec := { name := "fnExactFirstMatch", fn := fun _ => fun
  | [d] => { results := [.lit (.bool false)], args := [d] }
  | _ => none }
def FnExactFirstMatchWrongFalsely : Prop := fnExactFirstMatchRow.holds Try.pinned (OpenSpec.ofChange fnExactFirstMatchWrong)

/- THE SECOND FORM. 'bulk': how many values and letters a reading holds, each counted each time it is reached (what is shared counts as often as it is met; a slice's spare places count too). A statement '..UptoSaid' is the law's where the arguments, and the package variables that the reading takes, are together of bulk at most 1048576: NARROWER than '..Said'. Prove '..Said' where nothing that the law and all that it calls make is longer than what came in: it says more and counts as full. Else prove '..UptoSaid'. A law counts once. -/
mutual
def uptoBulk {H : Type} : DataW H → Nat
  | .lit (.string bytes) => bytes.length + 1
  | .lit _ => 1
  | .nil => 1
  | .ptr d => uptoBulk d + 1
  | .slice elems spare => uptoBulkAll elems + uptoBulkAll spare + 1
  | .agg parts => uptoBulkAll parts + 1
  | .iface _ d => uptoBulk d + 1
  | .map entries => uptoBulkEntries entries + 1
  | .held _ => 1
def uptoBulkAll {H : Type} : List (DataW H) → Nat
  | [] => 0
  | d :: r => uptoBulk d + uptoBulkAll r
def uptoBulkEntries {H : Type} : List (Lit × DataW H) → Nat
  | [] => 0
  | x :: r => uptoBulkEntry x + uptoBulkEntries r
def uptoBulkEntry {H : Type} : Lit × DataW H → Nat
  | (.string bytes, d) => bytes.length + uptoBulk d + 1
  | (_, d) => uptoBulk d + 1
 end
def uptoSmall : (H : Type) → List (DataW H) → Bool := fun _ ds => decide (uptoBulkAll ds ≤ 1048576)
def OpenSpec.upto (s : _root_.Go.ChangeSpec) : _root_.Go.OpenSpec := { _root_.Go.OpenSpec.ofChange s with cond := some uptoSmall }

/-- 'laws.FnExactShapeOfPile', WHERE WHAT IT READS IS OF BULK AT MOST 1048576: true; the input reads as it did. -/
def fnExactShapeOfPileUptoRow : OpenClaim := { program := "ytlhennggbnlkpaa", sum := "d715bb0e5807d0131d9c3ad109441e9e3d1f998270d9bc45d0c03f4bb0ca903e", func := "loop.example/g01372/laws.FnExactShapeOfPile", spec := "fnExactShapeOfPile", apart := false, narrowed := true }
def FnExactShapeOfPileUptoSaid : Prop := fnExactShapeOfPileUptoRow.holds Try.pinned (OpenSpec.upto fnExactShapeOfPileSpec)

/-- 'laws.FnExactTurnPile', WHERE WHAT IT READS IS OF BULK AT MOST 1048576: true; the input reads as it did. -/
def fnExactTurnPileUptoRow : OpenClaim := { program := "ytlhennggbnlkpaa", sum := "d715bb0e5807d0131d9c3ad109441e9e3d1f998270d9bc45d0c03f4bb0ca903e", func := "loop.example/g01372/laws.FnExactTurnPile", spec := "fnExactTurnPile", apart := false, narrowed := true }
def FnExactTurnPileUptoSaid : Prop := fnExactTurnPileUptoRow.holds Try.pinned (OpenSpec.upto fnExactTurnPileSpec)

/-- 'laws.FnExactNamedPile', WHERE WHAT IT READS IS OF BULK AT MOST 1048576: true; the input reads as it did. -/
def fnExactNamedPileUptoRow : OpenClaim := { program := "ytlhennggbnlkpaa", sum := "d715bb0e5807d0131d9c3ad109441e9e3d1f998270d9bc45d0c03f4bb0ca903e", func := "loop.example/g01372/laws.FnExactNamedPile", spec := "fnExactNamedPile", apart := false, narrowed := true }
def FnExactNamedPileUptoSaid : Prop := fnExactNamedPileUptoRow.holds Try.pinned (OpenSpec.upto fnExactNamedPileSpec)

/-- 'laws.FnExactMatchedBehind', WHERE WHAT IT READS IS OF BULK AT MOST 1048576: true; the input reads as it did. -/
def fnExactMatchedBehindUptoRow : OpenClaim := { program := "ytlhennggbnlkpaa", sum := "d715bb0e5807d0131d9c3ad109441e9e3d1f998270d9bc45d0c03f4bb0ca903e", func := "loop.example/g01372/laws.FnExactMatchedBehind", spec := "fnExactMatchedBehind", apart := false, narrowed := true }
def FnExactMatchedBehindUptoSaid : Prop := fnExactMatchedBehindUptoRow.holds Try.pinned (OpenSpec.upto fnExactMatchedBehindSpec)

/-- 'laws.FnExactWaitsOfPile', WHERE WHAT IT READS IS OF BULK AT MOST 1048576: true; the input reads as it did. -/
def fnExactWaitsOfPileUptoRow : OpenClaim := { program := "ytlhennggbnlkpaa", sum := "d715bb0e5807d0131d9c3ad109441e9e3d1f998270d9bc45d0c03f4bb0ca903e", func := "loop.example/g01372/laws.FnExactWaitsOfPile", spec := "fnExactWaitsOfPile", apart := false, narrowed := true }
def FnExactWaitsOfPileUptoSaid : Prop := fnExactWaitsOfPileUptoRow.holds Try.pinned (OpenSpec.upto fnExactWaitsOfPileSpec)

/-- 'laws.FnExactLooseAfter', WHERE WHAT IT READS IS OF BULK AT MOST 1048576: true; the input reads as it did. -/
def fnExactLooseAfterUptoRow : OpenClaim := { program := "ytlhennggbnlkpaa", sum := "d715bb0e5807d0131d9c3ad109441e9e3d1f998270d9bc45d0c03f4bb0ca903e", func := "loop.example/g01372/laws.FnExactLooseAfter", spec := "fnExactLooseAfter", apart := false, narrowed := true }
def FnExactLooseAfterUptoSaid : Prop := fnExactLooseAfterUptoRow.holds Try.pinned (OpenSpec.upto fnExactLooseAfterSpec)

/-- 'laws.FnExactSumOfLoose', WHERE WHAT IT READS IS OF BULK AT MOST 1048576: true; the input reads as it did. -/
def fnExactSumOfLooseUptoRow : OpenClaim := { program := "ytlhennggbnlkpaa", sum := "d715bb0e5807d0131d9c3ad109441e9e3d1f998270d9bc45d0c03f4bb0ca903e", func := "loop.example/g01372/laws.FnExactSumOfLoose", spec := "fnExactSumOfLoose", apart := false, narrowed := true }
def FnExactSumOfLooseUptoSaid : Prop := fnExactSumOfLooseUptoRow.holds Try.pinned (OpenSpec.upto fnExactSumOfLooseSpec)

/-- 'laws.FnExactMostLoose', WHERE WHAT IT READS IS OF BULK AT MOST 1048576: true; the input reads as it did. -/
def fnExactMostLooseUptoRow : OpenClaim := { program := "ytlhennggbnlkpaa", sum := "d715bb0e5807d0131d9c3ad109441e9e3d1f998270d9bc45d0c03f4bb0ca903e", func := "loop.example/g01372/laws.FnExactMostLoose", spec := "fnExactMostLoose", apart := false, narrowed := true }
def FnExactMostLooseUptoSaid : Prop := fnExactMostLooseUptoRow.holds Try.pinned (OpenSpec.upto fnExactMostLooseSpec)

/-- 'laws.FnExactFirstMatch', WHERE WHAT IT READS IS OF BULK AT MOST 1048576: true; the input reads as it did. -/
def fnExactFirstMatchUptoRow : OpenClaim := { program := "ytlhennggbnlkpaa", sum := "d715bb0e5807d0131d9c3ad109441e9e3d1f998270d9bc45d0c03f4bb0ca903e", func := "loop.example/g01372/laws.FnExactFirstMatch", spec := "fnExactFirstMatch", inPlace := ["internal/bytealg.IndexByteString", "internal/bytealg.IndexString"], named := ["internal/bytealg.MaxLen"], apart := false, narrowed := true }
def FnExactFirstMatchUptoSaid : Prop := fnExactFirstMatchUptoRow.holds Try.pinned (OpenSpec.upto fnExactFirstMatchSpec)

end Rows
end Go.Proofs.Ytlhennggbnlkpaa
