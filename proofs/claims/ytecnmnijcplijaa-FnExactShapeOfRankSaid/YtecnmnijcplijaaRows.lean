/-
  No cell of these rows narrows 'for every input' (looked for: loops, veiled, ifaces, maps, wideKeys, modest, calm, conditions, laid).
  DERIVED. THE GIVEN ROWS OF THIS SEAT. 10 by the template 'for every input the law returns true; each argument reads behind the call as it read before'; 0 by the template 'total and deterministic' (their statements: YtecnmnijcplijaaTotals.lean).
  GIVEN WITH THE SEED: the statements are not yours to turn. If you find one false, say at which input.
  Laid BY PROGRAM, IN A SANDBOX (cutbox-rows.mjs): the forced cells as the released guide's own fill.sh prints them over the translation 7390f1c9af60cd50… (all of the seat's roots in one cut). By AI agents, Wed Nov 11 2026. No macro, syntax, notation, axiom, sorry.
-/
import Derived.Test.YtecnmnijcplijaaChecked
import GoSem.Claim
import GoSem.ClaimJoined
import GoSem.ClaimMapViews
import Derived.JoinedTies
import Derived.KernelRfl
namespace Go.Proofs.Ytecnmnijcplijaa
/- THE CELL 'sum', in the pinned program and in every row, IS THE sha256 OF THE DUMP (.gsa) THAT YtecnmnijcplijaaProg.lean LOADS. Nothing in Lean hashes anything: it is a label: what it is worth is what the hold of that sum in a sandbox is worth. -/
noncomputable def Try.pinned : Pinned := { name := "ytecnmnijcplijaa", sum := "7390f1c9af60cd501ae43a4b590c64c20a0c1d4e5d6fe8ba169752c49be1acb9", checked := Try.checked }
namespace Rows
def none {H : Type} : Left H := { results := [], args := [] }

/-- 'laws.FnExactIsWash': WHATEVER THE INPUT: true; the input reads as it did. -/
def fnExactIsWashSpec : ChangeSpec := { name := "fnExactIsWash", fn := fun _ => fun
  | [d] => { results := [.lit (.bool true)], args := [d] }
  | _ => none }
def fnExactIsWashRow : OpenClaim := { program := "ytecnmnijcplijaa", sum := "7390f1c9af60cd501ae43a4b590c64c20a0c1d4e5d6fe8ba169752c49be1acb9", func := "loop.example/g01372/laws.FnExactIsWash", spec := "fnExactIsWash", apart := false }
def FnExactIsWashSaid : Prop := fnExactIsWashRow.holds Try.pinned (OpenSpec.ofChange fnExactIsWashSpec)

/-- ITS FALSE NEIGHBOUR: 'it returns false'. Refute it at one input. -/
def fnExactIsWashWrong : ChangeSpec := { name := "fnExactIsWash", fn := fun _ => fun
  | [d] => { results := [.lit (.bool false)], args := [d] }
  | _ => none }
def FnExactIsWashWrongFalsely : Prop := fnExactIsWashRow.holds Try.pinned (OpenSpec.ofChange fnExactIsWashWrong)

/-- 'laws.FnExactLeastPairs': WHATEVER THE INPUT: true; the input reads as it did. -/
def fnExactLeastPairsSpec : ChangeSpec := { name := "fnExactLeastPairs", fn := fun _ => fun
  | [d1, d2] => { results := [.lit (.bool true)], args := [d1, d2] }
  | _ => none }
def fnExactLeastPairsRow : OpenClaim := { program := "ytecnmnijcplijaa", sum := "7390f1c9af60cd501ae43a4b590c64c20a0c1d4e5d6fe8ba169752c49be1acb9", func := "loop.example/g01372/laws.FnExactLeastPairs", spec := "fnExactLeastPairs", apart := false }
def FnExactLeastPairsSaid : Prop := fnExactLeastPairsRow.holds Try.pinned (OpenSpec.ofChange fnExactLeastPairsSpec)

/-- ITS FALSE NEIGHBOUR: 'it returns false'. Refute it at one input. -/
def fnExactLeastPairsWrong : ChangeSpec := { name := "fnExactLeastPairs", fn := fun _ => fun
  | [d1, d2] => { results := [.lit (.bool false)], args := [d1, d2] }
  | _ => none }
def FnExactLeastPairsWrongFalsely : Prop := fnExactLeastPairsRow.holds Try.pinned (OpenSpec.ofChange fnExactLeastPairsWrong)

/-- 'laws.FnExactGreatestDry': WHATEVER THE INPUT: true; the input reads as it did. -/
def fnExactGreatestDrySpec : ChangeSpec := { name := "fnExactGreatestDry", fn := fun _ => fun
  | [d1, d2] => { results := [.lit (.bool true)], args := [d1, d2] }
  | _ => none }
def fnExactGreatestDryRow : OpenClaim := { program := "ytecnmnijcplijaa", sum := "7390f1c9af60cd501ae43a4b590c64c20a0c1d4e5d6fe8ba169752c49be1acb9", func := "loop.example/g01372/laws.FnExactGreatestDry", spec := "fnExactGreatestDry", apart := false }
def FnExactGreatestDrySaid : Prop := fnExactGreatestDryRow.holds Try.pinned (OpenSpec.ofChange fnExactGreatestDrySpec)

/-- ITS FALSE NEIGHBOUR: 'it returns false'. Refute it at one input. -/
def fnExactGreatestDryWrong : ChangeSpec := { name := "fnExactGreatestDry", fn := fun _ => fun
  | [d1, d2] => { results := [.lit (.bool false)], args := [d1, d2] }
  | _ => none }
def FnExactGreatestDryWrongFalsely : Prop := fnExactGreatestDryRow.holds Try.pinned (OpenSpec.ofChange fnExactGreatestDryWrong)

/-- 'laws.FnExactGreatestEvery': WHATEVER THE INPUT: true; the input reads as it did. -/
def fnExactGreatestEverySpec : ChangeSpec := { name := "fnExactGreatestEvery", fn := fun _ => fun
  | [d1, d2] => { results := [.lit (.bool true)], args := [d1, d2] }
  | _ => none }
def fnExactGreatestEveryRow : OpenClaim := { program := "ytecnmnijcplijaa", sum := "7390f1c9af60cd501ae43a4b590c64c20a0c1d4e5d6fe8ba169752c49be1acb9", func := "loop.example/g01372/laws.FnExactGreatestEvery", spec := "fnExactGreatestEvery", apart := false }
def FnExactGreatestEverySaid : Prop := fnExactGreatestEveryRow.holds Try.pinned (OpenSpec.ofChange fnExactGreatestEverySpec)

/-- ITS FALSE NEIGHBOUR: 'it returns false'. Refute it at one input. -/
def fnExactGreatestEveryWrong : ChangeSpec := { name := "fnExactGreatestEvery", fn := fun _ => fun
  | [d1, d2] => { results := [.lit (.bool false)], args := [d1, d2] }
  | _ => none }
def FnExactGreatestEveryWrongFalsely : Prop := fnExactGreatestEveryRow.holds Try.pinned (OpenSpec.ofChange fnExactGreatestEveryWrong)

/-- 'laws.FnExactCountShapes': WHATEVER THE INPUT: true; the input reads as it did. -/
def fnExactCountShapesSpec : ChangeSpec := { name := "fnExactCountShapes", fn := fun _ => fun
  | [d] => { results := [.lit (.bool true)], args := [d] }
  | _ => none }
def fnExactCountShapesRow : OpenClaim := { program := "ytecnmnijcplijaa", sum := "7390f1c9af60cd501ae43a4b590c64c20a0c1d4e5d6fe8ba169752c49be1acb9", func := "loop.example/g01372/laws.FnExactCountShapes", spec := "fnExactCountShapes", recurses := true, apart := false }
def FnExactCountShapesSaid : Prop := fnExactCountShapesRow.holds Try.pinned (OpenSpec.ofChange fnExactCountShapesSpec)

/-- ITS FALSE NEIGHBOUR: 'it returns false'. Refute it at one input. -/
def fnExactCountShapesWrong : ChangeSpec := { name := "fnExactCountShapes", fn := fun _ => fun
  | [d] => { results := [.lit (.bool false)], args := [d] }
  | _ => none }
def FnExactCountShapesWrongFalsely : Prop := fnExactCountShapesRow.holds Try.pinned (OpenSpec.ofChange fnExactCountShapesWrong)

/-- 'laws.FnExactCountPilesWithin': WHATEVER THE INPUT: true; the input reads as it did. -/
def fnExactCountPilesWithinSpec : ChangeSpec := { name := "fnExactCountPilesWithin", fn := fun _ => fun
  | [d1, d2] => { results := [.lit (.bool true)], args := [d1, d2] }
  | _ => none }
def fnExactCountPilesWithinRow : OpenClaim := { program := "ytecnmnijcplijaa", sum := "7390f1c9af60cd501ae43a4b590c64c20a0c1d4e5d6fe8ba169752c49be1acb9", func := "loop.example/g01372/laws.FnExactCountPilesWithin", spec := "fnExactCountPilesWithin", recurses := true, apart := false }
def FnExactCountPilesWithinSaid : Prop := fnExactCountPilesWithinRow.holds Try.pinned (OpenSpec.ofChange fnExactCountPilesWithinSpec)

/-- ITS FALSE NEIGHBOUR: 'it returns false'. Refute it at one input. -/
def fnExactCountPilesWithinWrong : ChangeSpec := { name := "fnExactCountPilesWithin", fn := fun _ => fun
  | [d1, d2] => { results := [.lit (.bool false)], args := [d1, d2] }
  | _ => none }
def FnExactCountPilesWithinWrongFalsely : Prop := fnExactCountPilesWithinRow.holds Try.pinned (OpenSpec.ofChange fnExactCountPilesWithinWrong)

/-- 'laws.FnExactCountPiles': WHATEVER THE INPUT: true; the input reads as it did. -/
def fnExactCountPilesSpec : ChangeSpec := { name := "fnExactCountPiles", fn := fun _ => fun
  | [d] => { results := [.lit (.bool true)], args := [d] }
  | _ => none }
def fnExactCountPilesRow : OpenClaim := { program := "ytecnmnijcplijaa", sum := "7390f1c9af60cd501ae43a4b590c64c20a0c1d4e5d6fe8ba169752c49be1acb9", func := "loop.example/g01372/laws.FnExactCountPiles", spec := "fnExactCountPiles", recurses := true, apart := false }
def FnExactCountPilesSaid : Prop := fnExactCountPilesRow.holds Try.pinned (OpenSpec.ofChange fnExactCountPilesSpec)

/-- ITS FALSE NEIGHBOUR: 'it returns false'. Refute it at one input. -/
def fnExactCountPilesWrong : ChangeSpec := { name := "fnExactCountPiles", fn := fun _ => fun
  | [d] => { results := [.lit (.bool false)], args := [d] }
  | _ => none }
def FnExactCountPilesWrongFalsely : Prop := fnExactCountPilesRow.holds Try.pinned (OpenSpec.ofChange fnExactCountPilesWrong)

/-- 'laws.FnExactIsClue': WHATEVER THE INPUT: true; the input reads as it did. -/
def fnExactIsClueSpec : ChangeSpec := { name := "fnExactIsClue", fn := fun _ => fun
  | [d1, d2] => { results := [.lit (.bool true)], args := [d1, d2] }
  | _ => none }
def fnExactIsClueRow : OpenClaim := { program := "ytecnmnijcplijaa", sum := "7390f1c9af60cd501ae43a4b590c64c20a0c1d4e5d6fe8ba169752c49be1acb9", func := "loop.example/g01372/laws.FnExactIsClue", spec := "fnExactIsClue", apart := false }
def FnExactIsClueSaid : Prop := fnExactIsClueRow.holds Try.pinned (OpenSpec.ofChange fnExactIsClueSpec)

/-- ITS FALSE NEIGHBOUR: 'it returns false'. Refute it at one input. -/
def fnExactIsClueWrong : ChangeSpec := { name := "fnExactIsClue", fn := fun _ => fun
  | [d1, d2] => { results := [.lit (.bool false)], args := [d1, d2] }
  | _ => none }
def FnExactIsClueWrongFalsely : Prop := fnExactIsClueRow.holds Try.pinned (OpenSpec.ofChange fnExactIsClueWrong)

/-- 'laws.FnExactIsPile': WHATEVER THE INPUT: true; the input reads as it did. -/
def fnExactIsPileSpec : ChangeSpec := { name := "fnExactIsPile", fn := fun _ => fun
  | [d] => { results := [.lit (.bool true)], args := [d] }
  | _ => none }
def fnExactIsPileRow : OpenClaim := { program := "ytecnmnijcplijaa", sum := "7390f1c9af60cd501ae43a4b590c64c20a0c1d4e5d6fe8ba169752c49be1acb9", func := "loop.example/g01372/laws.FnExactIsPile", spec := "fnExactIsPile", apart := false }
def FnExactIsPileSaid : Prop := fnExactIsPileRow.holds Try.pinned (OpenSpec.ofChange fnExactIsPileSpec)

/-- ITS FALSE NEIGHBOUR: 'it returns false'. Refute it at one input. -/
def fnExactIsPileWrong : ChangeSpec := { name := "fnExactIsPile", fn := fun _ => fun
  | [d] => { results := [.lit (.bool false)], args := [d] }
  | _ => none }
def FnExactIsPileWrongFalsely : Prop := fnExactIsPileRow.holds Try.pinned (OpenSpec.ofChange fnExactIsPileWrong)

/-- 'laws.FnExactShapeOfRank': WHATEVER THE INPUT: true; the input reads as it did. -/
def fnExactShapeOfRankSpec : ChangeSpec := { name := "fnExactShapeOfRank", fn := fun _ => fun
  | [d1, d2] => { results := [.lit (.bool true)], args := [d1, d2] }
  | _ => none }
def fnExactShapeOfRankRow : OpenClaim := { program := "ytecnmnijcplijaa", sum := "7390f1c9af60cd501ae43a4b590c64c20a0c1d4e5d6fe8ba169752c49be1acb9", func := "loop.example/g01372/laws.FnExactShapeOfRank", spec := "fnExactShapeOfRank", recurses := true, apart := false }
def FnExactShapeOfRankSaid : Prop := fnExactShapeOfRankRow.holds Try.pinned (OpenSpec.ofChange fnExactShapeOfRankSpec)

/-- ITS FALSE NEIGHBOUR: 'it returns false'. Refute it at one input. -/
def fnExactShapeOfRankWrong : ChangeSpec := { name := "fnExactShapeOfRank", fn := fun _ => fun
  | [d1, d2] => { results := [.lit (.bool false)], args := [d1, d2] }
  | _ => none }
def FnExactShapeOfRankWrongFalsely : Prop := fnExactShapeOfRankRow.holds Try.pinned (OpenSpec.ofChange fnExactShapeOfRankWrong)

/- THE SECOND FORM. 'bulk': how many values and letters a reading holds, each counted each time it is reached (what is shared counts as often as it is met; a slice's spare places count too). A statement '..UptoSaid' is the law's where the arguments, and the package variables that the reading takes, are together of bulk at most 1048576: NARROWER than '..Said'. Prove '..Said' where nothing that the law and all that it calls make is longer than what came in: it says more and counts as full. Else prove '..UptoSaid'. A law counts once. -/
mutual
def uptoBulk {H : Type} : DataW H → Nat
  | .lit (.string bytes) => bytes.length + 1
  | .lit _ => 1
  | .nil => 1
  | .ptr d => uptoBulk d + 1
  | .slice elems spare => uptoBulkAll elems + uptoBulkAll spare + 1
  | .agg parts => uptoBulkAll parts + 1
  | .iface _ d => uptoBulk d + 1
  | .map entries => uptoBulkEntries entries + 1
  | .held _ => 1
def uptoBulkAll {H : Type} : List (DataW H) → Nat
  | [] => 0
  | d :: r => uptoBulk d + uptoBulkAll r
def uptoBulkEntries {H : Type} : List (Lit × DataW H) → Nat
  | [] => 0
  | x :: r => uptoBulkEntry x + uptoBulkEntries r
def uptoBulkEntry {H : Type} : Lit × DataW H → Nat
  | (.string bytes, d) => bytes.length + uptoBulk d + 1
  | (_, d) => uptoBulk d + 1
 end
def uptoSmall : (H : Type) → List (DataW H) → Bool := fun _ ds => decide (uptoBulkAll ds ≤ 1048576)
def OpenSpec.upto (s : _root_.Go.ChangeSpec) : _root_.Go.OpenSpec := { _root_.Go.OpenSpec.ofChange s with cond := some uptoSmall }

/-- 'laws.FnExactIsWash', WHERE WHAT IT READS IS OF BULK AT MOST 1048576: true; the input reads as it did. -/
def fnExactIsWashUptoRow : OpenClaim := { program := "ytecnmnijcplijaa", sum := "7390f1c9af60cd501ae43a4b590c64c20a0c1d4e5d6fe8ba169752c49be1acb9", func := "loop.example/g01372/laws.FnExactIsWash", spec := "fnExactIsWash", apart := false, narrowed := true }
def FnExactIsWashUptoSaid : Prop := fnExactIsWashUptoRow.holds Try.pinned (OpenSpec.upto fnExactIsWashSpec)

/-- 'laws.FnExactLeastPairs', WHERE WHAT IT READS IS OF BULK AT MOST 1048576: true; the input reads as it did. -/
def fnExactLeastPairsUptoRow : OpenClaim := { program := "ytecnmnijcplijaa", sum := "7390f1c9af60cd501ae43a4b590c64c20a0c1d4e5d6fe8ba169752c49be1acb9", func := "loop.example/g01372/laws.FnExactLeastPairs", spec := "fnExactLeastPairs", apart := false, narrowed := true }
def FnExactLeastPairsUptoSaid : Prop := fnExactLeastPairsUptoRow.holds Try.pinned (OpenSpec.upto fnExactLeastPairsSpec)

/-- 'laws.FnExactGreatestDry', WHERE WHAT IT READS IS OF BULK AT MOST 1048576: true; the input reads as it did. -/
def fnExactGreatestDryUptoRow : OpenClaim := { program := "ytecnmnijcplijaa", sum := "7390f1c9af60cd501ae43a4b590c64c20a0c1d4e5d6fe8ba169752c49be1acb9", func := "loop.example/g01372/laws.FnExactGreatestDry", spec := "fnExactGreatestDry", apart := false, narrowed := true }
def FnExactGreatestDryUptoSaid : Prop := fnExactGreatestDryUptoRow.holds Try.pinned (OpenSpec.upto fnExactGreatestDrySpec)

/-- 'laws.FnExactGreatestEvery', WHERE WHAT IT READS IS OF BULK AT MOST 1048576: true; the input reads as it did. -/
def fnExactGreatestEveryUptoRow : OpenClaim := { program := "ytecnmnijcplijaa", sum := "7390f1c9af60cd501ae43a4b590c64c20a0c1d4e5d6fe8ba169752c49be1acb9", func := "loop.example/g01372/laws.FnExactGreatestEvery", spec := "fnExactGreatestEvery", apart := false, narrowed := true }
def FnExactGreatestEveryUptoSaid : Prop := fnExactGreatestEveryUptoRow.holds Try.pinned (OpenSpec.upto fnExactGreatestEverySpec)

/-- 'laws.FnExactCountShapes', WHERE WHAT IT READS IS OF BULK AT MOST 1048576: true; the input reads as it did. -/
def fnExactCountShapesUptoRow : OpenClaim := { program := "ytecnmnijcplijaa", sum := "7390f1c9af60cd501ae43a4b590c64c20a0c1d4e5d6fe8ba169752c49be1acb9", func := "loop.example/g01372/laws.FnExactCountShapes", spec := "fnExactCountShapes", recurses := true, apart := false, narrowed := true }
def FnExactCountShapesUptoSaid : Prop := fnExactCountShapesUptoRow.holds Try.pinned (OpenSpec.upto fnExactCountShapesSpec)

/-- 'laws.FnExactCountPilesWithin', WHERE WHAT IT READS IS OF BULK AT MOST 1048576: true; the input reads as it did. -/
def fnExactCountPilesWithinUptoRow : OpenClaim := { program := "ytecnmnijcplijaa", sum := "7390f1c9af60cd501ae43a4b590c64c20a0c1d4e5d6fe8ba169752c49be1acb9", func := "loop.example/g01372/laws.FnExactCountPilesWithin", spec := "fnExactCountPilesWithin", recurses := true, apart := false, narrowed := true }
def FnExactCountPilesWithinUptoSaid : Prop := fnExactCountPilesWithinUptoRow.holds Try.pinned (OpenSpec.upto fnExactCountPilesWithinSpec)

/-- 'laws.FnExactCountPiles', WHERE WHAT IT READS IS OF BULK AT MOST 1048576: true; the input reads as it did. -/
def fnExactCountPilesUptoRow : OpenClaim := { program := "ytecnmnijcplijaa", sum := "7390f1c9af60cd501ae43a4b590c64c20a0c1d4e5d6fe8ba169752c49be1acb9", func := "loop.example/g01372/laws.FnExactCountPiles", spec := "fnExactCountPiles", recurses := true, apart := false, narrowed := true }
def FnExactCountPilesUptoSaid : Prop := fnExactCountPilesUptoRow.holds Try.pinned (OpenSpec.upto fnExactCountPilesSpec)

/-- 'laws.FnExactIsClue', WHERE WHAT IT READS IS OF BULK AT MOST 1048576: true; the input reads as it did. -/
def fnExactIsClueUptoRow : OpenClaim := { program := "ytecnmnijcplijaa", sum := "7390f1c9af60cd501ae43a4b590c64c20a0c1d4e5d6fe8ba169752c49be1acb9", func := "loop.example/g01372/laws.FnExactIsClue", spec := "fnExactIsClue", apart := false, narrowed := true }
def FnExactIsClueUptoSaid : Prop := fnExactIsClueUptoRow.holds Try.pinned (OpenSpec.upto fnExactIsClueSpec)

/-- 'laws.FnExactIsPile', WHERE WHAT IT READS IS OF BULK AT MOST 1048576: true; the input reads as it did. -/
def fnExactIsPileUptoRow : OpenClaim := { program := "ytecnmnijcplijaa", sum := "7390f1c9af60cd501ae43a4b590c64c20a0c1d4e5d6fe8ba169752c49be1acb9", func := "loop.example/g01372/laws.FnExactIsPile", spec := "fnExactIsPile", apart := false, narrowed := true }
def FnExactIsPileUptoSaid : Prop := fnExactIsPileUptoRow.holds Try.pinned (OpenSpec.upto fnExactIsPileSpec)

/-- 'laws.FnExactShapeOfRank', WHERE WHAT IT READS IS OF BULK AT MOST 1048576: true; the input reads as it did. -/
def fnExactShapeOfRankUptoRow : OpenClaim := { program := "ytecnmnijcplijaa", sum := "7390f1c9af60cd501ae43a4b590c64c20a0c1d4e5d6fe8ba169752c49be1acb9", func := "loop.example/g01372/laws.FnExactShapeOfRank", spec := "fnExactShapeOfRank", recurses := true, apart := false, narrowed := true }
def FnExactShapeOfRankUptoSaid : Prop := fnExactShapeOfRankUptoRow.holds Try.pinned (OpenSpec.upto fnExactShapeOfRankSpec)

end Rows
end Go.Proofs.Ytecnmnijcplijaa
