/-
  No cell of these rows narrows 'for every input' (looked for: loops, veiled, ifaces, maps, wideKeys, modest, calm, conditions, laid).
  DERIVED. THE GIVEN ROWS OF THIS SEAT. 12 by the template 'for every input the law returns true; each argument reads behind the call as it read before'; 0 by the template 'total and deterministic' (their statements: YtpalinpgoalneaaTotals.lean).
  GIVEN WITH THE SEED: the statements are not yours to turn. If you find one false, say at which input.
  Laid BY PROGRAM, IN A SANDBOX (cutbox-rows.mjs): the forced cells as the released guide's own fill.sh prints them over the translation cb3e19475b0b84d2… (all of the seat's roots in one cut). By AI agents, Wed Nov 11 2026. No macro, syntax, notation, axiom, sorry.
-/
import Derived.Test.YtpalinpgoalneaaChecked
import GoSem.Claim
import GoSem.ClaimJoined
import GoSem.ClaimMapViews
import Derived.JoinedTies
import Derived.KernelRfl
namespace Go.Proofs.Ytpalinpgoalneaa
/- THE CELL 'sum', in the pinned program and in every row, IS THE sha256 OF THE DUMP (.gsa) THAT YtpalinpgoalneaaProg.lean LOADS. Nothing in Lean hashes anything: it is a label: what it is worth is what the hold of that sum in a sandbox is worth. -/
noncomputable def Try.pinned : Pinned := { name := "ytpalinpgoalneaa", sum := "cb3e19475b0b84d23ba4f80cc9d89dabb52286e786ca4211e7e94e90937d7434", checked := Try.checked }
namespace Rows
def none {H : Type} : Left H := { results := [], args := [] }

/-- 'laws.FnExactBareDays': WHATEVER THE INPUT: true; the input reads as it did. -/
def fnExactBareDaysSpec : ChangeSpec := { name := "fnExactBareDays", fn := fun _ => fun
  | [d1, d2] => { results := [.lit (.bool true)], args := [d1, d2] }
  | _ => none }
def fnExactBareDaysRow : OpenClaim := { program := "ytpalinpgoalneaa", sum := "cb3e19475b0b84d23ba4f80cc9d89dabb52286e786ca4211e7e94e90937d7434", func := "loop.example/g01372/laws.FnExactBareDays", spec := "fnExactBareDays", unfollowed := true, recurses := true, apart := false }
def FnExactBareDaysSaid : Prop := fnExactBareDaysRow.holds Try.pinned (OpenSpec.ofChange fnExactBareDaysSpec)

/-- ITS FALSE NEIGHBOUR: 'it returns false'. Refute it at one input. -/
def fnExactBareDaysWrong : ChangeSpec := { name := "fnExactBareDays", fn := fun _ => fun
  | [d1, d2] => { results := [.lit (.bool false)], args := [d1, d2] }
  | _ => none }
def FnExactBareDaysWrongFalsely : Prop := fnExactBareDaysRow.holds Try.pinned (OpenSpec.ofChange fnExactBareDaysWrong)

/-- 'laws.FnExactTimesWorn': WHATEVER THE INPUT: true; the input reads as it did. -/
def fnExactTimesWornSpec : ChangeSpec := { name := "fnExactTimesWorn", fn := fun _ => fun
  | [d1, d2] => { results := [.lit (.bool true)], args := [d1, d2] }
  | _ => none }
def fnExactTimesWornRow : OpenClaim := { program := "ytpalinpgoalneaa", sum := "cb3e19475b0b84d23ba4f80cc9d89dabb52286e786ca4211e7e94e90937d7434", func := "loop.example/g01372/laws.FnExactTimesWorn", spec := "fnExactTimesWorn", unfollowed := true, recurses := true, apart := false }
def FnExactTimesWornSaid : Prop := fnExactTimesWornRow.holds Try.pinned (OpenSpec.ofChange fnExactTimesWornSpec)

/-- ITS FALSE NEIGHBOUR: 'it returns false'. Refute it at one input. -/
def fnExactTimesWornWrong : ChangeSpec := { name := "fnExactTimesWorn", fn := fun _ => fun
  | [d1, d2] => { results := [.lit (.bool false)], args := [d1, d2] }
  | _ => none }
def FnExactTimesWornWrongFalsely : Prop := fnExactTimesWornRow.holds Try.pinned (OpenSpec.ofChange fnExactTimesWornWrong)

/-- 'laws.FnExactWornOn': WHATEVER THE INPUT: true; the input reads as it did. -/
def fnExactWornOnSpec : ChangeSpec := { name := "fnExactWornOn", fn := fun _ => fun
  | [d1, d2] => { results := [.lit (.bool true)], args := [d1, d2] }
  | _ => none }
def fnExactWornOnRow : OpenClaim := { program := "ytpalinpgoalneaa", sum := "cb3e19475b0b84d23ba4f80cc9d89dabb52286e786ca4211e7e94e90937d7434", func := "loop.example/g01372/laws.FnExactWornOn", spec := "fnExactWornOn", unfollowed := true, recurses := true, apart := false }
def FnExactWornOnSaid : Prop := fnExactWornOnRow.holds Try.pinned (OpenSpec.ofChange fnExactWornOnSpec)

/-- ITS FALSE NEIGHBOUR: 'it returns false'. Refute it at one input. -/
def fnExactWornOnWrong : ChangeSpec := { name := "fnExactWornOn", fn := fun _ => fun
  | [d1, d2] => { results := [.lit (.bool false)], args := [d1, d2] }
  | _ => none }
def FnExactWornOnWrongFalsely : Prop := fnExactWornOnRow.holds Try.pinned (OpenSpec.ofChange fnExactWornOnWrong)

/-- 'laws.FnExactFirstBare': WHATEVER THE INPUT: true; the input reads as it did. -/
def fnExactFirstBareSpec : ChangeSpec := { name := "fnExactFirstBare", fn := fun _ => fun
  | [d] => { results := [.lit (.bool true)], args := [d] }
  | _ => none }
def fnExactFirstBareRow : OpenClaim := { program := "ytpalinpgoalneaa", sum := "cb3e19475b0b84d23ba4f80cc9d89dabb52286e786ca4211e7e94e90937d7434", func := "loop.example/g01372/laws.FnExactFirstBare", spec := "fnExactFirstBare", unfollowed := true, recurses := true, apart := false }
def FnExactFirstBareSaid : Prop := fnExactFirstBareRow.holds Try.pinned (OpenSpec.ofChange fnExactFirstBareSpec)

/-- ITS FALSE NEIGHBOUR: 'it returns false'. Refute it at one input. -/
def fnExactFirstBareWrong : ChangeSpec := { name := "fnExactFirstBare", fn := fun _ => fun
  | [d] => { results := [.lit (.bool false)], args := [d] }
  | _ => none }
def FnExactFirstBareWrongFalsely : Prop := fnExactFirstBareRow.holds Try.pinned (OpenSpec.ofChange fnExactFirstBareWrong)

/-- 'laws.FnExactLastsUntil': WHATEVER THE INPUT: true; the input reads as it did. -/
def fnExactLastsUntilSpec : ChangeSpec := { name := "fnExactLastsUntil", fn := fun _ => fun
  | [d1, d2] => { results := [.lit (.bool true)], args := [d1, d2] }
  | _ => none }
def fnExactLastsUntilRow : OpenClaim := { program := "ytpalinpgoalneaa", sum := "cb3e19475b0b84d23ba4f80cc9d89dabb52286e786ca4211e7e94e90937d7434", func := "loop.example/g01372/laws.FnExactLastsUntil", spec := "fnExactLastsUntil", unfollowed := true, recurses := true, apart := false }
def FnExactLastsUntilSaid : Prop := fnExactLastsUntilRow.holds Try.pinned (OpenSpec.ofChange fnExactLastsUntilSpec)

/-- ITS FALSE NEIGHBOUR: 'it returns false'. Refute it at one input. -/
def fnExactLastsUntilWrong : ChangeSpec := { name := "fnExactLastsUntil", fn := fun _ => fun
  | [d1, d2] => { results := [.lit (.bool false)], args := [d1, d2] }
  | _ => none }
def FnExactLastsUntilWrongFalsely : Prop := fnExactLastsUntilRow.holds Try.pinned (OpenSpec.ofChange fnExactLastsUntilWrong)

/-- 'laws.FnExactFewestClean': WHATEVER THE INPUT: true; the input reads as it did. -/
def fnExactFewestCleanSpec : ChangeSpec := { name := "fnExactFewestClean", fn := fun _ => fun
  | [d1, d2] => { results := [.lit (.bool true)], args := [d1, d2] }
  | _ => none }
def fnExactFewestCleanRow : OpenClaim := { program := "ytpalinpgoalneaa", sum := "cb3e19475b0b84d23ba4f80cc9d89dabb52286e786ca4211e7e94e90937d7434", func := "loop.example/g01372/laws.FnExactFewestClean", spec := "fnExactFewestClean", unfollowed := true, recurses := true, apart := false }
def FnExactFewestCleanSaid : Prop := fnExactFewestCleanRow.holds Try.pinned (OpenSpec.ofChange fnExactFewestCleanSpec)

/-- ITS FALSE NEIGHBOUR: 'it returns false'. Refute it at one input. -/
def fnExactFewestCleanWrong : ChangeSpec := { name := "fnExactFewestClean", fn := fun _ => fun
  | [d1, d2] => { results := [.lit (.bool false)], args := [d1, d2] }
  | _ => none }
def FnExactFewestCleanWrongFalsely : Prop := fnExactFewestCleanRow.holds Try.pinned (OpenSpec.ofChange fnExactFewestCleanWrong)

/-- 'laws.FnExactWornList': WHATEVER THE INPUT: true; the input reads as it did. -/
def fnExactWornListSpec : ChangeSpec := { name := "fnExactWornList", fn := fun _ => fun
  | [d1, d2] => { results := [.lit (.bool true)], args := [d1, d2] }
  | _ => none }
def fnExactWornListRow : OpenClaim := { program := "ytpalinpgoalneaa", sum := "cb3e19475b0b84d23ba4f80cc9d89dabb52286e786ca4211e7e94e90937d7434", func := "loop.example/g01372/laws.FnExactWornList", spec := "fnExactWornList", unfollowed := true, recurses := true, apart := false }
def FnExactWornListSaid : Prop := fnExactWornListRow.holds Try.pinned (OpenSpec.ofChange fnExactWornListSpec)

/-- ITS FALSE NEIGHBOUR: 'it returns false'. Refute it at one input. -/
def fnExactWornListWrong : ChangeSpec := { name := "fnExactWornList", fn := fun _ => fun
  | [d1, d2] => { results := [.lit (.bool false)], args := [d1, d2] }
  | _ => none }
def FnExactWornListWrongFalsely : Prop := fnExactWornListRow.holds Try.pinned (OpenSpec.ofChange fnExactWornListWrong)

/-- 'laws.FnExactBasketOn': WHATEVER THE INPUT: true; the input reads as it did. -/
def fnExactBasketOnSpec : ChangeSpec := { name := "fnExactBasketOn", fn := fun _ => fun
  | [d1, d2] => { results := [.lit (.bool true)], args := [d1, d2] }
  | _ => none }
def fnExactBasketOnRow : OpenClaim := { program := "ytpalinpgoalneaa", sum := "cb3e19475b0b84d23ba4f80cc9d89dabb52286e786ca4211e7e94e90937d7434", func := "loop.example/g01372/laws.FnExactBasketOn", spec := "fnExactBasketOn", unfollowed := true, recurses := true, apart := false }
def FnExactBasketOnSaid : Prop := fnExactBasketOnRow.holds Try.pinned (OpenSpec.ofChange fnExactBasketOnSpec)

/-- ITS FALSE NEIGHBOUR: 'it returns false'. Refute it at one input. -/
def fnExactBasketOnWrong : ChangeSpec := { name := "fnExactBasketOn", fn := fun _ => fun
  | [d1, d2] => { results := [.lit (.bool false)], args := [d1, d2] }
  | _ => none }
def FnExactBasketOnWrongFalsely : Prop := fnExactBasketOnRow.holds Try.pinned (OpenSpec.ofChange fnExactBasketOnWrong)

/-- 'laws.FnExactWashedOn': WHATEVER THE INPUT: true; the input reads as it did. -/
def fnExactWashedOnSpec : ChangeSpec := { name := "fnExactWashedOn", fn := fun _ => fun
  | [d1, d2] => { results := [.lit (.bool true)], args := [d1, d2] }
  | _ => none }
def fnExactWashedOnRow : OpenClaim := { program := "ytpalinpgoalneaa", sum := "cb3e19475b0b84d23ba4f80cc9d89dabb52286e786ca4211e7e94e90937d7434", func := "loop.example/g01372/laws.FnExactWashedOn", spec := "fnExactWashedOn", unfollowed := true, recurses := true, apart := false }
def FnExactWashedOnSaid : Prop := fnExactWashedOnRow.holds Try.pinned (OpenSpec.ofChange fnExactWashedOnSpec)

/-- ITS FALSE NEIGHBOUR: 'it returns false'. Refute it at one input. -/
def fnExactWashedOnWrong : ChangeSpec := { name := "fnExactWashedOn", fn := fun _ => fun
  | [d1, d2] => { results := [.lit (.bool false)], args := [d1, d2] }
  | _ => none }
def FnExactWashedOnWrongFalsely : Prop := fnExactWashedOnRow.holds Try.pinned (OpenSpec.ofChange fnExactWashedOnWrong)

/-- 'laws.FnExactWashDays': WHATEVER THE INPUT: true; the input reads as it did. -/
def fnExactWashDaysSpec : ChangeSpec := { name := "fnExactWashDays", fn := fun _ => fun
  | [d1, d2] => { results := [.lit (.bool true)], args := [d1, d2] }
  | _ => none }
def fnExactWashDaysRow : OpenClaim := { program := "ytpalinpgoalneaa", sum := "cb3e19475b0b84d23ba4f80cc9d89dabb52286e786ca4211e7e94e90937d7434", func := "loop.example/g01372/laws.FnExactWashDays", spec := "fnExactWashDays", unfollowed := true, recurses := true, apart := false }
def FnExactWashDaysSaid : Prop := fnExactWashDaysRow.holds Try.pinned (OpenSpec.ofChange fnExactWashDaysSpec)

/-- ITS FALSE NEIGHBOUR: 'it returns false'. Refute it at one input. -/
def fnExactWashDaysWrong : ChangeSpec := { name := "fnExactWashDays", fn := fun _ => fun
  | [d1, d2] => { results := [.lit (.bool false)], args := [d1, d2] }
  | _ => none }
def FnExactWashDaysWrongFalsely : Prop := fnExactWashDaysRow.holds Try.pinned (OpenSpec.ofChange fnExactWashDaysWrong)

/-- 'laws.FnExactLongestUnworn': WHATEVER THE INPUT: true; the input reads as it did. -/
def fnExactLongestUnwornSpec : ChangeSpec := { name := "fnExactLongestUnworn", fn := fun _ => fun
  | [d1, d2] => { results := [.lit (.bool true)], args := [d1, d2] }
  | _ => none }
def fnExactLongestUnwornRow : OpenClaim := { program := "ytpalinpgoalneaa", sum := "cb3e19475b0b84d23ba4f80cc9d89dabb52286e786ca4211e7e94e90937d7434", func := "loop.example/g01372/laws.FnExactLongestUnworn", spec := "fnExactLongestUnworn", unfollowed := true, recurses := true, apart := false }
def FnExactLongestUnwornSaid : Prop := fnExactLongestUnwornRow.holds Try.pinned (OpenSpec.ofChange fnExactLongestUnwornSpec)

/-- ITS FALSE NEIGHBOUR: 'it returns false'. Refute it at one input. -/
def fnExactLongestUnwornWrong : ChangeSpec := { name := "fnExactLongestUnworn", fn := fun _ => fun
  | [d1, d2] => { results := [.lit (.bool false)], args := [d1, d2] }
  | _ => none }
def FnExactLongestUnwornWrongFalsely : Prop := fnExactLongestUnwornRow.holds Try.pinned (OpenSpec.ofChange fnExactLongestUnwornWrong)

/-- 'laws.FnExactCleanOn': WHATEVER THE INPUT: true; the input reads as it did. -/
def fnExactCleanOnSpec : ChangeSpec := { name := "fnExactCleanOn", fn := fun _ => fun
  | [d1, d2] => { results := [.lit (.bool true)], args := [d1, d2] }
  | _ => none }
def fnExactCleanOnRow : OpenClaim := { program := "ytpalinpgoalneaa", sum := "cb3e19475b0b84d23ba4f80cc9d89dabb52286e786ca4211e7e94e90937d7434", func := "loop.example/g01372/laws.FnExactCleanOn", spec := "fnExactCleanOn", unfollowed := true, recurses := true, apart := false }
def FnExactCleanOnSaid : Prop := fnExactCleanOnRow.holds Try.pinned (OpenSpec.ofChange fnExactCleanOnSpec)

/-- ITS FALSE NEIGHBOUR: 'it returns false'. Refute it at one input. -/
def fnExactCleanOnWrong : ChangeSpec := { name := "fnExactCleanOn", fn := fun _ => fun
  | [d1, d2] => { results := [.lit (.bool false)], args := [d1, d2] }
  | _ => none }
def FnExactCleanOnWrongFalsely : Prop := fnExactCleanOnRow.holds Try.pinned (OpenSpec.ofChange fnExactCleanOnWrong)

/- THE SECOND FORM. 'bulk': how many values and letters a reading holds, each counted each time it is reached (what is shared counts as often as it is met; a slice's spare places count too). A statement '..UptoSaid' is the law's where the arguments, and the package variables that the reading takes, are together of bulk at most 1048576: NARROWER than '..Said'. Prove '..Said' where nothing that the law and all that it calls make is longer than what came in: it says more and counts as full. Else prove '..UptoSaid'. A law counts once. -/
mutual
def uptoBulk {H : Type} : DataW H → Nat
  | .lit (.string bytes) => bytes.length + 1
  | .lit _ => 1
  | .nil => 1
  | .ptr d => uptoBulk d + 1
  | .slice elems spare => uptoBulkAll elems + uptoBulkAll spare + 1
  | .agg parts => uptoBulkAll parts + 1
  | .iface _ d => uptoBulk d + 1
  | .map entries => uptoBulkEntries entries + 1
  | .held _ => 1
def uptoBulkAll {H : Type} : List (DataW H) → Nat
  | [] => 0
  | d :: r => uptoBulk d + uptoBulkAll r
def uptoBulkEntries {H : Type} : List (Lit × DataW H) → Nat
  | [] => 0
  | x :: r => uptoBulkEntry x + uptoBulkEntries r
def uptoBulkEntry {H : Type} : Lit × DataW H → Nat
  | (.string bytes, d) => bytes.length + uptoBulk d + 1
  | (_, d) => uptoBulk d + 1
 end
def uptoSmall : (H : Type) → List (DataW H) → Bool := fun _ ds => decide (uptoBulkAll ds ≤ 1048576)
def OpenSpec.upto (s : _root_.Go.ChangeSpec) : _root_.Go.OpenSpec := { _root_.Go.OpenSpec.ofChange s with cond := some uptoSmall }

/-- 'laws.FnExactBareDays', WHERE WHAT IT READS IS OF BULK AT MOST 1048576: true; the input reads as it did. -/
def fnExactBareDaysUptoRow : OpenClaim := { program := "ytpalinpgoalneaa", sum := "cb3e19475b0b84d23ba4f80cc9d89dabb52286e786ca4211e7e94e90937d7434", func := "loop.example/g01372/laws.FnExactBareDays", spec := "fnExactBareDays", unfollowed := true, recurses := true, apart := false, narrowed := true }
def FnExactBareDaysUptoSaid : Prop := fnExactBareDaysUptoRow.holds Try.pinned (OpenSpec.upto fnExactBareDaysSpec)

/-- 'laws.FnExactTimesWorn', WHERE WHAT IT READS IS OF BULK AT MOST 1048576: true; the input reads as it did. -/
def fnExactTimesWornUptoRow : OpenClaim := { program := "ytpalinpgoalneaa", sum := "cb3e19475b0b84d23ba4f80cc9d89dabb52286e786ca4211e7e94e90937d7434", func := "loop.example/g01372/laws.FnExactTimesWorn", spec := "fnExactTimesWorn", unfollowed := true, recurses := true, apart := false, narrowed := true }
def FnExactTimesWornUptoSaid : Prop := fnExactTimesWornUptoRow.holds Try.pinned (OpenSpec.upto fnExactTimesWornSpec)

/-- 'laws.FnExactWornOn', WHERE WHAT IT READS IS OF BULK AT MOST 1048576: true; the input reads as it did. -/
def fnExactWornOnUptoRow : OpenClaim := { program := "ytpalinpgoalneaa", sum := "cb3e19475b0b84d23ba4f80cc9d89dabb52286e786ca4211e7e94e90937d7434", func := "loop.example/g01372/laws.FnExactWornOn", spec := "fnExactWornOn", unfollowed := true, recurses := true, apart := false, narrowed := true }
def FnExactWornOnUptoSaid : Prop := fnExactWornOnUptoRow.holds Try.pinned (OpenSpec.upto fnExactWornOnSpec)

/-- 'laws.FnExactFirstBare', WHERE WHAT IT READS IS OF BULK AT MOST 1048576: true; the input reads as it did. -/
def fnExactFirstBareUptoRow : OpenClaim := { program := "ytpalinpgoalneaa", sum := "cb3e19475b0b84d23ba4f80cc9d89dabb52286e786ca4211e7e94e90937d7434", func := "loop.example/g01372/laws.FnExactFirstBare", spec := "fnExactFirstBare", unfollowed := true, recurses := true, apart := false, narrowed := true }
def FnExactFirstBareUptoSaid : Prop := fnExactFirstBareUptoRow.holds Try.pinned (OpenSpec.upto fnExactFirstBareSpec)

/-- 'laws.FnExactLastsUntil', WHERE WHAT IT READS IS OF BULK AT MOST 1048576: true; the input reads as it did. -/
def fnExactLastsUntilUptoRow : OpenClaim := { program := "ytpalinpgoalneaa", sum := "cb3e19475b0b84d23ba4f80cc9d89dabb52286e786ca4211e7e94e90937d7434", func := "loop.example/g01372/laws.FnExactLastsUntil", spec := "fnExactLastsUntil", unfollowed := true, recurses := true, apart := false, narrowed := true }
def FnExactLastsUntilUptoSaid : Prop := fnExactLastsUntilUptoRow.holds Try.pinned (OpenSpec.upto fnExactLastsUntilSpec)

/-- 'laws.FnExactFewestClean', WHERE WHAT IT READS IS OF BULK AT MOST 1048576: true; the input reads as it did. -/
def fnExactFewestCleanUptoRow : OpenClaim := { program := "ytpalinpgoalneaa", sum := "cb3e19475b0b84d23ba4f80cc9d89dabb52286e786ca4211e7e94e90937d7434", func := "loop.example/g01372/laws.FnExactFewestClean", spec := "fnExactFewestClean", unfollowed := true, recurses := true, apart := false, narrowed := true }
def FnExactFewestCleanUptoSaid : Prop := fnExactFewestCleanUptoRow.holds Try.pinned (OpenSpec.upto fnExactFewestCleanSpec)

/-- 'laws.FnExactWornList', WHERE WHAT IT READS IS OF BULK AT MOST 1048576: true; the input reads as it did. -/
def fnExactWornListUptoRow : OpenClaim := { program := "ytpalinpgoalneaa", sum := "cb3e19475b0b84d23ba4f80cc9d89dabb52286e786ca4211e7e94e90937d7434", func := "loop.example/g01372/laws.FnExactWornList", spec := "fnExactWornList", unfollowed := true, recurses := true, apart := false, narrowed := true }
def FnExactWornListUptoSaid : Prop := fnExactWornListUptoRow.holds Try.pinned (OpenSpec.upto fnExactWornListSpec)

/-- 'laws.FnExactBasketOn', WHERE WHAT IT READS IS OF BULK AT MOST 1048576: true; the input reads as it did. -/
def fnExactBasketOnUptoRow : OpenClaim := { program := "ytpalinpgoalneaa", sum := "cb3e19475b0b84d23ba4f80cc9d89dabb52286e786ca4211e7e94e90937d7434", func := "loop.example/g01372/laws.FnExactBasketOn", spec := "fnExactBasketOn", unfollowed := true, recurses := true, apart := false, narrowed := true }
def FnExactBasketOnUptoSaid : Prop := fnExactBasketOnUptoRow.holds Try.pinned (OpenSpec.upto fnExactBasketOnSpec)

/-- 'laws.FnExactWashedOn', WHERE WHAT IT READS IS OF BULK AT MOST 1048576: true; the input reads as it did. -/
def fnExactWashedOnUptoRow : OpenClaim := { program := "ytpalinpgoalneaa", sum := "cb3e19475b0b84d23ba4f80cc9d89dabb52286e786ca4211e7e94e90937d7434", func := "loop.example/g01372/laws.FnExactWashedOn", spec := "fnExactWashedOn", unfollowed := true, recurses := true, apart := false, narrowed := true }
def FnExactWashedOnUptoSaid : Prop := fnExactWashedOnUptoRow.holds Try.pinned (OpenSpec.upto fnExactWashedOnSpec)

/-- 'laws.FnExactWashDays', WHERE WHAT IT READS IS OF BULK AT MOST 1048576: true; the input reads as it did. -/
def fnExactWashDaysUptoRow : OpenClaim := { program := "ytpalinpgoalneaa", sum := "cb3e19475b0b84d23ba4f80cc9d89dabb52286e786ca4211e7e94e90937d7434", func := "loop.example/g01372/laws.FnExactWashDays", spec := "fnExactWashDays", unfollowed := true, recurses := true, apart := false, narrowed := true }
def FnExactWashDaysUptoSaid : Prop := fnExactWashDaysUptoRow.holds Try.pinned (OpenSpec.upto fnExactWashDaysSpec)

/-- 'laws.FnExactLongestUnworn', WHERE WHAT IT READS IS OF BULK AT MOST 1048576: true; the input reads as it did. -/
def fnExactLongestUnwornUptoRow : OpenClaim := { program := "ytpalinpgoalneaa", sum := "cb3e19475b0b84d23ba4f80cc9d89dabb52286e786ca4211e7e94e90937d7434", func := "loop.example/g01372/laws.FnExactLongestUnworn", spec := "fnExactLongestUnworn", unfollowed := true, recurses := true, apart := false, narrowed := true }
def FnExactLongestUnwornUptoSaid : Prop := fnExactLongestUnwornUptoRow.holds Try.pinned (OpenSpec.upto fnExactLongestUnwornSpec)

/-- 'laws.FnExactCleanOn', WHERE WHAT IT READS IS OF BULK AT MOST 1048576: true; the input reads as it did. -/
def fnExactCleanOnUptoRow : OpenClaim := { program := "ytpalinpgoalneaa", sum := "cb3e19475b0b84d23ba4f80cc9d89dabb52286e786ca4211e7e94e90937d7434", func := "loop.example/g01372/laws.FnExactCleanOn", spec := "fnExactCleanOn", unfollowed := true, recurses := true, apart := false, narrowed := true }
def FnExactCleanOnUptoSaid : Prop := fnExactCleanOnUptoRow.holds Try.pinned (OpenSpec.upto fnExactCleanOnSpec)

end Rows
end Go.Proofs.Ytpalinpgoalneaa
