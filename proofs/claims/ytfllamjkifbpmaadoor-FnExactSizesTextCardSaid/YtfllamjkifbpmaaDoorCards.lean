/-
  DERIVED. GIVEN WITH THE SEED: THE CARDS: each row of YtfllamjkifbpmaaDoorRows.lean that lists a variable, with what it lists TIED to the program's text (the seventh form; the later family's looks); each row that meets fmt, with fmt's text TOLD by the authors' own Lean function (tested against real Go, not proved from fmt's source: count such statements apart). THE CARD IS WHAT COUNTS. Prove the row's statement (the work); the ties are given (YtfllamjkifbpmaaDoorTie.lean); close each card by the builder's one call (the guide's Derived/Test/ToyasCard.lean, 'card_holds'). Laid BY PROGRAM, IN A SANDBOX (cutbox-door.mjs). By AI agents, Wed Nov 11 2026. No macro, syntax, notation, axiom, sorry.
-/
import Derived.Test.YtfllamjkifbpmaaDoorRows
import GoSem.ClaimSeven
namespace Go.Proofs.YtfllamjkifbpmaaDoor
namespace Rows

/-- THE TIED CARD OF 'laws.FnExactIsShape'. -/
def fnExactIsShapeCard : Claim7 := { stood := { row := fnExactIsShapeRow, standIns := [], harness := (true, "0f716cbf3bff0339af04b2d40c153a2aa087654d488abc2fa2c5ce521102e2f2"), looks := false }, kinds := [], alts := [], laidByText := true, laidKinds := [.data, .pinned], laidTests := true, laidLooks := .later }
def FnExactIsShapeCardSaid : Prop := Claim7.holds Tryd.pinned (.plain (OpenSpec.ofChange fnExactIsShapeSpec)) fnExactIsShapeCard

/-- THE TIED CARD OF 'laws.FnExactCountOfShape'. -/
def fnExactCountOfShapeCard : Claim7 := { stood := { row := fnExactCountOfShapeRow, standIns := [], harness := (true, "0f716cbf3bff0339af04b2d40c153a2aa087654d488abc2fa2c5ce521102e2f2"), looks := false }, kinds := [], alts := [], laidByText := true, laidKinds := [.data, .pinned], laidTests := true, laidLooks := .later }
def FnExactCountOfShapeCardSaid : Prop := Claim7.holds Tryd.pinned (.plain (OpenSpec.ofChange fnExactCountOfShapeSpec)) fnExactCountOfShapeCard

/-- THE TIED CARD OF 'laws.FnExactRankOfShape'. -/
def fnExactRankOfShapeCard : Claim7 := { stood := { row := fnExactRankOfShapeRow, standIns := [], harness := (true, "0f716cbf3bff0339af04b2d40c153a2aa087654d488abc2fa2c5ce521102e2f2"), looks := false }, kinds := [], alts := [], laidByText := true, laidKinds := [.data, .pinned], laidTests := true, laidLooks := .later }
def FnExactRankOfShapeCardSaid : Prop := Claim7.holds Tryd.pinned (.plain (OpenSpec.ofChange fnExactRankOfShapeSpec)) fnExactRankOfShapeCard

/-- THE TIED CARD OF 'laws.FnExactFirstOfShape'. -/
def fnExactFirstOfShapeCard : Claim7 := { stood := { row := fnExactFirstOfShapeRow, standIns := [], harness := (true, "0f716cbf3bff0339af04b2d40c153a2aa087654d488abc2fa2c5ce521102e2f2"), looks := false }, kinds := [], alts := [], laidByText := true, laidKinds := [.data, .pinned], laidTests := true, laidLooks := .later }
def FnExactFirstOfShapeCardSaid : Prop := Claim7.holds Tryd.pinned (.plain (OpenSpec.ofChange fnExactFirstOfShapeSpec)) fnExactFirstOfShapeCard

/-- THE TIED CARD OF 'laws.FnExactPileText'. -/
def fnExactPileTextCard : Claim7 := { stood := { row := fnExactPileTextRow, standIns := [], harness := (true, "0f716cbf3bff0339af04b2d40c153a2aa087654d488abc2fa2c5ce521102e2f2"), looks := false }, kinds := [], alts := [], laidByText := true, laidKinds := [.data, .data, .data], laidTests := true, laidLooks := .later }
def FnExactPileTextCardSaid : Prop := Claim7.holds Tryd.pinned (.plain (OpenSpec.ofChange fnExactPileTextSpec)) fnExactPileTextCard

/-- THE TIED CARD OF 'laws.FnExactSizesText'. -/
def fnExactSizesTextCard : Claim7 := { stood := { row := fnExactSizesTextRow, standIns := [], harness := (true, "0f716cbf3bff0339af04b2d40c153a2aa087654d488abc2fa2c5ce521102e2f2"), looks := false }, kinds := [], alts := [], laidByText := true, laidKinds := [.data, .data, .data], laidTests := true, laidLooks := .later }
def FnExactSizesTextCardSaid : Prop := Claim7.holds Tryd.pinned (.plain (OpenSpec.ofChange fnExactSizesTextSpec)) fnExactSizesTextCard

/-- THE SECOND FORM's CARD OF 'laws.FnExactIsShape'. -/
def fnExactIsShapeUptoCard : Claim7 := { stood := { row := fnExactIsShapeUptoRow, standIns := [], harness := (true, "0f716cbf3bff0339af04b2d40c153a2aa087654d488abc2fa2c5ce521102e2f2"), looks := false }, kinds := [], alts := [], laidByText := true, laidKinds := [.data, .pinned], laidTests := true, laidLooks := .later }
def FnExactIsShapeUptoCardSaid : Prop := Claim7.holds Tryd.pinned (.plain (OpenSpec.upto fnExactIsShapeSpec)) fnExactIsShapeUptoCard

/-- THE SECOND FORM's CARD OF 'laws.FnExactCountOfShape'. -/
def fnExactCountOfShapeUptoCard : Claim7 := { stood := { row := fnExactCountOfShapeUptoRow, standIns := [], harness := (true, "0f716cbf3bff0339af04b2d40c153a2aa087654d488abc2fa2c5ce521102e2f2"), looks := false }, kinds := [], alts := [], laidByText := true, laidKinds := [.data, .pinned], laidTests := true, laidLooks := .later }
def FnExactCountOfShapeUptoCardSaid : Prop := Claim7.holds Tryd.pinned (.plain (OpenSpec.upto fnExactCountOfShapeSpec)) fnExactCountOfShapeUptoCard

/-- THE SECOND FORM's CARD OF 'laws.FnExactRankOfShape'. -/
def fnExactRankOfShapeUptoCard : Claim7 := { stood := { row := fnExactRankOfShapeUptoRow, standIns := [], harness := (true, "0f716cbf3bff0339af04b2d40c153a2aa087654d488abc2fa2c5ce521102e2f2"), looks := false }, kinds := [], alts := [], laidByText := true, laidKinds := [.data, .pinned], laidTests := true, laidLooks := .later }
def FnExactRankOfShapeUptoCardSaid : Prop := Claim7.holds Tryd.pinned (.plain (OpenSpec.upto fnExactRankOfShapeSpec)) fnExactRankOfShapeUptoCard

/-- THE SECOND FORM's CARD OF 'laws.FnExactFirstOfShape'. -/
def fnExactFirstOfShapeUptoCard : Claim7 := { stood := { row := fnExactFirstOfShapeUptoRow, standIns := [], harness := (true, "0f716cbf3bff0339af04b2d40c153a2aa087654d488abc2fa2c5ce521102e2f2"), looks := false }, kinds := [], alts := [], laidByText := true, laidKinds := [.data, .pinned], laidTests := true, laidLooks := .later }
def FnExactFirstOfShapeUptoCardSaid : Prop := Claim7.holds Tryd.pinned (.plain (OpenSpec.upto fnExactFirstOfShapeSpec)) fnExactFirstOfShapeUptoCard

/-- THE SECOND FORM's CARD OF 'laws.FnExactPileText'. -/
def fnExactPileTextUptoCard : Claim7 := { stood := { row := fnExactPileTextUptoRow, standIns := [], harness := (true, "0f716cbf3bff0339af04b2d40c153a2aa087654d488abc2fa2c5ce521102e2f2"), looks := false }, kinds := [], alts := [], laidByText := true, laidKinds := [.data, .data, .data], laidTests := true, laidLooks := .later }
def FnExactPileTextUptoCardSaid : Prop := Claim7.holds Tryd.pinned (.plain (OpenSpec.upto fnExactPileTextSpec)) fnExactPileTextUptoCard

/-- THE SECOND FORM's CARD OF 'laws.FnExactSizesText'. -/
def fnExactSizesTextUptoCard : Claim7 := { stood := { row := fnExactSizesTextUptoRow, standIns := [], harness := (true, "0f716cbf3bff0339af04b2d40c153a2aa087654d488abc2fa2c5ce521102e2f2"), looks := false }, kinds := [], alts := [], laidByText := true, laidKinds := [.data, .data, .data], laidTests := true, laidLooks := .later }
def FnExactSizesTextUptoCardSaid : Prop := Claim7.holds Tryd.pinned (.plain (OpenSpec.upto fnExactSizesTextSpec)) fnExactSizesTextUptoCard
end Rows
end Go.Proofs.YtfllamjkifbpmaaDoor
