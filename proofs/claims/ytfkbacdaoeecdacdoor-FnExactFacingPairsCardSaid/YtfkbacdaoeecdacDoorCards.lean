/-
  DERIVED. GIVEN WITH THE SEED: THE CARDS: each row of YtfkbacdaoeecdacDoorRows.lean that lists a variable, with what it lists TIED to the program's text (the seventh form; the later family's looks); each row that meets fmt, with fmt's text TOLD by the authors' own Lean function (tested against real Go, not proved from fmt's source: count such statements apart). THE CARD IS WHAT COUNTS. Prove the row's statement (the work); the ties are given (YtfkbacdaoeecdacDoorTie.lean); close each card by the builder's one call (the guide's Derived/Test/ToyasCard.lean, 'card_holds'). Laid BY PROGRAM, IN A SANDBOX (cutbox-door.mjs). By AI agents, Wed Nov 11 2026. No macro, syntax, notation, axiom, sorry.
-/
import Derived.Test.YtfkbacdaoeecdacDoorRows
import GoSem.ClaimSeven
namespace Go.Proofs.YtfkbacdaoeecdacDoor
namespace Rows

/-- THE TIED CARD OF 'laws.FnExactIsRow'. -/
def fnExactIsRowCard : Claim7 := { stood := { row := fnExactIsRowRow, standIns := [], harness := (true, "d2b63bac69770660ba340d870e7365b80ad0445ef5f5e21e9fd8485553a0f065"), looks := false }, kinds := [], alts := [], laidByText := true, laidKinds := [.data, .pinned], laidTests := true, laidLooks := .later }
def FnExactIsRowCardSaid : Prop := Claim7.holds Tryd.pinned (.plain (OpenSpec.ofChange fnExactIsRowSpec)) fnExactIsRowCard

/-- THE TIED CARD OF 'laws.FnExactNumberOfRow'. -/
def fnExactNumberOfRowCard : Claim7 := { stood := { row := fnExactNumberOfRowRow, standIns := [], harness := (true, "d2b63bac69770660ba340d870e7365b80ad0445ef5f5e21e9fd8485553a0f065"), looks := false }, kinds := [], alts := [], laidByText := true, laidKinds := [.data, .pinned], laidTests := true, laidLooks := .later }
def FnExactNumberOfRowCardSaid : Prop := Claim7.holds Tryd.pinned (.plain (OpenSpec.ofChange fnExactNumberOfRowSpec)) fnExactNumberOfRowCard

/-- THE TIED CARD OF 'laws.FnExactFacingPairs'. -/
def fnExactFacingPairsCard : Claim7 := { stood := { row := fnExactFacingPairsRow, standIns := [], harness := (true, "d2b63bac69770660ba340d870e7365b80ad0445ef5f5e21e9fd8485553a0f065"), looks := false }, kinds := [], alts := [], laidByText := true, laidKinds := [.data, .pinned], laidTests := true, laidLooks := .later }
def FnExactFacingPairsCardSaid : Prop := Claim7.holds Tryd.pinned (.plain (OpenSpec.ofChange fnExactFacingPairsSpec)) fnExactFacingPairsCard

/-- THE TIED CARD OF 'laws.FnExactIsAtRest'. -/
def fnExactIsAtRestCard : Claim7 := { stood := { row := fnExactIsAtRestRow, standIns := [], harness := (true, "d2b63bac69770660ba340d870e7365b80ad0445ef5f5e21e9fd8485553a0f065"), looks := false }, kinds := [], alts := [], laidByText := true, laidKinds := [.data, .pinned], laidTests := true, laidLooks := .later }
def FnExactIsAtRestCardSaid : Prop := Claim7.holds Tryd.pinned (.plain (OpenSpec.ofChange fnExactIsAtRestSpec)) fnExactIsAtRestCard

/-- THE TIED CARD OF 'laws.FnExactTurnedRow'. -/
def fnExactTurnedRowCard : Claim7 := { stood := { row := fnExactTurnedRowRow, standIns := [], harness := (true, "d2b63bac69770660ba340d870e7365b80ad0445ef5f5e21e9fd8485553a0f065"), looks := false }, kinds := [], alts := [], laidByText := true, laidKinds := [.data, .pinned], laidTests := true, laidLooks := .later }
def FnExactTurnedRowCardSaid : Prop := Claim7.holds Tryd.pinned (.plain (OpenSpec.ofChange fnExactTurnedRowSpec)) fnExactTurnedRowCard

/-- THE TIED CARD OF 'laws.FnExactTickRow'. -/
def fnExactTickRowCard : Claim7 := { stood := { row := fnExactTickRowRow, standIns := [], harness := (true, "d2b63bac69770660ba340d870e7365b80ad0445ef5f5e21e9fd8485553a0f065"), looks := false }, kinds := [], alts := [], laidByText := true, laidKinds := [.data, .pinned], laidTests := true, laidLooks := .later }
def FnExactTickRowCardSaid : Prop := Claim7.holds Tryd.pinned (.plain (OpenSpec.ofChange fnExactTickRowSpec)) fnExactTickRowCard

/-- THE SECOND FORM's CARD OF 'laws.FnExactIsRow'. -/
def fnExactIsRowUptoCard : Claim7 := { stood := { row := fnExactIsRowUptoRow, standIns := [], harness := (true, "d2b63bac69770660ba340d870e7365b80ad0445ef5f5e21e9fd8485553a0f065"), looks := false }, kinds := [], alts := [], laidByText := true, laidKinds := [.data, .pinned], laidTests := true, laidLooks := .later }
def FnExactIsRowUptoCardSaid : Prop := Claim7.holds Tryd.pinned (.plain (OpenSpec.upto fnExactIsRowSpec)) fnExactIsRowUptoCard

/-- THE SECOND FORM's CARD OF 'laws.FnExactNumberOfRow'. -/
def fnExactNumberOfRowUptoCard : Claim7 := { stood := { row := fnExactNumberOfRowUptoRow, standIns := [], harness := (true, "d2b63bac69770660ba340d870e7365b80ad0445ef5f5e21e9fd8485553a0f065"), looks := false }, kinds := [], alts := [], laidByText := true, laidKinds := [.data, .pinned], laidTests := true, laidLooks := .later }
def FnExactNumberOfRowUptoCardSaid : Prop := Claim7.holds Tryd.pinned (.plain (OpenSpec.upto fnExactNumberOfRowSpec)) fnExactNumberOfRowUptoCard

/-- THE SECOND FORM's CARD OF 'laws.FnExactFacingPairs'. -/
def fnExactFacingPairsUptoCard : Claim7 := { stood := { row := fnExactFacingPairsUptoRow, standIns := [], harness := (true, "d2b63bac69770660ba340d870e7365b80ad0445ef5f5e21e9fd8485553a0f065"), looks := false }, kinds := [], alts := [], laidByText := true, laidKinds := [.data, .pinned], laidTests := true, laidLooks := .later }
def FnExactFacingPairsUptoCardSaid : Prop := Claim7.holds Tryd.pinned (.plain (OpenSpec.upto fnExactFacingPairsSpec)) fnExactFacingPairsUptoCard

/-- THE SECOND FORM's CARD OF 'laws.FnExactIsAtRest'. -/
def fnExactIsAtRestUptoCard : Claim7 := { stood := { row := fnExactIsAtRestUptoRow, standIns := [], harness := (true, "d2b63bac69770660ba340d870e7365b80ad0445ef5f5e21e9fd8485553a0f065"), looks := false }, kinds := [], alts := [], laidByText := true, laidKinds := [.data, .pinned], laidTests := true, laidLooks := .later }
def FnExactIsAtRestUptoCardSaid : Prop := Claim7.holds Tryd.pinned (.plain (OpenSpec.upto fnExactIsAtRestSpec)) fnExactIsAtRestUptoCard

/-- THE SECOND FORM's CARD OF 'laws.FnExactTurnedRow'. -/
def fnExactTurnedRowUptoCard : Claim7 := { stood := { row := fnExactTurnedRowUptoRow, standIns := [], harness := (true, "d2b63bac69770660ba340d870e7365b80ad0445ef5f5e21e9fd8485553a0f065"), looks := false }, kinds := [], alts := [], laidByText := true, laidKinds := [.data, .pinned], laidTests := true, laidLooks := .later }
def FnExactTurnedRowUptoCardSaid : Prop := Claim7.holds Tryd.pinned (.plain (OpenSpec.upto fnExactTurnedRowSpec)) fnExactTurnedRowUptoCard

/-- THE SECOND FORM's CARD OF 'laws.FnExactTickRow'. -/
def fnExactTickRowUptoCard : Claim7 := { stood := { row := fnExactTickRowUptoRow, standIns := [], harness := (true, "d2b63bac69770660ba340d870e7365b80ad0445ef5f5e21e9fd8485553a0f065"), looks := false }, kinds := [], alts := [], laidByText := true, laidKinds := [.data, .pinned], laidTests := true, laidLooks := .later }
def FnExactTickRowUptoCardSaid : Prop := Claim7.holds Tryd.pinned (.plain (OpenSpec.upto fnExactTickRowSpec)) fnExactTickRowUptoCard
end Rows
end Go.Proofs.YtfkbacdaoeecdacDoor
