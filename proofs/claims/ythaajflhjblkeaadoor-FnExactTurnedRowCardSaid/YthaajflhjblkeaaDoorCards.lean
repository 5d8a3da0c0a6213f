/-
  DERIVED. GIVEN WITH THE SEED: THE CARDS: each row of YthaajflhjblkeaaDoorRows.lean that lists a variable, with what it lists TIED to the program's text (the seventh form; the later family's looks); each row that meets fmt, with fmt's text TOLD by the authors' own Lean function (tested against real Go, not proved from fmt's source: count such statements apart). THE CARD IS WHAT COUNTS. Prove the row's statement (the work); the ties are given (YthaajflhjblkeaaDoorTie.lean); close each card by the builder's one call (the guide's Derived/Test/ToyasCard.lean, 'card_holds'). Laid BY PROGRAM, IN A SANDBOX (cutbox-door.mjs). By AI agents, Wed Nov 11 2026. No macro, syntax, notation, axiom, sorry.
-/
import Derived.Test.YthaajflhjblkeaaDoorRows
import GoSem.ClaimSeven
namespace Go.Proofs.YthaajflhjblkeaaDoor
namespace Rows

/-- THE TIED CARD OF 'laws.FnExactIsRow'. -/
def fnExactIsRowCard : Claim7 := { stood := { row := fnExactIsRowRow, standIns := [], harness := (true, "c9e4bc69358b0c3f6d4b461ab05e8337fe2c9ea56b7e1766ffd4d15afa503d67"), looks := false }, kinds := [], alts := [], laidByText := true, laidKinds := [.data, .pinned], laidTests := true, laidLooks := .later }
def FnExactIsRowCardSaid : Prop := Claim7.holds Tryd.pinned (.plain (OpenSpec.ofChange fnExactIsRowSpec)) fnExactIsRowCard

/-- THE TIED CARD OF 'laws.FnExactNumberOfRow'. -/
def fnExactNumberOfRowCard : Claim7 := { stood := { row := fnExactNumberOfRowRow, standIns := [], harness := (true, "c9e4bc69358b0c3f6d4b461ab05e8337fe2c9ea56b7e1766ffd4d15afa503d67"), looks := false }, kinds := [], alts := [], laidByText := true, laidKinds := [.data, .pinned], laidTests := true, laidLooks := .later }
def FnExactNumberOfRowCardSaid : Prop := Claim7.holds Tryd.pinned (.plain (OpenSpec.ofChange fnExactNumberOfRowSpec)) fnExactNumberOfRowCard

/-- THE TIED CARD OF 'laws.FnExactFacingPairs'. -/
def fnExactFacingPairsCard : Claim7 := { stood := { row := fnExactFacingPairsRow, standIns := [], harness := (true, "c9e4bc69358b0c3f6d4b461ab05e8337fe2c9ea56b7e1766ffd4d15afa503d67"), looks := false }, kinds := [], alts := [], laidByText := true, laidKinds := [.data, .pinned], laidTests := true, laidLooks := .later }
def FnExactFacingPairsCardSaid : Prop := Claim7.holds Tryd.pinned (.plain (OpenSpec.ofChange fnExactFacingPairsSpec)) fnExactFacingPairsCard

/-- THE TIED CARD OF 'laws.FnExactIsAtRest'. -/
def fnExactIsAtRestCard : Claim7 := { stood := { row := fnExactIsAtRestRow, standIns := [], harness := (true, "c9e4bc69358b0c3f6d4b461ab05e8337fe2c9ea56b7e1766ffd4d15afa503d67"), looks := false }, kinds := [], alts := [], laidByText := true, laidKinds := [.data, .pinned], laidTests := true, laidLooks := .later }
def FnExactIsAtRestCardSaid : Prop := Claim7.holds Tryd.pinned (.plain (OpenSpec.ofChange fnExactIsAtRestSpec)) fnExactIsAtRestCard

/-- THE TIED CARD OF 'laws.FnExactTurnedRow'. -/
def fnExactTurnedRowCard : Claim7 := { stood := { row := fnExactTurnedRowRow, standIns := [], harness := (true, "c9e4bc69358b0c3f6d4b461ab05e8337fe2c9ea56b7e1766ffd4d15afa503d67"), looks := false }, kinds := [], alts := [], laidByText := true, laidKinds := [.data, .pinned], laidTests := true, laidLooks := .later }
def FnExactTurnedRowCardSaid : Prop := Claim7.holds Tryd.pinned (.plain (OpenSpec.ofChange fnExactTurnedRowSpec)) fnExactTurnedRowCard

/-- THE SECOND FORM's CARD OF 'laws.FnExactIsRow'. -/
def fnExactIsRowUptoCard : Claim7 := { stood := { row := fnExactIsRowUptoRow, standIns := [], harness := (true, "c9e4bc69358b0c3f6d4b461ab05e8337fe2c9ea56b7e1766ffd4d15afa503d67"), looks := false }, kinds := [], alts := [], laidByText := true, laidKinds := [.data, .pinned], laidTests := true, laidLooks := .later }
def FnExactIsRowUptoCardSaid : Prop := Claim7.holds Tryd.pinned (.plain (OpenSpec.upto fnExactIsRowSpec)) fnExactIsRowUptoCard

/-- THE SECOND FORM's CARD OF 'laws.FnExactNumberOfRow'. -/
def fnExactNumberOfRowUptoCard : Claim7 := { stood := { row := fnExactNumberOfRowUptoRow, standIns := [], harness := (true, "c9e4bc69358b0c3f6d4b461ab05e8337fe2c9ea56b7e1766ffd4d15afa503d67"), looks := false }, kinds := [], alts := [], laidByText := true, laidKinds := [.data, .pinned], laidTests := true, laidLooks := .later }
def FnExactNumberOfRowUptoCardSaid : Prop := Claim7.holds Tryd.pinned (.plain (OpenSpec.upto fnExactNumberOfRowSpec)) fnExactNumberOfRowUptoCard

/-- THE SECOND FORM's CARD OF 'laws.FnExactFacingPairs'. -/
def fnExactFacingPairsUptoCard : Claim7 := { stood := { row := fnExactFacingPairsUptoRow, standIns := [], harness := (true, "c9e4bc69358b0c3f6d4b461ab05e8337fe2c9ea56b7e1766ffd4d15afa503d67"), looks := false }, kinds := [], alts := [], laidByText := true, laidKinds := [.data, .pinned], laidTests := true, laidLooks := .later }
def FnExactFacingPairsUptoCardSaid : Prop := Claim7.holds Tryd.pinned (.plain (OpenSpec.upto fnExactFacingPairsSpec)) fnExactFacingPairsUptoCard

/-- THE SECOND FORM's CARD OF 'laws.FnExactIsAtRest'. -/
def fnExactIsAtRestUptoCard : Claim7 := { stood := { row := fnExactIsAtRestUptoRow, standIns := [], harness := (true, "c9e4bc69358b0c3f6d4b461ab05e8337fe2c9ea56b7e1766ffd4d15afa503d67"), looks := false }, kinds := [], alts := [], laidByText := true, laidKinds := [.data, .pinned], laidTests := true, laidLooks := .later }
def FnExactIsAtRestUptoCardSaid : Prop := Claim7.holds Tryd.pinned (.plain (OpenSpec.upto fnExactIsAtRestSpec)) fnExactIsAtRestUptoCard

/-- THE SECOND FORM's CARD OF 'laws.FnExactTurnedRow'. -/
def fnExactTurnedRowUptoCard : Claim7 := { stood := { row := fnExactTurnedRowUptoRow, standIns := [], harness := (true, "c9e4bc69358b0c3f6d4b461ab05e8337fe2c9ea56b7e1766ffd4d15afa503d67"), looks := false }, kinds := [], alts := [], laidByText := true, laidKinds := [.data, .pinned], laidTests := true, laidLooks := .later }
def FnExactTurnedRowUptoCardSaid : Prop := Claim7.holds Tryd.pinned (.plain (OpenSpec.upto fnExactTurnedRowSpec)) fnExactTurnedRowUptoCard
end Rows
end Go.Proofs.YthaajflhjblkeaaDoor
