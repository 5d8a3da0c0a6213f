/-
  DERIVED. GIVEN WITH THE SEED: THE CARDS: each row of YthaajflhjblkeacDoorRows.lean that lists a variable, with what it lists TIED to the program's text (the seventh form; the later family's looks); each row that meets fmt, with fmt's text TOLD by the authors' own Lean function (tested against real Go, not proved from fmt's source: count such statements apart). THE CARD IS WHAT COUNTS. Prove the row's statement (the work); the ties are given (YthaajflhjblkeacDoorTie.lean); close each card by the builder's one call (the guide's Derived/Test/ToyasCard.lean, 'card_holds'). Laid BY PROGRAM, IN A SANDBOX (cutbox-door.mjs). By AI agents, Wed Nov 11 2026. No macro, syntax, notation, axiom, sorry.
-/
import Derived.Test.YthaajflhjblkeacDoorRows
import GoSem.ClaimSeven
namespace Go.Proofs.YthaajflhjblkeacDoor
namespace Rows

/-- THE TIED CARD OF 'laws.FnExactCountTurns'. -/
def fnExactCountTurnsCard : Claim7 := { stood := { row := fnExactCountTurnsRow, standIns := [], harness := (true, "f1de9ae07cd6cb590fcff2c286f97ddb0bb04f8428bb1262fa34bbf988600b5f"), looks := false }, kinds := [], alts := [], laidByText := true, laidKinds := [.data, .pinned], laidTests := true, laidLooks := .later }
def FnExactCountTurnsCardSaid : Prop := Claim7.holds Tryd.pinned (.plain (OpenSpec.ofChange fnExactCountTurnsSpec)) fnExactCountTurnsCard

/-- THE TIED CARD OF 'laws.FnExactTurnsOfEach'. -/
def fnExactTurnsOfEachCard : Claim7 := { stood := { row := fnExactTurnsOfEachRow, standIns := [], harness := (true, "f1de9ae07cd6cb590fcff2c286f97ddb0bb04f8428bb1262fa34bbf988600b5f"), looks := false }, kinds := [], alts := [], laidByText := true, laidKinds := [.data, .pinned], laidTests := true, laidLooks := .later }
def FnExactTurnsOfEachCardSaid : Prop := Claim7.holds Tryd.pinned (.plain (OpenSpec.ofChange fnExactTurnsOfEachSpec)) fnExactTurnsOfEachCard

/-- THE TIED CARD OF 'laws.FnExactRowsBefore'. -/
def fnExactRowsBeforeCard : Claim7 := { stood := { row := fnExactRowsBeforeRow, standIns := [], harness := (true, "f1de9ae07cd6cb590fcff2c286f97ddb0bb04f8428bb1262fa34bbf988600b5f"), looks := false }, kinds := [], alts := [], laidByText := true, laidKinds := [.data, .pinned], laidTests := true, laidLooks := .later }
def FnExactRowsBeforeCardSaid : Prop := Claim7.holds Tryd.pinned (.plain (OpenSpec.ofChange fnExactRowsBeforeSpec)) fnExactRowsBeforeCard

/-- THE TIED CARD OF 'laws.FnExactHasBefore'. -/
def fnExactHasBeforeCard : Claim7 := { stood := { row := fnExactHasBeforeRow, standIns := [], harness := (true, "f1de9ae07cd6cb590fcff2c286f97ddb0bb04f8428bb1262fa34bbf988600b5f"), looks := false }, kinds := [], alts := [], laidByText := true, laidKinds := [.data, .pinned], laidTests := true, laidLooks := .later }
def FnExactHasBeforeCardSaid : Prop := Claim7.holds Tryd.pinned (.plain (OpenSpec.ofChange fnExactHasBeforeSpec)) fnExactHasBeforeCard

/-- THE TIED CARD OF 'laws.FnExactSumOfTicks'. -/
def fnExactSumOfTicksCard : Claim7 := { stood := { row := fnExactSumOfTicksRow, standIns := [], harness := (true, "f1de9ae07cd6cb590fcff2c286f97ddb0bb04f8428bb1262fa34bbf988600b5f"), looks := false }, kinds := [], alts := [], laidByText := true, laidKinds := [.data, .pinned], laidTests := true, laidLooks := .later }
def FnExactSumOfTicksCardSaid : Prop := Claim7.holds Tryd.pinned (.plain (OpenSpec.ofChange fnExactSumOfTicksSpec)) fnExactSumOfTicksCard

/-- THE SECOND FORM's CARD OF 'laws.FnExactCountTurns'. -/
def fnExactCountTurnsUptoCard : Claim7 := { stood := { row := fnExactCountTurnsUptoRow, standIns := [], harness := (true, "f1de9ae07cd6cb590fcff2c286f97ddb0bb04f8428bb1262fa34bbf988600b5f"), looks := false }, kinds := [], alts := [], laidByText := true, laidKinds := [.data, .pinned], laidTests := true, laidLooks := .later }
def FnExactCountTurnsUptoCardSaid : Prop := Claim7.holds Tryd.pinned (.plain (OpenSpec.upto fnExactCountTurnsSpec)) fnExactCountTurnsUptoCard

/-- THE SECOND FORM's CARD OF 'laws.FnExactTurnsOfEach'. -/
def fnExactTurnsOfEachUptoCard : Claim7 := { stood := { row := fnExactTurnsOfEachUptoRow, standIns := [], harness := (true, "f1de9ae07cd6cb590fcff2c286f97ddb0bb04f8428bb1262fa34bbf988600b5f"), looks := false }, kinds := [], alts := [], laidByText := true, laidKinds := [.data, .pinned], laidTests := true, laidLooks := .later }
def FnExactTurnsOfEachUptoCardSaid : Prop := Claim7.holds Tryd.pinned (.plain (OpenSpec.upto fnExactTurnsOfEachSpec)) fnExactTurnsOfEachUptoCard

/-- THE SECOND FORM's CARD OF 'laws.FnExactRowsBefore'. -/
def fnExactRowsBeforeUptoCard : Claim7 := { stood := { row := fnExactRowsBeforeUptoRow, standIns := [], harness := (true, "f1de9ae07cd6cb590fcff2c286f97ddb0bb04f8428bb1262fa34bbf988600b5f"), looks := false }, kinds := [], alts := [], laidByText := true, laidKinds := [.data, .pinned], laidTests := true, laidLooks := .later }
def FnExactRowsBeforeUptoCardSaid : Prop := Claim7.holds Tryd.pinned (.plain (OpenSpec.upto fnExactRowsBeforeSpec)) fnExactRowsBeforeUptoCard

/-- THE SECOND FORM's CARD OF 'laws.FnExactHasBefore'. -/
def fnExactHasBeforeUptoCard : Claim7 := { stood := { row := fnExactHasBeforeUptoRow, standIns := [], harness := (true, "f1de9ae07cd6cb590fcff2c286f97ddb0bb04f8428bb1262fa34bbf988600b5f"), looks := false }, kinds := [], alts := [], laidByText := true, laidKinds := [.data, .pinned], laidTests := true, laidLooks := .later }
def FnExactHasBeforeUptoCardSaid : Prop := Claim7.holds Tryd.pinned (.plain (OpenSpec.upto fnExactHasBeforeSpec)) fnExactHasBeforeUptoCard

/-- THE SECOND FORM's CARD OF 'laws.FnExactSumOfTicks'. -/
def fnExactSumOfTicksUptoCard : Claim7 := { stood := { row := fnExactSumOfTicksUptoRow, standIns := [], harness := (true, "f1de9ae07cd6cb590fcff2c286f97ddb0bb04f8428bb1262fa34bbf988600b5f"), looks := false }, kinds := [], alts := [], laidByText := true, laidKinds := [.data, .pinned], laidTests := true, laidLooks := .later }
def FnExactSumOfTicksUptoCardSaid : Prop := Claim7.holds Tryd.pinned (.plain (OpenSpec.upto fnExactSumOfTicksSpec)) fnExactSumOfTicksUptoCard
end Rows
end Go.Proofs.YthaajflhjblkeacDoor
