/-
  DERIVED. GIVEN WITH THE SEED: THE CARDS: each row of YtfkbacdaoeecdadDoorRows.lean that lists a variable, with what it lists TIED to the program's text (the seventh form; the later family's looks); each row that meets fmt, with fmt's text TOLD by the authors' own Lean function (tested against real Go, not proved from fmt's source: count such statements apart). THE CARD IS WHAT COUNTS. Prove the row's statement (the work); the ties are given (YtfkbacdaoeecdadDoorTie.lean); close each card by the builder's one call (the guide's Derived/Test/ToyasCard.lean, 'card_holds'). Laid BY PROGRAM, IN A SANDBOX (cutbox-door.mjs). By AI agents, Wed Nov 11 2026. No macro, syntax, notation, axiom, sorry.
-/
import Derived.Test.YtfkbacdaoeecdadDoorRows
import GoSem.ClaimSeven
namespace Go.Proofs.YtfkbacdaoeecdadDoor
namespace Rows

/-- THE TIED CARD OF 'laws.FnExactRowAfter'. -/
def fnExactRowAfterCard : Claim7 := { stood := { row := fnExactRowAfterRow, standIns := [], harness := (true, "3fafb34cfa31ac0e3f38fdbe8315fa257a0da57df2dc4be3303152514debb7e2"), looks := false }, kinds := [], alts := [], laidByText := true, laidKinds := [.data, .pinned], laidTests := true, laidLooks := .later }
def FnExactRowAfterCardSaid : Prop := Claim7.holds Tryd.pinned (.plain (OpenSpec.ofChange fnExactRowAfterSpec)) fnExactRowAfterCard

/-- THE TIED CARD OF 'laws.FnExactTicksToRest'. -/
def fnExactTicksToRestCard : Claim7 := { stood := { row := fnExactTicksToRestRow, standIns := [], harness := (true, "3fafb34cfa31ac0e3f38fdbe8315fa257a0da57df2dc4be3303152514debb7e2"), looks := false }, kinds := [], alts := [], laidByText := true, laidKinds := [.data, .pinned], laidTests := true, laidLooks := .later }
def FnExactTicksToRestCardSaid : Prop := Claim7.holds Tryd.pinned (.plain (OpenSpec.ofChange fnExactTicksToRestSpec)) fnExactTicksToRestCard

/-- THE TIED CARD OF 'laws.FnExactRestOf'. -/
def fnExactRestOfCard : Claim7 := { stood := { row := fnExactRestOfRow, standIns := [], harness := (true, "3fafb34cfa31ac0e3f38fdbe8315fa257a0da57df2dc4be3303152514debb7e2"), looks := false }, kinds := [], alts := [], laidByText := true, laidKinds := [.data, .pinned], laidTests := true, laidLooks := .later }
def FnExactRestOfCardSaid : Prop := Claim7.holds Tryd.pinned (.plain (OpenSpec.ofChange fnExactRestOfSpec)) fnExactRestOfCard

/-- THE TIED CARD OF 'laws.FnExactHasBefore'. -/
def fnExactHasBeforeCard : Claim7 := { stood := { row := fnExactHasBeforeRow, standIns := [], harness := (true, "3fafb34cfa31ac0e3f38fdbe8315fa257a0da57df2dc4be3303152514debb7e2"), looks := false }, kinds := [], alts := [], laidByText := true, laidKinds := [.data, .pinned], laidTests := true, laidLooks := .later }
def FnExactHasBeforeCardSaid : Prop := Claim7.holds Tryd.pinned (.plain (OpenSpec.ofChange fnExactHasBeforeSpec)) fnExactHasBeforeCard

/-- THE SECOND FORM's CARD OF 'laws.FnExactRowAfter'. -/
def fnExactRowAfterUptoCard : Claim7 := { stood := { row := fnExactRowAfterUptoRow, standIns := [], harness := (true, "3fafb34cfa31ac0e3f38fdbe8315fa257a0da57df2dc4be3303152514debb7e2"), looks := false }, kinds := [], alts := [], laidByText := true, laidKinds := [.data, .pinned], laidTests := true, laidLooks := .later }
def FnExactRowAfterUptoCardSaid : Prop := Claim7.holds Tryd.pinned (.plain (OpenSpec.upto fnExactRowAfterSpec)) fnExactRowAfterUptoCard

/-- THE SECOND FORM's CARD OF 'laws.FnExactTicksToRest'. -/
def fnExactTicksToRestUptoCard : Claim7 := { stood := { row := fnExactTicksToRestUptoRow, standIns := [], harness := (true, "3fafb34cfa31ac0e3f38fdbe8315fa257a0da57df2dc4be3303152514debb7e2"), looks := false }, kinds := [], alts := [], laidByText := true, laidKinds := [.data, .pinned], laidTests := true, laidLooks := .later }
def FnExactTicksToRestUptoCardSaid : Prop := Claim7.holds Tryd.pinned (.plain (OpenSpec.upto fnExactTicksToRestSpec)) fnExactTicksToRestUptoCard

/-- THE SECOND FORM's CARD OF 'laws.FnExactRestOf'. -/
def fnExactRestOfUptoCard : Claim7 := { stood := { row := fnExactRestOfUptoRow, standIns := [], harness := (true, "3fafb34cfa31ac0e3f38fdbe8315fa257a0da57df2dc4be3303152514debb7e2"), looks := false }, kinds := [], alts := [], laidByText := true, laidKinds := [.data, .pinned], laidTests := true, laidLooks := .later }
def FnExactRestOfUptoCardSaid : Prop := Claim7.holds Tryd.pinned (.plain (OpenSpec.upto fnExactRestOfSpec)) fnExactRestOfUptoCard

/-- THE SECOND FORM's CARD OF 'laws.FnExactHasBefore'. -/
def fnExactHasBeforeUptoCard : Claim7 := { stood := { row := fnExactHasBeforeUptoRow, standIns := [], harness := (true, "3fafb34cfa31ac0e3f38fdbe8315fa257a0da57df2dc4be3303152514debb7e2"), looks := false }, kinds := [], alts := [], laidByText := true, laidKinds := [.data, .pinned], laidTests := true, laidLooks := .later }
def FnExactHasBeforeUptoCardSaid : Prop := Claim7.holds Tryd.pinned (.plain (OpenSpec.upto fnExactHasBeforeSpec)) fnExactHasBeforeUptoCard
end Rows
end Go.Proofs.YtfkbacdaoeecdadDoor
