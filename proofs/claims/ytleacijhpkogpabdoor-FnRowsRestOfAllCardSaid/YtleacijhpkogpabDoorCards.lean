/-
  DERIVED. GIVEN WITH THE SEED: THE CARDS: each row of YtleacijhpkogpabDoorRows.lean that lists a variable, with what it lists TIED to the program's text (the seventh form; the later family's looks); each row that meets fmt, with fmt's text TOLD by the authors' own Lean function (tested against real Go, not proved from fmt's source: count such statements apart). THE CARD IS WHAT COUNTS. Prove the row's statement (the work); the ties are given (YtleacijhpkogpabDoorTie.lean); close each card by the builder's one call (the guide's Derived/Test/ToyasCard.lean, 'card_holds'). Laid BY PROGRAM, IN A SANDBOX (cutbox-door.mjs). By AI agents, Wed Nov 11 2026. No macro, syntax, notation, axiom, sorry.
-/
import Derived.Test.YtleacijhpkogpabDoorRows
import GoSem.ClaimSeven
namespace Go.Proofs.YtleacijhpkogpabDoor
namespace Rows

/-- THE TIED CARD OF 'laws.FnExactMirrorRow'. -/
def fnExactMirrorRowCard : Claim7 := { stood := { row := fnExactMirrorRowRow, standIns := [], harness := (true, "51ee3c6b574dd2dd55b48bc2f2c77579566f1f6ab23d55700a25b43efd6b00c4"), looks := false }, kinds := [], alts := [], laidByText := true, laidKinds := [.data, .pinned], laidTests := true, laidLooks := .later }
def FnExactMirrorRowCardSaid : Prop := Claim7.holds Tryd.pinned (.plain (OpenSpec.ofChange fnExactMirrorRowSpec)) fnExactMirrorRowCard

/-- THE TIED CARD OF 'laws.FnExactCountTurns'. -/
def fnExactCountTurnsCard : Claim7 := { stood := { row := fnExactCountTurnsRow, standIns := [], harness := (true, "51ee3c6b574dd2dd55b48bc2f2c77579566f1f6ab23d55700a25b43efd6b00c4"), looks := false }, kinds := [], alts := [], laidByText := true, laidKinds := [.data, .pinned], laidTests := true, laidLooks := .later }
def FnExactCountTurnsCardSaid : Prop := Claim7.holds Tryd.pinned (.plain (OpenSpec.ofChange fnExactCountTurnsSpec)) fnExactCountTurnsCard

/-- THE TIED CARD OF 'laws.FnExactTurnsOfEach'. -/
def fnExactTurnsOfEachCard : Claim7 := { stood := { row := fnExactTurnsOfEachRow, standIns := [], harness := (true, "51ee3c6b574dd2dd55b48bc2f2c77579566f1f6ab23d55700a25b43efd6b00c4"), looks := false }, kinds := [], alts := [], laidByText := true, laidKinds := [.data, .pinned], laidTests := true, laidLooks := .later }
def FnExactTurnsOfEachCardSaid : Prop := Claim7.holds Tryd.pinned (.plain (OpenSpec.ofChange fnExactTurnsOfEachSpec)) fnExactTurnsOfEachCard

/-- THE TIED CARD OF 'laws.FnRowsBeforeOfAll'. -/
def fnRowsBeforeOfAllCard : Claim7 := { stood := { row := fnRowsBeforeOfAllRow, standIns := [], harness := (true, "51ee3c6b574dd2dd55b48bc2f2c77579566f1f6ab23d55700a25b43efd6b00c4"), looks := false }, kinds := [], alts := [], laidByText := true, laidKinds := [.data, .pinned], laidTests := true, laidLooks := .later }
def FnRowsBeforeOfAllCardSaid : Prop := Claim7.holds Tryd.pinned (.plain (OpenSpec.ofChange fnRowsBeforeOfAllSpec)) fnRowsBeforeOfAllCard

/-- THE TIED CARD OF 'laws.FnRowsRestOfAll'. -/
def fnRowsRestOfAllCard : Claim7 := { stood := { row := fnRowsRestOfAllRow, standIns := [], harness := (true, "51ee3c6b574dd2dd55b48bc2f2c77579566f1f6ab23d55700a25b43efd6b00c4"), looks := false }, kinds := [], alts := [], laidByText := true, laidKinds := [.data, .pinned], laidTests := true, laidLooks := .later }
def FnRowsRestOfAllCardSaid : Prop := Claim7.holds Tryd.pinned (.plain (OpenSpec.ofChange fnRowsRestOfAllSpec)) fnRowsRestOfAllCard

/-- THE SECOND FORM's CARD OF 'laws.FnExactMirrorRow'. -/
def fnExactMirrorRowUptoCard : Claim7 := { stood := { row := fnExactMirrorRowUptoRow, standIns := [], harness := (true, "51ee3c6b574dd2dd55b48bc2f2c77579566f1f6ab23d55700a25b43efd6b00c4"), looks := false }, kinds := [], alts := [], laidByText := true, laidKinds := [.data, .pinned], laidTests := true, laidLooks := .later }
def FnExactMirrorRowUptoCardSaid : Prop := Claim7.holds Tryd.pinned (.plain (OpenSpec.upto fnExactMirrorRowSpec)) fnExactMirrorRowUptoCard

/-- THE SECOND FORM's CARD OF 'laws.FnExactCountTurns'. -/
def fnExactCountTurnsUptoCard : Claim7 := { stood := { row := fnExactCountTurnsUptoRow, standIns := [], harness := (true, "51ee3c6b574dd2dd55b48bc2f2c77579566f1f6ab23d55700a25b43efd6b00c4"), looks := false }, kinds := [], alts := [], laidByText := true, laidKinds := [.data, .pinned], laidTests := true, laidLooks := .later }
def FnExactCountTurnsUptoCardSaid : Prop := Claim7.holds Tryd.pinned (.plain (OpenSpec.upto fnExactCountTurnsSpec)) fnExactCountTurnsUptoCard

/-- THE SECOND FORM's CARD OF 'laws.FnExactTurnsOfEach'. -/
def fnExactTurnsOfEachUptoCard : Claim7 := { stood := { row := fnExactTurnsOfEachUptoRow, standIns := [], harness := (true, "51ee3c6b574dd2dd55b48bc2f2c77579566f1f6ab23d55700a25b43efd6b00c4"), looks := false }, kinds := [], alts := [], laidByText := true, laidKinds := [.data, .pinned], laidTests := true, laidLooks := .later }
def FnExactTurnsOfEachUptoCardSaid : Prop := Claim7.holds Tryd.pinned (.plain (OpenSpec.upto fnExactTurnsOfEachSpec)) fnExactTurnsOfEachUptoCard

/-- THE SECOND FORM's CARD OF 'laws.FnRowsBeforeOfAll'. -/
def fnRowsBeforeOfAllUptoCard : Claim7 := { stood := { row := fnRowsBeforeOfAllUptoRow, standIns := [], harness := (true, "51ee3c6b574dd2dd55b48bc2f2c77579566f1f6ab23d55700a25b43efd6b00c4"), looks := false }, kinds := [], alts := [], laidByText := true, laidKinds := [.data, .pinned], laidTests := true, laidLooks := .later }
def FnRowsBeforeOfAllUptoCardSaid : Prop := Claim7.holds Tryd.pinned (.plain (OpenSpec.upto fnRowsBeforeOfAllSpec)) fnRowsBeforeOfAllUptoCard

/-- THE SECOND FORM's CARD OF 'laws.FnRowsRestOfAll'. -/
def fnRowsRestOfAllUptoCard : Claim7 := { stood := { row := fnRowsRestOfAllUptoRow, standIns := [], harness := (true, "51ee3c6b574dd2dd55b48bc2f2c77579566f1f6ab23d55700a25b43efd6b00c4"), looks := false }, kinds := [], alts := [], laidByText := true, laidKinds := [.data, .pinned], laidTests := true, laidLooks := .later }
def FnRowsRestOfAllUptoCardSaid : Prop := Claim7.holds Tryd.pinned (.plain (OpenSpec.upto fnRowsRestOfAllSpec)) fnRowsRestOfAllUptoCard
end Rows
end Go.Proofs.YtleacijhpkogpabDoor
