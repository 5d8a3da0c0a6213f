/-
  DERIVED. GIVEN WITH THE SEED: THE CARDS: each row of YtleacijhpkogpaaDoorRows.lean that lists a variable, with what it lists TIED to the program's text (the seventh form; the later family's looks); each row that meets fmt, with fmt's text TOLD by the authors' own Lean function (tested against real Go, not proved from fmt's source: count such statements apart). THE CARD IS WHAT COUNTS. Prove the row's statement (the work); the ties are given (YtleacijhpkogpaaDoorTie.lean); close each card by the builder's one call (the guide's Derived/Test/ToyasCard.lean, 'card_holds'). Laid BY PROGRAM, IN A SANDBOX (cutbox-door.mjs). By AI agents, Wed Nov 11 2026. No macro, syntax, notation, axiom, sorry.
-/
import Derived.Test.YtleacijhpkogpaaDoorRows
import GoSem.ClaimSeven
namespace Go.Proofs.YtleacijhpkogpaaDoor
namespace Rows

/-- THE TIED CARD OF 'laws.FnExactRowsBefore'. -/
def fnExactRowsBeforeCard : Claim7 := { stood := { row := fnExactRowsBeforeRow, standIns := [], harness := (true, "8f9e5b37fb1824be07b826592cd8970bb9e6bd33ed6202a31ab41f8cdf724c38"), looks := false }, kinds := [], alts := [], laidByText := true, laidKinds := [.data, .pinned], laidTests := true, laidLooks := .later }
def FnExactRowsBeforeCardSaid : Prop := Claim7.holds Tryd.pinned (.plain (OpenSpec.ofChange fnExactRowsBeforeSpec)) fnExactRowsBeforeCard

/-- THE TIED CARD OF 'laws.FnExactSumOfTicks'. -/
def fnExactSumOfTicksCard : Claim7 := { stood := { row := fnExactSumOfTicksRow, standIns := [], harness := (true, "8f9e5b37fb1824be07b826592cd8970bb9e6bd33ed6202a31ab41f8cdf724c38"), looks := false }, kinds := [], alts := [], laidByText := true, laidKinds := [.data, .pinned], laidTests := true, laidLooks := .later }
def FnExactSumOfTicksCardSaid : Prop := Claim7.holds Tryd.pinned (.plain (OpenSpec.ofChange fnExactSumOfTicksSpec)) fnExactSumOfTicksCard

/-- THE TIED CARD OF 'laws.FnExactCountByTicks'. -/
def fnExactCountByTicksCard : Claim7 := { stood := { row := fnExactCountByTicksRow, standIns := [], harness := (true, "8f9e5b37fb1824be07b826592cd8970bb9e6bd33ed6202a31ab41f8cdf724c38"), looks := false }, kinds := [], alts := [], laidByText := true, laidKinds := [.data, .pinned], laidTests := true, laidLooks := .later }
def FnExactCountByTicksCardSaid : Prop := Claim7.holds Tryd.pinned (.plain (OpenSpec.ofChange fnExactCountByTicksSpec)) fnExactCountByTicksCard

/-- THE TIED CARD OF 'laws.FnExactLongestTicks'. -/
def fnExactLongestTicksCard : Claim7 := { stood := { row := fnExactLongestTicksRow, standIns := [], harness := (true, "8f9e5b37fb1824be07b826592cd8970bb9e6bd33ed6202a31ab41f8cdf724c38"), looks := false }, kinds := [], alts := [], laidByText := true, laidKinds := [.data, .pinned], laidTests := true, laidLooks := .later }
def FnExactLongestTicksCardSaid : Prop := Claim7.holds Tryd.pinned (.plain (OpenSpec.ofChange fnExactLongestTicksSpec)) fnExactLongestTicksCard

/-- THE TIED CARD OF 'laws.FnExactFirstLongest'. -/
def fnExactFirstLongestCard : Claim7 := { stood := { row := fnExactFirstLongestRow, standIns := [], harness := (true, "8f9e5b37fb1824be07b826592cd8970bb9e6bd33ed6202a31ab41f8cdf724c38"), looks := false }, kinds := [], alts := [], laidByText := true, laidKinds := [.data, .pinned], laidTests := true, laidLooks := .later }
def FnExactFirstLongestCardSaid : Prop := Claim7.holds Tryd.pinned (.plain (OpenSpec.ofChange fnExactFirstLongestSpec)) fnExactFirstLongestCard

/-- THE SECOND FORM's CARD OF 'laws.FnExactRowsBefore'. -/
def fnExactRowsBeforeUptoCard : Claim7 := { stood := { row := fnExactRowsBeforeUptoRow, standIns := [], harness := (true, "8f9e5b37fb1824be07b826592cd8970bb9e6bd33ed6202a31ab41f8cdf724c38"), looks := false }, kinds := [], alts := [], laidByText := true, laidKinds := [.data, .pinned], laidTests := true, laidLooks := .later }
def FnExactRowsBeforeUptoCardSaid : Prop := Claim7.holds Tryd.pinned (.plain (OpenSpec.upto fnExactRowsBeforeSpec)) fnExactRowsBeforeUptoCard

/-- THE SECOND FORM's CARD OF 'laws.FnExactSumOfTicks'. -/
def fnExactSumOfTicksUptoCard : Claim7 := { stood := { row := fnExactSumOfTicksUptoRow, standIns := [], harness := (true, "8f9e5b37fb1824be07b826592cd8970bb9e6bd33ed6202a31ab41f8cdf724c38"), looks := false }, kinds := [], alts := [], laidByText := true, laidKinds := [.data, .pinned], laidTests := true, laidLooks := .later }
def FnExactSumOfTicksUptoCardSaid : Prop := Claim7.holds Tryd.pinned (.plain (OpenSpec.upto fnExactSumOfTicksSpec)) fnExactSumOfTicksUptoCard

/-- THE SECOND FORM's CARD OF 'laws.FnExactCountByTicks'. -/
def fnExactCountByTicksUptoCard : Claim7 := { stood := { row := fnExactCountByTicksUptoRow, standIns := [], harness := (true, "8f9e5b37fb1824be07b826592cd8970bb9e6bd33ed6202a31ab41f8cdf724c38"), looks := false }, kinds := [], alts := [], laidByText := true, laidKinds := [.data, .pinned], laidTests := true, laidLooks := .later }
def FnExactCountByTicksUptoCardSaid : Prop := Claim7.holds Tryd.pinned (.plain (OpenSpec.upto fnExactCountByTicksSpec)) fnExactCountByTicksUptoCard

/-- THE SECOND FORM's CARD OF 'laws.FnExactLongestTicks'. -/
def fnExactLongestTicksUptoCard : Claim7 := { stood := { row := fnExactLongestTicksUptoRow, standIns := [], harness := (true, "8f9e5b37fb1824be07b826592cd8970bb9e6bd33ed6202a31ab41f8cdf724c38"), looks := false }, kinds := [], alts := [], laidByText := true, laidKinds := [.data, .pinned], laidTests := true, laidLooks := .later }
def FnExactLongestTicksUptoCardSaid : Prop := Claim7.holds Tryd.pinned (.plain (OpenSpec.upto fnExactLongestTicksSpec)) fnExactLongestTicksUptoCard

/-- THE SECOND FORM's CARD OF 'laws.FnExactFirstLongest'. -/
def fnExactFirstLongestUptoCard : Claim7 := { stood := { row := fnExactFirstLongestUptoRow, standIns := [], harness := (true, "8f9e5b37fb1824be07b826592cd8970bb9e6bd33ed6202a31ab41f8cdf724c38"), looks := false }, kinds := [], alts := [], laidByText := true, laidKinds := [.data, .pinned], laidTests := true, laidLooks := .later }
def FnExactFirstLongestUptoCardSaid : Prop := Claim7.holds Tryd.pinned (.plain (OpenSpec.upto fnExactFirstLongestSpec)) fnExactFirstLongestUptoCard
end Rows
end Go.Proofs.YtleacijhpkogpaaDoor
