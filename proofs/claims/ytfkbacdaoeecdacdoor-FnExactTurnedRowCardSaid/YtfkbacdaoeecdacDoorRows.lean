/-
  NARROWER THAN 'FOR EVERY INPUT', by the rows' own cells (each row's printed sentence says how): FnExactIsRow: laid · FnExactNumberOfRow: laid · FnExactFacingPairs: laid · FnExactIsAtRest: laid · FnExactTurnedRow: laid · FnExactTickRow: laid.
  DERIVED. THE GIVEN ROWS OF THIS SEAT. 6 by the template 'for every input the law returns true; each argument reads behind the call as it read before'; 0 by the template 'total and deterministic' (their statements: YtfkbacdaoeecdacDoorTotals.lean).
  GIVEN WITH THE SEED: the statements are not yours to turn. If you find one false, say at which input.
  Laid BY PROGRAM, IN A SANDBOX (cutbox-rows.mjs): the forced cells as the released guide's own fill.sh prints them over the translation 1565cb8d05cb9168… (all of the seat's roots in one cut). By AI agents, Wed Nov 11 2026. No macro, syntax, notation, axiom, sorry.
-/
import Derived.Test.YtfkbacdaoeecdacDoorChecked
import GoSem.PinnedTables
import GoSem.Claim
import GoSem.ClaimJoined
import GoSem.ClaimMapViews
import Derived.JoinedTies
import Derived.KernelRfl
namespace Go.Proofs.YtfkbacdaoeecdacDoor
/- THE CELL 'sum', in the pinned program and in every row, IS THE sha256 OF THE DUMP (.gsa) THAT YtfkbacdaoeecdacDoorProg.lean LOADS. Nothing in Lean hashes anything: it is a label: what it is worth is what the hold of that sum in a sandbox is worth. -/
noncomputable def Tryd.pinned : Pinned := { name := "ytfkbacdaoeecdacdoor", sum := "1565cb8d05cb91685638249bfcf5563fb479cfe6c7e8f038c04f58eccb634a28", checked := Tryd.checked }
namespace Rows
def none {H : Type} : Left H := { results := [], args := [] }

/- WHAT THE LISTED PACKAGE-LEVEL VARIABLES READ AS WHEN THE CALL BEGINS. Each datum BY PROGRAM (the guide's laid-datum.mjs) off the statement by which the dump's own 'gosem.cut.vars' lays the variable. In a bare row this is a premise. The card (YtfkbacdaoeecdacDoorCards.lean) ties it to the program's text. -/
def laid_unicode_utf8_acceptRanges {H : Type} : DataW H := .agg [.agg [.lit (.int .u8 128), .lit (.int .u8 191)], .agg [.lit (.int .u8 160), .lit (.int .u8 191)], .agg [.lit (.int .u8 128), .lit (.int .u8 159)], .agg [.lit (.int .u8 144), .lit (.int .u8 191)], .agg [.lit (.int .u8 128), .lit (.int .u8 143)], .agg [.lit (.int .u8 0), .lit (.int .u8 0)], .agg [.lit (.int .u8 0), .lit (.int .u8 0)], .agg [.lit (.int .u8 0), .lit (.int .u8 0)], .agg [.lit (.int .u8 0), .lit (.int .u8 0)], .agg [.lit (.int .u8 0), .lit (.int .u8 0)], .agg [.lit (.int .u8 0), .lit (.int .u8 0)], .agg [.lit (.int .u8 0), .lit (.int .u8 0)], .agg [.lit (.int .u8 0), .lit (.int .u8 0)], .agg [.lit (.int .u8 0), .lit (.int .u8 0)], .agg [.lit (.int .u8 0), .lit (.int .u8 0)], .agg [.lit (.int .u8 0), .lit (.int .u8 0)]]
/-- One of Go's own tables, pinned by name: the form's constant. -/
def laid_unicode_utf8_first : DataW Unit := Go.Pinned.utf8First

/-- 'laws.FnExactIsRow': WHATEVER THE INPUT: true; the input reads as it did. -/
def fnExactIsRowSpec : ChangeSpec := { name := "fnExactIsRow", fn := fun _ => fun
  | [d] => { results := [.lit (.bool true)], args := [d] }
  | _ => none }
def fnExactIsRowRow : OpenClaim := { program := "ytfkbacdaoeecdacdoor", sum := "1565cb8d05cb91685638249bfcf5563fb479cfe6c7e8f038c04f58eccb634a28", func := "loop.example/g01332/laws.FnExactIsRow", spec := "fnExactIsRow", inPlace := ["internal/bytealg.IndexByteString", "internal/bytealg.IndexString"], named := ["unicode/utf8.first", "unicode/utf8.acceptRanges", "internal/bytealg.MaxLen"], apart := false, laid := [("unicode/utf8.acceptRanges", laid_unicode_utf8_acceptRanges), ("unicode/utf8.first", laid_unicode_utf8_first)] }
def FnExactIsRowSaid : Prop := fnExactIsRowRow.holds Tryd.pinned (OpenSpec.ofChange fnExactIsRowSpec)

/-- ITS FALSE NEIGHBOUR: 'it returns false'. Refute it at one input. -/
def fnExactIsRowWrong : ChangeSpec := { name := "fnExactIsRow", fn := fun _ => fun
  | [d] => { results := [.lit (.bool false)], args := [d] }
  | _ => none }
def FnExactIsRowWrongFalsely : Prop := fnExactIsRowRow.holds Tryd.pinned (OpenSpec.ofChange fnExactIsRowWrong)

/-- 'laws.FnExactNumberOfRow': WHATEVER THE INPUT: true; the input reads as it did. -/
def fnExactNumberOfRowSpec : ChangeSpec := { name := "fnExactNumberOfRow", fn := fun _ => fun
  | [d] => { results := [.lit (.bool true)], args := [d] }
  | _ => none }
def fnExactNumberOfRowRow : OpenClaim := { program := "ytfkbacdaoeecdacdoor", sum := "1565cb8d05cb91685638249bfcf5563fb479cfe6c7e8f038c04f58eccb634a28", func := "loop.example/g01332/laws.FnExactNumberOfRow", spec := "fnExactNumberOfRow", inPlace := ["internal/bytealg.IndexByteString", "internal/bytealg.IndexString"], named := ["unicode/utf8.first", "unicode/utf8.acceptRanges", "internal/bytealg.MaxLen"], apart := false, laid := [("unicode/utf8.acceptRanges", laid_unicode_utf8_acceptRanges), ("unicode/utf8.first", laid_unicode_utf8_first)] }
def FnExactNumberOfRowSaid : Prop := fnExactNumberOfRowRow.holds Tryd.pinned (OpenSpec.ofChange fnExactNumberOfRowSpec)

/-- ITS FALSE NEIGHBOUR: 'it returns false'. Refute it at one input. -/
def fnExactNumberOfRowWrong : ChangeSpec := { name := "fnExactNumberOfRow", fn := fun _ => fun
  | [d] => { results := [.lit (.bool false)], args := [d] }
  | _ => none }
def FnExactNumberOfRowWrongFalsely : Prop := fnExactNumberOfRowRow.holds Tryd.pinned (OpenSpec.ofChange fnExactNumberOfRowWrong)

/-- 'laws.FnExactFacingPairs': WHATEVER THE INPUT: true; the input reads as it did. -/
def fnExactFacingPairsSpec : ChangeSpec := { name := "fnExactFacingPairs", fn := fun _ => fun
  | [d] => { results := [.lit (.bool true)], args := [d] }
  | _ => none }
def fnExactFacingPairsRow : OpenClaim := { program := "ytfkbacdaoeecdacdoor", sum := "1565cb8d05cb91685638249bfcf5563fb479cfe6c7e8f038c04f58eccb634a28", func := "loop.example/g01332/laws.FnExactFacingPairs", spec := "fnExactFacingPairs", inPlace := ["internal/bytealg.IndexByteString", "internal/bytealg.IndexString"], named := ["unicode/utf8.first", "unicode/utf8.acceptRanges", "internal/bytealg.MaxLen"], apart := false, laid := [("unicode/utf8.acceptRanges", laid_unicode_utf8_acceptRanges), ("unicode/utf8.first", laid_unicode_utf8_first)] }
def FnExactFacingPairsSaid : Prop := fnExactFacingPairsRow.holds Tryd.pinned (OpenSpec.ofChange fnExactFacingPairsSpec)

/-- ITS FALSE NEIGHBOUR: 'it returns false'. Refute it at one input. -/
def fnExactFacingPairsWrong : ChangeSpec := { name := "fnExactFacingPairs", fn := fun _ => fun
  | [d] => { results := [.lit (.bool false)], args := [d] }
  | _ => none }
def FnExactFacingPairsWrongFalsely : Prop := fnExactFacingPairsRow.holds Tryd.pinned (OpenSpec.ofChange fnExactFacingPairsWrong)

/-- 'laws.FnExactIsAtRest': WHATEVER THE INPUT: true; the input reads as it did. -/
def fnExactIsAtRestSpec : ChangeSpec := { name := "fnExactIsAtRest", fn := fun _ => fun
  | [d] => { results := [.lit (.bool true)], args := [d] }
  | _ => none }
def fnExactIsAtRestRow : OpenClaim := { program := "ytfkbacdaoeecdacdoor", sum := "1565cb8d05cb91685638249bfcf5563fb479cfe6c7e8f038c04f58eccb634a28", func := "loop.example/g01332/laws.FnExactIsAtRest", spec := "fnExactIsAtRest", inPlace := ["internal/bytealg.IndexByteString", "internal/bytealg.IndexString"], named := ["unicode/utf8.first", "unicode/utf8.acceptRanges", "internal/bytealg.MaxLen"], apart := false, laid := [("unicode/utf8.acceptRanges", laid_unicode_utf8_acceptRanges), ("unicode/utf8.first", laid_unicode_utf8_first)] }
def FnExactIsAtRestSaid : Prop := fnExactIsAtRestRow.holds Tryd.pinned (OpenSpec.ofChange fnExactIsAtRestSpec)

/-- ITS FALSE NEIGHBOUR: 'it returns false'. Refute it at one input. -/
def fnExactIsAtRestWrong : ChangeSpec := { name := "fnExactIsAtRest", fn := fun _ => fun
  | [d] => { results := [.lit (.bool false)], args := [d] }
  | _ => none }
def FnExactIsAtRestWrongFalsely : Prop := fnExactIsAtRestRow.holds Tryd.pinned (OpenSpec.ofChange fnExactIsAtRestWrong)

/-- 'laws.FnExactTurnedRow': WHATEVER THE INPUT: true; the input reads as it did. -/
def fnExactTurnedRowSpec : ChangeSpec := { name := "fnExactTurnedRow", fn := fun _ => fun
  | [d] => { results := [.lit (.bool true)], args := [d] }
  | _ => none }
def fnExactTurnedRowRow : OpenClaim := { program := "ytfkbacdaoeecdacdoor", sum := "1565cb8d05cb91685638249bfcf5563fb479cfe6c7e8f038c04f58eccb634a28", func := "loop.example/g01332/laws.FnExactTurnedRow", spec := "fnExactTurnedRow", inPlace := ["internal/bytealg.IndexByteString", "internal/bytealg.IndexString", "internal/abi.NoEscape", "internal/bytealg.MakeNoZero"], unfollowed := true, recurses := true, named := ["unicode/utf8.first", "unicode/utf8.acceptRanges", "internal/bytealg.MaxLen"], apart := false, laid := [("unicode/utf8.acceptRanges", laid_unicode_utf8_acceptRanges), ("unicode/utf8.first", laid_unicode_utf8_first)] }
def FnExactTurnedRowSaid : Prop := fnExactTurnedRowRow.holds Tryd.pinned (OpenSpec.ofChange fnExactTurnedRowSpec)

/-- ITS FALSE NEIGHBOUR: 'it returns false'. Refute it at one input. -/
def fnExactTurnedRowWrong : ChangeSpec := { name := "fnExactTurnedRow", fn := fun _ => fun
  | [d] => { results := [.lit (.bool false)], args := [d] }
  | _ => none }
def FnExactTurnedRowWrongFalsely : Prop := fnExactTurnedRowRow.holds Tryd.pinned (OpenSpec.ofChange fnExactTurnedRowWrong)

/-- 'laws.FnExactTickRow': WHATEVER THE INPUT: true; the input reads as it did. -/
def fnExactTickRowSpec : ChangeSpec := { name := "fnExactTickRow", fn := fun _ => fun
  | [d] => { results := [.lit (.bool true)], args := [d] }
  | _ => none }
def fnExactTickRowRow : OpenClaim := { program := "ytfkbacdaoeecdacdoor", sum := "1565cb8d05cb91685638249bfcf5563fb479cfe6c7e8f038c04f58eccb634a28", func := "loop.example/g01332/laws.FnExactTickRow", spec := "fnExactTickRow", inPlace := ["internal/bytealg.IndexByteString", "internal/bytealg.IndexString", "internal/bytealg.CountString", "internal/abi.NoEscape", "internal/bytealg.MakeNoZero"], named := ["unicode/utf8.first", "unicode/utf8.acceptRanges", "internal/bytealg.MaxLen"], apart := false, laid := [("unicode/utf8.acceptRanges", laid_unicode_utf8_acceptRanges), ("unicode/utf8.first", laid_unicode_utf8_first)] }
def FnExactTickRowSaid : Prop := fnExactTickRowRow.holds Tryd.pinned (OpenSpec.ofChange fnExactTickRowSpec)

/-- ITS FALSE NEIGHBOUR: 'it returns false'. Refute it at one input. -/
def fnExactTickRowWrong : ChangeSpec := { name := "fnExactTickRow", fn := fun _ => fun
  | [d] => { results := [.lit (.bool false)], args := [d] }
  | _ => none }
def FnExactTickRowWrongFalsely : Prop := fnExactTickRowRow.holds Tryd.pinned (OpenSpec.ofChange fnExactTickRowWrong)

/- THE SECOND FORM. 'bulk': how many values and letters a reading holds, each counted each time it is reached (what is shared counts as often as it is met; a slice's spare places count too). A statement '..UptoSaid' is the law's where the arguments, and the package variables that the reading takes, are together of bulk at most 1048576: NARROWER than '..Said'. Prove '..Said' where nothing that the law and all that it calls make is longer than what came in: it says more and counts as full. Else prove '..UptoSaid'. A law counts once. -/
mutual
def uptoBulk {H : Type} : DataW H → Nat
  | .lit (.string bytes) => bytes.length + 1
  | .lit _ => 1
  | .nil => 1
  | .ptr d => uptoBulk d + 1
  | .slice elems spare => uptoBulkAll elems + uptoBulkAll spare + 1
  | .agg parts => uptoBulkAll parts + 1
  | .iface _ d => uptoBulk d + 1
  | .map entries => uptoBulkEntries entries + 1
  | .held _ => 1
def uptoBulkAll {H : Type} : List (DataW H) → Nat
  | [] => 0
  | d :: r => uptoBulk d + uptoBulkAll r
def uptoBulkEntries {H : Type} : List (Lit × DataW H) → Nat
  | [] => 0
  | x :: r => uptoBulkEntry x + uptoBulkEntries r
def uptoBulkEntry {H : Type} : Lit × DataW H → Nat
  | (.string bytes, d) => bytes.length + uptoBulk d + 1
  | (_, d) => uptoBulk d + 1
 end
def uptoSmall : (H : Type) → List (DataW H) → Bool := fun _ ds => decide (uptoBulkAll ds ≤ 1048576)
def OpenSpec.upto (s : _root_.Go.ChangeSpec) : _root_.Go.OpenSpec := { _root_.Go.OpenSpec.ofChange s with cond := some uptoSmall }

/-- 'laws.FnExactIsRow', WHERE WHAT IT READS IS OF BULK AT MOST 1048576: true; the input reads as it did. -/
def fnExactIsRowUptoRow : OpenClaim := { program := "ytfkbacdaoeecdacdoor", sum := "1565cb8d05cb91685638249bfcf5563fb479cfe6c7e8f038c04f58eccb634a28", func := "loop.example/g01332/laws.FnExactIsRow", spec := "fnExactIsRow", inPlace := ["internal/bytealg.IndexByteString", "internal/bytealg.IndexString"], named := ["unicode/utf8.first", "unicode/utf8.acceptRanges", "internal/bytealg.MaxLen"], apart := false, laid := [("unicode/utf8.acceptRanges", laid_unicode_utf8_acceptRanges), ("unicode/utf8.first", laid_unicode_utf8_first)], narrowed := true }
def FnExactIsRowUptoSaid : Prop := fnExactIsRowUptoRow.holds Tryd.pinned (OpenSpec.upto fnExactIsRowSpec)

/-- 'laws.FnExactNumberOfRow', WHERE WHAT IT READS IS OF BULK AT MOST 1048576: true; the input reads as it did. -/
def fnExactNumberOfRowUptoRow : OpenClaim := { program := "ytfkbacdaoeecdacdoor", sum := "1565cb8d05cb91685638249bfcf5563fb479cfe6c7e8f038c04f58eccb634a28", func := "loop.example/g01332/laws.FnExactNumberOfRow", spec := "fnExactNumberOfRow", inPlace := ["internal/bytealg.IndexByteString", "internal/bytealg.IndexString"], named := ["unicode/utf8.first", "unicode/utf8.acceptRanges", "internal/bytealg.MaxLen"], apart := false, laid := [("unicode/utf8.acceptRanges", laid_unicode_utf8_acceptRanges), ("unicode/utf8.first", laid_unicode_utf8_first)], narrowed := true }
def FnExactNumberOfRowUptoSaid : Prop := fnExactNumberOfRowUptoRow.holds Tryd.pinned (OpenSpec.upto fnExactNumberOfRowSpec)

/-- 'laws.FnExactFacingPairs', WHERE WHAT IT READS IS OF BULK AT MOST 1048576: true; the input reads as it did. -/
def fnExactFacingPairsUptoRow : OpenClaim := { program := "ytfkbacdaoeecdacdoor", sum := "1565cb8d05cb91685638249bfcf5563fb479cfe6c7e8f038c04f58eccb634a28", func := "loop.example/g01332/laws.FnExactFacingPairs", spec := "fnExactFacingPairs", inPlace := ["internal/bytealg.IndexByteString", "internal/bytealg.IndexString"], named := ["unicode/utf8.first", "unicode/utf8.acceptRanges", "internal/bytealg.MaxLen"], apart := false, laid := [("unicode/utf8.acceptRanges", laid_unicode_utf8_acceptRanges), ("unicode/utf8.first", laid_unicode_utf8_first)], narrowed := true }
def FnExactFacingPairsUptoSaid : Prop := fnExactFacingPairsUptoRow.holds Tryd.pinned (OpenSpec.upto fnExactFacingPairsSpec)

/-- 'laws.FnExactIsAtRest', WHERE WHAT IT READS IS OF BULK AT MOST 1048576: true; the input reads as it did. -/
def fnExactIsAtRestUptoRow : OpenClaim := { program := "ytfkbacdaoeecdacdoor", sum := "1565cb8d05cb91685638249bfcf5563fb479cfe6c7e8f038c04f58eccb634a28", func := "loop.example/g01332/laws.FnExactIsAtRest", spec := "fnExactIsAtRest", inPlace := ["internal/bytealg.IndexByteString", "internal/bytealg.IndexString"], named := ["unicode/utf8.first", "unicode/utf8.acceptRanges", "internal/bytealg.MaxLen"], apart := false, laid := [("unicode/utf8.acceptRanges", laid_unicode_utf8_acceptRanges), ("unicode/utf8.first", laid_unicode_utf8_first)], narrowed := true }
def FnExactIsAtRestUptoSaid : Prop := fnExactIsAtRestUptoRow.holds Tryd.pinned (OpenSpec.upto fnExactIsAtRestSpec)

/-- 'laws.FnExactTurnedRow', WHERE WHAT IT READS IS OF BULK AT MOST 1048576: true; the input reads as it did. -/
def fnExactTurnedRowUptoRow : OpenClaim := { program := "ytfkbacdaoeecdacdoor", sum := "1565cb8d05cb91685638249bfcf5563fb479cfe6c7e8f038c04f58eccb634a28", func := "loop.example/g01332/laws.FnExactTurnedRow", spec := "fnExactTurnedRow", inPlace := ["internal/bytealg.IndexByteString", "internal/bytealg.IndexString", "internal/abi.NoEscape", "internal/bytealg.MakeNoZero"], unfollowed := true, recurses := true, named := ["unicode/utf8.first", "unicode/utf8.acceptRanges", "internal/bytealg.MaxLen"], apart := false, laid := [("unicode/utf8.acceptRanges", laid_unicode_utf8_acceptRanges), ("unicode/utf8.first", laid_unicode_utf8_first)], narrowed := true }
def FnExactTurnedRowUptoSaid : Prop := fnExactTurnedRowUptoRow.holds Tryd.pinned (OpenSpec.upto fnExactTurnedRowSpec)

/-- 'laws.FnExactTickRow', WHERE WHAT IT READS IS OF BULK AT MOST 1048576: true; the input reads as it did. -/
def fnExactTickRowUptoRow : OpenClaim := { program := "ytfkbacdaoeecdacdoor", sum := "1565cb8d05cb91685638249bfcf5563fb479cfe6c7e8f038c04f58eccb634a28", func := "loop.example/g01332/laws.FnExactTickRow", spec := "fnExactTickRow", inPlace := ["internal/bytealg.IndexByteString", "internal/bytealg.IndexString", "internal/bytealg.CountString", "internal/abi.NoEscape", "internal/bytealg.MakeNoZero"], named := ["unicode/utf8.first", "unicode/utf8.acceptRanges", "internal/bytealg.MaxLen"], apart := false, laid := [("unicode/utf8.acceptRanges", laid_unicode_utf8_acceptRanges), ("unicode/utf8.first", laid_unicode_utf8_first)], narrowed := true }
def FnExactTickRowUptoSaid : Prop := fnExactTickRowUptoRow.holds Tryd.pinned (OpenSpec.upto fnExactTickRowSpec)

end Rows
end Go.Proofs.YtfkbacdaoeecdacDoor
