/-
  NARROWER THAN 'FOR EVERY INPUT', by the rows' own cells (each row's printed sentence says how): FnExactMirrorRow: laid · FnExactCountTurns: laid · FnExactTurnsOfEach: laid · FnRowsBeforeOfAll: laid · FnRowsRestOfAll: laid.
  DERIVED. THE GIVEN ROWS OF THIS SEAT. 5 by the template 'for every input the law returns true; each argument reads behind the call as it read before'; 0 by the template 'total and deterministic' (their statements: YtleacijhpkogpabDoorTotals.lean).
  GIVEN WITH THE SEED: the statements are not yours to turn. If you find one false, say at which input.
  Laid BY PROGRAM, IN A SANDBOX (cutbox-rows.mjs): the forced cells as the released guide's own fill.sh prints them over the translation e90b1db9a9e4670e… (all of the seat's roots in one cut). By AI agents, Wed Nov 11 2026. No macro, syntax, notation, axiom, sorry.
-/
import Derived.Test.YtleacijhpkogpabDoorChecked
import GoSem.PinnedTables
import GoSem.Claim
import GoSem.ClaimJoined
import GoSem.ClaimMapViews
import Derived.JoinedTies
import Derived.KernelRfl
namespace Go.Proofs.YtleacijhpkogpabDoor
/- THE CELL 'sum', in the pinned program and in every row, IS THE sha256 OF THE DUMP (.gsa) THAT YtleacijhpkogpabDoorProg.lean LOADS. Nothing in Lean hashes anything: it is a label: what it is worth is what the hold of that sum in a sandbox is worth. -/
noncomputable def Tryd.pinned : Pinned := { name := "ytleacijhpkogpabdoor", sum := "e90b1db9a9e4670e5023a87b52bc42867b8c1453c3a78bd296f4ad436fce3600", checked := Tryd.checked }
namespace Rows
def none {H : Type} : Left H := { results := [], args := [] }

/- WHAT THE LISTED PACKAGE-LEVEL VARIABLES READ AS WHEN THE CALL BEGINS. Each datum BY PROGRAM (the guide's laid-datum.mjs) off the statement by which the dump's own 'gosem.cut.vars' lays the variable. In a bare row this is a premise. The card (YtleacijhpkogpabDoorCards.lean) ties it to the program's text. -/
def laid_unicode_utf8_acceptRanges {H : Type} : DataW H := .agg [.agg [.lit (.int .u8 128), .lit (.int .u8 191)], .agg [.lit (.int .u8 160), .lit (.int .u8 191)], .agg [.lit (.int .u8 128), .lit (.int .u8 159)], .agg [.lit (.int .u8 144), .lit (.int .u8 191)], .agg [.lit (.int .u8 128), .lit (.int .u8 143)], .agg [.lit (.int .u8 0), .lit (.int .u8 0)], .agg [.lit (.int .u8 0), .lit (.int .u8 0)], .agg [.lit (.int .u8 0), .lit (.int .u8 0)], .agg [.lit (.int .u8 0), .lit (.int .u8 0)], .agg [.lit (.int .u8 0), .lit (.int .u8 0)], .agg [.lit (.int .u8 0), .lit (.int .u8 0)], .agg [.lit (.int .u8 0), .lit (.int .u8 0)], .agg [.lit (.int .u8 0), .lit (.int .u8 0)], .agg [.lit (.int .u8 0), .lit (.int .u8 0)], .agg [.lit (.int .u8 0), .lit (.int .u8 0)], .agg [.lit (.int .u8 0), .lit (.int .u8 0)]]
/-- One of Go's own tables, pinned by name: the form's constant. -/
def laid_unicode_utf8_first : DataW Unit := Go.Pinned.utf8First

/-- 'laws.FnExactMirrorRow': WHATEVER THE INPUT: true; the input reads as it did. -/
def fnExactMirrorRowSpec : ChangeSpec := { name := "fnExactMirrorRow", fn := fun _ => fun
  | [d] => { results := [.lit (.bool true)], args := [d] }
  | _ => none }
def fnExactMirrorRowRow : OpenClaim := { program := "ytleacijhpkogpabdoor", sum := "e90b1db9a9e4670e5023a87b52bc42867b8c1453c3a78bd296f4ad436fce3600", func := "loop.example/g01332/laws.FnExactMirrorRow", spec := "fnExactMirrorRow", inPlace := ["internal/bytealg.IndexByteString", "internal/bytealg.IndexString", "internal/abi.NoEscape", "internal/bytealg.MakeNoZero"], unfollowed := true, recurses := true, named := ["unicode/utf8.first", "unicode/utf8.acceptRanges", "internal/bytealg.MaxLen"], apart := false, laid := [("unicode/utf8.acceptRanges", laid_unicode_utf8_acceptRanges), ("unicode/utf8.first", laid_unicode_utf8_first)] }
def FnExactMirrorRowSaid : Prop := fnExactMirrorRowRow.holds Tryd.pinned (OpenSpec.ofChange fnExactMirrorRowSpec)

/-- ITS FALSE NEIGHBOUR: 'it returns false'. Refute it at one input. -/
def fnExactMirrorRowWrong : ChangeSpec := { name := "fnExactMirrorRow", fn := fun _ => fun
  | [d] => { results := [.lit (.bool false)], args := [d] }
  | _ => none }
def FnExactMirrorRowWrongFalsely : Prop := fnExactMirrorRowRow.holds Tryd.pinned (OpenSpec.ofChange fnExactMirrorRowWrong)

/-- 'laws.FnExactCountTurns': WHATEVER THE INPUT: true; the input reads as it did. -/
def fnExactCountTurnsSpec : ChangeSpec := { name := "fnExactCountTurns", fn := fun _ => fun
  | [d] => { results := [.lit (.bool true)], args := [d] }
  | _ => none }
def fnExactCountTurnsRow : OpenClaim := { program := "ytleacijhpkogpabdoor", sum := "e90b1db9a9e4670e5023a87b52bc42867b8c1453c3a78bd296f4ad436fce3600", func := "loop.example/g01332/laws.FnExactCountTurns", spec := "fnExactCountTurns", inPlace := ["internal/bytealg.IndexByteString", "internal/bytealg.IndexString", "internal/bytealg.CountString", "internal/abi.NoEscape", "internal/bytealg.MakeNoZero"], unfollowed := true, recurses := true, named := ["unicode/utf8.first", "unicode/utf8.acceptRanges", "internal/bytealg.MaxLen"], apart := false, laid := [("unicode/utf8.acceptRanges", laid_unicode_utf8_acceptRanges), ("unicode/utf8.first", laid_unicode_utf8_first)] }
def FnExactCountTurnsSaid : Prop := fnExactCountTurnsRow.holds Tryd.pinned (OpenSpec.ofChange fnExactCountTurnsSpec)

/-- ITS FALSE NEIGHBOUR: 'it returns false'. Refute it at one input. -/
def fnExactCountTurnsWrong : ChangeSpec := { name := "fnExactCountTurns", fn := fun _ => fun
  | [d] => { results := [.lit (.bool false)], args := [d] }
  | _ => none }
def FnExactCountTurnsWrongFalsely : Prop := fnExactCountTurnsRow.holds Tryd.pinned (OpenSpec.ofChange fnExactCountTurnsWrong)

/-- 'laws.FnExactTurnsOfEach': WHATEVER THE INPUT: true; the input reads as it did. -/
def fnExactTurnsOfEachSpec : ChangeSpec := { name := "fnExactTurnsOfEach", fn := fun _ => fun
  | [d] => { results := [.lit (.bool true)], args := [d] }
  | _ => none }
def fnExactTurnsOfEachRow : OpenClaim := { program := "ytleacijhpkogpabdoor", sum := "e90b1db9a9e4670e5023a87b52bc42867b8c1453c3a78bd296f4ad436fce3600", func := "loop.example/g01332/laws.FnExactTurnsOfEach", spec := "fnExactTurnsOfEach", inPlace := ["internal/bytealg.IndexByteString", "internal/bytealg.IndexString", "internal/bytealg.CountString", "internal/abi.NoEscape", "internal/bytealg.MakeNoZero"], unfollowed := true, recurses := true, named := ["unicode/utf8.first", "unicode/utf8.acceptRanges", "internal/bytealg.MaxLen"], apart := false, laid := [("unicode/utf8.acceptRanges", laid_unicode_utf8_acceptRanges), ("unicode/utf8.first", laid_unicode_utf8_first)] }
def FnExactTurnsOfEachSaid : Prop := fnExactTurnsOfEachRow.holds Tryd.pinned (OpenSpec.ofChange fnExactTurnsOfEachSpec)

/-- ITS FALSE NEIGHBOUR: 'it returns false'. Refute it at one input. -/
def fnExactTurnsOfEachWrong : ChangeSpec := { name := "fnExactTurnsOfEach", fn := fun _ => fun
  | [d] => { results := [.lit (.bool false)], args := [d] }
  | _ => none }
def FnExactTurnsOfEachWrongFalsely : Prop := fnExactTurnsOfEachRow.holds Tryd.pinned (OpenSpec.ofChange fnExactTurnsOfEachWrong)

/-- 'laws.FnRowsBeforeOfAll': WHATEVER THE INPUT: true; the input reads as it did. -/
def fnRowsBeforeOfAllSpec : ChangeSpec := { name := "fnRowsBeforeOfAll", fn := fun _ => fun
  | [d1, d2, d3, d4, d5] => { results := [.lit (.bool true)], args := [d1, d2, d3, d4, d5] }
  | _ => none }
def fnRowsBeforeOfAllRow : OpenClaim := { program := "ytleacijhpkogpabdoor", sum := "e90b1db9a9e4670e5023a87b52bc42867b8c1453c3a78bd296f4ad436fce3600", func := "loop.example/g01332/laws.FnRowsBeforeOfAll", spec := "fnRowsBeforeOfAll", inPlace := ["internal/bytealg.IndexByteString", "internal/bytealg.IndexString", "internal/bytealg.CountString", "internal/abi.NoEscape", "internal/bytealg.MakeNoZero"], unfollowed := true, recurses := true, named := ["unicode/utf8.first", "unicode/utf8.acceptRanges", "internal/bytealg.MaxLen"], apart := false, laid := [("unicode/utf8.acceptRanges", laid_unicode_utf8_acceptRanges), ("unicode/utf8.first", laid_unicode_utf8_first)] }
def FnRowsBeforeOfAllSaid : Prop := fnRowsBeforeOfAllRow.holds Tryd.pinned (OpenSpec.ofChange fnRowsBeforeOfAllSpec)

/-- ITS FALSE NEIGHBOUR: 'it returns false'. Refute it at one input. -/
def fnRowsBeforeOfAllWrong : ChangeSpec := { name := "fnRowsBeforeOfAll", fn := fun _ => fun
  | [d1, d2, d3, d4, d5] => { results := [.lit (.bool false)], args := [d1, d2, d3, d4, d5] }
  | _ => none }
def FnRowsBeforeOfAllWrongFalsely : Prop := fnRowsBeforeOfAllRow.holds Tryd.pinned (OpenSpec.ofChange fnRowsBeforeOfAllWrong)

/-- 'laws.FnRowsRestOfAll': WHATEVER THE INPUT: true; the input reads as it did. -/
def fnRowsRestOfAllSpec : ChangeSpec := { name := "fnRowsRestOfAll", fn := fun _ => fun
  | [d1, d2, d3, d4, d5, d6] => { results := [.lit (.bool true)], args := [d1, d2, d3, d4, d5, d6] }
  | _ => none }
def fnRowsRestOfAllRow : OpenClaim := { program := "ytleacijhpkogpabdoor", sum := "e90b1db9a9e4670e5023a87b52bc42867b8c1453c3a78bd296f4ad436fce3600", func := "loop.example/g01332/laws.FnRowsRestOfAll", spec := "fnRowsRestOfAll", inPlace := ["internal/bytealg.IndexByteString", "internal/bytealg.IndexString", "internal/bytealg.CountString", "internal/abi.NoEscape", "internal/bytealg.MakeNoZero"], unfollowed := true, recurses := true, named := ["unicode/utf8.first", "unicode/utf8.acceptRanges", "internal/bytealg.MaxLen"], apart := false, laid := [("unicode/utf8.acceptRanges", laid_unicode_utf8_acceptRanges), ("unicode/utf8.first", laid_unicode_utf8_first)] }
def FnRowsRestOfAllSaid : Prop := fnRowsRestOfAllRow.holds Tryd.pinned (OpenSpec.ofChange fnRowsRestOfAllSpec)

/-- ITS FALSE NEIGHBOUR: 'it returns false'. Refute it at one input. -/
def fnRowsRestOfAllWrong : ChangeSpec := { name := "fnRowsRestOfAll", fn := fun _ => fun
  | [d1, d2, d3, d4, d5, d6] => { results := [.lit (.bool false)], args := [d1, d2, d3, d4, d5, d6] }
  | _ => none }
def FnRowsRestOfAllWrongFalsely : Prop := fnRowsRestOfAllRow.holds Tryd.pinned (OpenSpec.ofChange fnRowsRestOfAllWrong)

/- THE SECOND FORM. 'bulk': how many values and letters a reading holds, each counted each time it is reached (what is shared counts as often as it is met; a slice's spare places count too). A statement '..UptoSaid' is the law's where the arguments, and the package variables that the reading takes, are together of bulk at most 1048576: NARROWER than '..Said'. Prove '..Said' where nothing that the law and all that it calls make is longer than what came in: it says more and counts as full. Else prove '..UptoSaid'. A law counts once. -/
mutual
def uptoBulk {H : Type} : DataW H → Nat
  | .lit (.string bytes) => bytes.length + 1
  | .lit _ => 1
  | .nil => 1
  | .ptr d => uptoBulk d + 1
  | .slice elems spare => uptoBulkAll elems + uptoBulkAll spare + 1
  | .agg parts => uptoBulkAll parts + 1
  | .iface _ d => uptoBulk d + 1
  | .map entries => uptoBulkEntries entries + 1
  | .held _ => 1
def uptoBulkAll {H : Type} : List (DataW H) → Nat
  | [] => 0
  | d :: r => uptoBulk d + uptoBulkAll r
def uptoBulkEntries {H : Type} : List (Lit × DataW H) → Nat
  | [] => 0
  | x :: r => uptoBulkEntry x + uptoBulkEntries r
def uptoBulkEntry {H : Type} : Lit × DataW H → Nat
  | (.string bytes, d) => bytes.length + uptoBulk d + 1
  | (_, d) => uptoBulk d + 1
 end
def uptoSmall : (H : Type) → List (DataW H) → Bool := fun _ ds => decide (uptoBulkAll ds ≤ 1048576)
def OpenSpec.upto (s : _root_.Go.ChangeSpec) : _root_.Go.OpenSpec := { _root_.Go.OpenSpec.ofChange s with cond := some uptoSmall }

/-- 'laws.FnExactMirrorRow', WHERE WHAT IT READS IS OF BULK AT MOST 1048576: true; the input reads as it did. -/
def fnExactMirrorRowUptoRow : OpenClaim := { program := "ytleacijhpkogpabdoor", sum := "e90b1db9a9e4670e5023a87b52bc42867b8c1453c3a78bd296f4ad436fce3600", func := "loop.example/g01332/laws.FnExactMirrorRow", spec := "fnExactMirrorRow", inPlace := ["internal/bytealg.IndexByteString", "internal/bytealg.IndexString", "internal/abi.NoEscape", "internal/bytealg.MakeNoZero"], unfollowed := true, recurses := true, named := ["unicode/utf8.first", "unicode/utf8.acceptRanges", "internal/bytealg.MaxLen"], apart := false, laid := [("unicode/utf8.acceptRanges", laid_unicode_utf8_acceptRanges), ("unicode/utf8.first", laid_unicode_utf8_first)], narrowed := true }
def FnExactMirrorRowUptoSaid : Prop := fnExactMirrorRowUptoRow.holds Tryd.pinned (OpenSpec.upto fnExactMirrorRowSpec)

/-- 'laws.FnExactCountTurns', WHERE WHAT IT READS IS OF BULK AT MOST 1048576: true; the input reads as it did. -/
def fnExactCountTurnsUptoRow : OpenClaim := { program := "ytleacijhpkogpabdoor", sum := "e90b1db9a9e4670e5023a87b52bc42867b8c1453c3a78bd296f4ad436fce3600", func := "loop.example/g01332/laws.FnExactCountTurns", spec := "fnExactCountTurns", inPlace := ["internal/bytealg.IndexByteString", "internal/bytealg.IndexString", "internal/bytealg.CountString", "internal/abi.NoEscape", "internal/bytealg.MakeNoZero"], unfollowed := true, recurses := true, named := ["unicode/utf8.first", "unicode/utf8.acceptRanges", "internal/bytealg.MaxLen"], apart := false, laid := [("unicode/utf8.acceptRanges", laid_unicode_utf8_acceptRanges), ("unicode/utf8.first", laid_unicode_utf8_first)], narrowed := true }
def FnExactCountTurnsUptoSaid : Prop := fnExactCountTurnsUptoRow.holds Tryd.pinned (OpenSpec.upto fnExactCountTurnsSpec)

/-- 'laws.FnExactTurnsOfEach', WHERE WHAT IT READS IS OF BULK AT MOST 1048576: true; the input reads as it did. -/
def fnExactTurnsOfEachUptoRow : OpenClaim := { program := "ytleacijhpkogpabdoor", sum := "e90b1db9a9e4670e5023a87b52bc42867b8c1453c3a78bd296f4ad436fce3600", func := "loop.example/g01332/laws.FnExactTurnsOfEach", spec := "fnExactTurnsOfEach", inPlace := ["internal/bytealg.IndexByteString", "internal/bytealg.IndexString", "internal/bytealg.CountString", "internal/abi.NoEscape", "internal/bytealg.MakeNoZero"], unfollowed := true, recurses := true, named := ["unicode/utf8.first", "unicode/utf8.acceptRanges", "internal/bytealg.MaxLen"], apart := false, laid := [("unicode/utf8.acceptRanges", laid_unicode_utf8_acceptRanges), ("unicode/utf8.first", laid_unicode_utf8_first)], narrowed := true }
def FnExactTurnsOfEachUptoSaid : Prop := fnExactTurnsOfEachUptoRow.holds Tryd.pinned (OpenSpec.upto fnExactTurnsOfEachSpec)

/-- 'laws.FnRowsBeforeOfAll', WHERE WHAT IT READS IS OF BULK AT MOST 1048576: true; the input reads as it did. -/
def fnRowsBeforeOfAllUptoRow : OpenClaim := { program := "ytleacijhpkogpabdoor", sum := "e90b1db9a9e4670e5023a87b52bc42867b8c1453c3a78bd296f4ad436fce3600", func := "loop.example/g01332/laws.FnRowsBeforeOfAll", spec := "fnRowsBeforeOfAll", inPlace := ["internal/bytealg.IndexByteString", "internal/bytealg.IndexString", "internal/bytealg.CountString", "internal/abi.NoEscape", "internal/bytealg.MakeNoZero"], unfollowed := true, recurses := true, named := ["unicode/utf8.first", "unicode/utf8.acceptRanges", "internal/bytealg.MaxLen"], apart := false, laid := [("unicode/utf8.acceptRanges", laid_unicode_utf8_acceptRanges), ("unicode/utf8.first", laid_unicode_utf8_first)], narrowed := true }
def FnRowsBeforeOfAllUptoSaid : Prop := fnRowsBeforeOfAllUptoRow.holds Tryd.pinned (OpenSpec.upto fnRowsBeforeOfAllSpec)

/-- 'laws.FnRowsRestOfAll', WHERE WHAT IT READS IS OF BULK AT MOST 1048576: true; the input reads as it did. -/
def fnRowsRestOfAllUptoRow : OpenClaim := { program := "ytleacijhpkogpabdoor", sum := "e90b1db9a9e4670e5023a87b52bc42867b8c1453c3a78bd296f4ad436fce3600", func := "loop.example/g01332/laws.FnRowsRestOfAll", spec := "fnRowsRestOfAll", inPlace := ["internal/bytealg.IndexByteString", "internal/bytealg.IndexString", "internal/bytealg.CountString", "internal/abi.NoEscape", "internal/bytealg.MakeNoZero"], unfollowed := true, recurses := true, named := ["unicode/utf8.first", "unicode/utf8.acceptRanges", "internal/bytealg.MaxLen"], apart := false, laid := [("unicode/utf8.acceptRanges", laid_unicode_utf8_acceptRanges), ("unicode/utf8.first", laid_unicode_utf8_first)], narrowed := true }
def FnRowsRestOfAllUptoSaid : Prop := fnRowsRestOfAllUptoRow.holds Tryd.pinned (OpenSpec.upto fnRowsRestOfAllSpec)

end Rows
end Go.Proofs.YtleacijhpkogpabDoor
