/-
  NARROWER THAN 'FOR EVERY INPUT', by the rows' own cells (each row's printed sentence says how): FnExactRowsBefore: laid · FnExactSumOfTicks: laid · FnExactCountByTicks: laid · FnExactLongestTicks: laid · FnExactFirstLongest: laid.
  DERIVED. THE GIVEN ROWS OF THIS SEAT. 5 by the template 'for every input the law returns true; each argument reads behind the call as it read before'; 0 by the template 'total and deterministic' (their statements: YtleacijhpkogpaaDoorTotals.lean).
  GIVEN WITH THE SEED: the statements are not yours to turn. If you find one false, say at which input.
  Laid BY PROGRAM, IN A SANDBOX (cutbox-rows.mjs): the forced cells as the released guide's own fill.sh prints them over the translation 27c858687ea2b918… (all of the seat's roots in one cut). By AI agents, Wed Nov 11 2026. No macro, syntax, notation, axiom, sorry.
-/
import Derived.Test.YtleacijhpkogpaaDoorChecked
import GoSem.PinnedTables
import GoSem.Claim
import GoSem.ClaimJoined
import GoSem.ClaimMapViews
import Derived.JoinedTies
import Derived.KernelRfl
namespace Go.Proofs.YtleacijhpkogpaaDoor
/- THE CELL 'sum', in the pinned program and in every row, IS THE sha256 OF THE DUMP (.gsa) THAT YtleacijhpkogpaaDoorProg.lean LOADS. Nothing in Lean hashes anything: it is a label: what it is worth is what the hold of that sum in a sandbox is worth. -/
noncomputable def Tryd.pinned : Pinned := { name := "ytleacijhpkogpaadoor", sum := "27c858687ea2b91887df0f0a5552a706a5540980f41b22d88b054146ef60ccd3", checked := Tryd.checked }
namespace Rows
def none {H : Type} : Left H := { results := [], args := [] }

/- WHAT THE LISTED PACKAGE-LEVEL VARIABLES READ AS WHEN THE CALL BEGINS. Each datum BY PROGRAM (the guide's laid-datum.mjs) off the statement by which the dump's own 'gosem.cut.vars' lays the variable. In a bare row this is a premise. The card (YtleacijhpkogpaaDoorCards.lean) ties it to the program's text. -/
def laid_unicode_utf8_acceptRanges {H : Type} : DataW H := .agg [.agg [.lit (.int .u8 128), .lit (.int .u8 191)], .agg [.lit (.int .u8 160), .lit (.int .u8 191)], .agg [.lit (.int .u8 128), .lit (.int .u8 159)], .agg [.lit (.int .u8 144), .lit (.int .u8 191)], .agg [.lit (.int .u8 128), .lit (.int .u8 143)], .agg [.lit (.int .u8 0), .lit (.int .u8 0)], .agg [.lit (.int .u8 0), .lit (.int .u8 0)], .agg [.lit (.int .u8 0), .lit (.int .u8 0)], .agg [.lit (.int .u8 0), .lit (.int .u8 0)], .agg [.lit (.int .u8 0), .lit (.int .u8 0)], .agg [.lit (.int .u8 0), .lit (.int .u8 0)], .agg [.lit (.int .u8 0), .lit (.int .u8 0)], .agg [.lit (.int .u8 0), .lit (.int .u8 0)], .agg [.lit (.int .u8 0), .lit (.int .u8 0)], .agg [.lit (.int .u8 0), .lit (.int .u8 0)], .agg [.lit (.int .u8 0), .lit (.int .u8 0)]]
/-- One of Go's own tables, pinned by name: the form's constant. -/
def laid_unicode_utf8_first : DataW Unit := Go.Pinned.utf8First

/-- 'laws.FnExactRowsBefore': WHATEVER THE INPUT: true; the input reads as it did. -/
def fnExactRowsBeforeSpec : ChangeSpec := { name := "fnExactRowsBefore", fn := fun _ => fun
  | [d] => { results := [.lit (.bool true)], args := [d] }
  | _ => none }
def fnExactRowsBeforeRow : OpenClaim := { program := "ytleacijhpkogpaadoor", sum := "27c858687ea2b91887df0f0a5552a706a5540980f41b22d88b054146ef60ccd3", func := "loop.example/g01332/laws.FnExactRowsBefore", spec := "fnExactRowsBefore", inPlace := ["internal/bytealg.IndexByteString", "internal/bytealg.IndexString", "internal/bytealg.CountString", "internal/abi.NoEscape", "internal/bytealg.MakeNoZero"], named := ["unicode/utf8.first", "unicode/utf8.acceptRanges", "internal/bytealg.MaxLen"], apart := false, laid := [("unicode/utf8.acceptRanges", laid_unicode_utf8_acceptRanges), ("unicode/utf8.first", laid_unicode_utf8_first)] }
def FnExactRowsBeforeSaid : Prop := fnExactRowsBeforeRow.holds Tryd.pinned (OpenSpec.ofChange fnExactRowsBeforeSpec)

/-- ITS FALSE NEIGHBOUR: 'it returns false'. Refute it at one input. -/
def fnExactRowsBeforeWrong : ChangeSpec := { name := "fnExactRowsBefore", fn := fun _ => fun
  | [d] => { results := [.lit (.bool false)], args := [d] }
  | _ => none }
def FnExactRowsBeforeWrongFalsely : Prop := fnExactRowsBeforeRow.holds Tryd.pinned (OpenSpec.ofChange fnExactRowsBeforeWrong)

/-- 'laws.FnExactSumOfTicks': WHATEVER THE INPUT: true; the input reads as it did. -/
def fnExactSumOfTicksSpec : ChangeSpec := { name := "fnExactSumOfTicks", fn := fun _ => fun
  | [d] => { results := [.lit (.bool true)], args := [d] }
  | _ => none }
def fnExactSumOfTicksRow : OpenClaim := { program := "ytleacijhpkogpaadoor", sum := "27c858687ea2b91887df0f0a5552a706a5540980f41b22d88b054146ef60ccd3", func := "loop.example/g01332/laws.FnExactSumOfTicks", spec := "fnExactSumOfTicks", inPlace := ["internal/bytealg.IndexByteString", "internal/bytealg.IndexString", "internal/bytealg.CountString", "internal/abi.NoEscape", "internal/bytealg.MakeNoZero"], unfollowed := true, recurses := true, named := ["internal/bytealg.MaxLen", "unicode/utf8.first", "unicode/utf8.acceptRanges"], apart := false, laid := [("unicode/utf8.acceptRanges", laid_unicode_utf8_acceptRanges), ("unicode/utf8.first", laid_unicode_utf8_first)] }
def FnExactSumOfTicksSaid : Prop := fnExactSumOfTicksRow.holds Tryd.pinned (OpenSpec.ofChange fnExactSumOfTicksSpec)

/-- ITS FALSE NEIGHBOUR: 'it returns false'. Refute it at one input. -/
def fnExactSumOfTicksWrong : ChangeSpec := { name := "fnExactSumOfTicks", fn := fun _ => fun
  | [d] => { results := [.lit (.bool false)], args := [d] }
  | _ => none }
def FnExactSumOfTicksWrongFalsely : Prop := fnExactSumOfTicksRow.holds Tryd.pinned (OpenSpec.ofChange fnExactSumOfTicksWrong)

/-- 'laws.FnExactCountByTicks': WHATEVER THE INPUT: true; the input reads as it did. -/
def fnExactCountByTicksSpec : ChangeSpec := { name := "fnExactCountByTicks", fn := fun _ => fun
  | [d1, d2] => { results := [.lit (.bool true)], args := [d1, d2] }
  | _ => none }
def fnExactCountByTicksRow : OpenClaim := { program := "ytleacijhpkogpaadoor", sum := "27c858687ea2b91887df0f0a5552a706a5540980f41b22d88b054146ef60ccd3", func := "loop.example/g01332/laws.FnExactCountByTicks", spec := "fnExactCountByTicks", inPlace := ["internal/bytealg.IndexByteString", "internal/bytealg.IndexString", "internal/bytealg.CountString", "internal/abi.NoEscape", "internal/bytealg.MakeNoZero"], unfollowed := true, recurses := true, named := ["internal/bytealg.MaxLen", "unicode/utf8.first", "unicode/utf8.acceptRanges"], apart := false, laid := [("unicode/utf8.acceptRanges", laid_unicode_utf8_acceptRanges), ("unicode/utf8.first", laid_unicode_utf8_first)] }
def FnExactCountByTicksSaid : Prop := fnExactCountByTicksRow.holds Tryd.pinned (OpenSpec.ofChange fnExactCountByTicksSpec)

/-- ITS FALSE NEIGHBOUR: 'it returns false'. Refute it at one input. -/
def fnExactCountByTicksWrong : ChangeSpec := { name := "fnExactCountByTicks", fn := fun _ => fun
  | [d1, d2] => { results := [.lit (.bool false)], args := [d1, d2] }
  | _ => none }
def FnExactCountByTicksWrongFalsely : Prop := fnExactCountByTicksRow.holds Tryd.pinned (OpenSpec.ofChange fnExactCountByTicksWrong)

/-- 'laws.FnExactLongestTicks': WHATEVER THE INPUT: true; the input reads as it did. -/
def fnExactLongestTicksSpec : ChangeSpec := { name := "fnExactLongestTicks", fn := fun _ => fun
  | [d] => { results := [.lit (.bool true)], args := [d] }
  | _ => none }
def fnExactLongestTicksRow : OpenClaim := { program := "ytleacijhpkogpaadoor", sum := "27c858687ea2b91887df0f0a5552a706a5540980f41b22d88b054146ef60ccd3", func := "loop.example/g01332/laws.FnExactLongestTicks", spec := "fnExactLongestTicks", inPlace := ["internal/bytealg.IndexByteString", "internal/bytealg.IndexString", "internal/bytealg.CountString", "internal/abi.NoEscape", "internal/bytealg.MakeNoZero"], unfollowed := true, recurses := true, named := ["internal/bytealg.MaxLen", "unicode/utf8.first", "unicode/utf8.acceptRanges"], apart := false, laid := [("unicode/utf8.acceptRanges", laid_unicode_utf8_acceptRanges), ("unicode/utf8.first", laid_unicode_utf8_first)] }
def FnExactLongestTicksSaid : Prop := fnExactLongestTicksRow.holds Tryd.pinned (OpenSpec.ofChange fnExactLongestTicksSpec)

/-- ITS FALSE NEIGHBOUR: 'it returns false'. Refute it at one input. -/
def fnExactLongestTicksWrong : ChangeSpec := { name := "fnExactLongestTicks", fn := fun _ => fun
  | [d] => { results := [.lit (.bool false)], args := [d] }
  | _ => none }
def FnExactLongestTicksWrongFalsely : Prop := fnExactLongestTicksRow.holds Tryd.pinned (OpenSpec.ofChange fnExactLongestTicksWrong)

/-- 'laws.FnExactFirstLongest': WHATEVER THE INPUT: true; the input reads as it did. -/
def fnExactFirstLongestSpec : ChangeSpec := { name := "fnExactFirstLongest", fn := fun _ => fun
  | [d] => { results := [.lit (.bool true)], args := [d] }
  | _ => none }
def fnExactFirstLongestRow : OpenClaim := { program := "ytleacijhpkogpaadoor", sum := "27c858687ea2b91887df0f0a5552a706a5540980f41b22d88b054146ef60ccd3", func := "loop.example/g01332/laws.FnExactFirstLongest", spec := "fnExactFirstLongest", inPlace := ["internal/bytealg.IndexByteString", "internal/bytealg.IndexString", "internal/bytealg.CountString", "internal/abi.NoEscape", "internal/bytealg.MakeNoZero"], unfollowed := true, recurses := true, named := ["internal/bytealg.MaxLen", "unicode/utf8.first", "unicode/utf8.acceptRanges"], apart := false, laid := [("unicode/utf8.acceptRanges", laid_unicode_utf8_acceptRanges), ("unicode/utf8.first", laid_unicode_utf8_first)] }
def FnExactFirstLongestSaid : Prop := fnExactFirstLongestRow.holds Tryd.pinned (OpenSpec.ofChange fnExactFirstLongestSpec)

/-- ITS FALSE NEIGHBOUR: 'it returns false'. Refute it at one input. -/
def fnExactFirstLongestWrong : ChangeSpec := { name := "fnExactFirstLongest", fn := fun _ => fun
  | [d] => { results := [.lit (.bool false)], args := [d] }
  | _ => none }
def FnExactFirstLongestWrongFalsely : Prop := fnExactFirstLongestRow.holds Tryd.pinned (OpenSpec.ofChange fnExactFirstLongestWrong)

/- THE SECOND FORM. 'bulk': how many values and letters a reading holds, each counted each time it is reached (what is shared counts as often as it is met; a slice's spare places count too). A statement '..UptoSaid' is the law's where the arguments, and the package variables that the reading takes, are together of bulk at most 1048576: NARROWER than '..Said'. Prove '..Said' where nothing that the law and all that it calls make is longer than what came in: it says more and counts as full. Else prove '..UptoSaid'. A law counts once. -/
mutual
def uptoBulk {H : Type} : DataW H → Nat
  | .lit (.string bytes) => bytes.length + 1
  | .lit _ => 1
  | .nil => 1
  | .ptr d => uptoBulk d + 1
  | .slice elems spare => uptoBulkAll elems + uptoBulkAll spare + 1
  | .agg parts => uptoBulkAll parts + 1
  | .iface _ d => uptoBulk d + 1
  | .map entries => uptoBulkEntries entries + 1
  | .held _ => 1
def uptoBulkAll {H : Type} : List (DataW H) → Nat
  | [] => 0
  | d :: r => uptoBulk d + uptoBulkAll r
def uptoBulkEntries {H : Type} : List (Lit × DataW H) → Nat
  | [] => 0
  | x :: r => uptoBulkEntry x + uptoBulkEntries r
def uptoBulkEntry {H : Type} : Lit × DataW H → Nat
  | (.string bytes, d) => bytes.length + uptoBulk d + 1
  | (_, d) => uptoBulk d + 1
 end
def uptoSmall : (H : Type) → List (DataW H) → Bool := fun _ ds => decide (uptoBulkAll ds ≤ 1048576)
def OpenSpec.upto (s : _root_.Go.ChangeSpec) : _root_.Go.OpenSpec := { _root_.Go.OpenSpec.ofChange s with cond := some uptoSmall }

/-- 'laws.FnExactRowsBefore', WHERE WHAT IT READS IS OF BULK AT MOST 1048576: true; the input reads as it did. -/
def fnExactRowsBeforeUptoRow : OpenClaim := { program := "ytleacijhpkogpaadoor", sum := "27c858687ea2b91887df0f0a5552a706a5540980f41b22d88b054146ef60ccd3", func := "loop.example/g01332/laws.FnExactRowsBefore", spec := "fnExactRowsBefore", inPlace := ["internal/bytealg.IndexByteString", "internal/bytealg.IndexString", "internal/bytealg.CountString", "internal/abi.NoEscape", "internal/bytealg.MakeNoZero"], named := ["unicode/utf8.first", "unicode/utf8.acceptRanges", "internal/bytealg.MaxLen"], apart := false, laid := [("unicode/utf8.acceptRanges", laid_unicode_utf8_acceptRanges), ("unicode/utf8.first", laid_unicode_utf8_first)], narrowed := true }
def FnExactRowsBeforeUptoSaid : Prop := fnExactRowsBeforeUptoRow.holds Tryd.pinned (OpenSpec.upto fnExactRowsBeforeSpec)

/-- 'laws.FnExactSumOfTicks', WHERE WHAT IT READS IS OF BULK AT MOST 1048576: true; the input reads as it did. -/
def fnExactSumOfTicksUptoRow : OpenClaim := { program := "ytleacijhpkogpaadoor", sum := "27c858687ea2b91887df0f0a5552a706a5540980f41b22d88b054146ef60ccd3", func := "loop.example/g01332/laws.FnExactSumOfTicks", spec := "fnExactSumOfTicks", inPlace := ["internal/bytealg.IndexByteString", "internal/bytealg.IndexString", "internal/bytealg.CountString", "internal/abi.NoEscape", "internal/bytealg.MakeNoZero"], unfollowed := true, recurses := true, named := ["internal/bytealg.MaxLen", "unicode/utf8.first", "unicode/utf8.acceptRanges"], apart := false, laid := [("unicode/utf8.acceptRanges", laid_unicode_utf8_acceptRanges), ("unicode/utf8.first", laid_unicode_utf8_first)], narrowed := true }
def FnExactSumOfTicksUptoSaid : Prop := fnExactSumOfTicksUptoRow.holds Tryd.pinned (OpenSpec.upto fnExactSumOfTicksSpec)

/-- 'laws.FnExactCountByTicks', WHERE WHAT IT READS IS OF BULK AT MOST 1048576: true; the input reads as it did. -/
def fnExactCountByTicksUptoRow : OpenClaim := { program := "ytleacijhpkogpaadoor", sum := "27c858687ea2b91887df0f0a5552a706a5540980f41b22d88b054146ef60ccd3", func := "loop.example/g01332/laws.FnExactCountByTicks", spec := "fnExactCountByTicks", inPlace := ["internal/bytealg.IndexByteString", "internal/bytealg.IndexString", "internal/bytealg.CountString", "internal/abi.NoEscape", "internal/bytealg.MakeNoZero"], unfollowed := true, recurses := true, named := ["internal/bytealg.MaxLen", "unicode/utf8.first", "unicode/utf8.acceptRanges"], apart := false, laid := [("unicode/utf8.acceptRanges", laid_unicode_utf8_acceptRanges), ("unicode/utf8.first", laid_unicode_utf8_first)], narrowed := true }
def FnExactCountByTicksUptoSaid : Prop := fnExactCountByTicksUptoRow.holds Tryd.pinned (OpenSpec.upto fnExactCountByTicksSpec)

/-- 'laws.FnExactLongestTicks', WHERE WHAT IT READS IS OF BULK AT MOST 1048576: true; the input reads as it did. -/
def fnExactLongestTicksUptoRow : OpenClaim := { program := "ytleacijhpkogpaadoor", sum := "27c858687ea2b91887df0f0a5552a706a5540980f41b22d88b054146ef60ccd3", func := "loop.example/g01332/laws.FnExactLongestTicks", spec := "fnExactLongestTicks", inPlace := ["internal/bytealg.IndexByteString", "internal/bytealg.IndexString", "internal/bytealg.CountString", "internal/abi.NoEscape", "internal/bytealg.MakeNoZero"], unfollowed := true, recurses := true, named := ["internal/bytealg.MaxLen", "unicode/utf8.first", "unicode/utf8.acceptRanges"], apart := false, laid := [("unicode/utf8.acceptRanges", laid_unicode_utf8_acceptRanges), ("unicode/utf8.first", laid_unicode_utf8_first)], narrowed := true }
def FnExactLongestTicksUptoSaid : Prop := fnExactLongestTicksUptoRow.holds Tryd.pinned (OpenSpec.upto fnExactLongestTicksSpec)

/-- 'laws.FnExactFirstLongest', WHERE WHAT IT READS IS OF BULK AT MOST 1048576: true; the input reads as it did. -/
def fnExactFirstLongestUptoRow : OpenClaim := { program := "ytleacijhpkogpaadoor", sum := "27c858687ea2b91887df0f0a5552a706a5540980f41b22d88b054146ef60ccd3", func := "loop.example/g01332/laws.FnExactFirstLongest", spec := "fnExactFirstLongest", inPlace := ["internal/bytealg.IndexByteString", "internal/bytealg.IndexString", "internal/bytealg.CountString", "internal/abi.NoEscape", "internal/bytealg.MakeNoZero"], unfollowed := true, recurses := true, named := ["internal/bytealg.MaxLen", "unicode/utf8.first", "unicode/utf8.acceptRanges"], apart := false, laid := [("unicode/utf8.acceptRanges", laid_unicode_utf8_acceptRanges), ("unicode/utf8.first", laid_unicode_utf8_first)], narrowed := true }
def FnExactFirstLongestUptoSaid : Prop := fnExactFirstLongestUptoRow.holds Tryd.pinned (OpenSpec.upto fnExactFirstLongestSpec)

end Rows
end Go.Proofs.YtleacijhpkogpaaDoor
