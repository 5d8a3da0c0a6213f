/-
  No cell of these rows narrows 'for every input' (looked for: loops, veiled, ifaces, maps, wideKeys, modest, calm, conditions, laid).
  DERIVED. THE GIVEN ROWS OF THIS SEAT. 6 by the template 'for every input the law returns true; each argument reads behind the call as it read before'; 0 by the template 'total and deterministic' (their statements: YtfkbacdaoeecdaaTotals.lean).
  GIVEN WITH THE SEED: the statements are not yours to turn. If you find one false, say at which input.
  Laid BY PROGRAM, IN A SANDBOX (cutbox-rows.mjs): the forced cells as the released guide's own fill.sh prints them over the translation 9a6b30d171b24424… (all of the seat's roots in one cut). By AI agents, Wed Nov 11 2026. No macro, syntax, notation, axiom, sorry.
-/
import Derived.Test.YtfkbacdaoeecdaaChecked
import GoSem.Claim
import GoSem.ClaimJoined
import GoSem.ClaimMapViews
import Derived.JoinedTies
import Derived.KernelRfl
namespace Go.Proofs.Ytfkbacdaoeecdaa
/- THE CELL 'sum', in the pinned program and in every row, IS THE sha256 OF THE DUMP (.gsa) THAT YtfkbacdaoeecdaaProg.lean LOADS. Nothing in Lean hashes anything: it is a label: what it is worth is what the hold of that sum in a sandbox is worth. -/
noncomputable def Try.pinned : Pinned := { name := "ytfkbacdaoeecdaa", sum := "9a6b30d171b244244362ba1a33e9b257a956aaf358e933a41e261a971feea427", checked := Try.checked }
namespace Rows
def none {H : Type} : Left H := { results := [], args := [] }

/-- 'laws.FnExactStepUp': WHATEVER THE INPUT: true; the input reads as it did. -/
def fnExactStepUpSpec : ChangeSpec := { name := "fnExactStepUp", fn := fun _ => fun
  | [d1, d2, d3] => { results := [.lit (.bool true)], args := [d1, d2, d3] }
  | _ => none }
def fnExactStepUpRow : OpenClaim := { program := "ytfkbacdaoeecdaa", sum := "9a6b30d171b244244362ba1a33e9b257a956aaf358e933a41e261a971feea427", func := "loop.example/g01332/laws.FnExactStepUp", spec := "fnExactStepUp", unfollowed := true, recurses := true, apart := false }
def FnExactStepUpSaid : Prop := fnExactStepUpRow.holds Try.pinned (OpenSpec.ofChange fnExactStepUpSpec)

/-- ITS FALSE NEIGHBOUR: 'it returns false'. Refute it at one input. -/
def fnExactStepUpWrong : ChangeSpec := { name := "fnExactStepUp", fn := fun _ => fun
  | [d1, d2, d3] => { results := [.lit (.bool false)], args := [d1, d2, d3] }
  | _ => none }
def FnExactStepUpWrongFalsely : Prop := fnExactStepUpRow.holds Try.pinned (OpenSpec.ofChange fnExactStepUpWrong)

/-- 'laws.FnExactSeenFromLeft': WHATEVER THE INPUT: true; the input reads as it did. -/
def fnExactSeenFromLeftSpec : ChangeSpec := { name := "fnExactSeenFromLeft", fn := fun _ => fun
  | [d] => { results := [.lit (.bool true)], args := [d] }
  | _ => none }
def fnExactSeenFromLeftRow : OpenClaim := { program := "ytfkbacdaoeecdaa", sum := "9a6b30d171b244244362ba1a33e9b257a956aaf358e933a41e261a971feea427", func := "loop.example/g01332/laws.FnExactSeenFromLeft", spec := "fnExactSeenFromLeft", unfollowed := true, recurses := true, apart := false }
def FnExactSeenFromLeftSaid : Prop := fnExactSeenFromLeftRow.holds Try.pinned (OpenSpec.ofChange fnExactSeenFromLeftSpec)

/-- ITS FALSE NEIGHBOUR: 'it returns false'. Refute it at one input. -/
def fnExactSeenFromLeftWrong : ChangeSpec := { name := "fnExactSeenFromLeft", fn := fun _ => fun
  | [d] => { results := [.lit (.bool false)], args := [d] }
  | _ => none }
def FnExactSeenFromLeftWrongFalsely : Prop := fnExactSeenFromLeftRow.holds Try.pinned (OpenSpec.ofChange fnExactSeenFromLeftWrong)

/-- 'laws.FnExactSeenFromRight': WHATEVER THE INPUT: true; the input reads as it did. -/
def fnExactSeenFromRightSpec : ChangeSpec := { name := "fnExactSeenFromRight", fn := fun _ => fun
  | [d] => { results := [.lit (.bool true)], args := [d] }
  | _ => none }
def fnExactSeenFromRightRow : OpenClaim := { program := "ytfkbacdaoeecdaa", sum := "9a6b30d171b244244362ba1a33e9b257a956aaf358e933a41e261a971feea427", func := "loop.example/g01332/laws.FnExactSeenFromRight", spec := "fnExactSeenFromRight", unfollowed := true, recurses := true, apart := false }
def FnExactSeenFromRightSaid : Prop := fnExactSeenFromRightRow.holds Try.pinned (OpenSpec.ofChange fnExactSeenFromRightSpec)

/-- ITS FALSE NEIGHBOUR: 'it returns false'. Refute it at one input. -/
def fnExactSeenFromRightWrong : ChangeSpec := { name := "fnExactSeenFromRight", fn := fun _ => fun
  | [d] => { results := [.lit (.bool false)], args := [d] }
  | _ => none }
def FnExactSeenFromRightWrongFalsely : Prop := fnExactSeenFromRightRow.holds Try.pinned (OpenSpec.ofChange fnExactSeenFromRightWrong)

/-- 'laws.FnExactFewestToLeave': WHATEVER THE INPUT: true; the input reads as it did. -/
def fnExactFewestToLeaveSpec : ChangeSpec := { name := "fnExactFewestToLeave", fn := fun _ => fun
  | [d] => { results := [.lit (.bool true)], args := [d] }
  | _ => none }
def fnExactFewestToLeaveRow : OpenClaim := { program := "ytfkbacdaoeecdaa", sum := "9a6b30d171b244244362ba1a33e9b257a956aaf358e933a41e261a971feea427", func := "loop.example/g01332/laws.FnExactFewestToLeave", spec := "fnExactFewestToLeave", unfollowed := true, recurses := true, apart := false }
def FnExactFewestToLeaveSaid : Prop := fnExactFewestToLeaveRow.holds Try.pinned (OpenSpec.ofChange fnExactFewestToLeaveSpec)

/-- ITS FALSE NEIGHBOUR: 'it returns false'. Refute it at one input. -/
def fnExactFewestToLeaveWrong : ChangeSpec := { name := "fnExactFewestToLeave", fn := fun _ => fun
  | [d] => { results := [.lit (.bool false)], args := [d] }
  | _ => none }
def FnExactFewestToLeaveWrongFalsely : Prop := fnExactFewestToLeaveRow.holds Try.pinned (OpenSpec.ofChange fnExactFewestToLeaveWrong)

/-- 'laws.FnExactLongestRising': WHATEVER THE INPUT: true; the input reads as it did. -/
def fnExactLongestRisingSpec : ChangeSpec := { name := "fnExactLongestRising", fn := fun _ => fun
  | [d] => { results := [.lit (.bool true)], args := [d] }
  | _ => none }
def fnExactLongestRisingRow : OpenClaim := { program := "ytfkbacdaoeecdaa", sum := "9a6b30d171b244244362ba1a33e9b257a956aaf358e933a41e261a971feea427", func := "loop.example/g01332/laws.FnExactLongestRising", spec := "fnExactLongestRising", unfollowed := true, recurses := true, apart := false }
def FnExactLongestRisingSaid : Prop := fnExactLongestRisingRow.holds Try.pinned (OpenSpec.ofChange fnExactLongestRisingSpec)

/-- ITS FALSE NEIGHBOUR: 'it returns false'. Refute it at one input. -/
def fnExactLongestRisingWrong : ChangeSpec := { name := "fnExactLongestRising", fn := fun _ => fun
  | [d] => { results := [.lit (.bool false)], args := [d] }
  | _ => none }
def FnExactLongestRisingWrongFalsely : Prop := fnExactLongestRisingRow.holds Try.pinned (OpenSpec.ofChange fnExactLongestRisingWrong)

/-- 'laws.FnExactAreHeights': WHATEVER THE INPUT: true; the input reads as it did. -/
def fnExactAreHeightsSpec : ChangeSpec := { name := "fnExactAreHeights", fn := fun _ => fun
  | [d] => { results := [.lit (.bool true)], args := [d] }
  | _ => none }
def fnExactAreHeightsRow : OpenClaim := { program := "ytfkbacdaoeecdaa", sum := "9a6b30d171b244244362ba1a33e9b257a956aaf358e933a41e261a971feea427", func := "loop.example/g01332/laws.FnExactAreHeights", spec := "fnExactAreHeights", unfollowed := true, recurses := true, apart := false }
def FnExactAreHeightsSaid : Prop := fnExactAreHeightsRow.holds Try.pinned (OpenSpec.ofChange fnExactAreHeightsSpec)

/-- ITS FALSE NEIGHBOUR: 'it returns false'. Refute it at one input. -/
def fnExactAreHeightsWrong : ChangeSpec := { name := "fnExactAreHeights", fn := fun _ => fun
  | [d] => { results := [.lit (.bool false)], args := [d] }
  | _ => none }
def FnExactAreHeightsWrongFalsely : Prop := fnExactAreHeightsRow.holds Try.pinned (OpenSpec.ofChange fnExactAreHeightsWrong)

/- THE SECOND FORM. 'bulk': how many values and letters a reading holds, each counted each time it is reached (what is shared counts as often as it is met; a slice's spare places count too). A statement '..UptoSaid' is the law's where the arguments, and the package variables that the reading takes, are together of bulk at most 1048576: NARROWER than '..Said'. Prove '..Said' where nothing that the law and all that it calls make is longer than what came in: it says more and counts as full. Else prove '..UptoSaid'. A law counts once. -/
mutual
def uptoBulk {H : Type} : DataW H → Nat
  | .lit (.string bytes) => bytes.length + 1
  | .lit _ => 1
  | .nil => 1
  | .ptr d => uptoBulk d + 1
  | .slice elems spare => uptoBulkAll elems + uptoBulkAll spare + 1
  | .agg parts => uptoBulkAll parts + 1
  | .iface _ d => uptoBulk d + 1
  | .map entries => uptoBulkEntries entries + 1
  | .held _ => 1
def uptoBulkAll {H : Type} : List (DataW H) → Nat
  | [] => 0
  | d :: r => uptoBulk d + uptoBulkAll r
def uptoBulkEntries {H : Type} : List (Lit × DataW H) → Nat
  | [] => 0
  | x :: r => uptoBulkEntry x + uptoBulkEntries r
def uptoBulkEntry {H : Type} : Lit × DataW H → Nat
  | (.string bytes, d) => bytes.length + uptoBulk d + 1
  | (_, d) => uptoBulk d + 1
 end
def uptoSmall : (H : Type) → List (DataW H) → Bool := fun _ ds => decide (uptoBulkAll ds ≤ 1048576)
def OpenSpec.upto (s : _root_.Go.ChangeSpec) : _root_.Go.OpenSpec := { _root_.Go.OpenSpec.ofChange s with cond := some uptoSmall }

/-- 'laws.FnExactStepUp', WHERE WHAT IT READS IS OF BULK AT MOST 1048576: true; the input reads as it did. -/
def fnExactStepUpUptoRow : OpenClaim := { program := "ytfkbacdaoeecdaa", sum := "9a6b30d171b244244362ba1a33e9b257a956aaf358e933a41e261a971feea427", func := "loop.example/g01332/laws.FnExactStepUp", spec := "fnExactStepUp", unfollowed := true, recurses := true, apart := false, narrowed := true }
def FnExactStepUpUptoSaid : Prop := fnExactStepUpUptoRow.holds Try.pinned (OpenSpec.upto fnExactStepUpSpec)

/-- 'laws.FnExactSeenFromLeft', WHERE WHAT IT READS IS OF BULK AT MOST 1048576: true; the input reads as it did. -/
def fnExactSeenFromLeftUptoRow : OpenClaim := { program := "ytfkbacdaoeecdaa", sum := "9a6b30d171b244244362ba1a33e9b257a956aaf358e933a41e261a971feea427", func := "loop.example/g01332/laws.FnExactSeenFromLeft", spec := "fnExactSeenFromLeft", unfollowed := true, recurses := true, apart := false, narrowed := true }
def FnExactSeenFromLeftUptoSaid : Prop := fnExactSeenFromLeftUptoRow.holds Try.pinned (OpenSpec.upto fnExactSeenFromLeftSpec)

/-- 'laws.FnExactSeenFromRight', WHERE WHAT IT READS IS OF BULK AT MOST 1048576: true; the input reads as it did. -/
def fnExactSeenFromRightUptoRow : OpenClaim := { program := "ytfkbacdaoeecdaa", sum := "9a6b30d171b244244362ba1a33e9b257a956aaf358e933a41e261a971feea427", func := "loop.example/g01332/laws.FnExactSeenFromRight", spec := "fnExactSeenFromRight", unfollowed := true, recurses := true, apart := false, narrowed := true }
def FnExactSeenFromRightUptoSaid : Prop := fnExactSeenFromRightUptoRow.holds Try.pinned (OpenSpec.upto fnExactSeenFromRightSpec)

/-- 'laws.FnExactFewestToLeave', WHERE WHAT IT READS IS OF BULK AT MOST 1048576: true; the input reads as it did. -/
def fnExactFewestToLeaveUptoRow : OpenClaim := { program := "ytfkbacdaoeecdaa", sum := "9a6b30d171b244244362ba1a33e9b257a956aaf358e933a41e261a971feea427", func := "loop.example/g01332/laws.FnExactFewestToLeave", spec := "fnExactFewestToLeave", unfollowed := true, recurses := true, apart := false, narrowed := true }
def FnExactFewestToLeaveUptoSaid : Prop := fnExactFewestToLeaveUptoRow.holds Try.pinned (OpenSpec.upto fnExactFewestToLeaveSpec)

/-- 'laws.FnExactLongestRising', WHERE WHAT IT READS IS OF BULK AT MOST 1048576: true; the input reads as it did. -/
def fnExactLongestRisingUptoRow : OpenClaim := { program := "ytfkbacdaoeecdaa", sum := "9a6b30d171b244244362ba1a33e9b257a956aaf358e933a41e261a971feea427", func := "loop.example/g01332/laws.FnExactLongestRising", spec := "fnExactLongestRising", unfollowed := true, recurses := true, apart := false, narrowed := true }
def FnExactLongestRisingUptoSaid : Prop := fnExactLongestRisingUptoRow.holds Try.pinned (OpenSpec.upto fnExactLongestRisingSpec)

/-- 'laws.FnExactAreHeights', WHERE WHAT IT READS IS OF BULK AT MOST 1048576: true; the input reads as it did. -/
def fnExactAreHeightsUptoRow : OpenClaim := { program := "ytfkbacdaoeecdaa", sum := "9a6b30d171b244244362ba1a33e9b257a956aaf358e933a41e261a971feea427", func := "loop.example/g01332/laws.FnExactAreHeights", spec := "fnExactAreHeights", unfollowed := true, recurses := true, apart := false, narrowed := true }
def FnExactAreHeightsUptoSaid : Prop := fnExactAreHeightsUptoRow.holds Try.pinned (OpenSpec.upto fnExactAreHeightsSpec)

end Rows
end Go.Proofs.Ytfkbacdaoeecdaa
