/-
  No cell of these rows narrows 'for every input' (looked for: loops, veiled, ifaces, maps, wideKeys, modest, calm, conditions, laid).
  DERIVED. THE GIVEN ROWS OF THIS SEAT. 5 by the template 'for every input the law returns true; each argument reads behind the call as it read before'; 0 by the template 'total and deterministic' (their statements: YtleacijhpkogpacTotals.lean).
  GIVEN WITH THE SEED: the statements are not yours to turn. If you find one false, say at which input.
  Laid BY PROGRAM, IN A SANDBOX (cutbox-rows.mjs): the forced cells as the released guide's own fill.sh prints them over the translation 9246dd5dce72fa8b… (all of the seat's roots in one cut). By AI agents, Wed Nov 11 2026. No macro, syntax, notation, axiom, sorry.
-/
import Derived.Test.YtleacijhpkogpacChecked
import GoSem.Claim
import GoSem.ClaimJoined
import GoSem.ClaimMapViews
import Derived.JoinedTies
import Derived.KernelRfl
namespace Go.Proofs.Ytleacijhpkogpac
/- THE CELL 'sum', in the pinned program and in every row, IS THE sha256 OF THE DUMP (.gsa) THAT YtleacijhpkogpacProg.lean LOADS. Nothing in Lean hashes anything: it is a label: what it is worth is what the hold of that sum in a sandbox is worth. -/
noncomputable def Try.pinned : Pinned := { name := "ytleacijhpkogpac", sum := "9246dd5dce72fa8b1ee3b5eac5618ad1d838f0fef6f7bf489498b43dd6054ab0", checked := Try.checked }
namespace Rows
def none {H : Type} : Left H := { results := [], args := [] }

/-- 'laws.FnExactCountBySeen': WHATEVER THE INPUT: true; the input reads as it did. -/
def fnExactCountBySeenSpec : ChangeSpec := { name := "fnExactCountBySeen", fn := fun _ => fun
  | [d1, d2, d3] => { results := [.lit (.bool true)], args := [d1, d2, d3] }
  | _ => none }
def fnExactCountBySeenRow : OpenClaim := { program := "ytleacijhpkogpac", sum := "9246dd5dce72fa8b1ee3b5eac5618ad1d838f0fef6f7bf489498b43dd6054ab0", func := "loop.example/g01332/laws.FnExactCountBySeen", spec := "fnExactCountBySeen", recurses := true, apart := false }
def FnExactCountBySeenSaid : Prop := fnExactCountBySeenRow.holds Try.pinned (OpenSpec.ofChange fnExactCountBySeenSpec)

/-- ITS FALSE NEIGHBOUR: 'it returns false'. Refute it at one input. -/
def fnExactCountBySeenWrong : ChangeSpec := { name := "fnExactCountBySeen", fn := fun _ => fun
  | [d1, d2, d3] => { results := [.lit (.bool false)], args := [d1, d2, d3] }
  | _ => none }
def FnExactCountBySeenWrongFalsely : Prop := fnExactCountBySeenRow.holds Try.pinned (OpenSpec.ofChange fnExactCountBySeenWrong)

/-- 'laws.FnExactPairsSeeing': WHATEVER THE INPUT: true; the input reads as it did. -/
def fnExactPairsSeeingSpec : ChangeSpec := { name := "fnExactPairsSeeing", fn := fun _ => fun
  | [d] => { results := [.lit (.bool true)], args := [d] }
  | _ => none }
def fnExactPairsSeeingRow : OpenClaim := { program := "ytleacijhpkogpac", sum := "9246dd5dce72fa8b1ee3b5eac5618ad1d838f0fef6f7bf489498b43dd6054ab0", func := "loop.example/g01332/laws.FnExactPairsSeeing", spec := "fnExactPairsSeeing", unfollowed := true, recurses := true, apart := false }
def FnExactPairsSeeingSaid : Prop := fnExactPairsSeeingRow.holds Try.pinned (OpenSpec.ofChange fnExactPairsSeeingSpec)

/-- ITS FALSE NEIGHBOUR: 'it returns false'. Refute it at one input. -/
def fnExactPairsSeeingWrong : ChangeSpec := { name := "fnExactPairsSeeing", fn := fun _ => fun
  | [d] => { results := [.lit (.bool false)], args := [d] }
  | _ => none }
def FnExactPairsSeeingWrongFalsely : Prop := fnExactPairsSeeingRow.holds Try.pinned (OpenSpec.ofChange fnExactPairsSeeingWrong)

/-- 'laws.FnExactFirstBySeen': WHATEVER THE INPUT: true; the input reads as it did. -/
def fnExactFirstBySeenSpec : ChangeSpec := { name := "fnExactFirstBySeen", fn := fun _ => fun
  | [d1, d2, d3] => { results := [.lit (.bool true)], args := [d1, d2, d3] }
  | _ => none }
def fnExactFirstBySeenRow : OpenClaim := { program := "ytleacijhpkogpac", sum := "9246dd5dce72fa8b1ee3b5eac5618ad1d838f0fef6f7bf489498b43dd6054ab0", func := "loop.example/g01332/laws.FnExactFirstBySeen", spec := "fnExactFirstBySeen", unfollowed := true, recurses := true, apart := false }
def FnExactFirstBySeenSaid : Prop := fnExactFirstBySeenRow.holds Try.pinned (OpenSpec.ofChange fnExactFirstBySeenSpec)

/-- ITS FALSE NEIGHBOUR: 'it returns false'. Refute it at one input. -/
def fnExactFirstBySeenWrong : ChangeSpec := { name := "fnExactFirstBySeen", fn := fun _ => fun
  | [d1, d2, d3] => { results := [.lit (.bool false)], args := [d1, d2, d3] }
  | _ => none }
def FnExactFirstBySeenWrongFalsely : Prop := fnExactFirstBySeenRow.holds Try.pinned (OpenSpec.ofChange fnExactFirstBySeenWrong)

/-- 'laws.FnHeightsSeenOfAll': WHATEVER THE INPUT: true; the input reads as it did. -/
def fnHeightsSeenOfAllSpec : ChangeSpec := { name := "fnHeightsSeenOfAll", fn := fun _ => fun
  | [d1, d2, d3, d4, d5, d6] => { results := [.lit (.bool true)], args := [d1, d2, d3, d4, d5, d6] }
  | _ => none }
def fnHeightsSeenOfAllRow : OpenClaim := { program := "ytleacijhpkogpac", sum := "9246dd5dce72fa8b1ee3b5eac5618ad1d838f0fef6f7bf489498b43dd6054ab0", func := "loop.example/g01332/laws.FnHeightsSeenOfAll", spec := "fnHeightsSeenOfAll", unfollowed := true, recurses := true, apart := false }
def FnHeightsSeenOfAllSaid : Prop := fnHeightsSeenOfAllRow.holds Try.pinned (OpenSpec.ofChange fnHeightsSeenOfAllSpec)

/-- ITS FALSE NEIGHBOUR: 'it returns false'. Refute it at one input. -/
def fnHeightsSeenOfAllWrong : ChangeSpec := { name := "fnHeightsSeenOfAll", fn := fun _ => fun
  | [d1, d2, d3, d4, d5, d6] => { results := [.lit (.bool false)], args := [d1, d2, d3, d4, d5, d6] }
  | _ => none }
def FnHeightsSeenOfAllWrongFalsely : Prop := fnHeightsSeenOfAllRow.holds Try.pinned (OpenSpec.ofChange fnHeightsSeenOfAllWrong)

/-- 'laws.FnHeightsRiseOfAll': WHATEVER THE INPUT: true; the input reads as it did. -/
def fnHeightsRiseOfAllSpec : ChangeSpec := { name := "fnHeightsRiseOfAll", fn := fun _ => fun
  | [d1, d2, d3, d4, d5, d6, d7, d8] => { results := [.lit (.bool true)], args := [d1, d2, d3, d4, d5, d6, d7, d8] }
  | _ => none }
def fnHeightsRiseOfAllRow : OpenClaim := { program := "ytleacijhpkogpac", sum := "9246dd5dce72fa8b1ee3b5eac5618ad1d838f0fef6f7bf489498b43dd6054ab0", func := "loop.example/g01332/laws.FnHeightsRiseOfAll", spec := "fnHeightsRiseOfAll", unfollowed := true, recurses := true, apart := false }
def FnHeightsRiseOfAllSaid : Prop := fnHeightsRiseOfAllRow.holds Try.pinned (OpenSpec.ofChange fnHeightsRiseOfAllSpec)

/-- ITS FALSE NEIGHBOUR: 'it returns false'. Refute it at one input. -/
def fnHeightsRiseOfAllWrong : ChangeSpec := { name := "fnHeightsRiseOfAll", fn := fun _ => fun
  | [d1, d2, d3, d4, d5, d6, d7, d8] => { results := [.lit (.bool false)], args := [d1, d2, d3, d4, d5, d6, d7, d8] }
  | _ => none }
def FnHeightsRiseOfAllWrongFalsely : Prop := fnHeightsRiseOfAllRow.holds Try.pinned (OpenSpec.ofChange fnHeightsRiseOfAllWrong)

/- THE SECOND FORM. 'bulk': how many values and letters a reading holds, each counted each time it is reached (what is shared counts as often as it is met; a slice's spare places count too). A statement '..UptoSaid' is the law's where the arguments, and the package variables that the reading takes, are together of bulk at most 1048576: NARROWER than '..Said'. Prove '..Said' where nothing that the law and all that it calls make is longer than what came in: it says more and counts as full. Else prove '..UptoSaid'. A law counts once. -/
mutual
def uptoBulk {H : Type} : DataW H → Nat
  | .lit (.string bytes) => bytes.length + 1
  | .lit _ => 1
  | .nil => 1
  | .ptr d => uptoBulk d + 1
  | .slice elems spare => uptoBulkAll elems + uptoBulkAll spare + 1
  | .agg parts => uptoBulkAll parts + 1
  | .iface _ d => uptoBulk d + 1
  | .map entries => uptoBulkEntries entries + 1
  | .held _ => 1
def uptoBulkAll {H : Type} : List (DataW H) → Nat
  | [] => 0
  | d :: r => uptoBulk d + uptoBulkAll r
def uptoBulkEntries {H : Type} : List (Lit × DataW H) → Nat
  | [] => 0
  | x :: r => uptoBulkEntry x + uptoBulkEntries r
def uptoBulkEntry {H : Type} : Lit × DataW H → Nat
  | (.string bytes, d) => bytes.length + uptoBulk d + 1
  | (_, d) => uptoBulk d + 1
 end
def uptoSmall : (H : Type) → List (DataW H) → Bool := fun _ ds => decide (uptoBulkAll ds ≤ 1048576)
def OpenSpec.upto (s : _root_.Go.ChangeSpec) : _root_.Go.OpenSpec := { _root_.Go.OpenSpec.ofChange s with cond := some uptoSmall }

/-- 'laws.FnExactCountBySeen', WHERE WHAT IT READS IS OF BULK AT MOST 1048576: true; the input reads as it did. -/
def fnExactCountBySeenUptoRow : OpenClaim := { program := "ytleacijhpkogpac", sum := "9246dd5dce72fa8b1ee3b5eac5618ad1d838f0fef6f7bf489498b43dd6054ab0", func := "loop.example/g01332/laws.FnExactCountBySeen", spec := "fnExactCountBySeen", recurses := true, apart := false, narrowed := true }
def FnExactCountBySeenUptoSaid : Prop := fnExactCountBySeenUptoRow.holds Try.pinned (OpenSpec.upto fnExactCountBySeenSpec)

/-- 'laws.FnExactPairsSeeing', WHERE WHAT IT READS IS OF BULK AT MOST 1048576: true; the input reads as it did. -/
def fnExactPairsSeeingUptoRow : OpenClaim := { program := "ytleacijhpkogpac", sum := "9246dd5dce72fa8b1ee3b5eac5618ad1d838f0fef6f7bf489498b43dd6054ab0", func := "loop.example/g01332/laws.FnExactPairsSeeing", spec := "fnExactPairsSeeing", unfollowed := true, recurses := true, apart := false, narrowed := true }
def FnExactPairsSeeingUptoSaid : Prop := fnExactPairsSeeingUptoRow.holds Try.pinned (OpenSpec.upto fnExactPairsSeeingSpec)

/-- 'laws.FnExactFirstBySeen', WHERE WHAT IT READS IS OF BULK AT MOST 1048576: true; the input reads as it did. -/
def fnExactFirstBySeenUptoRow : OpenClaim := { program := "ytleacijhpkogpac", sum := "9246dd5dce72fa8b1ee3b5eac5618ad1d838f0fef6f7bf489498b43dd6054ab0", func := "loop.example/g01332/laws.FnExactFirstBySeen", spec := "fnExactFirstBySeen", unfollowed := true, recurses := true, apart := false, narrowed := true }
def FnExactFirstBySeenUptoSaid : Prop := fnExactFirstBySeenUptoRow.holds Try.pinned (OpenSpec.upto fnExactFirstBySeenSpec)

/-- 'laws.FnHeightsSeenOfAll', WHERE WHAT IT READS IS OF BULK AT MOST 1048576: true; the input reads as it did. -/
def fnHeightsSeenOfAllUptoRow : OpenClaim := { program := "ytleacijhpkogpac", sum := "9246dd5dce72fa8b1ee3b5eac5618ad1d838f0fef6f7bf489498b43dd6054ab0", func := "loop.example/g01332/laws.FnHeightsSeenOfAll", spec := "fnHeightsSeenOfAll", unfollowed := true, recurses := true, apart := false, narrowed := true }
def FnHeightsSeenOfAllUptoSaid : Prop := fnHeightsSeenOfAllUptoRow.holds Try.pinned (OpenSpec.upto fnHeightsSeenOfAllSpec)

/-- 'laws.FnHeightsRiseOfAll', WHERE WHAT IT READS IS OF BULK AT MOST 1048576: true; the input reads as it did. -/
def fnHeightsRiseOfAllUptoRow : OpenClaim := { program := "ytleacijhpkogpac", sum := "9246dd5dce72fa8b1ee3b5eac5618ad1d838f0fef6f7bf489498b43dd6054ab0", func := "loop.example/g01332/laws.FnHeightsRiseOfAll", spec := "fnHeightsRiseOfAll", unfollowed := true, recurses := true, apart := false, narrowed := true }
def FnHeightsRiseOfAllUptoSaid : Prop := fnHeightsRiseOfAllUptoRow.holds Try.pinned (OpenSpec.upto fnHeightsRiseOfAllSpec)

end Rows
end Go.Proofs.Ytleacijhpkogpac
