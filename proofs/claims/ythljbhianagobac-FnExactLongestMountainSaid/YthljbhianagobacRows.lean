/-
  No cell of these rows narrows 'for every input' (looked for: loops, veiled, ifaces, maps, wideKeys, modest, calm, conditions, laid).
  DERIVED. THE GIVEN ROWS OF THIS SEAT. 6 by the template 'for every input the law returns true; each argument reads behind the call as it read before'; 0 by the template 'total and deterministic' (their statements: YthljbhianagobacTotals.lean).
  GIVEN WITH THE SEED: the statements are not yours to turn. If you find one false, say at which input.
  Laid BY PROGRAM, IN A SANDBOX (cutbox-rows.mjs): the forced cells as the released guide's own fill.sh prints them over the translation 0a208edb5c6e6299… (all of the seat's roots in one cut). By AI agents, Wed Nov 11 2026. No macro, syntax, notation, axiom, sorry.
-/
import Derived.Test.YthljbhianagobacChecked
import GoSem.Claim
import GoSem.ClaimJoined
import GoSem.ClaimMapViews
import Derived.JoinedTies
import Derived.KernelRfl
namespace Go.Proofs.Ythljbhianagobac
/- THE CELL 'sum', in the pinned program and in every row, IS THE sha256 OF THE DUMP (.gsa) THAT YthljbhianagobacProg.lean LOADS. Nothing in Lean hashes anything: it is a label: what it is worth is what the hold of that sum in a sandbox is worth. -/
noncomputable def Try.pinned : Pinned := { name := "ythljbhianagobac", sum := "0a208edb5c6e6299324a31e717bb8cfcf38ba8514cb67ddbba22a8a7ad9c62e7", checked := Try.checked }
namespace Rows
def none {H : Type} : Left H := { results := [], args := [] }

/-- 'laws.FnExactLongestMountain': WHATEVER THE INPUT: true; the input reads as it did. -/
def fnExactLongestMountainSpec : ChangeSpec := { name := "fnExactLongestMountain", fn := fun _ => fun
  | [d] => { results := [.lit (.bool true)], args := [d] }
  | _ => none }
def fnExactLongestMountainRow : OpenClaim := { program := "ythljbhianagobac", sum := "0a208edb5c6e6299324a31e717bb8cfcf38ba8514cb67ddbba22a8a7ad9c62e7", func := "loop.example/g01332/laws.FnExactLongestMountain", spec := "fnExactLongestMountain", unfollowed := true, recurses := true, apart := false }
def FnExactLongestMountainSaid : Prop := fnExactLongestMountainRow.holds Try.pinned (OpenSpec.ofChange fnExactLongestMountainSpec)

/-- ITS FALSE NEIGHBOUR: 'it returns false'. Refute it at one input. -/
def fnExactLongestMountainWrong : ChangeSpec := { name := "fnExactLongestMountain", fn := fun _ => fun
  | [d] => { results := [.lit (.bool false)], args := [d] }
  | _ => none }
def FnExactLongestMountainWrongFalsely : Prop := fnExactLongestMountainRow.holds Try.pinned (OpenSpec.ofChange fnExactLongestMountainWrong)

/-- 'laws.FnExactFirstBySeen': WHATEVER THE INPUT: true; the input reads as it did. -/
def fnExactFirstBySeenSpec : ChangeSpec := { name := "fnExactFirstBySeen", fn := fun _ => fun
  | [d1, d2, d3] => { results := [.lit (.bool true)], args := [d1, d2, d3] }
  | _ => none }
def fnExactFirstBySeenRow : OpenClaim := { program := "ythljbhianagobac", sum := "0a208edb5c6e6299324a31e717bb8cfcf38ba8514cb67ddbba22a8a7ad9c62e7", func := "loop.example/g01332/laws.FnExactFirstBySeen", spec := "fnExactFirstBySeen", unfollowed := true, recurses := true, apart := false }
def FnExactFirstBySeenSaid : Prop := fnExactFirstBySeenRow.holds Try.pinned (OpenSpec.ofChange fnExactFirstBySeenSpec)

/-- ITS FALSE NEIGHBOUR: 'it returns false'. Refute it at one input. -/
def fnExactFirstBySeenWrong : ChangeSpec := { name := "fnExactFirstBySeen", fn := fun _ => fun
  | [d1, d2, d3] => { results := [.lit (.bool false)], args := [d1, d2, d3] }
  | _ => none }
def FnExactFirstBySeenWrongFalsely : Prop := fnExactFirstBySeenRow.holds Try.pinned (OpenSpec.ofChange fnExactFirstBySeenWrong)

/-- 'laws.FnHeightsSeenOfAll': WHATEVER THE INPUT: true; the input reads as it did. -/
def fnHeightsSeenOfAllSpec : ChangeSpec := { name := "fnHeightsSeenOfAll", fn := fun _ => fun
  | [d1, d2, d3, d4, d5, d6] => { results := [.lit (.bool true)], args := [d1, d2, d3, d4, d5, d6] }
  | _ => none }
def fnHeightsSeenOfAllRow : OpenClaim := { program := "ythljbhianagobac", sum := "0a208edb5c6e6299324a31e717bb8cfcf38ba8514cb67ddbba22a8a7ad9c62e7", func := "loop.example/g01332/laws.FnHeightsSeenOfAll", spec := "fnHeightsSeenOfAll", unfollowed := true, recurses := true, apart := false }
def FnHeightsSeenOfAllSaid : Prop := fnHeightsSeenOfAllRow.holds Try.pinned (OpenSpec.ofChange fnHeightsSeenOfAllSpec)

/-- ITS FALSE NEIGHBOUR: 'it returns false'. Refute it at one input. -/
def fnHeightsSeenOfAllWrong : ChangeSpec := { name := "fnHeightsSeenOfAll", fn := fun _ => fun
  | [d1, d2, d3, d4, d5, d6] => { results := [.lit (.bool false)], args := [d1, d2, d3, d4, d5, d6] }
  | _ => none }
def FnHeightsSeenOfAllWrongFalsely : Prop := fnHeightsSeenOfAllRow.holds Try.pinned (OpenSpec.ofChange fnHeightsSeenOfAllWrong)

/-- 'laws.FnHeightsSeen': WHATEVER THE INPUT: true; the input reads as it did. -/
def fnHeightsSeenSpec : ChangeSpec := { name := "fnHeightsSeen", fn := fun _ => fun
  | [d1, d2] => { results := [.lit (.bool true)], args := [d1, d2] }
  | _ => none }
def fnHeightsSeenRow : OpenClaim := { program := "ythljbhianagobac", sum := "0a208edb5c6e6299324a31e717bb8cfcf38ba8514cb67ddbba22a8a7ad9c62e7", func := "loop.example/g01332/laws.FnHeightsSeen", spec := "fnHeightsSeen", unfollowed := true, recurses := true, apart := false }
def FnHeightsSeenSaid : Prop := fnHeightsSeenRow.holds Try.pinned (OpenSpec.ofChange fnHeightsSeenSpec)

/-- ITS FALSE NEIGHBOUR: 'it returns false'. Refute it at one input. -/
def fnHeightsSeenWrong : ChangeSpec := { name := "fnHeightsSeen", fn := fun _ => fun
  | [d1, d2] => { results := [.lit (.bool false)], args := [d1, d2] }
  | _ => none }
def FnHeightsSeenWrongFalsely : Prop := fnHeightsSeenRow.holds Try.pinned (OpenSpec.ofChange fnHeightsSeenWrong)

/-- 'laws.FnHeightsRiseOfAll': WHATEVER THE INPUT: true; the input reads as it did. -/
def fnHeightsRiseOfAllSpec : ChangeSpec := { name := "fnHeightsRiseOfAll", fn := fun _ => fun
  | [d1, d2, d3, d4, d5, d6, d7, d8] => { results := [.lit (.bool true)], args := [d1, d2, d3, d4, d5, d6, d7, d8] }
  | _ => none }
def fnHeightsRiseOfAllRow : OpenClaim := { program := "ythljbhianagobac", sum := "0a208edb5c6e6299324a31e717bb8cfcf38ba8514cb67ddbba22a8a7ad9c62e7", func := "loop.example/g01332/laws.FnHeightsRiseOfAll", spec := "fnHeightsRiseOfAll", unfollowed := true, recurses := true, apart := false }
def FnHeightsRiseOfAllSaid : Prop := fnHeightsRiseOfAllRow.holds Try.pinned (OpenSpec.ofChange fnHeightsRiseOfAllSpec)

/-- ITS FALSE NEIGHBOUR: 'it returns false'. Refute it at one input. -/
def fnHeightsRiseOfAllWrong : ChangeSpec := { name := "fnHeightsRiseOfAll", fn := fun _ => fun
  | [d1, d2, d3, d4, d5, d6, d7, d8] => { results := [.lit (.bool false)], args := [d1, d2, d3, d4, d5, d6, d7, d8] }
  | _ => none }
def FnHeightsRiseOfAllWrongFalsely : Prop := fnHeightsRiseOfAllRow.holds Try.pinned (OpenSpec.ofChange fnHeightsRiseOfAllWrong)

/-- 'laws.FnHeightsRise': WHATEVER THE INPUT: true; the input reads as it did. -/
def fnHeightsRiseSpec : ChangeSpec := { name := "fnHeightsRise", fn := fun _ => fun
  | [d1, d2] => { results := [.lit (.bool true)], args := [d1, d2] }
  | _ => none }
def fnHeightsRiseRow : OpenClaim := { program := "ythljbhianagobac", sum := "0a208edb5c6e6299324a31e717bb8cfcf38ba8514cb67ddbba22a8a7ad9c62e7", func := "loop.example/g01332/laws.FnHeightsRise", spec := "fnHeightsRise", unfollowed := true, recurses := true, apart := false }
def FnHeightsRiseSaid : Prop := fnHeightsRiseRow.holds Try.pinned (OpenSpec.ofChange fnHeightsRiseSpec)

/-- ITS FALSE NEIGHBOUR: 'it returns false'. Refute it at one input. -/
def fnHeightsRiseWrong : ChangeSpec := { name := "fnHeightsRise", fn := fun _ => fun
  | [d1, d2] => { results := [.lit (.bool false)], args := [d1, d2] }
  | _ => none }
def FnHeightsRiseWrongFalsely : Prop := fnHeightsRiseRow.holds Try.pinned (OpenSpec.ofChange fnHeightsRiseWrong)

/- THE SECOND FORM. 'bulk': how many values and letters a reading holds, each counted each time it is reached (what is shared counts as often as it is met; a slice's spare places count too). A statement '..UptoSaid' is the law's where the arguments, and the package variables that the reading takes, are together of bulk at most 1048576: NARROWER than '..Said'. Prove '..Said' where nothing that the law and all that it calls make is longer than what came in: it says more and counts as full. Else prove '..UptoSaid'. A law counts once. -/
mutual
def uptoBulk {H : Type} : DataW H → Nat
  | .lit (.string bytes) => bytes.length + 1
  | .lit _ => 1
  | .nil => 1
  | .ptr d => uptoBulk d + 1
  | .slice elems spare => uptoBulkAll elems + uptoBulkAll spare + 1
  | .agg parts => uptoBulkAll parts + 1
  | .iface _ d => uptoBulk d + 1
  | .map entries => uptoBulkEntries entries + 1
  | .held _ => 1
def uptoBulkAll {H : Type} : List (DataW H) → Nat
  | [] => 0
  | d :: r => uptoBulk d + uptoBulkAll r
def uptoBulkEntries {H : Type} : List (Lit × DataW H) → Nat
  | [] => 0
  | x :: r => uptoBulkEntry x + uptoBulkEntries r
def uptoBulkEntry {H : Type} : Lit × DataW H → Nat
  | (.string bytes, d) => bytes.length + uptoBulk d + 1
  | (_, d) => uptoBulk d + 1
 end
def uptoSmall : (H : Type) → List (DataW H) → Bool := fun _ ds => decide (uptoBulkAll ds ≤ 1048576)
def OpenSpec.upto (s : _root_.Go.ChangeSpec) : _root_.Go.OpenSpec := { _root_.Go.OpenSpec.ofChange s with cond := some uptoSmall }

/-- 'laws.FnExactLongestMountain', WHERE WHAT IT READS IS OF BULK AT MOST 1048576: true; the input reads as it did. -/
def fnExactLongestMountainUptoRow : OpenClaim := { program := "ythljbhianagobac", sum := "0a208edb5c6e6299324a31e717bb8cfcf38ba8514cb67ddbba22a8a7ad9c62e7", func := "loop.example/g01332/laws.FnExactLongestMountain", spec := "fnExactLongestMountain", unfollowed := true, recurses := true, apart := false, narrowed := true }
def FnExactLongestMountainUptoSaid : Prop := fnExactLongestMountainUptoRow.holds Try.pinned (OpenSpec.upto fnExactLongestMountainSpec)

/-- 'laws.FnExactFirstBySeen', WHERE WHAT IT READS IS OF BULK AT MOST 1048576: true; the input reads as it did. -/
def fnExactFirstBySeenUptoRow : OpenClaim := { program := "ythljbhianagobac", sum := "0a208edb5c6e6299324a31e717bb8cfcf38ba8514cb67ddbba22a8a7ad9c62e7", func := "loop.example/g01332/laws.FnExactFirstBySeen", spec := "fnExactFirstBySeen", unfollowed := true, recurses := true, apart := false, narrowed := true }
def FnExactFirstBySeenUptoSaid : Prop := fnExactFirstBySeenUptoRow.holds Try.pinned (OpenSpec.upto fnExactFirstBySeenSpec)

/-- 'laws.FnHeightsSeenOfAll', WHERE WHAT IT READS IS OF BULK AT MOST 1048576: true; the input reads as it did. -/
def fnHeightsSeenOfAllUptoRow : OpenClaim := { program := "ythljbhianagobac", sum := "0a208edb5c6e6299324a31e717bb8cfcf38ba8514cb67ddbba22a8a7ad9c62e7", func := "loop.example/g01332/laws.FnHeightsSeenOfAll", spec := "fnHeightsSeenOfAll", unfollowed := true, recurses := true, apart := false, narrowed := true }
def FnHeightsSeenOfAllUptoSaid : Prop := fnHeightsSeenOfAllUptoRow.holds Try.pinned (OpenSpec.upto fnHeightsSeenOfAllSpec)

/-- 'laws.FnHeightsSeen', WHERE WHAT IT READS IS OF BULK AT MOST 1048576: true; the input reads as it did. -/
def fnHeightsSeenUptoRow : OpenClaim := { program := "ythljbhianagobac", sum := "0a208edb5c6e6299324a31e717bb8cfcf38ba8514cb67ddbba22a8a7ad9c62e7", func := "loop.example/g01332/laws.FnHeightsSeen", spec := "fnHeightsSeen", unfollowed := true, recurses := true, apart := false, narrowed := true }
def FnHeightsSeenUptoSaid : Prop := fnHeightsSeenUptoRow.holds Try.pinned (OpenSpec.upto fnHeightsSeenSpec)

/-- 'laws.FnHeightsRiseOfAll', WHERE WHAT IT READS IS OF BULK AT MOST 1048576: true; the input reads as it did. -/
def fnHeightsRiseOfAllUptoRow : OpenClaim := { program := "ythljbhianagobac", sum := "0a208edb5c6e6299324a31e717bb8cfcf38ba8514cb67ddbba22a8a7ad9c62e7", func := "loop.example/g01332/laws.FnHeightsRiseOfAll", spec := "fnHeightsRiseOfAll", unfollowed := true, recurses := true, apart := false, narrowed := true }
def FnHeightsRiseOfAllUptoSaid : Prop := fnHeightsRiseOfAllUptoRow.holds Try.pinned (OpenSpec.upto fnHeightsRiseOfAllSpec)

/-- 'laws.FnHeightsRise', WHERE WHAT IT READS IS OF BULK AT MOST 1048576: true; the input reads as it did. -/
def fnHeightsRiseUptoRow : OpenClaim := { program := "ythljbhianagobac", sum := "0a208edb5c6e6299324a31e717bb8cfcf38ba8514cb67ddbba22a8a7ad9c62e7", func := "loop.example/g01332/laws.FnHeightsRise", spec := "fnHeightsRise", unfollowed := true, recurses := true, apart := false, narrowed := true }
def FnHeightsRiseUptoSaid : Prop := fnHeightsRiseUptoRow.holds Try.pinned (OpenSpec.upto fnHeightsRiseSpec)

end Rows
end Go.Proofs.Ythljbhianagobac
