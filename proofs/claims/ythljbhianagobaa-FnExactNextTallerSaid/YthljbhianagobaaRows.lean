/-
  No cell of these rows narrows 'for every input' (looked for: loops, veiled, ifaces, maps, wideKeys, modest, calm, conditions, laid).
  DERIVED. THE GIVEN ROWS OF THIS SEAT. 6 by the template 'for every input the law returns true; each argument reads behind the call as it read before'; 0 by the template 'total and deterministic' (their statements: YthljbhianagobaaTotals.lean).
  GIVEN WITH THE SEED: the statements are not yours to turn. If you find one false, say at which input.
  Laid BY PROGRAM, IN A SANDBOX (cutbox-rows.mjs): the forced cells as the released guide's own fill.sh prints them over the translation 9f872c90f05cb8e0… (all of the seat's roots in one cut). By AI agents, Wed Nov 11 2026. No macro, syntax, notation, axiom, sorry.
-/
import Derived.Test.YthljbhianagobaaChecked
import GoSem.Claim
import GoSem.ClaimJoined
import GoSem.ClaimMapViews
import Derived.JoinedTies
import Derived.KernelRfl
namespace Go.Proofs.Ythljbhianagobaa
/- THE CELL 'sum', in the pinned program and in every row, IS THE sha256 OF THE DUMP (.gsa) THAT YthljbhianagobaaProg.lean LOADS. Nothing in Lean hashes anything: it is a label: what it is worth is what the hold of that sum in a sandbox is worth. -/
noncomputable def Try.pinned : Pinned := { name := "ythljbhianagobaa", sum := "9f872c90f05cb8e0644abcc59e067af35c0c1073539349b7f72961a15a565425", checked := Try.checked }
namespace Rows
def none {H : Type} : Left H := { results := [], args := [] }

/-- 'laws.FnExactAreHeights': WHATEVER THE INPUT: true; the input reads as it did. -/
def fnExactAreHeightsSpec : ChangeSpec := { name := "fnExactAreHeights", fn := fun _ => fun
  | [d] => { results := [.lit (.bool true)], args := [d] }
  | _ => none }
def fnExactAreHeightsRow : OpenClaim := { program := "ythljbhianagobaa", sum := "9f872c90f05cb8e0644abcc59e067af35c0c1073539349b7f72961a15a565425", func := "loop.example/g01332/laws.FnExactAreHeights", spec := "fnExactAreHeights", unfollowed := true, recurses := true, apart := false }
def FnExactAreHeightsSaid : Prop := fnExactAreHeightsRow.holds Try.pinned (OpenSpec.ofChange fnExactAreHeightsSpec)

/-- ITS FALSE NEIGHBOUR: 'it returns false'. Refute it at one input. -/
def fnExactAreHeightsWrong : ChangeSpec := { name := "fnExactAreHeights", fn := fun _ => fun
  | [d] => { results := [.lit (.bool false)], args := [d] }
  | _ => none }
def FnExactAreHeightsWrongFalsely : Prop := fnExactAreHeightsRow.holds Try.pinned (OpenSpec.ofChange fnExactAreHeightsWrong)

/-- 'laws.FnExactCountDisorder': WHATEVER THE INPUT: true; the input reads as it did. -/
def fnExactCountDisorderSpec : ChangeSpec := { name := "fnExactCountDisorder", fn := fun _ => fun
  | [d] => { results := [.lit (.bool true)], args := [d] }
  | _ => none }
def fnExactCountDisorderRow : OpenClaim := { program := "ythljbhianagobaa", sum := "9f872c90f05cb8e0644abcc59e067af35c0c1073539349b7f72961a15a565425", func := "loop.example/g01332/laws.FnExactCountDisorder", spec := "fnExactCountDisorder", unfollowed := true, recurses := true, apart := false }
def FnExactCountDisorderSaid : Prop := fnExactCountDisorderRow.holds Try.pinned (OpenSpec.ofChange fnExactCountDisorderSpec)

/-- ITS FALSE NEIGHBOUR: 'it returns false'. Refute it at one input. -/
def fnExactCountDisorderWrong : ChangeSpec := { name := "fnExactCountDisorder", fn := fun _ => fun
  | [d] => { results := [.lit (.bool false)], args := [d] }
  | _ => none }
def FnExactCountDisorderWrongFalsely : Prop := fnExactCountDisorderRow.holds Try.pinned (OpenSpec.ofChange fnExactCountDisorderWrong)

/-- 'laws.FnExactStepUp': WHATEVER THE INPUT: true; the input reads as it did. -/
def fnExactStepUpSpec : ChangeSpec := { name := "fnExactStepUp", fn := fun _ => fun
  | [d1, d2, d3] => { results := [.lit (.bool true)], args := [d1, d2, d3] }
  | _ => none }
def fnExactStepUpRow : OpenClaim := { program := "ythljbhianagobaa", sum := "9f872c90f05cb8e0644abcc59e067af35c0c1073539349b7f72961a15a565425", func := "loop.example/g01332/laws.FnExactStepUp", spec := "fnExactStepUp", unfollowed := true, recurses := true, apart := false }
def FnExactStepUpSaid : Prop := fnExactStepUpRow.holds Try.pinned (OpenSpec.ofChange fnExactStepUpSpec)

/-- ITS FALSE NEIGHBOUR: 'it returns false'. Refute it at one input. -/
def fnExactStepUpWrong : ChangeSpec := { name := "fnExactStepUp", fn := fun _ => fun
  | [d1, d2, d3] => { results := [.lit (.bool false)], args := [d1, d2, d3] }
  | _ => none }
def FnExactStepUpWrongFalsely : Prop := fnExactStepUpRow.holds Try.pinned (OpenSpec.ofChange fnExactStepUpWrong)

/-- 'laws.FnExactNextTaller': WHATEVER THE INPUT: true; the input reads as it did. -/
def fnExactNextTallerSpec : ChangeSpec := { name := "fnExactNextTaller", fn := fun _ => fun
  | [d] => { results := [.lit (.bool true)], args := [d] }
  | _ => none }
def fnExactNextTallerRow : OpenClaim := { program := "ythljbhianagobaa", sum := "9f872c90f05cb8e0644abcc59e067af35c0c1073539349b7f72961a15a565425", func := "loop.example/g01332/laws.FnExactNextTaller", spec := "fnExactNextTaller", unfollowed := true, recurses := true, apart := false }
def FnExactNextTallerSaid : Prop := fnExactNextTallerRow.holds Try.pinned (OpenSpec.ofChange fnExactNextTallerSpec)

/-- ITS FALSE NEIGHBOUR: 'it returns false'. Refute it at one input. -/
def fnExactNextTallerWrong : ChangeSpec := { name := "fnExactNextTaller", fn := fun _ => fun
  | [d] => { results := [.lit (.bool false)], args := [d] }
  | _ => none }
def FnExactNextTallerWrongFalsely : Prop := fnExactNextTallerRow.holds Try.pinned (OpenSpec.ofChange fnExactNextTallerWrong)

/-- 'laws.FnExactRanksOf': WHATEVER THE INPUT: true; the input reads as it did. -/
def fnExactRanksOfSpec : ChangeSpec := { name := "fnExactRanksOf", fn := fun _ => fun
  | [d] => { results := [.lit (.bool true)], args := [d] }
  | _ => none }
def fnExactRanksOfRow : OpenClaim := { program := "ythljbhianagobaa", sum := "9f872c90f05cb8e0644abcc59e067af35c0c1073539349b7f72961a15a565425", func := "loop.example/g01332/laws.FnExactRanksOf", spec := "fnExactRanksOf", unfollowed := true, recurses := true, apart := false }
def FnExactRanksOfSaid : Prop := fnExactRanksOfRow.holds Try.pinned (OpenSpec.ofChange fnExactRanksOfSpec)

/-- ITS FALSE NEIGHBOUR: 'it returns false'. Refute it at one input. -/
def fnExactRanksOfWrong : ChangeSpec := { name := "fnExactRanksOf", fn := fun _ => fun
  | [d] => { results := [.lit (.bool false)], args := [d] }
  | _ => none }
def FnExactRanksOfWrongFalsely : Prop := fnExactRanksOfRow.holds Try.pinned (OpenSpec.ofChange fnExactRanksOfWrong)

/-- 'laws.FnExactSeenFromLeft': WHATEVER THE INPUT: true; the input reads as it did. -/
def fnExactSeenFromLeftSpec : ChangeSpec := { name := "fnExactSeenFromLeft", fn := fun _ => fun
  | [d] => { results := [.lit (.bool true)], args := [d] }
  | _ => none }
def fnExactSeenFromLeftRow : OpenClaim := { program := "ythljbhianagobaa", sum := "9f872c90f05cb8e0644abcc59e067af35c0c1073539349b7f72961a15a565425", func := "loop.example/g01332/laws.FnExactSeenFromLeft", spec := "fnExactSeenFromLeft", unfollowed := true, recurses := true, apart := false }
def FnExactSeenFromLeftSaid : Prop := fnExactSeenFromLeftRow.holds Try.pinned (OpenSpec.ofChange fnExactSeenFromLeftSpec)

/-- ITS FALSE NEIGHBOUR: 'it returns false'. Refute it at one input. -/
def fnExactSeenFromLeftWrong : ChangeSpec := { name := "fnExactSeenFromLeft", fn := fun _ => fun
  | [d] => { results := [.lit (.bool false)], args := [d] }
  | _ => none }
def FnExactSeenFromLeftWrongFalsely : Prop := fnExactSeenFromLeftRow.holds Try.pinned (OpenSpec.ofChange fnExactSeenFromLeftWrong)

/- THE SECOND FORM. 'bulk': how many values and letters a reading holds, each counted each time it is reached (what is shared counts as often as it is met; a slice's spare places count too). A statement '..UptoSaid' is the law's where the arguments, and the package variables that the reading takes, are together of bulk at most 1048576: NARROWER than '..Said'. Prove '..Said' where nothing that the law and all that it calls make is longer than what came in: it says more and counts as full. Else prove '..UptoSaid'. A law counts once. -/
mutual
def uptoBulk {H : Type} : DataW H → Nat
  | .lit (.string bytes) => bytes.length + 1
  | .lit _ => 1
  | .nil => 1
  | .ptr d => uptoBulk d + 1
  | .slice elems spare => uptoBulkAll elems + uptoBulkAll spare + 1
  | .agg parts => uptoBulkAll parts + 1
  | .iface _ d => uptoBulk d + 1
  | .map entries => uptoBulkEntries entries + 1
  | .held _ => 1
def uptoBulkAll {H : Type} : List (DataW H) → Nat
  | [] => 0
  | d :: r => uptoBulk d + uptoBulkAll r
def uptoBulkEntries {H : Type} : List (Lit × DataW H) → Nat
  | [] => 0
  | x :: r => uptoBulkEntry x + uptoBulkEntries r
def uptoBulkEntry {H : Type} : Lit × DataW H → Nat
  | (.string bytes, d) => bytes.length + uptoBulk d + 1
  | (_, d) => uptoBulk d + 1
 end
def uptoSmall : (H : Type) → List (DataW H) → Bool := fun _ ds => decide (uptoBulkAll ds ≤ 1048576)
def OpenSpec.upto (s : _root_.Go.ChangeSpec) : _root_.Go.OpenSpec := { _root_.Go.OpenSpec.ofChange s with cond := some uptoSmall }

/-- 'laws.FnExactAreHeights', WHERE WHAT IT READS IS OF BULK AT MOST 1048576: true; the input reads as it did. -/
def fnExactAreHeightsUptoRow : OpenClaim := { program := "ythljbhianagobaa", sum := "9f872c90f05cb8e0644abcc59e067af35c0c1073539349b7f72961a15a565425", func := "loop.example/g01332/laws.FnExactAreHeights", spec := "fnExactAreHeights", unfollowed := true, recurses := true, apart := false, narrowed := true }
def FnExactAreHeightsUptoSaid : Prop := fnExactAreHeightsUptoRow.holds Try.pinned (OpenSpec.upto fnExactAreHeightsSpec)

/-- 'laws.FnExactCountDisorder', WHERE WHAT IT READS IS OF BULK AT MOST 1048576: true; the input reads as it did. -/
def fnExactCountDisorderUptoRow : OpenClaim := { program := "ythljbhianagobaa", sum := "9f872c90f05cb8e0644abcc59e067af35c0c1073539349b7f72961a15a565425", func := "loop.example/g01332/laws.FnExactCountDisorder", spec := "fnExactCountDisorder", unfollowed := true, recurses := true, apart := false, narrowed := true }
def FnExactCountDisorderUptoSaid : Prop := fnExactCountDisorderUptoRow.holds Try.pinned (OpenSpec.upto fnExactCountDisorderSpec)

/-- 'laws.FnExactStepUp', WHERE WHAT IT READS IS OF BULK AT MOST 1048576: true; the input reads as it did. -/
def fnExactStepUpUptoRow : OpenClaim := { program := "ythljbhianagobaa", sum := "9f872c90f05cb8e0644abcc59e067af35c0c1073539349b7f72961a15a565425", func := "loop.example/g01332/laws.FnExactStepUp", spec := "fnExactStepUp", unfollowed := true, recurses := true, apart := false, narrowed := true }
def FnExactStepUpUptoSaid : Prop := fnExactStepUpUptoRow.holds Try.pinned (OpenSpec.upto fnExactStepUpSpec)

/-- 'laws.FnExactNextTaller', WHERE WHAT IT READS IS OF BULK AT MOST 1048576: true; the input reads as it did. -/
def fnExactNextTallerUptoRow : OpenClaim := { program := "ythljbhianagobaa", sum := "9f872c90f05cb8e0644abcc59e067af35c0c1073539349b7f72961a15a565425", func := "loop.example/g01332/laws.FnExactNextTaller", spec := "fnExactNextTaller", unfollowed := true, recurses := true, apart := false, narrowed := true }
def FnExactNextTallerUptoSaid : Prop := fnExactNextTallerUptoRow.holds Try.pinned (OpenSpec.upto fnExactNextTallerSpec)

/-- 'laws.FnExactRanksOf', WHERE WHAT IT READS IS OF BULK AT MOST 1048576: true; the input reads as it did. -/
def fnExactRanksOfUptoRow : OpenClaim := { program := "ythljbhianagobaa", sum := "9f872c90f05cb8e0644abcc59e067af35c0c1073539349b7f72961a15a565425", func := "loop.example/g01332/laws.FnExactRanksOf", spec := "fnExactRanksOf", unfollowed := true, recurses := true, apart := false, narrowed := true }
def FnExactRanksOfUptoSaid : Prop := fnExactRanksOfUptoRow.holds Try.pinned (OpenSpec.upto fnExactRanksOfSpec)

/-- 'laws.FnExactSeenFromLeft', WHERE WHAT IT READS IS OF BULK AT MOST 1048576: true; the input reads as it did. -/
def fnExactSeenFromLeftUptoRow : OpenClaim := { program := "ythljbhianagobaa", sum := "9f872c90f05cb8e0644abcc59e067af35c0c1073539349b7f72961a15a565425", func := "loop.example/g01332/laws.FnExactSeenFromLeft", spec := "fnExactSeenFromLeft", unfollowed := true, recurses := true, apart := false, narrowed := true }
def FnExactSeenFromLeftUptoSaid : Prop := fnExactSeenFromLeftUptoRow.holds Try.pinned (OpenSpec.upto fnExactSeenFromLeftSpec)

end Rows
end Go.Proofs.Ythljbhianagobaa
