/-
  No cell of these rows narrows 'for every input' (looked for: loops, veiled, ifaces, maps, wideKeys, modest, calm, conditions, laid).
  DERIVED. THE GIVEN ROWS OF THIS SEAT. 6 by the template 'for every input the law returns true; each argument reads behind the call as it read before'; 0 by the template 'total and deterministic' (their statements: YtfkbacdaoeecdabTotals.lean).
  GIVEN WITH THE SEED: the statements are not yours to turn. If you find one false, say at which input.
  Laid BY PROGRAM, IN A SANDBOX (cutbox-rows.mjs): the forced cells as the released guide's own fill.sh prints them over the translation ff27f289fb990008… (all of the seat's roots in one cut). By AI agents, Wed Nov 11 2026. No macro, syntax, notation, axiom, sorry.
-/
import Derived.Test.YtfkbacdaoeecdabChecked
import GoSem.Claim
import GoSem.ClaimJoined
import GoSem.ClaimMapViews
import Derived.JoinedTies
import Derived.KernelRfl
namespace Go.Proofs.Ytfkbacdaoeecdab
/- THE CELL 'sum', in the pinned program and in every row, IS THE sha256 OF THE DUMP (.gsa) THAT YtfkbacdaoeecdabProg.lean LOADS. Nothing in Lean hashes anything: it is a label: what it is worth is what the hold of that sum in a sandbox is worth. -/
noncomputable def Try.pinned : Pinned := { name := "ytfkbacdaoeecdab", sum := "ff27f289fb990008dc890b9905c8dee3ed223e74c12279a5c1f2170bbbbe8b36", checked := Try.checked }
namespace Rows
def none {H : Type} : Left H := { results := [], args := [] }

/-- 'laws.FnExactNextTaller': WHATEVER THE INPUT: true; the input reads as it did. -/
def fnExactNextTallerSpec : ChangeSpec := { name := "fnExactNextTaller", fn := fun _ => fun
  | [d] => { results := [.lit (.bool true)], args := [d] }
  | _ => none }
def fnExactNextTallerRow : OpenClaim := { program := "ytfkbacdaoeecdab", sum := "ff27f289fb990008dc890b9905c8dee3ed223e74c12279a5c1f2170bbbbe8b36", func := "loop.example/g01332/laws.FnExactNextTaller", spec := "fnExactNextTaller", unfollowed := true, recurses := true, apart := false }
def FnExactNextTallerSaid : Prop := fnExactNextTallerRow.holds Try.pinned (OpenSpec.ofChange fnExactNextTallerSpec)

/-- ITS FALSE NEIGHBOUR: 'it returns false'. Refute it at one input. -/
def fnExactNextTallerWrong : ChangeSpec := { name := "fnExactNextTaller", fn := fun _ => fun
  | [d] => { results := [.lit (.bool false)], args := [d] }
  | _ => none }
def FnExactNextTallerWrongFalsely : Prop := fnExactNextTallerRow.holds Try.pinned (OpenSpec.ofChange fnExactNextTallerWrong)

/-- 'laws.FnExactMirrorHeights': WHATEVER THE INPUT: true; the input reads as it did. -/
def fnExactMirrorHeightsSpec : ChangeSpec := { name := "fnExactMirrorHeights", fn := fun _ => fun
  | [d] => { results := [.lit (.bool true)], args := [d] }
  | _ => none }
def fnExactMirrorHeightsRow : OpenClaim := { program := "ytfkbacdaoeecdab", sum := "ff27f289fb990008dc890b9905c8dee3ed223e74c12279a5c1f2170bbbbe8b36", func := "loop.example/g01332/laws.FnExactMirrorHeights", spec := "fnExactMirrorHeights", unfollowed := true, recurses := true, apart := false }
def FnExactMirrorHeightsSaid : Prop := fnExactMirrorHeightsRow.holds Try.pinned (OpenSpec.ofChange fnExactMirrorHeightsSpec)

/-- ITS FALSE NEIGHBOUR: 'it returns false'. Refute it at one input. -/
def fnExactMirrorHeightsWrong : ChangeSpec := { name := "fnExactMirrorHeights", fn := fun _ => fun
  | [d] => { results := [.lit (.bool false)], args := [d] }
  | _ => none }
def FnExactMirrorHeightsWrongFalsely : Prop := fnExactMirrorHeightsRow.holds Try.pinned (OpenSpec.ofChange fnExactMirrorHeightsWrong)

/-- 'laws.FnExactRanksOf': WHATEVER THE INPUT: true; the input reads as it did. -/
def fnExactRanksOfSpec : ChangeSpec := { name := "fnExactRanksOf", fn := fun _ => fun
  | [d] => { results := [.lit (.bool true)], args := [d] }
  | _ => none }
def fnExactRanksOfRow : OpenClaim := { program := "ytfkbacdaoeecdab", sum := "ff27f289fb990008dc890b9905c8dee3ed223e74c12279a5c1f2170bbbbe8b36", func := "loop.example/g01332/laws.FnExactRanksOf", spec := "fnExactRanksOf", unfollowed := true, recurses := true, apart := false }
def FnExactRanksOfSaid : Prop := fnExactRanksOfRow.holds Try.pinned (OpenSpec.ofChange fnExactRanksOfSpec)

/-- ITS FALSE NEIGHBOUR: 'it returns false'. Refute it at one input. -/
def fnExactRanksOfWrong : ChangeSpec := { name := "fnExactRanksOf", fn := fun _ => fun
  | [d] => { results := [.lit (.bool false)], args := [d] }
  | _ => none }
def FnExactRanksOfWrongFalsely : Prop := fnExactRanksOfRow.holds Try.pinned (OpenSpec.ofChange fnExactRanksOfWrong)

/-- 'laws.FnExactCountDisorder': WHATEVER THE INPUT: true; the input reads as it did. -/
def fnExactCountDisorderSpec : ChangeSpec := { name := "fnExactCountDisorder", fn := fun _ => fun
  | [d] => { results := [.lit (.bool true)], args := [d] }
  | _ => none }
def fnExactCountDisorderRow : OpenClaim := { program := "ytfkbacdaoeecdab", sum := "ff27f289fb990008dc890b9905c8dee3ed223e74c12279a5c1f2170bbbbe8b36", func := "loop.example/g01332/laws.FnExactCountDisorder", spec := "fnExactCountDisorder", unfollowed := true, recurses := true, apart := false }
def FnExactCountDisorderSaid : Prop := fnExactCountDisorderRow.holds Try.pinned (OpenSpec.ofChange fnExactCountDisorderSpec)

/-- ITS FALSE NEIGHBOUR: 'it returns false'. Refute it at one input. -/
def fnExactCountDisorderWrong : ChangeSpec := { name := "fnExactCountDisorder", fn := fun _ => fun
  | [d] => { results := [.lit (.bool false)], args := [d] }
  | _ => none }
def FnExactCountDisorderWrongFalsely : Prop := fnExactCountDisorderRow.holds Try.pinned (OpenSpec.ofChange fnExactCountDisorderWrong)

/-- 'laws.FnExactTallestOfWindows': WHATEVER THE INPUT: true; the input reads as it did. -/
def fnExactTallestOfWindowsSpec : ChangeSpec := { name := "fnExactTallestOfWindows", fn := fun _ => fun
  | [d1, d2] => { results := [.lit (.bool true)], args := [d1, d2] }
  | _ => none }
def fnExactTallestOfWindowsRow : OpenClaim := { program := "ytfkbacdaoeecdab", sum := "ff27f289fb990008dc890b9905c8dee3ed223e74c12279a5c1f2170bbbbe8b36", func := "loop.example/g01332/laws.FnExactTallestOfWindows", spec := "fnExactTallestOfWindows", unfollowed := true, recurses := true, apart := false }
def FnExactTallestOfWindowsSaid : Prop := fnExactTallestOfWindowsRow.holds Try.pinned (OpenSpec.ofChange fnExactTallestOfWindowsSpec)

/-- ITS FALSE NEIGHBOUR: 'it returns false'. Refute it at one input. -/
def fnExactTallestOfWindowsWrong : ChangeSpec := { name := "fnExactTallestOfWindows", fn := fun _ => fun
  | [d1, d2] => { results := [.lit (.bool false)], args := [d1, d2] }
  | _ => none }
def FnExactTallestOfWindowsWrongFalsely : Prop := fnExactTallestOfWindowsRow.holds Try.pinned (OpenSpec.ofChange fnExactTallestOfWindowsWrong)

/-- 'laws.FnExactLongestMountain': WHATEVER THE INPUT: true; the input reads as it did. -/
def fnExactLongestMountainSpec : ChangeSpec := { name := "fnExactLongestMountain", fn := fun _ => fun
  | [d] => { results := [.lit (.bool true)], args := [d] }
  | _ => none }
def fnExactLongestMountainRow : OpenClaim := { program := "ytfkbacdaoeecdab", sum := "ff27f289fb990008dc890b9905c8dee3ed223e74c12279a5c1f2170bbbbe8b36", func := "loop.example/g01332/laws.FnExactLongestMountain", spec := "fnExactLongestMountain", unfollowed := true, recurses := true, apart := false }
def FnExactLongestMountainSaid : Prop := fnExactLongestMountainRow.holds Try.pinned (OpenSpec.ofChange fnExactLongestMountainSpec)

/-- ITS FALSE NEIGHBOUR: 'it returns false'. Refute it at one input. -/
def fnExactLongestMountainWrong : ChangeSpec := { name := "fnExactLongestMountain", fn := fun _ => fun
  | [d] => { results := [.lit (.bool false)], args := [d] }
  | _ => none }
def FnExactLongestMountainWrongFalsely : Prop := fnExactLongestMountainRow.holds Try.pinned (OpenSpec.ofChange fnExactLongestMountainWrong)

/- THE SECOND FORM. 'bulk': how many values and letters a reading holds, each counted each time it is reached (what is shared counts as often as it is met; a slice's spare places count too). A statement '..UptoSaid' is the law's where the arguments, and the package variables that the reading takes, are together of bulk at most 1048576: NARROWER than '..Said'. Prove '..Said' where nothing that the law and all that it calls make is longer than what came in: it says more and counts as full. Else prove '..UptoSaid'. A law counts once. -/
mutual
def uptoBulk {H : Type} : DataW H → Nat
  | .lit (.string bytes) => bytes.length + 1
  | .lit _ => 1
  | .nil => 1
  | .ptr d => uptoBulk d + 1
  | .slice elems spare => uptoBulkAll elems + uptoBulkAll spare + 1
  | .agg parts => uptoBulkAll parts + 1
  | .iface _ d => uptoBulk d + 1
  | .map entries => uptoBulkEntries entries + 1
  | .held _ => 1
def uptoBulkAll {H : Type} : List (DataW H) → Nat
  | [] => 0
  | d :: r => uptoBulk d + uptoBulkAll r
def uptoBulkEntries {H : Type} : List (Lit × DataW H) → Nat
  | [] => 0
  | x :: r => uptoBulkEntry x + uptoBulkEntries r
def uptoBulkEntry {H : Type} : Lit × DataW H → Nat
  | (.string bytes, d) => bytes.length + uptoBulk d + 1
  | (_, d) => uptoBulk d + 1
 end
def uptoSmall : (H : Type) → List (DataW H) → Bool := fun _ ds => decide (uptoBulkAll ds ≤ 1048576)
def OpenSpec.upto (s : _root_.Go.ChangeSpec) : _root_.Go.OpenSpec := { _root_.Go.OpenSpec.ofChange s with cond := some uptoSmall }

/-- 'laws.FnExactNextTaller', WHERE WHAT IT READS IS OF BULK AT MOST 1048576: true; the input reads as it did. -/
def fnExactNextTallerUptoRow : OpenClaim := { program := "ytfkbacdaoeecdab", sum := "ff27f289fb990008dc890b9905c8dee3ed223e74c12279a5c1f2170bbbbe8b36", func := "loop.example/g01332/laws.FnExactNextTaller", spec := "fnExactNextTaller", unfollowed := true, recurses := true, apart := false, narrowed := true }
def FnExactNextTallerUptoSaid : Prop := fnExactNextTallerUptoRow.holds Try.pinned (OpenSpec.upto fnExactNextTallerSpec)

/-- 'laws.FnExactMirrorHeights', WHERE WHAT IT READS IS OF BULK AT MOST 1048576: true; the input reads as it did. -/
def fnExactMirrorHeightsUptoRow : OpenClaim := { program := "ytfkbacdaoeecdab", sum := "ff27f289fb990008dc890b9905c8dee3ed223e74c12279a5c1f2170bbbbe8b36", func := "loop.example/g01332/laws.FnExactMirrorHeights", spec := "fnExactMirrorHeights", unfollowed := true, recurses := true, apart := false, narrowed := true }
def FnExactMirrorHeightsUptoSaid : Prop := fnExactMirrorHeightsUptoRow.holds Try.pinned (OpenSpec.upto fnExactMirrorHeightsSpec)

/-- 'laws.FnExactRanksOf', WHERE WHAT IT READS IS OF BULK AT MOST 1048576: true; the input reads as it did. -/
def fnExactRanksOfUptoRow : OpenClaim := { program := "ytfkbacdaoeecdab", sum := "ff27f289fb990008dc890b9905c8dee3ed223e74c12279a5c1f2170bbbbe8b36", func := "loop.example/g01332/laws.FnExactRanksOf", spec := "fnExactRanksOf", unfollowed := true, recurses := true, apart := false, narrowed := true }
def FnExactRanksOfUptoSaid : Prop := fnExactRanksOfUptoRow.holds Try.pinned (OpenSpec.upto fnExactRanksOfSpec)

/-- 'laws.FnExactCountDisorder', WHERE WHAT IT READS IS OF BULK AT MOST 1048576: true; the input reads as it did. -/
def fnExactCountDisorderUptoRow : OpenClaim := { program := "ytfkbacdaoeecdab", sum := "ff27f289fb990008dc890b9905c8dee3ed223e74c12279a5c1f2170bbbbe8b36", func := "loop.example/g01332/laws.FnExactCountDisorder", spec := "fnExactCountDisorder", unfollowed := true, recurses := true, apart := false, narrowed := true }
def FnExactCountDisorderUptoSaid : Prop := fnExactCountDisorderUptoRow.holds Try.pinned (OpenSpec.upto fnExactCountDisorderSpec)

/-- 'laws.FnExactTallestOfWindows', WHERE WHAT IT READS IS OF BULK AT MOST 1048576: true; the input reads as it did. -/
def fnExactTallestOfWindowsUptoRow : OpenClaim := { program := "ytfkbacdaoeecdab", sum := "ff27f289fb990008dc890b9905c8dee3ed223e74c12279a5c1f2170bbbbe8b36", func := "loop.example/g01332/laws.FnExactTallestOfWindows", spec := "fnExactTallestOfWindows", unfollowed := true, recurses := true, apart := false, narrowed := true }
def FnExactTallestOfWindowsUptoSaid : Prop := fnExactTallestOfWindowsUptoRow.holds Try.pinned (OpenSpec.upto fnExactTallestOfWindowsSpec)

/-- 'laws.FnExactLongestMountain', WHERE WHAT IT READS IS OF BULK AT MOST 1048576: true; the input reads as it did. -/
def fnExactLongestMountainUptoRow : OpenClaim := { program := "ytfkbacdaoeecdab", sum := "ff27f289fb990008dc890b9905c8dee3ed223e74c12279a5c1f2170bbbbe8b36", func := "loop.example/g01332/laws.FnExactLongestMountain", spec := "fnExactLongestMountain", unfollowed := true, recurses := true, apart := false, narrowed := true }
def FnExactLongestMountainUptoSaid : Prop := fnExactLongestMountainUptoRow.holds Try.pinned (OpenSpec.upto fnExactLongestMountainSpec)

end Rows
end Go.Proofs.Ytfkbacdaoeecdab
