/-
  No cell of these rows narrows 'for every input' (looked for: loops, veiled, ifaces, maps, wideKeys, modest, calm, conditions, laid).
  DERIVED. THE GIVEN ROWS OF THIS SEAT. 13 by the template 'for every input the law returns true; each argument reads behind the call as it read before'; 0 by the template 'total and deterministic' (their statements: YtdiocekaicjapaaTotals.lean).
  GIVEN WITH THE SEED: the statements are not yours to turn. If you find one false, say at which input.
  Laid BY PROGRAM, IN A SANDBOX (cutbox-rows.mjs): the forced cells as the released guide's own fill.sh prints them over the translation 5743a1628d486982… (all of the seat's roots in one cut). By AI agents, Wed Nov 11 2026. No macro, syntax, notation, axiom, sorry.
-/
import Derived.Test.YtdiocekaicjapaaChecked
import GoSem.Claim
import GoSem.ClaimJoined
import GoSem.ClaimMapViews
import Derived.JoinedTies
import Derived.KernelRfl
namespace Go.Proofs.Ytdiocekaicjapaa
/- THE CELL 'sum', in the pinned program and in every row, IS THE sha256 OF THE DUMP (.gsa) THAT YtdiocekaicjapaaProg.lean LOADS. Nothing in Lean hashes anything: it is a label: what it is worth is what the hold of that sum in a sandbox is worth. -/
noncomputable def Try.pinned : Pinned := { name := "ytdiocekaicjapaa", sum := "5743a1628d48698246b2fb8b1177a5601c4c72d6ec0cf962bca0a7f9e1184f99", checked := Try.checked }
namespace Rows
def none {H : Type} : Left H := { results := [], args := [] }

/-- 'laws.FnExactConstants': WHATEVER THE INPUT: true; the input reads as it did. -/
def fnExactConstantsSpec : ChangeSpec := { name := "fnExactConstants", fn := fun _ => fun
  | [] => { results := [.lit (.bool true)], args := [] }
  | _ => none }
def fnExactConstantsRow : OpenClaim := { program := "ytdiocekaicjapaa", sum := "5743a1628d48698246b2fb8b1177a5601c4c72d6ec0cf962bca0a7f9e1184f99", func := "loop.example/g01332/laws.FnExactConstants", spec := "fnExactConstants", apart := false }
def FnExactConstantsSaid : Prop := fnExactConstantsRow.holds Try.pinned (OpenSpec.ofChange fnExactConstantsSpec)

/-- ITS FALSE NEIGHBOUR: 'it returns false'. Refute it at one input. -/
def fnExactConstantsWrong : ChangeSpec := { name := "fnExactConstants", fn := fun _ => fun
  | [] => { results := [.lit (.bool false)], args := [] }
  | _ => none }
def FnExactConstantsWrongFalsely : Prop := fnExactConstantsRow.holds Try.pinned (OpenSpec.ofChange fnExactConstantsWrong)

/-- 'laws.FnExactCountAtRest': WHATEVER THE INPUT: true; the input reads as it did. -/
def fnExactCountAtRestSpec : ChangeSpec := { name := "fnExactCountAtRest", fn := fun _ => fun
  | [d] => { results := [.lit (.bool true)], args := [d] }
  | _ => none }
def fnExactCountAtRestRow : OpenClaim := { program := "ytdiocekaicjapaa", sum := "5743a1628d48698246b2fb8b1177a5601c4c72d6ec0cf962bca0a7f9e1184f99", func := "loop.example/g01332/laws.FnExactCountAtRest", spec := "fnExactCountAtRest", apart := false }
def FnExactCountAtRestSaid : Prop := fnExactCountAtRestRow.holds Try.pinned (OpenSpec.ofChange fnExactCountAtRestSpec)

/-- ITS FALSE NEIGHBOUR: 'it returns false'. Refute it at one input. -/
def fnExactCountAtRestWrong : ChangeSpec := { name := "fnExactCountAtRest", fn := fun _ => fun
  | [d] => { results := [.lit (.bool false)], args := [d] }
  | _ => none }
def FnExactCountAtRestWrongFalsely : Prop := fnExactCountAtRestRow.holds Try.pinned (OpenSpec.ofChange fnExactCountAtRestWrong)

/-- 'laws.FnExactCountHollow': WHATEVER THE INPUT: true; the input reads as it did. -/
def fnExactCountHollowSpec : ChangeSpec := { name := "fnExactCountHollow", fn := fun _ => fun
  | [d1, d2] => { results := [.lit (.bool true)], args := [d1, d2] }
  | _ => none }
def fnExactCountHollowRow : OpenClaim := { program := "ytdiocekaicjapaa", sum := "5743a1628d48698246b2fb8b1177a5601c4c72d6ec0cf962bca0a7f9e1184f99", func := "loop.example/g01332/laws.FnExactCountHollow", spec := "fnExactCountHollow", apart := false }
def FnExactCountHollowSaid : Prop := fnExactCountHollowRow.holds Try.pinned (OpenSpec.ofChange fnExactCountHollowSpec)

/-- ITS FALSE NEIGHBOUR: 'it returns false'. Refute it at one input. -/
def fnExactCountHollowWrong : ChangeSpec := { name := "fnExactCountHollow", fn := fun _ => fun
  | [d1, d2] => { results := [.lit (.bool false)], args := [d1, d2] }
  | _ => none }
def FnExactCountHollowWrongFalsely : Prop := fnExactCountHollowRow.holds Try.pinned (OpenSpec.ofChange fnExactCountHollowWrong)

/-- 'laws.FnExactPlaceIn': WHATEVER THE INPUT: true; the input reads as it did. -/
def fnExactPlaceInSpec : ChangeSpec := { name := "fnExactPlaceIn", fn := fun _ => fun
  | [d1, d2] => { results := [.lit (.bool true)], args := [d1, d2] }
  | _ => none }
def fnExactPlaceInRow : OpenClaim := { program := "ytdiocekaicjapaa", sum := "5743a1628d48698246b2fb8b1177a5601c4c72d6ec0cf962bca0a7f9e1184f99", func := "loop.example/g01332/laws.FnExactPlaceIn", spec := "fnExactPlaceIn", apart := false }
def FnExactPlaceInSaid : Prop := fnExactPlaceInRow.holds Try.pinned (OpenSpec.ofChange fnExactPlaceInSpec)

/-- ITS FALSE NEIGHBOUR: 'it returns false'. Refute it at one input. -/
def fnExactPlaceInWrong : ChangeSpec := { name := "fnExactPlaceIn", fn := fun _ => fun
  | [d1, d2] => { results := [.lit (.bool false)], args := [d1, d2] }
  | _ => none }
def FnExactPlaceInWrongFalsely : Prop := fnExactPlaceInRow.holds Try.pinned (OpenSpec.ofChange fnExactPlaceInWrong)

/-- 'laws.FnExactSoldierAt': WHATEVER THE INPUT: true; the input reads as it did. -/
def fnExactSoldierAtSpec : ChangeSpec := { name := "fnExactSoldierAt", fn := fun _ => fun
  | [d1, d2, d3] => { results := [.lit (.bool true)], args := [d1, d2, d3] }
  | _ => none }
def fnExactSoldierAtRow : OpenClaim := { program := "ytdiocekaicjapaa", sum := "5743a1628d48698246b2fb8b1177a5601c4c72d6ec0cf962bca0a7f9e1184f99", func := "loop.example/g01332/laws.FnExactSoldierAt", spec := "fnExactSoldierAt", apart := false }
def FnExactSoldierAtSaid : Prop := fnExactSoldierAtRow.holds Try.pinned (OpenSpec.ofChange fnExactSoldierAtSpec)

/-- ITS FALSE NEIGHBOUR: 'it returns false'. Refute it at one input. -/
def fnExactSoldierAtWrong : ChangeSpec := { name := "fnExactSoldierAt", fn := fun _ => fun
  | [d1, d2, d3] => { results := [.lit (.bool false)], args := [d1, d2, d3] }
  | _ => none }
def FnExactSoldierAtWrongFalsely : Prop := fnExactSoldierAtRow.holds Try.pinned (OpenSpec.ofChange fnExactSoldierAtWrong)

/-- 'laws.FnExactGreatestHollow': WHATEVER THE INPUT: true; the input reads as it did. -/
def fnExactGreatestHollowSpec : ChangeSpec := { name := "fnExactGreatestHollow", fn := fun _ => fun
  | [d1, d2] => { results := [.lit (.bool true)], args := [d1, d2] }
  | _ => none }
def fnExactGreatestHollowRow : OpenClaim := { program := "ytdiocekaicjapaa", sum := "5743a1628d48698246b2fb8b1177a5601c4c72d6ec0cf962bca0a7f9e1184f99", func := "loop.example/g01332/laws.FnExactGreatestHollow", spec := "fnExactGreatestHollow", apart := false }
def FnExactGreatestHollowSaid : Prop := fnExactGreatestHollowRow.holds Try.pinned (OpenSpec.ofChange fnExactGreatestHollowSpec)

/-- ITS FALSE NEIGHBOUR: 'it returns false'. Refute it at one input. -/
def fnExactGreatestHollowWrong : ChangeSpec := { name := "fnExactGreatestHollow", fn := fun _ => fun
  | [d1, d2] => { results := [.lit (.bool false)], args := [d1, d2] }
  | _ => none }
def FnExactGreatestHollowWrongFalsely : Prop := fnExactGreatestHollowRow.holds Try.pinned (OpenSpec.ofChange fnExactGreatestHollowWrong)

/-- 'laws.FnExactSoldierOfSnake': WHATEVER THE INPUT: true; the input reads as it did. -/
def fnExactSoldierOfSnakeSpec : ChangeSpec := { name := "fnExactSoldierOfSnake", fn := fun _ => fun
  | [d1, d2, d3] => { results := [.lit (.bool true)], args := [d1, d2, d3] }
  | _ => none }
def fnExactSoldierOfSnakeRow : OpenClaim := { program := "ytdiocekaicjapaa", sum := "5743a1628d48698246b2fb8b1177a5601c4c72d6ec0cf962bca0a7f9e1184f99", func := "loop.example/g01332/laws.FnExactSoldierOfSnake", spec := "fnExactSoldierOfSnake", apart := false }
def FnExactSoldierOfSnakeSaid : Prop := fnExactSoldierOfSnakeRow.holds Try.pinned (OpenSpec.ofChange fnExactSoldierOfSnakeSpec)

/-- ITS FALSE NEIGHBOUR: 'it returns false'. Refute it at one input. -/
def fnExactSoldierOfSnakeWrong : ChangeSpec := { name := "fnExactSoldierOfSnake", fn := fun _ => fun
  | [d1, d2, d3] => { results := [.lit (.bool false)], args := [d1, d2, d3] }
  | _ => none }
def FnExactSoldierOfSnakeWrongFalsely : Prop := fnExactSoldierOfSnakeRow.holds Try.pinned (OpenSpec.ofChange fnExactSoldierOfSnakeWrong)

/-- 'laws.FnExactSquareOf': WHATEVER THE INPUT: true; the input reads as it did. -/
def fnExactSquareOfSpec : ChangeSpec := { name := "fnExactSquareOf", fn := fun _ => fun
  | [d] => { results := [.lit (.bool true)], args := [d] }
  | _ => none }
def fnExactSquareOfRow : OpenClaim := { program := "ytdiocekaicjapaa", sum := "5743a1628d48698246b2fb8b1177a5601c4c72d6ec0cf962bca0a7f9e1184f99", func := "loop.example/g01332/laws.FnExactSquareOf", spec := "fnExactSquareOf", apart := false }
def FnExactSquareOfSaid : Prop := fnExactSquareOfRow.holds Try.pinned (OpenSpec.ofChange fnExactSquareOfSpec)

/-- ITS FALSE NEIGHBOUR: 'it returns false'. Refute it at one input. -/
def fnExactSquareOfWrong : ChangeSpec := { name := "fnExactSquareOf", fn := fun _ => fun
  | [d] => { results := [.lit (.bool false)], args := [d] }
  | _ => none }
def FnExactSquareOfWrongFalsely : Prop := fnExactSquareOfRow.holds Try.pinned (OpenSpec.ofChange fnExactSquareOfWrong)

/-- 'laws.FnExactTriangleOf': WHATEVER THE INPUT: true; the input reads as it did. -/
def fnExactTriangleOfSpec : ChangeSpec := { name := "fnExactTriangleOf", fn := fun _ => fun
  | [d] => { results := [.lit (.bool true)], args := [d] }
  | _ => none }
def fnExactTriangleOfRow : OpenClaim := { program := "ytdiocekaicjapaa", sum := "5743a1628d48698246b2fb8b1177a5601c4c72d6ec0cf962bca0a7f9e1184f99", func := "loop.example/g01332/laws.FnExactTriangleOf", spec := "fnExactTriangleOf", apart := false }
def FnExactTriangleOfSaid : Prop := fnExactTriangleOfRow.holds Try.pinned (OpenSpec.ofChange fnExactTriangleOfSpec)

/-- ITS FALSE NEIGHBOUR: 'it returns false'. Refute it at one input. -/
def fnExactTriangleOfWrong : ChangeSpec := { name := "fnExactTriangleOf", fn := fun _ => fun
  | [d] => { results := [.lit (.bool false)], args := [d] }
  | _ => none }
def FnExactTriangleOfWrongFalsely : Prop := fnExactTriangleOfRow.holds Try.pinned (OpenSpec.ofChange fnExactTriangleOfWrong)

/-- 'laws.FnExactRowOfNumber': WHATEVER THE INPUT: true; the input reads as it did. -/
def fnExactRowOfNumberSpec : ChangeSpec := { name := "fnExactRowOfNumber", fn := fun _ => fun
  | [d1, d2] => { results := [.lit (.bool true)], args := [d1, d2] }
  | _ => none }
def fnExactRowOfNumberRow : OpenClaim := { program := "ytdiocekaicjapaa", sum := "5743a1628d48698246b2fb8b1177a5601c4c72d6ec0cf962bca0a7f9e1184f99", func := "loop.example/g01332/laws.FnExactRowOfNumber", spec := "fnExactRowOfNumber", apart := false }
def FnExactRowOfNumberSaid : Prop := fnExactRowOfNumberRow.holds Try.pinned (OpenSpec.ofChange fnExactRowOfNumberSpec)

/-- ITS FALSE NEIGHBOUR: 'it returns false'. Refute it at one input. -/
def fnExactRowOfNumberWrong : ChangeSpec := { name := "fnExactRowOfNumber", fn := fun _ => fun
  | [d1, d2] => { results := [.lit (.bool false)], args := [d1, d2] }
  | _ => none }
def FnExactRowOfNumberWrongFalsely : Prop := fnExactRowOfNumberRow.holds Try.pinned (OpenSpec.ofChange fnExactRowOfNumberWrong)

/-- 'laws.FnExactMeanSeen': WHATEVER THE INPUT: true; the input reads as it did. -/
def fnExactMeanSeenSpec : ChangeSpec := { name := "fnExactMeanSeen", fn := fun _ => fun
  | [d] => { results := [.lit (.bool true)], args := [d] }
  | _ => none }
def fnExactMeanSeenRow : OpenClaim := { program := "ytdiocekaicjapaa", sum := "5743a1628d48698246b2fb8b1177a5601c4c72d6ec0cf962bca0a7f9e1184f99", func := "loop.example/g01332/laws.FnExactMeanSeen", spec := "fnExactMeanSeen", apart := false }
def FnExactMeanSeenSaid : Prop := fnExactMeanSeenRow.holds Try.pinned (OpenSpec.ofChange fnExactMeanSeenSpec)

/-- ITS FALSE NEIGHBOUR: 'it returns false'. Refute it at one input. -/
def fnExactMeanSeenWrong : ChangeSpec := { name := "fnExactMeanSeen", fn := fun _ => fun
  | [d] => { results := [.lit (.bool false)], args := [d] }
  | _ => none }
def FnExactMeanSeenWrongFalsely : Prop := fnExactMeanSeenRow.holds Try.pinned (OpenSpec.ofChange fnExactMeanSeenWrong)

/-- 'laws.FnExactSnakePlace': WHATEVER THE INPUT: true; the input reads as it did. -/
def fnExactSnakePlaceSpec : ChangeSpec := { name := "fnExactSnakePlace", fn := fun _ => fun
  | [d1, d2] => { results := [.lit (.bool true)], args := [d1, d2] }
  | _ => none }
def fnExactSnakePlaceRow : OpenClaim := { program := "ytdiocekaicjapaa", sum := "5743a1628d48698246b2fb8b1177a5601c4c72d6ec0cf962bca0a7f9e1184f99", func := "loop.example/g01332/laws.FnExactSnakePlace", spec := "fnExactSnakePlace", apart := false }
def FnExactSnakePlaceSaid : Prop := fnExactSnakePlaceRow.holds Try.pinned (OpenSpec.ofChange fnExactSnakePlaceSpec)

/-- ITS FALSE NEIGHBOUR: 'it returns false'. Refute it at one input. -/
def fnExactSnakePlaceWrong : ChangeSpec := { name := "fnExactSnakePlace", fn := fun _ => fun
  | [d1, d2] => { results := [.lit (.bool false)], args := [d1, d2] }
  | _ => none }
def FnExactSnakePlaceWrongFalsely : Prop := fnExactSnakePlaceRow.holds Try.pinned (OpenSpec.ofChange fnExactSnakePlaceWrong)

/-- 'laws.FnExactCountBySeen': WHATEVER THE INPUT: true; the input reads as it did. -/
def fnExactCountBySeenSpec : ChangeSpec := { name := "fnExactCountBySeen", fn := fun _ => fun
  | [d1, d2, d3] => { results := [.lit (.bool true)], args := [d1, d2, d3] }
  | _ => none }
def fnExactCountBySeenRow : OpenClaim := { program := "ytdiocekaicjapaa", sum := "5743a1628d48698246b2fb8b1177a5601c4c72d6ec0cf962bca0a7f9e1184f99", func := "loop.example/g01332/laws.FnExactCountBySeen", spec := "fnExactCountBySeen", recurses := true, apart := false }
def FnExactCountBySeenSaid : Prop := fnExactCountBySeenRow.holds Try.pinned (OpenSpec.ofChange fnExactCountBySeenSpec)

/-- ITS FALSE NEIGHBOUR: 'it returns false'. Refute it at one input. -/
def fnExactCountBySeenWrong : ChangeSpec := { name := "fnExactCountBySeen", fn := fun _ => fun
  | [d1, d2, d3] => { results := [.lit (.bool false)], args := [d1, d2, d3] }
  | _ => none }
def FnExactCountBySeenWrongFalsely : Prop := fnExactCountBySeenRow.holds Try.pinned (OpenSpec.ofChange fnExactCountBySeenWrong)

/- THE SECOND FORM. 'bulk': how many values and letters a reading holds, each counted each time it is reached (what is shared counts as often as it is met; a slice's spare places count too). A statement '..UptoSaid' is the law's where the arguments, and the package variables that the reading takes, are together of bulk at most 1048576: NARROWER than '..Said'. Prove '..Said' where nothing that the law and all that it calls make is longer than what came in: it says more and counts as full. Else prove '..UptoSaid'. A law counts once. -/
mutual
def uptoBulk {H : Type} : DataW H → Nat
  | .lit (.string bytes) => bytes.length + 1
  | .lit _ => 1
  | .nil => 1
  | .ptr d => uptoBulk d + 1
  | .slice elems spare => uptoBulkAll elems + uptoBulkAll spare + 1
  | .agg parts => uptoBulkAll parts + 1
  | .iface _ d => uptoBulk d + 1
  | .map entries => uptoBulkEntries entries + 1
  | .held _ => 1
def uptoBulkAll {H : Type} : List (DataW H) → Nat
  | [] => 0
  | d :: r => uptoBulk d + uptoBulkAll r
def uptoBulkEntries {H : Type} : List (Lit × DataW H) → Nat
  | [] => 0
  | x :: r => uptoBulkEntry x + uptoBulkEntries r
def uptoBulkEntry {H : Type} : Lit × DataW H → Nat
  | (.string bytes, d) => bytes.length + uptoBulk d + 1
  | (_, d) => uptoBulk d + 1
 end
def uptoSmall : (H : Type) → List (DataW H) → Bool := fun _ ds => decide (uptoBulkAll ds ≤ 1048576)
def OpenSpec.upto (s : _root_.Go.ChangeSpec) : _root_.Go.OpenSpec := { _root_.Go.OpenSpec.ofChange s with cond := some uptoSmall }

/-- 'laws.FnExactConstants', WHERE WHAT IT READS IS OF BULK AT MOST 1048576: true; the input reads as it did. -/
def fnExactConstantsUptoRow : OpenClaim := { program := "ytdiocekaicjapaa", sum := "5743a1628d48698246b2fb8b1177a5601c4c72d6ec0cf962bca0a7f9e1184f99", func := "loop.example/g01332/laws.FnExactConstants", spec := "fnExactConstants", apart := false, narrowed := true }
def FnExactConstantsUptoSaid : Prop := fnExactConstantsUptoRow.holds Try.pinned (OpenSpec.upto fnExactConstantsSpec)

/-- 'laws.FnExactCountAtRest', WHERE WHAT IT READS IS OF BULK AT MOST 1048576: true; the input reads as it did. -/
def fnExactCountAtRestUptoRow : OpenClaim := { program := "ytdiocekaicjapaa", sum := "5743a1628d48698246b2fb8b1177a5601c4c72d6ec0cf962bca0a7f9e1184f99", func := "loop.example/g01332/laws.FnExactCountAtRest", spec := "fnExactCountAtRest", apart := false, narrowed := true }
def FnExactCountAtRestUptoSaid : Prop := fnExactCountAtRestUptoRow.holds Try.pinned (OpenSpec.upto fnExactCountAtRestSpec)

/-- 'laws.FnExactCountHollow', WHERE WHAT IT READS IS OF BULK AT MOST 1048576: true; the input reads as it did. -/
def fnExactCountHollowUptoRow : OpenClaim := { program := "ytdiocekaicjapaa", sum := "5743a1628d48698246b2fb8b1177a5601c4c72d6ec0cf962bca0a7f9e1184f99", func := "loop.example/g01332/laws.FnExactCountHollow", spec := "fnExactCountHollow", apart := false, narrowed := true }
def FnExactCountHollowUptoSaid : Prop := fnExactCountHollowUptoRow.holds Try.pinned (OpenSpec.upto fnExactCountHollowSpec)

/-- 'laws.FnExactPlaceIn', WHERE WHAT IT READS IS OF BULK AT MOST 1048576: true; the input reads as it did. -/
def fnExactPlaceInUptoRow : OpenClaim := { program := "ytdiocekaicjapaa", sum := "5743a1628d48698246b2fb8b1177a5601c4c72d6ec0cf962bca0a7f9e1184f99", func := "loop.example/g01332/laws.FnExactPlaceIn", spec := "fnExactPlaceIn", apart := false, narrowed := true }
def FnExactPlaceInUptoSaid : Prop := fnExactPlaceInUptoRow.holds Try.pinned (OpenSpec.upto fnExactPlaceInSpec)

/-- 'laws.FnExactSoldierAt', WHERE WHAT IT READS IS OF BULK AT MOST 1048576: true; the input reads as it did. -/
def fnExactSoldierAtUptoRow : OpenClaim := { program := "ytdiocekaicjapaa", sum := "5743a1628d48698246b2fb8b1177a5601c4c72d6ec0cf962bca0a7f9e1184f99", func := "loop.example/g01332/laws.FnExactSoldierAt", spec := "fnExactSoldierAt", apart := false, narrowed := true }
def FnExactSoldierAtUptoSaid : Prop := fnExactSoldierAtUptoRow.holds Try.pinned (OpenSpec.upto fnExactSoldierAtSpec)

/-- 'laws.FnExactGreatestHollow', WHERE WHAT IT READS IS OF BULK AT MOST 1048576: true; the input reads as it did. -/
def fnExactGreatestHollowUptoRow : OpenClaim := { program := "ytdiocekaicjapaa", sum := "5743a1628d48698246b2fb8b1177a5601c4c72d6ec0cf962bca0a7f9e1184f99", func := "loop.example/g01332/laws.FnExactGreatestHollow", spec := "fnExactGreatestHollow", apart := false, narrowed := true }
def FnExactGreatestHollowUptoSaid : Prop := fnExactGreatestHollowUptoRow.holds Try.pinned (OpenSpec.upto fnExactGreatestHollowSpec)

/-- 'laws.FnExactSoldierOfSnake', WHERE WHAT IT READS IS OF BULK AT MOST 1048576: true; the input reads as it did. -/
def fnExactSoldierOfSnakeUptoRow : OpenClaim := { program := "ytdiocekaicjapaa", sum := "5743a1628d48698246b2fb8b1177a5601c4c72d6ec0cf962bca0a7f9e1184f99", func := "loop.example/g01332/laws.FnExactSoldierOfSnake", spec := "fnExactSoldierOfSnake", apart := false, narrowed := true }
def FnExactSoldierOfSnakeUptoSaid : Prop := fnExactSoldierOfSnakeUptoRow.holds Try.pinned (OpenSpec.upto fnExactSoldierOfSnakeSpec)

/-- 'laws.FnExactSquareOf', WHERE WHAT IT READS IS OF BULK AT MOST 1048576: true; the input reads as it did. -/
def fnExactSquareOfUptoRow : OpenClaim := { program := "ytdiocekaicjapaa", sum := "5743a1628d48698246b2fb8b1177a5601c4c72d6ec0cf962bca0a7f9e1184f99", func := "loop.example/g01332/laws.FnExactSquareOf", spec := "fnExactSquareOf", apart := false, narrowed := true }
def FnExactSquareOfUptoSaid : Prop := fnExactSquareOfUptoRow.holds Try.pinned (OpenSpec.upto fnExactSquareOfSpec)

/-- 'laws.FnExactTriangleOf', WHERE WHAT IT READS IS OF BULK AT MOST 1048576: true; the input reads as it did. -/
def fnExactTriangleOfUptoRow : OpenClaim := { program := "ytdiocekaicjapaa", sum := "5743a1628d48698246b2fb8b1177a5601c4c72d6ec0cf962bca0a7f9e1184f99", func := "loop.example/g01332/laws.FnExactTriangleOf", spec := "fnExactTriangleOf", apart := false, narrowed := true }
def FnExactTriangleOfUptoSaid : Prop := fnExactTriangleOfUptoRow.holds Try.pinned (OpenSpec.upto fnExactTriangleOfSpec)

/-- 'laws.FnExactRowOfNumber', WHERE WHAT IT READS IS OF BULK AT MOST 1048576: true; the input reads as it did. -/
def fnExactRowOfNumberUptoRow : OpenClaim := { program := "ytdiocekaicjapaa", sum := "5743a1628d48698246b2fb8b1177a5601c4c72d6ec0cf962bca0a7f9e1184f99", func := "loop.example/g01332/laws.FnExactRowOfNumber", spec := "fnExactRowOfNumber", apart := false, narrowed := true }
def FnExactRowOfNumberUptoSaid : Prop := fnExactRowOfNumberUptoRow.holds Try.pinned (OpenSpec.upto fnExactRowOfNumberSpec)

/-- 'laws.FnExactMeanSeen', WHERE WHAT IT READS IS OF BULK AT MOST 1048576: true; the input reads as it did. -/
def fnExactMeanSeenUptoRow : OpenClaim := { program := "ytdiocekaicjapaa", sum := "5743a1628d48698246b2fb8b1177a5601c4c72d6ec0cf962bca0a7f9e1184f99", func := "loop.example/g01332/laws.FnExactMeanSeen", spec := "fnExactMeanSeen", apart := false, narrowed := true }
def FnExactMeanSeenUptoSaid : Prop := fnExactMeanSeenUptoRow.holds Try.pinned (OpenSpec.upto fnExactMeanSeenSpec)

/-- 'laws.FnExactSnakePlace', WHERE WHAT IT READS IS OF BULK AT MOST 1048576: true; the input reads as it did. -/
def fnExactSnakePlaceUptoRow : OpenClaim := { program := "ytdiocekaicjapaa", sum := "5743a1628d48698246b2fb8b1177a5601c4c72d6ec0cf962bca0a7f9e1184f99", func := "loop.example/g01332/laws.FnExactSnakePlace", spec := "fnExactSnakePlace", apart := false, narrowed := true }
def FnExactSnakePlaceUptoSaid : Prop := fnExactSnakePlaceUptoRow.holds Try.pinned (OpenSpec.upto fnExactSnakePlaceSpec)

/-- 'laws.FnExactCountBySeen', WHERE WHAT IT READS IS OF BULK AT MOST 1048576: true; the input reads as it did. -/
def fnExactCountBySeenUptoRow : OpenClaim := { program := "ytdiocekaicjapaa", sum := "5743a1628d48698246b2fb8b1177a5601c4c72d6ec0cf962bca0a7f9e1184f99", func := "loop.example/g01332/laws.FnExactCountBySeen", spec := "fnExactCountBySeen", recurses := true, apart := false, narrowed := true }
def FnExactCountBySeenUptoSaid : Prop := fnExactCountBySeenUptoRow.holds Try.pinned (OpenSpec.upto fnExactCountBySeenSpec)

end Rows
end Go.Proofs.Ytdiocekaicjapaa
