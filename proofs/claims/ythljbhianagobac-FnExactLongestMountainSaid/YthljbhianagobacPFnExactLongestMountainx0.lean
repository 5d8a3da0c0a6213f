/- A text of this session for the law FnExactLongestMountain of the seat Ythljbhianagobac: the functions that the law uses and their walks. -/
import Derived.Test.YthljbhianagobacProg
import Derived.WalkSpells
import Derived.Lib.SliceRun
import Derived.Shelf.Abstract
import Derived.Below
import Derived.Deep.Draws
import Derived.Deep.AppendLies
import Derived.Maps.AppendAt
import Derived.OwnWalk
import Derived.Laws.BytesArg
import Derived.Laws.MakeOwn
import Derived.Laws.OwnMore
import Derived.Deep.OwnRows
import Derived.Tactics
import Derived.Lib.ConvBytes
import Derived.Laws.Slices
import Derived.WalkKit
import Derived.KernelRfl
import Derived.RowKit3
import Derived.Deep.LoopGhost
import Derived.Deep.QuietTactic
import Derived.BigQuiet
import Derived.WideLaws
import Derived.Deep.DeepCutAuto
import Derived.Deep.CutBlock
import Derived.Deep.RegionHeld3
import Derived.Laws.Rows
import Derived.Lib.AppendStr
import Derived.ArgAppend
import Derived.Laws.IdiomCopy
import Derived.OrdersHeld
import Derived.Laws.BitsLemmas
import Derived.RowKit
import Derived.Test.YthljbhianagobacWWords
import Derived.Test.YthljbhianagobacWLast
import Derived.Test.YthljbhianagobacWTab
import Derived.Test.YthljbhianagobacWFour
import Derived.Test.YthljbhianagobacWQPut
import Derived.Test.YthljbhianagobacWApart
import Derived.Test.YthljbhianagobacWArr
import Derived.Test.YthljbhianagobacWZeros
import Derived.Test.YthljbhianagobacWFoot
import Derived.Test.YthljbhianagobacWKept
import Derived.Test.YthljbhianagobacWShare
import Derived.Test.YthljbhianagobacWN
import Derived.Test.YthljbhianagobacWFootNe
import Derived.Test.YthljbhianagobacWAt
import Derived.Test.YthljbhianagobacWEqStruct
import Derived.Test.YthljbhianagobacWRepsOne
import Derived.Test.YthljbhianagobacWInv
import Derived.Test.YthljbhianagobacWInvWords
import Derived.Test.YthljbhianagobacWGuard
import Derived.Test.YthljbhianagobacWNEv
import Derived.Test.YthljbhianagobacWMore
namespace Go.Proofs.Ythljbhianagobac.PFnExactLongestMountain
open Go.RowKit Go.Proofs.YthljbhianagobacW.PrintWords Go.Proofs.YthljbhianagobacW.PrintLast Go.Proofs.YthljbhianagobacW.PrintMore
attribute [local go_sem] max2_int min2_int max_two min_two max_three min_three max_four min_four   -- for this text's walks alone
set_option linter.unusedVariables false
set_option linter.unusedSimpArgs false



def errW : Option Int → Value
  | none => .nilIface
  | some c => .iface 0 (.int .i64 c)
theorem errW_none : errW none = .nilIface := rfl
theorem errW_some (c : Int) : errW (some c) = .iface 0 (.int .i64 c) := rfl

theorem info3 : (Try.prog.info? 3).map (fun i => (i.zero, i.size, i.bytes)) = some (some (.int .i64 0), 1, 8) := by kernel_rfl
-- the values' own types

end Go.Proofs.Ythljbhianagobac.PFnExactLongestMountain
