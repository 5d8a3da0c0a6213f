/- A text of this session for the law FnExactNextTaller of the seat Ythljbhianagobaa: the functions that the law uses and their walks. -/
import Derived.Test.YthljbhianagobaaProg
import Derived.WalkSpells
import Derived.Lib.SliceRun
import Derived.Shelf.Abstract
import Derived.Below
import Derived.Deep.Draws
import Derived.Deep.AppendLies
import Derived.Maps.AppendAt
import Derived.OwnWalk
import Derived.Laws.BytesArg
import Derived.Laws.MakeOwn
import Derived.Laws.OwnMore
import Derived.Deep.OwnRows
import Derived.Tactics
import Derived.Lib.ConvBytes
import Derived.Laws.Slices
import Derived.WalkKit
import Derived.KernelRfl
import Derived.RowKit3
import Derived.Deep.LoopGhost
import Derived.Deep.QuietTactic
import Derived.BigQuiet
import Derived.WideLaws
import Derived.Deep.DeepCutAuto
import Derived.Deep.CutBlock
import Derived.Deep.RegionHeld3
import Derived.Laws.Rows
import Derived.Lib.AppendStr
import Derived.ArgAppend
import Derived.Laws.IdiomCopy
import Derived.OrdersHeld
import Derived.Laws.BitsLemmas
import Derived.RowKit
import Derived.Test.YthljbhianagobaaWWords
import Derived.Test.YthljbhianagobaaWLast
import Derived.Test.YthljbhianagobaaWTab
import Derived.Test.YthljbhianagobaaWFour
import Derived.Test.YthljbhianagobaaWQPut
import Derived.Test.YthljbhianagobaaWApart
import Derived.Test.YthljbhianagobaaWArr
import Derived.Test.YthljbhianagobaaWZeros
import Derived.Test.YthljbhianagobaaWFoot
import Derived.Test.YthljbhianagobaaWKept
import Derived.Test.YthljbhianagobaaWShare
import Derived.Test.YthljbhianagobaaWN
import Derived.Test.YthljbhianagobaaWFootNe
import Derived.Test.YthljbhianagobaaWAt
import Derived.Test.YthljbhianagobaaWEqStruct
import Derived.Test.YthljbhianagobaaWRepsOne
import Derived.Test.YthljbhianagobaaWInv
import Derived.Test.YthljbhianagobaaWInvWords
import Derived.Test.YthljbhianagobaaWGuard
import Derived.Test.YthljbhianagobaaWNEv
import Derived.Test.YthljbhianagobaaWMore
namespace Go.Proofs.Ythljbhianagobaa.PFnExactNextTaller
open Go.RowKit Go.Proofs.YthljbhianagobaaW.PrintWords Go.Proofs.YthljbhianagobaaW.PrintLast Go.Proofs.YthljbhianagobaaW.PrintMore
attribute [local go_sem] max2_int min2_int max_two min_two max_three min_three max_four min_four   -- for this text's walks alone
set_option linter.unusedVariables false
set_option linter.unusedSimpArgs false



def errW : Option Int → Value
  | none => .nilIface
  | some c => .iface 0 (.int .i64 c)
theorem errW_none : errW none = .nilIface := rfl
theorem errW_some (c : Int) : errW (some c) = .iface 0 (.int .i64 c) := rfl

theorem info3 : (Try.prog.info? 3).map (fun i => (i.zero, i.size, i.bytes)) = some (some (.int .i64 0), 1, 8) := by kernel_rfl
-- the values' own types

end Go.Proofs.Ythljbhianagobaa.PFnExactNextTaller
