/- A text of this session for the law FnExactTicksToRest of the seat YthaajflhjblkeabDoor: the functions that the law uses and their walks. -/
import Derived.Test.YthaajflhjblkeabDoorProg
import Derived.WalkSpells
import Derived.Lib.SliceRun
import Derived.Shelf.Abstract
import Derived.Test.YthaajflhjblkeabDoorMl
import Derived.Below
import Derived.Deep.Draws
import Derived.Deep.AppendLies
import Derived.Maps.AppendAt
import Derived.OwnWalk
import Derived.Laws.BytesArg
import Derived.Laws.MakeOwn
import Derived.Laws.OwnMore
import Derived.Deep.OwnRows
import Derived.Tactics
import Derived.Lib.ConvBytes
import Derived.Laws.Slices
import Derived.WalkKit
import Derived.KernelRfl
import Derived.RowKit3
import Derived.Deep.LoopGhost
import Derived.Deep.QuietTactic
import Derived.BigQuiet
import Derived.WideLaws
import Derived.Deep.DeepCutAuto
import Derived.Deep.CutBlock
import Derived.Deep.RegionHeld3
import Derived.Laws.Rows
import Derived.Lib.AppendStr
import Derived.ArgAppend
import Derived.Laws.IdiomCopy
import Derived.OrdersHeld
import Derived.Laws.BitsLemmas
import Derived.RowKit
import Derived.Test.YthaajflhjblkeabDoorWWords
import Derived.Test.YthaajflhjblkeabDoorWLast
import Derived.Test.YthaajflhjblkeabDoorWTab
import Derived.Test.YthaajflhjblkeabDoorWFour
import Derived.Test.YthaajflhjblkeabDoorWQPut
import Derived.Test.YthaajflhjblkeabDoorWApart
import Derived.Test.YthaajflhjblkeabDoorWArr
import Derived.Test.YthaajflhjblkeabDoorWZeros
import Derived.Test.YthaajflhjblkeabDoorWFoot
import Derived.Test.YthaajflhjblkeabDoorWKept
import Derived.Test.YthaajflhjblkeabDoorWShare
import Derived.Test.YthaajflhjblkeabDoorWN
import Derived.Test.YthaajflhjblkeabDoorWFootNe
import Derived.Test.YthaajflhjblkeabDoorWAt
import Derived.Test.YthaajflhjblkeabDoorWEqStruct
import Derived.Test.YthaajflhjblkeabDoorWRepsOne
import Derived.Test.YthaajflhjblkeabDoorWInv
import Derived.Test.YthaajflhjblkeabDoorWInvWords
import Derived.Test.YthaajflhjblkeabDoorWGuard
import Derived.Test.YthaajflhjblkeabDoorWNEv
import Derived.Test.YthaajflhjblkeabDoorWMore
namespace Go.Proofs.YthaajflhjblkeabDoor.PFnExactTicksToRest
open Go.RowKit Go.Proofs.YthaajflhjblkeabDoorW.PrintWords Go.Proofs.YthaajflhjblkeabDoorW.PrintLast Go.Proofs.YthaajflhjblkeabDoorW.PrintMore
attribute [local go_sem] max2_int min2_int max_two min_two max_three min_three max_four min_four   -- for this text's walks alone
set_option linter.unusedVariables false
set_option linter.unusedSimpArgs false



def errW : Option Int → Value
  | none => .nilIface
  | some c => .iface 0 (.int .i64 c)
theorem errW_none : errW none = .nilIface := rfl
theorem errW_some (c : Int) : errW (some c) = .iface 0 (.int .i64 c) := rfl

theorem info3 : (Tryd.prog.info? 3).map (fun i => (i.zero, i.size, i.bytes)) = some (some (.int .i64 0), 1, 8) := by kernel_rfl
-- the values' own types

end Go.Proofs.YthaajflhjblkeabDoor.PFnExactTicksToRest
