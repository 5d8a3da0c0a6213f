/- A text of this session for the law FnExactHasBefore of the seat YthaajflhjblkeacDoor: the functions that the law uses and their walks. -/
import Derived.Test.YthaajflhjblkeacDoorProg
import Derived.WalkSpells
import Derived.Lib.SliceRun
import Derived.Shelf.Abstract
import Derived.Test.YthaajflhjblkeacDoorMl
import Derived.Below
import Derived.Deep.Draws
import Derived.Deep.AppendLies
import Derived.Maps.AppendAt
import Derived.OwnWalk
import Derived.Laws.BytesArg
import Derived.Laws.MakeOwn
import Derived.Laws.OwnMore
import Derived.Deep.OwnRows
import Derived.Tactics
import Derived.Lib.ConvBytes
import Derived.Laws.Slices
import Derived.WalkKit
import Derived.KernelRfl
import Derived.RowKit3
import Derived.Deep.LoopGhost
import Derived.Deep.QuietTactic
import Derived.BigQuiet
import Derived.WideLaws
import Derived.Deep.DeepCutAuto
import Derived.Deep.CutBlock
import Derived.Deep.RegionHeld3
import Derived.Laws.Rows
import Derived.Lib.AppendStr
import Derived.ArgAppend
import Derived.Laws.IdiomCopy
import Derived.OrdersHeld
import Derived.Laws.BitsLemmas
import Derived.RowKit
import Derived.Test.YthaajflhjblkeacDoorWWords
import Derived.Test.YthaajflhjblkeacDoorWLast
import Derived.Test.YthaajflhjblkeacDoorWTab
import Derived.Test.YthaajflhjblkeacDoorWFour
import Derived.Test.YthaajflhjblkeacDoorWQPut
import Derived.Test.YthaajflhjblkeacDoorWApart
import Derived.Test.YthaajflhjblkeacDoorWArr
import Derived.Test.YthaajflhjblkeacDoorWZeros
import Derived.Test.YthaajflhjblkeacDoorWFoot
import Derived.Test.YthaajflhjblkeacDoorWKept
import Derived.Test.YthaajflhjblkeacDoorWShare
import Derived.Test.YthaajflhjblkeacDoorWN
import Derived.Test.YthaajflhjblkeacDoorWFootNe
import Derived.Test.YthaajflhjblkeacDoorWAt
import Derived.Test.YthaajflhjblkeacDoorWEqStruct
import Derived.Test.YthaajflhjblkeacDoorWRepsOne
import Derived.Test.YthaajflhjblkeacDoorWInv
import Derived.Test.YthaajflhjblkeacDoorWInvWords
import Derived.Test.YthaajflhjblkeacDoorWGuard
import Derived.Test.YthaajflhjblkeacDoorWNEv
import Derived.Test.YthaajflhjblkeacDoorWMore
namespace Go.Proofs.YthaajflhjblkeacDoor.PFnExactHasBefore
open Go.RowKit Go.Proofs.YthaajflhjblkeacDoorW.PrintWords Go.Proofs.YthaajflhjblkeacDoorW.PrintLast Go.Proofs.YthaajflhjblkeacDoorW.PrintMore
attribute [local go_sem] max2_int min2_int max_two min_two max_three min_three max_four min_four   -- for this text's walks alone
set_option linter.unusedVariables false
set_option linter.unusedSimpArgs false



def errW : Option Int → Value
  | none => .nilIface
  | some c => .iface 0 (.int .i64 c)
theorem errW_none : errW none = .nilIface := rfl
theorem errW_some (c : Int) : errW (some c) = .iface 0 (.int .i64 c) := rfl

theorem info3 : (Tryd.prog.info? 3).map (fun i => (i.zero, i.size, i.bytes)) = some (some (.int .i64 0), 1, 8) := by kernel_rfl
theorem info5 : (Tryd.prog.info? 5).map (fun i => (i.zero, i.size, i.bytes)) = some (some (.int .u8 0), 1, 1) := by kernel_rfl
theorem info9 : (Tryd.prog.info? 9).map (fun i => (i.zero, i.size, i.bytes)) = some (some (.string ⟨#[]⟩), 1, 16) := by kernel_rfl
-- the values' own types

end Go.Proofs.YthaajflhjblkeacDoor.PFnExactHasBefore
