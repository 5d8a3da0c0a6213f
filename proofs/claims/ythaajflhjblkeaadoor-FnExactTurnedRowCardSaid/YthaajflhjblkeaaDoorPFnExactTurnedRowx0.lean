/- A text of this session for the law FnExactTurnedRow of the seat YthaajflhjblkeaaDoor: the functions that the law uses and their walks. -/
import Derived.Test.YthaajflhjblkeaaDoorProg
import Derived.WalkSpells
import Derived.Lib.SliceRun
import Derived.Shelf.Abstract
import Derived.Test.YthaajflhjblkeaaDoorMl
import Derived.Below
import Derived.Deep.Draws
import Derived.Deep.AppendLies
import Derived.Maps.AppendAt
import Derived.OwnWalk
import Derived.Laws.BytesArg
import Derived.Laws.MakeOwn
import Derived.Laws.OwnMore
import Derived.Deep.OwnRows
import Derived.Tactics
import Derived.Lib.ConvBytes
import Derived.Laws.Slices
import Derived.WalkKit
import Derived.KernelRfl
import Derived.RowKit3
import Derived.Deep.LoopGhost
import Derived.Deep.QuietTactic
import Derived.BigQuiet
import Derived.WideLaws
import Derived.Deep.DeepCutAuto
import Derived.Deep.CutBlock
import Derived.Deep.RegionHeld3
import Derived.Laws.Rows
import Derived.Lib.AppendStr
import Derived.ArgAppend
import Derived.Laws.IdiomCopy
import Derived.OrdersHeld
import Derived.Laws.BitsLemmas
import Derived.RowKit
import Derived.Test.YthaajflhjblkeaaDoorWWords
import Derived.Test.YthaajflhjblkeaaDoorWLast
import Derived.Test.YthaajflhjblkeaaDoorWTab
import Derived.Test.YthaajflhjblkeaaDoorWFour
import Derived.Test.YthaajflhjblkeaaDoorWQPut
import Derived.Test.YthaajflhjblkeaaDoorWApart
import Derived.Test.YthaajflhjblkeaaDoorWArr
import Derived.Test.YthaajflhjblkeaaDoorWZeros
import Derived.Test.YthaajflhjblkeaaDoorWFoot
import Derived.Test.YthaajflhjblkeaaDoorWKept
import Derived.Test.YthaajflhjblkeaaDoorWShare
import Derived.Test.YthaajflhjblkeaaDoorWN
import Derived.Test.YthaajflhjblkeaaDoorWFootNe
import Derived.Test.YthaajflhjblkeaaDoorWAt
import Derived.Test.YthaajflhjblkeaaDoorWEqStruct
import Derived.Test.YthaajflhjblkeaaDoorWRepsOne
import Derived.Test.YthaajflhjblkeaaDoorWInv
import Derived.Test.YthaajflhjblkeaaDoorWInvWords
import Derived.Test.YthaajflhjblkeaaDoorWGuard
import Derived.Test.YthaajflhjblkeaaDoorWNEv
import Derived.Test.YthaajflhjblkeaaDoorWMore
namespace Go.Proofs.YthaajflhjblkeaaDoor.PFnExactTurnedRow
open Go.RowKit Go.Proofs.YthaajflhjblkeaaDoorW.PrintWords Go.Proofs.YthaajflhjblkeaaDoorW.PrintLast Go.Proofs.YthaajflhjblkeaaDoorW.PrintMore
attribute [local go_sem] max2_int min2_int max_two min_two max_three min_three max_four min_four   -- for this text's walks alone
set_option linter.unusedVariables false
set_option linter.unusedSimpArgs false



def errW : Option Int → Value
  | none => .nilIface
  | some c => .iface 0 (.int .i64 c)
theorem errW_none : errW none = .nilIface := rfl
theorem errW_some (c : Int) : errW (some c) = .iface 0 (.int .i64 c) := rfl

-- the values' own types

end Go.Proofs.YthaajflhjblkeaaDoor.PFnExactTurnedRow
