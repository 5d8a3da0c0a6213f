/- A text of this session for the law FnExactRowOfNumber of the seat Ytdiocekaicjapaa: the functions that the law uses and their walks. -/
import Derived.Test.YtdiocekaicjapaaProg
import Derived.WalkSpells
import Derived.Lib.SliceRun
import Derived.Shelf.Abstract
import Derived.Below
import Derived.Deep.Draws
import Derived.Deep.AppendLies
import Derived.Maps.AppendAt
import Derived.OwnWalk
import Derived.Laws.BytesArg
import Derived.Laws.MakeOwn
import Derived.Laws.OwnMore
import Derived.Deep.OwnRows
import Derived.Tactics
import Derived.Lib.ConvBytes
import Derived.Laws.Slices
import Derived.WalkKit
import Derived.KernelRfl
import Derived.RowKit3
import Derived.Deep.LoopGhost
import Derived.Deep.QuietTactic
import Derived.BigQuiet
import Derived.WideLaws
import Derived.Deep.DeepCutAuto
import Derived.Deep.CutBlock
import Derived.Deep.RegionHeld3
import Derived.Laws.Rows
import Derived.Lib.AppendStr
import Derived.ArgAppend
import Derived.Laws.IdiomCopy
import Derived.OrdersHeld
import Derived.Laws.BitsLemmas
import Derived.RowKit
import Derived.Test.YtdiocekaicjapaaWWords
import Derived.Test.YtdiocekaicjapaaWLast
import Derived.Test.YtdiocekaicjapaaWTab
import Derived.Test.YtdiocekaicjapaaWFour
import Derived.Test.YtdiocekaicjapaaWQPut
import Derived.Test.YtdiocekaicjapaaWApart
import Derived.Test.YtdiocekaicjapaaWArr
import Derived.Test.YtdiocekaicjapaaWZeros
import Derived.Test.YtdiocekaicjapaaWFoot
import Derived.Test.YtdiocekaicjapaaWKept
import Derived.Test.YtdiocekaicjapaaWShare
import Derived.Test.YtdiocekaicjapaaWN
import Derived.Test.YtdiocekaicjapaaWFootNe
import Derived.Test.YtdiocekaicjapaaWAt
import Derived.Test.YtdiocekaicjapaaWEqStruct
import Derived.Test.YtdiocekaicjapaaWRepsOne
import Derived.Test.YtdiocekaicjapaaWInv
import Derived.Test.YtdiocekaicjapaaWInvWords
import Derived.Test.YtdiocekaicjapaaWGuard
import Derived.Test.YtdiocekaicjapaaWNEv
import Derived.Test.YtdiocekaicjapaaWMore
namespace Go.Proofs.Ytdiocekaicjapaa.PFnExactRowOfNumber
open Go.RowKit Go.Proofs.YtdiocekaicjapaaW.PrintWords Go.Proofs.YtdiocekaicjapaaW.PrintLast Go.Proofs.YtdiocekaicjapaaW.PrintMore
attribute [local go_sem] max2_int min2_int max_two min_two max_three min_three max_four min_four   -- for this text's walks alone
set_option linter.unusedVariables false
set_option linter.unusedSimpArgs false



def errW : Option Int → Value
  | none => .nilIface
  | some c => .iface 0 (.int .i64 c)
theorem errW_none : errW none = .nilIface := rfl
theorem errW_some (c : Int) : errW (some c) = .iface 0 (.int .i64 c) := rfl

theorem info5 : (Try.prog.info? 5).map (fun i => (i.zero, i.size, i.bytes)) = some (some (.int .u8 0), 1, 1) := by kernel_rfl
-- the values' own types

end Go.Proofs.Ytdiocekaicjapaa.PFnExactRowOfNumber
