/- The law FnExactConstants answers true; it takes no input, so nothing is assumed. -/
import Derived.Test.YtdiocekaicjapaaPFnExactConstantsx1
namespace Go.Proofs.Ytdiocekaicjapaa.Pure
open Go.RowKit Go.Proofs.Ytdiocekaicjapaa.PFnExactConstants Go.Proofs.YtdiocekaicjapaaW.PrintWords Go.Proofs.YtdiocekaicjapaaW.PrintLast Go.Proofs.YtdiocekaicjapaaW.PrintMore

theorem FnExactConstants : laws_FnExactConstants.Pure := rfl

end Go.Proofs.Ytdiocekaicjapaa.Pure
