/- The program and the reference tell the same number of rows at rest for every 64-bit number of soldiers; nothing else is assumed. -/
import Derived.Test.YtdiocekaicjapaaPFnExactCountAtRestx1
namespace Go.Proofs.Ytdiocekaicjapaa.Pure
open Go.RowKit Go.Proofs.Ytdiocekaicjapaa.PFnExactCountAtRest Go.Proofs.YtdiocekaicjapaaW.PrintWords Go.Proofs.YtdiocekaicjapaaW.PrintLast Go.Proofs.YtdiocekaicjapaaW.PrintMore

theorem FnExactCountAtRest : laws_FnExactCountAtRest.Pure := by
  intro a0 _
  simp only [laws_FnExactCountAtRest.f, spec_CountAtRest.f, impl_CountAtRest.f, spec_l1In.f, impl_in.f, ge_iff_le]
  by_cases h1 : 1 ≤ a0 <;> by_cases h2 : a0 ≤ 60 <;> simp [h1, h2]

end Go.Proofs.Ytdiocekaicjapaa.Pure
