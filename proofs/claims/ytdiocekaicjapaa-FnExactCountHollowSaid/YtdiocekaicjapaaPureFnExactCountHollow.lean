/- The program and the reference tell the same size of a hollow square for all 64-bit sides and thicknesses; nothing else is assumed. -/
import Derived.Test.YtdiocekaicjapaaPFnExactCountHollowx1
namespace Go.Proofs.Ytdiocekaicjapaa.Pure
open Go.RowKit Go.Proofs.Ytdiocekaicjapaa.PFnExactCountHollow Go.Proofs.YtdiocekaicjapaaW.PrintWords Go.Proofs.YtdiocekaicjapaaW.PrintLast Go.Proofs.YtdiocekaicjapaaW.PrintMore

theorem FnExactCountHollow : laws_FnExactCountHollow.Pure := by
  intro a0 a1 _ _
  simp only [laws_FnExactCountHollow.f, spec_CountHollow.f, impl_CountHollow.f, spec_foHollow.f, spec_l1In.f, impl_in.f, ge_iff_le]
  by_cases h1 : 3 ≤ a0 <;> by_cases h2 : a0 ≤ 1000 <;> by_cases h3 : 1 ≤ a1 <;> by_cases h4 : a1 ≤ wrap64 (Int.tdiv (wrap64 (a0 - 1)) 2) <;> simp [h1, h2, h3, h4]

end Go.Proofs.Ytdiocekaicjapaa.Pure
