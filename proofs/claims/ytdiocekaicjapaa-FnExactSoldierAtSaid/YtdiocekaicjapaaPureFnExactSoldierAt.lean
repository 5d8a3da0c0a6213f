/- The program and the reference tell the same soldier at a place for all 64-bit arguments; nothing else is assumed. -/
import Derived.Test.YtdiocekaicjapaaPFnExactSoldierAtx1
namespace Go.Proofs.Ytdiocekaicjapaa.Pure
open Go.RowKit Go.Proofs.Ytdiocekaicjapaa.PFnExactSoldierAt Go.Proofs.YtdiocekaicjapaaW.PrintWords Go.Proofs.YtdiocekaicjapaaW.PrintLast Go.Proofs.YtdiocekaicjapaaW.PrintMore

theorem FnExactSoldierAt : laws_FnExactSoldierAt.Pure := by
  intro a0 a1 a2 _ _ _
  simp only [laws_FnExactSoldierAt.f, spec_SoldierAt.f, impl_SoldierAt.f, impl_isPlace.f, spec_foAt.f, spec_l1In.f, impl_in.f, ge_iff_le]
  by_cases h1 : 1 ≤ a0 <;> by_cases h2 : a0 ≤ 1000 <;> by_cases h3 : 0 ≤ a1 <;> by_cases h4 : a1 ≤ 1000 <;> by_cases h5 : 0 ≤ a2 <;> by_cases h6 : a2 ≤ wrap64 (a0 - 1) <;> simp [h1, h2, h3, h4, h5, h6]

end Go.Proofs.Ytdiocekaicjapaa.Pure
