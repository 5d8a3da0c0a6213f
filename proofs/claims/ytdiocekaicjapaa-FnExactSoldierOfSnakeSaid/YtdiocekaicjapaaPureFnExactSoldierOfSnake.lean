/- The program and the reference tell the same soldier of a snake at a place for all 64-bit arguments; nothing else is assumed. -/
import Derived.Test.YtdiocekaicjapaaPFnExactSoldierOfSnakex1
namespace Go.Proofs.Ytdiocekaicjapaa.Pure
open Go.RowKit Go.Proofs.Ytdiocekaicjapaa.PFnExactSoldierOfSnake Go.Proofs.YtdiocekaicjapaaW.PrintWords Go.Proofs.YtdiocekaicjapaaW.PrintLast Go.Proofs.YtdiocekaicjapaaW.PrintMore

theorem FnExactSoldierOfSnake : laws_FnExactSoldierOfSnake.Pure := by
  intro a0 a1 a2 _ _ _
  simp only [laws_FnExactSoldierOfSnake.f, spec_SoldierOfSnake.f, impl_SoldierOfSnake.f, impl_isPlace.f, spec_foAt.f, spec_l1In.f, impl_in.f, spec_foSnake.f, impl_snake.f, ge_iff_le]
  by_cases h1 : 1 ≤ a0 <;> by_cases h2 : a0 ≤ 1000 <;> by_cases h3 : 0 ≤ a1 <;> by_cases h4 : a1 ≤ 1000 <;> by_cases h5 : 0 ≤ a2 <;> by_cases h6 : a2 ≤ wrap64 (a0 - 1) <;> by_cases h7 : Int.tmod a1 2 = 1 <;> simp [h1, h2, h3, h4, h5, h6, h7]

end Go.Proofs.Ytdiocekaicjapaa.Pure
