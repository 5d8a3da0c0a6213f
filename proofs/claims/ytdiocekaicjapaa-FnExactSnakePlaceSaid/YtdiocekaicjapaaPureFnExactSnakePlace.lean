/- The program and the reference tell the same place of a soldier in a snake for all 64-bit arguments; nothing else is assumed. -/
import Derived.Test.YtdiocekaicjapaaPFnExactSnakePlacex1
namespace Go.Proofs.Ytdiocekaicjapaa.Pure
open Go.RowKit Go.Proofs.Ytdiocekaicjapaa.PFnExactSnakePlace Go.Proofs.YtdiocekaicjapaaW.PrintWords Go.Proofs.YtdiocekaicjapaaW.PrintLast Go.Proofs.YtdiocekaicjapaaW.PrintMore

theorem FnExactSnakePlace : laws_FnExactSnakePlace.Pure := by
  intro a0 a1 _ _
  simp only [laws_FnExactSnakePlace.f, spec_SnakePlace.f, impl_SnakePlace.f, impl_placeIn.f, spec_foPlaced.f, spec_l1In.f, impl_in.f, spec_foSnake.f, impl_snake.f, ge_iff_le]
  by_cases h1 : 1 ≤ a0
  · have h0 : ¬ a0 = 0 := by omega
    by_cases h2 : a0 ≤ 1000 <;> by_cases h3 : 0 ≤ a1 <;> by_cases h4 : a1 ≤ 999999 <;> by_cases h7 : Int.tmod (wrap64 (Int.tdiv a1 a0)) 2 = 1 <;> simp [h0, h1, h2, h3, h4, h7]
  · simp [h1]

end Go.Proofs.Ytdiocekaicjapaa.Pure
