/- The program and the reference tell the same place of a soldier in columns for all 64-bit arguments; nothing else is assumed. -/
import Derived.Test.YtdiocekaicjapaaPFnExactPlaceInx1
namespace Go.Proofs.Ytdiocekaicjapaa.Pure
open Go.RowKit Go.Proofs.Ytdiocekaicjapaa.PFnExactPlaceIn Go.Proofs.YtdiocekaicjapaaW.PrintWords Go.Proofs.YtdiocekaicjapaaW.PrintLast Go.Proofs.YtdiocekaicjapaaW.PrintMore

theorem FnExactPlaceIn : laws_FnExactPlaceIn.Pure := by
  intro a0 a1 _ _
  simp only [laws_FnExactPlaceIn.f, spec_PlaceIn.f, impl_PlaceIn.f, impl_placeIn.f, spec_foPlaced.f, spec_l1In.f, impl_in.f, ge_iff_le]
  by_cases h1 : 1 ≤ a0
  · have h0 : ¬ a0 = 0 := by omega
    by_cases h2 : a0 ≤ 1000 <;> by_cases h3 : 0 ≤ a1 <;> by_cases h4 : a1 ≤ 999999 <;> simp [h0, h1, h2, h3, h4]
  · simp [h1]

end Go.Proofs.Ytdiocekaicjapaa.Pure
