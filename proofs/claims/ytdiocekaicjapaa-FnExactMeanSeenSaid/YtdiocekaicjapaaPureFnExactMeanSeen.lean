/- The program and the reference tell the same mean for every 64-bit number of soldiers; nothing else is assumed. -/
import Derived.Test.YtdiocekaicjapaaPFnExactMeanSeenx1
namespace Go.Proofs.Ytdiocekaicjapaa.Pure
open Go.RowKit Go.Proofs.Ytdiocekaicjapaa.PFnExactMeanSeen Go.Proofs.YtdiocekaicjapaaW.PrintWords Go.Proofs.YtdiocekaicjapaaW.PrintLast Go.Proofs.YtdiocekaicjapaaW.PrintMore

theorem FnExactMeanSeen : laws_FnExactMeanSeen.Pure := by
  intro a0 _
  refine ⟨100, ?_⟩
  by_cases h : 1 ≤ a0 ∧ a0 ≤ 15
  · have h' : a0 = 1 ∨ a0 = 2 ∨ a0 = 3 ∨ a0 = 4 ∨ a0 = 5 ∨ a0 = 6 ∨ a0 = 7 ∨ a0 = 8 ∨ a0 = 9 ∨ a0 = 10 ∨ a0 = 11 ∨ a0 = 12 ∨ a0 = 13 ∨ a0 = 14 ∨ a0 = 15 := by omega
    rcases h' with rfl | rfl | rfl | rfl | rfl | rfl | rfl | rfl | rfl | rfl | rfl | rfl | rfl | rfl | rfl <;> decide +kernel
  · simp only [laws_FnExactMeanSeen.f, spec_MeanSeen.f, impl_MeanSeen.f, spec_l1In.f, impl_in.f, ge_iff_le]
    by_cases h1 : 1 ≤ a0
    · have h2 : ¬ a0 ≤ 15 := fun x => h ⟨h1, x⟩
      simp [h1, h2]
    · simp [h1]

end Go.Proofs.Ytdiocekaicjapaa.Pure
