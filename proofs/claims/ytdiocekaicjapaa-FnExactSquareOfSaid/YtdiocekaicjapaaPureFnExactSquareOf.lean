/- The program and the reference tell the same greatest full square and rest for every 64-bit number of soldiers; nothing else is assumed. -/
import Derived.Test.YtdiocekaicjapaaPFnExactSquareOfx1
namespace Go.Proofs.Ytdiocekaicjapaa.Pure
open Go.RowKit Go.Proofs.Ytdiocekaicjapaa.PFnExactSquareOf Go.Proofs.YtdiocekaicjapaaW.PrintWords Go.Proofs.YtdiocekaicjapaaW.PrintLast Go.Proofs.YtdiocekaicjapaaW.PrintMore

theorem root_same (k : Nat) : ∀ x y : Int, spec_foRoot.l0 k x y = impl_rootOf.l0 k x y := by
  induction k with
  | zero => intro x y; rfl
  | succ k ih =>
    intro x y
    simp only [spec_foRoot.l0, impl_rootOf.l0, ih]
theorem root_some (d : Nat) : ∀ (k : Nat) (x y : Int), 0 ≤ y → y ≤ 1000 → x ≤ 1000000 → 1000 - y = d → d < k → ∃ r, impl_rootOf.l0 k x y = some r := by
  induction d with
  | zero =>
    intro k x y h0 h1 hx hd hk
    obtain ⟨k, rfl⟩ : ∃ m, k = m + 1 := ⟨k - 1, by omega⟩
    have hy : y = 1000 := by omega
    subst hy
    refine ⟨1000, ?_⟩
    simp only [impl_rootOf.l0]
    rw [if_neg (by unfold wrap64; omega)]
  | succ d ih =>
    intro k x y h0 h1 hx hd hk
    obtain ⟨k, rfl⟩ : ∃ m, k = m + 1 := ⟨k - 1, by omega⟩
    simp only [impl_rootOf.l0]
    have e : wrap64 (y + 1) = y + 1 := by unfold wrap64; omega
    rw [e]
    split
    · exact ih k x (y + 1) (by omega) (by omega) hx (by omega) (by omega)
    · exact ⟨_, rfl⟩
theorem FnExactSquareOf : laws_FnExactSquareOf.Pure := by
  intro a0 _
  refine ⟨1002, ?_⟩
  simp only [laws_FnExactSquareOf.f, spec_SquareOf.f, impl_SquareOf.f, spec_foSoldiers.f, impl_isSoldiers.f, spec_l1In.f, impl_in.f, spec_foRoot.f, impl_rootOf.f, root_same, ge_iff_le]
  by_cases h1 : 1 ≤ a0
  · by_cases h2 : a0 ≤ 1000000
    · obtain ⟨r, hr⟩ := root_some 1000 1002 a0 0 (by omega) (by omega) h2 (by omega) (by omega)
      rw [hr]
      simp [h1, h2]
    · simp [h1, h2]
  · simp [h1]

end Go.Proofs.Ytdiocekaicjapaa.Pure
