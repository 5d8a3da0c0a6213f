/- The program and the reference tell the same greatest triangle and rest for every 64-bit number of soldiers; nothing else is assumed. -/
import Derived.Test.YtdiocekaicjapaaPFnExactTriangleOfx1
namespace Go.Proofs.Ytdiocekaicjapaa.Pure
open Go.RowKit Go.Proofs.Ytdiocekaicjapaa.PFnExactTriangleOf Go.Proofs.YtdiocekaicjapaaW.PrintWords Go.Proofs.YtdiocekaicjapaaW.PrintLast Go.Proofs.YtdiocekaicjapaaW.PrintMore

theorem tri_val (r : Int) (h0 : 0 ≤ r) (h1 : r ≤ 2000) : impl_triangle.f r = some (r * (r + 1) / 2) := by
  unfold impl_triangle.f
  have hb : r * (r + 1) ≤ 2000 * 2001 := Int.mul_le_mul h1 (by omega) (by omega) (by omega)
  have hp : 0 ≤ r * (r + 1) := Int.mul_nonneg h0 (by omega)
  have e : wrap64 (r + 1) = r + 1 := by unfold wrap64; omega
  rw [e]
  generalize r * (r + 1) = t at *
  have e2 : wrap64 t = t := by unfold wrap64; omega
  rw [e2, Int.tdiv_eq_ediv_of_nonneg hp]
  have e3 : wrap64 (t / 2) = t / 2 := by unfold wrap64; omega
  rw [e3]
theorem tri_step (r : Int) : (r + 1) * (r + 1 + 1) = r * (r + 1) + 2 * r + 2 := by
  simp only [Int.add_mul, Int.mul_add]; omega
theorem tri_run (d : Nat) : ∀ (k : Nat) (n s r : Int), 0 ≤ r → r ≤ 1500 → n ≤ 1000000 → 0 ≤ s → 2 * s + r * (r + 1) = 2 * n → 1500 - r = d → d < k →
    ∃ q l, spec_foTriangle.l0 k s r = some (q, l) ∧ impl_TriangleOf.l0 k n r = some (q, l, true) := by
  induction d with
  | zero =>
    intro k n s r h0 h1 hn hs he hd hk
    have : r = 1500 := by omega
    subst this
    omega
  | succ d ih =>
    intro k n s r h0 h1 hn hs he hd hk
    obtain ⟨k, rfl⟩ : ∃ m, k = m + 1 := ⟨k - 1, by omega⟩
    have e1 : wrap64 (r + 1) = r + 1 := by unfold wrap64; omega
    simp only [spec_foTriangle.l0, impl_TriangleOf.l0]
    have hst := tri_step r
    have hp : 0 ≤ r * (r + 1) := Int.mul_nonneg h0 (by omega)
    have hsn : s ≤ n := by omega
    have e2 : wrap64 (s - (r + 1)) = s - (r + 1) := by unfold wrap64; omega
    rw [e1, e2, tri_val (r + 1) (by omega) (by omega), tri_val r h0 (by omega)]
    simp only [Option.bind_some]
    rw [hst]
    by_cases c : s > r
    · rw [if_pos c, if_pos (by generalize r * (r + 1) = t at *; omega)]
      exact ih k n (s - (r + 1)) (r + 1) (by omega) (by omega) hn (by omega) (by rw [hst]; omega) (by omega) (by omega)
    · rw [if_neg c, if_neg (by generalize r * (r + 1) = t at *; omega)]
      have e3 : wrap64 (n - r * (r + 1) / 2) = s := by
        generalize r * (r + 1) = t at *
        unfold wrap64; omega
      exact ⟨r, s, rfl, by rw [e3]⟩
theorem FnExactTriangleOf : laws_FnExactTriangleOf.Pure := by
  intro a0 _
  refine ⟨1502, ?_⟩
  simp only [laws_FnExactTriangleOf.f, spec_TriangleOf.f, impl_TriangleOf.f, spec_foSoldiers.f, impl_isSoldiers.f, spec_l1In.f, impl_in.f, spec_foTriangle.f, ge_iff_le]
  by_cases h1 : 1 ≤ a0
  · by_cases h2 : a0 ≤ 1000000
    · obtain ⟨q, l, hs, hi⟩ := tri_run 1500 1502 a0 a0 0 (by omega) (by omega) h2 (by omega) (by omega) (by omega) (by omega)
      rw [hs, hi]
      simp [h1, h2]
    · simp [h1, h2]
  · simp [h1]

end Go.Proofs.Ytdiocekaicjapaa.Pure
