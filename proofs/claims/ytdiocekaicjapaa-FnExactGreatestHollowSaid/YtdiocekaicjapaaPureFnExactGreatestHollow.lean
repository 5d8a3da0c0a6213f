/- The program and the reference tell the same greatest hollow square and rest for all 64-bit arguments; nothing else is assumed. -/
import Derived.Test.YtdiocekaicjapaaPFnExactGreatestHollowx1
namespace Go.Proofs.Ytdiocekaicjapaa.Pure
open Go.RowKit Go.Proofs.Ytdiocekaicjapaa.PFnExactGreatestHollow Go.Proofs.YtdiocekaicjapaaW.PrintWords Go.Proofs.YtdiocekaicjapaaW.PrintLast Go.Proofs.YtdiocekaicjapaaW.PrintMore

theorem hollow_same (n t : Int) (hn0 : 1 ≤ n) (hn : n ≤ 1000000) (ht0 : 1 ≤ t) (ht : t ≤ 1000) (k : Nat) :
    ∃ r, spec_GreatestHollow.j0 (k + 1) n t false = some r ∧ impl_GreatestHollow.j0 (k + 1) n t false = some r := by
  simp only [spec_GreatestHollow.j0, impl_GreatestHollow.j0]
  have z1 : ¬ t = 0 := by omega
  have e4 : wrap64 (4 * t) = 4 * t := by unfold wrap64; omega
  have e2 : wrap64 (2 * t) = 2 * t := by unfold wrap64; omega
  have z4 : ¬ 4 * t = 0 := by omega
  have q0 : Int.tdiv n 4 = n / 4 := Int.tdiv_eq_ediv_of_nonneg (by omega)
  have w0 : wrap64 (n / 4) = n / 4 := by unfold wrap64; omega
  have q1 : Int.tdiv (n / 4) t = n / (4 * t) := by
    rw [Int.tdiv_eq_ediv_of_nonneg (by omega), Int.ediv_ediv, if_neg (by omega), Int.sub_zero]
  have q2 : Int.tdiv n (4 * t) = n / (4 * t) := Int.tdiv_eq_ediv_of_nonneg (by omega)
  have m2 : Int.tmod n (4 * t) = n - 4 * t * (n / (4 * t)) := by
    rw [Int.tmod_eq_emod_of_nonneg (by omega), Int.emod_def]
  have qa : 0 ≤ n / (4 * t) := Int.ediv_nonneg (by omega) (by omega)
  have qb : n / (4 * t) ≤ n := Int.ediv_le_self _ (by omega)
  have qc : 4 * t * (n / (4 * t)) ≤ n := by
    have := Int.mul_ediv_self_le (x := n) (k := 4 * t) z4
    exact this
  have qd : 0 ≤ 4 * t * (n / (4 * t)) := Int.mul_nonneg (by omega) qa
  rw [e4, e2, q0, w0, q1, q2, m2, if_neg z1, if_neg z4, if_neg Bool.false_ne_true]
  generalize hq : n / (4 * t) = q at *
  have w1 : wrap64 q = q := by unfold wrap64; omega
  have w2 : wrap64 (q + t) = q + t := by unfold wrap64; omega
  have w3 : wrap64 (q + t - t) = q := by unfold wrap64; omega
  rw [w1, w2, w3]
  generalize hp : 4 * t * q = p at *
  have w4 : wrap64 p = p := by unfold wrap64; omega
  have w5 : wrap64 (n - p) = n - p := by unfold wrap64; omega
  rw [w4, w5]
  split
  · exact ⟨_, rfl, rfl⟩
  · exact ⟨_, rfl, rfl⟩
theorem FnExactGreatestHollow : laws_FnExactGreatestHollow.Pure := by
  intro a0 a1 _ _
  refine ⟨1, ?_⟩
  have t1 : spec_GreatestHollow.j0 1 a0 a1 true = some (0, 0, false) := rfl
  have t2 : impl_GreatestHollow.j0 1 a0 a1 true = some (0, 0, false) := rfl
  simp only [laws_FnExactGreatestHollow.f, spec_GreatestHollow.f, impl_GreatestHollow.f, spec_foSoldiers.f, impl_isSoldiers.f, spec_l1In.f, impl_in.f, ge_iff_le]
  by_cases h1 : 1 ≤ a0
  · by_cases h2 : a0 ≤ 1000000
    · by_cases h3 : 1 ≤ a1
      · by_cases h4 : a1 ≤ 1000
        · obtain ⟨r, hs, hi⟩ := hollow_same a0 a1 h1 h2 h3 h4 0
          simp only [Nat.zero_add] at hs hi
          simp [h1, h2, h3, h4, hs, hi]
        · simp [h1, h2, h3, h4, t1, t2]
      · simp [h1, h2, h3, t1, t2]
    · simp [h1, h2, t1, t2]
  · simp [h1, t1, t2]

end Go.Proofs.Ytdiocekaicjapaa.Pure
