/- The greatest of a list: the walk of slices.Max. -/
import Derived.Test.YtfkbacdaoeecdabHClone
import Derived.Test.YtfkbacdaoeecdabHGood
namespace Go.Proofs.Ytfkbacdaoeecdab.HMax
open Go.RowKit Go.Proofs.YtfkbacdaoeecdabW.PrintWords Go.Proofs.YtfkbacdaoeecdabW.PrintLast Go.Proofs.YtfkbacdaoeecdabW.PrintMore Go.Proofs.Ytfkbacdaoeecdab.HSpecG
attribute [local go_sem] max2_int max_two
set_option linter.unusedVariables false
set_option linter.unusedSimpArgs false

def maxL : List Int → Int → Int
  | [], m => m
  | h :: t, m => maxL t (if m > h then m else h)
set_option maxHeartbeats 8000000 in
set_option maxRecDepth 100000 in
theorem max_calls (A0 : Option Addr) (c0 : Nat) (l : List Int) (h1 : 1 ≤ l.length) (hl : l.length ≤ 1048576) (w : World) (h0 : Kd.C (Kd.int .i64) w A0 l.length l) :
    Calls Try.prog 34 #[.slice A0 l.length c0] w fun e w' => e = .returned (.int .i64 (maxL (l.drop 1) (rd l 0))) ∧ Below w.heap.size w w' := by
  have HB := Aside0.mk (Below.refl w.heap.size w)
  have HC := Aside0.mk h0
  obtain ⟨ad, e, hx0⟩ := Kd.at_int h0 0 (by omega) (by omega)
  cases e
  replace hx0 : w.cell? ad = some (.int .i64 (rd l 0)) := by
    have e0 : ad.add (Int.toNat 0) = ad := by cases ad; rfl
    rw [← e0]; exact hx0
  generalize rd l 0 = y at hx0
  obtain ⟨T, hT⟩ : ∃ T, maxL (l.drop 1) y = T := ⟨_, rfl⟩
  rw [hT]
  have HE0 := Aside0.mk hT
  clear h0 hT
  go_enter Try.func34, Try.ntmps34
  go_wp2_with fail
  go_loopg [3, 4] l.length (fun kq v3 v4 w' => ∃ (j : Nat) (m : Int), v3 = .int .i64 m ∧ v4 = .int .i64 (j : Int) ∧ Aside0 (kq + j = l.length + 1) ∧ Aside0 (maxL (l.drop j) m = T) ∧ Aside0 (Below w.heap.size w w'))
  case atStart => exact ⟨1, y, rfl, rfl, ⟨by omega⟩, HE0, HB⟩
  case round =>
    clear HB HE0
    obtain ⟨j, m, rfl, rfl, HK, HE, HB⟩ := hrel
    by_cases hj : j < l.length
    · obtain ⟨ad2, e, hx⟩ := Kd.at_int HC.out (j : Int) (by omega) (by omega)
      cases e
      rw [Int.toNat_natCast] at hx
      have HE2 : Aside0 (maxL (l.drop (j + 1)) (if m > rd l (j : Int) then m else rd l (j : Int)) = T) := ⟨by
        have := HE.out
        rw [drop_cons l j hj, maxL] at this
        exact this⟩
      generalize rd l (j : Int) = x at hx HE2
      replace hx := pw_cell_below HB.out hx
      clear HE
      by_cases c : m < x
      · have HE3 : Aside0 (maxL (l.drop (j + 1)) x = T) := ⟨by have := HE2.out; rw [if_neg (by omega)] at this; exact this⟩
        go_wp2_with fail
        go_roundg (l.length - j)
        case measure => have := HK.out; omega
        case rel => exact ⟨j + 1, x, rfl, rfl, ⟨by have := HK.out; omega⟩, HE3, HB⟩
      · have HE3 : Aside0 (maxL (l.drop (j + 1)) m = T) := ⟨by
          have := HE2.out
          by_cases c2 : m > x
          · rw [if_pos c2] at this; exact this
          · rw [if_neg c2, show x = m by omega] at this; exact this⟩
        go_wp2_with fail
        go_roundg (l.length - j)
        case measure => have := HK.out; omega
        case rel => exact ⟨j + 1, m, rfl, rfl, ⟨by have := HK.out; omega⟩, HE3, HB⟩
    · have hT := HE.out
      rw [List.drop_eq_nil_of_le (by omega), maxL] at hT
      clear HE
      subst hT
      go_wp2_with fail
      go_ret
      exact ⟨rfl, (by repeat (first | (with_reducible first | exact HB.out | apply below_alloc | apply pw_below_drewN | apply below_drew1) | exact HB.out))⟩
end Go.Proofs.Ytfkbacdaoeecdab.HMax
