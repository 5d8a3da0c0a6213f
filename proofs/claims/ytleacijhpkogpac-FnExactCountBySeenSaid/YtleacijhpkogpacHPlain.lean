/- Plain laws of heights: orders by who is seen: lists alone, no program. -/
import Derived.WalkKit
namespace Go.Proofs.Ytleacijhpkogpac.HPlain
open Go.RowKit
set_option linter.unusedVariables false
set_option linter.unusedSimpArgs false

/-- In how many orders of n + 1 soldiers so many are seen from both sides. -/
def seenC : Nat → Nat → Nat → Nat
  | 0, l, r => if l = 1 ∧ r = 1 then 1 else 0
  | n + 1, l, r => if l = 0 ∨ r = 0 then 0 else seenC n (l - 1) r + seenC n l (r - 1) + n * seenC n l r
def facN : Nat → Nat
  | 0 => 1
  | n + 1 => (n + 2) * facN n
theorem seenC_le : ∀ n l r, seenC n l r ≤ facN n
  | 0, l, r => by rw [seenC, facN]; split <;> omega
  | n + 1, l, r => by
    have h1 := seenC_le n (l - 1) r
    have h2 := seenC_le n l (r - 1)
    have h3 := Nat.mul_le_mul_left n (seenC_le n l r)
    have e : facN (n + 1) = facN n + facN n + n * facN n := by rw [facN, Nat.add_mul]; omega
    rw [seenC, e]
    split <;> omega
theorem facN_mono : ∀ n m, n ≤ m → facN n ≤ facN m
  | n, 0, h => by obtain rfl : n = 0 := by omega
                  exact Nat.le_refl _
  | n, m + 1, h => by
    by_cases e : n = m + 1
    · rw [e]; exact Nat.le_refl _
    · have := facN_mono n m (by omega)
      rw [show facN (m + 1) = (m + 2) * facN m from rfl, Nat.add_mul]
      omega
theorem seenC_bound (n l r : Nat) (h : n ≤ 14) : seenC n l r ≤ 1307674368000 :=
  Nat.le_trans (seenC_le n l r) (Nat.le_trans (facN_mono n 14 h) (by decide))
theorem seenC_zero_l (n r : Nat) : seenC n 0 r = 0 := by
  cases n <;> simp [seenC]
theorem seenC_zero_r (n l : Nat) : seenC n l 0 = 0 := by
  cases n <;> simp [seenC]
/-- The table behind n + 2 soldiers while it is filled: all places ahead of (l, r) are. -/
def prtT (n l r : Nat) : List (List Int) := (List.range 16).map fun l' => (List.range 16).map fun r' => if l' < l ∨ (l' = l ∧ r' < r) then (seenC n l' r' : Int) else 0
theorem prtT_len (n l r : Nat) : (prtT n l r).length = 16 := by simp [prtT]
theorem prtT_row (n l r i : Nat) (h : i < 16) : (prtT n l r).getD i [] = (List.range 16).map fun r' => if i < l ∨ (i = l ∧ r' < r) then (seenC n i r' : Int) else 0 := by
  rw [List.getD_eq_getElem?_getD, prtT, List.getElem?_map, List.getElem?_range h]; rfl
theorem prtT_row_len (n l r i : Nat) (h : i < 16) : ((prtT n l r).getD i []).length = 16 := by rw [prtT_row n l r i h]; simp
theorem prtT_rd (n l r i j : Nat) (h : i < 16) (hj : j < 16) : ((prtT n l r).getD i []).getD j 0 = if i < l ∨ (i = l ∧ j < r) then (seenC n i j : Int) else 0 := by
  rw [prtT_row n l r i h, List.getD_eq_getElem?_getD, List.getElem?_map, List.getElem?_range hj]; rfl
theorem prtT_congr (n l r l2 r2 : Nat) (h : ∀ i j, i < 16 → j < 16 → (if i < l ∨ (i = l ∧ j < r) then (seenC n i j : Int) else 0) = if i < l2 ∨ (i = l2 ∧ j < r2) then (seenC n i j : Int) else 0) : prtT n l r = prtT n l2 r2 := by
  unfold prtT
  refine List.map_congr_left (fun i hi => List.map_congr_left (fun j hj => ?_))
  exact h i j (List.mem_range.1 hi) (List.mem_range.1 hj)
theorem prtT_start (n : Nat) : prtT n 1 0 = prtT n 0 0 := prtT_congr _ _ _ _ _ (fun i j hi hj => by
  rw [if_neg (show ¬ (i < 0 ∨ (i = 0 ∧ j < 0)) by omega)]
  split
  · obtain rfl : i = 0 := by omega
    rw [seenC_zero_l]; rfl
  · rfl)
theorem prtT_right (n l : Nat) : prtT n l 1 = prtT n l 0 := prtT_congr _ _ _ _ _ (fun i j hi hj => by
  by_cases c : i = l ∧ j = 0
  · obtain ⟨rfl, rfl⟩ := c
    rw [if_pos (by omega), if_neg (by omega), seenC_zero_r]; rfl
  · by_cases d : i < l
    · rw [if_pos (by omega), if_pos (by omega)]
    · rw [if_neg (by omega), if_neg (by omega)])
theorem prtT_next (n l : Nat) : prtT n l 16 = prtT n (l + 1) 0 := prtT_congr _ _ _ _ _ (fun i j hi hj => by
  by_cases d : i < l + 1
  · rw [if_pos (by omega), if_pos (by omega)]
  · rw [if_neg (by omega), if_neg (by omega)])
theorem prtT_zero (n : Nat) : prtT n 0 0 = List.replicate 16 (List.replicate 16 0) := by
  unfold prtT
  have e : ∀ l', ((List.range 16).map fun r' => if l' < 0 ∨ (l' = 0 ∧ r' < 0) then (seenC n l' r' : Int) else 0) = List.replicate 16 0 := by
    intro l'
    rw [show (fun r' => if l' < 0 ∨ (l' = 0 ∧ r' < 0) then (seenC n l' r' : Int) else 0) = fun _ => (0 : Int) by funext r'; rw [if_neg (by omega)]]
    rfl
  rw [show (fun l' => (List.range 16).map fun r' => if l' < 0 ∨ (l' = 0 ∧ r' < 0) then (seenC n l' r' : Int) else 0) = fun _ => List.replicate 16 (0 : Int) by funext l'; exact e l']
  rfl
theorem getD_ext (xs ys : List Int) (hl : xs.length = ys.length) (h : ∀ i, i < xs.length → xs.getD i 0 = ys.getD i 0) : xs = ys := by
  apply List.ext_getElem hl
  intro i h1 h2
  have := h i h1
  rw [List.getD_eq_getElem?_getD, List.getD_eq_getElem?_getD, List.getElem?_eq_getElem h1, List.getElem?_eq_getElem h2] at this
  exact this
theorem prtT_set (n l r : Nat) (hl : l < 16) (hr : r < 16) : (prtT n l r).set l (((prtT n l r).getD l []).set r (seenC n l r : Int)) = prtT n l (r + 1) := by
  apply List.ext_getElem (by simp [prtT_len])
  intro i h1 h2
  have hi : i < 16 := by simpa [prtT_len] using h2
  have e : (prtT n l (r + 1))[i] = (prtT n l (r + 1)).getD i [] := by rw [List.getD_eq_getElem?_getD, List.getElem?_eq_getElem h2]; rfl
  refine Eq.trans ?_ e.symm
  clear e
  by_cases c : l = i
  · subst c
    rw [List.getElem_set_self]
    apply getD_ext _ _ (by rw [List.length_set, prtT_row_len _ _ _ _ hi, prtT_row_len _ _ _ _ hi])
    intro j hj
    rw [List.length_set, prtT_row_len _ _ _ _ hi] at hj
    rw [prtT_rd _ _ _ _ _ hi hj]
    by_cases d : r = j
    · subst d
      rw [List.getD_eq_getElem?_getD, List.getElem?_set_self (by rw [prtT_row_len _ _ _ _ hi]; exact hj), if_pos (by omega)]; rfl
    · rw [List.getD_eq_getElem?_getD, List.getElem?_set_ne d, ← List.getD_eq_getElem?_getD, prtT_rd _ _ _ _ _ hi hj]
      by_cases k : j < r
      · rw [if_pos (by omega), if_pos (by omega)]
      · rw [if_neg (by omega), if_neg (by omega)]
  · rw [List.getElem_set_ne c]
    have e2 : (prtT n l r)[i]'(by rw [prtT_len]; exact hi) = (prtT n l r).getD i [] := by rw [List.getD_eq_getElem?_getD, List.getElem?_eq_getElem (by rw [prtT_len]; exact hi)]; rfl
    refine e2.trans ?_
    rw [prtT_row _ _ _ _ hi, prtT_row _ _ _ _ hi]
    refine List.map_congr_left (fun j _ => ?_)
    by_cases k : i < l
    · rw [if_pos (by omega), if_pos (by omega)]
    · rw [if_neg (by omega), if_neg (by omega)]
/-- The whole table. -/
def tabT (n : Nat) : List (List Int) := prtT n 16 0
theorem tabT_rd (n i j : Nat) (h : i < 16) (hj : j < 16) : ((tabT n).getD i []).getD j 0 = (seenC n i j : Int) := by
  unfold tabT; rw [prtT_rd _ _ _ _ _ h hj, if_pos (by omega)]
theorem tabT_one : (List.replicate 16 (List.replicate 16 (0 : Int))).set 1 ((List.replicate 16 (0 : Int)).set 1 1) = tabT 0 := by decide
theorem seenC_step (n l r : Nat) (hl : 1 ≤ l) (hr : 1 ≤ r) : (seenC (n + 1) l r : Int) = (seenC n l r : Int) * (n : Int) + ((seenC n (l - 1) r : Int) + (seenC n l (r - 1) : Int)) := by
  rw [seenC, if_neg (by omega)]
  have := Int.mul_comm (seenC n l r : Int) (n : Int)
  omega
theorem seenC_mul (n l r k : Nat) (h : n ≤ 14) (hk : k ≤ 14) : seenC n l r * k ≤ 20000000000000 :=
  Nat.le_trans (Nat.mul_le_mul (seenC_bound n l r h) hk) (by decide)
end Go.Proofs.Ytleacijhpkogpac.HPlain
