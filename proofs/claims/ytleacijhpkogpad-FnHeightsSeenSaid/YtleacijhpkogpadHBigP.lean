/- Plain laws of heights for the law on who is seen: who is seen is taller than all before, next taller ones are the nearest, pairs have all between them shorter, mirrored rows are seen from behind: lists alone, no program. -/
import Derived.Test.YtleacijhpkogpadHSFL
import Derived.Test.YtleacijhpkogpadHTW
import Derived.Test.YtleacijhpkogpadPFnHeightsSeenx24
import Derived.Test.YtleacijhpkogpadPFnHeightsSeenx25
import Derived.Test.YtleacijhpkogpadPFnHeightsSeenx27
import Derived.Test.YtleacijhpkogpadPFnHeightsSeenx28
import Derived.Test.YtleacijhpkogpadPFnHeightsSeenx29
import Derived.Test.YtleacijhpkogpadPFnHeightsSeenx30
import Derived.WalkKit
import Derived.Test.YtleacijhpkogpadHClone
import Derived.Deep.QuietTactic
namespace Go.Proofs.Ytleacijhpkogpad.HBigP
open Go.RowKit Go.Proofs.YtleacijhpkogpadW.PrintWords Go.Proofs.YtleacijhpkogpadW.PrintLast Go.Proofs.YtleacijhpkogpadW.PrintMore Go.Proofs.Ytleacijhpkogpad.HImpl Go.Proofs.Ytleacijhpkogpad.HSpecG Go.Proofs.Ytleacijhpkogpad.HSeen Go.Proofs.Ytleacijhpkogpad.HMax Go.Proofs.Ytleacijhpkogpad.HPairs Go.Proofs.Ytleacijhpkogpad.HNext
set_option linter.unusedVariables false
set_option linter.unusedSimpArgs false

/-! the greatest -/
theorem maxL_lt : ∀ (l : List Int) (m b : Int), maxL l m < b ↔ m < b ∧ ∀ x ∈ l, x < b
  | [], m, b => by simp [maxL]
  | h :: t, m, b => by
    rw [maxL, maxL_lt t]
    constructor
    · rintro ⟨h1, h2⟩
      refine ⟨by split at h1 <;> omega, fun x hx => ?_⟩
      rcases List.mem_cons.1 hx with rfl | hx
      · split at h1 <;> omega
      · exact h2 x hx
    · rintro ⟨h1, h2⟩
      have h3 := h2 h (List.mem_cons_self ..)
      exact ⟨by split <;> omega, fun x hx => h2 x (List.mem_cons_of_mem _ hx)⟩
theorem maxL_le (l : List Int) (m b : Int) : maxL l m ≤ b ↔ m ≤ b ∧ ∀ x ∈ l, x ≤ b := by
  have h := maxL_lt l m (b + 1)
  constructor
  · intro h1
    have h2 := h.1 (by omega)
    exact ⟨by omega, fun x hx => by have := h2.2 x hx; omega⟩
  · rintro ⟨h1, h2⟩
    have := h.2 ⟨by omega, fun x hx => by have := h2 x hx; omega⟩
    omega
theorem maxL_ge (l : List Int) (m : Int) : m ≤ maxL l m := ((maxL_le l m _).1 (Int.le_refl _)).1
theorem maxL_mem (l : List Int) (m x : Int) (h : x ∈ l) : x ≤ maxL l m := ((maxL_le l m _).1 (Int.le_refl _)).2 x h
theorem max_is (m x : Int) : (if m < x then x else m) = if m > x then m else x := by
  split <;> split <;> omega

/-! who is seen -/
theorem seenR_mem : ∀ (t : List Int) (i : Nat) (m x : Int), x ∈ seenR t i m ↔ ∃ j : Nat, x = ((i + j : Nat) : Int) ∧ ∃ h, t[j]? = some h ∧ maxL (t.take j) m < h
  | [], i, m, x => by simp [seenR]
  | h :: t, i, m, x => by
    have hs : (∃ j : Nat, x = ((i + j : Nat) : Int) ∧ ∃ h', (h :: t)[j]? = some h' ∧ maxL ((h :: t).take j) m < h') ↔ (x = (i : Int) ∧ m < h) ∨ ∃ j : Nat, x = ((i + 1 + j : Nat) : Int) ∧ ∃ h', t[j]? = some h' ∧ maxL (t.take j) (if m > h then m else h) < h' := by
      constructor
      · rintro ⟨j, h1, h', h2, h3⟩
        cases j with
        | zero =>
          simp only [List.getElem?_cons_zero, Option.some.injEq] at h2
          subst h2
          exact .inl ⟨by simpa using h1, by simpa [maxL] using h3⟩
        | succ j => exact .inr ⟨j, by rw [h1]; omega, h', by simpa using h2, by simpa [maxL] using h3⟩
      · rintro (⟨h1, h2⟩ | ⟨j, h1, h', h2, h3⟩)
        · exact ⟨0, by simpa using h1, h, by simp, by simpa [maxL] using h2⟩
        · exact ⟨j + 1, by rw [h1]; omega, h', by simpa using h2, by simpa [maxL] using h3⟩
    rw [hs, seenR]
    by_cases c : h > m
    · rw [if_pos c, List.mem_cons, seenR_mem t (i + 1) h x, if_neg (by omega)]
      have : m < h := c
      simp [this]
    · rw [if_neg c, seenR_mem t (i + 1) m x]
      have hn : ¬ m < h := by omega
      have e : (if m > h then m else h) = m := by split <;> omega
      rw [e]; simp [hn]
theorem seenR_lt : ∀ (t : List Int) (i : Nat) (m : Int), (seenR t i m).Pairwise (· < ·)
  | [], _, _ => List.Pairwise.nil
  | h :: t, i, m => by
    rw [seenR]
    split
    · rw [List.pairwise_cons]
      refine ⟨fun x hx => ?_, seenR_lt t (i + 1) h⟩
      obtain ⟨j, rfl, _⟩ := (seenR_mem _ _ _ _).1 hx
      omega
    · exact seenR_lt t (i + 1) m
theorem seenR_last : ∀ (t : List Int) (i : Nat) (m : Int), (seenR t i m = [] ∧ maxL t m = m) ∨ ∃ j : Nat, (seenR t i m).getLast? = some ((i + j : Nat) : Int) ∧ t[j]? = some (maxL t m)
  | [], _, _ => .inl ⟨rfl, rfl⟩
  | h :: t, i, m => by
    rw [seenR, maxL]
    by_cases c : h > m
    · rw [if_pos c, if_neg (by omega)]
      refine .inr ?_
      rcases seenR_last t (i + 1) h with ⟨h1, h2⟩ | ⟨j, h1, h2⟩
      · exact ⟨0, by rw [h1]; rfl, by rw [h2]; rfl⟩
      · refine ⟨j + 1, ?_, by simpa using h2⟩
        rw [List.getLast?_cons, h1, show i + 1 + j = i + (j + 1) by omega]; rfl
    · rw [if_neg c, show (if m > h then m else h) = m by split <;> omega]
      rcases seenR_last t (i + 1) m with ⟨h1, h2⟩ | ⟨j, h1, h2⟩
      · exact .inl ⟨h1, h2⟩
      · exact .inr ⟨j + 1, by rw [h1, show i + 1 + j = i + (j + 1) by omega], by simpa using h2⟩
theorem rd_some {l : List Int} {j : Nat} {x : Int} (h : l[j]? = some x) : rd l (j : Int) = x := by
  obtain ⟨hlt, rfl⟩ := List.getElem?_eq_some_iff.1 h
  exact rd_nat l j hlt
theorem some_rd {l : List Int} {j : Nat} (h : j < l.length) : l[j]? = some (rd l (j : Int)) := by
  rw [rd_nat l j h]; exact List.getElem?_eq_getElem h
theorem getLast_rd {l : List Int} {x : Int} (h : l.getLast? = some x) : 0 < l.length ∧ rd l ((l.length : Int) - 1) = x := by
  have h1 : 0 < l.length := by
    cases l with
    | nil => cases h
    | cons a t => simp
  refine ⟨h1, ?_⟩
  rw [List.getLast?_eq_getElem?] at h
  have := rd_some h
  rw [show ((l.length : Int) - 1) = ((l.length - 1 : Nat) : Int) by omega]
  exact this
/-- What is told of those who are seen: some are, the first one first, the last one the tallest. -/
theorem seen_facts (l : List Int) (h1 : 1 ≤ l.length) (hp : ∀ x ∈ l, 1 ≤ x) : 0 < (seenR l 0 0).length ∧ rd (seenR l 0 0) 0 = 0 ∧
    ∃ j : Nat, j < l.length ∧ rd (seenR l 0 0) (((seenR l 0 0).length : Int) - 1) = (j : Int) ∧ rd l (j : Int) = maxL l 0 := by
  match l, h1 with
  | a :: t, _ =>
    have ha := hp a (List.mem_cons_self ..)
    have e : seenR (a :: t) 0 0 = ((0 : Nat) : Int) :: seenR t 1 a := by rw [seenR, if_pos (by omega)]
    rcases seenR_last (a :: t) 0 0 with ⟨h2, _⟩ | ⟨j, h2, h3⟩
    · rw [e] at h2; cases h2
    · have h4 := getLast_rd h2
      refine ⟨h4.1, by rw [e]; rfl, j, ?_, by rw [h4.2, Nat.zero_add], rd_some h3⟩
      exact (List.getElem?_eq_some_iff.1 h3).1
theorem seen_has (l : List Int) (i : Nat) (hi : i < l.length) : (i : Int) ∈ seenR l 0 0 ↔ maxL (l.take i) 0 < rd l (i : Int) := by
  rw [seenR_mem]
  constructor
  · rintro ⟨j, h1, h, h2, h3⟩
    obtain rfl : j = i := by omega
    rw [rd_some h2]; exact h3
  · intro h
    exact ⟨i, by omega, _, some_rd hi, h⟩
theorem seen_in (l : List Int) (x : Int) (h : x ∈ seenR l 0 0) : 0 ≤ x ∧ x < (l.length : Int) := by
  obtain ⟨j, rfl, _, h2, _⟩ := (seenR_mem _ _ _ _).1 h
  have := (List.getElem?_eq_some_iff.1 h2).1
  omega
theorem rightMap_is (n : Nat) (x : Int) (hn : n ≤ 1048576) (h0 : 0 ≤ x) (h1 : x < (n : Int)) : rightMap n x = (n : Int) - 1 - x := by
  unfold rightMap wrap64; omega
theorem rd_in {l : List Int} {i : Int} (h0 : 0 ≤ i) (h1 : i < (l.length : Int)) : rd l i ∈ l := by
  obtain ⟨j, rfl⟩ := Int.eq_ofNat_of_zero_le h0
  rw [rd_nat l j (by omega)]
  exact List.getElem_mem _
theorem right_rd (l : List Int) (hl : l.length ≤ 1048576) (i : Nat) (hi : i < (seenR l.reverse 0 0).length) :
    rd (rightL l) (((rightL l).length : Int) - 1 - (i : Int)) = (l.length : Int) - 1 - rd (seenR l.reverse 0 0) (i : Int) := by
  have hm := seen_in l.reverse (rd (seenR l.reverse 0 0) (i : Int)) (rd_in (by omega) (by omega))
  rw [List.length_reverse] at hm
  rw [← rightMap_is l.length _ hl hm.1 hm.2, rightL_len, show (((seenR l.reverse 0 0).length : Int) - 1 - (i : Int)) = (((seenR l.reverse 0 0).length - 1 - i : Nat) : Int) by omega]
  refine rd_some ?_
  unfold rightL
  rw [List.getElem?_map, List.getElem?_reverse (by omega), show (seenR l.reverse 0 0).length - 1 - ((seenR l.reverse 0 0).length - 1 - i) = i by omega, some_rd hi]
  rfl
theorem right_lt (l : List Int) (hl : l.length ≤ 1048576) : (rightL l).Pairwise (· < ·) := by
  have h := seenR_lt l.reverse 0 0
  have hm := fun x hx => seen_in l.reverse x hx
  simp only [List.length_reverse] at hm
  unfold rightL
  rw [List.pairwise_map, List.pairwise_reverse]
  refine h.imp_of_mem (fun {a b} ha hb hab => ?_)
  rw [rightMap_is _ _ hl (hm a ha).1 (hm a ha).2, rightMap_is _ _ hl (hm b hb).1 (hm b hb).2]
  omega
/-- .. and of those who are seen from the right: the last one last, the first one the tallest. -/
theorem right_facts (l : List Int) (h1 : 1 ≤ l.length) (hl : l.length ≤ 1048576) (hp : ∀ x ∈ l, 1 ≤ x) : 0 < (rightL l).length ∧ rd (rightL l) (((rightL l).length : Int) - 1) = (l.length : Int) - 1 ∧
    ∃ j : Nat, j < l.length ∧ rd (rightL l) 0 = (j : Int) ∧ rd l (j : Int) = maxL l 0 := by
  obtain ⟨h2, h3, j, h4, h5, h6⟩ := seen_facts l.reverse (by simpa using h1) (fun x hx => hp x (List.mem_reverse.1 hx))
  rw [List.length_reverse] at h4
  have e1 := right_rd l hl 0 h2
  have e2 := right_rd l hl ((seenR l.reverse 0 0).length - 1) (by omega)
  rw [show ((0 : Nat) : Int) = 0 by rfl, h3] at e1
  rw [rightL_len, show (((seenR l.reverse 0 0).length : Int) - 1 - (((seenR l.reverse 0 0).length - 1 : Nat) : Int)) = 0 by omega, show ((((seenR l.reverse 0 0).length - 1 : Nat)) : Int) = ((seenR l.reverse 0 0).length : Int) - 1 by omega, h5] at e2
  refine ⟨by rw [rightL_len]; exact h2, by rw [← Int.sub_zero ((l.length : Int) - 1), ← e1]; simp, l.length - 1 - j, by omega, by rw [e2]; omega, ?_⟩
  have e3 : rd l.reverse (j : Int) = rd l ((l.length - 1 - j : Nat) : Int) := by
    refine rd_some ?_
    rw [List.getElem?_reverse h4]
    exact some_rd (by omega)
  rw [← e3, h6]
  have hle : ∀ b, maxL l.reverse 0 ≤ b ↔ maxL l 0 ≤ b := fun b => by rw [maxL_le, maxL_le]; simp
  have a1 := (hle (maxL l 0)).2 (Int.le_refl _)
  have a2 := (hle (maxL l.reverse 0)).1 (Int.le_refl _)
  omega

/-! the next taller ones -/
theorem idx_facts (p : Int → Bool) : ∀ (t : List Int) (a : Int), 0 ≤ a → (idxF p t a = -1 ∧ ∀ x ∈ t, p x = false) ∨ ∃ j : Nat, j < t.length ∧ idxF p t a = a + (j : Int) ∧ p (rd t (j : Int)) = true ∧ ∀ x ∈ t.take j, p x = false
  | [], a, h => .inl ⟨rfl, fun x hx => by cases hx⟩
  | x :: xs, a, h => by
    by_cases hx : p x = true
    · exact .inr ⟨0, by simp, by simp [idxF, hx], hx, fun y hy => by simp at hy⟩
    · have e : idxF p (x :: xs) a = idxF p xs (a + 1) := by simp [idxF, hx]
      have hf : p x = false := by simpa using hx
      rw [e]
      rcases idx_facts p xs (a + 1) (by omega) with ⟨h1, h2⟩ | ⟨j, h1, h2, h3, h4⟩
      · refine .inl ⟨h1, fun y hy => ?_⟩
        rcases List.mem_cons.1 hy with rfl | hy
        · exact hf
        · exact h2 y hy
      · refine .inr ⟨j + 1, by simp; omega, by rw [h2]; omega, ?_, fun y hy => ?_⟩
        · have : rd (x :: xs) ((j + 1 : Nat) : Int) = rd xs (j : Int) := rd_some (by rw [List.getElem?_cons_succ]; exact some_rd h1)
          rw [this]; exact h3
        · rw [List.take_succ_cons] at hy
          rcases List.mem_cons.1 hy with rfl | hy
          · exact hf
          · exact h4 y hy
/-- The one that next taller is told for a soldier: none, or the nearest. -/
theorem next_facts (l : List Int) (hl : l.length ≤ 1048576) (i : Nat) (hi : i < l.length) (h0 : 0 ≤ rd l (i : Int)) :
    (ntAt l i = -1 ∧ maxL (l.drop i) 0 ≤ rd l (i : Int)) ∨ ∃ k : Nat, ntAt l i = (k : Int) ∧ i < k ∧ k < l.length ∧ rd l (i : Int) < rd l (k : Int) ∧ maxL ((l.take k).drop i) 0 ≤ rd l (i : Int) := by
  have hd : l.drop i = rd l (i : Int) :: l.drop (i + 1) := HSeen.drop_cons l i hi
  unfold ntAt
  rcases idx_facts (fun o => decide (rd l (i : Int) < o)) (l.drop i) 0 (Int.le_refl 0) with ⟨h1, h2⟩ | ⟨j, h1, h2, h3, h4⟩
  · rw [h1, if_neg (by omega)]
    refine .inl ⟨rfl, (maxL_le _ _ _).2 ⟨h0, fun x hx => ?_⟩⟩
    have := of_decide_eq_false (h2 x hx)
    omega
  · rw [List.length_drop] at h1
    rw [h2, if_pos (by omega)]
    have e3 : rd (l.drop i) (j : Int) = rd l ((i + j : Nat) : Int) := rd_some (by rw [List.getElem?_drop]; exact some_rd (by omega))
    rw [e3] at h3
    have h5 := of_decide_eq_true h3
    refine .inr ⟨i + j, by unfold wrap64; omega, ?_, by omega, h5, (maxL_le _ _ _).2 ⟨h0, fun x hx => ?_⟩⟩
    · cases j with
      | zero => rw [Nat.add_zero] at h5; omega
      | succ j => omega
    · rw [List.drop_take, show i + j - i = j by omega] at hx
      have := of_decide_eq_false (h4 x hx)
      omega

/-! pairs who see each other -/
theorem prJ_mem (h : Int) (i : Nat) : ∀ (t : List Int) (j : Nat) (m : Int) (p : List Int), p ∈ prJ h i t j m → ∃ q : Nat, q < t.length ∧ p = [(i : Int), ((j + q : Nat) : Int)] ∧ maxL (t.take q) m < h ∧ maxL (t.take q) m < rd t (q : Int)
  | [], _, _, p, hp => by simp [prJ] at hp
  | x :: t, j, m, p, hp => by
    rw [prJ, List.mem_append] at hp
    rcases hp with hp | hp
    · split at hp
      · rename_i c
        refine ⟨0, by simp, by simpa using hp, by simpa [maxL] using c.1, ?_⟩
        exact c.2
      · cases hp
    · obtain ⟨q, h1, h2, h3, h4⟩ := prJ_mem h i t (j + 1) _ p hp
      have e : rd (x :: t) ((q + 1 : Nat) : Int) = rd t (q : Int) := rd_some (by rw [List.getElem?_cons_succ]; exact some_rd h1)
      rw [max_is] at h3 h4
      exact ⟨q + 1, by simp; omega, by rw [h2, show j + 1 + q = j + (q + 1) by omega], by rw [List.take_succ_cons, maxL]; exact h3, by rw [List.take_succ_cons, maxL, e]; exact h4⟩
theorem prI_mem (l : List Int) : ∀ (d i : Nat) (p : List Int), p ∈ prI l d i ↔ ∃ k : Nat, i ≤ k ∧ k < i + d ∧ p ∈ prJ (rd l (k : Int)) k (l.drop (k + 1)) (k + 1) 0
  | 0, i, p => by
    simp only [prI, List.not_mem_nil, false_iff]
    rintro ⟨k, h1, h2, _⟩
    omega
  | d + 1, i, p => by
    rw [prI, List.mem_append, prI_mem l d (i + 1)]
    constructor
    · rintro (h | ⟨k, h1, h2, h3⟩)
      · exact ⟨i, Nat.le_refl _, by omega, h⟩
      · exact ⟨k, by omega, by omega, h3⟩
    · rintro ⟨k, h1, h2, h3⟩
      by_cases c : k = i
      · subst c; exact .inl h3
      · exact .inr ⟨k, by omega, by omega, h3⟩
theorem pairs_facts (l : List Int) (p : List Int) (hp : p ∈ pairsL l) : ∃ i j : Nat, p = [(i : Int), (j : Int)] ∧ i < j ∧ j < l.length ∧ maxL ((l.take j).drop (i + 1)) 0 < rd l (i : Int) ∧ maxL ((l.take j).drop (i + 1)) 0 < rd l (j : Int) := by
  obtain ⟨i, h1, h2, h3⟩ := (prI_mem l l.length 0 p).1 hp
  obtain ⟨q, h4, h5, h6, h7⟩ := prJ_mem _ _ _ _ _ _ h3
  rw [List.length_drop] at h4
  have e : (l.take (i + 1 + q)).drop (i + 1) = (l.drop (i + 1)).take q := by rw [List.drop_take, show i + 1 + q - (i + 1) = q by omega]
  have e2 : rd (l.drop (i + 1)) (q : Int) = rd l ((i + 1 + q : Nat) : Int) := rd_some (by rw [List.getElem?_drop]; exact some_rd (by omega))
  exact ⟨i, i + 1 + q, h5, by omega, by omega, by rw [e]; exact h6, by rw [e, ← e2]; exact h7⟩
theorem pairs_next (l : List Int) (i : Nat) (hi : i + 1 < l.length) (hp : ∀ x ∈ l, 1 ≤ x) : [(i : Int), ((i + 1 : Nat) : Int)] ∈ pairsL l := by
  refine (prI_mem l l.length 0 _).2 ⟨i, by omega, by omega, ?_⟩
  have a1 := hp _ (rd_in (l := l) (i := (i : Int)) (by omega) (by omega))
  have a2 := hp _ (rd_in (l := l) (i := ((i + 1 : Nat) : Int)) (by omega) (by omega))
  rw [HSeen.drop_cons l (i + 1) hi, prJ, if_pos (by omega)]
  simp

/-! the mirrored heights -/
theorem good_reverse (l : List Int) (h : good l = true) : good l.reverse = true := by
  unfold good at h ⊢
  simpa using h
end Go.Proofs.Ytleacijhpkogpad.HBigP
/- The small functions of the laws on heights: contracts over their printed walks. -/
namespace Go.Proofs.Ytleacijhpkogpad.HLawV
open Go.RowKit Go.Proofs.YtleacijhpkogpadW.PrintWords Go.Proofs.YtleacijhpkogpadW.PrintLast Go.Proofs.YtleacijhpkogpadW.PrintMore Go.Proofs.Ytleacijhpkogpad.PFnHeightsSeen
set_option linter.unusedVariables false
set_option linter.unusedSimpArgs false

theorem w1 (i : Nat) (h : i ≤ 4611686018427387904) : wrap64 ((i : Int) + 1) = ((i + 1 : Nat) : Int) := by unfold wrap64; omega
theorem wm1 (i : Nat) (h : i ≤ 4611686018427387904) : wrap64 (((i + 1 : Nat) : Int) - 1) = (i : Int) := by unfold wrap64; omega
theorem rd_nat (l : List Int) (i : Nat) (h : i < l.length) : rd l (i : Int) = l[i] := by
  simp [rd, List.getD_eq_getElem?_getD, List.getElem?_eq_getElem h]
theorem drop_cons (l : List Int) (i : Nat) (h : i < l.length) : l.drop i = rd l (i : Int) :: l.drop (i + 1) := by
  rw [List.drop_eq_getElem_cons h, rd_nat l i h]
theorem same_loop (l : List Int) (hl : l.length ≤ 1048576) : ∀ (d i : Nat), i + d = l.length → Ev (fun k => laws_vSame.l0 k l l (l.length : Int) (i : Int)) true := by
  intro d
  induction d with
  | zero =>
    intro i hi
    refine Ev.step (f := fun _ => some true) (fun k => ?_) (Ev.now _)
    simp only [laws_vSame.l0]
    rw [if_neg (by omega)]
  | succ d ih =>
    intro i hi
    refine Ev.step (f := fun k => laws_vSame.l0 k l l (l.length : Int) ((i + 1 : Nat) : Int)) (fun k => ?_) (ih (i + 1) (by omega))
    simp only [laws_vSame.l0]
    rw [if_pos (by omega), if_pos (by omega), if_pos (by omega), if_pos (by omega), if_pos trivial, w1 i (by omega)]
theorem same_yes (A0 : Option Addr) (c0 : Nat) (A1 : Option Addr) (c1 : Nat) (l : List Int) (hl : l.length ≤ 1048576) (w : World) (h0 : Kd.C (Kd.int .i64) w A0 l.length l) (hc0 : l.length ≤ c0) (h1 : Kd.C (Kd.int .i64) w A1 l.length l) (hc1 : l.length ≤ c1) :
    Calls Try.prog 17 #[.slice A0 l.length c0, .slice A1 l.length c1] w fun e w' => e = .returned (.bool true) ∧ Drawn0 w w' := by
  have h : Ev (fun k => laws_vSame.f k l l) true := by
    refine Ev.congr (f := fun k => laws_vSame.l0 k l l (l.length : Int) ((0 : Nat) : Int)) (fun k => ?_) (same_loop l hl l.length 0 (by omega))
    simp only [laws_vSame.f]
    rw [if_pos trivial]
    rfl
  obtain ⟨k, hk⟩ := h.rounds
  exact laws_vSame.calls k A0 c0 l A1 c1 l _ w h0 hc0 h1 hc1 hk
theorem rises_loop (l : List Int) (hl : l.length ≤ 1048576) (hp : l.Pairwise (· < ·)) : ∀ (d i : Nat), i + 1 + d = l.length → Ev (fun k => laws_vRises.l0 k l ((i + 1 : Nat) : Int)) true := by
  intro d
  induction d with
  | zero =>
    intro i hi
    refine Ev.step (f := fun _ => some true) (fun k => ?_) (Ev.now _)
    simp only [laws_vRises.l0]
    rw [if_neg (by omega)]
  | succ d ih =>
    intro i hi
    have hlt := List.pairwise_iff_getElem.1 hp i (i + 1) (by omega) (by omega) (by omega)
    rw [← rd_nat l i (by omega), ← rd_nat l (i + 1) (by omega)] at hlt
    refine Ev.step (f := fun k => laws_vRises.l0 k l ((i + 1 + 1 : Nat) : Int)) (fun k => ?_) (ih (i + 1) (by omega))
    simp only [laws_vRises.l0]
    rw [wm1 i (by omega), if_pos (by omega), if_pos (by omega), if_pos (by omega), if_pos (by omega), if_neg (by omega), w1 (i + 1) (by omega)]
theorem rises_yes (A0 : Option Addr) (c0 : Nat) (l : List Int) (hl : l.length ≤ 1048576) (hp : l.Pairwise (· < ·)) (w : World) (h0 : Kd.C (Kd.int .i64) w A0 l.length l) (hc0 : l.length ≤ c0) :
    Calls Try.prog 21 #[.slice A0 l.length c0] w fun e w' => e = .returned (.bool true) ∧ Drawn0 w w' := by
  have h : Ev (fun k => laws_vRises.f k l) true := by
    cases l with
    | nil =>
      refine Ev.step (f := fun _ => some true) (fun k => ?_) (Ev.now _)
      simp only [laws_vRises.f, laws_vRises.l0]
      rw [if_neg (by simp)]
    | cons a t => exact rises_loop (a :: t) hl hp t.length 0 (by simp; omega)
  obtain ⟨k, hk⟩ := h.rounds
  exact laws_vRises.calls k A0 c0 l _ w h0 hc0 hk
theorem has_loop (l : List Int) (x : Int) (hl : l.length ≤ 1048576) : ∀ (d i : Nat), i + d = l.length → Ev (fun k => laws_vHas.l0 k x l (l.length : Int) (i : Int)) (decide (x ∈ l.drop i)) := by
  intro d
  induction d with
  | zero =>
    intro i hi
    rw [List.drop_eq_nil_of_le (by omega), decide_eq_false (by simp)]
    refine Ev.step (f := fun _ => some false) (fun k => ?_) (Ev.now _)
    simp only [laws_vHas.l0]
    rw [if_neg (by omega)]
  | succ d ih =>
    intro i hi
    have hlt : i < l.length := by omega
    rw [drop_cons l i hlt]
    by_cases c : rd l (i : Int) = x
    · rw [decide_eq_true (show x ∈ rd l (i : Int) :: l.drop (i + 1) by rw [c]; exact List.mem_cons_self ..)]
      refine Ev.step (f := fun _ => some true) (fun k => ?_) (Ev.now _)
      simp only [laws_vHas.l0]
      rw [if_pos (by omega), if_pos (by omega), if_pos (by omega), if_pos c]
    · have e : decide (x ∈ rd l (i : Int) :: l.drop (i + 1)) = decide (x ∈ l.drop (i + 1)) := by
        rw [decide_eq_decide, List.mem_cons]
        constructor
        · rintro (h | h)
          · exact absurd h.symm c
          · exact h
        · exact .inr
      rw [e]
      refine Ev.step (f := fun k => laws_vHas.l0 k x l (l.length : Int) ((i + 1 : Nat) : Int)) (fun k => ?_) (ih (i + 1) (by omega))
      simp only [laws_vHas.l0]
      rw [if_pos (by omega), if_pos (by omega), if_pos (by omega), if_neg c, w1 i (by omega)]
theorem has_is (A0 : Option Addr) (c0 : Nat) (l : List Int) (x : Int) (b : Bool) (hb : decide (x ∈ l) = b) (hl : l.length ≤ 1048576) (w : World) (h0 : Kd.C (Kd.int .i64) w A0 l.length l) (hc0 : l.length ≤ c0) :
    Calls Try.prog 23 #[.slice A0 l.length c0, .int .i64 x] w fun e w' => e = .returned (.bool b) ∧ Drawn0 w w' := by
  subst hb
  have h : Ev (fun k => laws_vHas.f k l x) (decide (x ∈ l)) := by
    have := has_loop l x hl l.length 0 (by omega)
    rw [List.drop_zero] at this
    exact this
  obtain ⟨k, hk⟩ := h.rounds
  exact laws_vHas.calls k A0 c0 l x _ w h0 hc0 hk
theorem most_loop (l : List Int) (hl : l.length ≤ 1048576) : ∀ (d i : Nat) (m : Int), i + d = l.length → Ev (fun k => laws_vMost.l0 k m l (l.length : Int) (i : Int)) (HMax.maxL (l.drop i) m) := by
  intro d
  induction d with
  | zero =>
    intro i m hi
    rw [List.drop_eq_nil_of_le (by omega), HMax.maxL]
    refine Ev.step (f := fun _ => some m) (fun k => ?_) (Ev.now _)
    simp only [laws_vMost.l0]
    rw [if_neg (by omega)]
  | succ d ih =>
    intro i m hi
    have hlt : i < l.length := by omega
    rw [drop_cons l i hlt, HMax.maxL]
    by_cases c : rd l (i : Int) > m
    · rw [if_neg (by omega)]
      refine Ev.step (f := fun k => laws_vMost.l0 k (rd l (i : Int)) l (l.length : Int) ((i + 1 : Nat) : Int)) (fun k => ?_) (ih (i + 1) _ (by omega))
      simp only [laws_vMost.l0]
      rw [if_pos (by omega), if_pos (by omega), if_pos (by omega), if_pos c, w1 i (by omega)]
    · have e : (if m > rd l (i : Int) then m else rd l (i : Int)) = m := by split <;> omega
      rw [e]
      refine Ev.step (f := fun k => laws_vMost.l0 k m l (l.length : Int) ((i + 1 : Nat) : Int)) (fun k => ?_) (ih (i + 1) _ (by omega))
      simp only [laws_vMost.l0]
      rw [if_pos (by omega), if_pos (by omega), if_pos (by omega), if_neg c, w1 i (by omega)]
theorem most_is (A0 : Option Addr) (c0 : Nat) (l : List Int) (hl : l.length ≤ 1048576) (w : World) (h0 : Kd.C (Kd.int .i64) w A0 l.length l) (hc0 : l.length ≤ c0) :
    Calls Try.prog 22 #[.slice A0 l.length c0] w fun e w' => e = .returned (.int .i64 (HMax.maxL l 0)) ∧ Drawn0 w w' := by
  have h : Ev (fun k => laws_vMost.f k l) (HMax.maxL l 0) := most_loop l hl l.length 0 0 (by omega)
  obtain ⟨k, hk⟩ := h.rounds
  exact laws_vMost.calls k A0 c0 l _ w h0 hc0 hk
theorem same_ev (l : List Int) (hl : l.length ≤ 1048576) : Ev (fun k => laws_vSame.f k l l) true := by
  refine Ev.congr (f := fun k => laws_vSame.l0 k l l (l.length : Int) ((0 : Nat) : Int)) (fun k => ?_) (same_loop l hl l.length 0 (by omega))
  simp only [laws_vSame.f]
  rw [if_pos trivial]
  rfl
theorem same_dec (a b : List Int) (hl : a.length ≤ 1048576) (hab : a.length = b.length) : ∀ (d i : Nat), i + d = a.length → Ev (fun k => laws_vSame.l0 k a b (a.length : Int) (i : Int)) (decide (a.drop i = b.drop i)) := by
  intro d
  induction d with
  | zero =>
    intro i hi
    rw [List.drop_eq_nil_of_le (by omega), List.drop_eq_nil_of_le (by omega), decide_eq_true rfl]
    refine Ev.step (f := fun _ => some true) (fun k => ?_) (Ev.now _)
    simp only [laws_vSame.l0]
    rw [if_neg (by omega)]
  | succ d ih =>
    intro i hi
    rw [drop_cons a i (by omega), drop_cons b i (by omega)]
    by_cases c : rd a (i : Int) = rd b (i : Int)
    · have e : decide (rd a (i : Int) :: a.drop (i + 1) = rd b (i : Int) :: b.drop (i + 1)) = decide (a.drop (i + 1) = b.drop (i + 1)) := by
        rw [decide_eq_decide, c]; simp
      rw [e]
      refine Ev.step (f := fun k => laws_vSame.l0 k a b (a.length : Int) ((i + 1 : Nat) : Int)) (fun k => ?_) (ih (i + 1) (by omega))
      simp only [laws_vSame.l0]
      rw [if_pos (by omega), if_pos (by omega), if_pos (by omega), if_pos (by omega), if_pos c, w1 i (by omega)]
    · have e : decide (rd a (i : Int) :: a.drop (i + 1) = rd b (i : Int) :: b.drop (i + 1)) = false := by
        rw [decide_eq_false_iff_not, List.cons.injEq]; exact fun h => c h.1
      rw [e]
      refine Ev.step (f := fun _ => some false) (fun k => ?_) (Ev.now _)
      simp only [laws_vSame.l0]
      rw [if_pos (by omega), if_pos (by omega), if_pos (by omega), if_pos (by omega), if_neg c]
theorem same_dec_ev (a b : List Int) (hl : a.length ≤ 1048576) : Ev (fun k => laws_vSame.f k a b) (decide (a = b)) := by
  by_cases hab : a.length = b.length
  · have h := same_dec a b hl hab a.length 0 (by omega)
    rw [List.drop_zero, List.drop_zero] at h
    refine Ev.congr (f := fun k => laws_vSame.l0 k a b (a.length : Int) ((0 : Nat) : Int)) (fun k => ?_) h
    simp only [laws_vSame.f]
    rw [if_pos (by omega)]
    rfl
  · rw [decide_eq_false (fun e => hab (by rw [e]))]
    refine Ev.congr (f := fun _ => some false) (fun k => ?_) (Ev.now _)
    simp only [laws_vSame.f]
    rw [if_neg (by omega)]
theorem rd_row (t : List (List Int)) (i : Nat) (h : i < t.length) : rd_L2 t (i : Int) = t[i] := by
  unfold rd_L2; rw [Int.toNat_natCast, List.getD_eq_getElem?_getD, List.getElem?_eq_getElem h]; rfl
theorem rows_loop (t : List (List Int)) (hl : t.length ≤ 1048576) (hr : ∀ r ∈ t, r.length ≤ 1048576) : ∀ (d i : Nat), i + d = t.length → Ev (fun k => laws_vRows.l0 k t t (t.length : Int) (i : Int)) true := by
  intro d
  induction d with
  | zero =>
    intro i hi
    refine Ev.step (f := fun _ => some true) (fun k => ?_) (Ev.now _)
    simp only [laws_vRows.l0]
    rw [if_neg (by omega)]
  | succ d ih =>
    intro i hi
    have hlt : i < t.length := by omega
    refine Ev.step (f := fun k => (laws_vSame.f k t[i] t[i]).bind fun t174 => (if t174 = true then (laws_vRows.l0 k t t (t.length : Int) ((i + 1 : Nat) : Int)) else (some false))) (fun k => ?_) ?_
    · simp only [laws_vRows.l0]
      rw [if_pos (by omega), if_pos (by omega), if_pos (by omega), if_pos (by omega), rd_row t i hlt, w1 i (by omega)]
    · refine Ev.bind (same_ev t[i] (hr _ (List.getElem_mem hlt))) ?_
      simp only [if_true]
      exact ih (i + 1) (by omega)
theorem rows_yes (A0 : Option Addr) (c0 : Nat) (A1 : Option Addr) (c1 : Nat) (t : List (List Int)) (hl : t.length ≤ 1048576) (hr : ∀ r ∈ t, r.length ≤ 1048576) (w : World) (h0 : Kd.C (Kd.slice 3 (Kd.int .i64)) w A0 t.length t) (hc0 : t.length ≤ c0) (h1 : Kd.C (Kd.slice 3 (Kd.int .i64)) w A1 t.length t) (hc1 : t.length ≤ c1) :
    Calls Try.prog 18 #[.slice A0 t.length c0, .slice A1 t.length c1] w fun e w' => e = .returned (.bool true) ∧ Drawn0 w w' := by
  have h : Ev (fun k => laws_vRows.f k t t) true := by
    refine Ev.congr (f := fun k => laws_vRows.l0 k t t (t.length : Int) ((0 : Nat) : Int)) (fun k => ?_) (rows_loop t hl hr t.length 0 (by omega))
    simp only [laws_vRows.f]
    rw [if_pos trivial]; rfl
  obtain ⟨k, hk⟩ := h.rounds
  exact laws_vRows.calls k A0 c0 t A1 c1 t _ w h0 hc0 h1 hc1 hk
theorem row_loop (t : List (List Int)) (r : List Int) (hl : t.length ≤ 1048576) (hr : ∀ r ∈ t, r.length ≤ 1048576) : ∀ (d i : Nat), i + d = t.length → r ∈ t.drop i → Ev (fun k => laws_vRow.l0 k r t (t.length : Int) (i : Int)) true := by
  intro d
  induction d with
  | zero =>
    intro i hi hm
    rw [List.drop_eq_nil_of_le (by omega)] at hm
    cases hm
  | succ d ih =>
    intro i hi hm
    have hlt : i < t.length := by omega
    refine Ev.step (f := fun k => (laws_vSame.f k t[i] r).bind fun t181 => (if t181 = true then (some true) else (laws_vRow.l0 k r t (t.length : Int) ((i + 1 : Nat) : Int)))) (fun k => ?_) ?_
    · simp only [laws_vRow.l0]
      rw [if_pos (by omega), if_pos (by omega), if_pos (by omega), rd_row t i hlt, w1 i (by omega)]
    · refine Ev.bind (same_dec_ev t[i] r (hr _ (List.getElem_mem hlt))) ?_
      by_cases c : t[i] = r
      · rw [decide_eq_true c]
        exact Ev.now _
      · rw [decide_eq_false c]
        simp only [Bool.false_eq_true, if_false]
        rw [List.drop_eq_getElem_cons hlt] at hm
        rcases List.mem_cons.1 hm with e | e
        · exact absurd e.symm c
        · exact ih (i + 1) (by omega) e
theorem row_yes (A0 : Option Addr) (c0 : Nat) (A1 : Option Addr) (c1 : Nat) (t : List (List Int)) (r : List Int) (hm : r ∈ t) (hl : t.length ≤ 1048576) (hr : ∀ r ∈ t, r.length ≤ 1048576) (w : World) (h0 : Kd.C (Kd.slice 3 (Kd.int .i64)) w A0 t.length t) (hc0 : t.length ≤ c0) (h1 : Kd.C (Kd.int .i64) w A1 r.length r) (hc1 : r.length ≤ c1) :
    Calls Try.prog 24 #[.slice A0 t.length c0, .slice A1 r.length c1] w fun e w' => e = .returned (.bool true) ∧ Drawn0 w w' := by
  have h : Ev (fun k => laws_vRow.f k t r) true := row_loop t r hl hr t.length 0 (by omega) (by simpa using hm)
  obtain ⟨k, hk⟩ := h.rounds
  exact laws_vRow.calls k A0 c0 t A1 c1 r _ w h0 hc0 h1 hc1 hk
end Go.Proofs.Ytleacijhpkogpad.HLawV
/- Parts of a function's code, taken out of the translation by their places: for great functions that are walked in several theorems. -/
namespace Go.Proofs.Ytleacijhpkogpad.Part
open Go

/-- The 'if' whose test lies in a slot. -/
def condAt (s : Nat) : Code → Option Code
  | .cond c a b => (match c with | .tmp k => if k = s then some (.cond c a b) else (condAt s a).or (condAt s b) | _ => (condAt s a).or (condAt s b))
  | .seq a b => (condAt s a).or (condAt s b)
  | .block _ c => condAt s c
  | .loop c => condAt s c
  | .scope c => condAt s c
  | _ => none
/-- From a region on, to the end of its sequence. -/
def seqAt (n : Nat) : Code → Option Code
  | .seq a b => (match a with | .region k ops d => if k = n then some (.seq (.region k ops d) b) else (seqAt n a).or (seqAt n b) | _ => (seqAt n a).or (seqAt n b))
  | .cond _ a b => (seqAt n a).or (seqAt n b)
  | .block _ c => seqAt n c
  | .loop c => seqAt n c
  | .scope c => seqAt n c
  | _ => none
/-- A region alone. -/
def regAt (n : Nat) : Code → Option Code
  | .region k ops d => if k = n then some (.region k ops d) else none
  | .seq a b => (regAt n a).or (regAt n b)
  | .cond _ a b => (regAt n a).or (regAt n b)
  | .block _ c => regAt n c
  | .loop c => regAt n c
  | .scope c => regAt n c
  | _ => none
/-- The first region of a part. -/
def headReg : Code → Option Nat
  | .region k _ _ => some k
  | .seq a _ => headReg a
  | _ => none
/-- All that begins with a region. -/
def fromAt (n : Nat) : Code → Option Code
  | .seq a b => if headReg a = some n then some (.seq a b) else (fromAt n a).or (fromAt n b)
  | .cond _ a b => (fromAt n a).or (fromAt n b)
  | .block _ c => fromAt n c
  | .loop c => fromAt n c
  | .scope c => fromAt n c
  | _ => none
noncomputable def fromOf (f : Func) (n : Nat) : Code := (f.body.bind (fromAt n)).getD .skip
noncomputable def condOf (f : Func) (s : Nat) : Code := (f.body.bind (condAt s)).getD .skip
noncomputable def seqOf (f : Func) (n : Nat) : Code := (f.body.bind (seqAt n)).getD .skip
noncomputable def regOf (f : Func) (n : Nat) : Code := (f.body.bind (regAt n)).getD .skip
/-- A walk stands where a sequence begins with a region. -/
theorem at_seq (n : Nat) {P : Program} {ops : Array Oper} {d : Bool} {b : Code} {Q : Exit → Act → World → Prop} {a : Act} {w : World}
    (h : Code.wp P (.seq (.region n ops d) b) Q a w) : Code.wp P (.seq (.region n ops d) b) Q a w := h
/-- .. where a region stands. -/
theorem at_reg (n : Nat) {P : Program} {ops : Array Oper} {d : Bool} {Q : Exit → Act → World → Prop} {a : Act} {w : World}
    (h : Code.wp P (.region n ops d) Q a w) : Code.wp P (.region n ops d) Q a w := h
/-- .. where an 'if' stands. -/
theorem at_if (n : Nat) {P : Program} {x y : Code} {Q : Exit → Act → World → Prop} {a : Act} {w : World}
    (h : Code.wp P (.cond (.tmp n) x y) Q a w) : Code.wp P (.cond (.tmp n) x y) Q a w := h
end Go.Proofs.Ytleacijhpkogpad.Part
/- Words for the walks of the great laws on heights: addresses, parts of a slice, a slice written out. -/
namespace Go.Proofs.Ytleacijhpkogpad.HW
open Go.RowKit Go.Proofs.YtleacijhpkogpadW.PrintWords Go.Proofs.YtleacijhpkogpadW.PrintLast Go.Proofs.YtleacijhpkogpadW.PrintMore
set_option linter.unusedVariables false

theorem add_z (a : Addr) : a.add (0 : Int).toNat = a := by simp [Addr.add]
theorem add_0 (a : Addr) : a.add 0 = a := by simp [Addr.add]
theorem add_1 (a : Addr) : a.add 1 = ⟨a.block, a.off + 1, none⟩ := by simp [Addr.add]
theorem take_ (A0 : Option Addr) (c0 : Nat) (l : List Int) (i : Nat) (hi : i ≤ l.length) (hc0 : l.length ≤ c0) :
    (∀ W : World, (Instr.slice 24 (.slice A0 l.length c0) none (some (.int .i64 (i : Int))) none).run Try.prog W = .ok (.slice A0 (l.take i).length c0) W) ∧ (∀ W, Kd.C (Kd.int .i64) W A0 l.length l → Kd.C (Kd.int .i64) W A0 (l.take i).length (l.take i)) ∧ (l.take i).length ≤ c0 := by
  obtain ⟨i010, hi010, _, hsz10, _⟩ := info_parts HClone.info_int
  obtain ⟨h1, h2, h3⟩ := print_take_of (P := Try.prog) (Value.int .i64) 0 24 3 .i64 Try.underlying24 hi010 hsz10 A0 c0 l (i : Int) (by omega) (by omega) hc0
  rw [Int.toNat_natCast] at h1 h2 h3
  exact ⟨h1, fun W h => Kd.C_of_reads (h1 := fun _ => rfl) (h2 W (Kd.reads_of_C h)), h3⟩
theorem mid_ (A0 : Option Addr) (c0 : Nat) (l : List Int) (i k : Nat) (hik : i ≤ k) (hk : k ≤ l.length) (hc0 : l.length ≤ c0) :
    ∃ (A' : Option Addr) (c' : Nat), (∀ W : World, (Instr.slice 24 (.slice A0 l.length c0) (some (.int .i64 (i : Int))) (some (.int .i64 (k : Int))) none).run Try.prog W = .ok (.slice A' ((l.take k).drop i).length c') W) ∧ (∀ W, Kd.C (Kd.int .i64) W A0 l.length l → Kd.C (Kd.int .i64) W A' ((l.take k).drop i).length ((l.take k).drop i)) ∧ ((l.take k).drop i).length ≤ c' := by
  obtain ⟨i010, hi010, _, hsz10, _⟩ := info_parts HClone.info_int
  obtain ⟨A', h1, h2, h3⟩ := print_mid_of (P := Try.prog) (Value.int .i64) 0 24 3 .i64 .i64 Try.underlying24 hi010 hsz10 A0 c0 l (i : Int) (k : Int) (by omega) (by omega) (by omega) hc0
  rw [Int.toNat_natCast, Int.toNat_natCast] at h1 h2 h3
  exact ⟨A', _, h1, fun W h => Kd.C_of_reads (h1 := fun _ => rfl) (h2 W (Kd.reads_of_C h)), h3⟩
theorem drop_ (A0 : Option Addr) (c0 : Nat) (l : List Int) (i : Nat) (hi : i ≤ l.length) (hc0 : l.length ≤ c0) :
    ∃ (A' : Option Addr) (c' : Nat), (∀ W : World, (Instr.slice 24 (.slice A0 l.length c0) (some (.int .i64 (i : Int))) none none).run Try.prog W = .ok (.slice A' (l.drop i).length c') W) ∧ (∀ W, Kd.C (Kd.int .i64) W A0 l.length l → Kd.C (Kd.int .i64) W A' (l.drop i).length (l.drop i)) ∧ (l.drop i).length ≤ c' := by
  obtain ⟨i010, hi010, _, hsz10, _⟩ := info_parts HClone.info_int
  obtain ⟨A', h1, h2, h3⟩ := print_drop_of (P := Try.prog) (Value.int .i64) 0 24 3 .i64 Try.underlying24 hi010 hsz10 A0 c0 l (i : Int) (by omega) (by omega) hc0
  rw [Int.toNat_natCast] at h1 h2 h3
  exact ⟨A', _, h1, fun W h => Kd.C_of_reads (h1 := fun _ => rfl) (h2 W (Kd.reads_of_C h)), h3⟩
/-- Two numbers written out as a slice. -/
theorem lit2 (W : World) (a b : Int) : Kd.C (Kd.int .i64) (W.alloc (.cells #[.int .i64 a, .int .i64 b] 3)) (some ⟨W.heap.size, 0, none⟩) 2 [a, b] := by
  have h := own_lit W W.heap.size 3 .i64 [a, b] (Nat.le_refl _) (by simp)
  obtain ⟨A, c, e, hr⟩ := own_reads h
  cases e
  exact Kd.C_of_reads (enc := Value.int .i64) (d := (0 : Int)) (h1 := fun _ => rfl) hr
/-! A call that only draws, met in a region that only reads, which begins in a world that has drawn. -/
theorem quiet1 {P : Program} {f : FuncId} {args : Array Value} {w : World} {n : Nat} {v : Value} (h : Calls P f args (w.drewN n) fun e w' => e = .returned v ∧ Drawn0 (w.drewN n) w') :
    Calls P f args (w.drewN n) fun e w'' => e = .returned v ∧ ∃ m, w'' = w.drewN m :=
  h.mono fun _ _ ⟨he, ⟨⟨m, hm⟩⟩⟩ => ⟨he, n + m, by rw [hm, World.drewN_drewN]⟩
theorem quiet2 {P : Program} {f : FuncId} {args : Array Value} {w : World} {n0 n : Nat} {v : Value} (h : Calls P f args (w.drewN (n0 + n)) fun e w' => e = .returned v ∧ Drawn0 (w.drewN (n0 + n)) w') :
    Calls P f args (w.drewN (n0 + n)) fun e w'' => e = .returned v ∧ ∃ m, w'' = w.drewN (n0 + m) :=
  h.mono fun _ _ ⟨he, ⟨⟨m, hm⟩⟩⟩ => ⟨he, n + m, by rw [hm, World.drewN_drewN, Nat.add_assoc]⟩
theorem quiet3 {P : Program} {f : FuncId} {args : Array Value} {w : World} {n0 n1 n : Nat} {v : Value} (h : Calls P f args (w.drewN (n0 + (n1 + n))) fun e w' => e = .returned v ∧ Drawn0 (w.drewN (n0 + (n1 + n))) w') :
    Calls P f args (w.drewN (n0 + (n1 + n))) fun e w'' => e = .returned v ∧ ∃ m, w'' = w.drewN (n0 + (n1 + m)) :=
  h.mono fun _ _ ⟨he, ⟨⟨m, hm⟩⟩⟩ => ⟨he, n + m, by rw [hm, World.drewN_drewN, Nat.add_assoc, Nat.add_assoc]⟩
end Go.Proofs.Ytleacijhpkogpad.HW
