/- The longest rising: the walk of impl.LongestRising and of the law; the reference over its printed walk. -/
import Derived.Test.YtfkbacdaoeecdaaPFnExactLongestRisingx10
import Derived.Test.YtfkbacdaoeecdaaPFnExactLongestRisingx12
import Derived.Test.YtfkbacdaoeecdaaHGoodL
import Derived.Test.YtfkbacdaoeecdaaHGood
import Derived.Test.YtfkbacdaoeecdaaRMarksX
import Derived.Test.YtfkbacdaoeecdaaHMax
namespace Go.Proofs.Ytfkbacdaoeecdaa.HLR
open Go.RowKit Go.Proofs.YtfkbacdaoeecdaaW.PrintWords Go.Proofs.YtfkbacdaoeecdaaW.PrintLast Go.Proofs.YtfkbacdaoeecdaaW.PrintMore Go.Proofs.Ytfkbacdaoeecdaa.HImpl Go.Proofs.Ytfkbacdaoeecdaa.PFnExactLongestRising Go.Proofs.Ytfkbacdaoeecdaa.HSpecGL Go.Proofs.Ytfkbacdaoeecdaa.HMax
set_option linter.unusedVariables false
set_option linter.unusedSimpArgs false

theorem wm1 (m : Nat) (h : m ≤ 4611686018427387904) : wrap64 ((m : Int) - 1) = (m : Int) - 1 := by unfold wrap64; omega
theorem good_rd {l : List Int} (h : good l = true) (i : Nat) (hi : i < l.length) : 1 ≤ rd l (i : Int) ∧ rd l (i : Int) ≤ 100 := by
  rw [rd_nat l i hi]
  exact good_mem h _ (List.getElem_mem hi)
theorem mx_if (a b : Int) : mx a b = if a > b then a else b := by
  unfold mx; split <;> split <;> omega
/-! rising and falling -/
def bst (p : Int → Bool) : List (Int × Int) → Int
  | [] => 0
  | (o, c) :: t => if p o = true then max c (bst p t) else bst p t
theorem bst_nonneg (p : Int → Bool) : ∀ t, 0 ≤ bst p t
  | [] => by simp [bst]
  | (o, c) :: t => by
    have := bst_nonneg p t
    simp only [bst]
    split <;> omega
theorem bst_append (p : Int → Bool) : ∀ a b, bst p (a ++ b) = max (bst p a) (bst p b)
  | [], b => by have := bst_nonneg p b; simp only [List.nil_append, bst]; omega
  | (o, c) :: t, b => by
    have := bst_append p t b
    simp only [List.cons_append, bst]
    split <;> omega
theorem bst_reverse (p : Int → Bool) : ∀ a, bst p a.reverse = bst p a
  | [] => rfl
  | (o, c) :: t => by
    have h0 := bst_nonneg p t
    rw [List.reverse_cons, bst_append, bst_reverse p t]
    simp only [bst]
    split <;> omega
theorem bst_le (p : Int → Bool) (n : Int) (h0 : 0 ≤ n) : ∀ t : List (Int × Int), (∀ q ∈ t, q.2 ≤ n) → bst p t ≤ n
  | [], _ => by simpa [bst] using h0
  | (o, c) :: t, h => by
    have h1 := bst_le p n h0 t (fun q hq => h q (List.mem_cons_of_mem _ hq))
    have h2 := h (o, c) (List.mem_cons_self ..)
    simp only at h2
    simp only [bst]
    split <;> omega
def risL : List Int → List Int
  | [] => []
  | h :: t => (bst (fun o => decide (h < o)) (t.zip (risL t)) + 1) :: risL t
theorem risL_len : ∀ t, (risL t).length = t.length
  | [] => rfl
  | _ :: t => by simp [risL, risL_len t]
theorem risL_drop : ∀ (l : List Int) (k : Nat), (risL l).drop k = risL (l.drop k)
  | [], k => by simp [risL]
  | _ :: _, 0 => rfl
  | h :: t, k + 1 => by simp only [risL, List.drop_succ_cons]; exact risL_drop t k
theorem risL_mem : ∀ (l : List Int), ∀ c ∈ risL l, 1 ≤ c ∧ c ≤ (l.length : Int)
  | [], c, hc => by simp [risL] at hc
  | h :: t, c, hc => by
    simp only [risL, List.mem_cons] at hc
    have ih := risL_mem t
    rcases hc with rfl | hc
    · have h1 := bst_nonneg (fun o => decide (h < o)) (t.zip (risL t))
      have h2 := bst_le (fun o => decide (h < o)) (t.length : Int) (by omega) (t.zip (risL t)) (fun q hq => (ih q.2 (List.of_mem_zip hq).2).2)
      simp only [List.length_cons]; omega
    · have := ih c hc
      simp only [List.length_cons]; omega
def falL : List Int → List Int
  | [] => []
  | h :: t => (bst (fun o => decide (o < h)) (t.zip (falL t)) + 1) :: falL t
theorem falL_len : ∀ t, (falL t).length = t.length
  | [] => rfl
  | _ :: t => by simp [falL, falL_len t]
theorem falL_drop : ∀ (l : List Int) (k : Nat), (falL l).drop k = falL (l.drop k)
  | [], k => by simp [falL]
  | _ :: _, 0 => rfl
  | h :: t, k + 1 => by simp only [falL, List.drop_succ_cons]; exact falL_drop t k
theorem falL_mem : ∀ (l : List Int), ∀ c ∈ falL l, 1 ≤ c ∧ c ≤ (l.length : Int)
  | [], c, hc => by simp [falL] at hc
  | h :: t, c, hc => by
    simp only [falL, List.mem_cons] at hc
    have ih := falL_mem t
    rcases hc with rfl | hc
    · have h1 := bst_nonneg (fun o => decide (o < h)) (t.zip (falL t))
      have h2 := bst_le (fun o => decide (o < h)) (t.length : Int) (by omega) (t.zip (falL t)) (fun q hq => (ih q.2 (List.of_mem_zip hq).2).2)
      simp only [List.length_cons]; omega
    · have := ih c hc
      simp only [List.length_cons]; omega
theorem bst_map (h : Int) : ∀ (t cs : List Int), bst (fun o => decide (101 - h < o)) ((t.map fun o => 101 - o).zip cs) = bst (fun o => decide (o < h)) (t.zip cs)
  | [], cs => by simp [bst]
  | o :: t, [] => by simp [bst]
  | o :: t, c :: cs => by
    have ih := bst_map h t cs
    simp only [List.map_cons, List.zip_cons_cons, bst, ih]
    have : (decide (101 - h < 101 - o)) = decide (o < h) := by
      by_cases c : o < h
      · rw [decide_eq_true c, decide_eq_true (by omega)]
      · rw [decide_eq_false c, decide_eq_false (by omega)]
    rw [this]
theorem fal_ris : ∀ l : List Int, risL (l.map fun o => 101 - o) = falL l
  | [] => rfl
  | h :: t => by
    simp only [List.map_cons, risL, falL, fal_ris t]
    rw [bst_map]
/-- The head's own number. -/
def hdF (l : List Int) : Int := rd (falL l) 0
theorem hdF_cons (h : Int) (t : List Int) : hdF (h :: t) = bst (fun o => decide (o < h)) (t.zip (falL t)) + 1 := rfl
theorem rd_zero (l : List Int) (h : 0 < l.length) : rd l 0 = l[0] := rd_nat l 0 h
theorem rd_zero_cons (h : Int) (t : List Int) : rd (h :: t) 0 = h := rfl
theorem rd_drop (l : List Int) (i : Nat) (h : i < l.length) : rd (l.drop i) 0 = rd l (i : Int) := by
  rw [drop_cons l i h]; rfl
theorem falL_rd (l : List Int) (i : Nat) (h : i < l.length) : rd (falL l) (i : Int) = hdF (l.drop i) := by
  rw [← rd_drop _ i (by rw [falL_len]; exact h), falL_drop]; rfl
theorem hdF_bd (l : List Int) (h : 0 < l.length) : 1 ≤ hdF l ∧ hdF l ≤ (l.length : Int) := by
  match l, h with
  | a :: t, _ =>
    have := falL_mem (a :: t) (hdF (a :: t)) (by rw [hdF_cons]; simp [falL])
    exact this
theorem ris_in_spec (l : List Int) (hl : l.length ≤ 40) (i : Nat) (hi : i < l.length) (x : List Int) (hx : x.length = l.length) (hd : x.drop (i + 1) = risL (l.drop (i + 1))) (R : List Int) : ∀ (d j : Nat) (m : Int), j + d = l.length → i < j → 0 ≤ m → m ≤ 40 →
    Ev (fun k => spec_heRising.l0 k l (x.set i (max m (bst (fun o => decide (rd l (i : Int) < o)) ((l.drop j).zip (risL (l.drop j)))) + 1)) ((i : Int) - 1)) R →
    Ev (fun k => spec_heRising.l1 k l x (i : Int) m (j : Int)) R := by
  intro d
  induction d with
  | zero =>
    intro j m hj hij hm0 hm hev
    rw [List.drop_eq_nil_of_le (by omega)] at hev
    simp only [risL, List.zip_nil_left, bst] at hev
    rw [show max m 0 = m by omega] at hev
    refine Ev.step (fun k => ?_) hev
    simp only [spec_heRising.l1]
    rw [if_neg (by omega), if_pos (by omega), if_pos (by omega), show wrap64 (m + 1) = m + 1 by unfold wrap64; omega, wm1 i (by omega)]
    rfl
  | succ d ih =>
    intro j m hj hij hm0 hm hev
    have hlt : j < l.length := by omega
    have hxj : x.drop j = risL (l.drop j) := by
      have : x.drop j = (x.drop (i + 1)).drop (j - (i + 1)) := by rw [List.drop_drop]; congr 1; omega
      rw [this, hd, risL_drop, List.drop_drop]; congr 2; omega
    have hrx : rd x (j : Int) = rd (risL (l.drop j)) 0 := by
      rw [← rd_drop x j (by omega), hxj]
    have hb := risL_mem (l.drop j) (rd (risL (l.drop j)) 0) (by
      rw [rd_zero (risL (l.drop j)) (by rw [risL_len, List.length_drop]; omega)]
      exact List.getElem_mem _)
    rw [List.length_drop] at hb
    have hz : (l.drop j).zip (risL (l.drop j)) = (rd l (j : Int), rd (risL (l.drop j)) 0) :: (l.drop (j + 1)).zip (risL (l.drop (j + 1))) := by
      rw [drop_cons l j hlt]
      simp [risL, rd_zero_cons]
    rw [hz] at hev
    simp only [bst] at hev
    by_cases c : rd l (j : Int) > rd l (i : Int)
    · have c' : rd l (i : Int) < rd l (j : Int) := c
      rw [if_pos (decide_eq_true c')] at hev
      have hr := ih (j + 1) (max m (rd (risL (l.drop j)) 0)) (by omega) (by omega) (by omega) (by omega) (by rw [show ∀ a b c : Int, max (max a b) c = max a (max b c) by intros; omega]; exact hev)
      refine Ev.step (fun k => ?_) hr
      simp only [spec_heRising.l1, spec_l1Most.f]
      rw [if_pos (by omega), if_pos (by omega), if_pos (by omega), if_pos (by omega), if_pos c, if_pos (by omega), hrx, w1 j (by omega)]
      by_cases c2 : m > rd (risL (l.drop j)) 0
      · rw [if_pos c2, show max m (rd (risL (l.drop j)) 0) = m by omega]; rfl
      · rw [if_neg c2, show max m (rd (risL (l.drop j)) 0) = rd (risL (l.drop j)) 0 by omega]; rfl
    · have c' : ¬ rd l (i : Int) < rd l (j : Int) := c
      rw [if_neg (show ¬ (decide _ = true) by rw [decide_eq_true_eq]; exact c')] at hev
      refine Ev.step (fun k => ?_) (ih (j + 1) m (by omega) (by omega) hm0 hm hev)
      simp only [spec_heRising.l1]
      rw [if_pos (by omega), if_pos (by omega), if_pos (by omega), if_pos (by omega), if_neg c, w1 j (by omega)]
theorem ris_head (l : List Int) (i : Nat) (hi : i < l.length) : risL (l.drop i) = (bst (fun o => decide (rd l (i : Int) < o)) ((l.drop (i + 1)).zip (risL (l.drop (i + 1)))) + 1) :: risL (l.drop (i + 1)) := by
  rw [drop_cons l i hi]; rfl
theorem ris_set (l x : List Int) (i : Nat) (hi : i < l.length) (hx : x.length = l.length) (hd : x.drop (i + 1) = risL (l.drop (i + 1))) (v : Int) (hv : v = bst (fun o => decide (rd l (i : Int) < o)) ((l.drop (i + 1)).zip (risL (l.drop (i + 1)))) + 1) :
    (x.set i v).drop i = risL (l.drop i) := by
  rw [ris_head l i hi, ← hv, List.drop_eq_getElem_cons (by simpa using by omega), List.getElem_set_self]
  congr 1
  rw [List.drop_set_of_lt (by omega), hd]
theorem ris_out_spec (l : List Int) (hl : l.length ≤ 40) : ∀ (m : Nat) (x : List Int), m ≤ l.length → x.length = l.length → x.drop m = risL (l.drop m) →
    Ev (fun k => spec_heRising.l0 k l x ((m : Int) - 1)) (risL l) := by
  intro m
  induction m with
  | zero =>
    intro x hm hx hd
    rw [List.drop_zero, List.drop_zero] at hd
    subst hd
    refine Ev.step (f := fun _ => some (risL l)) (fun k => ?_) (Ev.now _)
    simp only [spec_heRising.l0]
    rw [if_neg (by omega)]
  | succ i ih =>
    intro x hm hx hd
    have hb0 := bst_nonneg (fun o => decide (rd l (i : Int) < o)) ((l.drop (i + 1)).zip (risL (l.drop (i + 1))))
    have hr := ih (x.set i (max 0 (bst (fun o => decide (rd l (i : Int) < o)) ((l.drop (i + 1)).zip (risL (l.drop (i + 1))))) + 1)) (by omega) (by simpa using hx)
      (ris_set l x i (by omega) hx hd _ (by omega))
    have h2 := ris_in_spec l hl i (by omega) x hx hd _ (l.length - (i + 1)) (i + 1) 0 (by omega) (by omega) (by omega) (by omega) hr
    refine Ev.step (fun k => ?_) h2
    simp only [spec_heRising.l0]
    rw [show (((i + 1 : Nat) : Int) - 1) = (i : Int) by omega, if_pos (by omega), w1 i (by omega)]
theorem rising_spec_ev (l : List Int) (hl : l.length ≤ 40) : Ev (fun k => spec_heRising.f k l) (risL l) := by
  have h := ris_out_spec l hl l.length (List.replicate l.length 0) (by omega) (by simp) (by
    rw [List.drop_eq_nil_of_le (by simp), List.drop_eq_nil_of_le (by omega)]; rfl)
  refine Ev.congr (fun k => ?_) h
  simp only [spec_heRising.f]
  rw [if_pos (by omega), if_pos (by simp; omega), wm1 l.length (by omega)]
  simp
/-! rising soldiers, as the program counts them -/
theorem ris_in_impl (l : List Int) (hl : l.length ≤ 40) (i : Nat) (hi : i < l.length) (R : List Int) : ∀ (d j : Nat) (m : Int) (x : List Int), j + d = l.length → i < j → 0 ≤ m → m ≤ 40 → x.length = l.length → x.drop (i + 1) = risL (l.drop (i + 1)) → rd x (i : Int) = m + 1 →
    Ev (fun k => impl_rising.l0 k l (x.set i (max m (bst (fun o => decide (rd l (i : Int) < o)) ((l.drop j).zip (risL (l.drop j)))) + 1)) ((i : Int) - 1)) R →
    Ev (fun k => impl_rising.l1 k l x (i : Int) (j : Int)) R := by
  intro d
  induction d with
  | zero =>
    intro j m x hj hij hm0 hm hx hd hxi hev
    rw [List.drop_eq_nil_of_le (by omega)] at hev
    simp only [risL, List.zip_nil_left, bst] at hev
    rw [show max m 0 = m by omega, ← hxi] at hev
    have hself : x.set i (rd x (i : Int)) = x := by
      rw [rd_nat x i (by omega)]; simp
    rw [hself] at hev
    refine Ev.step (fun k => ?_) hev
    simp only [impl_rising.l1]
    rw [if_neg (by omega), wm1 i (by omega)]
  | succ d ih =>
    intro j m x hj hij hm0 hm hx hd hxi hev
    have hlt : j < l.length := by omega
    have hxj : x.drop j = risL (l.drop j) := by
      have : x.drop j = (x.drop (i + 1)).drop (j - (i + 1)) := by rw [List.drop_drop]; congr 1; omega
      rw [this, hd, risL_drop, List.drop_drop]; congr 2; omega
    have hrx : rd x (j : Int) = rd (risL (l.drop j)) 0 := by
      rw [← rd_drop x j (by omega), hxj]
    have hb := risL_mem (l.drop j) (rd (risL (l.drop j)) 0) (by
      rw [rd_zero (risL (l.drop j)) (by rw [risL_len, List.length_drop]; omega)]
      exact List.getElem_mem _)
    rw [List.length_drop] at hb
    have hz : (l.drop j).zip (risL (l.drop j)) = (rd l (j : Int), rd (risL (l.drop j)) 0) :: (l.drop (j + 1)).zip (risL (l.drop (j + 1))) := by
      rw [drop_cons l j hlt]
      simp [risL, rd_zero_cons]
    rw [hz] at hev
    simp only [bst] at hev
    by_cases c : rd l (j : Int) > rd l (i : Int)
    · have c' : rd l (i : Int) < rd l (j : Int) := c
      rw [if_pos (decide_eq_true c')] at hev
      have hv : mx (rd x (i : Int)) (wrap64 (1 + rd x (j : Int))) = max m (rd (risL (l.drop j)) 0) + 1 := by
        rw [hxi, hrx, show wrap64 (1 + rd (risL (l.drop j)) 0) = 1 + rd (risL (l.drop j)) 0 by unfold wrap64; omega]
        unfold mx; split <;> omega
      have hr := ih (j + 1) (max m (rd (risL (l.drop j)) 0)) (x.set i (max m (rd (risL (l.drop j)) 0) + 1)) (by omega) (by omega) (by omega) (by omega) (by simpa using hx)
        (by rw [List.drop_set_of_lt (by omega), hd]) (by rw [rd_nat _ i (by simp; omega)]; simp)
        (by rw [List.set_set, show ∀ a b c : Int, max (max a b) c = max a (max b c) by intros; omega]; exact hev)
      refine Ev.step (fun k => ?_) hr
      simp only [impl_rising.l1]
      rw [if_pos (by omega), if_pos (by omega), if_pos (by omega), if_pos (by omega), if_pos c, if_pos (by omega), if_pos (by omega), hv, w1 j (by omega)]
      rfl
    · have c' : ¬ rd l (i : Int) < rd l (j : Int) := c
      rw [if_neg (show ¬ (decide _ = true) by rw [decide_eq_true_eq]; exact c')] at hev
      refine Ev.step (fun k => ?_) (ih (j + 1) m x (by omega) (by omega) hm0 hm hx hd hxi hev)
      simp only [impl_rising.l1]
      rw [if_pos (by omega), if_pos (by omega), if_pos (by omega), if_pos (by omega), if_neg c, w1 j (by omega)]
theorem ris_out_impl (l : List Int) (hl : l.length ≤ 40) : ∀ (m : Nat) (x : List Int), m ≤ l.length → x.length = l.length → x.drop m = risL (l.drop m) →
    Ev (fun k => impl_rising.l0 k l x ((m : Int) - 1)) (risL l) := by
  intro m
  induction m with
  | zero =>
    intro x hm hx hd
    rw [List.drop_zero, List.drop_zero] at hd
    subst hd
    refine Ev.step (f := fun _ => some (risL l)) (fun k => ?_) (Ev.now _)
    simp only [impl_rising.l0]
    rw [if_neg (by omega)]
  | succ i ih =>
    intro x hm hx hd
    have hb0 := bst_nonneg (fun o => decide (rd l (i : Int) < o)) ((l.drop (i + 1)).zip (risL (l.drop (i + 1))))
    have hd1 : (x.set i 1).drop (i + 1) = risL (l.drop (i + 1)) := by rw [List.drop_set_of_lt (by omega), hd]
    have hr := ih (x.set i (max 0 (bst (fun o => decide (rd l (i : Int) < o)) ((l.drop (i + 1)).zip (risL (l.drop (i + 1))))) + 1)) (by omega) (by simpa using hx)
      (ris_set l x i (by omega) hx hd _ (by omega))
    have h2 := ris_in_impl l hl i (by omega) _ (l.length - (i + 1)) (i + 1) 0 (x.set i 1) (by omega) (by omega) (by omega) (by omega) (by simpa using hx) hd1 (by rw [rd_nat _ i (by simp; omega)]; simp) (by rw [List.set_set]; exact hr)
    refine Ev.step (fun k => ?_) h2
    simp only [impl_rising.l0]
    rw [show (((i + 1 : Nat) : Int) - 1) = (i : Int) by omega, if_pos (by omega), if_pos (by omega), if_pos (by omega), w1 i (by omega)]
    rfl
theorem rising_impl_ev (l : List Int) (hl : l.length ≤ 40) : Ev (fun k => impl_rising.f k l) (risL l) := by
  have h := ris_out_impl l hl l.length (List.replicate l.length 0) (by omega) (by simp) (by
    rw [List.drop_eq_nil_of_le (by simp), List.drop_eq_nil_of_le (by omega)]; rfl)
  refine Ev.congr (fun k => ?_) h
  simp only [impl_rising.f]
  rw [if_pos (by omega), if_pos (by simp; omega), wm1 l.length (by omega)]
  simp
/-- The first list of as many as possible who rise: from a place on, with so many to come, behind a height. -/
def pick (l r : List Int) : Nat → Nat → Int → Int → List Int
  | _, 0, _, _ => []
  | i, d + 1, due, h => if rd r (i : Int) = due then (if rd l (i : Int) > h then (i : Int) :: pick l r (i + 1) d (due - 1) (rd l (i : Int)) else pick l r (i + 1) d due h) else pick l r (i + 1) d due h
theorem pick_len (l r : List Int) : ∀ (d i : Nat) (due h : Int), (pick l r i d due h).length ≤ d
  | 0, _, _, _ => by simp [pick]
  | d + 1, i, due, h => by
    have a := pick_len l r d (i + 1) (due - 1) (rd l (i : Int))
    have b := pick_len l r d (i + 1) due h
    simp only [pick]
    split
    · split
      · simp; omega
      · omega
    · omega
theorem pick_spec (l : List Int) (hg : good l = true) : ∀ (d i : Nat) (due h : Int) (out : List Int), i + d = l.length → out.length ≤ i → -100 ≤ due - (d : Int) → due ≤ 40 →
    (out = [] ∧ h = 0 ∨ ∃ (q : Nat) (p : List Int), out = p ++ [(q : Int)] ∧ q < i ∧ h = rd l (q : Int)) →
    Ev (fun k => spec_LongestRising.l1 k l due out (risL l) (l.length : Int) (i : Int)) (out ++ pick l (risL l) i d due h, true) := by
  have hl := (good_len hg).2
  have hr : (risL l).length = l.length := risL_len l
  intro d
  induction d with
  | zero =>
    intro i due h out hi ho hd hd2 hq
    refine Ev.step (f := fun _ => some (out, true)) (fun k => ?_) ?_
    · simp only [spec_LongestRising.l1]
      rw [if_neg (by omega)]
    · simp only [pick, List.append_nil]
      exact Ev.now _
  | succ d ih =>
    intro i due h out hi ho hd hd2 hq
    have hlt : i < l.length := by omega
    have hb := risL_mem l (rd (risL l) (i : Int)) (by rw [rd_nat (risL l) i (by omega)]; exact List.getElem_mem _)
    have hgd := good_rd hg i hlt
    simp only [pick]
    by_cases c1 : rd (risL l) (i : Int) = due
    · have hpos : due > 0 := by omega
      by_cases c2 : rd l (i : Int) > h
      · rw [if_pos c1, if_pos c2]
        have hh := ih (i + 1) (due - 1) (rd l (i : Int)) (out ++ [(i : Int)]) (by omega) (by simp; omega) (by omega) (by omega) (.inr ⟨i, out, rfl, by omega, rfl⟩)
        rw [List.append_assoc] at hh
        refine Ev.step (fun k => ?_) hh
        simp only [spec_LongestRising.l1]
        rw [if_pos (by omega), if_pos (by omega), if_pos (by omega), if_pos c1, if_pos hpos, show wrap64 (due - 1) = due - 1 by unfold wrap64; omega, w1 i (by omega)]
        rcases hq with ⟨rfl, rfl⟩ | ⟨q, p, rfl, hqi, rfl⟩
        · rw [if_pos (by simp), if_pos (by simp)]
        · have hlast : rd (p ++ [(q : Int)]) (wrap64 (((p ++ [(q : Int)]).length : Int) - 1)) = (q : Int) := by
            rw [wm1 _ (by omega), show (((p ++ [(q : Int)]).length : Int) - 1) = ((p.length : Nat) : Int) by simp, rd_nat _ _ (by simp)]
            simp
          rw [if_neg (by simp; omega), hlast, wm1 _ (by omega), if_pos (by omega), if_pos (by simp), if_pos (by omega), if_pos (by omega), if_pos (by omega), if_pos c2, if_pos (by omega)]
      · rw [if_pos c1, if_neg c2]
        refine Ev.step (fun k => ?_) (ih (i + 1) due h out (by omega) (by omega) (by omega) hd2 (by
          rcases hq with hq | ⟨q, p, e, hqi, e2⟩
          · exact .inl hq
          · exact .inr ⟨q, p, e, by omega, e2⟩))
        simp only [spec_LongestRising.l1]
        rw [if_pos (by omega), if_pos (by omega), if_pos (by omega), if_pos c1, if_pos hpos]
        rcases hq with ⟨rfl, rfl⟩ | ⟨q, p, rfl, hqi, rfl⟩
        · exact absurd hgd.1 (by omega)
        · have hlast : rd (p ++ [(q : Int)]) (wrap64 (((p ++ [(q : Int)]).length : Int) - 1)) = (q : Int) := by
            rw [wm1 _ (by omega), show (((p ++ [(q : Int)]).length : Int) - 1) = ((p.length : Nat) : Int) by simp, rd_nat _ _ (by simp)]
            simp
          rw [if_neg (by simp; omega), hlast, wm1 _ (by omega), if_pos (by omega), if_pos (by simp), if_pos (by omega), if_pos (by omega), if_pos (by omega), if_neg c2, w1 i (by omega)]
    · rw [if_neg c1]
      refine Ev.step (fun k => ?_) (ih (i + 1) due h out (by omega) (by omega) (by omega) hd2 (by
          rcases hq with hq | ⟨q, p, e, hqi, e2⟩
          · exact .inl hq
          · exact .inr ⟨q, p, e, by omega, e2⟩))
      simp only [spec_LongestRising.l1]
      rw [if_pos (by omega), if_pos (by omega), if_pos (by omega), if_neg c1, w1 i (by omega)]
theorem maxL_le (n : Int) : ∀ (t : List Int) (m : Int), m ≤ n → (∀ x ∈ t, x ≤ n) → maxL t m ≤ n
  | [], m, h, _ => h
  | a :: t, m, h, ht => by
    simp only [maxL]
    have ha := ht a (List.mem_cons_self ..)
    exact maxL_le n t _ (by split <;> omega) (fun x hx => ht x (List.mem_cons_of_mem _ hx))
theorem maxL_ge : ∀ (t : List Int) (m : Int), m ≤ maxL t m
  | [], m => by simp [maxL]
  | a :: t, m => by
    simp only [maxL]
    have := maxL_ge t (if m > a then m else a)
    have h2 : m ≤ (if m > a then m else a) := by split <;> omega
    omega
theorem left_spec (l r : List Int) (hl : l.length ≤ 40) (hr : r.length ≤ 40) (R : List Int × Bool) : ∀ (d j : Nat) (m : Int), j + d = r.length →
    Ev (fun k => spec_LongestRising.l1 k l (maxL (r.drop j) m) [] r (r.length : Int) 0) R →
    Ev (fun k => spec_LongestRising.l0 k l r m r (r.length : Int) (j : Int)) R := by
  intro d
  induction d with
  | zero =>
    intro j m hj hev
    rw [List.drop_eq_nil_of_le (by omega)] at hev
    simp only [maxL] at hev
    refine Ev.step (fun k => ?_) hev
    simp only [spec_LongestRising.l0]
    rw [if_neg (by omega)]
  | succ d ih =>
    intro j m hj hev
    have hlt : j < r.length := by omega
    rw [drop_cons r j hlt] at hev
    simp only [maxL] at hev
    refine Ev.step (fun k => ?_) (ih (j + 1) _ (by omega) hev)
    simp only [spec_LongestRising.l0, spec_l1Most.f]
    rw [if_pos (by omega), if_pos (by omega), if_pos (by omega), w1 j (by omega)]
    split <;> rfl
theorem max_same (r : List Int) (h1 : 0 < r.length) (hp : ∀ x ∈ r, 1 ≤ x) : maxL (r.drop 1) (rd r 0) = maxL r 0 := by
  match r, h1 with
  | a :: t, _ =>
    have ha := hp a (List.mem_cons_self ..)
    simp only [maxL, List.drop_succ_cons, List.drop_zero, rd_zero_cons]
    rw [if_neg (by omega)]
/-- What is told of a list of heights. -/
def longL (l : List Int) : List Int := pick l (risL l) 0 l.length (maxL (risL l) 0) 0
theorem spec_LongestRising (A0 : Option Addr) (c0 : Nat) (l : List Int) (hl : l.length ≤ 1048576) (w : World) (h0 : Kd.C (Kd.int .i64) w A0 l.length l) (hc0 : l.length ≤ c0) :
    Calls Try.prog 21 #[.slice A0 l.length c0] w fun e w' => ∃ v : Value, e = .returned (.tuple #[v, .bool (good l)]) ∧ Kd.R (Kd.int .i64) 3 w' w.heap.size (fun _ => True) v (if good l = true then longL l else []) ∧ Below w.heap.size w w' := by
  have h : Ev (fun k => spec_LongestRising.f k l) (if good l = true then longL l else [], good l) := by
    refine Ev.bind (good_ev l hl) ?_
    cases hg : good l with
    | true =>
      simp only [if_true]
      have hl := good_len hg
      have hrl : (risL l).length = l.length := risL_len l
      have hmem := risL_mem l
      have hle := maxL_le 40 (risL l) 0 (by omega) (fun x hx => by have := hmem x hx; omega)
      have hge := maxL_ge (risL l) 0
      refine Ev.bind (rising_spec_ev l hl.2) ?_
      refine left_spec l (risL l) hl.2 (by omega) _ (risL l).length 0 0 (by omega) ?_
      rw [List.drop_zero, hrl]
      have := pick_spec l hg l.length 0 (maxL (risL l) 0) 0 [] (by omega) (by simp) (by omega) hle (.inl ⟨rfl, rfl⟩)
      simpa [longL] using this
    | false => exact Ev.now _
  obtain ⟨k, hk⟩ := h.rounds
  exact spec_LongestRising.calls k A0 c0 l _ _ w h0 hc0 hk
theorem rising_calls (A : Option Addr) (c : Nat) (l : List Int) (hl : l.length ≤ 40) (w : World) (h0 : Kd.C (Kd.int .i64) w A l.length l) (hc : l.length ≤ c) :
    Calls Try.prog 39 #[.slice A l.length c] w fun e w' => ∃ v : Value, e = .returned v ∧ Kd.R (Kd.int .i64) 3 w' w.heap.size (fun _ => True) v (risL l) ∧ Below w.heap.size w w' := by
  obtain ⟨k, hk⟩ := (rising_impl_ev l hl).rounds
  exact impl_rising.calls k A c l _ w h0 hc hk
set_option maxHeartbeats 8000000 in
set_option maxRecDepth 100000 in
theorem impl_LongestRising (A0 : Option Addr) (c0 : Nat) (l : List Int) (hl : l.length ≤ 1048576) (w : World) (h0 : Kd.C (Kd.int .i64) w A0 l.length l) (hc0 : l.length ≤ c0) :
    Calls Try.prog 22 #[.slice A0 l.length c0] w fun e w' => ∃ v : Value, e = .returned (.tuple #[v, .bool (good l)]) ∧ Kd.R (Kd.int .i64) 3 w' w.heap.size (fun _ => True) v (if good l = true then longL l else []) ∧ Below w.heap.size w w' := by
  have HB := Aside0.mk (Below.refl w.heap.size w)
  have HC := Aside0.mk h0
  cases hg : good l with
  | false =>
    have HG := Aside0.mk (HImpl.are_is A0 c0 l false hg w h0 hc0)
    clear h0 hg
    go_enter Try.func22, Try.ntmps22
    go_wp2_with (go_at_call 28; refine HG.out.mono ?_; rintro e w' ⟨rfl, ⟨nd, rfl⟩⟩)
    go_ret2
    exact ⟨_, rfl, Kd.R_nil _ _ _ _ _, (by repeat (first | (with_reducible first | exact HB.out | apply below_alloc | apply pw_below_drewN | apply below_drew1) | exact HB.out))⟩
  | true =>
    have HG := Aside0.mk (HImpl.are_is A0 c0 l true hg w h0 hc0)
    obtain ⟨hl1, hl2⟩ := good_len hg
    clear h0 hg
    simp only [if_true]
    have HRS := Aside0.mk (fun W hC => rising_calls A0 c0 l hl2 W hC hc0)
    have hrl : (risL l).length = l.length := risL_len l
    have hmem := risL_mem l
    have hle := maxL_le 40 (risL l) 0 (by omega) (fun x hx => by have := hmem x hx; omega)
    have hge := maxL_ge (risL l) 0
    have HMX := Aside0.mk (fun A c W hC => max_calls A c (risL l) (by omega) (by omega) W hC)
    rw [max_same (risL l) (by omega) (fun x hx => (hmem x hx).1)] at HMX
    obtain ⟨T, hT⟩ : ∃ T, longL l = T := ⟨_, rfl⟩
    rw [hT]
    have HE0 : Aside0 (([] : List Int) ++ pick l (risL l) 0 (l.length - 0) (maxL (risL l) 0) 0 = T) := ⟨by rw [List.nil_append, Nat.sub_zero]; exact hT⟩
    generalize maxL (risL l) 0 = due0 at HMX HE0 hle hge
    generalize risL l = r at HRS HMX HE0 hrl
    have HRL := Aside0.mk hrl
    have HD0 := Aside0.mk (show -100 ≤ due0 - ((l.length - 0 : Nat) : Int) ∧ due0 ≤ 40 from ⟨by omega, hle⟩)
    clear hT hrl hmem hle hge
    go_enter Try.func22, Try.ntmps22
    go_wp2_with (first | (go_at_call 28; refine HG.out.mono ?_; rintro e w' ⟨rfl, ⟨nd, rfl⟩⟩) | ((with_reducible refine gate_dst (N := 13) rfl ?_); refine Kd.R_lit (Kd.int .i64) (w0 := w) w.heap.size 3 ?hg (N := 13) ?hd (xs := ([] : List Int)) (inner := []) (ok := fun _ => True) (okp := fun _ => True) ?hr ?hp (fun _ hk => hk) trivial (by repeat (first | (with_reducible first | exact HB.out | apply below_alloc | apply pw_below_drewN | apply below_drew1) | exact HB.out)) (below_size (by repeat (first | (with_reducible first | exact HB.out | apply below_alloc | apply pw_below_drewN | apply below_drew1) | exact HB.out))) (by simp) ?_; (case hd => rfl); (case hg => rfl); (case hr => first | (go_simp; done) | (go_simp; rfl)); (case hp => exact (Reps.none _ _)); intro v1 w1 ho hb hg hnew; have HO := Aside0.mk ho; have HBn := Aside0.mk hb; clear ho hb hg hnew HB; have HB := HBn; clear HBn))
    refine (HRS.out _ (Kd.C_below HC.out (by repeat (first | (with_reducible first | exact HB.out | apply below_alloc | apply pw_below_drewN | apply below_drew1) | exact HB.out)))).mono ?_
    rintro e w2 ⟨v2, rfl, ho, hb⟩
    have HO2 := Aside0.mk (Kd.R_mono (ok' := fun k => some k ≠ v2.ownBlock) (Kd.R_elder HO.out ho hb) (fun k hk => hk.2))
    have HR2 := Aside0.mk (Kd.R_tight rfl (Kd.R_lower ho (below_size HB.out)))
    have HB2 := Aside0.mk (below_step HB.out hb)
    obtain ⟨A2, cq, rfl, hc2, hC2⟩ := Kd.R_reads ho
    have HC2 := Aside0.mk hC2
    clear ho hb hC2 HO HB
    go_wp2_with fail
    (with_reducible refine (HMX.out A2 cq _ HC2.out).mono ?_)
    rintro e w3 ⟨rfl, hb⟩
    have HO := Aside0.mk (Kd.R_below HO2.out hb)
    have HR := Aside0.mk (Kd.R_below HR2.out hb)
    have HB := Aside0.mk (below_step HB2.out hb)
    clear hb HO2 HR2 HB2 HC2
    go_wp2_with fail
    go_loopg [4, 6, 7, 20] l.length (fun kq v4 v6 v7 v20 w' => ∃ (i : Nat) (due h : Int) (acc : List Int), v6 = .int .i64 due ∧ v7 = .int .i64 h ∧ v20 = .int .i64 (i : Int) ∧ Aside0 (kq + i = l.length) ∧ Aside0 (acc.length ≤ i) ∧ Aside0 (-100 ≤ due - ((l.length - i : Nat) : Int) ∧ due ≤ 40) ∧ Aside0 (acc ++ pick l r i (l.length - i) due h = T) ∧ Aside0 (Kd.R (Kd.int .i64) 3 w' w.heap.size (fun k => some k ≠ (.slice A2 r.length cq : Value).ownBlock) v4 acc) ∧ Aside0 (Kd.R (Kd.int .i64) 3 w' w.heap.size (fun k => some k = (.slice A2 r.length cq : Value).ownBlock) (.slice A2 r.length cq) r) ∧ Aside0 (Below w.heap.size w w'))
    case atStart => exact ⟨0, due0, 0, [], rfl, rfl, rfl, ⟨rfl⟩, ⟨by simp⟩, HD0, HE0, HO, HR, HB⟩
    case round =>
      clear HO HR HB HE0 HD0
      obtain ⟨i, due, h, acc, rfl, rfl, rfl, HK, HAL, HD, HE, HO, HR, HB⟩ := hrel
      by_cases hi : i < l.length
      · have HE1 := HE.out
        rw [show l.length - i = (l.length - (i + 1)) + 1 by omega, pick] at HE1
        obtain ⟨ad, e, hx⟩ := Kd.at_int HC.out (i : Int) (by omega) (by omega)
        cases e
        rw [Int.toNat_natCast] at hx
        have hrl := HRL.out
        obtain ⟨ad2, e, hy⟩ := Kd.at_int (Kd.R_reads' HR.out).2.2 (i : Int) (by omega) (by omega)
        cases e
        rw [Int.toNat_natCast] at hy
        generalize rd l (i : Int) = x at hx HE1
        generalize rd r (i : Int) = y at hy HE1
        replace hx := pw_cell_below HB.out hx
        have hd := HD.out
        have hal := HAL.out
        have hir : (i : Int) < (r.length : Int) := by omega
        have hw : IntKind.i64.wrap (due - 1) = due - 1 := IntWalk.i64_in _ (by omega)
        clear HE hrl
        by_cases c1 : y = due
        · by_cases c2 : x > h
          · have HE2 : Aside0 ((acc ++ [(i : Int)]) ++ pick l r (i + 1) (l.length - (i + 1)) (due - 1) x = T) := ⟨by rw [if_pos c1, if_pos c2] at HE1; rw [List.append_assoc]; exact HE1⟩
            clear HE1
            subst c1
            go_wp2_with ((with_reducible refine gate_builtin (b := .append) (xs := #[.tmp 36, .tmp 38]) rfl ?_); at_builtin; refine Kd.R_append (Kd.int .i64) (w0 := w) w.heap.size rfl (.tmp 36) (.tmp 38) 22 3 (.int .i64 0) 8 rfl Try.underlying22 HClone.info_int rfl (by decide) (by omega) u4 acc (i : Int) [.int .i64 (i : Int)] (fun k => some k ≠ (.slice (some ad2) r.length cq : Value).ownBlock) (fun _ => False) rfl rfl ?aP (fun _ hk => hk.elim) ?aF ?aO ?aB ?aS ?aL ?_; (case aP => exact rfl); (case aF => exact Kd.fresh' (Kd.R_lt HR.out)); (case aO => exact HO.out); (case aB => exact HB.out); (case aS => exact HB.out.size); (case aL => omega); intro v7 w7 ho hb hg hat; have HRn := Aside0.mk (Kd.R_grown2 HR.out rfl hg (fun k e => HO.out.1 k e)); have HOn := Aside0.mk ho; have HBn := Aside0.mk hb; clear ho hb hg hat HO HB HR; have HO := HOn; have HB := HBn; have HR := HRn; clear HOn HBn HRn)
            go_roundg (l.length - (i + 1))
            case measure => have := HK.out; omega
            case rel => exact ⟨i + 1, y - 1, x, acc ++ [(i : Int)], rfl, rfl, rfl, ⟨by have := HK.out; omega⟩, ⟨by first | omega | (simp; omega)⟩, ⟨by omega⟩, HE2, HO, HR, HB⟩
          · have HE2 : Aside0 (acc ++ pick l r (i + 1) (l.length - (i + 1)) due h = T) := ⟨by rw [if_pos c1, if_neg c2] at HE1; exact HE1⟩
            clear HE1
            subst c1
            go_wp2_with fail
            go_roundg (l.length - (i + 1))
            case measure => have := HK.out; omega
            case rel => exact ⟨i + 1, y, h, acc, rfl, rfl, rfl, ⟨by have := HK.out; omega⟩, ⟨by first | omega | (simp; omega)⟩, ⟨by omega⟩, HE2, HO, HR, HB⟩
        · have HE2 : Aside0 (acc ++ pick l r (i + 1) (l.length - (i + 1)) due h = T) := ⟨by rw [if_neg c1] at HE1; exact HE1⟩
          clear HE1
          go_wp2_with fail
          go_roundg (l.length - (i + 1))
          case measure => have := HK.out; omega
          case rel => exact ⟨i + 1, due, h, acc, rfl, rfl, rfl, ⟨by have := HK.out; omega⟩, ⟨by first | omega | (simp; omega)⟩, ⟨by omega⟩, HE2, HO, HR, HB⟩
      · have HE2 : Aside0 (acc = T) := ⟨by have := HE.out; rw [show l.length - i = 0 by omega, pick, List.append_nil] at this; exact this⟩
        go_wp2_with fail
        go_ret2
        exact ⟨_, rfl, by rw [← HE2.out]; exact Kd.R_mono HO.out (fun _ _ => trivial), (by repeat (first | (with_reducible first | exact HB.out | apply below_alloc | apply pw_below_drewN | apply below_drew1) | exact HB.out))⟩
set_option maxHeartbeats 8000000 in
set_option maxRecDepth 100000 in
theorem LongestRising_same (A0 : Option Addr) (c0 : Nat) (l : List Int) (g : List Int) (b : Bool) (w : World) (hl : l.length ≤ 1048576) (hg : g.length ≤ 1048576)
    (h0 : Kd.C (Kd.int .i64) w A0 l.length l) (hc0 : l.length ≤ c0)
    (hS : ∀ (A : Option Addr) (c : Nat) (W : World), Kd.C (Kd.int .i64) W A l.length l → l.length ≤ c → Calls Try.prog 21 #[.slice A l.length c] W fun e w' => ∃ v, e = .returned (.tuple #[v, .bool b]) ∧ Kd.R (Kd.int .i64) 3 w' W.heap.size (fun _ => True) v g ∧ Below W.heap.size W w')
    (hI : ∀ (A : Option Addr) (c : Nat) (W : World), Kd.C (Kd.int .i64) W A l.length l → l.length ≤ c → Calls Try.prog 22 #[.slice A l.length c] W fun e w' => ∃ v, e = .returned (.tuple #[v, .bool b]) ∧ Kd.R (Kd.int .i64) 3 w' W.heap.size (fun _ => True) v g ∧ Below W.heap.size W w') :
    Calls Try.prog 7 #[.slice A0 l.length c0] w fun e w' => e = .returned (.bool true) ∧ Below w.heap.size w w' := by
  have HS := Aside0.mk hS
  have HI := Aside0.mk hI
  have HC := Aside0.mk h0
  have HL := Aside0.mk hl
  have HG := Aside0.mk hg
  have HUL := Aside0.mk (RMarks.upto_len g.length 0)
  clear hS hI h0
  go_enter Try.func7, Try.ntmps7
  go_wp2_with fail
  refine (HSpecG.to_calls A0 c0 l HL.out _ HC.out hc0).mono ?_
  rintro e w1 ⟨vt, rfl, ho, hb⟩
  obtain ⟨At, ct, rfl, hlt, hCt⟩ := Kd.R_reads ho
  have HCt := Aside0.mk hCt
  have HB1 := Aside0.mk hb
  clear ho hCt hb
  go_wp2_with fail
  refine (HS.out At ct _ HCt.out hlt).mono ?_
  rintro e w2 ⟨v0, rfl, ho, hb⟩
  obtain ⟨Aw, cw, rfl, hlw, hCw⟩ := Kd.R_reads ho
  have HCW := Aside0.mk hCw
  have HB2 := Aside0.mk (below_step HB1.out hb)
  clear ho hCw hb HCt HB1
  go_wp2_with fail
  refine (HSpecG.to_calls A0 c0 l HL.out _ (Kd.C_below HC.out HB2.out) hc0).mono ?_
  rintro e w3 ⟨vx, rfl, hox, hb⟩
  have HX := Aside0.mk hox
  have HBW := Aside0.mk hb
  have HS3 := Aside0.mk hb.size
  obtain ⟨Ax, cx, rfl, hlx, hCx⟩ := Kd.R_reads hox
  have HCX := Aside0.mk hCx
  clear hox hb hCx
  go_wp2_with fail
  refine (HI.out Ax cx _ HCX.out hlx).mono ?_
  rintro e w4 ⟨vg, rfl, hog, hb⟩
  have HG0 := Aside0.mk hog
  have HBW4 := Aside0.mk (below_step HBW.out hb)
  have HX4 := Aside0.mk (Kd.R_below HX.out hb)
  have HLX := Aside0.mk (fun k (hk : (Value.slice Ax l.length cx).ownBlock = some k) => Kd.R_lt HX.out k hk)
  have HSZ := Aside0.mk hb.size
  obtain ⟨Ag, cg, rfl, hlg, hCg⟩ := Kd.R_reads hog
  have HCG := Aside0.mk hCg
  clear hog hb hCg HBW HX HCX
  go_wp2_with fail
  refine (RMarks.eqI Ag cg Aw cw g HG.out _ HCG.out hlg (Kd.C_below HCW.out HBW4.out) hlw).mono ?_
  rintro e w' ⟨rfl, ⟨nd1, rfl⟩⟩
  have HB5 := Aside0.mk (below_step HB2.out (pw_below_drewN HBW4.out nd1))
  cases b
  all_goals
    go_wp2_with fail
    refine (HSpecG.to_calls A0 c0 l HL.out _ (Kd.C_below HC.out HB5.out) hc0).mono ?_
    rintro e w5 ⟨vy, rfl, hoy, hb⟩
    have HBW5 := Aside0.mk (below_step (pw_below_drewN HBW4.out nd1) hb)
    have HX5 := Aside0.mk (Kd.R_below (Kd.R_drewN HX4.out nd1) hb)
    have HG5 := Aside0.mk (Kd.R_below (Kd.R_drewN HG0.out nd1) hb)
    obtain ⟨Ay, cy, rfl, hly, hCy⟩ := Kd.R_reads hoy
    have HCY := Aside0.mk hCy
    clear hoy hb hCy HCG
    go_wp2_with fail
    refine (RMarks.eqI Ax cx Ay cy l HL.out _ (Kd.R_reads' HX5.out).2.2 hlx HCY.out hly).mono ?_
    rintro e w' ⟨rfl, ⟨nd2, rfl⟩⟩
    have HMX := Aside0.mk (RMarksX.markK (.slice Ax l.length cx) l HL.out (fun k => k < w3.heap.size) w2 (w5.drewN nd2) (pw_below_drewN HBW5.out nd2) (Kd.R_mono (Kd.R_tight rfl (Kd.R_drewN HX5.out nd2)) (fun k hk => HLX.out k hk.symm)))
    have HG6 := Aside0.mk (Kd.R_drewN HG5.out nd2)
    clear HX5 HCY HBW5 HG5
    go_wp2_with fail
    refine HMX.out.mono ?_
    rintro e w6 ⟨rfl, _, hb, hkept⟩
    have HBW := Aside0.mk hb
    have HO := Aside0.mk (Kd.R_lower (Kd.R_mono (ok' := fun _ => True) (Kd.R_step (Kd.R_bound HG6.out) (fun k hk hlt => hkept.2 k hlt (fun h => Nat.lt_irrefl _ (Nat.lt_of_lt_of_le h hk.2.1)))) (fun _ _ => trivial)) HS3.out)
    have HCG := Aside0.mk (Kd.R_reads' HO.out).2.2
    clear hb hkept HMX HG6
    go_wp2_with fail
    refine (RMarks.eqI Ag cg Aw cw g HG.out _ HCG.out hlg (Kd.C_below HCW.out HBW.out) hlw).mono ?_
    rintro e w' ⟨rfl, ⟨nd3, rfl⟩⟩
    have HBW1 := Aside0.mk (pw_below_drewN HBW.out nd3)
    have HO1 := Aside0.mk (Kd.R_drewN HO.out nd3)
    clear HBW HO HCG
    have HBW := HBW1
    have HO := HO1
    clear HBW1 HO1
    go_wp2_with fail
    refine (RMarks.markI _ g HG.out w2 _ HBW.out HO.out).mono ?_
    rintro e w7 ⟨rfl, ho, hb⟩
    have HBW1 := Aside0.mk hb
    have HO1 := Aside0.mk ho
    have HCG := Aside0.mk (Kd.R_reads' ho).2.2
    clear ho hb HBW HO
    go_wp2_with fail
    refine (RMarks.heldI Ag cg g.length HG.out _ HCG.out (by rw [HUL.out]; exact hlg)).mono ?_
    rintro e w8 ⟨rfl, hb⟩
    have HBW := Aside0.mk (below_step HBW1.out hb)
    have HO := Aside0.mk (Kd.R_below HO1.out hb)
    have HB8 := Aside0.mk (below_step HB2.out HBW.out)
    clear hb HBW1 HO1 HCG
    go_wp2_with fail
    refine (HSpecG.to_calls A0 c0 l HL.out _ (Kd.C_below HC.out HB8.out) hc0).mono ?_
    rintro e w9 ⟨vz, rfl, hoz, hb⟩
    obtain ⟨Az, cz, rfl, hlz, hCz⟩ := Kd.R_reads hoz
    have HCZ := Aside0.mk hCz
    have HBW1 := Aside0.mk (below_step HBW.out hb)
    have HO1 := Aside0.mk (Kd.R_below HO.out hb)
    clear hoz hCz hb HBW HO HB8
    go_wp2_with fail
    refine (HI.out Az cz _ HCZ.out hlz).mono ?_
    rintro e w10 ⟨vh, rfl, hoh, hb⟩
    obtain ⟨Ah, ch, rfl, hlh, hCh⟩ := Kd.R_reads hoh
    have HCH := Aside0.mk hCh
    have HBW := Aside0.mk (below_step HBW1.out hb)
    have HO := Aside0.mk (Kd.R_below HO1.out hb)
    clear hoh hCh hb HBW1 HO1 HCZ
    go_wp2_with fail
    refine (RMarks.eqI Ah ch Aw cw g HG.out _ HCH.out hlh (Kd.C_below HCW.out HBW.out) hlw).mono ?_
    rintro e w' ⟨rfl, ⟨nd4, rfl⟩⟩
    have HB := Aside0.mk (below_step HB2.out HBW.out)
    have HCG := Aside0.mk (Kd.R_reads' (Kd.R_drewN HO.out nd4)).2.2
    clear HBW HO HCH
    go_wp2_with fail
    refine (RMarks.heldI Ag cg g.length HG.out _ HCG.out (by rw [HUL.out]; exact hlg)).mono ?_
    rintro e w11 ⟨rfl, hb⟩
    have HBn := Aside0.mk (below_step (by repeat (first | (with_reducible first | exact HB.out | apply below_alloc | apply pw_below_drewN | apply below_drew1) | exact HB.out)) hb)
    clear HB hb HCG
    have HB := HBn
    clear HBn
    go_wp2_with fail
    go_ret
    exact ⟨rfl, (by repeat (first | (with_reducible first | exact HB.out | apply below_alloc | apply pw_below_drewN | apply below_drew1) | exact HB.out))⟩
set_option maxHeartbeats 8000000 in
set_option maxRecDepth 100000 in
theorem LongestRising_long (A0 : Option Addr) (c0 : Nat) (l : List Int) (w : World) (hl : 1048576 < l.length) (h2 : l.length ≤ 9223372036854775807) :
    Calls Try.prog 7 #[.slice A0 l.length c0] w fun e w' => e = .returned (.bool true) ∧ Below w.heap.size w w' := by
  have HB := Aside0.mk (Below.refl w.heap.size w)
  go_enter Try.func7, Try.ntmps7
  go_wp2
  go_ret
  exact ⟨rfl, (by repeat (first | (with_reducible first | exact HB.out | apply below_alloc | apply pw_below_drewN | apply below_drew1) | exact HB.out))⟩
theorem LongestRising_walk (A0 : Option Addr) (c0 : Nat) (l : List Int) (w : World) (h0 : Kd.C (Kd.int .i64) w A0 l.length l) (hc0 : l.length ≤ c0) (hm : l.length ≤ maxLen) :
    Calls Try.prog 7 #[.slice A0 l.length c0] w fun e w' => e = .returned (.bool true) ∧ Below w.heap.size w w' := by
  rcases Nat.lt_or_ge 1048576 l.length with h | h
  · exact LongestRising_long A0 c0 l w h (Nat.le_trans hm (by decide))
  · exact LongestRising_same A0 c0 l (if good l = true then longL l else []) (good l) w h (by split <;> first | (exact Nat.le_trans (pick_len l (risL l) l.length 0 _ 0) h; done) | simp) h0 hc0 (fun A c W hC hc => spec_LongestRising A c l h W hC hc) (fun A c W hC hc => impl_LongestRising A c l h W hC hc)
end Go.Proofs.Ytfkbacdaoeecdaa.HLR
