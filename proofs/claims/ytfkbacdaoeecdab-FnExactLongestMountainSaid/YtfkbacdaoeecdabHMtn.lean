/- The longest mountain: the walks of impl.mountain, impl.LongestMountain and of the law; the reference over its printed walk. -/
import Derived.Test.YtfkbacdaoeecdabPFnExactLongestMountainx11
import Derived.Test.YtfkbacdaoeecdabPFnExactLongestMountainx15
import Derived.Test.YtfkbacdaoeecdabHGoodM
import Derived.Test.YtfkbacdaoeecdabHGood
import Derived.Test.YtfkbacdaoeecdabRMarks
import Derived.Test.YtfkbacdaoeecdabHClone
import Derived.Deep.RegionHeld3
namespace Go.Proofs.Ytfkbacdaoeecdab.HMtn
open Go.RowKit Go.Proofs.YtfkbacdaoeecdabW.PrintWords Go.Proofs.YtfkbacdaoeecdabW.PrintLast Go.Proofs.YtfkbacdaoeecdabW.PrintMore Go.Proofs.Ytfkbacdaoeecdab.HImpl Go.Proofs.Ytfkbacdaoeecdab.PFnExactLongestMountain Go.Proofs.Ytfkbacdaoeecdab.HSpecGM
set_option linter.unusedVariables false
set_option linter.unusedSimpArgs false

attribute [local go_sem] max2_int max_two
theorem wm1 (m : Nat) (h : m ≤ 4611686018427387904) : wrap64 ((m : Int) - 1) = (m : Int) - 1 := by unfold wrap64; omega
theorem back_loop (l : List Int) (hl : l.length ≤ 1048576) : ∀ (m : Nat) (acc : List Int), m ≤ l.length → acc.length + m ≤ 1048576 →
    Ev (fun k => spec_heBack.l0 k l acc ((m : Int) - 1)) (acc ++ (l.take m).reverse) := by
  intro m
  induction m with
  | zero =>
    intro acc hm ha
    refine Ev.step (f := fun _ => some acc) (fun k => ?_) ?_
    · simp only [spec_heBack.l0]
      rw [if_neg (by omega)]
    · rw [List.take_zero, List.reverse_nil, List.append_nil]
      exact Ev.now _
  | succ m ih =>
    intro acc hm ha
    have hr := ih (acc ++ [rd l (m : Int)]) (by omega) (by simp; omega)
    rw [List.append_assoc] at hr
    have e : (l.take (m + 1)).reverse = [rd l (m : Int)] ++ (l.take m).reverse := by
      rw [List.take_succ_eq_append_getElem (by omega), List.reverse_append, rd_nat l m (by omega)]
      rfl
    rw [e]
    refine Ev.step (fun k => ?_) hr
    simp only [spec_heBack.l0]
    rw [show (((m + 1 : Nat) : Int) - 1) = (m : Int) by omega, if_pos (by omega), if_pos (by omega), if_pos (by omega), if_pos (by omega), wm1 m (by omega)]
theorem back_ev (l : List Int) (hl : l.length ≤ 1048576) : Ev (fun k => spec_heBack.f k l) l.reverse := by
  have h := back_loop l hl l.length [] (by omega) (by simpa using hl)
  rw [List.take_length, List.nil_append] at h
  refine Ev.congr (fun k => ?_) h
  simp only [spec_heBack.f]
  rw [wm1 l.length (by omega)]
theorem mx_if (a b : Int) : mx a b = if a > b then a else b := by
  unfold mx; split <;> split <;> omega
/-! rising and falling -/
def bst (p : Int → Bool) : List (Int × Int) → Int
  | [] => 0
  | (o, c) :: t => if p o = true then max c (bst p t) else bst p t
theorem bst_nonneg (p : Int → Bool) : ∀ t, 0 ≤ bst p t
  | [] => by simp [bst]
  | (o, c) :: t => by
    have := bst_nonneg p t
    simp only [bst]
    split <;> omega
theorem bst_append (p : Int → Bool) : ∀ a b, bst p (a ++ b) = max (bst p a) (bst p b)
  | [], b => by have := bst_nonneg p b; simp only [List.nil_append, bst]; omega
  | (o, c) :: t, b => by
    have := bst_append p t b
    simp only [List.cons_append, bst]
    split <;> omega
theorem bst_reverse (p : Int → Bool) : ∀ a, bst p a.reverse = bst p a
  | [] => rfl
  | (o, c) :: t => by
    have h0 := bst_nonneg p t
    rw [List.reverse_cons, bst_append, bst_reverse p t]
    simp only [bst]
    split <;> omega
theorem bst_le (p : Int → Bool) (n : Int) (h0 : 0 ≤ n) : ∀ t : List (Int × Int), (∀ q ∈ t, q.2 ≤ n) → bst p t ≤ n
  | [], _ => by simpa [bst] using h0
  | (o, c) :: t, h => by
    have h1 := bst_le p n h0 t (fun q hq => h q (List.mem_cons_of_mem _ hq))
    have h2 := h (o, c) (List.mem_cons_self ..)
    simp only at h2
    simp only [bst]
    split <;> omega
def risL : List Int → List Int
  | [] => []
  | h :: t => (bst (fun o => decide (h < o)) (t.zip (risL t)) + 1) :: risL t
theorem risL_len : ∀ t, (risL t).length = t.length
  | [] => rfl
  | _ :: t => by simp [risL, risL_len t]
theorem risL_drop : ∀ (l : List Int) (k : Nat), (risL l).drop k = risL (l.drop k)
  | [], k => by simp [risL]
  | _ :: _, 0 => rfl
  | h :: t, k + 1 => by simp only [risL, List.drop_succ_cons]; exact risL_drop t k
theorem risL_mem : ∀ (l : List Int), ∀ c ∈ risL l, 1 ≤ c ∧ c ≤ (l.length : Int)
  | [], c, hc => by simp [risL] at hc
  | h :: t, c, hc => by
    simp only [risL, List.mem_cons] at hc
    have ih := risL_mem t
    rcases hc with rfl | hc
    · have h1 := bst_nonneg (fun o => decide (h < o)) (t.zip (risL t))
      have h2 := bst_le (fun o => decide (h < o)) (t.length : Int) (by omega) (t.zip (risL t)) (fun q hq => (ih q.2 (List.of_mem_zip hq).2).2)
      simp only [List.length_cons]; omega
    · have := ih c hc
      simp only [List.length_cons]; omega
def falL : List Int → List Int
  | [] => []
  | h :: t => (bst (fun o => decide (o < h)) (t.zip (falL t)) + 1) :: falL t
theorem falL_len : ∀ t, (falL t).length = t.length
  | [] => rfl
  | _ :: t => by simp [falL, falL_len t]
theorem falL_drop : ∀ (l : List Int) (k : Nat), (falL l).drop k = falL (l.drop k)
  | [], k => by simp [falL]
  | _ :: _, 0 => rfl
  | h :: t, k + 1 => by simp only [falL, List.drop_succ_cons]; exact falL_drop t k
theorem falL_mem : ∀ (l : List Int), ∀ c ∈ falL l, 1 ≤ c ∧ c ≤ (l.length : Int)
  | [], c, hc => by simp [falL] at hc
  | h :: t, c, hc => by
    simp only [falL, List.mem_cons] at hc
    have ih := falL_mem t
    rcases hc with rfl | hc
    · have h1 := bst_nonneg (fun o => decide (o < h)) (t.zip (falL t))
      have h2 := bst_le (fun o => decide (o < h)) (t.length : Int) (by omega) (t.zip (falL t)) (fun q hq => (ih q.2 (List.of_mem_zip hq).2).2)
      simp only [List.length_cons]; omega
    · have := ih c hc
      simp only [List.length_cons]; omega
theorem bst_map (h : Int) : ∀ (t cs : List Int), bst (fun o => decide (101 - h < o)) ((t.map fun o => 101 - o).zip cs) = bst (fun o => decide (o < h)) (t.zip cs)
  | [], cs => by simp [bst]
  | o :: t, [] => by simp [bst]
  | o :: t, c :: cs => by
    have ih := bst_map h t cs
    simp only [List.map_cons, List.zip_cons_cons, bst, ih]
    have : (decide (101 - h < 101 - o)) = decide (o < h) := by
      by_cases c : o < h
      · rw [decide_eq_true c, decide_eq_true (by omega)]
      · rw [decide_eq_false c, decide_eq_false (by omega)]
    rw [this]
theorem fal_ris : ∀ l : List Int, risL (l.map fun o => 101 - o) = falL l
  | [] => rfl
  | h :: t => by
    simp only [List.map_cons, risL, falL, fal_ris t]
    rw [bst_map]
/-- The head's own number. -/
def hdF (l : List Int) : Int := rd (falL l) 0
theorem hdF_cons (h : Int) (t : List Int) : hdF (h :: t) = bst (fun o => decide (o < h)) (t.zip (falL t)) + 1 := rfl
theorem rd_zero (l : List Int) (h : 0 < l.length) : rd l 0 = l[0] := rd_nat l 0 h
theorem rd_zero_cons (h : Int) (t : List Int) : rd (h :: t) 0 = h := rfl
theorem rd_drop (l : List Int) (i : Nat) (h : i < l.length) : rd (l.drop i) 0 = rd l (i : Int) := by
  rw [drop_cons l i h]; rfl
theorem falL_rd (l : List Int) (i : Nat) (h : i < l.length) : rd (falL l) (i : Int) = hdF (l.drop i) := by
  rw [← rd_drop _ i (by rw [falL_len]; exact h), falL_drop]; rfl
theorem hdF_bd (l : List Int) (h : 0 < l.length) : 1 ≤ hdF l ∧ hdF l ≤ (l.length : Int) := by
  match l, h with
  | a :: t, _ =>
    have := falL_mem (a :: t) (hdF (a :: t)) (by rw [hdF_cons]; simp [falL])
    exact this
theorem ris_in_spec (l : List Int) (hl : l.length ≤ 40) (i : Nat) (hi : i < l.length) (x : List Int) (hx : x.length = l.length) (hd : x.drop (i + 1) = risL (l.drop (i + 1))) (R : List Int) : ∀ (d j : Nat) (m : Int), j + d = l.length → i < j → 0 ≤ m → m ≤ 40 →
    Ev (fun k => spec_heRising.l0 k l (x.set i (max m (bst (fun o => decide (rd l (i : Int) < o)) ((l.drop j).zip (risL (l.drop j)))) + 1)) ((i : Int) - 1)) R →
    Ev (fun k => spec_heRising.l1 k l x (i : Int) m (j : Int)) R := by
  intro d
  induction d with
  | zero =>
    intro j m hj hij hm0 hm hev
    rw [List.drop_eq_nil_of_le (by omega)] at hev
    simp only [risL, List.zip_nil_left, bst] at hev
    rw [show max m 0 = m by omega] at hev
    refine Ev.step (fun k => ?_) hev
    simp only [spec_heRising.l1]
    rw [if_neg (by omega), if_pos (by omega), if_pos (by omega), show wrap64 (m + 1) = m + 1 by unfold wrap64; omega, wm1 i (by omega)]
    rfl
  | succ d ih =>
    intro j m hj hij hm0 hm hev
    have hlt : j < l.length := by omega
    have hxj : x.drop j = risL (l.drop j) := by
      have : x.drop j = (x.drop (i + 1)).drop (j - (i + 1)) := by rw [List.drop_drop]; congr 1; omega
      rw [this, hd, risL_drop, List.drop_drop]; congr 2; omega
    have hrx : rd x (j : Int) = rd (risL (l.drop j)) 0 := by
      rw [← rd_drop x j (by omega), hxj]
    have hb := risL_mem (l.drop j) (rd (risL (l.drop j)) 0) (by
      rw [rd_zero (risL (l.drop j)) (by rw [risL_len, List.length_drop]; omega)]
      exact List.getElem_mem _)
    rw [List.length_drop] at hb
    have hz : (l.drop j).zip (risL (l.drop j)) = (rd l (j : Int), rd (risL (l.drop j)) 0) :: (l.drop (j + 1)).zip (risL (l.drop (j + 1))) := by
      rw [drop_cons l j hlt]
      simp [risL, rd_zero_cons]
    rw [hz] at hev
    simp only [bst] at hev
    by_cases c : rd l (j : Int) > rd l (i : Int)
    · have c' : rd l (i : Int) < rd l (j : Int) := c
      rw [if_pos (decide_eq_true c')] at hev
      have hr := ih (j + 1) (max m (rd (risL (l.drop j)) 0)) (by omega) (by omega) (by omega) (by omega) (by rw [show ∀ a b c : Int, max (max a b) c = max a (max b c) by intros; omega]; exact hev)
      refine Ev.step (fun k => ?_) hr
      simp only [spec_heRising.l1, spec_l1Most.f]
      rw [if_pos (by omega), if_pos (by omega), if_pos (by omega), if_pos (by omega), if_pos c, if_pos (by omega), hrx, w1 j (by omega)]
      by_cases c2 : m > rd (risL (l.drop j)) 0
      · rw [if_pos c2, show max m (rd (risL (l.drop j)) 0) = m by omega]; rfl
      · rw [if_neg c2, show max m (rd (risL (l.drop j)) 0) = rd (risL (l.drop j)) 0 by omega]; rfl
    · have c' : ¬ rd l (i : Int) < rd l (j : Int) := c
      rw [if_neg (show ¬ (decide _ = true) by rw [decide_eq_true_eq]; exact c')] at hev
      refine Ev.step (fun k => ?_) (ih (j + 1) m (by omega) (by omega) hm0 hm hev)
      simp only [spec_heRising.l1]
      rw [if_pos (by omega), if_pos (by omega), if_pos (by omega), if_pos (by omega), if_neg c, w1 j (by omega)]
theorem ris_head (l : List Int) (i : Nat) (hi : i < l.length) : risL (l.drop i) = (bst (fun o => decide (rd l (i : Int) < o)) ((l.drop (i + 1)).zip (risL (l.drop (i + 1)))) + 1) :: risL (l.drop (i + 1)) := by
  rw [drop_cons l i hi]; rfl
theorem ris_set (l x : List Int) (i : Nat) (hi : i < l.length) (hx : x.length = l.length) (hd : x.drop (i + 1) = risL (l.drop (i + 1))) (v : Int) (hv : v = bst (fun o => decide (rd l (i : Int) < o)) ((l.drop (i + 1)).zip (risL (l.drop (i + 1)))) + 1) :
    (x.set i v).drop i = risL (l.drop i) := by
  rw [ris_head l i hi, ← hv, List.drop_eq_getElem_cons (by simpa using by omega), List.getElem_set_self]
  congr 1
  rw [List.drop_set_of_lt (by omega), hd]
theorem ris_out_spec (l : List Int) (hl : l.length ≤ 40) : ∀ (m : Nat) (x : List Int), m ≤ l.length → x.length = l.length → x.drop m = risL (l.drop m) →
    Ev (fun k => spec_heRising.l0 k l x ((m : Int) - 1)) (risL l) := by
  intro m
  induction m with
  | zero =>
    intro x hm hx hd
    rw [List.drop_zero, List.drop_zero] at hd
    subst hd
    refine Ev.step (f := fun _ => some (risL l)) (fun k => ?_) (Ev.now _)
    simp only [spec_heRising.l0]
    rw [if_neg (by omega)]
  | succ i ih =>
    intro x hm hx hd
    have hb0 := bst_nonneg (fun o => decide (rd l (i : Int) < o)) ((l.drop (i + 1)).zip (risL (l.drop (i + 1))))
    have hr := ih (x.set i (max 0 (bst (fun o => decide (rd l (i : Int) < o)) ((l.drop (i + 1)).zip (risL (l.drop (i + 1))))) + 1)) (by omega) (by simpa using hx)
      (ris_set l x i (by omega) hx hd _ (by omega))
    have h2 := ris_in_spec l hl i (by omega) x hx hd _ (l.length - (i + 1)) (i + 1) 0 (by omega) (by omega) (by omega) (by omega) hr
    refine Ev.step (fun k => ?_) h2
    simp only [spec_heRising.l0]
    rw [show (((i + 1 : Nat) : Int) - 1) = (i : Int) by omega, if_pos (by omega), w1 i (by omega)]
theorem rising_spec_ev (l : List Int) (hl : l.length ≤ 40) : Ev (fun k => spec_heRising.f k l) (risL l) := by
  have h := ris_out_spec l hl l.length (List.replicate l.length 0) (by omega) (by simp) (by
    rw [List.drop_eq_nil_of_le (by simp), List.drop_eq_nil_of_le (by omega)]; rfl)
  refine Ev.congr (fun k => ?_) h
  simp only [spec_heRising.f]
  rw [if_pos (by omega), if_pos (by simp; omega), wm1 l.length (by omega)]
  simp
theorem fal_loop (l : List Int) (hl : l.length ≤ 40) (hg : ∀ x ∈ l, 1 ≤ x ∧ x ≤ 100) : ∀ (d i : Nat) (out : List Int), i + d = l.length → out = (l.take i).map (fun o => 101 - o) →
    Ev (fun k => spec_heFalling.l0 k out l (l.length : Int) (i : Int)) (falL l) := by
  intro d
  induction d with
  | zero =>
    intro i out hi ho
    have e : out = l.map (fun o => 101 - o) := by rw [ho, List.take_of_length_le (by omega)]
    have h := rising_spec_ev out (by rw [e, List.length_map]; exact hl)
    rw [e, fal_ris] at h
    rw [e]
    refine Ev.step (f := fun k => (spec_heRising.f k (l.map fun o => 101 - o)).bind fun t => some t) (fun k => ?_) (Ev.bind h (Ev.now _))
    simp only [spec_heFalling.l0]
    rw [if_neg (by omega)]
  | succ d ih =>
    intro i out hi ho
    have hlt : i < l.length := by omega
    have hb := hg (rd l (i : Int)) (by rw [rd_nat l i hlt]; exact List.getElem_mem _)
    have hol : out.length = i := by rw [ho]; simp; omega
    refine Ev.step (fun k => ?_) (ih (i + 1) (out ++ [101 - rd l (i : Int)]) (by omega) (by
      rw [ho, List.take_succ_eq_append_getElem hlt, List.map_append, rd_nat l i hlt]; rfl))
    simp only [spec_heFalling.l0]
    rw [if_pos (by omega), if_pos (by omega), if_pos (by omega), if_pos (by omega), show wrap64 (101 - rd l (i : Int)) = 101 - rd l (i : Int) by unfold wrap64; omega, w1 i (by omega)]
theorem falling_ev (l : List Int) (hl : l.length ≤ 40) (hg : ∀ x ∈ l, 1 ≤ x ∧ x ≤ 100) : Ev (fun k => spec_heFalling.f k l) (falL l) :=
  fal_loop l hl hg l.length 0 [] (by omega) (by simp)
/-- The greatest number of soldiers who are a mountain whose top stands at one of the places from i on. -/
def mtn (l : List Int) : Nat → Nat → Int → Int
  | _, 0, m => m
  | i, d + 1, m => mtn l (i + 1) d (if m > hdF ((l.take (i + 1)).reverse) + hdF (l.drop i) - 1 then m else hdF ((l.take (i + 1)).reverse) + hdF (l.drop i) - 1)
theorem up_rd (l : List Int) (i : Nat) (hi : i < l.length) : rd ((falL l.reverse).reverse) (i : Int) = hdF ((l.take (i + 1)).reverse) := by
  have hlen : (falL l.reverse).length = l.length := by rw [falL_len, List.length_reverse]
  rw [rd_nat _ i (by rw [List.length_reverse, hlen]; exact hi), List.getElem_reverse]
  have e := falL_rd l.reverse ((falL l.reverse).length - 1 - i) (by rw [hlen, List.length_reverse]; omega)
  rw [rd_nat _ _ (by omega)] at e
  rw [e, List.drop_reverse]
  congr 3
  omega
theorem mtn_bd (l : List Int) (i : Nat) (hi : i < l.length) : 1 ≤ hdF ((l.take (i + 1)).reverse) ∧ hdF ((l.take (i + 1)).reverse) ≤ (i : Int) + 1 ∧ 1 ≤ hdF (l.drop i) ∧ hdF (l.drop i) ≤ (l.length : Int) - (i : Int) := by
  have h1 := hdF_bd ((l.take (i + 1)).reverse) (by simp; omega)
  have h2 := hdF_bd (l.drop i) (by simp; omega)
  simp only [List.length_reverse, List.length_take, List.length_drop] at h1 h2
  omega
theorem mtn_range (l : List Int) : ∀ (d i : Nat) (m : Int), i + d = l.length → 0 ≤ m → m ≤ (l.length : Int) → 0 ≤ mtn l i d m ∧ mtn l i d m ≤ (l.length : Int)
  | 0, i, m, _, h0, h1 => ⟨h0, h1⟩
  | d + 1, i, m, hi, h0, h1 => by
    have hb := mtn_bd l i (by omega)
    simp only [mtn]
    split
    · exact mtn_range l d (i + 1) m (by omega) h0 h1
    · exact mtn_range l d (i + 1) _ (by omega) (by omega) (by omega)
theorem mtn_spec_loop (l : List Int) (hl : l.length ≤ 40) : ∀ (d i : Nat) (m : Int), i + d = l.length → 0 ≤ m → m ≤ (l.length : Int) →
    Ev (fun k => spec_heMountain.l0 k (falL l) ((falL l.reverse).reverse) m (l.length : Int) (i : Int)) (mtn l i d m) := by
  intro d
  induction d with
  | zero =>
    intro i m hi _ _
    refine Ev.step (f := fun _ => some m) (fun k => ?_) (Ev.now _)
    simp only [spec_heMountain.l0]
    rw [if_neg (by omega)]
  | succ d ih =>
    intro i m hi h0 h1
    have hlt : i < l.length := by omega
    have hb := mtn_bd l i hlt
    have hl1 : (falL l).length = l.length := falL_len l
    have hl2 : ((falL l.reverse).reverse).length = l.length := by rw [List.length_reverse, falL_len, List.length_reverse]
    simp only [mtn]
    have hstep : ∀ k, spec_heMountain.l0 (k + 1) (falL l) ((falL l.reverse).reverse) m (l.length : Int) (i : Int) = spec_heMountain.l0 k (falL l) ((falL l.reverse).reverse) (if m > hdF ((l.take (i + 1)).reverse) + hdF (l.drop i) - 1 then m else hdF ((l.take (i + 1)).reverse) + hdF (l.drop i) - 1) (l.length : Int) ((i + 1 : Nat) : Int) := by
      intro k
      simp only [spec_heMountain.l0, spec_l1Most.f]
      rw [if_pos (by omega), if_pos (by omega), hl1, hl2, if_pos (by omega), if_pos (by omega), up_rd l i hlt, falL_rd l i hlt,
        show wrap64 (hdF ((l.take (i + 1)).reverse) + hdF (l.drop i)) = hdF ((l.take (i + 1)).reverse) + hdF (l.drop i) by unfold wrap64; omega,
        show wrap64 (hdF ((l.take (i + 1)).reverse) + hdF (l.drop i) - 1) = hdF ((l.take (i + 1)).reverse) + hdF (l.drop i) - 1 by unfold wrap64; omega, w1 i (by omega)]
      split <;> rfl
    refine Ev.step hstep ?_
    split
    · exact ih (i + 1) m (by omega) h0 h1
    · exact ih (i + 1) _ (by omega) (by omega) (by omega)
theorem mountain_spec_ev (l : List Int) (h : good l = true) : Ev (fun k => spec_heMountain.f k l) (mtn l 0 l.length 0) := by
  have hl := (good_len h).2
  have hm := good_mem h
  have hmr : ∀ x ∈ l.reverse, 1 ≤ x ∧ x ≤ 100 := fun x hx => hm x (by simpa using hx)
  refine Ev.bind (falling_ev l hl hm) ?_
  refine Ev.bind (back_ev l (by omega)) ?_
  refine Ev.bind (falling_ev l.reverse (by simpa using hl) hmr) ?_
  refine Ev.bind (back_ev (falL l.reverse) (by rw [falL_len, List.length_reverse]; omega)) ?_
  exact mtn_spec_loop l hl l.length 0 0 (by omega) (by omega) (by omega)
theorem zip_rev : ∀ (a b : List Int), a.length = b.length → (a.zip b).reverse = a.reverse.zip b.reverse
  | [], [], _ => rfl
  | [], _ :: _, h => by simp at h
  | _ :: _, [], h => by simp at h
  | x :: a, y :: b, h => by
    have h' : a.length = b.length := by simpa using h
    simp only [List.zip_cons_cons, List.reverse_cons, zip_rev a b h']
    rw [List.zip_append (by simpa using h')]
    rfl
theorem last_in (l : List Int) (hl : l.length ≤ 40) (i : Nat) (hi : i < l.length) (many : List Int) (hm : many.length = i) (hmb : ∀ c ∈ many, 1 ≤ c ∧ c ≤ 40) (h : Int) (R : Int) : ∀ (d j : Nat) (b : Int), j + d = i → 0 ≤ b → b ≤ 40 →
    Ev (fun k => impl_lastRising.l0 k l (many ++ [max b (bst (fun o => decide (o < h)) (((l.take i).drop j).zip (many.drop j))) + 1]) l (l.length : Int) ((i + 1 : Nat) : Int)) R →
    Ev (fun k => impl_lastRising.l1 k l many h (b + 1) l (l.length : Int) (i : Int) (i : Int) (j : Int)) R := by
  intro d
  induction d with
  | zero =>
    intro j b hj hb0 hb hev
    rw [List.drop_eq_nil_of_le (by simp; omega)] at hev
    simp only [List.zip_nil_left, bst] at hev
    rw [show max b 0 = b by omega] at hev
    refine Ev.step (fun k => ?_) hev
    simp only [impl_lastRising.l1]
    rw [if_neg (by omega), if_pos (by omega), w1 i (by omega)]
  | succ d ih =>
    intro j b hj hb0 hb hev
    have h1 : j < many.length := by omega
    have h2 : j < (l.take i).length := by simp; omega
    have e1 : rd (l.take i) (j : Int) = rd l (j : Int) := by rw [rd_nat _ j h2, rd_nat l j (by omega)]; simp
    have hmj := hmb (rd many (j : Int)) (by rw [rd_nat many j h1]; exact List.getElem_mem _)
    rw [drop_cons many j h1, drop_cons (l.take i) j h2, e1] at hev
    simp only [List.zip_cons_cons, bst] at hev
    by_cases c : rd l (j : Int) < h
    · rw [if_pos (decide_eq_true c)] at hev
      have hr := ih (j + 1) (max b (rd many (j : Int))) (by omega) (by omega) (by omega) (by rw [show ∀ a b c : Int, max (max a b) c = max a (max b c) by intros; omega]; exact hev)
      refine Ev.step (fun k => ?_) hr
      simp only [impl_lastRising.l1]
      rw [if_pos (by omega), if_pos (by omega), if_pos (by omega), if_pos c, if_pos (by omega), show wrap64 (1 + rd many (j : Int)) = 1 + rd many (j : Int) by unfold wrap64; omega, w1 j (by omega)]
      congr 1
      unfold mx; split <;> omega
    · rw [if_neg (show ¬ (decide _ = true) by rw [decide_eq_true_eq]; exact c)] at hev
      refine Ev.step (fun k => ?_) (ih (j + 1) b (by omega) hb0 hb hev)
      simp only [impl_lastRising.l1]
      rw [if_pos (by omega), if_pos (by omega), if_pos (by omega), if_neg c, w1 j (by omega)]
theorem last_out (l : List Int) (hl : l.length ≤ 40) (hpos : 0 < l.length) : ∀ (d i : Nat), i + d = l.length →
    Ev (fun k => impl_lastRising.l0 k l ((falL (l.take i).reverse).reverse) l (l.length : Int) (i : Int)) (hdF l.reverse) := by
  intro d
  induction d with
  | zero =>
    intro i hi
    rw [List.take_of_length_le (by omega)]
    refine Ev.step (f := fun _ => some (hdF l.reverse)) (fun k => ?_) (Ev.now _)
    have hlen : ((falL l.reverse).reverse).length = l.length := by rw [List.length_reverse, falL_len, List.length_reverse]
    simp only [impl_lastRising.l0]
    rw [if_neg (by omega), hlen, wm1 l.length (by omega), if_pos (by omega), if_pos (by omega)]
    rw [show ((l.length : Int) - 1) = ((l.length - 1 : Nat) : Int) by omega, rd_nat _ _ (by omega), List.getElem_reverse]
    unfold hdF
    rw [show (0 : Int) = ((0 : Nat) : Int) from rfl, rd_nat _ 0 (by rw [falL_len, List.length_reverse]; omega)]
    congr 2
    rw [falL_len, List.length_reverse]; omega
  | succ d ih =>
    intro i hi
    have hlt : i < l.length := by omega
    have hr := ih (i + 1) (by omega)
    have hlm : ((falL (l.take i).reverse).reverse).length = i := by rw [List.length_reverse, falL_len, List.length_reverse, List.length_take]; omega
    have e : (falL (l.take (i + 1)).reverse).reverse = (falL (l.take i).reverse).reverse ++ [max 0 (bst (fun o => decide (o < rd l (i : Int))) (((l.take i).drop 0).zip (((falL (l.take i).reverse).reverse).drop 0))) + 1] := by
      have h0 := bst_nonneg (fun o => decide (o < rd l (i : Int))) (((l.take i).drop 0).zip (((falL (l.take i).reverse).reverse).drop 0))
      rw [show ∀ z : Int, 0 ≤ z → max 0 z = z from fun z hz => by omega]
      · rw [List.take_succ_eq_append_getElem hlt, List.reverse_append, ← rd_nat l i hlt]
        simp only [List.reverse_cons, List.reverse_nil, List.nil_append, List.cons_append, falL, List.drop_zero]
        congr 3
        rw [← bst_reverse, zip_rev _ _ (by simp [falL_len])]
        rw [List.reverse_reverse]
      · exact h0
    rw [e] at hr
    have h2 := last_in l hl i hlt _ hlm (fun c hc => by
      have := falL_mem (l.take i).reverse c (by simpa using hc)
      rw [List.length_reverse, List.length_take] at this
      omega) (rd l (i : Int)) _ i 0 0 (by omega) (by omega) (by omega) hr
    refine Ev.step (fun k => ?_) h2
    simp only [impl_lastRising.l0]
    rw [if_pos (by omega), if_pos (by omega), if_pos (by omega)]
    rfl
theorem last_ev (l : List Int) (hl : l.length ≤ 40) (hpos : 0 < l.length) : Ev (fun k => impl_lastRising.f k l) (hdF l.reverse) := by
  have := last_out l hl hpos l.length 0 (by omega)
  simpa [impl_lastRising.f, falL] using this
theorem last_calls (A : Option Addr) (c : Nat) (l : List Int) (hl : l.length ≤ 40) (hpos : 0 < l.length) (w : World) (h0 : Kd.C (Kd.int .i64) w A l.length l) (hc : l.length ≤ c) :
    Calls Try.prog 43 #[.slice A l.length c] w fun e w' => e = .returned (.int .i64 (hdF l.reverse)) ∧ Below w.heap.size w w' := by
  obtain ⟨k, hk⟩ := (last_ev l hl hpos).rounds
  exact impl_lastRising.calls k A c l _ w h0 hc hk
set_option maxHeartbeats 8000000 in
set_option maxRecDepth 100000 in
theorem mountain_calls (A0 : Option Addr) (c0 : Nat) (l : List Int) (hl1 : 1 ≤ l.length) (hl : l.length ≤ 40) (w : World) (h0 : Kd.C (Kd.int .i64) w A0 l.length l) (hc0 : l.length ≤ c0) :
    Calls Try.prog 36 #[.slice A0 l.length c0] w fun e w' => e = .returned (.int .i64 (mtn l 0 l.length 0)) ∧ Below w.heap.size w w' := by
  have HB := Aside0.mk (Below.refl w.heap.size w)
  have HC := Aside0.mk h0
  have HC0 := Aside0.mk hc0
  obtain ⟨T, hT0⟩ : ∃ T, mtn l 0 l.length 0 = T := ⟨_, rfl⟩
  rw [hT0]
  have HE0 : Aside0 (mtn l 0 (l.length - 0) 0 = T) := ⟨by rw [Nat.sub_zero]; exact hT0⟩
  clear hT0
  clear h0 hc0
  go_enter Try.func36, Try.ntmps36
  go_wp2_with fail
  go_loopg [3, 7] l.length (fun kq v3 v7 w' => ∃ (i : Nat) (m : Int), v3 = .int .i64 m ∧ v7 = .int .i64 (i : Int) ∧ Aside0 (kq + i = l.length) ∧ Aside0 (0 ≤ m ∧ m ≤ (l.length : Int)) ∧ Aside0 (mtn l i (l.length - i) m = T) ∧ Aside0 (Below w.heap.size w w'))
  case atStart => exact ⟨0, 0, rfl, rfl, ⟨rfl⟩, ⟨by omega⟩, HE0, HB⟩
  case round =>
    clear HB HE0
    obtain ⟨i, m, rfl, rfl, HK, HM, HE, HB⟩ := hrel
    by_cases hi : i < l.length
    · have HE1 := HE.out
      rw [show l.length - i = (l.length - (i + 1)) + 1 by omega, mtn] at HE1
      have hb := mtn_bd l i hi
      obtain ⟨i010, hi010, _, hsz10, _⟩ := info_parts HClone.info_int
      have hw1 : IntKind.i64.wrap ((i : Int) + 1) = (i : Int) + 1 := IntWalk.i64_in _ (by omega)
      have hcutT := print_take_of (P := Try.prog) (Value.int .i64) 0 22 3 .i64 Try.underlying22 hi010 hsz10 A0 c0 l ((i : Int) + 1) (by omega) (by omega) HC0.out
      obtain ⟨hcut1, hA1, hC1⟩ := hcutT
      obtain ⟨A10, hcut10, hA10, hC10⟩ := print_drop_of (P := Try.prog) (Value.int .i64) 0 22 3 .i64 Try.underlying22 hi010 hsz10 A0 c0 l (i : Int) (by omega) (by omega) HC0.out
      have HR1 := Aside0.mk (fun W (h : Below w.heap.size w W) => (Kd.C_of_reads (h1 := fun _ => rfl) (hA1 W (Kd.reads_of_C (Kd.C_below HC.out h))) : Kd.C (Kd.int .i64) W A0 (l.take ((i : Int) + 1).toNat).length (l.take ((i : Int) + 1).toNat)))
      have HR10 := Aside0.mk (fun W (h : Below w.heap.size w W) => (Kd.C_of_reads (h1 := fun _ => rfl) (hA10 W (Kd.reads_of_C (Kd.C_below HC.out h))) : Kd.C (Kd.int .i64) W A10 (l.drop ((i : Int)).toNat).length (l.drop ((i : Int)).toNat)))
      have et : l.take ((i : Int) + 1).toNat = l.take (i + 1) := by congr 1
      have ed : l.drop ((i : Int)).toNat = l.drop i := by congr 1
      rw [et] at hcut1 hC1 HR1
      rw [ed] at hcut10 hC10 HR10
      have HL1 := Aside0.mk (fun W hC => last_calls A0 c0 (l.take (i + 1)) (by rw [List.length_take]; omega) (by rw [List.length_take]; omega) W hC hC1)
      have HMR := Aside0.mk (fun c W hC => HClone.mirrored_calls A10 c (l.drop i) (by rw [List.length_drop]; omega) W hC)
      have HL2 := Aside0.mk (fun A c W hC hc => last_calls A c (l.drop i).reverse (by rw [List.length_reverse, List.length_drop]; omega) (by rw [List.length_reverse, List.length_drop]; omega) W hC hc)
      rw [List.reverse_reverse] at HL2
      generalize (l.drop i).reverse = lr at HMR HL2
      generalize hdF (l.take (i + 1)).reverse = x at HL1 hb HE1
      generalize hdF (l.drop i) = y at HL2 hb HE1
      generalize l.take (i + 1) = tk at hcut1 hC1 HR1 HL1
      generalize l.drop i = dr at hcut10 hC10 HR10 HMR
      have hw2 : IntKind.i64.wrap (x + y) = x + y := IntWalk.i64_in _ (by omega)
      have hw3 : IntKind.i64.wrap (x + y - 1) = x + y - 1 := IntWalk.i64_in _ (by omega)
      have HM2 : Aside0 (0 ≤ (if m < x + y - 1 then x + y - 1 else m) ∧ (if m < x + y - 1 then x + y - 1 else m) ≤ (l.length : Int)) := ⟨by have := HM.out; split <;> omega⟩
      have HE2 : Aside0 (mtn l (i + 1) (l.length - (i + 1)) (if m < x + y - 1 then x + y - 1 else m) = T) := ⟨by
        rw [← HE1]
        by_cases c : m < x + y - 1
        · rw [if_pos c, if_neg (by omega)]
        · by_cases c2 : m > x + y - 1
          · rw [if_neg c, if_pos c2]
          · rw [if_neg c, if_neg c2, show x + y - 1 = m by omega]⟩
      clear hA1 hA10 hi010 hsz10 HE HE1 et ed hb HM
      go_wp2_with fail
      go_region_held3 (fun w' => True) (trivial) (first | (go_at_call 30; (with_reducible refine (HMR.out _ _ ?side1).mono ?_); (case side1 => exact HR10.out _ (by repeat (first | (with_reducible first | exact HB.out | apply below_alloc | apply pw_below_drewN | apply below_drew1) | exact HB.out))); rintro e w2 ⟨v2, rfl, ho, hb2⟩; obtain ⟨A2, cp2, e2, hcp2, hC2⟩ := Kd.R_reads ho; subst e2; have HC2 := Aside0.mk hC2; have HBn := Aside0.mk (below_step (by repeat (first | (with_reducible first | exact HB.out | apply below_alloc | apply pw_below_drewN | apply below_drew1) | exact HB.out)) hb2); clear ho hC2 hb2 HB; have HB := HBn; clear HBn) | (go_at_call 43; (with_reducible refine (HL2.out A2 cp2 _ ?side1 hcp2).mono ?_); (case side1 => exact (by repeat (first | exact HC2.out | (with_reducible refine Kd.C_alloc ?_ _) | (with_reducible refine Kd.C_drewN ?_ _) | (with_reducible refine Kd.C_drew ?_)))); rintro e w3 ⟨rfl, hb3⟩; have HBn := Aside0.mk (below_step (by repeat (first | (with_reducible first | exact HB.out | apply below_alloc | apply pw_below_drewN | apply below_drew1) | exact HB.out)) hb3); clear hb3 HB; have HB := HBn; clear HBn) | (go_at_call 43; (with_reducible refine (HL1.out _ ?side1).mono ?_); (case side1 => exact HR1.out _ (by repeat (first | (with_reducible first | exact HB.out | apply below_alloc | apply pw_below_drewN | apply below_drew1) | exact HB.out))); rintro e w1 ⟨rfl, hb1⟩; have HBn := Aside0.mk (below_step (by repeat (first | (with_reducible first | exact HB.out | apply below_alloc | apply pw_below_drewN | apply below_drew1) | exact HB.out)) hb1); clear hb1 HB; have HB := HBn; clear HBn))
      all_goals go_wp2
      all_goals go_roundg (l.length - (i + 1))
      all_goals first | (have := HK.out; omega; done) | exact ⟨i + 1, _, rfl, by first | rfl | (simp; done), ⟨by omega⟩, ⟨by have h5 := HM2.out; split at h5 <;> first | exact h5 | omega⟩, ⟨by have h5 := HE2.out; split at h5 <;> first | exact h5 | omega⟩, ⟨(by repeat (first | (with_reducible first | exact HB.out | apply below_alloc | apply pw_below_drewN | apply below_drew1) | exact HB.out))⟩⟩
    · have hT := HE.out
      rw [show l.length - i = 0 by omega, mtn] at hT
      clear HE
      subst hT
      go_wp2_with fail
      go_ret
      exact ⟨rfl, (by repeat (first | (with_reducible first | exact HB.out | apply below_alloc | apply pw_below_drewN | apply below_drew1) | exact HB.out))⟩
set_option maxHeartbeats 8000000 in
set_option maxRecDepth 100000 in
theorem spec_LongestMountain (A0 : Option Addr) (c0 : Nat) (l : List Int) (hl : l.length ≤ 1048576) (w : World) (h0 : Kd.C (Kd.int .i64) w A0 l.length l) (hc0 : l.length ≤ c0) :
    Calls Try.prog 23 #[.slice A0 l.length c0] w fun e w' => e = .returned (.tuple #[.int .i64 (if good l = true then mtn l 0 l.length 0 else 0), .bool (good l)]) ∧ Below w.heap.size w w' := by
  have h : Ev (fun k => spec_LongestMountain.f k l) (if good l = true then mtn l 0 l.length 0 else 0, good l) := by
    refine Ev.bind (good_ev l hl) ?_
    cases hg : good l with
    | true =>
      simp only [if_true]
      refine Ev.bind (mountain_spec_ev l hg) ?_
      exact Ev.now _
    | false => exact Ev.now _
  obtain ⟨k, hk⟩ := h.rounds
  exact (spec_LongestMountain.calls k A0 c0 l _ _ w h0 hc0 hk).mono (fun e w' h => ⟨h.1, h.2⟩)
set_option maxHeartbeats 8000000 in
set_option maxRecDepth 100000 in
theorem impl_LongestMountain (A0 : Option Addr) (c0 : Nat) (l : List Int) (hl : l.length ≤ 1048576) (w : World) (h0 : Kd.C (Kd.int .i64) w A0 l.length l) (hc0 : l.length ≤ c0) :
    Calls Try.prog 24 #[.slice A0 l.length c0] w fun e w' => e = .returned (.tuple #[.int .i64 (if good l = true then mtn l 0 l.length 0 else 0), .bool (good l)]) ∧ Below w.heap.size w w' := by
  have HB := Aside0.mk (Below.refl w.heap.size w)
  have HC := Aside0.mk h0
  cases hg : good l with
  | false =>
    have HG := Aside0.mk (HImpl.are_is A0 c0 l false hg w h0 hc0)
    clear h0 hg
    go_enter Try.func24, Try.ntmps24
    go_wp2_with (go_at_call 26; refine HG.out.mono ?_; rintro e w' ⟨rfl, ⟨nd, rfl⟩⟩)
    go_ret2
    exact ⟨rfl, (by repeat (first | (with_reducible first | exact HB.out | apply below_alloc | apply pw_below_drewN | apply below_drew1) | exact HB.out))⟩
  | true =>
    have HG := Aside0.mk (HImpl.are_is A0 c0 l true hg w h0 hc0)
    obtain ⟨hl1, hl2⟩ := good_len hg
    clear h0 hg
    simp only [if_true]
    have HMT := Aside0.mk (fun W hC => mountain_calls A0 c0 l hl1 hl2 W hC hc0)
    have HRG := Aside0.mk (mtn_range l l.length 0 0 (by omega) (by omega) (by omega))
    generalize mtn l 0 l.length 0 = T at HMT HRG
    have hrg := HRG.out
    go_enter Try.func24, Try.ntmps24
    go_wp2_with (first | (go_at_call 26; refine HG.out.mono ?_; rintro e w' ⟨rfl, ⟨nd, rfl⟩⟩) | (go_at_call 36; refine (HMT.out _ (Kd.C_below HC.out (by repeat (first | (with_reducible first | exact HB.out | apply below_alloc | apply pw_below_drewN | apply below_drew1) | exact HB.out)))).mono ?_; rintro e w2 ⟨rfl, hb⟩; have HBn := Aside0.mk (below_step (by repeat (first | (with_reducible first | exact HB.out | apply below_alloc | apply pw_below_drewN | apply below_drew1) | exact HB.out)) hb); clear hb HB; have HB := HBn; clear HBn))
    go_ret2
    exact ⟨rfl, (by repeat (first | (with_reducible first | exact HB.out | apply below_alloc | apply pw_below_drewN | apply below_drew1) | exact HB.out))⟩
set_option maxHeartbeats 8000000 in
set_option maxRecDepth 100000 in
theorem LongestMountain_same (A0 : Option Addr) (c0 : Nat) (l : List Int) (g : Int) (b : Bool) (w : World) (hl : l.length ≤ 1048576)
    (h0 : Kd.C (Kd.int .i64) w A0 l.length l) (hc0 : l.length ≤ c0)
    (hS : ∀ (A : Option Addr) (c : Nat) (W : World), Kd.C (Kd.int .i64) W A l.length l → l.length ≤ c → Calls Try.prog 23 #[.slice A l.length c] W fun e w' => e = .returned (.tuple #[.int .i64 g, .bool b]) ∧ Below W.heap.size W w')
    (hI : ∀ (A : Option Addr) (c : Nat) (W : World), Kd.C (Kd.int .i64) W A l.length l → l.length ≤ c → Calls Try.prog 24 #[.slice A l.length c] W fun e w' => e = .returned (.tuple #[.int .i64 g, .bool b]) ∧ Below W.heap.size W w') :
    Calls Try.prog 8 #[.slice A0 l.length c0] w fun e w' => e = .returned (.bool true) ∧ Below w.heap.size w w' := by
  have HS := Aside0.mk hS
  have HI := Aside0.mk hI
  have HC := Aside0.mk h0
  have HL := Aside0.mk hl
  clear hS hI h0
  go_enter Try.func8, Try.ntmps8
  go_wp2_with fail
  refine (HSpecG.to_calls A0 c0 l HL.out _ HC.out hc0).mono ?_
  rintro e w1 ⟨vt, rfl, ho, hb⟩
  obtain ⟨At, ct, rfl, hlt, hCt⟩ := Kd.R_reads ho
  have HCt := Aside0.mk hCt
  have HB1 := Aside0.mk hb
  clear ho hCt hb
  go_wp2_with fail
  refine (HS.out At ct _ HCt.out hlt).mono ?_
  rintro e w2 ⟨rfl, hb⟩
  have HB2 := Aside0.mk (below_step HB1.out hb)
  clear hb HCt HB1
  go_wp2_with fail
  refine (HSpecG.to_calls A0 c0 l HL.out _ (Kd.C_below HC.out HB2.out) hc0).mono ?_
  rintro e w3 ⟨vx, rfl, hox, hb⟩
  have HX := Aside0.mk hox
  have HB3 := Aside0.mk (below_step HB2.out hb)
  obtain ⟨Ax, cx, rfl, hlx, hCx⟩ := Kd.R_reads hox
  have HCX := Aside0.mk hCx
  clear hox hb hCx HB2
  go_wp2_with fail
  refine (HI.out Ax cx _ HCX.out hlx).mono ?_
  rintro e w4 ⟨rfl, hb⟩
  have HB4 := Aside0.mk (below_step HB3.out hb)
  have HX4 := Aside0.mk (Kd.R_below HX.out hb)
  clear hb HB3 HX HCX
  cases b
  all_goals
    go_wp2_with fail
    refine (HSpecG.to_calls A0 c0 l HL.out _ (Kd.C_below HC.out HB4.out) hc0).mono ?_
    rintro e w5 ⟨vy, rfl, hoy, hb⟩
    have HB5 := Aside0.mk (below_step HB4.out hb)
    have HX5 := Aside0.mk (Kd.R_below HX4.out hb)
    obtain ⟨Ay, cy, rfl, hly, hCy⟩ := Kd.R_reads hoy
    have HCY := Aside0.mk hCy
    clear hoy hb hCy HB4 HX4
    go_wp2_with fail
    refine (RMarks.eqI Ax cx Ay cy l HL.out _ (Kd.R_reads' HX5.out).2.2 hlx HCY.out hly).mono ?_
    rintro e w' ⟨rfl, ⟨nd2, rfl⟩⟩
    have HB := HB5
    go_wp2_with fail
    go_ret
    exact ⟨rfl, (by repeat (first | (with_reducible first | exact HB.out | apply below_alloc | apply pw_below_drewN | apply below_drew1) | exact HB.out))⟩
set_option maxHeartbeats 8000000 in
set_option maxRecDepth 100000 in
theorem LongestMountain_long (A0 : Option Addr) (c0 : Nat) (l : List Int) (w : World) (hl : 1048576 < l.length) (h2 : l.length ≤ 9223372036854775807) :
    Calls Try.prog 8 #[.slice A0 l.length c0] w fun e w' => e = .returned (.bool true) ∧ Below w.heap.size w w' := by
  have HB := Aside0.mk (Below.refl w.heap.size w)
  go_enter Try.func8, Try.ntmps8
  go_wp2
  go_ret
  exact ⟨rfl, (by repeat (first | (with_reducible first | exact HB.out | apply below_alloc | apply pw_below_drewN | apply below_drew1) | exact HB.out))⟩
theorem LongestMountain_walk (A0 : Option Addr) (c0 : Nat) (l : List Int) (w : World) (h0 : Kd.C (Kd.int .i64) w A0 l.length l) (hc0 : l.length ≤ c0) (hm : l.length ≤ maxLen) :
    Calls Try.prog 8 #[.slice A0 l.length c0] w fun e w' => e = .returned (.bool true) ∧ Below w.heap.size w w' := by
  rcases Nat.lt_or_ge 1048576 l.length with h | h
  · exact LongestMountain_long A0 c0 l w h (Nat.le_trans hm (by decide))
  · exact LongestMountain_same A0 c0 l _ (good l) w h h0 hc0 (fun A c W hC hc => spec_LongestMountain A c l h W hC hc) (fun A c W hC hc => impl_LongestMountain A c l h W hC hc)
end Go.Proofs.Ytfkbacdaoeecdab.HMtn
