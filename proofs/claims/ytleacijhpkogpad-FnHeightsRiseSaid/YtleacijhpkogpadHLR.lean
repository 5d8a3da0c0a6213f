/- The longest rising: the walk of impl.LongestRising and of the law; the reference over its printed walk. -/
import Derived.Test.YtleacijhpkogpadPFnHeightsRisex9
import Derived.Test.YtleacijhpkogpadPFnHeightsRisex6
import Derived.Test.YtleacijhpkogpadHGood
import Derived.Test.YtleacijhpkogpadPFnHeightsRisex12
import Derived.Test.YtleacijhpkogpadPFnHeightsRisex10
import Derived.Deep.RegionHeld3
import Derived.Test.YtleacijhpkogpadPFnHeightsRisex14
set_option linter.unusedVariables false
set_option linter.unusedSimpArgs false
set_option maxHeartbeats 8000000
set_option maxRecDepth 100000
namespace Go.Proofs.Ytleacijhpkogpad.HLR
open Go.RowKit YtleacijhpkogpadW.PrintWords YtleacijhpkogpadW.PrintLast YtleacijhpkogpadW.PrintMore HImpl PFnHeightsRise HSpecG HMax

theorem wm1 (m : Nat) (h : m ≤ 4611686018427387904) : wrap64 ((m : Int) - 1) = (m : Int) - 1 := by unfold wrap64; omega
theorem good_rd {l : List Int} (h : good l = true) (i : Nat) (hi : i < l.length) : 1 ≤ rd l (i : Int) ∧ rd l (i : Int) ≤ 100 := by
  rw [rd_nat l i hi]
  exact good_mem h _ (List.getElem_mem hi)
theorem mx_if (a b : Int) : mx a b = if a > b then a else b := by
  unfold mx; split <;> split <;> omega
/-! rising and falling -/
def bst (p : Int → Bool) : List (Int × Int) → Int
  | [] => 0
  | (o,c) :: t => if p o = true then max c (bst p t) else bst p t
theorem bst_nonneg (p : Int → Bool) : ∀ t,0 ≤ bst p t
  | [] => by simp [bst]
  | (o,c) :: t => by
    have := bst_nonneg p t
    simp only [bst]
    split <;> omega
theorem bst_append (p : Int → Bool) : ∀ a b,bst p (a ++ b) = max (bst p a) (bst p b)
  | [],b => by have := bst_nonneg p b; simp only [List.nil_append,bst]; omega
  | (o,c) :: t,b => by
    have := bst_append p t b
    simp only [List.cons_append,bst]
    split <;> omega
theorem bst_reverse (p : Int → Bool) : ∀ a,bst p a.reverse = bst p a
  | [] => rfl
  | (o,c) :: t => by
    have h0 := bst_nonneg p t
    rw [List.reverse_cons,bst_append,bst_reverse p t]
    simp only [bst]
    split <;> omega
theorem bst_le (p : Int → Bool) (n : Int) (h0 : 0 ≤ n) : ∀ t : List (Int × Int),(∀ q ∈ t,q.2 ≤ n) → bst p t ≤ n
  | [],_ => by simpa [bst] using h0
  | (o,c) :: t,h => by
    have h1 := bst_le p n h0 t (fun q hq => h q (List.mem_cons_of_mem _ hq))
    have h2 := h (o,c) (List.mem_cons_self ..)
    simp only at h2
    simp only [bst]
    split <;> omega
def risL : List Int → List Int
  | [] => []
  | h :: t => (bst (fun o => decide (h < o)) (t.zip (risL t)) + 1) :: risL t
theorem risL_len : ∀ t,(risL t).length = t.length
  | [] => rfl
  | _ :: t => by simp [risL,risL_len t]
theorem risL_drop : ∀ (l : List Int) (k : Nat),(risL l).drop k = risL (l.drop k)
  | [],k => by simp [risL]
  | _ :: _,0 => rfl
  | h :: t,k + 1 => by simp only [risL,List.drop_succ_cons]; exact risL_drop t k
theorem risL_mem : ∀ (l : List Int),∀ c ∈ risL l,1 ≤ c ∧ c ≤ (l.length : Int)
  | [],c,hc => by simp [risL] at hc
  | h :: t,c,hc => by
    simp only [risL,List.mem_cons] at hc
    have ih := risL_mem t
    rcases hc with rfl | hc
    · have h1 := bst_nonneg (fun o => decide (h < o)) (t.zip (risL t))
      have h2 := bst_le (fun o => decide (h < o)) (t.length : Int) (by omega) (t.zip (risL t)) (fun q hq => (ih q.2 (List.of_mem_zip hq).2).2)
      simp only [List.length_cons]; omega
    · have := ih c hc
      simp only [List.length_cons]; omega
def falL : List Int → List Int
  | [] => []
  | h :: t => (bst (fun o => decide (o < h)) (t.zip (falL t)) + 1) :: falL t
theorem falL_len : ∀ t,(falL t).length = t.length
  | [] => rfl
  | _ :: t => by simp [falL,falL_len t]
theorem falL_drop : ∀ (l : List Int) (k : Nat),(falL l).drop k = falL (l.drop k)
  | [],k => by simp [falL]
  | _ :: _,0 => rfl
  | h :: t,k + 1 => by simp only [falL,List.drop_succ_cons]; exact falL_drop t k
theorem falL_mem : ∀ (l : List Int),∀ c ∈ falL l,1 ≤ c ∧ c ≤ (l.length : Int)
  | [],c,hc => by simp [falL] at hc
  | h :: t,c,hc => by
    simp only [falL,List.mem_cons] at hc
    have ih := falL_mem t
    rcases hc with rfl | hc
    · have h1 := bst_nonneg (fun o => decide (o < h)) (t.zip (falL t))
      have h2 := bst_le (fun o => decide (o < h)) (t.length : Int) (by omega) (t.zip (falL t)) (fun q hq => (ih q.2 (List.of_mem_zip hq).2).2)
      simp only [List.length_cons]; omega
    · have := ih c hc
      simp only [List.length_cons]; omega
theorem bst_map (h : Int) : ∀ (t cs : List Int),bst (fun o => decide (101 - h < o)) ((t.map fun o => 101 - o).zip cs) = bst (fun o => decide (o < h)) (t.zip cs)
  | [],cs => by simp [bst]
  | o :: t,[] => by simp [bst]
  | o :: t,c :: cs => by
    have ih := bst_map h t cs
    simp only [List.map_cons,List.zip_cons_cons,bst,ih]
    have : (decide (101 - h < 101 - o)) = decide (o < h) := by
      by_cases c : o < h
      · rw [decide_eq_true c,decide_eq_true (by omega)]
      · rw [decide_eq_false c,decide_eq_false (by omega)]
    rw [this]
theorem fal_ris : ∀ l : List Int,risL (l.map fun o => 101 - o) = falL l
  | [] => rfl
  | h :: t => by
    simp only [List.map_cons,risL,falL,fal_ris t]
    rw [bst_map]
def hdF (l : List Int) : Int := rd (falL l) 0
theorem hdF_cons (h : Int) (t : List Int) : hdF (h :: t) = bst (fun o => decide (o < h)) (t.zip (falL t)) + 1 := rfl
theorem rd_zero (l : List Int) (h : 0 < l.length) : rd l 0 = l[0] := rd_nat l 0 h
theorem rd_zero_cons (h : Int) (t : List Int) : rd (h :: t) 0 = h := rfl
theorem rd_drop (l : List Int) (i : Nat) (h : i < l.length) : rd (l.drop i) 0 = rd l (i : Int) := by
  rw [drop_cons l i h]; rfl
theorem falL_rd (l : List Int) (i : Nat) (h : i < l.length) : rd (falL l) (i : Int) = hdF (l.drop i) := by
  rw [← rd_drop _ i (by rw [falL_len]; exact h),falL_drop]; rfl
theorem hdF_bd (l : List Int) (h : 0 < l.length) : 1 ≤ hdF l ∧ hdF l ≤ (l.length : Int) := by
  match l,h with
  | a :: t,_ =>
    have := falL_mem (a :: t) (hdF (a :: t)) (by rw [hdF_cons]; simp [falL])
    exact this
theorem ris_in_spec (l : List Int) (hl : l.length ≤ 40) (i : Nat) (hi : i < l.length) (x : List Int) (hx : x.length = l.length) (hd : x.drop (i + 1) = risL (l.drop (i + 1))) (R : List Int) : ∀ (d j : Nat) (m : Int), j + d = l.length → i < j → 0 ≤ m → m ≤ 40 →
    Ev (fun k => spec_heRising.l0 k l (x.set i (max m (bst (fun o => decide (rd l (i : Int) < o)) ((l.drop j).zip (risL (l.drop j)))) + 1)) ((i : Int) - 1)) R →
    Ev (fun k => spec_heRising.l1 k l x (i : Int) m (j : Int)) R := by
  intro d
  induction d with
  | zero =>
    intro j m hj hij hm0 hm hev
    rw [List.drop_eq_nil_of_le (by omega)] at hev
    simp only [risL,List.zip_nil_left,bst] at hev
    rw [show max m 0 = m by omega] at hev
    refine Ev.step (fun k => ?_) hev
    simp only [spec_heRising.l1]
    rw [if_neg (by omega),if_pos (by omega),if_pos (by omega),show wrap64 (m + 1) = m + 1 by unfold wrap64; omega,wm1 i (by omega)]
    rfl
  | succ d ih =>
    intro j m hj hij hm0 hm hev
    have hlt : j < l.length := by omega
    have hxj : x.drop j = risL (l.drop j) := by
      have : x.drop j = (x.drop (i + 1)).drop (j - (i + 1)) := by rw [List.drop_drop]; congr 1; omega
      rw [this,hd,risL_drop,List.drop_drop]; congr 2; omega
    have hrx : rd x (j : Int) = rd (risL (l.drop j)) 0 := by
      rw [← rd_drop x j (by omega),hxj]
    have hb := risL_mem (l.drop j) (rd (risL (l.drop j)) 0) (by
      rw [rd_zero (risL (l.drop j)) (by rw [risL_len,List.length_drop]; omega)]
      exact List.getElem_mem _)
    rw [List.length_drop] at hb
    have hz : (l.drop j).zip (risL (l.drop j)) = (rd l (j : Int),rd (risL (l.drop j)) 0) :: (l.drop (j + 1)).zip (risL (l.drop (j + 1))) := by
      rw [drop_cons l j hlt]
      simp [risL,rd_zero_cons]
    rw [hz] at hev
    simp only [bst] at hev
    by_cases c : rd l (j : Int) > rd l (i : Int)
    · have c' : rd l (i : Int) < rd l (j : Int) := c
      rw [if_pos (decide_eq_true c')] at hev
      have hr := ih (j + 1) (max m (rd (risL (l.drop j)) 0)) (by omega) (by omega) (by omega) (by omega) (by rw [show ∀ a b c : Int,max (max a b) c = max a (max b c) by intros; omega]; exact hev)
      refine Ev.step (fun k => ?_) hr
      simp only [spec_heRising.l1,spec_l1Most.f]
      rw [if_pos (by omega),if_pos (by omega),if_pos (by omega),if_pos (by omega),if_pos c,if_pos (by omega),hrx,w1 j (by omega)]
      by_cases c2 : m > rd (risL (l.drop j)) 0
      · rw [if_pos c2,show max m (rd (risL (l.drop j)) 0) = m by omega]; rfl
      · rw [if_neg c2,show max m (rd (risL (l.drop j)) 0) = rd (risL (l.drop j)) 0 by omega]; rfl
    · have c' : ¬ rd l (i : Int) < rd l (j : Int) := c
      rw [if_neg (show ¬ (decide _ = true) by rw [decide_eq_true_eq]; exact c')] at hev
      refine Ev.step (fun k => ?_) (ih (j + 1) m (by omega) (by omega) hm0 hm hev)
      simp only [spec_heRising.l1]
      rw [if_pos (by omega),if_pos (by omega),if_pos (by omega),if_pos (by omega),if_neg c,w1 j (by omega)]
theorem ris_head (l : List Int) (i : Nat) (hi : i < l.length) : risL (l.drop i) = (bst (fun o => decide (rd l (i : Int) < o)) ((l.drop (i + 1)).zip (risL (l.drop (i + 1)))) + 1) :: risL (l.drop (i + 1)) := by
  rw [drop_cons l i hi]; rfl
theorem ris_set (l x : List Int) (i : Nat) (hi : i < l.length) (hx : x.length = l.length) (hd : x.drop (i + 1) = risL (l.drop (i + 1))) (v : Int) (hv : v = bst (fun o => decide (rd l (i : Int) < o)) ((l.drop (i + 1)).zip (risL (l.drop (i + 1)))) + 1) :
    (x.set i v).drop i = risL (l.drop i) := by
  rw [ris_head l i hi,← hv,List.drop_eq_getElem_cons (by simpa using by omega),List.getElem_set_self]
  congr 1
  rw [List.drop_set_of_lt (by omega),hd]
theorem ris_out_spec (l : List Int) (hl : l.length ≤ 40) : ∀ (m : Nat) (x : List Int), m ≤ l.length → x.length = l.length → x.drop m = risL (l.drop m) →
    Ev (fun k => spec_heRising.l0 k l x ((m : Int) - 1)) (risL l) := by
  intro m
  induction m with
  | zero =>
    intro x hm hx hd
    rw [List.drop_zero,List.drop_zero] at hd
    subst hd
    refine Ev.step (f := fun _ => some (risL l)) (fun k => ?_) (Ev.now _)
    simp only [spec_heRising.l0]
    rw [if_neg (by omega)]
  | succ i ih =>
    intro x hm hx hd
    have hb0 := bst_nonneg (fun o => decide (rd l (i : Int) < o)) ((l.drop (i + 1)).zip (risL (l.drop (i + 1))))
    have hr := ih (x.set i (max 0 (bst (fun o => decide (rd l (i : Int) < o)) ((l.drop (i + 1)).zip (risL (l.drop (i + 1))))) + 1)) (by omega) (by simpa using hx)
      (ris_set l x i (by omega) hx hd _ (by omega))
    have h2 := ris_in_spec l hl i (by omega) x hx hd _ (l.length - (i + 1)) (i + 1) 0 (by omega) (by omega) (by omega) (by omega) hr
    refine Ev.step (fun k => ?_) h2
    simp only [spec_heRising.l0]
    rw [show (((i + 1 : Nat) : Int) - 1) = (i : Int) by omega,if_pos (by omega),w1 i (by omega)]
theorem rising_spec_ev (l : List Int) (hl : l.length ≤ 40) : Ev (fun k => spec_heRising.f k l) (risL l) := by
  have h := ris_out_spec l hl l.length (List.replicate l.length 0) (by omega) (by simp) (by
    rw [List.drop_eq_nil_of_le (by simp),List.drop_eq_nil_of_le (by omega)]; rfl)
  refine Ev.congr (fun k => ?_) h
  simp only [spec_heRising.f]
  rw [if_pos (by omega),if_pos (by simp; omega),wm1 l.length (by omega)]
  simp
/-! rising soldiers,as the program counts them -/
theorem ris_in_impl (l : List Int) (hl : l.length ≤ 40) (i : Nat) (hi : i < l.length) (R : List Int) : ∀ (d j : Nat) (m : Int) (x : List Int), j + d = l.length → i < j → 0 ≤ m → m ≤ 40 → x.length = l.length → x.drop (i + 1) = risL (l.drop (i + 1)) → rd x (i : Int) = m + 1 →
    Ev (fun k => impl_rising.l0 k l (x.set i (max m (bst (fun o => decide (rd l (i : Int) < o)) ((l.drop j).zip (risL (l.drop j)))) + 1)) ((i : Int) - 1)) R →
    Ev (fun k => impl_rising.l1 k l x (i : Int) (j : Int)) R := by
  intro d
  induction d with
  | zero =>
    intro j m x hj hij hm0 hm hx hd hxi hev
    rw [List.drop_eq_nil_of_le (by omega)] at hev
    simp only [risL,List.zip_nil_left,bst] at hev
    rw [show max m 0 = m by omega,← hxi] at hev
    have hself : x.set i (rd x (i : Int)) = x := by
      rw [rd_nat x i (by omega)]; simp
    rw [hself] at hev
    refine Ev.step (fun k => ?_) hev
    simp only [impl_rising.l1]
    rw [if_neg (by omega),wm1 i (by omega)]
  | succ d ih =>
    intro j m x hj hij hm0 hm hx hd hxi hev
    have hlt : j < l.length := by omega
    have hxj : x.drop j = risL (l.drop j) := by
      have : x.drop j = (x.drop (i + 1)).drop (j - (i + 1)) := by rw [List.drop_drop]; congr 1; omega
      rw [this,hd,risL_drop,List.drop_drop]; congr 2; omega
    have hrx : rd x (j : Int) = rd (risL (l.drop j)) 0 := by
      rw [← rd_drop x j (by omega),hxj]
    have hb := risL_mem (l.drop j) (rd (risL (l.drop j)) 0) (by
      rw [rd_zero (risL (l.drop j)) (by rw [risL_len,List.length_drop]; omega)]
      exact List.getElem_mem _)
    rw [List.length_drop] at hb
    have hz : (l.drop j).zip (risL (l.drop j)) = (rd l (j : Int),rd (risL (l.drop j)) 0) :: (l.drop (j + 1)).zip (risL (l.drop (j + 1))) := by
      rw [drop_cons l j hlt]
      simp [risL,rd_zero_cons]
    rw [hz] at hev
    simp only [bst] at hev
    by_cases c : rd l (j : Int) > rd l (i : Int)
    · have c' : rd l (i : Int) < rd l (j : Int) := c
      rw [if_pos (decide_eq_true c')] at hev
      have hv : mx (rd x (i : Int)) (wrap64 (1 + rd x (j : Int))) = max m (rd (risL (l.drop j)) 0) + 1 := by
        rw [hxi,hrx,show wrap64 (1 + rd (risL (l.drop j)) 0) = 1 + rd (risL (l.drop j)) 0 by unfold wrap64; omega]
        unfold mx; split <;> omega
      have hr := ih (j + 1) (max m (rd (risL (l.drop j)) 0)) (x.set i (max m (rd (risL (l.drop j)) 0) + 1)) (by omega) (by omega) (by omega) (by omega) (by simpa using hx)
        (by rw [List.drop_set_of_lt (by omega),hd]) (by rw [rd_nat _ i (by simp; omega)]; simp)
        (by rw [List.set_set,show ∀ a b c : Int,max (max a b) c = max a (max b c) by intros; omega]; exact hev)
      refine Ev.step (fun k => ?_) hr
      simp only [impl_rising.l1]
      rw [if_pos (by omega),if_pos (by omega),if_pos (by omega),if_pos (by omega),if_pos c,if_pos (by omega),if_pos (by omega),hv,w1 j (by omega)]
      rfl
    · have c' : ¬ rd l (i : Int) < rd l (j : Int) := c
      rw [if_neg (show ¬ (decide _ = true) by rw [decide_eq_true_eq]; exact c')] at hev
      refine Ev.step (fun k => ?_) (ih (j + 1) m x (by omega) (by omega) hm0 hm hx hd hxi hev)
      simp only [impl_rising.l1]
      rw [if_pos (by omega),if_pos (by omega),if_pos (by omega),if_pos (by omega),if_neg c,w1 j (by omega)]
theorem ris_out_impl (l : List Int) (hl : l.length ≤ 40) : ∀ (m : Nat) (x : List Int), m ≤ l.length → x.length = l.length → x.drop m = risL (l.drop m) →
    Ev (fun k => impl_rising.l0 k l x ((m : Int) - 1)) (risL l) := by
  intro m
  induction m with
  | zero =>
    intro x hm hx hd
    rw [List.drop_zero,List.drop_zero] at hd
    subst hd
    refine Ev.step (f := fun _ => some (risL l)) (fun k => ?_) (Ev.now _)
    simp only [impl_rising.l0]
    rw [if_neg (by omega)]
  | succ i ih =>
    intro x hm hx hd
    have hb0 := bst_nonneg (fun o => decide (rd l (i : Int) < o)) ((l.drop (i + 1)).zip (risL (l.drop (i + 1))))
    have hd1 : (x.set i 1).drop (i + 1) = risL (l.drop (i + 1)) := by rw [List.drop_set_of_lt (by omega),hd]
    have hr := ih (x.set i (max 0 (bst (fun o => decide (rd l (i : Int) < o)) ((l.drop (i + 1)).zip (risL (l.drop (i + 1))))) + 1)) (by omega) (by simpa using hx)
      (ris_set l x i (by omega) hx hd _ (by omega))
    have h2 := ris_in_impl l hl i (by omega) _ (l.length - (i + 1)) (i + 1) 0 (x.set i 1) (by omega) (by omega) (by omega) (by omega) (by simpa using hx) hd1 (by rw [rd_nat _ i (by simp; omega)]; simp) (by rw [List.set_set]; exact hr)
    refine Ev.step (fun k => ?_) h2
    simp only [impl_rising.l0]
    rw [show (((i + 1 : Nat) : Int) - 1) = (i : Int) by omega,if_pos (by omega),if_pos (by omega),if_pos (by omega),w1 i (by omega)]
    rfl
theorem rising_impl_ev (l : List Int) (hl : l.length ≤ 40) : Ev (fun k => impl_rising.f k l) (risL l) := by
  have h := ris_out_impl l hl l.length (List.replicate l.length 0) (by omega) (by simp) (by
    rw [List.drop_eq_nil_of_le (by simp),List.drop_eq_nil_of_le (by omega)]; rfl)
  refine Ev.congr (fun k => ?_) h
  simp only [impl_rising.f]
  rw [if_pos (by omega),if_pos (by simp; omega),wm1 l.length (by omega)]
  simp
def pick (l r : List Int) : Nat → Nat → Int → Int → List Int
  | _,0,_,_ => []
  | i,d + 1,due,h => if rd r (i : Int) = due then (if rd l (i : Int) > h then (i : Int) :: pick l r (i + 1) d (due - 1) (rd l (i : Int)) else pick l r (i + 1) d due h) else pick l r (i + 1) d due h
theorem pick_len (l r : List Int) : ∀ (d i : Nat) (due h : Int),(pick l r i d due h).length ≤ d
  | 0,_,_,_ => by simp [pick]
  | d + 1,i,due,h => by
    have a := pick_len l r d (i + 1) (due - 1) (rd l (i : Int))
    have b := pick_len l r d (i + 1) due h
    simp only [pick]
    split
    · split
      · simp; omega
      · omega
    · omega
theorem pick_spec (l : List Int) (hg : good l = true) : ∀ (d i : Nat) (due h : Int) (out : List Int), i + d = l.length → out.length ≤ i → -100 ≤ due - (d : Int) → due ≤ 40 →
    (out = [] ∧ h = 0 ∨ ∃ (q : Nat) (p : List Int),out = p ++ [(q : Int)] ∧ q < i ∧ h = rd l (q : Int)) →
    Ev (fun k => spec_LongestRising.l1 k l due out (risL l) (l.length : Int) (i : Int)) (out ++ pick l (risL l) i d due h,true) := by
  have hl := (good_len hg).2
  have hr : (risL l).length = l.length := risL_len l
  intro d
  induction d with
  | zero =>
    intro i due h out hi ho hd hd2 hq
    refine Ev.step (f := fun _ => some (out,true)) (fun k => ?_) ?_
    · simp only [spec_LongestRising.l1]
      rw [if_neg (by omega)]
    · simp only [pick,List.append_nil]
      exact Ev.now _
  | succ d ih =>
    intro i due h out hi ho hd hd2 hq
    have hlt : i < l.length := by omega
    have hb := risL_mem l (rd (risL l) (i : Int)) (by rw [rd_nat (risL l) i (by omega)]; exact List.getElem_mem _)
    have hgd := good_rd hg i hlt
    simp only [pick]
    by_cases c1 : rd (risL l) (i : Int) = due
    · have hpos : due > 0 := by omega
      by_cases c2 : rd l (i : Int) > h
      · rw [if_pos c1,if_pos c2]
        have hh := ih (i + 1) (due - 1) (rd l (i : Int)) (out ++ [(i : Int)]) (by omega) (by simp; omega) (by omega) (by omega) (.inr ⟨i,out,rfl,by omega,rfl⟩)
        rw [List.append_assoc] at hh
        refine Ev.step (fun k => ?_) hh
        simp only [spec_LongestRising.l1]
        rw [if_pos (by omega),if_pos (by omega),if_pos (by omega),if_pos c1,if_pos hpos,show wrap64 (due - 1) = due - 1 by unfold wrap64; omega,w1 i (by omega)]
        rcases hq with ⟨rfl,rfl⟩ | ⟨q,p,rfl,hqi,rfl⟩
        · rw [if_pos (by simp),if_pos (by simp)]
        · have hlast : rd (p ++ [(q : Int)]) (wrap64 (((p ++ [(q : Int)]).length : Int) - 1)) = (q : Int) := by
            rw [wm1 _ (by omega),show (((p ++ [(q : Int)]).length : Int) - 1) = ((p.length : Nat) : Int) by simp,rd_nat _ _ (by simp)]
            simp
          rw [if_neg (by simp; omega),hlast,wm1 _ (by omega),if_pos (by omega),if_pos (by simp),if_pos (by omega),if_pos (by omega),if_pos (by omega),if_pos c2,if_pos (by omega)]
      · rw [if_pos c1,if_neg c2]
        refine Ev.step (fun k => ?_) (ih (i + 1) due h out (by omega) (by omega) (by omega) hd2 (by
          rcases hq with hq | ⟨q,p,e,hqi,Aa⟩
          · exact .inl hq
          · exact .inr ⟨q,p,e,by omega,Aa⟩))
        simp only [spec_LongestRising.l1]
        rw [if_pos (by omega),if_pos (by omega),if_pos (by omega),if_pos c1,if_pos hpos]
        rcases hq with ⟨rfl,rfl⟩ | ⟨q,p,rfl,hqi,rfl⟩
        · exact absurd hgd.1 (by omega)
        · have hlast : rd (p ++ [(q : Int)]) (wrap64 (((p ++ [(q : Int)]).length : Int) - 1)) = (q : Int) := by
            rw [wm1 _ (by omega),show (((p ++ [(q : Int)]).length : Int) - 1) = ((p.length : Nat) : Int) by simp,rd_nat _ _ (by simp)]
            simp
          rw [if_neg (by simp; omega),hlast,wm1 _ (by omega),if_pos (by omega),if_pos (by simp),if_pos (by omega),if_pos (by omega),if_pos (by omega),if_neg c2,w1 i (by omega)]
    · rw [if_neg c1]
      refine Ev.step (fun k => ?_) (ih (i + 1) due h out (by omega) (by omega) (by omega) hd2 (by
          rcases hq with hq | ⟨q,p,e,hqi,Aa⟩
          · exact .inl hq
          · exact .inr ⟨q,p,e,by omega,Aa⟩))
      simp only [spec_LongestRising.l1]
      rw [if_pos (by omega),if_pos (by omega),if_pos (by omega),if_neg c1,w1 i (by omega)]
theorem maxL_le (n : Int) : ∀ (t : List Int) (m : Int),m ≤ n → (∀ x ∈ t,x ≤ n) → maxL t m ≤ n
  | [],m,h,_ => h
  | a :: t,m,h,ht => by
    simp only [maxL]
    have ha := ht a (List.mem_cons_self ..)
    exact maxL_le n t _ (by split <;> omega) (fun x hx => ht x (List.mem_cons_of_mem _ hx))
theorem maxL_ge : ∀ (t : List Int) (m : Int),m ≤ maxL t m
  | [],m => by simp [maxL]
  | a :: t,m => by
    simp only [maxL]
    have := maxL_ge t (if m > a then m else a)
    have h2 : m ≤ (if m > a then m else a) := by split <;> omega
    omega
theorem left_spec (l r : List Int) (hl : l.length ≤ 40) (hr : r.length ≤ 40) (R : List Int × Bool) : ∀ (d j : Nat) (m : Int), j + d = r.length →
    Ev (fun k => spec_LongestRising.l1 k l (maxL (r.drop j) m) [] r (r.length : Int) 0) R →
    Ev (fun k => spec_LongestRising.l0 k l r m r (r.length : Int) (j : Int)) R := by
  intro d
  induction d with
  | zero =>
    intro j m hj hev
    rw [List.drop_eq_nil_of_le (by omega)] at hev
    simp only [maxL] at hev
    refine Ev.step (fun k => ?_) hev
    simp only [spec_LongestRising.l0]
    rw [if_neg (by omega)]
  | succ d ih =>
    intro j m hj hev
    have hlt : j < r.length := by omega
    rw [drop_cons r j hlt] at hev
    simp only [maxL] at hev
    refine Ev.step (fun k => ?_) (ih (j + 1) _ (by omega) hev)
    simp only [spec_LongestRising.l0,spec_l1Most.f]
    rw [if_pos (by omega),if_pos (by omega),if_pos (by omega),w1 j (by omega)]
    split <;> rfl
theorem max_same (r : List Int) (h1 : 0 < r.length) (hp : ∀ x ∈ r,1 ≤ x) : maxL (r.drop 1) (rd r 0) = maxL r 0 := by
  match r,h1 with
  | a :: t,_ =>
    have ha := hp a (List.mem_cons_self ..)
    simp only [maxL,List.drop_succ_cons,List.drop_zero,rd_zero_cons]
    rw [if_neg (by omega)]
def longL (l : List Int) : List Int := pick l (risL l) 0 l.length (maxL (risL l) 0) 0
theorem spec_LongestRising (A0 : Option Addr) (c0 : Nat) (l : List Int) (hl : l.length ≤ 1048576) (w : World) (h0 : Kd.C (Kd.int .i64) w A0 l.length l) (hc0 : l.length ≤ c0) :
    Calls Try.prog 33 #[.slice A0 l.length c0] w fun e w' => ∃ v : Value,e = .returned (.tuple #[v,.bool (good l)]) ∧ Kd.R (Kd.int .i64) 3 w' w.heap.size (fun _ => True) v (if good l = true then longL l else []) ∧ Below w.heap.size w w' := by
  have h : Ev (fun k => spec_LongestRising.f k l) (if good l = true then longL l else [],good l) := by
    refine Ev.bind (good_ev l hl) ?_
    cases hg : good l with
    | true =>
      simp only [if_true]
      have hl := good_len hg
      have hrl : (risL l).length = l.length := risL_len l
      have hmem := risL_mem l
      have hle := maxL_le 40 (risL l) 0 (by omega) (fun x hx => by have := hmem x hx; omega)
      have hge := maxL_ge (risL l) 0
      refine Ev.bind (rising_spec_ev l hl.2) ?_
      refine left_spec l (risL l) hl.2 (by omega) _ (risL l).length 0 0 (by omega) ?_
      rw [List.drop_zero,hrl]
      have := pick_spec l hg l.length 0 (maxL (risL l) 0) 0 [] (by omega) (by simp) (by omega) hle (.inl ⟨rfl,rfl⟩)
      simpa [longL] using this
    | false => exact Ev.now _
  obtain ⟨k,hk⟩ := h.rounds
  exact spec_LongestRising.calls k A0 c0 l _ _ w h0 hc0 hk
theorem rising_calls (A : Option Addr) (c : Nat) (l : List Int) (hl : l.length ≤ 40) (w : World) (h0 : Kd.C (Kd.int .i64) w A l.length l) (hc : l.length ≤ c) :
    Calls Try.prog 72 #[.slice A l.length c] w fun e w' => ∃ v : Value,e = .returned v ∧ Kd.R (Kd.int .i64) 3 w' w.heap.size (fun _ => True) v (risL l) ∧ Below w.heap.size w w' := by
  obtain ⟨k,hk⟩ := (rising_impl_ev l hl).rounds
  exact impl_rising.calls k A c l _ w h0 hc hk
theorem impl_LongestRising (A0 : Option Addr) (c0 : Nat) (l : List Int) (hl : l.length ≤ 1048576) (w : World) (h0 : Kd.C (Kd.int .i64) w A0 l.length l) (hc0 : l.length ≤ c0) :
    Calls Try.prog 32 #[.slice A0 l.length c0] w fun e w' => ∃ v : Value,e = .returned (.tuple #[v,.bool (good l)]) ∧ Kd.R (Kd.int .i64) 3 w' w.heap.size (fun _ => True) v (if good l = true then longL l else []) ∧ Below w.heap.size w w' := by
  have HB := Aside0.mk (Below.refl w.heap.size w)
  have HC := Aside0.mk h0
  cases hg : good l with
  | false =>
    have HG := Aside0.mk (HImpl.are_is A0 c0 l false hg w h0 hc0)
    clear h0 hg
    go_enter Try.func32,Try.ntmps32
    go_wp2_with (go_at_call 53; refine HG.out.mono ?_; rintro e w' ⟨rfl,⟨nd,rfl⟩⟩)
    go_ret2
    exact ⟨_,rfl,Kd.R_nil _ _ _ _ _,(by repeat first|(with_reducible first|exact HB.out|apply below_alloc|apply pw_below_drewN|apply below_drew1)|exact HB.out)⟩
  | true =>
    have HG := Aside0.mk (HImpl.are_is A0 c0 l true hg w h0 hc0)
    obtain ⟨hl1,hl2⟩ := good_len hg
    clear h0 hg
    simp only [if_true]
    have HRS := Aside0.mk (fun W hC => rising_calls A0 c0 l hl2 W hC hc0)
    have hrl : (risL l).length = l.length := risL_len l
    have hmem := risL_mem l
    have hle := maxL_le 40 (risL l) 0 (by omega) (fun x hx => by have := hmem x hx; omega)
    have hge := maxL_ge (risL l) 0
    have HMX := Aside0.mk (fun A c W hC => max_calls A c (risL l) (by omega) (by omega) W hC)
    rw [max_same (risL l) (by omega) (fun x hx => (hmem x hx).1)] at HMX
    obtain ⟨T,hT⟩ : ∃ T,longL l = T := ⟨_,rfl⟩
    rw [hT]
    have HE0 : Aside0 (([] : List Int) ++ pick l (risL l) 0 (l.length - 0) (maxL (risL l) 0) 0 = T) := ⟨by rw [List.nil_append,Nat.sub_zero]; exact hT⟩
    generalize maxL (risL l) 0 = due0 at HMX HE0 hle hge
    generalize risL l = r at HRS HMX HE0 hrl
    have HRL := Aside0.mk hrl
    have HD0 := Aside0.mk (show -100 ≤ due0 - ((l.length - 0 : Nat) : Int) ∧ due0 ≤ 40 from ⟨by omega,hle⟩)
    clear hT hrl hmem hle hge
    go_enter Try.func32,Try.ntmps32
    go_wp2_with (first | (go_at_call 53; refine HG.out.mono ?_; rintro e w' ⟨rfl,⟨nd,rfl⟩⟩) | ((with_reducible refine gate_dst (N := 13) rfl ?_); refine Kd.R_lit (Kd.int .i64) (w0 := w) w.heap.size 3 ?hg (N := 13) ?hd (xs := ([] : List Int)) (inner := []) (ok := fun _ => True) (okp := fun _ => True) ?hr ?hp (fun _ hk => hk) trivial (by repeat first|(with_reducible first|exact HB.out|apply below_alloc|apply pw_below_drewN|apply below_drew1)|exact HB.out) (below_size (by repeat first|(with_reducible first|exact HB.out|apply below_alloc|apply pw_below_drewN|apply below_drew1)|exact HB.out)) (by simp) ?_; (case hd => rfl); (case hg => rfl); (case hr => first | (go_simp; done) | (go_simp; rfl)); (case hp => exact (Reps.none _ _)); intro v1 w1 ho hb hg hnew; have HO := Aside0.mk ho; have HBn := Aside0.mk hb; clear ho hb hg hnew HB; have HB := HBn; clear HBn))
    refine (HRS.out _ (Kd.C_below HC.out (by repeat first|(with_reducible first|exact HB.out|apply below_alloc|apply pw_below_drewN|apply below_drew1)|exact HB.out))).mono ?_
    rintro e w2 ⟨v2,rfl,ho,hb⟩
    have HO2 := Aside0.mk (Kd.R_mono (ok' := fun k => some k ≠ v2.ownBlock) (Kd.R_elder HO.out ho hb) (fun k hk => hk.2))
    have HR2 := Aside0.mk (Kd.R_tight rfl (Kd.R_lower ho (below_size HB.out)))
    have HB2 := Aside0.mk (below_step HB.out hb)
    obtain ⟨A2,cq,rfl,hc2,hC2⟩ := Kd.R_reads ho
    have HC2 := Aside0.mk hC2
    clear ho hb hC2 HO HB
    go_wp2_with fail
    (with_reducible refine (HMX.out A2 cq _ HC2.out).mono ?_)
    rintro e w3 ⟨rfl,hb⟩
    have HO := Aside0.mk (Kd.R_below HO2.out hb)
    have HR := Aside0.mk (Kd.R_below HR2.out hb)
    have HB := Aside0.mk (below_step HB2.out hb)
    clear hb HO2 HR2 HB2 HC2
    go_wp2_with fail
    go_loopg [4,6,7,20] l.length (fun kq v4 v6 v7 v20 w' => ∃ (i : Nat) (due h : Int) (acc : List Int),v6 = .int .i64 due ∧ v7 = .int .i64 h ∧ v20 = .int .i64 (i : Int) ∧ Aside0 (kq + i = l.length) ∧ Aside0 (acc.length ≤ i) ∧ Aside0 (-100 ≤ due - ((l.length - i : Nat) : Int) ∧ due ≤ 40) ∧ Aside0 (acc ++ pick l r i (l.length - i) due h = T) ∧ Aside0 (Kd.R (Kd.int .i64) 3 w' w.heap.size (fun k => some k ≠ (.slice A2 r.length cq : Value).ownBlock) v4 acc) ∧ Aside0 (Kd.R (Kd.int .i64) 3 w' w.heap.size (fun k => some k = (.slice A2 r.length cq : Value).ownBlock) (.slice A2 r.length cq) r) ∧ Aside0 (Below w.heap.size w w'))
    case atStart => exact ⟨0,due0,0,[],rfl,rfl,rfl,⟨rfl⟩,⟨by simp⟩,HD0,HE0,HO,HR,HB⟩
    case round =>
      clear HO HR HB HE0 HD0
      obtain ⟨i,due,h,acc,rfl,rfl,rfl,HK,HAL,HD,HE,HO,HR,HB⟩ := hrel
      by_cases hi : i < l.length
      · have HE1 := HE.out
        rw [show l.length - i = (l.length - (i + 1)) + 1 by omega,pick] at HE1
        obtain ⟨ad,e,hx⟩ := Kd.at_int HC.out (i : Int) (by omega) (by omega)
        cases e
        rw [Int.toNat_natCast] at hx
        have hrl := HRL.out
        obtain ⟨ad2,e,hy⟩ := Kd.at_int (Kd.R_reads' HR.out).2.2 (i : Int) (by omega) (by omega)
        cases e
        rw [Int.toNat_natCast] at hy
        generalize rd l (i : Int) = x at hx HE1
        generalize rd r (i : Int) = y at hy HE1
        replace hx := pw_cell_below HB.out hx
        have hd := HD.out
        have hal := HAL.out
        have hir : (i : Int) < (r.length : Int) := by omega
        have hw : IntKind.i64.wrap (due - 1) = due - 1 := IntWalk.i64_in _ (by omega)
        clear HE hrl
        by_cases c1 : y = due
        · by_cases c2 : x > h
          · have HE2 : Aside0 ((acc ++ [(i : Int)]) ++ pick l r (i + 1) (l.length - (i + 1)) (due - 1) x = T) := ⟨by rw [if_pos c1,if_pos c2] at HE1; rw [List.append_assoc]; exact HE1⟩
            clear HE1
            subst c1
            go_wp2_with ((with_reducible refine gate_builtin (b := .append) (xs := #[.tmp 36,.tmp 38]) rfl ?_); at_builtin; refine Kd.R_append (Kd.int .i64) (w0 := w) w.heap.size rfl (.tmp 36) (.tmp 38) 24 3 (.int .i64 0) 8 rfl Try.underlying24 HClone.info_int rfl (by decide) (by omega) u4 acc (i : Int) [.int .i64 (i : Int)] (fun k => some k ≠ (.slice (some ad2) r.length cq : Value).ownBlock) (fun _ => False) rfl rfl ?aP (fun _ hk => hk.elim) ?aF ?aO ?aB ?aS ?aL ?_; (case aP => exact rfl); (case aF => exact Kd.fresh' (Kd.R_lt HR.out)); (case aO => exact HO.out); (case aB => exact HB.out); (case aS => exact HB.out.size); (case aL => omega); intro v7 w7 ho hb hg hat; have HRn := Aside0.mk (Kd.R_grown2 HR.out rfl hg (fun k e => HO.out.1 k e)); have HOn := Aside0.mk ho; have HBn := Aside0.mk hb; clear ho hb hg hat HO HB HR; have HO := HOn; have HB := HBn; have HR := HRn; clear HOn HBn HRn)
            go_roundg (l.length - (i + 1))
            case measure => have := HK.out; omega
            case rel => exact ⟨i + 1,y - 1,x,acc ++ [(i : Int)],rfl,rfl,rfl,⟨by have := HK.out; omega⟩,⟨by first | omega | (simp; omega)⟩,⟨by omega⟩,HE2,HO,HR,HB⟩
          · have HE2 : Aside0 (acc ++ pick l r (i + 1) (l.length - (i + 1)) due h = T) := ⟨by rw [if_pos c1,if_neg c2] at HE1; exact HE1⟩
            clear HE1
            subst c1
            go_wp2_with fail
            go_roundg (l.length - (i + 1))
            case measure => have := HK.out; omega
            case rel => exact ⟨i + 1,y,h,acc,rfl,rfl,rfl,⟨by have := HK.out; omega⟩,⟨by first | omega | (simp; omega)⟩,⟨by omega⟩,HE2,HO,HR,HB⟩
        · have HE2 : Aside0 (acc ++ pick l r (i + 1) (l.length - (i + 1)) due h = T) := ⟨by rw [if_neg c1] at HE1; exact HE1⟩
          clear HE1
          go_wp2_with fail
          go_roundg (l.length - (i + 1))
          case measure => have := HK.out; omega
          case rel => exact ⟨i + 1,due,h,acc,rfl,rfl,rfl,⟨by have := HK.out; omega⟩,⟨by first | omega | (simp; omega)⟩,⟨by omega⟩,HE2,HO,HR,HB⟩
      · have HE2 : Aside0 (acc = T) := ⟨by have := HE.out; rw [show l.length - i = 0 by omega,pick,List.append_nil] at this; exact this⟩
        go_wp2_with fail
        go_ret2
        exact ⟨_,rfl,by rw [← HE2.out]; exact Kd.R_mono HO.out (fun _ _ => trivial),(by repeat first|(with_reducible first|exact HB.out|apply below_alloc|apply pw_below_drewN|apply below_drew1)|exact HB.out)⟩
end Go.Proofs.Ytleacijhpkogpad.HLR
/- The longest mountain: the walks of impl.mountain,impl.LongestMountain and of the law; the reference over its printed walk. -/
namespace Go.Proofs.Ytleacijhpkogpad.HMtn
open Go.RowKit YtleacijhpkogpadW.PrintWords YtleacijhpkogpadW.PrintLast YtleacijhpkogpadW.PrintMore HImpl PFnHeightsRise HSpecG

attribute [local go_sem] max2_int max_two
theorem wm1 (m : Nat) (h : m ≤ 4611686018427387904) : wrap64 ((m : Int) - 1) = (m : Int) - 1 := by unfold wrap64; omega
theorem back_loop (l : List Int) (hl : l.length ≤ 1048576) : ∀ (m : Nat) (acc : List Int), m ≤ l.length → acc.length + m ≤ 1048576 →
    Ev (fun k => spec_heBack.l0 k l acc ((m : Int) - 1)) (acc ++ (l.take m).reverse) := by
  intro m
  induction m with
  | zero =>
    intro acc hm ha
    refine Ev.step (f := fun _ => some acc) (fun k => ?_) ?_
    · simp only [spec_heBack.l0]
      rw [if_neg (by omega)]
    · rw [List.take_zero,List.reverse_nil,List.append_nil]
      exact Ev.now _
  | succ m ih =>
    intro acc hm ha
    have hr := ih (acc ++ [rd l (m : Int)]) (by omega) (by simp; omega)
    rw [List.append_assoc] at hr
    have e : (l.take (m + 1)).reverse = [rd l (m : Int)] ++ (l.take m).reverse := by
      rw [List.take_succ_eq_append_getElem (by omega),List.reverse_append,rd_nat l m (by omega)]
      rfl
    rw [e]
    refine Ev.step (fun k => ?_) hr
    simp only [spec_heBack.l0]
    rw [show (((m + 1 : Nat) : Int) - 1) = (m : Int) by omega,if_pos (by omega),if_pos (by omega),if_pos (by omega),if_pos (by omega),wm1 m (by omega)]
theorem back_ev (l : List Int) (hl : l.length ≤ 1048576) : Ev (fun k => spec_heBack.f k l) l.reverse := by
  have h := back_loop l hl l.length [] (by omega) (by simpa using hl)
  rw [List.take_length,List.nil_append] at h
  refine Ev.congr (fun k => ?_) h
  simp only [spec_heBack.f]
  rw [wm1 l.length (by omega)]
theorem mx_if (a b : Int) : mx a b = if a > b then a else b := by
  unfold mx; split <;> split <;> omega
/-! rising and falling -/
def bst (p : Int → Bool) : List (Int × Int) → Int
  | [] => 0
  | (o,c) :: t => if p o = true then max c (bst p t) else bst p t
theorem bst_nonneg (p : Int → Bool) : ∀ t,0 ≤ bst p t
  | [] => by simp [bst]
  | (o,c) :: t => by
    have := bst_nonneg p t
    simp only [bst]
    split <;> omega
theorem bst_append (p : Int → Bool) : ∀ a b,bst p (a ++ b) = max (bst p a) (bst p b)
  | [],b => by have := bst_nonneg p b; simp only [List.nil_append,bst]; omega
  | (o,c) :: t,b => by
    have := bst_append p t b
    simp only [List.cons_append,bst]
    split <;> omega
theorem bst_reverse (p : Int → Bool) : ∀ a,bst p a.reverse = bst p a
  | [] => rfl
  | (o,c) :: t => by
    have h0 := bst_nonneg p t
    rw [List.reverse_cons,bst_append,bst_reverse p t]
    simp only [bst]
    split <;> omega
theorem bst_le (p : Int → Bool) (n : Int) (h0 : 0 ≤ n) : ∀ t : List (Int × Int),(∀ q ∈ t,q.2 ≤ n) → bst p t ≤ n
  | [],_ => by simpa [bst] using h0
  | (o,c) :: t,h => by
    have h1 := bst_le p n h0 t (fun q hq => h q (List.mem_cons_of_mem _ hq))
    have h2 := h (o,c) (List.mem_cons_self ..)
    simp only at h2
    simp only [bst]
    split <;> omega
def risL : List Int → List Int
  | [] => []
  | h :: t => (bst (fun o => decide (h < o)) (t.zip (risL t)) + 1) :: risL t
theorem risL_len : ∀ t,(risL t).length = t.length
  | [] => rfl
  | _ :: t => by simp [risL,risL_len t]
theorem risL_drop : ∀ (l : List Int) (k : Nat),(risL l).drop k = risL (l.drop k)
  | [],k => by simp [risL]
  | _ :: _,0 => rfl
  | h :: t,k + 1 => by simp only [risL,List.drop_succ_cons]; exact risL_drop t k
theorem risL_mem : ∀ (l : List Int),∀ c ∈ risL l,1 ≤ c ∧ c ≤ (l.length : Int)
  | [],c,hc => by simp [risL] at hc
  | h :: t,c,hc => by
    simp only [risL,List.mem_cons] at hc
    have ih := risL_mem t
    rcases hc with rfl | hc
    · have h1 := bst_nonneg (fun o => decide (h < o)) (t.zip (risL t))
      have h2 := bst_le (fun o => decide (h < o)) (t.length : Int) (by omega) (t.zip (risL t)) (fun q hq => (ih q.2 (List.of_mem_zip hq).2).2)
      simp only [List.length_cons]; omega
    · have := ih c hc
      simp only [List.length_cons]; omega
def falL : List Int → List Int
  | [] => []
  | h :: t => (bst (fun o => decide (o < h)) (t.zip (falL t)) + 1) :: falL t
theorem falL_len : ∀ t,(falL t).length = t.length
  | [] => rfl
  | _ :: t => by simp [falL,falL_len t]
theorem falL_drop : ∀ (l : List Int) (k : Nat),(falL l).drop k = falL (l.drop k)
  | [],k => by simp [falL]
  | _ :: _,0 => rfl
  | h :: t,k + 1 => by simp only [falL,List.drop_succ_cons]; exact falL_drop t k
theorem falL_mem : ∀ (l : List Int),∀ c ∈ falL l,1 ≤ c ∧ c ≤ (l.length : Int)
  | [],c,hc => by simp [falL] at hc
  | h :: t,c,hc => by
    simp only [falL,List.mem_cons] at hc
    have ih := falL_mem t
    rcases hc with rfl | hc
    · have h1 := bst_nonneg (fun o => decide (o < h)) (t.zip (falL t))
      have h2 := bst_le (fun o => decide (o < h)) (t.length : Int) (by omega) (t.zip (falL t)) (fun q hq => (ih q.2 (List.of_mem_zip hq).2).2)
      simp only [List.length_cons]; omega
    · have := ih c hc
      simp only [List.length_cons]; omega
theorem bst_map (h : Int) : ∀ (t cs : List Int),bst (fun o => decide (101 - h < o)) ((t.map fun o => 101 - o).zip cs) = bst (fun o => decide (o < h)) (t.zip cs)
  | [],cs => by simp [bst]
  | o :: t,[] => by simp [bst]
  | o :: t,c :: cs => by
    have ih := bst_map h t cs
    simp only [List.map_cons,List.zip_cons_cons,bst,ih]
    have : (decide (101 - h < 101 - o)) = decide (o < h) := by
      by_cases c : o < h
      · rw [decide_eq_true c,decide_eq_true (by omega)]
      · rw [decide_eq_false c,decide_eq_false (by omega)]
    rw [this]
theorem fal_ris : ∀ l : List Int,risL (l.map fun o => 101 - o) = falL l
  | [] => rfl
  | h :: t => by
    simp only [List.map_cons,risL,falL,fal_ris t]
    rw [bst_map]
def hdF (l : List Int) : Int := rd (falL l) 0
theorem hdF_cons (h : Int) (t : List Int) : hdF (h :: t) = bst (fun o => decide (o < h)) (t.zip (falL t)) + 1 := rfl
theorem rd_zero (l : List Int) (h : 0 < l.length) : rd l 0 = l[0] := rd_nat l 0 h
theorem rd_zero_cons (h : Int) (t : List Int) : rd (h :: t) 0 = h := rfl
theorem rd_drop (l : List Int) (i : Nat) (h : i < l.length) : rd (l.drop i) 0 = rd l (i : Int) := by
  rw [drop_cons l i h]; rfl
theorem falL_rd (l : List Int) (i : Nat) (h : i < l.length) : rd (falL l) (i : Int) = hdF (l.drop i) := by
  rw [← rd_drop _ i (by rw [falL_len]; exact h),falL_drop]; rfl
theorem hdF_bd (l : List Int) (h : 0 < l.length) : 1 ≤ hdF l ∧ hdF l ≤ (l.length : Int) := by
  match l,h with
  | a :: t,_ =>
    have := falL_mem (a :: t) (hdF (a :: t)) (by rw [hdF_cons]; simp [falL])
    exact this
theorem ris_in_spec (l : List Int) (hl : l.length ≤ 40) (i : Nat) (hi : i < l.length) (x : List Int) (hx : x.length = l.length) (hd : x.drop (i + 1) = risL (l.drop (i + 1))) (R : List Int) : ∀ (d j : Nat) (m : Int), j + d = l.length → i < j → 0 ≤ m → m ≤ 40 →
    Ev (fun k => spec_heRising.l0 k l (x.set i (max m (bst (fun o => decide (rd l (i : Int) < o)) ((l.drop j).zip (risL (l.drop j)))) + 1)) ((i : Int) - 1)) R →
    Ev (fun k => spec_heRising.l1 k l x (i : Int) m (j : Int)) R := by
  intro d
  induction d with
  | zero =>
    intro j m hj hij hm0 hm hev
    rw [List.drop_eq_nil_of_le (by omega)] at hev
    simp only [risL,List.zip_nil_left,bst] at hev
    rw [show max m 0 = m by omega] at hev
    refine Ev.step (fun k => ?_) hev
    simp only [spec_heRising.l1]
    rw [if_neg (by omega),if_pos (by omega),if_pos (by omega),show wrap64 (m + 1) = m + 1 by unfold wrap64; omega,wm1 i (by omega)]
    rfl
  | succ d ih =>
    intro j m hj hij hm0 hm hev
    have hlt : j < l.length := by omega
    have hxj : x.drop j = risL (l.drop j) := by
      have : x.drop j = (x.drop (i + 1)).drop (j - (i + 1)) := by rw [List.drop_drop]; congr 1; omega
      rw [this,hd,risL_drop,List.drop_drop]; congr 2; omega
    have hrx : rd x (j : Int) = rd (risL (l.drop j)) 0 := by
      rw [← rd_drop x j (by omega),hxj]
    have hb := risL_mem (l.drop j) (rd (risL (l.drop j)) 0) (by
      rw [rd_zero (risL (l.drop j)) (by rw [risL_len,List.length_drop]; omega)]
      exact List.getElem_mem _)
    rw [List.length_drop] at hb
    have hz : (l.drop j).zip (risL (l.drop j)) = (rd l (j : Int),rd (risL (l.drop j)) 0) :: (l.drop (j + 1)).zip (risL (l.drop (j + 1))) := by
      rw [drop_cons l j hlt]
      simp [risL,rd_zero_cons]
    rw [hz] at hev
    simp only [bst] at hev
    by_cases c : rd l (j : Int) > rd l (i : Int)
    · have c' : rd l (i : Int) < rd l (j : Int) := c
      rw [if_pos (decide_eq_true c')] at hev
      have hr := ih (j + 1) (max m (rd (risL (l.drop j)) 0)) (by omega) (by omega) (by omega) (by omega) (by rw [show ∀ a b c : Int,max (max a b) c = max a (max b c) by intros; omega]; exact hev)
      refine Ev.step (fun k => ?_) hr
      simp only [spec_heRising.l1,spec_l1Most.f]
      rw [if_pos (by omega),if_pos (by omega),if_pos (by omega),if_pos (by omega),if_pos c,if_pos (by omega),hrx,w1 j (by omega)]
      by_cases c2 : m > rd (risL (l.drop j)) 0
      · rw [if_pos c2,show max m (rd (risL (l.drop j)) 0) = m by omega]; rfl
      · rw [if_neg c2,show max m (rd (risL (l.drop j)) 0) = rd (risL (l.drop j)) 0 by omega]; rfl
    · have c' : ¬ rd l (i : Int) < rd l (j : Int) := c
      rw [if_neg (show ¬ (decide _ = true) by rw [decide_eq_true_eq]; exact c')] at hev
      refine Ev.step (fun k => ?_) (ih (j + 1) m (by omega) (by omega) hm0 hm hev)
      simp only [spec_heRising.l1]
      rw [if_pos (by omega),if_pos (by omega),if_pos (by omega),if_pos (by omega),if_neg c,w1 j (by omega)]
theorem ris_head (l : List Int) (i : Nat) (hi : i < l.length) : risL (l.drop i) = (bst (fun o => decide (rd l (i : Int) < o)) ((l.drop (i + 1)).zip (risL (l.drop (i + 1)))) + 1) :: risL (l.drop (i + 1)) := by
  rw [drop_cons l i hi]; rfl
theorem ris_set (l x : List Int) (i : Nat) (hi : i < l.length) (hx : x.length = l.length) (hd : x.drop (i + 1) = risL (l.drop (i + 1))) (v : Int) (hv : v = bst (fun o => decide (rd l (i : Int) < o)) ((l.drop (i + 1)).zip (risL (l.drop (i + 1)))) + 1) :
    (x.set i v).drop i = risL (l.drop i) := by
  rw [ris_head l i hi,← hv,List.drop_eq_getElem_cons (by simpa using by omega),List.getElem_set_self]
  congr 1
  rw [List.drop_set_of_lt (by omega),hd]
theorem ris_out_spec (l : List Int) (hl : l.length ≤ 40) : ∀ (m : Nat) (x : List Int), m ≤ l.length → x.length = l.length → x.drop m = risL (l.drop m) →
    Ev (fun k => spec_heRising.l0 k l x ((m : Int) - 1)) (risL l) := by
  intro m
  induction m with
  | zero =>
    intro x hm hx hd
    rw [List.drop_zero,List.drop_zero] at hd
    subst hd
    refine Ev.step (f := fun _ => some (risL l)) (fun k => ?_) (Ev.now _)
    simp only [spec_heRising.l0]
    rw [if_neg (by omega)]
  | succ i ih =>
    intro x hm hx hd
    have hb0 := bst_nonneg (fun o => decide (rd l (i : Int) < o)) ((l.drop (i + 1)).zip (risL (l.drop (i + 1))))
    have hr := ih (x.set i (max 0 (bst (fun o => decide (rd l (i : Int) < o)) ((l.drop (i + 1)).zip (risL (l.drop (i + 1))))) + 1)) (by omega) (by simpa using hx)
      (ris_set l x i (by omega) hx hd _ (by omega))
    have h2 := ris_in_spec l hl i (by omega) x hx hd _ (l.length - (i + 1)) (i + 1) 0 (by omega) (by omega) (by omega) (by omega) hr
    refine Ev.step (fun k => ?_) h2
    simp only [spec_heRising.l0]
    rw [show (((i + 1 : Nat) : Int) - 1) = (i : Int) by omega,if_pos (by omega),w1 i (by omega)]
theorem rising_spec_ev (l : List Int) (hl : l.length ≤ 40) : Ev (fun k => spec_heRising.f k l) (risL l) := by
  have h := ris_out_spec l hl l.length (List.replicate l.length 0) (by omega) (by simp) (by
    rw [List.drop_eq_nil_of_le (by simp),List.drop_eq_nil_of_le (by omega)]; rfl)
  refine Ev.congr (fun k => ?_) h
  simp only [spec_heRising.f]
  rw [if_pos (by omega),if_pos (by simp; omega),wm1 l.length (by omega)]
  simp
theorem fal_loop (l : List Int) (hl : l.length ≤ 40) (hg : ∀ x ∈ l, 1 ≤ x ∧ x ≤ 100) : ∀ (d i : Nat) (out : List Int), i + d = l.length → out = (l.take i).map (fun o => 101 - o) →
    Ev (fun k => spec_heFalling.l0 k out l (l.length : Int) (i : Int)) (falL l) := by
  intro d
  induction d with
  | zero =>
    intro i out hi ho
    have e : out = l.map (fun o => 101 - o) := by rw [ho,List.take_of_length_le (by omega)]
    have h := rising_spec_ev out (by rw [e,List.length_map]; exact hl)
    rw [e,fal_ris] at h
    rw [e]
    refine Ev.step (f := fun k => (spec_heRising.f k (l.map fun o => 101 - o)).bind fun t => some t) (fun k => ?_) (Ev.bind h (Ev.now _))
    simp only [spec_heFalling.l0]
    rw [if_neg (by omega)]
  | succ d ih =>
    intro i out hi ho
    have hlt : i < l.length := by omega
    have hb := hg (rd l (i : Int)) (by rw [rd_nat l i hlt]; exact List.getElem_mem _)
    have hol : out.length = i := by rw [ho]; simp; omega
    refine Ev.step (fun k => ?_) (ih (i + 1) (out ++ [101 - rd l (i : Int)]) (by omega) (by
      rw [ho,List.take_succ_eq_append_getElem hlt,List.map_append,rd_nat l i hlt]; rfl))
    simp only [spec_heFalling.l0]
    rw [if_pos (by omega),if_pos (by omega),if_pos (by omega),if_pos (by omega),show wrap64 (101 - rd l (i : Int)) = 101 - rd l (i : Int) by unfold wrap64; omega,w1 i (by omega)]
theorem falling_ev (l : List Int) (hl : l.length ≤ 40) (hg : ∀ x ∈ l,1 ≤ x ∧ x ≤ 100) : Ev (fun k => spec_heFalling.f k l) (falL l) :=
  fal_loop l hl hg l.length 0 [] (by omega) (by simp)
def mtn (l : List Int) : Nat → Nat → Int → Int
  | _,0,m => m
  | i,d + 1,m => mtn l (i + 1) d (if m > hdF ((l.take (i + 1)).reverse) + hdF (l.drop i) - 1 then m else hdF ((l.take (i + 1)).reverse) + hdF (l.drop i) - 1)
theorem up_rd (l : List Int) (i : Nat) (hi : i < l.length) : rd ((falL l.reverse).reverse) (i : Int) = hdF ((l.take (i + 1)).reverse) := by
  have hlen : (falL l.reverse).length = l.length := by rw [falL_len,List.length_reverse]
  rw [rd_nat _ i (by rw [List.length_reverse,hlen]; exact hi),List.getElem_reverse]
  have e := falL_rd l.reverse ((falL l.reverse).length - 1 - i) (by rw [hlen,List.length_reverse]; omega)
  rw [rd_nat _ _ (by omega)] at e
  rw [e,List.drop_reverse]
  congr 3
  omega
theorem mtn_bd (l : List Int) (i : Nat) (hi : i < l.length) : 1 ≤ hdF ((l.take (i + 1)).reverse) ∧ hdF ((l.take (i + 1)).reverse) ≤ (i : Int) + 1 ∧ 1 ≤ hdF (l.drop i) ∧ hdF (l.drop i) ≤ (l.length : Int) - (i : Int) := by
  have h1 := hdF_bd ((l.take (i + 1)).reverse) (by simp; omega)
  have h2 := hdF_bd (l.drop i) (by simp; omega)
  simp only [List.length_reverse,List.length_take,List.length_drop] at h1 h2
  omega
theorem mtn_range (l : List Int) : ∀ (d i : Nat) (m : Int),i + d = l.length → 0 ≤ m → m ≤ (l.length : Int) → 0 ≤ mtn l i d m ∧ mtn l i d m ≤ (l.length : Int)
  | 0,i,m,_,h0,h1 => ⟨h0,h1⟩
  | d + 1,i,m,hi,h0,h1 => by
    have hb := mtn_bd l i (by omega)
    simp only [mtn]
    split
    · exact mtn_range l d (i + 1) m (by omega) h0 h1
    · exact mtn_range l d (i + 1) _ (by omega) (by omega) (by omega)
theorem mtn_spec_loop (l : List Int) (hl : l.length ≤ 40) : ∀ (d i : Nat) (m : Int), i + d = l.length → 0 ≤ m → m ≤ (l.length : Int) →
    Ev (fun k => spec_heMountain.l0 k (falL l) ((falL l.reverse).reverse) m (l.length : Int) (i : Int)) (mtn l i d m) := by
  intro d
  induction d with
  | zero =>
    intro i m hi _ _
    refine Ev.step (f := fun _ => some m) (fun k => ?_) (Ev.now _)
    simp only [spec_heMountain.l0]
    rw [if_neg (by omega)]
  | succ d ih =>
    intro i m hi h0 h1
    have hlt : i < l.length := by omega
    have hb := mtn_bd l i hlt
    have hl1 : (falL l).length = l.length := falL_len l
    have hl2 : ((falL l.reverse).reverse).length = l.length := by rw [List.length_reverse,falL_len,List.length_reverse]
    simp only [mtn]
    have hstep : ∀ k,spec_heMountain.l0 (k + 1) (falL l) ((falL l.reverse).reverse) m (l.length : Int) (i : Int) = spec_heMountain.l0 k (falL l) ((falL l.reverse).reverse) (if m > hdF ((l.take (i + 1)).reverse) + hdF (l.drop i) - 1 then m else hdF ((l.take (i + 1)).reverse) + hdF (l.drop i) - 1) (l.length : Int) ((i + 1 : Nat) : Int) := by
      intro k
      simp only [spec_heMountain.l0,spec_l1Most.f]
      rw [if_pos (by omega),if_pos (by omega),hl1,hl2,if_pos (by omega),if_pos (by omega),up_rd l i hlt,falL_rd l i hlt,
        show wrap64 (hdF ((l.take (i + 1)).reverse) + hdF (l.drop i)) = hdF ((l.take (i + 1)).reverse) + hdF (l.drop i) by unfold wrap64; omega,
        show wrap64 (hdF ((l.take (i + 1)).reverse) + hdF (l.drop i) - 1) = hdF ((l.take (i + 1)).reverse) + hdF (l.drop i) - 1 by unfold wrap64; omega,w1 i (by omega)]
      split <;> rfl
    refine Ev.step hstep ?_
    split
    · exact ih (i + 1) m (by omega) h0 h1
    · exact ih (i + 1) _ (by omega) (by omega) (by omega)
theorem mountain_spec_ev (l : List Int) (h : good l = true) : Ev (fun k => spec_heMountain.f k l) (mtn l 0 l.length 0) := by
  have hl := (good_len h).2
  have hm := good_mem h
  have hmr : ∀ x ∈ l.reverse,1 ≤ x ∧ x ≤ 100 := fun x hx => hm x (by simpa using hx)
  refine Ev.bind (falling_ev l hl hm) ?_
  refine Ev.bind (back_ev l (by omega)) ?_
  refine Ev.bind (falling_ev l.reverse (by simpa using hl) hmr) ?_
  refine Ev.bind (back_ev (falL l.reverse) (by rw [falL_len,List.length_reverse]; omega)) ?_
  exact mtn_spec_loop l hl l.length 0 0 (by omega) (by omega) (by omega)
theorem zip_rev : ∀ (a b : List Int),a.length = b.length → (a.zip b).reverse = a.reverse.zip b.reverse
  | [],[],_ => rfl
  | [],_ :: _,h => by simp at h
  | _ :: _,[],h => by simp at h
  | x :: a,y :: b,h => by
    have h' : a.length = b.length := by simpa using h
    simp only [List.zip_cons_cons,List.reverse_cons,zip_rev a b h']
    rw [List.zip_append (by simpa using h')]
    rfl
theorem last_in (l : List Int) (hl : l.length ≤ 40) (i : Nat) (hi : i < l.length) (many : List Int) (hm : many.length = i) (hmb : ∀ c ∈ many, 1 ≤ c ∧ c ≤ 40) (h : Int) (R : Int) : ∀ (d j : Nat) (b : Int), j + d = i → 0 ≤ b → b ≤ 40 →
    Ev (fun k => impl_lastRising.l0 k l (many ++ [max b (bst (fun o => decide (o < h)) (((l.take i).drop j).zip (many.drop j))) + 1]) l (l.length : Int) ((i + 1 : Nat) : Int)) R →
    Ev (fun k => impl_lastRising.l1 k l many h (b + 1) l (l.length : Int) (i : Int) (i : Int) (j : Int)) R := by
  intro d
  induction d with
  | zero =>
    intro j b hj hb0 hb hev
    rw [List.drop_eq_nil_of_le (by simp; omega)] at hev
    simp only [List.zip_nil_left,bst] at hev
    rw [show max b 0 = b by omega] at hev
    refine Ev.step (fun k => ?_) hev
    simp only [impl_lastRising.l1]
    rw [if_neg (by omega),if_pos (by omega),w1 i (by omega)]
  | succ d ih =>
    intro j b hj hb0 hb hev
    have h1 : j < many.length := by omega
    have h2 : j < (l.take i).length := by simp; omega
    have e1 : rd (l.take i) (j : Int) = rd l (j : Int) := by rw [rd_nat _ j h2,rd_nat l j (by omega)]; simp
    have hmj := hmb (rd many (j : Int)) (by rw [rd_nat many j h1]; exact List.getElem_mem _)
    rw [drop_cons many j h1,drop_cons (l.take i) j h2,e1] at hev
    simp only [List.zip_cons_cons,bst] at hev
    by_cases c : rd l (j : Int) < h
    · rw [if_pos (decide_eq_true c)] at hev
      have hr := ih (j + 1) (max b (rd many (j : Int))) (by omega) (by omega) (by omega) (by rw [show ∀ a b c : Int,max (max a b) c = max a (max b c) by intros; omega]; exact hev)
      refine Ev.step (fun k => ?_) hr
      simp only [impl_lastRising.l1]
      rw [if_pos (by omega),if_pos (by omega),if_pos (by omega),if_pos c,if_pos (by omega),show wrap64 (1 + rd many (j : Int)) = 1 + rd many (j : Int) by unfold wrap64; omega,w1 j (by omega)]
      congr 1
      unfold mx; split <;> omega
    · rw [if_neg (show ¬ (decide _ = true) by rw [decide_eq_true_eq]; exact c)] at hev
      refine Ev.step (fun k => ?_) (ih (j + 1) b (by omega) hb0 hb hev)
      simp only [impl_lastRising.l1]
      rw [if_pos (by omega),if_pos (by omega),if_pos (by omega),if_neg c,w1 j (by omega)]
theorem last_out (l : List Int) (hl : l.length ≤ 40) (hpos : 0 < l.length) : ∀ (d i : Nat), i + d = l.length →
    Ev (fun k => impl_lastRising.l0 k l ((falL (l.take i).reverse).reverse) l (l.length : Int) (i : Int)) (hdF l.reverse) := by
  intro d
  induction d with
  | zero =>
    intro i hi
    rw [List.take_of_length_le (by omega)]
    refine Ev.step (f := fun _ => some (hdF l.reverse)) (fun k => ?_) (Ev.now _)
    have hlen : ((falL l.reverse).reverse).length = l.length := by rw [List.length_reverse,falL_len,List.length_reverse]
    simp only [impl_lastRising.l0]
    rw [if_neg (by omega),hlen,wm1 l.length (by omega),if_pos (by omega),if_pos (by omega)]
    rw [show ((l.length : Int) - 1) = ((l.length - 1 : Nat) : Int) by omega,rd_nat _ _ (by omega),List.getElem_reverse]
    unfold hdF
    rw [show (0 : Int) = ((0 : Nat) : Int) from rfl,rd_nat _ 0 (by rw [falL_len,List.length_reverse]; omega)]
    congr 2
    rw [falL_len,List.length_reverse]; omega
  | succ d ih =>
    intro i hi
    have hlt : i < l.length := by omega
    have hr := ih (i + 1) (by omega)
    have hlm : ((falL (l.take i).reverse).reverse).length = i := by rw [List.length_reverse,falL_len,List.length_reverse,List.length_take]; omega
    have e : (falL (l.take (i + 1)).reverse).reverse = (falL (l.take i).reverse).reverse ++ [max 0 (bst (fun o => decide (o < rd l (i : Int))) (((l.take i).drop 0).zip (((falL (l.take i).reverse).reverse).drop 0))) + 1] := by
      have h0 := bst_nonneg (fun o => decide (o < rd l (i : Int))) (((l.take i).drop 0).zip (((falL (l.take i).reverse).reverse).drop 0))
      rw [show ∀ z : Int,0 ≤ z → max 0 z = z from fun z hz => by omega]
      · rw [List.take_succ_eq_append_getElem hlt,List.reverse_append,← rd_nat l i hlt]
        simp only [List.reverse_cons,List.reverse_nil,List.nil_append,List.cons_append,falL,List.drop_zero]
        congr 3
        rw [← bst_reverse,zip_rev _ _ (by simp [falL_len])]
        rw [List.reverse_reverse]
      · exact h0
    rw [e] at hr
    have h2 := last_in l hl i hlt _ hlm (fun c hc => by
      have := falL_mem (l.take i).reverse c (by simpa using hc)
      rw [List.length_reverse,List.length_take] at this
      omega) (rd l (i : Int)) _ i 0 0 (by omega) (by omega) (by omega) hr
    refine Ev.step (fun k => ?_) h2
    simp only [impl_lastRising.l0]
    rw [if_pos (by omega),if_pos (by omega),if_pos (by omega)]
    rfl
theorem last_ev (l : List Int) (hl : l.length ≤ 40) (hpos : 0 < l.length) : Ev (fun k => impl_lastRising.f k l) (hdF l.reverse) := by
  have := last_out l hl hpos l.length 0 (by omega)
  simpa [impl_lastRising.f,falL] using this
theorem last_calls (A : Option Addr) (c : Nat) (l : List Int) (hl : l.length ≤ 40) (hpos : 0 < l.length) (w : World) (h0 : Kd.C (Kd.int .i64) w A l.length l) (hc : l.length ≤ c) :
    Calls Try.prog 91 #[.slice A l.length c] w fun e w' => e = .returned (.int .i64 (hdF l.reverse)) ∧ Below w.heap.size w w' := by
  obtain ⟨k,hk⟩ := (last_ev l hl hpos).rounds
  exact impl_lastRising.calls k A c l _ w h0 hc hk
theorem mountain_calls (A0 : Option Addr) (c0 : Nat) (l : List Int) (hl1 : 1 ≤ l.length) (hl : l.length ≤ 40) (w : World) (h0 : Kd.C (Kd.int .i64) w A0 l.length l) (hc0 : l.length ≤ c0) :
    Calls Try.prog 74 #[.slice A0 l.length c0] w fun e w' => e = .returned (.int .i64 (mtn l 0 l.length 0)) ∧ Below w.heap.size w w' := by
  have HB := Aside0.mk (Below.refl w.heap.size w)
  have HC := Aside0.mk h0
  have HC0 := Aside0.mk hc0
  obtain ⟨T,hT0⟩ : ∃ T,mtn l 0 l.length 0 = T := ⟨_,rfl⟩
  rw [hT0]
  have HE0 : Aside0 (mtn l 0 (l.length - 0) 0 = T) := ⟨by rw [Nat.sub_zero]; exact hT0⟩
  clear hT0
  clear h0 hc0
  go_enter Try.func74,Try.ntmps74
  go_wp2_with fail
  go_loopg [3,7] l.length (fun kq v3 v7 w' => ∃ (i : Nat) (m : Int),v3 = .int .i64 m ∧ v7 = .int .i64 (i : Int) ∧ Aside0 (kq + i = l.length) ∧ Aside0 (0 ≤ m ∧ m ≤ (l.length : Int)) ∧ Aside0 (mtn l i (l.length - i) m = T) ∧ Aside0 (Below w.heap.size w w'))
  case atStart => exact ⟨0,0,rfl,rfl,⟨rfl⟩,⟨by omega⟩,HE0,HB⟩
  case round =>
    clear HB HE0
    obtain ⟨i,m,rfl,rfl,HK,HM,HE,HB⟩ := hrel
    by_cases hi : i < l.length
    · have HE1 := HE.out
      rw [show l.length - i = (l.length - (i + 1)) + 1 by omega,mtn] at HE1
      have hb := mtn_bd l i hi
      obtain ⟨i010,hi010,_,hsz10,_⟩ := info_parts HClone.info_int
      have hw1 : IntKind.i64.wrap ((i : Int) + 1) = (i : Int) + 1 := IntWalk.i64_in _ (by omega)
      have hcutT := print_take_of (P := Try.prog) (Value.int .i64) 0 24 3 .i64 Try.underlying24 hi010 hsz10 A0 c0 l ((i : Int) + 1) (by omega) (by omega) HC0.out
      obtain ⟨hcut1,hA1,hC1⟩ := hcutT
      obtain ⟨A10,hcut10,hA10,hC10⟩ := print_drop_of (P := Try.prog) (Value.int .i64) 0 24 3 .i64 Try.underlying24 hi010 hsz10 A0 c0 l (i : Int) (by omega) (by omega) HC0.out
      have HR1 := Aside0.mk (fun W (h : Below w.heap.size w W) => (Kd.C_of_reads (h1 := fun _ => rfl) (hA1 W (Kd.reads_of_C (Kd.C_below HC.out h))) : Kd.C (Kd.int .i64) W A0 (l.take ((i : Int) + 1).toNat).length (l.take ((i : Int) + 1).toNat)))
      have HR10 := Aside0.mk (fun W (h : Below w.heap.size w W) => (Kd.C_of_reads (h1 := fun _ => rfl) (hA10 W (Kd.reads_of_C (Kd.C_below HC.out h))) : Kd.C (Kd.int .i64) W A10 (l.drop ((i : Int)).toNat).length (l.drop ((i : Int)).toNat)))
      have et : l.take ((i : Int) + 1).toNat = l.take (i + 1) := by congr 1
      have ed : l.drop ((i : Int)).toNat = l.drop i := by congr 1
      rw [et] at hcut1 hC1 HR1
      rw [ed] at hcut10 hC10 HR10
      have HL1 := Aside0.mk (fun W hC => last_calls A0 c0 (l.take (i + 1)) (by rw [List.length_take]; omega) (by rw [List.length_take]; omega) W hC hC1)
      have HMR := Aside0.mk (fun c W hC => HClone.mirrored_calls A10 c (l.drop i) (by rw [List.length_drop]; omega) W hC)
      have HL2 := Aside0.mk (fun A c W hC hc => last_calls A c (l.drop i).reverse (by rw [List.length_reverse,List.length_drop]; omega) (by rw [List.length_reverse,List.length_drop]; omega) W hC hc)
      rw [List.reverse_reverse] at HL2
      generalize (l.drop i).reverse = lr at HMR HL2
      generalize hdF (l.take (i + 1)).reverse = x at HL1 hb HE1
      generalize hdF (l.drop i) = y at HL2 hb HE1
      generalize l.take (i + 1) = tk at hcut1 hC1 HR1 HL1
      generalize l.drop i = dr at hcut10 hC10 HR10 HMR
      have hw2 : IntKind.i64.wrap (x + y) = x + y := IntWalk.i64_in _ (by omega)
      have hw3 : IntKind.i64.wrap (x + y - 1) = x + y - 1 := IntWalk.i64_in _ (by omega)
      have HM2 : Aside0 (0 ≤ (if m < x + y - 1 then x + y - 1 else m) ∧ (if m < x + y - 1 then x + y - 1 else m) ≤ (l.length : Int)) := ⟨by have := HM.out; split <;> omega⟩
      have HE2 : Aside0 (mtn l (i + 1) (l.length - (i + 1)) (if m < x + y - 1 then x + y - 1 else m) = T) := ⟨by
        rw [← HE1]
        by_cases c : m < x + y - 1
        · rw [if_pos c,if_neg (by omega)]
        · by_cases c2 : m > x + y - 1
          · rw [if_neg c,if_pos c2]
          · rw [if_neg c,if_neg c2,show x + y - 1 = m by omega]⟩
      clear hA1 hA10 hi010 hsz10 HE HE1 et ed hb HM
      go_wp2_with fail
      go_region_held3 (fun w' => True) (trivial) (first | (go_at_call 55; (with_reducible refine (HMR.out _ _ ?side1).mono ?_); (case side1 => exact HR10.out _ (by repeat first|(with_reducible first|exact HB.out|apply below_alloc|apply pw_below_drewN|apply below_drew1)|exact HB.out)); rintro e w2 ⟨v2,rfl,ho,hb2⟩; obtain ⟨A2,cp2,Aa,hcp2,hC2⟩ := Kd.R_reads ho; subst Aa; have HC2 := Aside0.mk hC2; have HBn := Aside0.mk (below_step (by repeat first|(with_reducible first|exact HB.out|apply below_alloc|apply pw_below_drewN|apply below_drew1)|exact HB.out) hb2); clear ho hC2 hb2 HB; have HB := HBn; clear HBn) | (go_at_call 91; (with_reducible refine (HL2.out A2 cp2 _ ?side1 hcp2).mono ?_); (case side1 => exact (by repeat (first | exact HC2.out | (with_reducible refine Kd.C_alloc ?_ _) | (with_reducible refine Kd.C_drewN ?_ _) | (with_reducible refine Kd.C_drew ?_)))); rintro e w3 ⟨rfl,hb3⟩; have HBn := Aside0.mk (below_step (by repeat first|(with_reducible first|exact HB.out|apply below_alloc|apply pw_below_drewN|apply below_drew1)|exact HB.out) hb3); clear hb3 HB; have HB := HBn; clear HBn) | (go_at_call 91; (with_reducible refine (HL1.out _ ?side1).mono ?_); (case side1 => exact HR1.out _ (by repeat first|(with_reducible first|exact HB.out|apply below_alloc|apply pw_below_drewN|apply below_drew1)|exact HB.out)); rintro e w1 ⟨rfl,hb1⟩; have HBn := Aside0.mk (below_step (by repeat first|(with_reducible first|exact HB.out|apply below_alloc|apply pw_below_drewN|apply below_drew1)|exact HB.out) hb1); clear hb1 HB; have HB := HBn; clear HBn))
      all_goals go_wp2
      all_goals go_roundg (l.length - (i + 1))
      all_goals first | (have := HK.out; omega; done) | exact ⟨i + 1,_,rfl,by first | rfl | (simp; done),⟨by omega⟩,⟨by have h5 := HM2.out; split at h5 <;> first | exact h5 | omega⟩,⟨by have h5 := HE2.out; split at h5 <;> first | exact h5 | omega⟩,⟨(by repeat first|(with_reducible first|exact HB.out|apply below_alloc|apply pw_below_drewN|apply below_drew1)|exact HB.out)⟩⟩
    · have hT := HE.out
      rw [show l.length - i = 0 by omega,mtn] at hT
      clear HE
      subst hT
      go_wp2_with fail
      go_ret
      exact ⟨rfl,(by repeat first|(with_reducible first|exact HB.out|apply below_alloc|apply pw_below_drewN|apply below_drew1)|exact HB.out)⟩
theorem spec_LongestMountain (A0 : Option Addr) (c0 : Nat) (l : List Int) (hl : l.length ≤ 1048576) (w : World) (h0 : Kd.C (Kd.int .i64) w A0 l.length l) (hc0 : l.length ≤ c0) :
    Calls Try.prog 35 #[.slice A0 l.length c0] w fun e w' => e = .returned (.tuple #[.int .i64 (if good l = true then mtn l 0 l.length 0 else 0),.bool (good l)]) ∧ Below w.heap.size w w' := by
  have h : Ev (fun k => spec_LongestMountain.f k l) (if good l = true then mtn l 0 l.length 0 else 0,good l) := by
    refine Ev.bind (good_ev l hl) ?_
    cases hg : good l with
    | true =>
      simp only [if_true]
      refine Ev.bind (mountain_spec_ev l hg) ?_
      exact Ev.now _
    | false => exact Ev.now _
  obtain ⟨k,hk⟩ := h.rounds
  exact (spec_LongestMountain.calls k A0 c0 l _ _ w h0 hc0 hk).mono (fun e w' h => ⟨h.1,h.2⟩)
theorem impl_LongestMountain (A0 : Option Addr) (c0 : Nat) (l : List Int) (hl : l.length ≤ 1048576) (w : World) (h0 : Kd.C (Kd.int .i64) w A0 l.length l) (hc0 : l.length ≤ c0) :
    Calls Try.prog 34 #[.slice A0 l.length c0] w fun e w' => e = .returned (.tuple #[.int .i64 (if good l = true then mtn l 0 l.length 0 else 0),.bool (good l)]) ∧ Below w.heap.size w w' := by
  have HB := Aside0.mk (Below.refl w.heap.size w)
  have HC := Aside0.mk h0
  cases hg : good l with
  | false =>
    have HG := Aside0.mk (HImpl.are_is A0 c0 l false hg w h0 hc0)
    clear h0 hg
    go_enter Try.func34,Try.ntmps34
    go_wp2_with (go_at_call 53; refine HG.out.mono ?_; rintro e w' ⟨rfl,⟨nd,rfl⟩⟩)
    go_ret2
    exact ⟨rfl,(by repeat first|(with_reducible first|exact HB.out|apply below_alloc|apply pw_below_drewN|apply below_drew1)|exact HB.out)⟩
  | true =>
    have HG := Aside0.mk (HImpl.are_is A0 c0 l true hg w h0 hc0)
    obtain ⟨hl1,hl2⟩ := good_len hg
    clear h0 hg
    simp only [if_true]
    have HMT := Aside0.mk (fun W hC => mountain_calls A0 c0 l hl1 hl2 W hC hc0)
    have HRG := Aside0.mk (mtn_range l l.length 0 0 (by omega) (by omega) (by omega))
    generalize mtn l 0 l.length 0 = T at HMT HRG
    have hrg := HRG.out
    go_enter Try.func34,Try.ntmps34
    go_wp2_with (first | (go_at_call 53; refine HG.out.mono ?_; rintro e w' ⟨rfl,⟨nd,rfl⟩⟩) | (go_at_call 74; refine (HMT.out _ (Kd.C_below HC.out (by repeat first|(with_reducible first|exact HB.out|apply below_alloc|apply pw_below_drewN|apply below_drew1)|exact HB.out))).mono ?_; rintro e w2 ⟨rfl,hb⟩; have HBn := Aside0.mk (below_step (by repeat first|(with_reducible first|exact HB.out|apply below_alloc|apply pw_below_drewN|apply below_drew1)|exact HB.out) hb); clear hb HB; have HB := HBn; clear HBn))
    go_ret2
    exact ⟨rfl,(by repeat first|(with_reducible first|exact HB.out|apply below_alloc|apply pw_below_drewN|apply below_drew1)|exact HB.out)⟩
end Go.Proofs.Ytleacijhpkogpad.HMtn
/- The fewest to leave: contracts over those of the mountain. -/
namespace Go.Proofs.Ytleacijhpkogpad.HFew
open Go.RowKit YtleacijhpkogpadW.PrintWords YtleacijhpkogpadW.PrintLast YtleacijhpkogpadW.PrintMore HImpl PFnHeightsRise HSpecG HMtn

theorem spec_FewestToLeave (A0 : Option Addr) (c0 : Nat) (l : List Int) (hl : l.length ≤ 1048576) (w : World) (h0 : Kd.C (Kd.int .i64) w A0 l.length l) (hc0 : l.length ≤ c0) :
    Calls Try.prog 37 #[.slice A0 l.length c0] w fun e w' => e = .returned (.tuple #[.int .i64 (if good l = true then (l.length : Int) - mtn l 0 l.length 0 else 0),.bool (good l)]) ∧ Below w.heap.size w w' := by
  have h : Ev (fun k => spec_FewestToLeave.f k l) (if good l = true then (l.length : Int) - mtn l 0 l.length 0 else 0,good l) := by
    refine Ev.bind (good_ev l hl) ?_
    cases hg : good l with
    | true =>
      simp only [if_true]
      refine Ev.bind (mountain_spec_ev l hg) ?_
      have hrg := mtn_range l l.length 0 0 (by omega) (by omega) (by omega)
      rw [show wrap64 ((l.length : Int) - mtn l 0 l.length 0) = (l.length : Int) - mtn l 0 l.length 0 by unfold wrap64; have := good_len hg; omega]
      exact Ev.now _
    | false => exact Ev.now _
  obtain ⟨k,hk⟩ := h.rounds
  exact (spec_FewestToLeave.calls k A0 c0 l _ _ w h0 hc0 hk).mono (fun e w' h => ⟨h.1,h.2⟩)
theorem impl_FewestToLeave (A0 : Option Addr) (c0 : Nat) (l : List Int) (hl : l.length ≤ 1048576) (w : World) (h0 : Kd.C (Kd.int .i64) w A0 l.length l) (hc0 : l.length ≤ c0) :
    Calls Try.prog 36 #[.slice A0 l.length c0] w fun e w' => e = .returned (.tuple #[.int .i64 (if good l = true then (l.length : Int) - mtn l 0 l.length 0 else 0),.bool (good l)]) ∧ Below w.heap.size w w' := by
  have HB := Aside0.mk (Below.refl w.heap.size w)
  have HC := Aside0.mk h0
  cases hg : good l with
  | false =>
    have HG := Aside0.mk (HImpl.are_is A0 c0 l false hg w h0 hc0)
    clear h0 hg
    go_enter Try.func36,Try.ntmps36
    go_wp2_with (go_at_call 53; refine HG.out.mono ?_; rintro e w' ⟨rfl,⟨nd,rfl⟩⟩)
    go_ret2
    exact ⟨rfl,(by repeat first|(with_reducible first|exact HB.out|apply below_alloc|apply pw_below_drewN|apply below_drew1)|exact HB.out)⟩
  | true =>
    have HG := Aside0.mk (HImpl.are_is A0 c0 l true hg w h0 hc0)
    obtain ⟨hl1,hl2⟩ := good_len hg
    clear h0 hg
    simp only [if_true]
    have HMT := Aside0.mk (fun W hC => mountain_calls A0 c0 l hl1 hl2 W hC hc0)
    have HRG := Aside0.mk (mtn_range l l.length 0 0 (by omega) (by omega) (by omega))
    generalize mtn l 0 l.length 0 = T at HMT HRG
    have hrg := HRG.out
    go_enter Try.func36,Try.ntmps36
    go_wp2_with (first | (go_at_call 53; refine HG.out.mono ?_; rintro e w' ⟨rfl,⟨nd,rfl⟩⟩) | (go_at_call 74; refine (HMT.out _ (Kd.C_below HC.out (by repeat first|(with_reducible first|exact HB.out|apply below_alloc|apply pw_below_drewN|apply below_drew1)|exact HB.out))).mono ?_; rintro e w2 ⟨rfl,hb⟩; have HBn := Aside0.mk (below_step (by repeat first|(with_reducible first|exact HB.out|apply below_alloc|apply pw_below_drewN|apply below_drew1)|exact HB.out) hb); clear hb HB; have HB := HBn; clear HBn))
    go_ret2
    exact ⟨rfl,(by repeat first|(with_reducible first|exact HB.out|apply below_alloc|apply pw_below_drewN|apply below_drew1)|exact HB.out)⟩
end Go.Proofs.Ytleacijhpkogpad.HFew
/- The ranks of heights: the walk of impl.RanksOf and of the law; the reference over its printed walk. -/
namespace Go.Proofs.Ytleacijhpkogpad.HRank
open Go.RowKit YtleacijhpkogpadW.PrintWords YtleacijhpkogpadW.PrintLast YtleacijhpkogpadW.PrintMore HImpl PFnHeightsRise HSpecG

/-! ranks -/
def cntR : List Int → Nat → Nat → Int → Nat
  | [],_,_,_ => 0
  | o :: t,j,i,h => (if o < h then 1 else if o = h then (if j < i then 1 else 0) else 0) + cntR t (j + 1) i h
def ranksR (l : List Int) : List Int → Nat → List Int
  | [],_ => []
  | h :: t,i => ((cntR l 0 i h : Nat) : Int) :: ranksR l t (i + 1)
theorem ranksR_len (l : List Int) : ∀ (t : List Int) (i : Nat),(ranksR l t i).length = t.length
  | [],_ => rfl
  | _ :: t,i => by simp [ranksR,ranksR_len l t (i + 1)]
theorem rank_in (l : List Int) (hl : l.length ≤ 1048576) (out : List Int) (ho : out.length ≤ 1048576) (i : Nat) (hi : i ≤ 1048576) (h : Int) (R : List Int × Bool) : ∀ (d j c : Nat), j + d = l.length → c ≤ j →
    Ev (fun k => spec_RanksOf.l0 k l (out ++ [((c + cntR (l.drop j) j i h : Nat) : Int)]) l (l.length : Int) ((i + 1 : Nat) : Int)) R →
    Ev (fun k => spec_RanksOf.l1 k l out (i : Int) h (c : Int) l (l.length : Int) (i : Int) l (l.length : Int) (j : Int)) R := by
  intro d
  induction d with
  | zero =>
    intro j c hj hc hev
    rw [List.drop_eq_nil_of_le (by omega)] at hev
    refine Ev.step (f := fun k => spec_RanksOf.l0 k l (out ++ [((c + cntR [] j i h : Nat) : Int)]) l (l.length : Int) ((i + 1 : Nat) : Int)) (fun k => ?_) hev
    simp only [spec_RanksOf.l1,cntR,Nat.add_zero]
    rw [if_neg (by omega),if_pos (by omega),w1 i (by omega)]
  | succ d ih =>
    intro j c hj hc hev
    have hlt : j < l.length := by omega
    rw [drop_cons l j hlt] at hev
    simp only [cntR] at hev
    by_cases c1 : rd l (j : Int) < h
    · rw [if_pos c1] at hev
      have hr := ih (j + 1) (c + 1) (by omega) (by omega) (by rw [Nat.add_assoc]; exact hev)
      refine Ev.step (fun k => ?_) hr
      simp only [spec_RanksOf.l1]
      rw [if_pos (by omega),if_pos (by omega),if_pos (by omega),if_pos c1,w1 c (by omega),w1 j (by omega)]
    · rw [if_neg c1] at hev
      by_cases c2 : rd l (j : Int) = h
      · rw [if_pos c2] at hev
        by_cases c3 : j < i
        · rw [if_pos c3] at hev
          have hr := ih (j + 1) (c + 1) (by omega) (by omega) (by rw [Nat.add_assoc]; exact hev)
          refine Ev.step (fun k => ?_) hr
          simp only [spec_RanksOf.l1]
          rw [if_pos (by omega),if_pos (by omega),if_pos (by omega),if_neg c1,if_pos c2,if_pos (by omega),w1 c (by omega),w1 j (by omega)]
        · rw [if_neg c3,Nat.zero_add] at hev
          have hr := ih (j + 1) c (by omega) (by omega) hev
          refine Ev.step (fun k => ?_) hr
          simp only [spec_RanksOf.l1]
          rw [if_pos (by omega),if_pos (by omega),if_pos (by omega),if_neg c1,if_pos c2,if_neg (by omega),w1 j (by omega)]
      · rw [if_neg c2,Nat.zero_add] at hev
        have hr := ih (j + 1) c (by omega) (by omega) hev
        refine Ev.step (fun k => ?_) hr
        simp only [spec_RanksOf.l1]
        rw [if_pos (by omega),if_pos (by omega),if_pos (by omega),if_neg c1,if_neg c2,w1 j (by omega)]
theorem rank_out (l : List Int) (hl : l.length ≤ 1048576) : ∀ (d i : Nat) (out : List Int), i + d = l.length → out.length = i →
    Ev (fun k => spec_RanksOf.l0 k l out l (l.length : Int) (i : Int)) (out ++ ranksR l (l.drop i) i,true) := by
  intro d
  induction d with
  | zero =>
    intro i out hi ho
    refine Ev.step (f := fun _ => some (out,true)) (fun k => ?_) ?_
    · simp only [spec_RanksOf.l0]
      rw [if_neg (by omega)]
    · rw [List.drop_eq_nil_of_le (by omega)]
      simp only [ranksR,List.append_nil]
      exact Ev.now _
  | succ d ih =>
    intro i out hi ho
    have hlt : i < l.length := by omega
    rw [drop_cons l i hlt]
    simp only [ranksR]
    have hr := ih (i + 1) (out ++ [((cntR l 0 i (rd l (i : Int)) : Nat) : Int)]) (by omega) (by simp; omega)
    rw [List.append_assoc] at hr
    have h2 := rank_in l hl out (by omega) i (by omega) (rd l (i : Int)) _ l.length 0 0 (by omega) (by omega) (by rw [Nat.zero_add,List.drop_zero]; exact hr)
    refine Ev.step (fun k => ?_) h2
    simp only [spec_RanksOf.l0]
    rw [if_pos (by omega),if_pos (by omega),if_pos (by omega)]
    rfl
theorem ranks_ev (l : List Int) (hl : l.length ≤ 1048576) : Ev (fun k => spec_RanksOf.l0 k l [] l (l.length : Int) 0) (ranksR l l 0,true) := by
  have := rank_out l hl l.length 0 [] (by omega) rfl
  simpa using this
theorem spec_RanksOf (A0 : Option Addr) (c0 : Nat) (l : List Int) (hl : l.length ≤ 1048576) (w : World) (h0 : Kd.C (Kd.int .i64) w A0 l.length l) (hc0 : l.length ≤ c0) :
    Calls Try.prog 41 #[.slice A0 l.length c0] w fun e w' => ∃ v : Value,e = .returned (.tuple #[v,.bool (good l)]) ∧ Kd.R (Kd.int .i64) 3 w' w.heap.size (fun _ => True) v (if good l = true then ranksR l l 0 else []) ∧ Below w.heap.size w w' := by
  have h : Ev (fun k => spec_RanksOf.f k l) (if good l = true then ranksR l l 0 else [],good l) := by
    refine Ev.bind (good_ev l hl) ?_
    cases hg : good l with
    | true =>
      simp only [if_true]
      exact ranks_ev l hl
    | false => exact Ev.now _
  obtain ⟨k,hk⟩ := h.rounds
  exact spec_RanksOf.calls k A0 c0 l _ _ w h0 hc0 hk
theorem cntR_le (i : Nat) (h : Int) : ∀ (t : List Int) (j : Nat),cntR t j i h ≤ t.length
  | [],_ => Nat.le_refl _
  | o :: t,j => by
    have := cntR_le i h t (j + 1)
    simp only [cntR,List.length_cons]
    (repeat' split) <;> omega
theorem impl_RanksOf (A0 : Option Addr) (c0 : Nat) (l : List Int) (hl : l.length ≤ 1048576) (w : World) (h0 : Kd.C (Kd.int .i64) w A0 l.length l) (hc0 : l.length ≤ c0) :
    Calls Try.prog 40 #[.slice A0 l.length c0] w fun e w' => ∃ v : Value,e = .returned (.tuple #[v,.bool (good l)]) ∧ Kd.R (Kd.int .i64) 3 w' w.heap.size (fun _ => True) v (if good l = true then ranksR l l 0 else []) ∧ Below w.heap.size w w' := by
  have HB := Aside0.mk (Below.refl w.heap.size w)
  have HC := Aside0.mk h0
  cases hg : good l with
  | false =>
    have HG := Aside0.mk (HImpl.are_is A0 c0 l false hg w h0 hc0)
    clear h0 hg
    go_enter Try.func40,Try.ntmps40
    go_wp2_with (go_at_call 53; refine HG.out.mono ?_; rintro e w' ⟨rfl,⟨nd,rfl⟩⟩)
    go_ret2
    exact ⟨_,rfl,Kd.R_nil _ _ _ _ _,(by repeat first|(with_reducible first|exact HB.out|apply below_alloc|apply pw_below_drewN|apply below_drew1)|exact HB.out)⟩
  | true =>
    have HG := Aside0.mk (HImpl.are_is A0 c0 l true hg w h0 hc0)
    obtain ⟨hl1,hl2⟩ := good_len hg
    clear h0 hg
    simp only [if_true]
    have HE0 : Aside0 (ranksR l (l.drop 0) 0 = ranksR l l 0) := ⟨by rw [List.drop_zero]⟩
    generalize ranksR l l 0 = T at HE0
    go_enter Try.func40,Try.ntmps40
    go_wp2_with (first | (go_at_call 53; refine HG.out.mono ?_; rintro e w' ⟨rfl,⟨nd,rfl⟩⟩) | ((with_reducible refine gate_dst (N := 13) rfl ?_); refine Kd.R_lit (Kd.int .i64) (w0 := w) w.heap.size 3 ?hg (N := 13) ?hd (xs := ([] : List Int)) (inner := []) (ok := fun _ => True) (okp := fun _ => True) ?hr ?hp (fun _ hk => hk) trivial (by repeat first|(with_reducible first|exact HB.out|apply below_alloc|apply pw_below_drewN|apply below_drew1)|exact HB.out) (below_size (by repeat first|(with_reducible first|exact HB.out|apply below_alloc|apply pw_below_drewN|apply below_drew1)|exact HB.out)) (by simp) ?_; (case hd => rfl); (case hg => rfl); (case hr => first | (go_simp; done) | (go_simp; rfl)); (case hp => exact (Reps.none _ _)); intro v1 w1 ho hb hg hnew; have HO := Aside0.mk ho; have HBn := Aside0.mk hb; clear ho hb hg hnew HB; have HB := HBn; clear HBn))
    go_loopg [4,16] l.length (fun kq v4 v16 w' => ∃ (i : Nat) (acc : List Int),v16 = .int .i64 (i : Int) ∧ Aside0 (kq + i = l.length) ∧ Aside0 (acc.length = i) ∧ Aside0 (acc ++ ranksR l (l.drop i) i = T) ∧ Aside0 (Kd.R (Kd.int .i64) 3 w' w.heap.size (fun _ => True) v4 acc) ∧ Aside0 (Below w.heap.size w w'))
    case atStart => exact ⟨0,[],rfl,⟨rfl⟩,⟨rfl⟩,⟨by rw [List.nil_append]; exact HE0.out⟩,HO,HB⟩
    case round =>
      clear HO HB HE0
      obtain ⟨i,acc,rfl,HK,HAL,HE,HO,HB⟩ := hrel
      by_cases hi : i < l.length
      · have HE1 : Aside0 (acc ++ [((cntR l 0 i (rd l (i : Int)) : Nat) : Int)] ++ ranksR l (l.drop (i + 1)) (i + 1) = T) := ⟨by
          have := HE.out
          rw [drop_cons l i hi,ranksR] at this
          rw [List.append_assoc]; exact this⟩
        obtain ⟨ad,e,hci⟩ := Kd.at_int HC.out (i : Int) (by omega) (by omega)
        cases e
        generalize rd l (i : Int) = h at hci HE1
        rw [Int.toNat_natCast] at hci
        have HCI := Aside0.mk hci
        replace hci := pw_cell_below HB.out hci
        have HCN0 : Aside0 (0 + cntR (l.drop 0) 0 i h = cntR l 0 i h) := ⟨by rw [List.drop_zero,Nat.zero_add]⟩
        have HLE := Aside0.mk (cntR_le i h l 0)
        generalize cntR l 0 i h = n at HE1 HCN0 HLE
        go_wp2_with fail
        go_loopg [7,23] l.length (fun kq2 v7 v23 w' => ∃ (j c : Nat),v7 = .int .i64 (c : Int) ∧ v23 = .int .i64 (j : Int) ∧ Aside0 (kq2 + j = l.length) ∧ Aside0 (c ≤ j) ∧ Aside0 (c + cntR (l.drop j) j i h = n) ∧ Aside0 (Kd.R (Kd.int .i64) 3 w' w.heap.size (fun _ => True) u4 acc) ∧ Aside0 (Below w.heap.size w w'))
        case atStart => exact ⟨0,0,rfl,rfl,⟨rfl⟩,⟨by omega⟩,HCN0,HO,HB⟩
        case round =>
          clear HO HB HCN0 hci
          obtain ⟨j,c,rfl,rfl,HK2,HCJ,HCN,HO,HB⟩ := hrel
          by_cases hj : j < l.length
          · obtain ⟨ad2,e,hcj⟩ := Kd.at_int HC.out (j : Int) (by omega) (by omega)
            cases e
            rw [Int.toNat_natCast] at hcj
            have HCN2 : Aside0 (c + ((if rd l (j : Int) < h then 1 else if rd l (j : Int) = h then (if j < i then 1 else 0) else 0) + cntR (l.drop (j + 1)) (j + 1) i h) = n) := ⟨by
              have := HCN.out
              rw [drop_cons l j hj,cntR] at this
              exact this⟩
            generalize rd l (j : Int) = x at hcj HCN2
            replace hcj := pw_cell_below HB.out hcj
            have hcb := HCJ.out
            clear HCN
            by_cases c1 : x < h
            · have HCN3 : Aside0 (c + 1 + cntR (l.drop (j + 1)) (j + 1) i h = n) := ⟨by have := HCN2.out; rw [if_pos c1] at this; omega⟩
              go_wp2_with fail
              go_roundg (l.length - (j + 1))
              case measure => have := HK2.out; omega
              case rel => exact ⟨j + 1,c + 1,rfl,rfl,⟨by have := HK2.out; omega⟩,⟨by omega⟩,HCN3,HO,HB⟩
            · by_cases c2 : x = h
              · subst c2
                by_cases c3 : j < i
                · have HCN3 : Aside0 (c + 1 + cntR (l.drop (j + 1)) (j + 1) i x = n) := ⟨by have := HCN2.out; rw [if_neg c1,if_pos rfl,if_pos c3] at this; omega⟩
                  have c3' : (j : Int) < (i : Int) := by omega
                  go_wp2_with fail
                  go_roundg (l.length - (j + 1))
                  case measure => have := HK2.out; omega
                  case rel => exact ⟨j + 1,c + 1,rfl,rfl,⟨by have := HK2.out; omega⟩,⟨by omega⟩,HCN3,HO,HB⟩
                · have HCN3 : Aside0 (c + cntR (l.drop (j + 1)) (j + 1) i x = n) := ⟨by have := HCN2.out; rw [if_neg c1,if_pos rfl,if_neg c3] at this; omega⟩
                  have c3' : ¬ (j : Int) < (i : Int) := by omega
                  go_wp2_with fail
                  go_roundg (l.length - (j + 1))
                  case measure => have := HK2.out; omega
                  case rel => exact ⟨j + 1,c,rfl,rfl,⟨by have := HK2.out; omega⟩,⟨by omega⟩,HCN3,HO,HB⟩
              · have HCN3 : Aside0 (c + cntR (l.drop (j + 1)) (j + 1) i h = n) := ⟨by have := HCN2.out; rw [if_neg c1,if_neg c2] at this; omega⟩
                go_wp2_with fail
                go_roundg (l.length - (j + 1))
                case measure => have := HK2.out; omega
                case rel => exact ⟨j + 1,c,rfl,rfl,⟨by have := HK2.out; omega⟩,⟨by omega⟩,HCN3,HO,HB⟩
          · have HCN3 : Aside0 (c = n) := ⟨by have := HCN.out; rw [List.drop_eq_nil_of_le (by omega)] at this; exact this⟩
            have hal := HAL.out
            clear HCN
            go_wp2_with ((with_reducible refine gate_builtin (b := .append) (xs := #[.tmp 44,.tmp 46]) rfl ?_); at_builtin; refine Kd.R_append (Kd.int .i64) (w0 := w) w.heap.size rfl (.tmp 44) (.tmp 46) 24 3 (.int .i64 0) 8 rfl Try.underlying24 HClone.info_int rfl (by decide) (by omega) u4 acc (c : Int) [.int .i64 (c : Int)] (fun _ => True) (fun _ => False) rfl rfl ?aP (fun _ hk => hk.elim) (fun _ _ => trivial) ?aO ?aB ?aS ?aL ?_; (case aP => exact rfl); (case aO => exact HO.out); (case aB => exact HB.out); (case aS => exact HB.out.size); (case aL => omega); intro v7 w7 ho hb hg hat; have HOn := Aside0.mk ho; have HBn := Aside0.mk hb; clear ho hb hg hat HO HB; have HO := HOn; have HB := HBn; clear HOn HBn)
            go_roundg (l.length - (i + 1))
            case measure => have := HK.out; omega
            case rel => exact ⟨i + 1,acc ++ [(c : Int)],rfl,⟨by have := HK.out; omega⟩,⟨by simp; omega⟩,⟨by rw [HCN3.out]; exact HE1.out⟩,HO,HB⟩
      · have HE2 : Aside0 (acc = T) := ⟨by have := HE.out; rw [List.drop_eq_nil_of_le (by omega),ranksR,List.append_nil] at this; exact this⟩
        clear HE
        go_wp2_with fail
        go_ret2
        exact ⟨_,rfl,by rw [← HE2.out]; exact HO.out,(by repeat first|(with_reducible first|exact HB.out|apply below_alloc|apply pw_below_drewN|apply below_drew1)|exact HB.out)⟩
end Go.Proofs.Ytleacijhpkogpad.HRank
/- How many stand out of order: the walks of spec.CountDisorder,impl.CountDisorder and of the law. -/
namespace Go.Proofs.Ytleacijhpkogpad.HDis
open Go.RowKit YtleacijhpkogpadW.PrintWords YtleacijhpkogpadW.PrintLast YtleacijhpkogpadW.PrintMore HImpl HSpecG

def disR (h : Int) : List Int → Nat
  | [] => 0
  | o :: t => (if h > o then 1 else 0) + disR h t
def disL : List Int → Nat
  | [] => 0
  | h :: t => disR h t + disL t
theorem disR_le (h : Int) : ∀ t : List Int,disR h t ≤ t.length
  | [] => by simp [disR]
  | o :: t => by
    have := disR_le h t
    simp only [disR,List.length_cons]
    split <;> omega
theorem spec_CountDisorder (A0 : Option Addr) (c0 : Nat) (l : List Int) (hl : l.length ≤ 1048576) (w : World) (h0 : Kd.C (Kd.int .i64) w A0 l.length l) (hc0 : l.length ≤ c0) :
    Calls Try.prog 39 #[.slice A0 l.length c0] w fun e w' => e = .returned (.tuple #[.int .i64 (if good l = true then ((disL l : Nat) : Int) else 0),.bool (good l)]) ∧ Below w.heap.size w w' := by
  have HB := Aside0.mk (Below.refl w.heap.size w)
  have HC := Aside0.mk h0
  cases hg : good l with
  | false =>
    have HG := Aside0.mk (HSpecG.good_is A0 c0 l hl false hg w h0 hc0)
    clear h0 hg
    go_enter Try.func39,Try.ntmps39
    go_wp2_with (go_at_call 56; refine HG.out.mono ?_; rintro e w' ⟨rfl,⟨nd,rfl⟩⟩)
    go_ret2
    exact ⟨rfl,(by repeat first|(with_reducible first|exact HB.out|apply below_alloc|apply pw_below_drewN|apply below_drew1)|exact HB.out)⟩
  | true =>
    have HG := Aside0.mk (HSpecG.good_is A0 c0 l hl true hg w h0 hc0)
    obtain ⟨hl1,hl2⟩ := good_len hg
    clear h0 hg
    simp only [if_true]
    have HE0 : Aside0 (0 + disL (l.drop 0) = disL l) := ⟨by rw [List.drop_zero,Nat.zero_add]⟩
    generalize disL l = T at HE0
    have HC0 := Aside0.mk hc0
    go_enter Try.func39,Try.ntmps39
    go_wp2_with (go_at_call 56; refine HG.out.mono ?_; rintro e w' ⟨rfl,⟨nd,rfl⟩⟩)
    go_loopg [4,14] l.length (fun kq v4 v14 w' => ∃ (i n : Nat),v4 = .int .i64 (n : Int) ∧ v14 = .int .i64 (i : Int) ∧ Aside0 (kq + i = l.length) ∧ Aside0 (n ≤ i * 40) ∧ Aside0 (n + disL (l.drop i) = T) ∧ Aside0 (Below w.heap.size w w'))
    case atStart => exact ⟨0,0,rfl,rfl,⟨rfl⟩,⟨by omega⟩,HE0,⟨(by repeat first|(with_reducible first|exact HB.out|apply below_alloc|apply pw_below_drewN|apply below_drew1)|exact HB.out)⟩⟩
    case round =>
      clear HB HE0
      obtain ⟨i,n,rfl,rfl,HK,HNI,HE,HB⟩ := hrel
      by_cases hi : i < l.length
      · obtain ⟨ad,e,hci⟩ := Kd.at_int HC.out (i : Int) (by omega) (by omega)
        cases e
        have HE1 : Aside0 (n + disR (rd l (i : Int)) (l.drop (i + 1)) + disL (l.drop (i + 1)) = T) := ⟨by
          have := HE.out
          rw [drop_cons l i hi,disL] at this
          
          omega⟩
        obtain ⟨mm,hmm⟩ : ∃ m : Int,IntKind.i64.wrap ((i : Int) + 1) = m := ⟨_,rfl⟩
        have hm0 : mm = ((i + 1 : Nat) : Int) := by rw [← hmm]; rw [IntWalk.i64_in _ (by omega)]; omega
        obtain ⟨i010,hi010,_,hsz10,_⟩ := info_parts HClone.info_int
        obtain ⟨A10,hcut10,hA10,hC10⟩ := print_drop_of (P := Try.prog) (Value.int .i64) 0 24 3 .i64 Try.underlying24 hi010 hsz10 (some ad) c0 l mm (by omega) (by omega) HC0.out
        have HR10 := Aside0.mk (Kd.C_of_reads (h1 := fun _ => rfl) (hA10 _ (Kd.reads_of_C HC.out)))
        have HC10 := Aside0.mk hC10
        have hdl : (l.drop (mm).toNat).length ≤ 40 := by rw [List.length_drop]; omega
        have hde : l.drop (mm).toNat = l.drop (i + 1) := by rw [hm0]; congr 1
        generalize hR : disL (l.drop (i + 1)) = R at HE1
        have HRR := Aside0.mk hR
        rw [← hde] at HE1
        have HM0 := Aside0.mk hm0
        clear hR
        have HDL := Aside0.mk hdl
        clear hA10 hC10 hi010 hsz10 hdl hde HE
        generalize rd l (i : Int) = h at hci HE1
        rw [Int.toNat_natCast] at hci
        replace hci := pw_cell_below HB.out hci
        have kk1 : (0 : Int) ≤ mm := by omega
        have kk2 : mm ≤ (l.length : Int) := by omega
        clear hm0
        generalize l.drop (mm).toNat = c at hcut10 HR10 HC10 HE1 HDL
        go_wp2_with fail
        go_loopg [4,24] c.length (fun kq2 v4 v23 w' => ∃ (j m : Nat),v4 = .int .i64 (m : Int) ∧ v23 = .int .i64 (j : Int) ∧ Aside0 (kq2 + j = c.length) ∧ Aside0 (m ≤ i * 40 + j) ∧ Aside0 (m + disR h (c.drop j) + R = T) ∧ Aside0 (Below w.heap.size w w'))
        case atStart => exact ⟨0,n,rfl,rfl,⟨rfl⟩,⟨by have := HNI.out; omega⟩,⟨by rw [List.drop_zero]; exact HE1.out⟩,HB⟩
        case round =>
          clear HB HE1 hci hcut10
          obtain ⟨j,m,rfl,rfl,HK2,HMJ,HE,HB⟩ := hrel
          have hmj := HMJ.out
          have hdl := HDL.out
          by_cases hj : j < c.length
          · obtain ⟨ad2,e,hcj⟩ := Kd.at_int HR10.out (j : Int) (by omega) (by omega)
            cases e
            rw [Int.toNat_natCast] at hcj
            have HE2 : Aside0 (m + ((if h > rd c (j : Int) then 1 else 0) + disR h (c.drop (j + 1))) + R = T) := ⟨by
              have := HE.out
              rw [drop_cons c j hj,disR] at this
              exact this⟩
            generalize rd c (j : Int) = x at hcj HE2
            replace hcj := pw_cell_below HB.out hcj
            clear HE
            by_cases c1 : h > x
            · have HE3 : Aside0 (m + 1 + disR h (c.drop (j + 1)) + R = T) := ⟨by have := HE2.out; rw [if_pos c1] at this; omega⟩
              go_wp2_with fail
              go_roundg (c.length - (j + 1))
              case measure => have := HK2.out; omega
              case rel => exact ⟨j + 1,m + 1,rfl,rfl,⟨by have := HK2.out; omega⟩,⟨by omega⟩,HE3,HB⟩
            · have HE3 : Aside0 (m + disR h (c.drop (j + 1)) + R = T) := ⟨by have := HE2.out; rw [if_neg c1] at this; omega⟩
              go_wp2_with fail
              go_roundg (c.length - (j + 1))
              case measure => have := HK2.out; omega
              case rel => exact ⟨j + 1,m,rfl,rfl,⟨by have := HK2.out; omega⟩,⟨by omega⟩,HE3,HB⟩
          · have HE3 : Aside0 (m + disL (l.drop (i + 1)) = T) := ⟨by have := HE.out; rw [List.drop_eq_nil_of_le (by omega),disR] at this; rw [HRR.out]; omega⟩
            have hk2 := HK2.out
            have HM2 : Aside0 (m ≤ (i + 1) * 40) := ⟨by omega⟩
            go_wp2_with fail
            go_roundg (l.length - (i + 1))
            case measure => have := HK.out; omega
            case rel => exact ⟨i + 1,m,rfl,by first | rfl | rw [HM0.out],⟨by have := HK.out; omega⟩,HM2,HE3,HB⟩
      · have HE2 : Aside0 (n = T) := ⟨by have := HE.out; rw [List.drop_eq_nil_of_le (by omega),disL] at this; exact this⟩
        go_wp2_with fail
        go_ret2
        have hT := HE2.out
        clear HE2 HE
        subst hT
        exact ⟨rfl,(by repeat first|(with_reducible first|exact HB.out|apply below_alloc|apply pw_below_drewN|apply below_drew1)|exact HB.out)⟩
theorem impl_CountDisorder (A0 : Option Addr) (c0 : Nat) (l : List Int) (hl : l.length ≤ 1048576) (w : World) (h0 : Kd.C (Kd.int .i64) w A0 l.length l) (hc0 : l.length ≤ c0) :
    Calls Try.prog 38 #[.slice A0 l.length c0] w fun e w' => e = .returned (.tuple #[.int .i64 (if good l = true then ((disL l : Nat) : Int) else 0),.bool (good l)]) ∧ Below w.heap.size w w' := by
  have HB := Aside0.mk (Below.refl w.heap.size w)
  have HC := Aside0.mk h0
  cases hg : good l with
  | false =>
    have HG := Aside0.mk (HImpl.are_is A0 c0 l false hg w h0 hc0)
    clear h0 hg
    go_enter Try.func38,Try.ntmps38
    go_wp2_with (go_at_call 53; refine HG.out.mono ?_; rintro e w' ⟨rfl,⟨nd,rfl⟩⟩)
    go_ret2
    exact ⟨rfl,(by repeat first|(with_reducible first|exact HB.out|apply below_alloc|apply pw_below_drewN|apply below_drew1)|exact HB.out)⟩
  | true =>
    have HG := Aside0.mk (HImpl.are_is A0 c0 l true hg w h0 hc0)
    obtain ⟨hl1,hl2⟩ := good_len hg
    clear h0 hg
    simp only [if_true]
    have HE0 : Aside0 (0 + disL (l.drop 0) = disL l) := ⟨by rw [List.drop_zero,Nat.zero_add]⟩
    generalize disL l = T at HE0
    have HC0 := Aside0.mk hc0
    go_enter Try.func38,Try.ntmps38
    go_wp2_with (go_at_call 53; refine HG.out.mono ?_; rintro e w' ⟨rfl,⟨nd,rfl⟩⟩)
    go_loopg [4,14] l.length (fun kq v4 v14 w' => ∃ (i n : Nat),v4 = .int .i64 (n : Int) ∧ v14 = .int .i64 (i : Int) ∧ Aside0 (kq + i = l.length) ∧ Aside0 (n ≤ i * 40) ∧ Aside0 (n + disL (l.drop i) = T) ∧ Aside0 (Below w.heap.size w w'))
    case atStart => exact ⟨0,0,rfl,rfl,⟨rfl⟩,⟨by omega⟩,HE0,⟨(by repeat first|(with_reducible first|exact HB.out|apply below_alloc|apply pw_below_drewN|apply below_drew1)|exact HB.out)⟩⟩
    case round =>
      clear HB HE0
      obtain ⟨i,n,rfl,rfl,HK,HNI,HE,HB⟩ := hrel
      by_cases hi : i < l.length
      · obtain ⟨ad,e,hci⟩ := Kd.at_int HC.out (i : Int) (by omega) (by omega)
        cases e
        have HE1 : Aside0 (n + disR (rd l (i : Int)) (l.drop (i + 0)) + disL (l.drop (i + 1)) = T) := ⟨by
          have := HE.out
          rw [drop_cons l i hi,disL] at this
          rw [Nat.add_zero,drop_cons l i hi,disR,if_neg (by omega)]
          omega⟩
        obtain ⟨i010,hi010,_,hsz10,_⟩ := info_parts HClone.info_int
        obtain ⟨A10,hcut10,hA10,hC10⟩ := print_drop_of (P := Try.prog) (Value.int .i64) 0 24 3 .i64 Try.underlying24 hi010 hsz10 (some ad) c0 l (i : Int) (by omega) (by omega) HC0.out
        have HR10 := Aside0.mk (Kd.C_of_reads (h1 := fun _ => rfl) (hA10 _ (Kd.reads_of_C HC.out)))
        have HC10 := Aside0.mk hC10
        have hdl : (l.drop ((i : Int)).toNat).length ≤ 40 := by rw [List.length_drop]; omega
        have hde : l.drop ((i : Int)).toNat = l.drop (i + 0) := by congr 1
        generalize hR : disL (l.drop (i + 1)) = R at HE1
        have HRR := Aside0.mk hR
        rw [← hde] at HE1
        clear hR
        have HDL := Aside0.mk hdl
        clear hA10 hC10 hi010 hsz10 hdl hde HE
        generalize rd l (i : Int) = h at hci HE1
        rw [Int.toNat_natCast] at hci
        replace hci := pw_cell_below HB.out hci
        have kk1 : (0 : Int) ≤ (i : Int) := by omega
        have kk2 : (i : Int) ≤ (l.length : Int) := by omega
        generalize l.drop ((i : Int)).toNat = c at hcut10 HR10 HC10 HE1 HDL
        go_wp2_with fail
        go_loopg [4,23] c.length (fun kq2 v4 v23 w' => ∃ (j m : Nat),v4 = .int .i64 (m : Int) ∧ v23 = .int .i64 (j : Int) ∧ Aside0 (kq2 + j = c.length) ∧ Aside0 (m ≤ i * 40 + j) ∧ Aside0 (m + disR h (c.drop j) + R = T) ∧ Aside0 (Below w.heap.size w w'))
        case atStart => exact ⟨0,n,rfl,rfl,⟨rfl⟩,⟨by have := HNI.out; omega⟩,⟨by rw [List.drop_zero]; exact HE1.out⟩,HB⟩
        case round =>
          clear HB HE1 hci hcut10
          obtain ⟨j,m,rfl,rfl,HK2,HMJ,HE,HB⟩ := hrel
          have hmj := HMJ.out
          have hdl := HDL.out
          by_cases hj : j < c.length
          · obtain ⟨ad2,e,hcj⟩ := Kd.at_int HR10.out (j : Int) (by omega) (by omega)
            cases e
            rw [Int.toNat_natCast] at hcj
            have HE2 : Aside0 (m + ((if h > rd c (j : Int) then 1 else 0) + disR h (c.drop (j + 1))) + R = T) := ⟨by
              have := HE.out
              rw [drop_cons c j hj,disR] at this
              exact this⟩
            generalize rd c (j : Int) = x at hcj HE2
            replace hcj := pw_cell_below HB.out hcj
            clear HE
            by_cases c1 : h > x
            · have HE3 : Aside0 (m + 1 + disR h (c.drop (j + 1)) + R = T) := ⟨by have := HE2.out; rw [if_pos c1] at this; omega⟩
              go_wp2_with fail
              go_roundg (c.length - (j + 1))
              case measure => have := HK2.out; omega
              case rel => exact ⟨j + 1,m + 1,rfl,rfl,⟨by have := HK2.out; omega⟩,⟨by omega⟩,HE3,HB⟩
            · have HE3 : Aside0 (m + disR h (c.drop (j + 1)) + R = T) := ⟨by have := HE2.out; rw [if_neg c1] at this; omega⟩
              go_wp2_with fail
              go_roundg (c.length - (j + 1))
              case measure => have := HK2.out; omega
              case rel => exact ⟨j + 1,m,rfl,rfl,⟨by have := HK2.out; omega⟩,⟨by omega⟩,HE3,HB⟩
          · have HE3 : Aside0 (m + disL (l.drop (i + 1)) = T) := ⟨by have := HE.out; rw [List.drop_eq_nil_of_le (by omega),disR] at this; rw [HRR.out]; omega⟩
            have hk2 := HK2.out
            have HM2 : Aside0 (m ≤ (i + 1) * 40) := ⟨by omega⟩
            go_wp2_with fail
            go_roundg (l.length - (i + 1))
            case measure => have := HK.out; omega
            case rel => exact ⟨i + 1,m,rfl,by first | rfl | rw [HM0.out],⟨by have := HK.out; omega⟩,HM2,HE3,HB⟩
      · have HE2 : Aside0 (n = T) := ⟨by have := HE.out; rw [List.drop_eq_nil_of_le (by omega),disL] at this; exact this⟩
        go_wp2_with fail
        go_ret2
        have hT := HE2.out
        clear HE2 HE
        subst hT
        exact ⟨rfl,(by repeat first|(with_reducible first|exact HB.out|apply below_alloc|apply pw_below_drewN|apply below_drew1)|exact HB.out)⟩
end Go.Proofs.Ytleacijhpkogpad.HDis
