/- The program and the reference tell the same rising soldiers, leave the list as it was, and hand out new memory, for every list that can be read. -/
import Derived.Test.YthljbhianagobabPFnExactLongestRisingx4
namespace Go.Proofs.Ythljbhianagobab.Pure
open Go.RowKit Go.Proofs.Ythljbhianagobab.PFnExactLongestRising Go.Proofs.YthljbhianagobabW.PrintWords Go.Proofs.YthljbhianagobabW.PrintLast Go.Proofs.YthljbhianagobabW.PrintMore
set_option linter.unusedVariables false
set_option linter.unusedSimpArgs false

/-! plain words -/
theorem w1 (i : Nat) (h : i ≤ 4611686018427387904) : wrap64 ((i : Int) + 1) = ((i + 1 : Nat) : Int) := by unfold wrap64; omega
theorem rd_nat (l : List Int) (i : Nat) (h : i < l.length) : rd l (i : Int) = l[i] := by
  simp [rd, List.getD_eq_getElem?_getD, List.getElem?_eq_getElem h]
theorem drop_cons (l : List Int) (i : Nat) (h : i < l.length) : l.drop i = rd l (i : Int) :: l.drop (i + 1) := by
  rw [List.drop_eq_getElem_cons h, rd_nat l i h]
/-! who are heights -/
def good (l : List Int) : Bool := decide (1 ≤ l.length) && decide (l.length ≤ 40) && l.all (fun h => decide (1 ≤ h) && decide (h ≤ 100))
theorem impl_good (l : List Int) : impl_areHeights.f l = some (good l) := rfl
theorem good_len {l : List Int} (h : good l = true) : 1 ≤ l.length ∧ l.length ≤ 40 := by
  unfold good at h
  simp only [Bool.and_eq_true, decide_eq_true_eq] at h
  exact h.1
theorem good_mem {l : List Int} (h : good l = true) : ∀ x ∈ l, 1 ≤ x ∧ x ≤ 100 := by
  unfold good at h
  simp only [Bool.and_eq_true, decide_eq_true_eq, List.all_eq_true] at h
  exact h.2
theorem good_rd {l : List Int} (h : good l = true) (i : Nat) (hi : i < l.length) : 1 ≤ rd l (i : Int) ∧ rd l (i : Int) ≤ 100 := by
  rw [rd_nat l i hi]
  exact good_mem h _ (List.getElem_mem hi)
theorem all_ev (l : List Int) (hl : l.length ≤ 1048576) : ∀ (d i : Nat), i + d = l.length →
    Ev (fun k => spec_l1All.l0 k 1 100 l (l.length : Int) (i : Int)) ((l.drop i).all (fun h => decide (1 ≤ h) && decide (h ≤ 100))) := by
  intro d
  induction d with
  | zero =>
    intro i hi
    refine Ev.step (f := fun _ => some ((l.drop i).all (fun h => decide (1 ≤ h) && decide (h ≤ 100)))) (fun k => ?_) (Ev.now _)
    simp only [spec_l1All.l0]
    rw [if_neg (by omega), List.drop_eq_nil_of_le (by omega)]
    rfl
  | succ d ih =>
    intro i hi
    have hlt : i < l.length := by omega
    rw [drop_cons l i hlt]
    simp only [List.all_cons]
    by_cases h1 : 1 ≤ rd l (i : Int)
    · by_cases h2 : rd l (i : Int) ≤ 100
      · have hr := ih (i + 1) (by omega)
        rw [decide_eq_true h1, decide_eq_true h2]
        refine Ev.step (f := fun k => spec_l1All.l0 k 1 100 l (l.length : Int) ((i + 1 : Nat) : Int)) (fun k => ?_) hr
        simp only [spec_l1All.l0, spec_l1In.f]
        rw [if_pos (by omega), if_pos (by omega), if_pos (by omega), if_pos (by omega), w1 i (by omega)]
        simp [h2]
      · refine Ev.step (f := fun _ => some false) (fun k => ?_) ?_
        · simp only [spec_l1All.l0, spec_l1In.f]
          rw [if_pos (by omega), if_pos (by omega), if_pos (by omega), if_pos (by omega)]
          simp [h2]
        · rw [decide_eq_false h2, Bool.and_false, Bool.false_and]; exact Ev.now _
    · refine Ev.step (f := fun _ => some false) (fun k => ?_) ?_
      · simp only [spec_l1All.l0, spec_l1In.f]
        rw [if_pos (by omega), if_pos (by omega), if_pos (by omega), if_neg (by omega)]
        simp
      · rw [decide_eq_false h1, Bool.false_and, Bool.false_and]; exact Ev.now _
theorem good_ev (l : List Int) (hl : l.length ≤ 1048576) : Ev (fun k => spec_heGood.f k l) (good l) := by
  unfold good
  by_cases h1 : 1 ≤ l.length
  · by_cases h2 : l.length ≤ 40
    · refine Ev.congr (f := fun k => (spec_l1All.f k l 1 100).bind fun t => some t) (fun k => ?_) ?_
      · simp only [spec_heGood.f, spec_l1In.f]
        rw [if_pos (by omega)]
        simp only [Option.bind_some]
        rw [if_pos (by simp; omega)]
      · refine Ev.bind (a := l.all (fun h => decide (1 ≤ h) && decide (h ≤ 100))) ?_ ?_
        · exact all_ev l hl l.length 0 (by omega)
        · rw [decide_eq_true h1, decide_eq_true h2]; exact Ev.now _
    · refine Ev.congr (f := fun _ => some false) (fun k => ?_) ?_
      · simp only [spec_heGood.f, spec_l1In.f]
        rw [if_pos (by omega)]
        simp only [Option.bind_some]
        rw [if_neg (by simp; omega)]
      · rw [decide_eq_false h2, Bool.and_false, Bool.false_and]; exact Ev.now _
  · refine Ev.congr (f := fun _ => some false) (fun k => ?_) ?_
    · simp only [spec_heGood.f, spec_l1In.f]
      rw [if_neg (by omega)]
      rfl
    · rw [decide_eq_false h1, Bool.false_and, Bool.false_and]; exact Ev.now _
theorem toIntS_loop (l : List Int) (hl : l.length ≤ 1048576) : ∀ (d i : Nat) (acc : List Int), i + d = l.length → acc.length = l.length →
    Ev (fun k => laws_toIntS.l0 k l acc (i : Int)) (acc.take i ++ l.drop i) := by
  intro d
  induction d with
  | zero =>
    intro i acc hi ha
    refine Ev.step (f := fun _ => some acc) (fun k => ?_) ?_
    · simp only [laws_toIntS.l0]
      rw [if_neg (by omega)]
    · rw [List.take_of_length_le (by omega), List.drop_eq_nil_of_le (by omega), List.append_nil]
      exact Ev.now _
  | succ d ih =>
    intro i acc hi ha
    have hlt : i < l.length := by omega
    have hr := ih (i + 1) (acc.set i (rd l (i : Int))) (by omega) (by simpa using ha)
    have e : (acc.set i (rd l (i : Int))).take (i + 1) ++ l.drop (i + 1) = acc.take i ++ l.drop i := by
      rw [drop_cons l i hlt, List.take_succ_eq_append_getElem (by simp; omega), List.getElem_set_self, List.append_assoc]
      congr 1
      simp [List.take_set_of_le]
    rw [e] at hr
    refine Ev.step (f := fun k => laws_toIntS.l0 k l (acc.set i (rd l (i : Int))) ((i + 1 : Nat) : Int)) (fun k => ?_) hr
    simp only [laws_toIntS.l0]
    rw [if_pos (by omega), if_pos (by omega), if_pos (by omega), w1 i (by omega)]
    rfl
theorem toIntS_ev (l : List Int) (hl : l.length ≤ 1048576) : Ev (fun k => laws_toIntS.f k l) l := by
  refine Ev.congr (f := fun k => laws_toIntS.l0 k l (List.replicate l.length 0) ((0 : Nat) : Int)) (fun k => ?_) ?_
  · simp only [laws_toIntS.f]
    rw [if_pos (by omega), if_pos (by simp; omega)]
    simp
  · have := toIntS_loop l hl l.length 0 (List.replicate l.length 0) (by omega) (by simp)
    simpa using this
theorem eqIntS_loop (l : List Int) (hl : l.length ≤ 1048576) : ∀ (d i : Nat), i + d = l.length → Ev (fun k => laws_eqIntS.l0 k l l (i : Int)) true := by
  intro d
  induction d with
  | zero =>
    intro i hi
    refine Ev.step (f := fun _ => some true) (fun k => ?_) (Ev.now _)
    simp only [laws_eqIntS.l0]
    rw [if_neg (by omega)]
  | succ d ih =>
    intro i hi
    refine Ev.step (f := fun k => laws_eqIntS.l0 k l l ((i + 1 : Nat) : Int)) (fun k => ?_) (ih (i + 1) (by omega))
    simp only [laws_eqIntS.l0]
    rw [if_pos (by omega), if_pos (by omega), if_pos (by omega), if_pos trivial, w1 i (by omega)]
theorem eqIntS_ev (l : List Int) (hl : l.length ≤ 1048576) : Ev (fun k => laws_eqIntS.f k l l) true := by
  refine Ev.congr (f := fun k => laws_eqIntS.l0 k l l ((0 : Nat) : Int)) (fun k => ?_) (eqIntS_loop l hl l.length 0 (by omega))
  simp only [laws_eqIntS.f]
  rw [if_pos trivial]
  rfl
def upto : Nat → Nat → List Int
  | _, 0 => []
  | i, n + 1 => ((i + 1 : Nat) : Int) :: upto (i + 1) n
theorem upto_len : ∀ n i, (upto i n).length = n
  | 0, _ => rfl
  | n + 1, i => by simp [upto, upto_len n (i + 1)]
theorem mark_loop (n : Nat) (hn : n ≤ 1048576) : ∀ (d i : Nat) (x : List Int), x.length = n → i + d = n →
    Ev (fun k => laws_markIntS.l0 k x ((i + 1 : Nat) : Int) (i : Int)) (((n + 1 : Nat) : Int), x.take i ++ upto i d) := by
  intro d
  induction d with
  | zero =>
    intro i x hx hi
    refine Ev.step (f := fun _ => some (((i + 1 : Nat) : Int), x)) (fun k => ?_) ?_
    · simp only [laws_markIntS.l0]
      rw [if_neg (by omega)]
    · rw [List.take_of_length_le (by omega)]
      simp only [upto, List.append_nil]
      rw [show i = n by omega]
      exact Ev.now _
  | succ d ih =>
    intro i x hx hi
    have hr := ih (i + 1) (x.set i ((i + 1 : Nat) : Int)) (by simpa using hx) (by omega)
    have e : (x.set i ((i + 1 : Nat) : Int)).take (i + 1) ++ upto (i + 1) d = x.take i ++ upto i (d + 1) := by
      rw [List.take_succ_eq_append_getElem (by simp; omega), List.getElem_set_self, List.append_assoc]
      simp [List.take_set_of_le, upto]
    rw [e] at hr
    refine Ev.step (f := fun k => laws_markIntS.l0 k (x.set i ((i + 1 : Nat) : Int)) ((i + 1 + 1 : Nat) : Int) ((i + 1 : Nat) : Int)) (fun k => ?_) hr
    simp only [laws_markIntS.l0]
    rw [if_pos (by omega), if_pos (by omega), w1 i (by omega), w1 (i + 1) (by omega)]
    rfl
theorem mark_ev (x : List Int) (hx : x.length ≤ 1048576) : Ev (fun k => laws_markIntS.f k x 1) (((x.length + 1 : Nat) : Int), upto 0 x.length) := by
  have := mark_loop x.length hx x.length 0 x rfl (by omega)
  simpa [laws_markIntS.f] using this
theorem held_loop (n : Nat) (hn : n ≤ 1048576) : ∀ (d i : Nat) (p : List Int), p.length = i → i + d = n →
    Ev (fun k => laws_heldIntS.l0 k (p ++ upto i d) ((i + 1 : Nat) : Int) (i : Int)) (((n + 1 : Nat) : Int)) := by
  intro d
  induction d with
  | zero =>
    intro i p hp hi
    refine Ev.step (f := fun _ => some (((i + 1 : Nat) : Int))) (fun k => ?_) ?_
    · simp only [laws_heldIntS.l0]
      rw [if_neg (by simp [upto]; omega)]
    · rw [show i = n by omega]
      exact Ev.now _
  | succ d ih =>
    intro i p hp hi
    have hr := ih (i + 1) (p ++ [((i + 1 : Nat) : Int)]) (by simp [hp]) (by omega)
    have e : (p ++ [((i + 1 : Nat) : Int)]) ++ upto (i + 1) d = p ++ upto i (d + 1) := by simp [upto]
    rw [e] at hr
    have hlen : (p ++ upto i (d + 1)).length = i + (d + 1) := by simp [upto_len, hp]
    have hrd : rd (p ++ upto i (d + 1)) (i : Int) = ((i + 1 : Nat) : Int) := by
      rw [rd_nat _ i (by omega), List.getElem_append_right (by omega)]
      simp [hp, upto]
    refine Ev.step (f := fun k => laws_heldIntS.l0 k (p ++ upto i (d + 1)) ((i + 1 + 1 : Nat) : Int) ((i + 1 : Nat) : Int)) (fun k => ?_) hr
    simp only [laws_heldIntS.l0]
    rw [hrd, hlen, if_pos (by omega), if_pos (by omega), if_pos rfl, w1 i (by omega), w1 (i + 1) (by omega)]
theorem held_ev (n : Nat) (hn : n ≤ 1048576) : Ev (fun k => laws_heldIntS.f k (upto 0 n) 1) (((n + 1 : Nat) : Int)) := by
  have := held_loop n hn n 0 [] rfl (by omega)
  simpa [laws_heldIntS.f] using this
/-! the tallest of windows -/
def maxL : List Int → Int → Int
  | [], m => m
  | h :: t, m => maxL t (if m > h then m else h)
theorem mx_if (a b : Int) : mx a b = if a > b then a else b := by
  unfold mx; split <;> split <;> omega
theorem max_loop (w : List Int) (hw : w.length ≤ 1048576) : ∀ (d j : Nat) (m : Int), j + d = w.length → Ev (fun k => slices_Max_int_int.l0 k w m (j : Int)) (maxL (w.drop j) m) := by
  intro d
  induction d with
  | zero =>
    intro j m hj
    refine Ev.step (f := fun _ => some m) (fun k => ?_) ?_
    · simp only [slices_Max_int_int.l0]
      rw [if_neg (by omega)]
    · rw [List.drop_eq_nil_of_le (by omega)]
      exact Ev.now _
  | succ d ih =>
    intro j m hj
    have hlt : j < w.length := by omega
    rw [drop_cons w j hlt]
    simp only [maxL]
    refine Ev.step (fun k => ?_) (ih (j + 1) (if m > rd w (j : Int) then m else rd w (j : Int)) (by omega))
    simp only [slices_Max_int_int.l0]
    rw [if_pos (by omega), if_pos (by omega), mx_if, w1 j (by omega)]
theorem max_ev (w : List Int) (hw : w.length ≤ 1048576) (h1 : 1 ≤ w.length) : Ev (fun k => slices_Max_int_int.f k w) (maxL (w.drop 1) (rd w 0)) := by
  refine Ev.congr (fun k => ?_) (max_loop w hw (w.length - 1) 1 (rd w 0) (by omega))
  simp only [slices_Max_int_int.f]
  rw [if_neg (by omega), if_pos (by omega)]
  rfl
theorem wm1 (m : Nat) (h : m ≤ 4611686018427387904) : wrap64 ((m : Int) - 1) = (m : Int) - 1 := by unfold wrap64; omega
/-! rising and falling -/
def bst (p : Int → Bool) : List (Int × Int) → Int
  | [] => 0
  | (o, c) :: t => if p o = true then max c (bst p t) else bst p t
theorem bst_nonneg (p : Int → Bool) : ∀ t, 0 ≤ bst p t
  | [] => by simp [bst]
  | (o, c) :: t => by
    have := bst_nonneg p t
    simp only [bst]
    split <;> omega
theorem bst_append (p : Int → Bool) : ∀ a b, bst p (a ++ b) = max (bst p a) (bst p b)
  | [], b => by have := bst_nonneg p b; simp only [List.nil_append, bst]; omega
  | (o, c) :: t, b => by
    have := bst_append p t b
    simp only [List.cons_append, bst]
    split <;> omega
theorem bst_reverse (p : Int → Bool) : ∀ a, bst p a.reverse = bst p a
  | [] => rfl
  | (o, c) :: t => by
    have h0 := bst_nonneg p t
    rw [List.reverse_cons, bst_append, bst_reverse p t]
    simp only [bst]
    split <;> omega
theorem bst_le (p : Int → Bool) (n : Int) (h0 : 0 ≤ n) : ∀ t : List (Int × Int), (∀ q ∈ t, q.2 ≤ n) → bst p t ≤ n
  | [], _ => by simpa [bst] using h0
  | (o, c) :: t, h => by
    have h1 := bst_le p n h0 t (fun q hq => h q (List.mem_cons_of_mem _ hq))
    have h2 := h (o, c) (List.mem_cons_self ..)
    simp only at h2
    simp only [bst]
    split <;> omega
def risL : List Int → List Int
  | [] => []
  | h :: t => (bst (fun o => decide (h < o)) (t.zip (risL t)) + 1) :: risL t
theorem risL_len : ∀ t, (risL t).length = t.length
  | [] => rfl
  | _ :: t => by simp [risL, risL_len t]
theorem risL_drop : ∀ (l : List Int) (k : Nat), (risL l).drop k = risL (l.drop k)
  | [], k => by simp [risL]
  | _ :: _, 0 => rfl
  | h :: t, k + 1 => by simp only [risL, List.drop_succ_cons]; exact risL_drop t k
theorem risL_mem : ∀ (l : List Int), ∀ c ∈ risL l, 1 ≤ c ∧ c ≤ (l.length : Int)
  | [], c, hc => by simp [risL] at hc
  | h :: t, c, hc => by
    simp only [risL, List.mem_cons] at hc
    have ih := risL_mem t
    rcases hc with rfl | hc
    · have h1 := bst_nonneg (fun o => decide (h < o)) (t.zip (risL t))
      have h2 := bst_le (fun o => decide (h < o)) (t.length : Int) (by omega) (t.zip (risL t)) (fun q hq => (ih q.2 (List.of_mem_zip hq).2).2)
      simp only [List.length_cons]; omega
    · have := ih c hc
      simp only [List.length_cons]; omega
def falL : List Int → List Int
  | [] => []
  | h :: t => (bst (fun o => decide (o < h)) (t.zip (falL t)) + 1) :: falL t
theorem falL_len : ∀ t, (falL t).length = t.length
  | [] => rfl
  | _ :: t => by simp [falL, falL_len t]
theorem falL_drop : ∀ (l : List Int) (k : Nat), (falL l).drop k = falL (l.drop k)
  | [], k => by simp [falL]
  | _ :: _, 0 => rfl
  | h :: t, k + 1 => by simp only [falL, List.drop_succ_cons]; exact falL_drop t k
theorem falL_mem : ∀ (l : List Int), ∀ c ∈ falL l, 1 ≤ c ∧ c ≤ (l.length : Int)
  | [], c, hc => by simp [falL] at hc
  | h :: t, c, hc => by
    simp only [falL, List.mem_cons] at hc
    have ih := falL_mem t
    rcases hc with rfl | hc
    · have h1 := bst_nonneg (fun o => decide (o < h)) (t.zip (falL t))
      have h2 := bst_le (fun o => decide (o < h)) (t.length : Int) (by omega) (t.zip (falL t)) (fun q hq => (ih q.2 (List.of_mem_zip hq).2).2)
      simp only [List.length_cons]; omega
    · have := ih c hc
      simp only [List.length_cons]; omega
theorem bst_map (h : Int) : ∀ (t cs : List Int), bst (fun o => decide (101 - h < o)) ((t.map fun o => 101 - o).zip cs) = bst (fun o => decide (o < h)) (t.zip cs)
  | [], cs => by simp [bst]
  | o :: t, [] => by simp [bst]
  | o :: t, c :: cs => by
    have ih := bst_map h t cs
    simp only [List.map_cons, List.zip_cons_cons, bst, ih]
    have : (decide (101 - h < 101 - o)) = decide (o < h) := by
      by_cases c : o < h
      · rw [decide_eq_true c, decide_eq_true (by omega)]
      · rw [decide_eq_false c, decide_eq_false (by omega)]
    rw [this]
theorem fal_ris : ∀ l : List Int, risL (l.map fun o => 101 - o) = falL l
  | [] => rfl
  | h :: t => by
    simp only [List.map_cons, risL, falL, fal_ris t]
    rw [bst_map]
/-- The head's own number. -/
def hdF (l : List Int) : Int := rd (falL l) 0
theorem hdF_cons (h : Int) (t : List Int) : hdF (h :: t) = bst (fun o => decide (o < h)) (t.zip (falL t)) + 1 := rfl
theorem rd_zero (l : List Int) (h : 0 < l.length) : rd l 0 = l[0] := rd_nat l 0 h
theorem rd_zero_cons (h : Int) (t : List Int) : rd (h :: t) 0 = h := rfl
theorem rd_drop (l : List Int) (i : Nat) (h : i < l.length) : rd (l.drop i) 0 = rd l (i : Int) := by
  rw [drop_cons l i h]; rfl
theorem falL_rd (l : List Int) (i : Nat) (h : i < l.length) : rd (falL l) (i : Int) = hdF (l.drop i) := by
  rw [← rd_drop _ i (by rw [falL_len]; exact h), falL_drop]; rfl
theorem hdF_bd (l : List Int) (h : 0 < l.length) : 1 ≤ hdF l ∧ hdF l ≤ (l.length : Int) := by
  match l, h with
  | a :: t, _ =>
    have := falL_mem (a :: t) (hdF (a :: t)) (by rw [hdF_cons]; simp [falL])
    exact this
theorem ris_in_spec (l : List Int) (hl : l.length ≤ 40) (i : Nat) (hi : i < l.length) (x : List Int) (hx : x.length = l.length) (hd : x.drop (i + 1) = risL (l.drop (i + 1))) (R : List Int) : ∀ (d j : Nat) (m : Int), j + d = l.length → i < j → 0 ≤ m → m ≤ 40 →
    Ev (fun k => spec_heRising.l0 k l (x.set i (max m (bst (fun o => decide (rd l (i : Int) < o)) ((l.drop j).zip (risL (l.drop j)))) + 1)) ((i : Int) - 1)) R →
    Ev (fun k => spec_heRising.l1 k l x (i : Int) m (j : Int)) R := by
  intro d
  induction d with
  | zero =>
    intro j m hj hij hm0 hm hev
    rw [List.drop_eq_nil_of_le (by omega)] at hev
    simp only [risL, List.zip_nil_left, bst] at hev
    rw [show max m 0 = m by omega] at hev
    refine Ev.step (fun k => ?_) hev
    simp only [spec_heRising.l1]
    rw [if_neg (by omega), if_pos (by omega), if_pos (by omega), show wrap64 (m + 1) = m + 1 by unfold wrap64; omega, wm1 i (by omega)]
    rfl
  | succ d ih =>
    intro j m hj hij hm0 hm hev
    have hlt : j < l.length := by omega
    have hxj : x.drop j = risL (l.drop j) := by
      have : x.drop j = (x.drop (i + 1)).drop (j - (i + 1)) := by rw [List.drop_drop]; congr 1; omega
      rw [this, hd, risL_drop, List.drop_drop]; congr 2; omega
    have hrx : rd x (j : Int) = rd (risL (l.drop j)) 0 := by
      rw [← rd_drop x j (by omega), hxj]
    have hb := risL_mem (l.drop j) (rd (risL (l.drop j)) 0) (by
      rw [rd_zero (risL (l.drop j)) (by rw [risL_len, List.length_drop]; omega)]
      exact List.getElem_mem _)
    rw [List.length_drop] at hb
    have hz : (l.drop j).zip (risL (l.drop j)) = (rd l (j : Int), rd (risL (l.drop j)) 0) :: (l.drop (j + 1)).zip (risL (l.drop (j + 1))) := by
      rw [drop_cons l j hlt]
      simp [risL, rd_zero_cons]
    rw [hz] at hev
    simp only [bst] at hev
    by_cases c : rd l (j : Int) > rd l (i : Int)
    · have c' : rd l (i : Int) < rd l (j : Int) := c
      rw [if_pos (decide_eq_true c')] at hev
      have hr := ih (j + 1) (max m (rd (risL (l.drop j)) 0)) (by omega) (by omega) (by omega) (by omega) (by rw [show ∀ a b c : Int, max (max a b) c = max a (max b c) by intros; omega]; exact hev)
      refine Ev.step (fun k => ?_) hr
      simp only [spec_heRising.l1, spec_l1Most.f]
      rw [if_pos (by omega), if_pos (by omega), if_pos (by omega), if_pos (by omega), if_pos c, if_pos (by omega), hrx, w1 j (by omega)]
      by_cases c2 : m > rd (risL (l.drop j)) 0
      · rw [if_pos c2, show max m (rd (risL (l.drop j)) 0) = m by omega]; rfl
      · rw [if_neg c2, show max m (rd (risL (l.drop j)) 0) = rd (risL (l.drop j)) 0 by omega]; rfl
    · have c' : ¬ rd l (i : Int) < rd l (j : Int) := c
      rw [if_neg (show ¬ (decide _ = true) by rw [decide_eq_true_eq]; exact c')] at hev
      refine Ev.step (fun k => ?_) (ih (j + 1) m (by omega) (by omega) hm0 hm hev)
      simp only [spec_heRising.l1]
      rw [if_pos (by omega), if_pos (by omega), if_pos (by omega), if_pos (by omega), if_neg c, w1 j (by omega)]
theorem ris_head (l : List Int) (i : Nat) (hi : i < l.length) : risL (l.drop i) = (bst (fun o => decide (rd l (i : Int) < o)) ((l.drop (i + 1)).zip (risL (l.drop (i + 1)))) + 1) :: risL (l.drop (i + 1)) := by
  rw [drop_cons l i hi]; rfl
theorem ris_set (l x : List Int) (i : Nat) (hi : i < l.length) (hx : x.length = l.length) (hd : x.drop (i + 1) = risL (l.drop (i + 1))) (v : Int) (hv : v = bst (fun o => decide (rd l (i : Int) < o)) ((l.drop (i + 1)).zip (risL (l.drop (i + 1)))) + 1) :
    (x.set i v).drop i = risL (l.drop i) := by
  rw [ris_head l i hi, ← hv, List.drop_eq_getElem_cons (by simpa using by omega), List.getElem_set_self]
  congr 1
  rw [List.drop_set_of_lt (by omega), hd]
theorem ris_out_spec (l : List Int) (hl : l.length ≤ 40) : ∀ (m : Nat) (x : List Int), m ≤ l.length → x.length = l.length → x.drop m = risL (l.drop m) →
    Ev (fun k => spec_heRising.l0 k l x ((m : Int) - 1)) (risL l) := by
  intro m
  induction m with
  | zero =>
    intro x hm hx hd
    rw [List.drop_zero, List.drop_zero] at hd
    subst hd
    refine Ev.step (f := fun _ => some (risL l)) (fun k => ?_) (Ev.now _)
    simp only [spec_heRising.l0]
    rw [if_neg (by omega)]
  | succ i ih =>
    intro x hm hx hd
    have hb0 := bst_nonneg (fun o => decide (rd l (i : Int) < o)) ((l.drop (i + 1)).zip (risL (l.drop (i + 1))))
    have hr := ih (x.set i (max 0 (bst (fun o => decide (rd l (i : Int) < o)) ((l.drop (i + 1)).zip (risL (l.drop (i + 1))))) + 1)) (by omega) (by simpa using hx)
      (ris_set l x i (by omega) hx hd _ (by omega))
    have h2 := ris_in_spec l hl i (by omega) x hx hd _ (l.length - (i + 1)) (i + 1) 0 (by omega) (by omega) (by omega) (by omega) hr
    refine Ev.step (fun k => ?_) h2
    simp only [spec_heRising.l0]
    rw [show (((i + 1 : Nat) : Int) - 1) = (i : Int) by omega, if_pos (by omega), w1 i (by omega)]
theorem rising_spec_ev (l : List Int) (hl : l.length ≤ 40) : Ev (fun k => spec_heRising.f k l) (risL l) := by
  have h := ris_out_spec l hl l.length (List.replicate l.length 0) (by omega) (by simp) (by
    rw [List.drop_eq_nil_of_le (by simp), List.drop_eq_nil_of_le (by omega)]; rfl)
  refine Ev.congr (fun k => ?_) h
  simp only [spec_heRising.f]
  rw [if_pos (by omega), if_pos (by simp; omega), wm1 l.length (by omega)]
  simp
/-! rising soldiers, as the program counts them -/
theorem ris_in_impl (l : List Int) (hl : l.length ≤ 40) (i : Nat) (hi : i < l.length) (R : List Int) : ∀ (d j : Nat) (m : Int) (x : List Int), j + d = l.length → i < j → 0 ≤ m → m ≤ 40 → x.length = l.length → x.drop (i + 1) = risL (l.drop (i + 1)) → rd x (i : Int) = m + 1 →
    Ev (fun k => impl_rising.l0 k l (x.set i (max m (bst (fun o => decide (rd l (i : Int) < o)) ((l.drop j).zip (risL (l.drop j)))) + 1)) ((i : Int) - 1)) R →
    Ev (fun k => impl_rising.l1 k l x (i : Int) (j : Int)) R := by
  intro d
  induction d with
  | zero =>
    intro j m x hj hij hm0 hm hx hd hxi hev
    rw [List.drop_eq_nil_of_le (by omega)] at hev
    simp only [risL, List.zip_nil_left, bst] at hev
    rw [show max m 0 = m by omega, ← hxi] at hev
    have hself : x.set i (rd x (i : Int)) = x := by
      rw [rd_nat x i (by omega)]; simp
    rw [hself] at hev
    refine Ev.step (fun k => ?_) hev
    simp only [impl_rising.l1]
    rw [if_neg (by omega), wm1 i (by omega)]
  | succ d ih =>
    intro j m x hj hij hm0 hm hx hd hxi hev
    have hlt : j < l.length := by omega
    have hxj : x.drop j = risL (l.drop j) := by
      have : x.drop j = (x.drop (i + 1)).drop (j - (i + 1)) := by rw [List.drop_drop]; congr 1; omega
      rw [this, hd, risL_drop, List.drop_drop]; congr 2; omega
    have hrx : rd x (j : Int) = rd (risL (l.drop j)) 0 := by
      rw [← rd_drop x j (by omega), hxj]
    have hb := risL_mem (l.drop j) (rd (risL (l.drop j)) 0) (by
      rw [rd_zero (risL (l.drop j)) (by rw [risL_len, List.length_drop]; omega)]
      exact List.getElem_mem _)
    rw [List.length_drop] at hb
    have hz : (l.drop j).zip (risL (l.drop j)) = (rd l (j : Int), rd (risL (l.drop j)) 0) :: (l.drop (j + 1)).zip (risL (l.drop (j + 1))) := by
      rw [drop_cons l j hlt]
      simp [risL, rd_zero_cons]
    rw [hz] at hev
    simp only [bst] at hev
    by_cases c : rd l (j : Int) > rd l (i : Int)
    · have c' : rd l (i : Int) < rd l (j : Int) := c
      rw [if_pos (decide_eq_true c')] at hev
      have hv : mx (rd x (i : Int)) (wrap64 (1 + rd x (j : Int))) = max m (rd (risL (l.drop j)) 0) + 1 := by
        rw [hxi, hrx, show wrap64 (1 + rd (risL (l.drop j)) 0) = 1 + rd (risL (l.drop j)) 0 by unfold wrap64; omega]
        unfold mx; split <;> omega
      have hr := ih (j + 1) (max m (rd (risL (l.drop j)) 0)) (x.set i (max m (rd (risL (l.drop j)) 0) + 1)) (by omega) (by omega) (by omega) (by omega) (by simpa using hx)
        (by rw [List.drop_set_of_lt (by omega), hd]) (by rw [rd_nat _ i (by simp; omega)]; simp)
        (by rw [List.set_set, show ∀ a b c : Int, max (max a b) c = max a (max b c) by intros; omega]; exact hev)
      refine Ev.step (fun k => ?_) hr
      simp only [impl_rising.l1]
      rw [if_pos (by omega), if_pos (by omega), if_pos (by omega), if_pos (by omega), if_pos c, if_pos (by omega), if_pos (by omega), hv, w1 j (by omega)]
      rfl
    · have c' : ¬ rd l (i : Int) < rd l (j : Int) := c
      rw [if_neg (show ¬ (decide _ = true) by rw [decide_eq_true_eq]; exact c')] at hev
      refine Ev.step (fun k => ?_) (ih (j + 1) m x (by omega) (by omega) hm0 hm hx hd hxi hev)
      simp only [impl_rising.l1]
      rw [if_pos (by omega), if_pos (by omega), if_pos (by omega), if_pos (by omega), if_neg c, w1 j (by omega)]
theorem ris_out_impl (l : List Int) (hl : l.length ≤ 40) : ∀ (m : Nat) (x : List Int), m ≤ l.length → x.length = l.length → x.drop m = risL (l.drop m) →
    Ev (fun k => impl_rising.l0 k l x ((m : Int) - 1)) (risL l) := by
  intro m
  induction m with
  | zero =>
    intro x hm hx hd
    rw [List.drop_zero, List.drop_zero] at hd
    subst hd
    refine Ev.step (f := fun _ => some (risL l)) (fun k => ?_) (Ev.now _)
    simp only [impl_rising.l0]
    rw [if_neg (by omega)]
  | succ i ih =>
    intro x hm hx hd
    have hb0 := bst_nonneg (fun o => decide (rd l (i : Int) < o)) ((l.drop (i + 1)).zip (risL (l.drop (i + 1))))
    have hd1 : (x.set i 1).drop (i + 1) = risL (l.drop (i + 1)) := by rw [List.drop_set_of_lt (by omega), hd]
    have hr := ih (x.set i (max 0 (bst (fun o => decide (rd l (i : Int) < o)) ((l.drop (i + 1)).zip (risL (l.drop (i + 1))))) + 1)) (by omega) (by simpa using hx)
      (ris_set l x i (by omega) hx hd _ (by omega))
    have h2 := ris_in_impl l hl i (by omega) _ (l.length - (i + 1)) (i + 1) 0 (x.set i 1) (by omega) (by omega) (by omega) (by omega) (by simpa using hx) hd1 (by rw [rd_nat _ i (by simp; omega)]; simp) (by rw [List.set_set]; exact hr)
    refine Ev.step (fun k => ?_) h2
    simp only [impl_rising.l0]
    rw [show (((i + 1 : Nat) : Int) - 1) = (i : Int) by omega, if_pos (by omega), if_pos (by omega), if_pos (by omega), w1 i (by omega)]
    rfl
theorem rising_impl_ev (l : List Int) (hl : l.length ≤ 40) : Ev (fun k => impl_rising.f k l) (risL l) := by
  have h := ris_out_impl l hl l.length (List.replicate l.length 0) (by omega) (by simp) (by
    rw [List.drop_eq_nil_of_le (by simp), List.drop_eq_nil_of_le (by omega)]; rfl)
  refine Ev.congr (fun k => ?_) h
  simp only [impl_rising.f]
  rw [if_pos (by omega), if_pos (by simp; omega), wm1 l.length (by omega)]
  simp
/-- The first list of as many as possible who rise: from a place on, with so many to come, behind a height. -/
def pick (l r : List Int) : Nat → Nat → Int → Int → List Int
  | _, 0, _, _ => []
  | i, d + 1, due, h => if rd r (i : Int) = due then (if rd l (i : Int) > h then (i : Int) :: pick l r (i + 1) d (due - 1) (rd l (i : Int)) else pick l r (i + 1) d due h) else pick l r (i + 1) d due h
theorem pick_len (l r : List Int) : ∀ (d i : Nat) (due h : Int), (pick l r i d due h).length ≤ d
  | 0, _, _, _ => by simp [pick]
  | d + 1, i, due, h => by
    have a := pick_len l r d (i + 1) (due - 1) (rd l (i : Int))
    have b := pick_len l r d (i + 1) due h
    simp only [pick]
    split
    · split
      · simp; omega
      · omega
    · omega
theorem pick_impl (l r : List Int) (hl : l.length ≤ 40) (hr : r.length = l.length) : ∀ (d i : Nat) (due h : Int) (out : List Int), i + d = l.length → out.length ≤ i → -100 ≤ due - (d : Int) → due ≤ 40 →
    Ev (fun k => impl_LongestRising.l0 k out r due h l (l.length : Int) (i : Int)) (out ++ pick l r i d due h, true) := by
  intro d
  induction d with
  | zero =>
    intro i due h out hi ho hd hd2
    refine Ev.step (f := fun _ => some (out, true)) (fun k => ?_) ?_
    · simp only [impl_LongestRising.l0]
      rw [if_neg (by omega)]
    · simp only [pick, List.append_nil]
      exact Ev.now _
  | succ d ih =>
    intro i due h out hi ho hd hd2
    have hlt : i < l.length := by omega
    simp only [pick]
    by_cases c1 : rd r (i : Int) = due
    · by_cases c2 : rd l (i : Int) > h
      · rw [if_pos c1, if_pos c2]
        have hh := ih (i + 1) (due - 1) (rd l (i : Int)) (out ++ [(i : Int)]) (by omega) (by simp; omega) (by omega) (by omega)
        rw [List.append_assoc] at hh
        refine Ev.step (fun k => ?_) hh
        simp only [impl_LongestRising.l0]
        rw [if_pos (by omega), if_pos (by omega), if_pos (by omega), if_pos (by omega), if_pos c1, if_pos c2, if_pos (by omega), show wrap64 (due - 1) = due - 1 by unfold wrap64; omega, w1 i (by omega)]
      · rw [if_pos c1, if_neg c2]
        refine Ev.step (fun k => ?_) (ih (i + 1) due h out (by omega) (by omega) (by omega) hd2)
        simp only [impl_LongestRising.l0]
        rw [if_pos (by omega), if_pos (by omega), if_pos (by omega), if_pos (by omega), if_pos c1, if_neg c2, w1 i (by omega)]
    · rw [if_neg c1]
      refine Ev.step (fun k => ?_) (ih (i + 1) due h out (by omega) (by omega) (by omega) hd2)
      simp only [impl_LongestRising.l0]
      rw [if_pos (by omega), if_pos (by omega), if_pos (by omega), if_pos (by omega), if_neg c1, w1 i (by omega)]
theorem pick_spec (l : List Int) (hg : good l = true) : ∀ (d i : Nat) (due h : Int) (out : List Int), i + d = l.length → out.length ≤ i → -100 ≤ due - (d : Int) → due ≤ 40 →
    (out = [] ∧ h = 0 ∨ ∃ (q : Nat) (p : List Int), out = p ++ [(q : Int)] ∧ q < i ∧ h = rd l (q : Int)) →
    Ev (fun k => spec_LongestRising.l1 k l due out (risL l) (l.length : Int) (i : Int)) (out ++ pick l (risL l) i d due h, true) := by
  have hl := (good_len hg).2
  have hr : (risL l).length = l.length := risL_len l
  intro d
  induction d with
  | zero =>
    intro i due h out hi ho hd hd2 hq
    refine Ev.step (f := fun _ => some (out, true)) (fun k => ?_) ?_
    · simp only [spec_LongestRising.l1]
      rw [if_neg (by omega)]
    · simp only [pick, List.append_nil]
      exact Ev.now _
  | succ d ih =>
    intro i due h out hi ho hd hd2 hq
    have hlt : i < l.length := by omega
    have hb := risL_mem l (rd (risL l) (i : Int)) (by rw [rd_nat (risL l) i (by omega)]; exact List.getElem_mem _)
    have hgd := good_rd hg i hlt
    simp only [pick]
    by_cases c1 : rd (risL l) (i : Int) = due
    · have hpos : due > 0 := by omega
      by_cases c2 : rd l (i : Int) > h
      · rw [if_pos c1, if_pos c2]
        have hh := ih (i + 1) (due - 1) (rd l (i : Int)) (out ++ [(i : Int)]) (by omega) (by simp; omega) (by omega) (by omega) (.inr ⟨i, out, rfl, by omega, rfl⟩)
        rw [List.append_assoc] at hh
        refine Ev.step (fun k => ?_) hh
        simp only [spec_LongestRising.l1]
        rw [if_pos (by omega), if_pos (by omega), if_pos (by omega), if_pos c1, if_pos hpos, show wrap64 (due - 1) = due - 1 by unfold wrap64; omega, w1 i (by omega)]
        rcases hq with ⟨rfl, rfl⟩ | ⟨q, p, rfl, hqi, rfl⟩
        · rw [if_pos (by simp), if_pos (by simp)]
        · have hlast : rd (p ++ [(q : Int)]) (wrap64 (((p ++ [(q : Int)]).length : Int) - 1)) = (q : Int) := by
            rw [wm1 _ (by omega), show (((p ++ [(q : Int)]).length : Int) - 1) = ((p.length : Nat) : Int) by simp, rd_nat _ _ (by simp)]
            simp
          rw [if_neg (by simp; omega), hlast, wm1 _ (by omega), if_pos (by omega), if_pos (by simp), if_pos (by omega), if_pos (by omega), if_pos (by omega), if_pos c2, if_pos (by omega)]
      · rw [if_pos c1, if_neg c2]
        refine Ev.step (fun k => ?_) (ih (i + 1) due h out (by omega) (by omega) (by omega) hd2 (by
          rcases hq with hq | ⟨q, p, e, hqi, e2⟩
          · exact .inl hq
          · exact .inr ⟨q, p, e, by omega, e2⟩))
        simp only [spec_LongestRising.l1]
        rw [if_pos (by omega), if_pos (by omega), if_pos (by omega), if_pos c1, if_pos hpos]
        rcases hq with ⟨rfl, rfl⟩ | ⟨q, p, rfl, hqi, rfl⟩
        · exact absurd hgd.1 (by omega)
        · have hlast : rd (p ++ [(q : Int)]) (wrap64 (((p ++ [(q : Int)]).length : Int) - 1)) = (q : Int) := by
            rw [wm1 _ (by omega), show (((p ++ [(q : Int)]).length : Int) - 1) = ((p.length : Nat) : Int) by simp, rd_nat _ _ (by simp)]
            simp
          rw [if_neg (by simp; omega), hlast, wm1 _ (by omega), if_pos (by omega), if_pos (by simp), if_pos (by omega), if_pos (by omega), if_pos (by omega), if_neg c2, w1 i (by omega)]
    · rw [if_neg c1]
      refine Ev.step (fun k => ?_) (ih (i + 1) due h out (by omega) (by omega) (by omega) hd2 (by
          rcases hq with hq | ⟨q, p, e, hqi, e2⟩
          · exact .inl hq
          · exact .inr ⟨q, p, e, by omega, e2⟩))
      simp only [spec_LongestRising.l1]
      rw [if_pos (by omega), if_pos (by omega), if_pos (by omega), if_neg c1, w1 i (by omega)]
theorem maxL_le (n : Int) : ∀ (t : List Int) (m : Int), m ≤ n → (∀ x ∈ t, x ≤ n) → maxL t m ≤ n
  | [], m, h, _ => h
  | a :: t, m, h, ht => by
    simp only [maxL]
    have ha := ht a (List.mem_cons_self ..)
    exact maxL_le n t _ (by split <;> omega) (fun x hx => ht x (List.mem_cons_of_mem _ hx))
theorem maxL_ge : ∀ (t : List Int) (m : Int), m ≤ maxL t m
  | [], m => by simp [maxL]
  | a :: t, m => by
    simp only [maxL]
    have := maxL_ge t (if m > a then m else a)
    have h2 : m ≤ (if m > a then m else a) := by split <;> omega
    omega
theorem left_spec (l r : List Int) (hl : l.length ≤ 40) (hr : r.length ≤ 40) (R : List Int × Bool) : ∀ (d j : Nat) (m : Int), j + d = r.length →
    Ev (fun k => spec_LongestRising.l1 k l (maxL (r.drop j) m) [] r (r.length : Int) 0) R →
    Ev (fun k => spec_LongestRising.l0 k l r m r (r.length : Int) (j : Int)) R := by
  intro d
  induction d with
  | zero =>
    intro j m hj hev
    rw [List.drop_eq_nil_of_le (by omega)] at hev
    simp only [maxL] at hev
    refine Ev.step (fun k => ?_) hev
    simp only [spec_LongestRising.l0]
    rw [if_neg (by omega)]
  | succ d ih =>
    intro j m hj hev
    have hlt : j < r.length := by omega
    rw [drop_cons r j hlt] at hev
    simp only [maxL] at hev
    refine Ev.step (fun k => ?_) (ih (j + 1) _ (by omega) hev)
    simp only [spec_LongestRising.l0, spec_l1Most.f]
    rw [if_pos (by omega), if_pos (by omega), if_pos (by omega), w1 j (by omega)]
    split <;> rfl
theorem max_same (r : List Int) (h1 : 0 < r.length) (hp : ∀ x ∈ r, 1 ≤ x) : maxL (r.drop 1) (rd r 0) = maxL r 0 := by
  match r, h1 with
  | a :: t, _ =>
    have ha := hp a (List.mem_cons_self ..)
    simp only [maxL, List.drop_succ_cons, List.drop_zero, rd_zero_cons]
    rw [if_neg (by omega)]
theorem longest_ev (l : List Int) (hg : good l = true) :
    Ev (fun k => spec_LongestRising.f k l) (pick l (risL l) 0 l.length (maxL (risL l) 0) 0, true) ∧ Ev (fun k => impl_LongestRising.f k l) (pick l (risL l) 0 l.length (maxL (risL l) 0) 0, true) := by
  have hl := good_len hg
  have hrl : (risL l).length = l.length := risL_len l
  have hmem := risL_mem l
  have hle := maxL_le 40 (risL l) 0 (by omega) (fun x hx => by have := hmem x hx; omega)
  have hge := maxL_ge (risL l) 0
  constructor
  · refine Ev.bind (good_ev l (by omega)) ?_
    simp only [hg, if_true]
    refine Ev.bind (rising_spec_ev l hl.2) ?_
    refine left_spec l (risL l) hl.2 (by omega) _ (risL l).length 0 0 (by omega) ?_
    rw [List.drop_zero, hrl]
    have := pick_spec l hg l.length 0 (maxL (risL l) 0) 0 [] (by omega) (by simp) (by omega) hle (.inl ⟨rfl, rfl⟩)
    simpa using this
  · simp only [impl_LongestRising.f, impl_good, Option.bind_some, hg, if_true]
    refine Ev.bind (rising_impl_ev l hl.2) ?_
    refine Ev.bind (max_ev (risL l) (by omega) (by omega)) ?_
    rw [max_same (risL l) (by omega) (fun x hx => (hmem x hx).1)]
    have := pick_impl l (risL l) hl.2 hrl l.length 0 (maxL (risL l) 0) 0 [] (by omega) (by simp) (by omega) hle
    simpa using this
theorem both (l : List Int) (hl : l.length ≤ 1048576) : ∃ (v : List Int) (b : Bool), v.length ≤ 1048576 ∧ Ev (fun k => spec_LongestRising.f k l) (v, b) ∧ Ev (fun k => impl_LongestRising.f k l) (v, b) := by
  by_cases h : good l = true
  · have := longest_ev l h
    exact ⟨_, true, Nat.le_trans (pick_len l (risL l) l.length 0 _ 0) hl, this.1, this.2⟩
  · refine ⟨[], false, by simp, ?_, ?_⟩
    · refine Ev.bind (good_ev l hl) ?_
      simp only [h, if_false]
      exact Ev.now _
    · simp only [impl_LongestRising.f, impl_good, Option.bind_some, h, if_false]
      exact Ev.now _
/-! the law's own steps, for functions of heights that tell a list -/
theorem law_tail (l v : List Int) (b : Bool) (hl : l.length ≤ 1048576) (hv : v.length ≤ 1048576) (hs : Ev (fun k => spec_LongestRising.f k l) (v, b)) (hi : Ev (fun k => impl_LongestRising.f k l) (v, b)) :
    Ev (fun k => laws_FnExactLongestRising.f k l) true := by
  refine Ev.congr (fun k => by unfold laws_FnExactLongestRising.f; rw [if_neg (by omega)]) ?_
  refine Ev.bind (toIntS_ev l hl) ?_
  refine Ev.bind hs ?_
  refine Ev.bind (toIntS_ev l hl) ?_
  refine Ev.bind hi ?_
  refine Ev.bind (eqIntS_ev v hv) ?_
  simp only [bne_self_eq_false, if_true]
  refine Ev.step (fun k => by rw [laws_FnExactLongestRising.j0]) ?_
  simp only [Bool.false_eq_true, if_false]
  refine Ev.bind (toIntS_ev l hl) ?_
  refine Ev.bind (eqIntS_ev l hl) ?_
  simp only [if_true]
  refine Ev.bind (mark_ev l hl) ?_
  refine Ev.congr (fun k => by rw [if_neg (by simp; omega)]) ?_
  refine Ev.bind (eqIntS_ev v hv) ?_
  simp only [bne_self_eq_false, if_true]
  refine Ev.step (fun k => by rw [laws_FnExactLongestRising.j1]) ?_
  simp only [Bool.false_eq_true, if_false]
  refine Ev.bind (mark_ev v hv) ?_
  refine Ev.bind (held_ev v.length hv) ?_
  refine Ev.congr (fun k => by rw [if_neg (by simp; omega), if_pos rfl]) ?_
  refine Ev.bind (toIntS_ev l hl) ?_
  refine Ev.bind hi ?_
  refine Ev.bind (eqIntS_ev v hv) ?_
  simp only [bne_self_eq_false, if_true]
  refine Ev.step (fun k => by rw [laws_FnExactLongestRising.j2]) ?_
  simp only [Bool.false_eq_true, if_false]
  refine Ev.bind (held_ev v.length hv) ?_
  refine Ev.congr (fun k => by rw [if_neg (by simp; omega), if_pos rfl]) ?_
  exact Ev.now _
theorem FnExactLongestRising : laws_FnExactLongestRising.Pure := by
  intro l _ _ _
  by_cases hl : l.length ≤ 1048576
  · obtain ⟨v, b, hv, hs, hi⟩ := both l hl
    exact (law_tail l v b hl hv hs hi).rounds
  · exact ⟨0, by unfold laws_FnExactLongestRising.f; rw [if_pos (by omega)]⟩

end Go.Proofs.Ythljbhianagobab.Pure
