/- The program and the reference tell the same greatest number of soldiers who are a mountain and leave the list as it was, for every list that can be read. -/
import Derived.Test.YthljbhianagobacPFnExactLongestMountainx4
namespace Go.Proofs.Ythljbhianagobac.Pure
open Go.RowKit Go.Proofs.Ythljbhianagobac.PFnExactLongestMountain Go.Proofs.YthljbhianagobacW.PrintWords Go.Proofs.YthljbhianagobacW.PrintLast Go.Proofs.YthljbhianagobacW.PrintMore
set_option linter.unusedVariables false
set_option linter.unusedSimpArgs false

/-! plain words -/
theorem w1 (i : Nat) (h : i ≤ 4611686018427387904) : wrap64 ((i : Int) + 1) = ((i + 1 : Nat) : Int) := by unfold wrap64; omega
theorem rd_nat (l : List Int) (i : Nat) (h : i < l.length) : rd l (i : Int) = l[i] := by
  simp [rd, List.getD_eq_getElem?_getD, List.getElem?_eq_getElem h]
theorem drop_cons (l : List Int) (i : Nat) (h : i < l.length) : l.drop i = rd l (i : Int) :: l.drop (i + 1) := by
  rw [List.drop_eq_getElem_cons h, rd_nat l i h]
/-! who are heights -/
def good (l : List Int) : Bool := decide (1 ≤ l.length) && decide (l.length ≤ 40) && l.all (fun h => decide (1 ≤ h) && decide (h ≤ 100))
theorem impl_good (l : List Int) : impl_areHeights.f l = some (good l) := rfl
theorem good_len {l : List Int} (h : good l = true) : 1 ≤ l.length ∧ l.length ≤ 40 := by
  unfold good at h
  simp only [Bool.and_eq_true, decide_eq_true_eq] at h
  exact h.1
theorem good_mem {l : List Int} (h : good l = true) : ∀ x ∈ l, 1 ≤ x ∧ x ≤ 100 := by
  unfold good at h
  simp only [Bool.and_eq_true, decide_eq_true_eq, List.all_eq_true] at h
  exact h.2
theorem good_rd {l : List Int} (h : good l = true) (i : Nat) (hi : i < l.length) : 1 ≤ rd l (i : Int) ∧ rd l (i : Int) ≤ 100 := by
  rw [rd_nat l i hi]
  exact good_mem h _ (List.getElem_mem hi)
theorem all_ev (l : List Int) (hl : l.length ≤ 1048576) : ∀ (d i : Nat), i + d = l.length →
    Ev (fun k => spec_l1All.l0 k 1 100 l (l.length : Int) (i : Int)) ((l.drop i).all (fun h => decide (1 ≤ h) && decide (h ≤ 100))) := by
  intro d
  induction d with
  | zero =>
    intro i hi
    refine Ev.step (f := fun _ => some ((l.drop i).all (fun h => decide (1 ≤ h) && decide (h ≤ 100)))) (fun k => ?_) (Ev.now _)
    simp only [spec_l1All.l0]
    rw [if_neg (by omega), List.drop_eq_nil_of_le (by omega)]
    rfl
  | succ d ih =>
    intro i hi
    have hlt : i < l.length := by omega
    rw [drop_cons l i hlt]
    simp only [List.all_cons]
    by_cases h1 : 1 ≤ rd l (i : Int)
    · by_cases h2 : rd l (i : Int) ≤ 100
      · have hr := ih (i + 1) (by omega)
        rw [decide_eq_true h1, decide_eq_true h2]
        refine Ev.step (f := fun k => spec_l1All.l0 k 1 100 l (l.length : Int) ((i + 1 : Nat) : Int)) (fun k => ?_) hr
        simp only [spec_l1All.l0, spec_l1In.f]
        rw [if_pos (by omega), if_pos (by omega), if_pos (by omega), if_pos (by omega), w1 i (by omega)]
        simp [h2]
      · refine Ev.step (f := fun _ => some false) (fun k => ?_) ?_
        · simp only [spec_l1All.l0, spec_l1In.f]
          rw [if_pos (by omega), if_pos (by omega), if_pos (by omega), if_pos (by omega)]
          simp [h2]
        · rw [decide_eq_false h2, Bool.and_false, Bool.false_and]; exact Ev.now _
    · refine Ev.step (f := fun _ => some false) (fun k => ?_) ?_
      · simp only [spec_l1All.l0, spec_l1In.f]
        rw [if_pos (by omega), if_pos (by omega), if_pos (by omega), if_neg (by omega)]
        simp
      · rw [decide_eq_false h1, Bool.false_and, Bool.false_and]; exact Ev.now _
theorem good_ev (l : List Int) (hl : l.length ≤ 1048576) : Ev (fun k => spec_heGood.f k l) (good l) := by
  unfold good
  by_cases h1 : 1 ≤ l.length
  · by_cases h2 : l.length ≤ 40
    · refine Ev.congr (f := fun k => (spec_l1All.f k l 1 100).bind fun t => some t) (fun k => ?_) ?_
      · simp only [spec_heGood.f, spec_l1In.f]
        rw [if_pos (by omega)]
        simp only [Option.bind_some]
        rw [if_pos (by simp; omega)]
      · refine Ev.bind (a := l.all (fun h => decide (1 ≤ h) && decide (h ≤ 100))) ?_ ?_
        · exact all_ev l hl l.length 0 (by omega)
        · rw [decide_eq_true h1, decide_eq_true h2]; exact Ev.now _
    · refine Ev.congr (f := fun _ => some false) (fun k => ?_) ?_
      · simp only [spec_heGood.f, spec_l1In.f]
        rw [if_pos (by omega)]
        simp only [Option.bind_some]
        rw [if_neg (by simp; omega)]
      · rw [decide_eq_false h2, Bool.and_false, Bool.false_and]; exact Ev.now _
  · refine Ev.congr (f := fun _ => some false) (fun k => ?_) ?_
    · simp only [spec_heGood.f, spec_l1In.f]
      rw [if_neg (by omega)]
      rfl
    · rw [decide_eq_false h1, Bool.false_and, Bool.false_and]; exact Ev.now _
theorem toIntS_loop (l : List Int) (hl : l.length ≤ 1048576) : ∀ (d i : Nat) (acc : List Int), i + d = l.length → acc.length = l.length →
    Ev (fun k => laws_toIntS.l0 k l acc (i : Int)) (acc.take i ++ l.drop i) := by
  intro d
  induction d with
  | zero =>
    intro i acc hi ha
    refine Ev.step (f := fun _ => some acc) (fun k => ?_) ?_
    · simp only [laws_toIntS.l0]
      rw [if_neg (by omega)]
    · rw [List.take_of_length_le (by omega), List.drop_eq_nil_of_le (by omega), List.append_nil]
      exact Ev.now _
  | succ d ih =>
    intro i acc hi ha
    have hlt : i < l.length := by omega
    have hr := ih (i + 1) (acc.set i (rd l (i : Int))) (by omega) (by simpa using ha)
    have e : (acc.set i (rd l (i : Int))).take (i + 1) ++ l.drop (i + 1) = acc.take i ++ l.drop i := by
      rw [drop_cons l i hlt, List.take_succ_eq_append_getElem (by simp; omega), List.getElem_set_self, List.append_assoc]
      congr 1
      simp [List.take_set_of_le]
    rw [e] at hr
    refine Ev.step (f := fun k => laws_toIntS.l0 k l (acc.set i (rd l (i : Int))) ((i + 1 : Nat) : Int)) (fun k => ?_) hr
    simp only [laws_toIntS.l0]
    rw [if_pos (by omega), if_pos (by omega), if_pos (by omega), w1 i (by omega)]
    rfl
theorem toIntS_ev (l : List Int) (hl : l.length ≤ 1048576) : Ev (fun k => laws_toIntS.f k l) l := by
  refine Ev.congr (f := fun k => laws_toIntS.l0 k l (List.replicate l.length 0) ((0 : Nat) : Int)) (fun k => ?_) ?_
  · simp only [laws_toIntS.f]
    rw [if_pos (by omega), if_pos (by simp; omega)]
    simp
  · have := toIntS_loop l hl l.length 0 (List.replicate l.length 0) (by omega) (by simp)
    simpa using this
theorem eqIntS_loop (l : List Int) (hl : l.length ≤ 1048576) : ∀ (d i : Nat), i + d = l.length → Ev (fun k => laws_eqIntS.l0 k l l (i : Int)) true := by
  intro d
  induction d with
  | zero =>
    intro i hi
    refine Ev.step (f := fun _ => some true) (fun k => ?_) (Ev.now _)
    simp only [laws_eqIntS.l0]
    rw [if_neg (by omega)]
  | succ d ih =>
    intro i hi
    refine Ev.step (f := fun k => laws_eqIntS.l0 k l l ((i + 1 : Nat) : Int)) (fun k => ?_) (ih (i + 1) (by omega))
    simp only [laws_eqIntS.l0]
    rw [if_pos (by omega), if_pos (by omega), if_pos (by omega), if_pos trivial, w1 i (by omega)]
theorem eqIntS_ev (l : List Int) (hl : l.length ≤ 1048576) : Ev (fun k => laws_eqIntS.f k l l) true := by
  refine Ev.congr (f := fun k => laws_eqIntS.l0 k l l ((0 : Nat) : Int)) (fun k => ?_) (eqIntS_loop l hl l.length 0 (by omega))
  simp only [laws_eqIntS.f]
  rw [if_pos trivial]
  rfl
/-! a list told from its end on -/
theorem wm1 (m : Nat) (h : m ≤ 4611686018427387904) : wrap64 ((m : Int) - 1) = (m : Int) - 1 := by unfold wrap64; omega
theorem back_loop (l : List Int) (hl : l.length ≤ 1048576) : ∀ (m : Nat) (acc : List Int), m ≤ l.length → acc.length + m ≤ 1048576 →
    Ev (fun k => spec_heBack.l0 k l acc ((m : Int) - 1)) (acc ++ (l.take m).reverse) := by
  intro m
  induction m with
  | zero =>
    intro acc hm ha
    refine Ev.step (f := fun _ => some acc) (fun k => ?_) ?_
    · simp only [spec_heBack.l0]
      rw [if_neg (by omega)]
    · rw [List.take_zero, List.reverse_nil, List.append_nil]
      exact Ev.now _
  | succ m ih =>
    intro acc hm ha
    have hr := ih (acc ++ [rd l (m : Int)]) (by omega) (by simp; omega)
    rw [List.append_assoc] at hr
    have e : (l.take (m + 1)).reverse = [rd l (m : Int)] ++ (l.take m).reverse := by
      rw [List.take_succ_eq_append_getElem (by omega), List.reverse_append, rd_nat l m (by omega)]
      rfl
    rw [e]
    refine Ev.step (fun k => ?_) hr
    simp only [spec_heBack.l0]
    rw [show (((m + 1 : Nat) : Int) - 1) = (m : Int) by omega, if_pos (by omega), if_pos (by omega), if_pos (by omega), if_pos (by omega), wm1 m (by omega)]
theorem back_ev (l : List Int) (hl : l.length ≤ 1048576) : Ev (fun k => spec_heBack.f k l) l.reverse := by
  have h := back_loop l hl l.length [] (by omega) (by simpa using hl)
  rw [List.take_length, List.nil_append] at h
  refine Ev.congr (fun k => ?_) h
  simp only [spec_heBack.f]
  rw [wm1 l.length (by omega)]
theorem set_mid (p s : List Int) (a b : Int) (m : List Int) : ((p ++ (a :: (m ++ [b])) ++ s).set p.length b).set (p.length + (m.length + 1)) a = (p ++ [b]) ++ m ++ (a :: s) := by
  simp [List.set_append]
theorem rev_loop : ∀ (d : Nat) (mid p s : List Int), mid.length ≤ d → p.length = s.length → (p ++ mid ++ s).length ≤ 1048576 →
    Ev (fun k => slices_Reverse_int_int.l0 k (p ++ mid ++ s) (p.length : Int) ((p.length : Int) + (mid.length : Int) - 1)) (p ++ mid.reverse ++ s) := by
  intro d
  induction d with
  | zero =>
    intro mid p s hm hps hlen
    obtain rfl : mid = [] := List.eq_nil_of_length_eq_zero (by omega)
    refine Ev.step (f := fun _ => some (p ++ [] ++ s)) (fun k => ?_) (Ev.now _)
    simp only [slices_Reverse_int_int.l0]
    rw [if_neg (by simp; try omega)]
  | succ d ih =>
    intro mid p s hm hps hlen
    match mid with
    | [] =>
      refine Ev.step (f := fun _ => some (p ++ [] ++ s)) (fun k => ?_) (Ev.now _)
      simp only [slices_Reverse_int_int.l0]
      rw [if_neg (by simp; try omega)]
    | [a] =>
      refine Ev.step (f := fun _ => some (p ++ [a] ++ s)) (fun k => ?_) (Ev.now _)
      simp only [slices_Reverse_int_int.l0]
      rw [if_neg (by simp; try omega)]
    | a :: c :: t =>
      obtain ⟨m, b, hmb⟩ : ∃ m b, c :: t = m ++ [b] := ⟨(c :: t).dropLast, (c :: t).getLast (by simp), (List.dropLast_concat_getLast (by simp)).symm⟩
      rw [hmb] at hm hlen ⊢
      simp only [List.length_cons, List.length_append, List.length_nil] at hm hlen
      have hr := ih m (p ++ [b]) (a :: s) (by omega) (by simp; omega) (by simp; omega)
      have e : (p ++ [b]) ++ m.reverse ++ (a :: s) = p ++ (a :: (m ++ [b])).reverse ++ s := by simp
      rw [e] at hr
      have hfull : (p ++ a :: (m ++ [b]) ++ s).length = p.length + (m.length + 2) + s.length := by simp; omega
      have r1 : rd (p ++ a :: (m ++ [b]) ++ s) (p.length : Int) = a := by
        rw [rd_nat _ _ (by omega)]
        simp
      have r2 : rd (p ++ a :: (m ++ [b]) ++ s) ((p.length + (m.length + 1) : Nat) : Int) = b := by
        rw [rd_nat _ _ (by omega)]
        simp [List.getElem_append]
      refine Ev.step (fun k => ?_) hr
      simp only [slices_Reverse_int_int.l0]
      have ej : (p.length : Int) + ((a :: (m ++ [b])).length : Int) - 1 = ((p.length + (m.length + 1) : Nat) : Int) := by simp; omega
      rw [ej, r1, r2, hfull, if_pos (by omega), if_pos (by omega), if_pos (by omega), if_pos (by omega), if_pos (by omega), w1 p.length (by omega), wm1 _ (by omega)]
      rw [show ((p.length : Int)).toNat = p.length by omega, show (((p.length + (m.length + 1) : Nat) : Int)).toNat = p.length + (m.length + 1) by omega, set_mid]
      congr 1
      · simp
      · simp; omega
theorem mirrored_ev (l : List Int) (hl : l.length ≤ 1048576) : Ev (fun k => impl_mirrored.f k l) l.reverse := by
  have h := rev_loop l.length l [] [] (by omega) rfl (by simpa using hl)
  simp only [List.nil_append, List.append_nil, List.length_nil] at h
  have h2 : Ev (fun k => slices_Reverse_int_int.f k l) l.reverse := by
    refine Ev.congr (fun k => ?_) h
    simp only [slices_Reverse_int_int.f]
    rw [wm1 l.length (by omega)]
    congr 1
    omega
  have hc : slices_Clone_int_int.f l = some l := by unfold slices_Clone_int_int.f; rw [if_pos (by omega)]
  simp only [impl_mirrored.f, hc, Option.bind_some]
  exact Ev.bind h2 (Ev.now _)
theorem mx_if (a b : Int) : mx a b = if a > b then a else b := by
  unfold mx; split <;> split <;> omega
/-! rising and falling -/
def bst (p : Int → Bool) : List (Int × Int) → Int
  | [] => 0
  | (o, c) :: t => if p o = true then max c (bst p t) else bst p t
theorem bst_nonneg (p : Int → Bool) : ∀ t, 0 ≤ bst p t
  | [] => by simp [bst]
  | (o, c) :: t => by
    have := bst_nonneg p t
    simp only [bst]
    split <;> omega
theorem bst_append (p : Int → Bool) : ∀ a b, bst p (a ++ b) = max (bst p a) (bst p b)
  | [], b => by have := bst_nonneg p b; simp only [List.nil_append, bst]; omega
  | (o, c) :: t, b => by
    have := bst_append p t b
    simp only [List.cons_append, bst]
    split <;> omega
theorem bst_reverse (p : Int → Bool) : ∀ a, bst p a.reverse = bst p a
  | [] => rfl
  | (o, c) :: t => by
    have h0 := bst_nonneg p t
    rw [List.reverse_cons, bst_append, bst_reverse p t]
    simp only [bst]
    split <;> omega
theorem bst_le (p : Int → Bool) (n : Int) (h0 : 0 ≤ n) : ∀ t : List (Int × Int), (∀ q ∈ t, q.2 ≤ n) → bst p t ≤ n
  | [], _ => by simpa [bst] using h0
  | (o, c) :: t, h => by
    have h1 := bst_le p n h0 t (fun q hq => h q (List.mem_cons_of_mem _ hq))
    have h2 := h (o, c) (List.mem_cons_self ..)
    simp only at h2
    simp only [bst]
    split <;> omega
def risL : List Int → List Int
  | [] => []
  | h :: t => (bst (fun o => decide (h < o)) (t.zip (risL t)) + 1) :: risL t
theorem risL_len : ∀ t, (risL t).length = t.length
  | [] => rfl
  | _ :: t => by simp [risL, risL_len t]
theorem risL_drop : ∀ (l : List Int) (k : Nat), (risL l).drop k = risL (l.drop k)
  | [], k => by simp [risL]
  | _ :: _, 0 => rfl
  | h :: t, k + 1 => by simp only [risL, List.drop_succ_cons]; exact risL_drop t k
theorem risL_mem : ∀ (l : List Int), ∀ c ∈ risL l, 1 ≤ c ∧ c ≤ (l.length : Int)
  | [], c, hc => by simp [risL] at hc
  | h :: t, c, hc => by
    simp only [risL, List.mem_cons] at hc
    have ih := risL_mem t
    rcases hc with rfl | hc
    · have h1 := bst_nonneg (fun o => decide (h < o)) (t.zip (risL t))
      have h2 := bst_le (fun o => decide (h < o)) (t.length : Int) (by omega) (t.zip (risL t)) (fun q hq => (ih q.2 (List.of_mem_zip hq).2).2)
      simp only [List.length_cons]; omega
    · have := ih c hc
      simp only [List.length_cons]; omega
def falL : List Int → List Int
  | [] => []
  | h :: t => (bst (fun o => decide (o < h)) (t.zip (falL t)) + 1) :: falL t
theorem falL_len : ∀ t, (falL t).length = t.length
  | [] => rfl
  | _ :: t => by simp [falL, falL_len t]
theorem falL_drop : ∀ (l : List Int) (k : Nat), (falL l).drop k = falL (l.drop k)
  | [], k => by simp [falL]
  | _ :: _, 0 => rfl
  | h :: t, k + 1 => by simp only [falL, List.drop_succ_cons]; exact falL_drop t k
theorem falL_mem : ∀ (l : List Int), ∀ c ∈ falL l, 1 ≤ c ∧ c ≤ (l.length : Int)
  | [], c, hc => by simp [falL] at hc
  | h :: t, c, hc => by
    simp only [falL, List.mem_cons] at hc
    have ih := falL_mem t
    rcases hc with rfl | hc
    · have h1 := bst_nonneg (fun o => decide (o < h)) (t.zip (falL t))
      have h2 := bst_le (fun o => decide (o < h)) (t.length : Int) (by omega) (t.zip (falL t)) (fun q hq => (ih q.2 (List.of_mem_zip hq).2).2)
      simp only [List.length_cons]; omega
    · have := ih c hc
      simp only [List.length_cons]; omega
theorem bst_map (h : Int) : ∀ (t cs : List Int), bst (fun o => decide (101 - h < o)) ((t.map fun o => 101 - o).zip cs) = bst (fun o => decide (o < h)) (t.zip cs)
  | [], cs => by simp [bst]
  | o :: t, [] => by simp [bst]
  | o :: t, c :: cs => by
    have ih := bst_map h t cs
    simp only [List.map_cons, List.zip_cons_cons, bst, ih]
    have : (decide (101 - h < 101 - o)) = decide (o < h) := by
      by_cases c : o < h
      · rw [decide_eq_true c, decide_eq_true (by omega)]
      · rw [decide_eq_false c, decide_eq_false (by omega)]
    rw [this]
theorem fal_ris : ∀ l : List Int, risL (l.map fun o => 101 - o) = falL l
  | [] => rfl
  | h :: t => by
    simp only [List.map_cons, risL, falL, fal_ris t]
    rw [bst_map]
/-- The head's own number. -/
def hdF (l : List Int) : Int := rd (falL l) 0
theorem hdF_cons (h : Int) (t : List Int) : hdF (h :: t) = bst (fun o => decide (o < h)) (t.zip (falL t)) + 1 := rfl
theorem rd_zero (l : List Int) (h : 0 < l.length) : rd l 0 = l[0] := rd_nat l 0 h
theorem rd_zero_cons (h : Int) (t : List Int) : rd (h :: t) 0 = h := rfl
theorem rd_drop (l : List Int) (i : Nat) (h : i < l.length) : rd (l.drop i) 0 = rd l (i : Int) := by
  rw [drop_cons l i h]; rfl
theorem falL_rd (l : List Int) (i : Nat) (h : i < l.length) : rd (falL l) (i : Int) = hdF (l.drop i) := by
  rw [← rd_drop _ i (by rw [falL_len]; exact h), falL_drop]; rfl
theorem hdF_bd (l : List Int) (h : 0 < l.length) : 1 ≤ hdF l ∧ hdF l ≤ (l.length : Int) := by
  match l, h with
  | a :: t, _ =>
    have := falL_mem (a :: t) (hdF (a :: t)) (by rw [hdF_cons]; simp [falL])
    exact this
theorem ris_in_spec (l : List Int) (hl : l.length ≤ 40) (i : Nat) (hi : i < l.length) (x : List Int) (hx : x.length = l.length) (hd : x.drop (i + 1) = risL (l.drop (i + 1))) (R : List Int) : ∀ (d j : Nat) (m : Int), j + d = l.length → i < j → 0 ≤ m → m ≤ 40 →
    Ev (fun k => spec_heRising.l0 k l (x.set i (max m (bst (fun o => decide (rd l (i : Int) < o)) ((l.drop j).zip (risL (l.drop j)))) + 1)) ((i : Int) - 1)) R →
    Ev (fun k => spec_heRising.l1 k l x (i : Int) m (j : Int)) R := by
  intro d
  induction d with
  | zero =>
    intro j m hj hij hm0 hm hev
    rw [List.drop_eq_nil_of_le (by omega)] at hev
    simp only [risL, List.zip_nil_left, bst] at hev
    rw [show max m 0 = m by omega] at hev
    refine Ev.step (fun k => ?_) hev
    simp only [spec_heRising.l1]
    rw [if_neg (by omega), if_pos (by omega), if_pos (by omega), show wrap64 (m + 1) = m + 1 by unfold wrap64; omega, wm1 i (by omega)]
    rfl
  | succ d ih =>
    intro j m hj hij hm0 hm hev
    have hlt : j < l.length := by omega
    have hxj : x.drop j = risL (l.drop j) := by
      have : x.drop j = (x.drop (i + 1)).drop (j - (i + 1)) := by rw [List.drop_drop]; congr 1; omega
      rw [this, hd, risL_drop, List.drop_drop]; congr 2; omega
    have hrx : rd x (j : Int) = rd (risL (l.drop j)) 0 := by
      rw [← rd_drop x j (by omega), hxj]
    have hb := risL_mem (l.drop j) (rd (risL (l.drop j)) 0) (by
      rw [rd_zero (risL (l.drop j)) (by rw [risL_len, List.length_drop]; omega)]
      exact List.getElem_mem _)
    rw [List.length_drop] at hb
    have hz : (l.drop j).zip (risL (l.drop j)) = (rd l (j : Int), rd (risL (l.drop j)) 0) :: (l.drop (j + 1)).zip (risL (l.drop (j + 1))) := by
      rw [drop_cons l j hlt]
      simp [risL, rd_zero_cons]
    rw [hz] at hev
    simp only [bst] at hev
    by_cases c : rd l (j : Int) > rd l (i : Int)
    · have c' : rd l (i : Int) < rd l (j : Int) := c
      rw [if_pos (decide_eq_true c')] at hev
      have hr := ih (j + 1) (max m (rd (risL (l.drop j)) 0)) (by omega) (by omega) (by omega) (by omega) (by rw [show ∀ a b c : Int, max (max a b) c = max a (max b c) by intros; omega]; exact hev)
      refine Ev.step (fun k => ?_) hr
      simp only [spec_heRising.l1, spec_l1Most.f]
      rw [if_pos (by omega), if_pos (by omega), if_pos (by omega), if_pos (by omega), if_pos c, if_pos (by omega), hrx, w1 j (by omega)]
      by_cases c2 : m > rd (risL (l.drop j)) 0
      · rw [if_pos c2, show max m (rd (risL (l.drop j)) 0) = m by omega]; rfl
      · rw [if_neg c2, show max m (rd (risL (l.drop j)) 0) = rd (risL (l.drop j)) 0 by omega]; rfl
    · have c' : ¬ rd l (i : Int) < rd l (j : Int) := c
      rw [if_neg (show ¬ (decide _ = true) by rw [decide_eq_true_eq]; exact c')] at hev
      refine Ev.step (fun k => ?_) (ih (j + 1) m (by omega) (by omega) hm0 hm hev)
      simp only [spec_heRising.l1]
      rw [if_pos (by omega), if_pos (by omega), if_pos (by omega), if_pos (by omega), if_neg c, w1 j (by omega)]
theorem ris_head (l : List Int) (i : Nat) (hi : i < l.length) : risL (l.drop i) = (bst (fun o => decide (rd l (i : Int) < o)) ((l.drop (i + 1)).zip (risL (l.drop (i + 1)))) + 1) :: risL (l.drop (i + 1)) := by
  rw [drop_cons l i hi]; rfl
theorem ris_set (l x : List Int) (i : Nat) (hi : i < l.length) (hx : x.length = l.length) (hd : x.drop (i + 1) = risL (l.drop (i + 1))) (v : Int) (hv : v = bst (fun o => decide (rd l (i : Int) < o)) ((l.drop (i + 1)).zip (risL (l.drop (i + 1)))) + 1) :
    (x.set i v).drop i = risL (l.drop i) := by
  rw [ris_head l i hi, ← hv, List.drop_eq_getElem_cons (by simpa using by omega), List.getElem_set_self]
  congr 1
  rw [List.drop_set_of_lt (by omega), hd]
theorem ris_out_spec (l : List Int) (hl : l.length ≤ 40) : ∀ (m : Nat) (x : List Int), m ≤ l.length → x.length = l.length → x.drop m = risL (l.drop m) →
    Ev (fun k => spec_heRising.l0 k l x ((m : Int) - 1)) (risL l) := by
  intro m
  induction m with
  | zero =>
    intro x hm hx hd
    rw [List.drop_zero, List.drop_zero] at hd
    subst hd
    refine Ev.step (f := fun _ => some (risL l)) (fun k => ?_) (Ev.now _)
    simp only [spec_heRising.l0]
    rw [if_neg (by omega)]
  | succ i ih =>
    intro x hm hx hd
    have hb0 := bst_nonneg (fun o => decide (rd l (i : Int) < o)) ((l.drop (i + 1)).zip (risL (l.drop (i + 1))))
    have hr := ih (x.set i (max 0 (bst (fun o => decide (rd l (i : Int) < o)) ((l.drop (i + 1)).zip (risL (l.drop (i + 1))))) + 1)) (by omega) (by simpa using hx)
      (ris_set l x i (by omega) hx hd _ (by omega))
    have h2 := ris_in_spec l hl i (by omega) x hx hd _ (l.length - (i + 1)) (i + 1) 0 (by omega) (by omega) (by omega) (by omega) hr
    refine Ev.step (fun k => ?_) h2
    simp only [spec_heRising.l0]
    rw [show (((i + 1 : Nat) : Int) - 1) = (i : Int) by omega, if_pos (by omega), w1 i (by omega)]
theorem rising_spec_ev (l : List Int) (hl : l.length ≤ 40) : Ev (fun k => spec_heRising.f k l) (risL l) := by
  have h := ris_out_spec l hl l.length (List.replicate l.length 0) (by omega) (by simp) (by
    rw [List.drop_eq_nil_of_le (by simp), List.drop_eq_nil_of_le (by omega)]; rfl)
  refine Ev.congr (fun k => ?_) h
  simp only [spec_heRising.f]
  rw [if_pos (by omega), if_pos (by simp; omega), wm1 l.length (by omega)]
  simp
theorem fal_loop (l : List Int) (hl : l.length ≤ 40) (hg : ∀ x ∈ l, 1 ≤ x ∧ x ≤ 100) : ∀ (d i : Nat) (out : List Int), i + d = l.length → out = (l.take i).map (fun o => 101 - o) →
    Ev (fun k => spec_heFalling.l0 k out l (l.length : Int) (i : Int)) (falL l) := by
  intro d
  induction d with
  | zero =>
    intro i out hi ho
    have e : out = l.map (fun o => 101 - o) := by rw [ho, List.take_of_length_le (by omega)]
    have h := rising_spec_ev out (by rw [e, List.length_map]; exact hl)
    rw [e, fal_ris] at h
    rw [e]
    refine Ev.step (f := fun k => (spec_heRising.f k (l.map fun o => 101 - o)).bind fun t => some t) (fun k => ?_) (Ev.bind h (Ev.now _))
    simp only [spec_heFalling.l0]
    rw [if_neg (by omega)]
  | succ d ih =>
    intro i out hi ho
    have hlt : i < l.length := by omega
    have hb := hg (rd l (i : Int)) (by rw [rd_nat l i hlt]; exact List.getElem_mem _)
    have hol : out.length = i := by rw [ho]; simp; omega
    refine Ev.step (fun k => ?_) (ih (i + 1) (out ++ [101 - rd l (i : Int)]) (by omega) (by
      rw [ho, List.take_succ_eq_append_getElem hlt, List.map_append, rd_nat l i hlt]; rfl))
    simp only [spec_heFalling.l0]
    rw [if_pos (by omega), if_pos (by omega), if_pos (by omega), if_pos (by omega), show wrap64 (101 - rd l (i : Int)) = 101 - rd l (i : Int) by unfold wrap64; omega, w1 i (by omega)]
theorem falling_ev (l : List Int) (hl : l.length ≤ 40) (hg : ∀ x ∈ l, 1 ≤ x ∧ x ≤ 100) : Ev (fun k => spec_heFalling.f k l) (falL l) :=
  fal_loop l hl hg l.length 0 [] (by omega) (by simp)
/-- The greatest number of soldiers who are a mountain whose top stands at one of the places from i on. -/
def mtn (l : List Int) : Nat → Nat → Int → Int
  | _, 0, m => m
  | i, d + 1, m => mtn l (i + 1) d (if m > hdF ((l.take (i + 1)).reverse) + hdF (l.drop i) - 1 then m else hdF ((l.take (i + 1)).reverse) + hdF (l.drop i) - 1)
theorem up_rd (l : List Int) (i : Nat) (hi : i < l.length) : rd ((falL l.reverse).reverse) (i : Int) = hdF ((l.take (i + 1)).reverse) := by
  have hlen : (falL l.reverse).length = l.length := by rw [falL_len, List.length_reverse]
  rw [rd_nat _ i (by rw [List.length_reverse, hlen]; exact hi), List.getElem_reverse]
  have e := falL_rd l.reverse ((falL l.reverse).length - 1 - i) (by rw [hlen, List.length_reverse]; omega)
  rw [rd_nat _ _ (by omega)] at e
  rw [e, List.drop_reverse]
  congr 3
  omega
theorem mtn_bd (l : List Int) (i : Nat) (hi : i < l.length) : 1 ≤ hdF ((l.take (i + 1)).reverse) ∧ hdF ((l.take (i + 1)).reverse) ≤ (i : Int) + 1 ∧ 1 ≤ hdF (l.drop i) ∧ hdF (l.drop i) ≤ (l.length : Int) - (i : Int) := by
  have h1 := hdF_bd ((l.take (i + 1)).reverse) (by simp; omega)
  have h2 := hdF_bd (l.drop i) (by simp; omega)
  simp only [List.length_reverse, List.length_take, List.length_drop] at h1 h2
  omega
theorem mtn_range (l : List Int) : ∀ (d i : Nat) (m : Int), i + d = l.length → 0 ≤ m → m ≤ (l.length : Int) → 0 ≤ mtn l i d m ∧ mtn l i d m ≤ (l.length : Int)
  | 0, i, m, _, h0, h1 => ⟨h0, h1⟩
  | d + 1, i, m, hi, h0, h1 => by
    have hb := mtn_bd l i (by omega)
    simp only [mtn]
    split
    · exact mtn_range l d (i + 1) m (by omega) h0 h1
    · exact mtn_range l d (i + 1) _ (by omega) (by omega) (by omega)
theorem mtn_spec_loop (l : List Int) (hl : l.length ≤ 40) : ∀ (d i : Nat) (m : Int), i + d = l.length → 0 ≤ m → m ≤ (l.length : Int) →
    Ev (fun k => spec_heMountain.l0 k (falL l) ((falL l.reverse).reverse) m (l.length : Int) (i : Int)) (mtn l i d m) := by
  intro d
  induction d with
  | zero =>
    intro i m hi _ _
    refine Ev.step (f := fun _ => some m) (fun k => ?_) (Ev.now _)
    simp only [spec_heMountain.l0]
    rw [if_neg (by omega)]
  | succ d ih =>
    intro i m hi h0 h1
    have hlt : i < l.length := by omega
    have hb := mtn_bd l i hlt
    have hl1 : (falL l).length = l.length := falL_len l
    have hl2 : ((falL l.reverse).reverse).length = l.length := by rw [List.length_reverse, falL_len, List.length_reverse]
    simp only [mtn]
    have hstep : ∀ k, spec_heMountain.l0 (k + 1) (falL l) ((falL l.reverse).reverse) m (l.length : Int) (i : Int) = spec_heMountain.l0 k (falL l) ((falL l.reverse).reverse) (if m > hdF ((l.take (i + 1)).reverse) + hdF (l.drop i) - 1 then m else hdF ((l.take (i + 1)).reverse) + hdF (l.drop i) - 1) (l.length : Int) ((i + 1 : Nat) : Int) := by
      intro k
      simp only [spec_heMountain.l0, spec_l1Most.f]
      rw [if_pos (by omega), if_pos (by omega), hl1, hl2, if_pos (by omega), if_pos (by omega), up_rd l i hlt, falL_rd l i hlt,
        show wrap64 (hdF ((l.take (i + 1)).reverse) + hdF (l.drop i)) = hdF ((l.take (i + 1)).reverse) + hdF (l.drop i) by unfold wrap64; omega,
        show wrap64 (hdF ((l.take (i + 1)).reverse) + hdF (l.drop i) - 1) = hdF ((l.take (i + 1)).reverse) + hdF (l.drop i) - 1 by unfold wrap64; omega, w1 i (by omega)]
      split <;> rfl
    refine Ev.step hstep ?_
    split
    · exact ih (i + 1) m (by omega) h0 h1
    · exact ih (i + 1) _ (by omega) (by omega) (by omega)
theorem mountain_spec_ev (l : List Int) (h : good l = true) : Ev (fun k => spec_heMountain.f k l) (mtn l 0 l.length 0) := by
  have hl := (good_len h).2
  have hm := good_mem h
  have hmr : ∀ x ∈ l.reverse, 1 ≤ x ∧ x ≤ 100 := fun x hx => hm x (by simpa using hx)
  refine Ev.bind (falling_ev l hl hm) ?_
  refine Ev.bind (back_ev l (by omega)) ?_
  refine Ev.bind (falling_ev l.reverse (by simpa using hl) hmr) ?_
  refine Ev.bind (back_ev (falL l.reverse) (by rw [falL_len, List.length_reverse]; omega)) ?_
  exact mtn_spec_loop l hl l.length 0 0 (by omega) (by omega) (by omega)
theorem zip_rev : ∀ (a b : List Int), a.length = b.length → (a.zip b).reverse = a.reverse.zip b.reverse
  | [], [], _ => rfl
  | [], _ :: _, h => by simp at h
  | _ :: _, [], h => by simp at h
  | x :: a, y :: b, h => by
    have h' : a.length = b.length := by simpa using h
    simp only [List.zip_cons_cons, List.reverse_cons, zip_rev a b h']
    rw [List.zip_append (by simpa using h')]
    rfl
theorem last_in (l : List Int) (hl : l.length ≤ 40) (i : Nat) (hi : i < l.length) (many : List Int) (hm : many.length = i) (hmb : ∀ c ∈ many, 1 ≤ c ∧ c ≤ 40) (h : Int) (R : Int) : ∀ (d j : Nat) (b : Int), j + d = i → 0 ≤ b → b ≤ 40 →
    Ev (fun k => impl_lastRising.l0 k l (many ++ [max b (bst (fun o => decide (o < h)) (((l.take i).drop j).zip (many.drop j))) + 1]) l (l.length : Int) ((i + 1 : Nat) : Int)) R →
    Ev (fun k => impl_lastRising.l1 k l many h (b + 1) l (l.length : Int) (i : Int) (i : Int) (j : Int)) R := by
  intro d
  induction d with
  | zero =>
    intro j b hj hb0 hb hev
    rw [List.drop_eq_nil_of_le (by simp; omega)] at hev
    simp only [List.zip_nil_left, bst] at hev
    rw [show max b 0 = b by omega] at hev
    refine Ev.step (fun k => ?_) hev
    simp only [impl_lastRising.l1]
    rw [if_neg (by omega), if_pos (by omega), w1 i (by omega)]
  | succ d ih =>
    intro j b hj hb0 hb hev
    have h1 : j < many.length := by omega
    have h2 : j < (l.take i).length := by simp; omega
    have e1 : rd (l.take i) (j : Int) = rd l (j : Int) := by rw [rd_nat _ j h2, rd_nat l j (by omega)]; simp
    have hmj := hmb (rd many (j : Int)) (by rw [rd_nat many j h1]; exact List.getElem_mem _)
    rw [drop_cons many j h1, drop_cons (l.take i) j h2, e1] at hev
    simp only [List.zip_cons_cons, bst] at hev
    by_cases c : rd l (j : Int) < h
    · rw [if_pos (decide_eq_true c)] at hev
      have hr := ih (j + 1) (max b (rd many (j : Int))) (by omega) (by omega) (by omega) (by rw [show ∀ a b c : Int, max (max a b) c = max a (max b c) by intros; omega]; exact hev)
      refine Ev.step (fun k => ?_) hr
      simp only [impl_lastRising.l1]
      rw [if_pos (by omega), if_pos (by omega), if_pos (by omega), if_pos c, if_pos (by omega), show wrap64 (1 + rd many (j : Int)) = 1 + rd many (j : Int) by unfold wrap64; omega, w1 j (by omega)]
      congr 1
      unfold mx; split <;> omega
    · rw [if_neg (show ¬ (decide _ = true) by rw [decide_eq_true_eq]; exact c)] at hev
      refine Ev.step (fun k => ?_) (ih (j + 1) b (by omega) hb0 hb hev)
      simp only [impl_lastRising.l1]
      rw [if_pos (by omega), if_pos (by omega), if_pos (by omega), if_neg c, w1 j (by omega)]
theorem last_out (l : List Int) (hl : l.length ≤ 40) (hpos : 0 < l.length) : ∀ (d i : Nat), i + d = l.length →
    Ev (fun k => impl_lastRising.l0 k l ((falL (l.take i).reverse).reverse) l (l.length : Int) (i : Int)) (hdF l.reverse) := by
  intro d
  induction d with
  | zero =>
    intro i hi
    rw [List.take_of_length_le (by omega)]
    refine Ev.step (f := fun _ => some (hdF l.reverse)) (fun k => ?_) (Ev.now _)
    have hlen : ((falL l.reverse).reverse).length = l.length := by rw [List.length_reverse, falL_len, List.length_reverse]
    simp only [impl_lastRising.l0]
    rw [if_neg (by omega), hlen, wm1 l.length (by omega), if_pos (by omega), if_pos (by omega)]
    rw [show ((l.length : Int) - 1) = ((l.length - 1 : Nat) : Int) by omega, rd_nat _ _ (by omega), List.getElem_reverse]
    unfold hdF
    rw [show (0 : Int) = ((0 : Nat) : Int) from rfl, rd_nat _ 0 (by rw [falL_len, List.length_reverse]; omega)]
    congr 2
    rw [falL_len, List.length_reverse]; omega
  | succ d ih =>
    intro i hi
    have hlt : i < l.length := by omega
    have hr := ih (i + 1) (by omega)
    have hlm : ((falL (l.take i).reverse).reverse).length = i := by rw [List.length_reverse, falL_len, List.length_reverse, List.length_take]; omega
    have e : (falL (l.take (i + 1)).reverse).reverse = (falL (l.take i).reverse).reverse ++ [max 0 (bst (fun o => decide (o < rd l (i : Int))) (((l.take i).drop 0).zip (((falL (l.take i).reverse).reverse).drop 0))) + 1] := by
      have h0 := bst_nonneg (fun o => decide (o < rd l (i : Int))) (((l.take i).drop 0).zip (((falL (l.take i).reverse).reverse).drop 0))
      rw [show ∀ z : Int, 0 ≤ z → max 0 z = z from fun z hz => by omega]
      · rw [List.take_succ_eq_append_getElem hlt, List.reverse_append, ← rd_nat l i hlt]
        simp only [List.reverse_cons, List.reverse_nil, List.nil_append, List.cons_append, falL, List.drop_zero]
        congr 3
        rw [← bst_reverse, zip_rev _ _ (by simp [falL_len])]
        rw [List.reverse_reverse]
      · exact h0
    rw [e] at hr
    have h2 := last_in l hl i hlt _ hlm (fun c hc => by
      have := falL_mem (l.take i).reverse c (by simpa using hc)
      rw [List.length_reverse, List.length_take] at this
      omega) (rd l (i : Int)) _ i 0 0 (by omega) (by omega) (by omega) hr
    refine Ev.step (fun k => ?_) h2
    simp only [impl_lastRising.l0]
    rw [if_pos (by omega), if_pos (by omega), if_pos (by omega)]
    rfl
theorem last_ev (l : List Int) (hl : l.length ≤ 40) (hpos : 0 < l.length) : Ev (fun k => impl_lastRising.f k l) (hdF l.reverse) := by
  have := last_out l hl hpos l.length 0 (by omega)
  simpa [impl_lastRising.f, falL] using this
theorem mtn_impl_loop (l : List Int) (hl : l.length ≤ 40) : ∀ (d i : Nat) (m : Int), i + d = l.length → 0 ≤ m → m ≤ (l.length : Int) →
    Ev (fun k => impl_mountain.l0 k l m (l.length : Int) (i : Int)) (mtn l i d m) := by
  intro d
  induction d with
  | zero =>
    intro i m hi _ _
    refine Ev.step (f := fun _ => some m) (fun k => ?_) (Ev.now _)
    simp only [impl_mountain.l0]
    rw [if_neg (by omega)]
  | succ d ih =>
    intro i m hi h0 h1
    have hlt : i < l.length := by omega
    have hb := mtn_bd l i hlt
    simp only [mtn]
    have ha := last_ev (l.take (i + 1)) (by rw [List.length_take]; omega) (by rw [List.length_take]; omega)
    have hm := mirrored_ev (l.drop i) (by rw [List.length_drop]; omega)
    have hc := last_ev (l.drop i).reverse (by rw [List.length_reverse, List.length_drop]; omega) (by rw [List.length_reverse, List.length_drop]; omega)
    rw [List.reverse_reverse] at hc
    have hfin : Ev (fun k => impl_mountain.l0 k l (mx m (wrap64 (wrap64 (hdF ((l.take (i + 1)).reverse) + hdF (l.drop i)) - 1))) (l.length : Int) (wrap64 ((i : Int) + 1))) (mtn l (i + 1) d (if m > hdF ((l.take (i + 1)).reverse) + hdF (l.drop i) - 1 then m else hdF ((l.take (i + 1)).reverse) + hdF (l.drop i) - 1)) := by
      rw [show wrap64 (hdF ((l.take (i + 1)).reverse) + hdF (l.drop i)) = hdF ((l.take (i + 1)).reverse) + hdF (l.drop i) by unfold wrap64; omega,
        show wrap64 (hdF ((l.take (i + 1)).reverse) + hdF (l.drop i) - 1) = hdF ((l.take (i + 1)).reverse) + hdF (l.drop i) - 1 by unfold wrap64; omega, w1 i (by omega), mx_if]
      split
      · exact ih (i + 1) m (by omega) h0 h1
      · exact ih (i + 1) _ (by omega) (by omega) (by omega)
    refine Ev.step (f := fun k => (impl_lastRising.f k (l.take (i + 1))).bind fun t167 => (impl_mirrored.f k (l.drop i)).bind fun t169 => (impl_lastRising.f k t169).bind fun t172 => impl_mountain.l0 k l (mx m (wrap64 (wrap64 (t167 + t172) - 1))) (l.length : Int) (wrap64 ((i : Int) + 1))) (fun k => ?_) (Ev.bind ha (Ev.bind hm (Ev.bind hc hfin)))
    simp only [impl_mountain.l0]
    rw [if_pos (by omega), w1 i (by omega), if_pos (by omega), if_pos (by omega)]
    simp only [show (0 : Int) ≤ (i : Int) by omega, show (i : Int) ≤ (l.length : Int) by omega, if_true]
    rfl
theorem mountain_impl_ev (l : List Int) (hl : l.length ≤ 40) : Ev (fun k => impl_mountain.f k l) (mtn l 0 l.length 0) :=
  mtn_impl_loop l hl l.length 0 0 (by omega) (by omega) (by omega)
theorem both (l : List Int) (hl : l.length ≤ 1048576) : ∃ (v : Int) (b : Bool), Ev (fun k => spec_LongestMountain.f k l) (v, b) ∧ Ev (fun k => impl_LongestMountain.f k l) (v, b) := by
  by_cases h : good l = true
  · refine ⟨mtn l 0 l.length 0, true, ?_, ?_⟩
    · refine Ev.bind (good_ev l hl) ?_
      simp only [h, if_true]
      exact Ev.bind (mountain_spec_ev l h) (Ev.now _)
    · simp only [impl_LongestMountain.f, impl_good, Option.bind_some, h, if_true]
      exact Ev.bind (mountain_impl_ev l (good_len h).2) (Ev.now _)
  · refine ⟨0, false, ?_, ?_⟩
    · refine Ev.bind (good_ev l hl) ?_
      simp only [h, if_false]
      exact Ev.now _
    · simp only [impl_LongestMountain.f, impl_good, Option.bind_some, h, if_false]
      exact Ev.now _
/-! the law's own steps, for functions of heights that tell a number -/
theorem law_tail (l : List Int) (v : Int) (b : Bool) (hl : l.length ≤ 1048576) (hs : Ev (fun k => spec_LongestMountain.f k l) (v, b)) (hi : Ev (fun k => impl_LongestMountain.f k l) (v, b)) :
    Ev (fun k => laws_FnExactLongestMountain.f k l) true := by
  refine Ev.congr (fun k => by unfold laws_FnExactLongestMountain.f; rw [if_neg (by omega)]) ?_
  refine Ev.bind (toIntS_ev l hl) ?_
  refine Ev.bind hs ?_
  refine Ev.bind (toIntS_ev l hl) ?_
  refine Ev.bind hi ?_
  simp only [bne_self_eq_false, if_true]
  refine Ev.step (fun k => by rw [laws_FnExactLongestMountain.j0]) ?_
  simp only [Bool.false_eq_true, if_false]
  refine Ev.bind (toIntS_ev l hl) ?_
  refine Ev.bind (eqIntS_ev l hl) ?_
  simp only [if_true]
  exact Ev.now _
theorem FnExactLongestMountain : laws_FnExactLongestMountain.Pure := by
  intro l _ _ _
  by_cases hl : l.length ≤ 1048576
  · obtain ⟨v, b, hs, hi⟩ := both l hl
    exact (law_tail l v b hl hs hi).rounds
  · exact ⟨0, by unfold laws_FnExactLongestMountain.f; rw [if_pos (by omega)]⟩

end Go.Proofs.Ythljbhianagobac.Pure
