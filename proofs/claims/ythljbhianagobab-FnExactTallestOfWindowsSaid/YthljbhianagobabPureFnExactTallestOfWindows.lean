/- The program and the reference tell the same tallest ones of windows, leave the list as it was, and hand out new memory, for every list and width that can be read. -/
import Derived.Test.YthljbhianagobabPFnExactTallestOfWindowsx3
namespace Go.Proofs.Ythljbhianagobab.Pure
open Go.RowKit Go.Proofs.Ythljbhianagobab.PFnExactTallestOfWindows Go.Proofs.YthljbhianagobabW.PrintWords Go.Proofs.YthljbhianagobabW.PrintLast Go.Proofs.YthljbhianagobabW.PrintMore
set_option linter.unusedVariables false
set_option linter.unusedSimpArgs false

/-! plain words -/
theorem w1 (i : Nat) (h : i ≤ 4611686018427387904) : wrap64 ((i : Int) + 1) = ((i + 1 : Nat) : Int) := by unfold wrap64; omega
theorem rd_nat (l : List Int) (i : Nat) (h : i < l.length) : rd l (i : Int) = l[i] := by
  simp [rd, List.getD_eq_getElem?_getD, List.getElem?_eq_getElem h]
theorem drop_cons (l : List Int) (i : Nat) (h : i < l.length) : l.drop i = rd l (i : Int) :: l.drop (i + 1) := by
  rw [List.drop_eq_getElem_cons h, rd_nat l i h]
/-! who are heights -/
def good (l : List Int) : Bool := decide (1 ≤ l.length) && decide (l.length ≤ 40) && l.all (fun h => decide (1 ≤ h) && decide (h ≤ 100))
theorem impl_good (l : List Int) : impl_areHeights.f l = some (good l) := rfl
theorem good_len {l : List Int} (h : good l = true) : 1 ≤ l.length ∧ l.length ≤ 40 := by
  unfold good at h
  simp only [Bool.and_eq_true, decide_eq_true_eq] at h
  exact h.1
theorem good_mem {l : List Int} (h : good l = true) : ∀ x ∈ l, 1 ≤ x ∧ x ≤ 100 := by
  unfold good at h
  simp only [Bool.and_eq_true, decide_eq_true_eq, List.all_eq_true] at h
  exact h.2
theorem good_rd {l : List Int} (h : good l = true) (i : Nat) (hi : i < l.length) : 1 ≤ rd l (i : Int) ∧ rd l (i : Int) ≤ 100 := by
  rw [rd_nat l i hi]
  exact good_mem h _ (List.getElem_mem hi)
theorem all_ev (l : List Int) (hl : l.length ≤ 1048576) : ∀ (d i : Nat), i + d = l.length →
    Ev (fun k => spec_l1All.l0 k 1 100 l (l.length : Int) (i : Int)) ((l.drop i).all (fun h => decide (1 ≤ h) && decide (h ≤ 100))) := by
  intro d
  induction d with
  | zero =>
    intro i hi
    refine Ev.step (f := fun _ => some ((l.drop i).all (fun h => decide (1 ≤ h) && decide (h ≤ 100)))) (fun k => ?_) (Ev.now _)
    simp only [spec_l1All.l0]
    rw [if_neg (by omega), List.drop_eq_nil_of_le (by omega)]
    rfl
  | succ d ih =>
    intro i hi
    have hlt : i < l.length := by omega
    rw [drop_cons l i hlt]
    simp only [List.all_cons]
    by_cases h1 : 1 ≤ rd l (i : Int)
    · by_cases h2 : rd l (i : Int) ≤ 100
      · have hr := ih (i + 1) (by omega)
        rw [decide_eq_true h1, decide_eq_true h2]
        refine Ev.step (f := fun k => spec_l1All.l0 k 1 100 l (l.length : Int) ((i + 1 : Nat) : Int)) (fun k => ?_) hr
        simp only [spec_l1All.l0, spec_l1In.f]
        rw [if_pos (by omega), if_pos (by omega), if_pos (by omega), if_pos (by omega), w1 i (by omega)]
        simp [h2]
      · refine Ev.step (f := fun _ => some false) (fun k => ?_) ?_
        · simp only [spec_l1All.l0, spec_l1In.f]
          rw [if_pos (by omega), if_pos (by omega), if_pos (by omega), if_pos (by omega)]
          simp [h2]
        · rw [decide_eq_false h2, Bool.and_false, Bool.false_and]; exact Ev.now _
    · refine Ev.step (f := fun _ => some false) (fun k => ?_) ?_
      · simp only [spec_l1All.l0, spec_l1In.f]
        rw [if_pos (by omega), if_pos (by omega), if_pos (by omega), if_neg (by omega)]
        simp
      · rw [decide_eq_false h1, Bool.false_and, Bool.false_and]; exact Ev.now _
theorem good_ev (l : List Int) (hl : l.length ≤ 1048576) : Ev (fun k => spec_heGood.f k l) (good l) := by
  unfold good
  by_cases h1 : 1 ≤ l.length
  · by_cases h2 : l.length ≤ 40
    · refine Ev.congr (f := fun k => (spec_l1All.f k l 1 100).bind fun t => some t) (fun k => ?_) ?_
      · simp only [spec_heGood.f, spec_l1In.f]
        rw [if_pos (by omega)]
        simp only [Option.bind_some]
        rw [if_pos (by simp; omega)]
      · refine Ev.bind (a := l.all (fun h => decide (1 ≤ h) && decide (h ≤ 100))) ?_ ?_
        · exact all_ev l hl l.length 0 (by omega)
        · rw [decide_eq_true h1, decide_eq_true h2]; exact Ev.now _
    · refine Ev.congr (f := fun _ => some false) (fun k => ?_) ?_
      · simp only [spec_heGood.f, spec_l1In.f]
        rw [if_pos (by omega)]
        simp only [Option.bind_some]
        rw [if_neg (by simp; omega)]
      · rw [decide_eq_false h2, Bool.and_false, Bool.false_and]; exact Ev.now _
  · refine Ev.congr (f := fun _ => some false) (fun k => ?_) ?_
    · simp only [spec_heGood.f, spec_l1In.f]
      rw [if_neg (by omega)]
      rfl
    · rw [decide_eq_false h1, Bool.false_and, Bool.false_and]; exact Ev.now _
theorem toIntS_loop (l : List Int) (hl : l.length ≤ 1048576) : ∀ (d i : Nat) (acc : List Int), i + d = l.length → acc.length = l.length →
    Ev (fun k => laws_toIntS.l0 k l acc (i : Int)) (acc.take i ++ l.drop i) := by
  intro d
  induction d with
  | zero =>
    intro i acc hi ha
    refine Ev.step (f := fun _ => some acc) (fun k => ?_) ?_
    · simp only [laws_toIntS.l0]
      rw [if_neg (by omega)]
    · rw [List.take_of_length_le (by omega), List.drop_eq_nil_of_le (by omega), List.append_nil]
      exact Ev.now _
  | succ d ih =>
    intro i acc hi ha
    have hlt : i < l.length := by omega
    have hr := ih (i + 1) (acc.set i (rd l (i : Int))) (by omega) (by simpa using ha)
    have e : (acc.set i (rd l (i : Int))).take (i + 1) ++ l.drop (i + 1) = acc.take i ++ l.drop i := by
      rw [drop_cons l i hlt, List.take_succ_eq_append_getElem (by simp; omega), List.getElem_set_self, List.append_assoc]
      congr 1
      simp [List.take_set_of_le]
    rw [e] at hr
    refine Ev.step (f := fun k => laws_toIntS.l0 k l (acc.set i (rd l (i : Int))) ((i + 1 : Nat) : Int)) (fun k => ?_) hr
    simp only [laws_toIntS.l0]
    rw [if_pos (by omega), if_pos (by omega), if_pos (by omega), w1 i (by omega)]
    rfl
theorem toIntS_ev (l : List Int) (hl : l.length ≤ 1048576) : Ev (fun k => laws_toIntS.f k l) l := by
  refine Ev.congr (f := fun k => laws_toIntS.l0 k l (List.replicate l.length 0) ((0 : Nat) : Int)) (fun k => ?_) ?_
  · simp only [laws_toIntS.f]
    rw [if_pos (by omega), if_pos (by simp; omega)]
    simp
  · have := toIntS_loop l hl l.length 0 (List.replicate l.length 0) (by omega) (by simp)
    simpa using this
theorem eqIntS_loop (l : List Int) (hl : l.length ≤ 1048576) : ∀ (d i : Nat), i + d = l.length → Ev (fun k => laws_eqIntS.l0 k l l (i : Int)) true := by
  intro d
  induction d with
  | zero =>
    intro i hi
    refine Ev.step (f := fun _ => some true) (fun k => ?_) (Ev.now _)
    simp only [laws_eqIntS.l0]
    rw [if_neg (by omega)]
  | succ d ih =>
    intro i hi
    refine Ev.step (f := fun k => laws_eqIntS.l0 k l l ((i + 1 : Nat) : Int)) (fun k => ?_) (ih (i + 1) (by omega))
    simp only [laws_eqIntS.l0]
    rw [if_pos (by omega), if_pos (by omega), if_pos (by omega), if_pos trivial, w1 i (by omega)]
theorem eqIntS_ev (l : List Int) (hl : l.length ≤ 1048576) : Ev (fun k => laws_eqIntS.f k l l) true := by
  refine Ev.congr (f := fun k => laws_eqIntS.l0 k l l ((0 : Nat) : Int)) (fun k => ?_) (eqIntS_loop l hl l.length 0 (by omega))
  simp only [laws_eqIntS.f]
  rw [if_pos trivial]
  rfl
def upto : Nat → Nat → List Int
  | _, 0 => []
  | i, n + 1 => ((i + 1 : Nat) : Int) :: upto (i + 1) n
theorem upto_len : ∀ n i, (upto i n).length = n
  | 0, _ => rfl
  | n + 1, i => by simp [upto, upto_len n (i + 1)]
theorem mark_loop (n : Nat) (hn : n ≤ 1048576) : ∀ (d i : Nat) (x : List Int), x.length = n → i + d = n →
    Ev (fun k => laws_markIntS.l0 k x ((i + 1 : Nat) : Int) (i : Int)) (((n + 1 : Nat) : Int), x.take i ++ upto i d) := by
  intro d
  induction d with
  | zero =>
    intro i x hx hi
    refine Ev.step (f := fun _ => some (((i + 1 : Nat) : Int), x)) (fun k => ?_) ?_
    · simp only [laws_markIntS.l0]
      rw [if_neg (by omega)]
    · rw [List.take_of_length_le (by omega)]
      simp only [upto, List.append_nil]
      rw [show i = n by omega]
      exact Ev.now _
  | succ d ih =>
    intro i x hx hi
    have hr := ih (i + 1) (x.set i ((i + 1 : Nat) : Int)) (by simpa using hx) (by omega)
    have e : (x.set i ((i + 1 : Nat) : Int)).take (i + 1) ++ upto (i + 1) d = x.take i ++ upto i (d + 1) := by
      rw [List.take_succ_eq_append_getElem (by simp; omega), List.getElem_set_self, List.append_assoc]
      simp [List.take_set_of_le, upto]
    rw [e] at hr
    refine Ev.step (f := fun k => laws_markIntS.l0 k (x.set i ((i + 1 : Nat) : Int)) ((i + 1 + 1 : Nat) : Int) ((i + 1 : Nat) : Int)) (fun k => ?_) hr
    simp only [laws_markIntS.l0]
    rw [if_pos (by omega), if_pos (by omega), w1 i (by omega), w1 (i + 1) (by omega)]
    rfl
theorem mark_ev (x : List Int) (hx : x.length ≤ 1048576) : Ev (fun k => laws_markIntS.f k x 1) (((x.length + 1 : Nat) : Int), upto 0 x.length) := by
  have := mark_loop x.length hx x.length 0 x rfl (by omega)
  simpa [laws_markIntS.f] using this
theorem held_loop (n : Nat) (hn : n ≤ 1048576) : ∀ (d i : Nat) (p : List Int), p.length = i → i + d = n →
    Ev (fun k => laws_heldIntS.l0 k (p ++ upto i d) ((i + 1 : Nat) : Int) (i : Int)) (((n + 1 : Nat) : Int)) := by
  intro d
  induction d with
  | zero =>
    intro i p hp hi
    refine Ev.step (f := fun _ => some (((i + 1 : Nat) : Int))) (fun k => ?_) ?_
    · simp only [laws_heldIntS.l0]
      rw [if_neg (by simp [upto]; omega)]
    · rw [show i = n by omega]
      exact Ev.now _
  | succ d ih =>
    intro i p hp hi
    have hr := ih (i + 1) (p ++ [((i + 1 : Nat) : Int)]) (by simp [hp]) (by omega)
    have e : (p ++ [((i + 1 : Nat) : Int)]) ++ upto (i + 1) d = p ++ upto i (d + 1) := by simp [upto]
    rw [e] at hr
    have hlen : (p ++ upto i (d + 1)).length = i + (d + 1) := by simp [upto_len, hp]
    have hrd : rd (p ++ upto i (d + 1)) (i : Int) = ((i + 1 : Nat) : Int) := by
      rw [rd_nat _ i (by omega), List.getElem_append_right (by omega)]
      simp [hp, upto]
    refine Ev.step (f := fun k => laws_heldIntS.l0 k (p ++ upto i (d + 1)) ((i + 1 + 1 : Nat) : Int) ((i + 1 : Nat) : Int)) (fun k => ?_) hr
    simp only [laws_heldIntS.l0]
    rw [hrd, hlen, if_pos (by omega), if_pos (by omega), if_pos rfl, w1 i (by omega), w1 (i + 1) (by omega)]
theorem held_ev (n : Nat) (hn : n ≤ 1048576) : Ev (fun k => laws_heldIntS.f k (upto 0 n) 1) (((n + 1 : Nat) : Int)) := by
  have := held_loop n hn n 0 [] rfl (by omega)
  simpa [laws_heldIntS.f] using this
/-! the tallest of windows -/
def maxL : List Int → Int → Int
  | [], m => m
  | h :: t, m => maxL t (if m > h then m else h)
theorem mx_if (a b : Int) : mx a b = if a > b then a else b := by
  unfold mx; split <;> split <;> omega
theorem max_loop (w : List Int) (hw : w.length ≤ 1048576) : ∀ (d j : Nat) (m : Int), j + d = w.length → Ev (fun k => slices_Max_int_int.l0 k w m (j : Int)) (maxL (w.drop j) m) := by
  intro d
  induction d with
  | zero =>
    intro j m hj
    refine Ev.step (f := fun _ => some m) (fun k => ?_) ?_
    · simp only [slices_Max_int_int.l0]
      rw [if_neg (by omega)]
    · rw [List.drop_eq_nil_of_le (by omega)]
      exact Ev.now _
  | succ d ih =>
    intro j m hj
    have hlt : j < w.length := by omega
    rw [drop_cons w j hlt]
    simp only [maxL]
    refine Ev.step (fun k => ?_) (ih (j + 1) (if m > rd w (j : Int) then m else rd w (j : Int)) (by omega))
    simp only [slices_Max_int_int.l0]
    rw [if_pos (by omega), if_pos (by omega), mx_if, w1 j (by omega)]
theorem max_ev (w : List Int) (hw : w.length ≤ 1048576) (h1 : 1 ≤ w.length) : Ev (fun k => slices_Max_int_int.f k w) (maxL (w.drop 1) (rd w 0)) := by
  refine Ev.congr (fun k => ?_) (max_loop w hw (w.length - 1) 1 (rd w 0) (by omega))
  simp only [slices_Max_int_int.f]
  rw [if_neg (by omega), if_pos (by omega)]
  rfl
def winR (l : List Int) (wd : Nat) : Nat → Nat → List Int
  | _, 0 => []
  | i, d + 1 => maxL ((l.take (i + wd)).drop i) 0 :: winR l wd (i + 1) d
theorem winR_len (l : List Int) (wd : Nat) : ∀ d i, (winR l wd i d).length = d
  | 0, _ => rfl
  | d + 1, i => by simp [winR, winR_len l wd d (i + 1)]
theorem win_in (l : List Int) (wd : Nat) (out : List Int) (ho : out.length ≤ 1048576) (i : Nat) (hi : i ≤ 1048576) (w : List Int) (hw : w.length ≤ 1048576) (R : List Int × Bool) : ∀ (d j : Nat) (m : Int), j + d = w.length →
    Ev (fun k => spec_TallestOfWindows.l0 k l (wd : Int) (out ++ [maxL (w.drop j) m]) ((i + 1 : Nat) : Int)) R →
    Ev (fun k => spec_TallestOfWindows.l1 k l (wd : Int) out (i : Int) m w (w.length : Int) (j : Int)) R := by
  intro d
  induction d with
  | zero =>
    intro j m hj hev
    rw [List.drop_eq_nil_of_le (by omega)] at hev
    simp only [maxL] at hev
    refine Ev.step (fun k => ?_) hev
    simp only [spec_TallestOfWindows.l1]
    rw [if_neg (by omega), if_pos (by omega), w1 i (by omega)]
  | succ d ih =>
    intro j m hj hev
    have hlt : j < w.length := by omega
    rw [drop_cons w j hlt] at hev
    simp only [maxL] at hev
    refine Ev.step (fun k => ?_) (ih (j + 1) (if m > rd w (j : Int) then m else rd w (j : Int)) (by omega) hev)
    simp only [spec_TallestOfWindows.l1, spec_l1Most.f]
    rw [if_pos (by omega), if_pos (by omega), if_pos (by omega), w1 j (by omega)]
    split <;> rfl
theorem win_len (l : List Int) (wd i : Nat) (h : i + wd ≤ l.length) : ((l.take (i + wd)).drop i).length = wd := by
  rw [List.length_drop, List.length_take]; omega
theorem win_first (l : List Int) (hg : good l = true) (wd i : Nat) (h0 : 1 ≤ wd) (h : i + wd ≤ l.length) :
    maxL (((l.take (i + wd)).drop i).drop 1) (rd ((l.take (i + wd)).drop i) 0) = maxL ((l.take (i + wd)).drop i) 0 := by
  have hl := win_len l wd i h
  have hd := drop_cons ((l.take (i + wd)).drop i) 0 (by omega)
  rw [List.drop_zero] at hd
  have hm : rd ((l.take (i + wd)).drop i) ((0 : Nat) : Int) ∈ l := by
    rw [rd_nat _ 0 (by omega)]
    exact List.mem_of_mem_take (List.mem_of_mem_drop (List.getElem_mem _))
  have h1 := (good_mem hg _ hm).1
  conv => rhs; rw [hd]
  simp only [maxL]
  rw [if_neg (by omega)]
  rfl
theorem win_spec (l : List Int) (hl : l.length ≤ 40) (wd : Nat) (h0 : 1 ≤ wd) (h1 : wd ≤ l.length) : ∀ (d i : Nat) (out : List Int), i + d = l.length + 1 - wd → out.length ≤ i →
    Ev (fun k => spec_TallestOfWindows.l0 k l (wd : Int) out (i : Int)) (out ++ winR l wd i d, true) := by
  intro d
  induction d with
  | zero =>
    intro i out hi ho
    refine Ev.step (f := fun _ => some (out, true)) (fun k => ?_) ?_
    · simp only [spec_TallestOfWindows.l0]
      rw [show wrap64 ((i : Int) + (wd : Int)) = (i : Int) + (wd : Int) by unfold wrap64; omega, if_neg (by omega)]
    · simp only [winR, List.append_nil]
      exact Ev.now _
  | succ d ih =>
    intro i out hi ho
    have hr := ih (i + 1) (out ++ [maxL ((l.take (i + wd)).drop i) 0]) (by omega) (by simp; omega)
    rw [List.append_assoc] at hr
    have hwl := win_len l wd i (by omega)
    have h2 := win_in l wd out (by omega) i (by omega) ((l.take (i + wd)).drop i) (by omega) _ wd 0 0 (by omega) (by rw [List.drop_zero]; exact hr)
    refine Ev.step (fun k => ?_) h2
    simp only [spec_TallestOfWindows.l0]
    rw [show wrap64 ((i : Int) + (wd : Int)) = ((i + wd : Nat) : Int) by unfold wrap64; omega, if_pos (by omega), if_pos (by omega), if_pos (by omega)]
    rfl
theorem win_impl (l : List Int) (hg : good l = true) (wd : Nat) (h0 : 1 ≤ wd) (h1 : wd ≤ l.length) : ∀ (d i : Nat) (out : List Int), i + d = l.length + 1 - wd → out.length ≤ i →
    Ev (fun k => impl_TallestOfWindows.l0 k l (wd : Int) out (i : Int)) (out ++ winR l wd i d, true) := by
  have hl := (good_len hg).2
  intro d
  induction d with
  | zero =>
    intro i out hi ho
    refine Ev.step (f := fun _ => some (out, true)) (fun k => ?_) ?_
    · simp only [impl_TallestOfWindows.l0]
      rw [show wrap64 ((i : Int) + (wd : Int)) = (i : Int) + (wd : Int) by unfold wrap64; omega, if_neg (by omega)]
    · simp only [winR, List.append_nil]
      exact Ev.now _
  | succ d ih =>
    intro i out hi ho
    have hr := ih (i + 1) (out ++ [maxL ((l.take (i + wd)).drop i) 0]) (by omega) (by simp; omega)
    rw [List.append_assoc] at hr
    have hwl := win_len l wd i (by omega)
    have hmx := max_ev ((l.take (i + wd)).drop i) (by omega) (by omega)
    rw [win_first l hg wd i h0 (by omega)] at hmx
    refine Ev.step (f := fun k => (slices_Max_int_int.f k ((l.take (i + wd)).drop i)).bind fun t => impl_TallestOfWindows.l0 k l (wd : Int) (out ++ [t]) ((i + 1 : Nat) : Int)) (fun k => ?_) (Ev.bind hmx hr)
    simp only [impl_TallestOfWindows.l0]
    rw [show wrap64 ((i : Int) + (wd : Int)) = ((i + wd : Nat) : Int) by unfold wrap64; omega, if_pos (by omega), if_pos (by omega), if_pos (by omega), w1 i (by omega)]
    simp only [show out.length < 17592186044416 by omega, if_true]
    rfl
theorem both (l : List Int) (hl : l.length ≤ 1048576) (a1 : Int) : ∃ (v : List Int) (b : Bool), v.length ≤ 1048576 ∧ Ev (fun k => spec_TallestOfWindows.f k l a1) (v, b) ∧ Ev (fun k => impl_TallestOfWindows.f k l a1) (v, b) := by
  have s1 : Ev (fun k => spec_TallestOfWindows.j0 k l a1 true) ([], false) := Ev.step (f := fun _ => some (([] : List Int), false)) (fun k => by simp only [spec_TallestOfWindows.j0, if_true]) (Ev.now _)
  have i1 : Ev (fun k => impl_TallestOfWindows.j0 k l a1 true) ([], false) := Ev.step (f := fun _ => some (([] : List Int), false)) (fun k => by simp only [impl_TallestOfWindows.j0, if_true]) (Ev.now _)
  by_cases h : good l = true
  · have hlen := good_len h
    by_cases h1 : 1 ≤ a1
    · by_cases h2 : a1 ≤ (l.length : Int)
      · obtain ⟨wd, rfl⟩ := Int.eq_ofNat_of_zero_le (show 0 ≤ a1 by omega)
        refine ⟨winR l wd 0 (l.length + 1 - wd), true, by rw [winR_len]; omega, ?_, ?_⟩
        · refine Ev.bind (good_ev l hl) ?_
          simp only [h, if_true, spec_l1In.f, ge_iff_le, h1, h2, decide_true, Option.bind_some, Bool.not_true]
          refine Ev.step (fun k => by rw [spec_TallestOfWindows.j0]) ?_
          simp only [Bool.false_eq_true, if_false]
          have := win_spec l hlen.2 wd (by omega) (by omega) (l.length + 1 - wd) 0 [] (by omega) (by simp)
          simpa using this
        · simp only [impl_TallestOfWindows.f, impl_good, Option.bind_some, h, if_true, impl_in.f, h1, h2, decide_true, Bool.not_true]
          refine Ev.step (fun k => by rw [impl_TallestOfWindows.j0]) ?_
          simp only [Bool.false_eq_true, if_false]
          have := win_impl l h wd (by omega) (by omega) (l.length + 1 - wd) 0 [] (by omega) (by simp)
          simpa using this
      · refine ⟨[], false, by simp, ?_, ?_⟩
        · refine Ev.bind (good_ev l hl) ?_
          simp only [h, if_true, spec_l1In.f, ge_iff_le, h1, h2, decide_false, Option.bind_some, Bool.not_false]
          exact s1
        · simp only [impl_TallestOfWindows.f, impl_good, Option.bind_some, h, if_true, impl_in.f, h1, h2, decide_false, Bool.not_false]
          exact i1
    · refine ⟨[], false, by simp, ?_, ?_⟩
      · refine Ev.bind (good_ev l hl) ?_
        simp only [h, if_true, spec_l1In.f, ge_iff_le, h1, if_false, Option.bind_some, Bool.not_false]
        exact s1
      · simp only [impl_TallestOfWindows.f, impl_good, Option.bind_some, h, if_true, impl_in.f, h1, if_false, Bool.not_false]
        exact i1
  · refine ⟨[], false, by simp, ?_, ?_⟩
    · refine Ev.bind (good_ev l hl) ?_
      simp only [h, if_false]
      exact s1
    · simp only [impl_TallestOfWindows.f, impl_good, Option.bind_some, h, if_false]
      exact i1
/-! the law's own steps, for functions of heights that tell a list -/
theorem law_tail (l v : List Int) (a1 : Int) (b : Bool) (hl : l.length ≤ 1048576) (hv : v.length ≤ 1048576) (hs : Ev (fun k => spec_TallestOfWindows.f k l a1) (v, b)) (hi : Ev (fun k => impl_TallestOfWindows.f k l a1) (v, b)) :
    Ev (fun k => laws_FnExactTallestOfWindows.f k l a1) true := by
  refine Ev.congr (fun k => by unfold laws_FnExactTallestOfWindows.f; rw [if_neg (by omega)]) ?_
  refine Ev.bind (toIntS_ev l hl) ?_
  refine Ev.bind hs ?_
  refine Ev.bind (toIntS_ev l hl) ?_
  refine Ev.bind hi ?_
  refine Ev.bind (eqIntS_ev v hv) ?_
  simp only [bne_self_eq_false, if_true]
  refine Ev.step (fun k => by rw [laws_FnExactTallestOfWindows.j0]) ?_
  simp only [Bool.false_eq_true, if_false]
  refine Ev.bind (toIntS_ev l hl) ?_
  refine Ev.bind (eqIntS_ev l hl) ?_
  simp only [if_true]
  refine Ev.bind (mark_ev l hl) ?_
  refine Ev.congr (fun k => by rw [if_neg (by simp; omega)]) ?_
  refine Ev.bind (eqIntS_ev v hv) ?_
  simp only [bne_self_eq_false, if_true]
  refine Ev.step (fun k => by rw [laws_FnExactTallestOfWindows.j1]) ?_
  simp only [Bool.false_eq_true, if_false]
  refine Ev.bind (mark_ev v hv) ?_
  refine Ev.bind (held_ev v.length hv) ?_
  refine Ev.congr (fun k => by rw [if_neg (by simp; omega), if_pos rfl]) ?_
  refine Ev.bind (toIntS_ev l hl) ?_
  refine Ev.bind hi ?_
  refine Ev.bind (eqIntS_ev v hv) ?_
  simp only [bne_self_eq_false, if_true]
  refine Ev.step (fun k => by rw [laws_FnExactTallestOfWindows.j2]) ?_
  simp only [Bool.false_eq_true, if_false]
  refine Ev.bind (held_ev v.length hv) ?_
  refine Ev.congr (fun k => by rw [if_neg (by simp; omega), if_pos rfl]) ?_
  exact Ev.now _
theorem FnExactTallestOfWindows : laws_FnExactTallestOfWindows.Pure := by
  intro l a1 _ _ _ _
  by_cases hl : l.length ≤ 1048576
  · obtain ⟨v, b, hv, hs, hi⟩ := both l hl a1
    exact (law_tail l v a1 b hl hv hs hi).rounds
  · exact ⟨0, by unfold laws_FnExactTallestOfWindows.f; rw [if_pos (by omega)]⟩

end Go.Proofs.Ythljbhianagobab.Pure
