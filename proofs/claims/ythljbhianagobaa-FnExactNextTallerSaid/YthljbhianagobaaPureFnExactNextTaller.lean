/- The program and the reference tell the same next taller soldiers, leave the list as it was, and hand out new memory, for every list that can be read. -/
import Derived.Test.YthljbhianagobaaPFnExactNextTallerx3
namespace Go.Proofs.Ythljbhianagobaa.Pure
open Go.RowKit Go.Proofs.Ythljbhianagobaa.PFnExactNextTaller Go.Proofs.YthljbhianagobaaW.PrintWords Go.Proofs.YthljbhianagobaaW.PrintLast Go.Proofs.YthljbhianagobaaW.PrintMore
set_option linter.unusedVariables false
set_option linter.unusedSimpArgs false

/-! plain words -/
theorem w1 (i : Nat) (h : i ≤ 4611686018427387904) : wrap64 ((i : Int) + 1) = ((i + 1 : Nat) : Int) := by unfold wrap64; omega
theorem rd_nat (l : List Int) (i : Nat) (h : i < l.length) : rd l (i : Int) = l[i] := by
  simp [rd, List.getD_eq_getElem?_getD, List.getElem?_eq_getElem h]
theorem drop_cons (l : List Int) (i : Nat) (h : i < l.length) : l.drop i = rd l (i : Int) :: l.drop (i + 1) := by
  rw [List.drop_eq_getElem_cons h, rd_nat l i h]
/-! who are heights -/
def good (l : List Int) : Bool := decide (1 ≤ l.length) && decide (l.length ≤ 40) && l.all (fun h => decide (1 ≤ h) && decide (h ≤ 100))
theorem impl_good (l : List Int) : impl_areHeights.f l = some (good l) := rfl
theorem good_len {l : List Int} (h : good l = true) : 1 ≤ l.length ∧ l.length ≤ 40 := by
  unfold good at h
  simp only [Bool.and_eq_true, decide_eq_true_eq] at h
  exact h.1
theorem good_mem {l : List Int} (h : good l = true) : ∀ x ∈ l, 1 ≤ x ∧ x ≤ 100 := by
  unfold good at h
  simp only [Bool.and_eq_true, decide_eq_true_eq, List.all_eq_true] at h
  exact h.2
theorem good_rd {l : List Int} (h : good l = true) (i : Nat) (hi : i < l.length) : 1 ≤ rd l (i : Int) ∧ rd l (i : Int) ≤ 100 := by
  rw [rd_nat l i hi]
  exact good_mem h _ (List.getElem_mem hi)
theorem all_ev (l : List Int) (hl : l.length ≤ 1048576) : ∀ (d i : Nat), i + d = l.length →
    Ev (fun k => spec_l1All.l0 k 1 100 l (l.length : Int) (i : Int)) ((l.drop i).all (fun h => decide (1 ≤ h) && decide (h ≤ 100))) := by
  intro d
  induction d with
  | zero =>
    intro i hi
    refine Ev.step (f := fun _ => some ((l.drop i).all (fun h => decide (1 ≤ h) && decide (h ≤ 100)))) (fun k => ?_) (Ev.now _)
    simp only [spec_l1All.l0]
    rw [if_neg (by omega), List.drop_eq_nil_of_le (by omega)]
    rfl
  | succ d ih =>
    intro i hi
    have hlt : i < l.length := by omega
    rw [drop_cons l i hlt]
    simp only [List.all_cons]
    by_cases h1 : 1 ≤ rd l (i : Int)
    · by_cases h2 : rd l (i : Int) ≤ 100
      · have hr := ih (i + 1) (by omega)
        rw [decide_eq_true h1, decide_eq_true h2]
        refine Ev.step (f := fun k => spec_l1All.l0 k 1 100 l (l.length : Int) ((i + 1 : Nat) : Int)) (fun k => ?_) hr
        simp only [spec_l1All.l0, spec_l1In.f]
        rw [if_pos (by omega), if_pos (by omega), if_pos (by omega), if_pos (by omega), w1 i (by omega)]
        simp [h2]
      · refine Ev.step (f := fun _ => some false) (fun k => ?_) ?_
        · simp only [spec_l1All.l0, spec_l1In.f]
          rw [if_pos (by omega), if_pos (by omega), if_pos (by omega), if_pos (by omega)]
          simp [h2]
        · rw [decide_eq_false h2, Bool.and_false, Bool.false_and]; exact Ev.now _
    · refine Ev.step (f := fun _ => some false) (fun k => ?_) ?_
      · simp only [spec_l1All.l0, spec_l1In.f]
        rw [if_pos (by omega), if_pos (by omega), if_pos (by omega), if_neg (by omega)]
        simp
      · rw [decide_eq_false h1, Bool.false_and, Bool.false_and]; exact Ev.now _
theorem good_ev (l : List Int) (hl : l.length ≤ 1048576) : Ev (fun k => spec_heGood.f k l) (good l) := by
  unfold good
  by_cases h1 : 1 ≤ l.length
  · by_cases h2 : l.length ≤ 40
    · refine Ev.congr (f := fun k => (spec_l1All.f k l 1 100).bind fun t => some t) (fun k => ?_) ?_
      · simp only [spec_heGood.f, spec_l1In.f]
        rw [if_pos (by omega)]
        simp only [Option.bind_some]
        rw [if_pos (by simp; omega)]
      · refine Ev.bind (a := l.all (fun h => decide (1 ≤ h) && decide (h ≤ 100))) ?_ ?_
        · exact all_ev l hl l.length 0 (by omega)
        · rw [decide_eq_true h1, decide_eq_true h2]; exact Ev.now _
    · refine Ev.congr (f := fun _ => some false) (fun k => ?_) ?_
      · simp only [spec_heGood.f, spec_l1In.f]
        rw [if_pos (by omega)]
        simp only [Option.bind_some]
        rw [if_neg (by simp; omega)]
      · rw [decide_eq_false h2, Bool.and_false, Bool.false_and]; exact Ev.now _
  · refine Ev.congr (f := fun _ => some false) (fun k => ?_) ?_
    · simp only [spec_heGood.f, spec_l1In.f]
      rw [if_neg (by omega)]
      rfl
    · rw [decide_eq_false h1, Bool.false_and, Bool.false_and]; exact Ev.now _
theorem toIntS_loop (l : List Int) (hl : l.length ≤ 1048576) : ∀ (d i : Nat) (acc : List Int), i + d = l.length → acc.length = l.length →
    Ev (fun k => laws_toIntS.l0 k l acc (i : Int)) (acc.take i ++ l.drop i) := by
  intro d
  induction d with
  | zero =>
    intro i acc hi ha
    refine Ev.step (f := fun _ => some acc) (fun k => ?_) ?_
    · simp only [laws_toIntS.l0]
      rw [if_neg (by omega)]
    · rw [List.take_of_length_le (by omega), List.drop_eq_nil_of_le (by omega), List.append_nil]
      exact Ev.now _
  | succ d ih =>
    intro i acc hi ha
    have hlt : i < l.length := by omega
    have hr := ih (i + 1) (acc.set i (rd l (i : Int))) (by omega) (by simpa using ha)
    have e : (acc.set i (rd l (i : Int))).take (i + 1) ++ l.drop (i + 1) = acc.take i ++ l.drop i := by
      rw [drop_cons l i hlt, List.take_succ_eq_append_getElem (by simp; omega), List.getElem_set_self, List.append_assoc]
      congr 1
      simp [List.take_set_of_le]
    rw [e] at hr
    refine Ev.step (f := fun k => laws_toIntS.l0 k l (acc.set i (rd l (i : Int))) ((i + 1 : Nat) : Int)) (fun k => ?_) hr
    simp only [laws_toIntS.l0]
    rw [if_pos (by omega), if_pos (by omega), if_pos (by omega), w1 i (by omega)]
    rfl
theorem toIntS_ev (l : List Int) (hl : l.length ≤ 1048576) : Ev (fun k => laws_toIntS.f k l) l := by
  refine Ev.congr (f := fun k => laws_toIntS.l0 k l (List.replicate l.length 0) ((0 : Nat) : Int)) (fun k => ?_) ?_
  · simp only [laws_toIntS.f]
    rw [if_pos (by omega), if_pos (by simp; omega)]
    simp
  · have := toIntS_loop l hl l.length 0 (List.replicate l.length 0) (by omega) (by simp)
    simpa using this
theorem eqIntS_loop (l : List Int) (hl : l.length ≤ 1048576) : ∀ (d i : Nat), i + d = l.length → Ev (fun k => laws_eqIntS.l0 k l l (i : Int)) true := by
  intro d
  induction d with
  | zero =>
    intro i hi
    refine Ev.step (f := fun _ => some true) (fun k => ?_) (Ev.now _)
    simp only [laws_eqIntS.l0]
    rw [if_neg (by omega)]
  | succ d ih =>
    intro i hi
    refine Ev.step (f := fun k => laws_eqIntS.l0 k l l ((i + 1 : Nat) : Int)) (fun k => ?_) (ih (i + 1) (by omega))
    simp only [laws_eqIntS.l0]
    rw [if_pos (by omega), if_pos (by omega), if_pos (by omega), if_pos trivial, w1 i (by omega)]
theorem eqIntS_ev (l : List Int) (hl : l.length ≤ 1048576) : Ev (fun k => laws_eqIntS.f k l l) true := by
  refine Ev.congr (f := fun k => laws_eqIntS.l0 k l l ((0 : Nat) : Int)) (fun k => ?_) (eqIntS_loop l hl l.length 0 (by omega))
  simp only [laws_eqIntS.f]
  rw [if_pos trivial]
  rfl
def upto : Nat → Nat → List Int
  | _, 0 => []
  | i, n + 1 => ((i + 1 : Nat) : Int) :: upto (i + 1) n
theorem upto_len : ∀ n i, (upto i n).length = n
  | 0, _ => rfl
  | n + 1, i => by simp [upto, upto_len n (i + 1)]
theorem mark_loop (n : Nat) (hn : n ≤ 1048576) : ∀ (d i : Nat) (x : List Int), x.length = n → i + d = n →
    Ev (fun k => laws_markIntS.l0 k x ((i + 1 : Nat) : Int) (i : Int)) (((n + 1 : Nat) : Int), x.take i ++ upto i d) := by
  intro d
  induction d with
  | zero =>
    intro i x hx hi
    refine Ev.step (f := fun _ => some (((i + 1 : Nat) : Int), x)) (fun k => ?_) ?_
    · simp only [laws_markIntS.l0]
      rw [if_neg (by omega)]
    · rw [List.take_of_length_le (by omega)]
      simp only [upto, List.append_nil]
      rw [show i = n by omega]
      exact Ev.now _
  | succ d ih =>
    intro i x hx hi
    have hr := ih (i + 1) (x.set i ((i + 1 : Nat) : Int)) (by simpa using hx) (by omega)
    have e : (x.set i ((i + 1 : Nat) : Int)).take (i + 1) ++ upto (i + 1) d = x.take i ++ upto i (d + 1) := by
      rw [List.take_succ_eq_append_getElem (by simp; omega), List.getElem_set_self, List.append_assoc]
      simp [List.take_set_of_le, upto]
    rw [e] at hr
    refine Ev.step (f := fun k => laws_markIntS.l0 k (x.set i ((i + 1 : Nat) : Int)) ((i + 1 + 1 : Nat) : Int) ((i + 1 : Nat) : Int)) (fun k => ?_) hr
    simp only [laws_markIntS.l0]
    rw [if_pos (by omega), if_pos (by omega), w1 i (by omega), w1 (i + 1) (by omega)]
    rfl
theorem mark_ev (x : List Int) (hx : x.length ≤ 1048576) : Ev (fun k => laws_markIntS.f k x 1) (((x.length + 1 : Nat) : Int), upto 0 x.length) := by
  have := mark_loop x.length hx x.length 0 x rfl (by omega)
  simpa [laws_markIntS.f] using this
theorem held_loop (n : Nat) (hn : n ≤ 1048576) : ∀ (d i : Nat) (p : List Int), p.length = i → i + d = n →
    Ev (fun k => laws_heldIntS.l0 k (p ++ upto i d) ((i + 1 : Nat) : Int) (i : Int)) (((n + 1 : Nat) : Int)) := by
  intro d
  induction d with
  | zero =>
    intro i p hp hi
    refine Ev.step (f := fun _ => some (((i + 1 : Nat) : Int))) (fun k => ?_) ?_
    · simp only [laws_heldIntS.l0]
      rw [if_neg (by simp [upto]; omega)]
    · rw [show i = n by omega]
      exact Ev.now _
  | succ d ih =>
    intro i p hp hi
    have hr := ih (i + 1) (p ++ [((i + 1 : Nat) : Int)]) (by simp [hp]) (by omega)
    have e : (p ++ [((i + 1 : Nat) : Int)]) ++ upto (i + 1) d = p ++ upto i (d + 1) := by simp [upto]
    rw [e] at hr
    have hlen : (p ++ upto i (d + 1)).length = i + (d + 1) := by simp [upto_len, hp]
    have hrd : rd (p ++ upto i (d + 1)) (i : Int) = ((i + 1 : Nat) : Int) := by
      rw [rd_nat _ i (by omega), List.getElem_append_right (by omega)]
      simp [hp, upto]
    refine Ev.step (f := fun k => laws_heldIntS.l0 k (p ++ upto i (d + 1)) ((i + 1 + 1 : Nat) : Int) ((i + 1 : Nat) : Int)) (fun k => ?_) hr
    simp only [laws_heldIntS.l0]
    rw [hrd, hlen, if_pos (by omega), if_pos (by omega), if_pos rfl, w1 i (by omega), w1 (i + 1) (by omega)]
theorem held_ev (n : Nat) (hn : n ≤ 1048576) : Ev (fun k => laws_heldIntS.f k (upto 0 n) 1) (((n + 1 : Nat) : Int)) := by
  have := held_loop n hn n 0 [] rfl (by omega)
  simpa [laws_heldIntS.f] using this
/-! next taller ones -/
theorem idxF_shift (p : Int → Bool) : ∀ (t : List Int) (a c : Int), 0 ≤ a → idxF p t (a + c) = if 0 ≤ idxF p t a then idxF p t a + c else idxF p t a
  | [], a, c, h => by simp [idxF]
  | x :: xs, a, c, h => by
    by_cases hx : p x = true
    · have e : ∀ b, idxF p (x :: xs) b = b := fun b => by simp [idxF, hx]
      rw [e, e, if_pos h]
    · have e : ∀ b, idxF p (x :: xs) b = idxF p xs (b + 1) := fun b => by simp [idxF, hx]
      rw [e, e, show a + c + 1 = (a + 1) + c by omega]
      exact idxF_shift p xs (a + 1) c (by omega)
theorem idxF_le (p : Int → Bool) : ∀ (t : List Int) (a : Int), 0 ≤ a → idxF p t a ≤ a + (t.length : Int) ∧ -1 ≤ idxF p t a
  | [], a, h => by simp [idxF]; omega
  | x :: xs, a, h => by
    by_cases hx : p x = true
    · have e : idxF p (x :: xs) a = a := by simp [idxF, hx]
      rw [e]; simp; omega
    · have e : idxF p (x :: xs) a = idxF p xs (a + 1) := by simp [idxF, hx]
      have := idxF_le p xs (a + 1) (by omega)
      rw [e]; simp; omega
theorem ntAt_eq (l : List Int) (hl : l.length ≤ 1048576) (i : Nat) (hi : i < l.length) :
    ntAt l i = idxF (fun o => decide (rd l (i : Int) < o)) (l.drop (i + 1)) ((i + 1 : Nat) : Int) := by
  have hs := idxF_shift (fun o => decide (rd l (i : Int) < o)) (l.drop i) 0 (i : Int) (by omega)
  have hb := idxF_le (fun o => decide (rd l (i : Int) < o)) (l.drop i) 0 (by omega)
  rw [List.length_drop] at hb
  have e : idxF (fun o => decide (rd l (i : Int) < o)) (l.drop (i + 1)) ((i + 1 : Nat) : Int) = idxF (fun o => decide (rd l (i : Int) < o)) (l.drop i) (0 + (i : Int)) := by
    rw [drop_cons l i hi]
    simp [idxF]
  rw [e, hs]
  unfold ntAt
  split
  · unfold wrap64; omega
  · rfl
theorem next_found (l out : List Int) (ho : out.length ≤ 1048576) (i : Nat) (hi : i ≤ 1048576) (h : Int) (R : List Int × Bool) (x : Int) (hx : 0 ≤ x) (j : Int)
    (hev : Ev (fun k => spec_NextTaller.l0 k l (out ++ [x]) l (l.length : Int) ((i + 1 : Nat) : Int)) R) :
    Ev (fun k => spec_NextTaller.l1 k l out h x j l (l.length : Int) (i : Int)) R := by
  have h2 : Ev (fun k => spec_NextTaller.j2 k l out h x j l (l.length : Int) (i : Int) false) R := by
    refine Ev.step (fun k => ?_) hev
    simp only [spec_NextTaller.j2]
    rw [if_neg (by simp), if_pos (by omega), w1 i (by omega)]
  refine Ev.step (fun k => ?_) h2
  simp only [spec_NextTaller.l1]
  rw [decide_eq_false (show ¬ x < 0 by omega)]
  split <;> rfl
theorem next_in (l : List Int) (hl : l.length ≤ 1048576) (out : List Int) (ho : out.length ≤ 1048576) (i : Nat) (hi : i ≤ 1048576) (h : Int) (R : List Int × Bool) : ∀ (d j : Nat), j + d = l.length →
    Ev (fun k => spec_NextTaller.l0 k l (out ++ [idxF (fun o => decide (h < o)) (l.drop j) (j : Int)]) l (l.length : Int) ((i + 1 : Nat) : Int)) R →
    Ev (fun k => spec_NextTaller.l1 k l out h (-1) (j : Int) l (l.length : Int) (i : Int)) R := by
  intro d
  induction d with
  | zero =>
    intro j hj hev
    rw [List.drop_eq_nil_of_le (by omega)] at hev
    have h2 : Ev (fun k => spec_NextTaller.j2 k l out h (-1) (j : Int) l (l.length : Int) (i : Int) false) R := by
      refine Ev.step (fun k => ?_) hev
      simp only [spec_NextTaller.j2, idxF]
      rw [if_neg (by simp), if_pos (by omega), w1 i (by omega)]
    refine Ev.step (fun k => ?_) h2
    simp only [spec_NextTaller.l1]
    rw [if_neg (by omega)]
  | succ d ih =>
    intro j hj hev
    have hlt : j < l.length := by omega
    have h3 : Ev (fun k => spec_NextTaller.j2 k l out h (-1) (j : Int) l (l.length : Int) (i : Int) true) R := by
      rw [drop_cons l j hlt] at hev
      by_cases c : rd l (j : Int) > h
      · have e : idxF (fun o => decide (h < o)) (rd l (j : Int) :: l.drop (j + 1)) (j : Int) = (j : Int) := by
          have c' : h < rd l (j : Int) := c
          simp [idxF, c']
        rw [e] at hev
        refine Ev.step (fun k => ?_) (next_found l out ho i hi h R (j : Int) (by omega) ((j + 1 : Nat) : Int) hev)
        simp only [spec_NextTaller.j2, if_true]
        rw [if_pos (by omega), if_pos (by omega), if_pos c, w1 j (by omega)]
      · have e : idxF (fun o => decide (h < o)) (rd l (j : Int) :: l.drop (j + 1)) (j : Int) = idxF (fun o => decide (h < o)) (l.drop (j + 1)) ((j + 1 : Nat) : Int) := by
          have c' : ¬ h < rd l (j : Int) := c
          simp [idxF, c']
        rw [e] at hev
        refine Ev.step (fun k => ?_) (ih (j + 1) (by omega) hev)
        simp only [spec_NextTaller.j2, if_true]
        rw [if_pos (by omega), if_pos (by omega), if_neg c, w1 j (by omega)]
    refine Ev.step (fun k => ?_) h3
    simp only [spec_NextTaller.l1]
    rw [if_pos (by omega)]
    rfl
theorem next_out (l : List Int) (hl : l.length ≤ 1048576) : ∀ (d i : Nat), i + d = l.length →
    Ev (fun k => spec_NextTaller.l0 k l (ntR l i) l (l.length : Int) (i : Int)) (ntR l l.length, true) := by
  intro d
  induction d with
  | zero =>
    intro i hi
    refine Ev.step (f := fun _ => some (ntR l i, true)) (fun k => ?_) ?_
    · simp only [spec_NextTaller.l0]
      rw [if_neg (by omega)]
    · rw [show i = l.length by omega]
      exact Ev.now _
  | succ d ih =>
    intro i hi
    have hlt : i < l.length := by omega
    have hr := ih (i + 1) (by omega)
    rw [ntR_succ, ntAt_eq l hl i hlt] at hr
    refine Ev.step (fun k => ?_) (next_in l hl (ntR l i) (by rw [ntR_len]; omega) i (by omega) (rd l (i : Int)) _ (l.length - (i + 1)) (i + 1) (by omega) hr)
    simp only [spec_NextTaller.l0]
    rw [if_pos (by omega), if_pos (by omega), if_pos (by omega), w1 i (by omega)]
theorem next_ev (l : List Int) (hl : l.length ≤ 1048576) (h : good l = true) : Ev (fun k => spec_NextTaller.f k l) (ntR l l.length, true) := by
  refine Ev.bind (good_ev l hl) ?_
  simp only [h, if_true]
  exact next_out l hl l.length 0 (by omega)
theorem next_impl (l : List Int) (h : good l = true) : impl_NextTaller.f l = some (ntR l l.length, true) := by
  unfold impl_NextTaller.f
  rw [if_pos (by rw [impl_good, h])]
theorem next_impl_no (l : List Int) (h : ¬ good l = true) : impl_NextTaller.f l = some ([], false) := by
  unfold impl_NextTaller.f
  rw [if_neg (by rw [impl_good]; simpa using h)]
theorem both (l : List Int) (hl : l.length ≤ 1048576) : ∃ (v : List Int) (b : Bool), v.length ≤ 1048576 ∧ Ev (fun k => spec_NextTaller.f k l) (v, b) ∧ Ev (fun k => impl_NextTaller.f l) (v, b) := by
  by_cases h : good l = true
  · refine ⟨ntR l l.length, true, by rw [ntR_len]; exact hl, next_ev l hl h, ?_⟩
    rw [next_impl l h]; exact Ev.now _
  · refine ⟨[], false, by simp, ?_, ?_⟩
    · refine Ev.bind (good_ev l hl) ?_
      simp only [h, if_false]
      exact Ev.now _
    · rw [next_impl_no l h]; exact Ev.now _
/-! the law's own steps, for functions of heights that tell a list -/
theorem law_tail (l v : List Int) (b : Bool) (hl : l.length ≤ 1048576) (hv : v.length ≤ 1048576) (hs : Ev (fun k => spec_NextTaller.f k l) (v, b)) (hi : Ev (fun k => impl_NextTaller.f l) (v, b)) :
    Ev (fun k => laws_FnExactNextTaller.f k l) true := by
  refine Ev.congr (fun k => by unfold laws_FnExactNextTaller.f; rw [if_neg (by omega)]) ?_
  refine Ev.bind (toIntS_ev l hl) ?_
  refine Ev.bind hs ?_
  refine Ev.bind (toIntS_ev l hl) ?_
  refine Ev.bind hi ?_
  refine Ev.bind (eqIntS_ev v hv) ?_
  simp only [bne_self_eq_false, if_true]
  refine Ev.step (fun k => by rw [laws_FnExactNextTaller.j0]) ?_
  simp only [Bool.false_eq_true, if_false]
  refine Ev.bind (toIntS_ev l hl) ?_
  refine Ev.bind (eqIntS_ev l hl) ?_
  simp only [if_true]
  refine Ev.bind (mark_ev l hl) ?_
  refine Ev.congr (fun k => by rw [if_neg (by simp; omega)]) ?_
  refine Ev.bind (eqIntS_ev v hv) ?_
  simp only [bne_self_eq_false, if_true]
  refine Ev.step (fun k => by rw [laws_FnExactNextTaller.j1]) ?_
  simp only [Bool.false_eq_true, if_false]
  refine Ev.bind (mark_ev v hv) ?_
  refine Ev.bind (held_ev v.length hv) ?_
  refine Ev.congr (fun k => by rw [if_neg (by simp; omega), if_pos rfl]) ?_
  refine Ev.bind (toIntS_ev l hl) ?_
  refine Ev.bind hi ?_
  refine Ev.bind (eqIntS_ev v hv) ?_
  simp only [bne_self_eq_false, if_true]
  refine Ev.step (fun k => by rw [laws_FnExactNextTaller.j2]) ?_
  simp only [Bool.false_eq_true, if_false]
  refine Ev.bind (held_ev v.length hv) ?_
  refine Ev.congr (fun k => by rw [if_neg (by simp; omega), if_pos rfl]) ?_
  exact Ev.now _
theorem FnExactNextTaller : laws_FnExactNextTaller.Pure := by
  intro l _ _ _
  by_cases hl : l.length ≤ 1048576
  · obtain ⟨v, b, hv, hs, hi⟩ := both l hl
    exact (law_tail l v b hl hv hs hi).rounds
  · exact ⟨0, by unfold laws_FnExactNextTaller.f; rw [if_pos (by omega)]⟩

end Go.Proofs.Ythljbhianagobaa.Pure
