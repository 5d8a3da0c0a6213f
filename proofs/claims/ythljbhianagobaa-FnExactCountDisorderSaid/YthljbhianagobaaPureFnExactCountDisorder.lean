/- The program and the reference tell the same disorder and leave the list as it was, for every list that can be read. -/
import Derived.Test.YthljbhianagobaaPFnExactCountDisorderx2
namespace Go.Proofs.Ythljbhianagobaa.Pure
open Go.RowKit Go.Proofs.Ythljbhianagobaa.PFnExactCountDisorder Go.Proofs.YthljbhianagobaaW.PrintWords Go.Proofs.YthljbhianagobaaW.PrintLast Go.Proofs.YthljbhianagobaaW.PrintMore
set_option linter.unusedVariables false
set_option linter.unusedSimpArgs false

/-! plain words -/
theorem w1 (i : Nat) (h : i ≤ 4611686018427387904) : wrap64 ((i : Int) + 1) = ((i + 1 : Nat) : Int) := by unfold wrap64; omega
theorem rd_nat (l : List Int) (i : Nat) (h : i < l.length) : rd l (i : Int) = l[i] := by
  simp [rd, List.getD_eq_getElem?_getD, List.getElem?_eq_getElem h]
theorem drop_cons (l : List Int) (i : Nat) (h : i < l.length) : l.drop i = rd l (i : Int) :: l.drop (i + 1) := by
  rw [List.drop_eq_getElem_cons h, rd_nat l i h]
/-! who are heights -/
def good (l : List Int) : Bool := decide (1 ≤ l.length) && decide (l.length ≤ 40) && l.all (fun h => decide (1 ≤ h) && decide (h ≤ 100))
theorem impl_good (l : List Int) : impl_areHeights.f l = some (good l) := rfl
theorem good_len {l : List Int} (h : good l = true) : 1 ≤ l.length ∧ l.length ≤ 40 := by
  unfold good at h
  simp only [Bool.and_eq_true, decide_eq_true_eq] at h
  exact h.1
theorem good_mem {l : List Int} (h : good l = true) : ∀ x ∈ l, 1 ≤ x ∧ x ≤ 100 := by
  unfold good at h
  simp only [Bool.and_eq_true, decide_eq_true_eq, List.all_eq_true] at h
  exact h.2
theorem good_rd {l : List Int} (h : good l = true) (i : Nat) (hi : i < l.length) : 1 ≤ rd l (i : Int) ∧ rd l (i : Int) ≤ 100 := by
  rw [rd_nat l i hi]
  exact good_mem h _ (List.getElem_mem hi)
theorem all_ev (l : List Int) (hl : l.length ≤ 1048576) : ∀ (d i : Nat), i + d = l.length →
    Ev (fun k => spec_l1All.l0 k 1 100 l (l.length : Int) (i : Int)) ((l.drop i).all (fun h => decide (1 ≤ h) && decide (h ≤ 100))) := by
  intro d
  induction d with
  | zero =>
    intro i hi
    refine Ev.step (f := fun _ => some ((l.drop i).all (fun h => decide (1 ≤ h) && decide (h ≤ 100)))) (fun k => ?_) (Ev.now _)
    simp only [spec_l1All.l0]
    rw [if_neg (by omega), List.drop_eq_nil_of_le (by omega)]
    rfl
  | succ d ih =>
    intro i hi
    have hlt : i < l.length := by omega
    rw [drop_cons l i hlt]
    simp only [List.all_cons]
    by_cases h1 : 1 ≤ rd l (i : Int)
    · by_cases h2 : rd l (i : Int) ≤ 100
      · have hr := ih (i + 1) (by omega)
        rw [decide_eq_true h1, decide_eq_true h2]
        refine Ev.step (f := fun k => spec_l1All.l0 k 1 100 l (l.length : Int) ((i + 1 : Nat) : Int)) (fun k => ?_) hr
        simp only [spec_l1All.l0, spec_l1In.f]
        rw [if_pos (by omega), if_pos (by omega), if_pos (by omega), if_pos (by omega), w1 i (by omega)]
        simp [h2]
      · refine Ev.step (f := fun _ => some false) (fun k => ?_) ?_
        · simp only [spec_l1All.l0, spec_l1In.f]
          rw [if_pos (by omega), if_pos (by omega), if_pos (by omega), if_pos (by omega)]
          simp [h2]
        · rw [decide_eq_false h2, Bool.and_false, Bool.false_and]; exact Ev.now _
    · refine Ev.step (f := fun _ => some false) (fun k => ?_) ?_
      · simp only [spec_l1All.l0, spec_l1In.f]
        rw [if_pos (by omega), if_pos (by omega), if_pos (by omega), if_neg (by omega)]
        simp
      · rw [decide_eq_false h1, Bool.false_and, Bool.false_and]; exact Ev.now _
theorem good_ev (l : List Int) (hl : l.length ≤ 1048576) : Ev (fun k => spec_heGood.f k l) (good l) := by
  unfold good
  by_cases h1 : 1 ≤ l.length
  · by_cases h2 : l.length ≤ 40
    · refine Ev.congr (f := fun k => (spec_l1All.f k l 1 100).bind fun t => some t) (fun k => ?_) ?_
      · simp only [spec_heGood.f, spec_l1In.f]
        rw [if_pos (by omega)]
        simp only [Option.bind_some]
        rw [if_pos (by simp; omega)]
      · refine Ev.bind (a := l.all (fun h => decide (1 ≤ h) && decide (h ≤ 100))) ?_ ?_
        · exact all_ev l hl l.length 0 (by omega)
        · rw [decide_eq_true h1, decide_eq_true h2]; exact Ev.now _
    · refine Ev.congr (f := fun _ => some false) (fun k => ?_) ?_
      · simp only [spec_heGood.f, spec_l1In.f]
        rw [if_pos (by omega)]
        simp only [Option.bind_some]
        rw [if_neg (by simp; omega)]
      · rw [decide_eq_false h2, Bool.and_false, Bool.false_and]; exact Ev.now _
  · refine Ev.congr (f := fun _ => some false) (fun k => ?_) ?_
    · simp only [spec_heGood.f, spec_l1In.f]
      rw [if_neg (by omega)]
      rfl
    · rw [decide_eq_false h1, Bool.false_and, Bool.false_and]; exact Ev.now _
theorem toIntS_loop (l : List Int) (hl : l.length ≤ 1048576) : ∀ (d i : Nat) (acc : List Int), i + d = l.length → acc.length = l.length →
    Ev (fun k => laws_toIntS.l0 k l acc (i : Int)) (acc.take i ++ l.drop i) := by
  intro d
  induction d with
  | zero =>
    intro i acc hi ha
    refine Ev.step (f := fun _ => some acc) (fun k => ?_) ?_
    · simp only [laws_toIntS.l0]
      rw [if_neg (by omega)]
    · rw [List.take_of_length_le (by omega), List.drop_eq_nil_of_le (by omega), List.append_nil]
      exact Ev.now _
  | succ d ih =>
    intro i acc hi ha
    have hlt : i < l.length := by omega
    have hr := ih (i + 1) (acc.set i (rd l (i : Int))) (by omega) (by simpa using ha)
    have e : (acc.set i (rd l (i : Int))).take (i + 1) ++ l.drop (i + 1) = acc.take i ++ l.drop i := by
      rw [drop_cons l i hlt, List.take_succ_eq_append_getElem (by simp; omega), List.getElem_set_self, List.append_assoc]
      congr 1
      simp [List.take_set_of_le]
    rw [e] at hr
    refine Ev.step (f := fun k => laws_toIntS.l0 k l (acc.set i (rd l (i : Int))) ((i + 1 : Nat) : Int)) (fun k => ?_) hr
    simp only [laws_toIntS.l0]
    rw [if_pos (by omega), if_pos (by omega), if_pos (by omega), w1 i (by omega)]
    rfl
theorem toIntS_ev (l : List Int) (hl : l.length ≤ 1048576) : Ev (fun k => laws_toIntS.f k l) l := by
  refine Ev.congr (f := fun k => laws_toIntS.l0 k l (List.replicate l.length 0) ((0 : Nat) : Int)) (fun k => ?_) ?_
  · simp only [laws_toIntS.f]
    rw [if_pos (by omega), if_pos (by simp; omega)]
    simp
  · have := toIntS_loop l hl l.length 0 (List.replicate l.length 0) (by omega) (by simp)
    simpa using this
theorem eqIntS_loop (l : List Int) (hl : l.length ≤ 1048576) : ∀ (d i : Nat), i + d = l.length → Ev (fun k => laws_eqIntS.l0 k l l (i : Int)) true := by
  intro d
  induction d with
  | zero =>
    intro i hi
    refine Ev.step (f := fun _ => some true) (fun k => ?_) (Ev.now _)
    simp only [laws_eqIntS.l0]
    rw [if_neg (by omega)]
  | succ d ih =>
    intro i hi
    refine Ev.step (f := fun k => laws_eqIntS.l0 k l l ((i + 1 : Nat) : Int)) (fun k => ?_) (ih (i + 1) (by omega))
    simp only [laws_eqIntS.l0]
    rw [if_pos (by omega), if_pos (by omega), if_pos (by omega), if_pos trivial, w1 i (by omega)]
theorem eqIntS_ev (l : List Int) (hl : l.length ≤ 1048576) : Ev (fun k => laws_eqIntS.f k l l) true := by
  refine Ev.congr (f := fun k => laws_eqIntS.l0 k l l ((0 : Nat) : Int)) (fun k => ?_) (eqIntS_loop l hl l.length 0 (by omega))
  simp only [laws_eqIntS.f]
  rw [if_pos trivial]
  rfl
/-! disorder -/
def disR (h : Int) : List Int → Nat
  | [] => 0
  | o :: t => (if h > o then 1 else 0) + disR h t
def disL : List Int → Nat
  | [] => 0
  | h :: t => disR h t + disL t
theorem disR_le (h : Int) : ∀ t : List Int, disR h t ≤ t.length
  | [] => by simp [disR]
  | o :: t => by
    have := disR_le h t
    simp only [disR, List.length_cons]
    split <;> omega
theorem dis_in_spec (l : List Int) (hl : l.length ≤ 40) (h : Int) (i : Nat) (hi : i ≤ 40) (c : List Int) (hc : c.length ≤ 40) (R : Int × Bool) : ∀ (d j m : Nat), j + d = c.length → m ≤ 1000000 + j →
    Ev (fun k => spec_CountDisorder.l0 k l ((m + disR h (c.drop j) : Nat) : Int) l (l.length : Int) ((i + 1 : Nat) : Int)) R →
    Ev (fun k => spec_CountDisorder.l1 k l (m : Int) h l (l.length : Int) (i : Int) c (c.length : Int) (j : Int)) R := by
  intro d
  induction d with
  | zero =>
    intro j m hj hm hev
    rw [List.drop_eq_nil_of_le (by omega)] at hev
    refine Ev.step (f := fun k => spec_CountDisorder.l0 k l ((m + disR h [] : Nat) : Int) l (l.length : Int) ((i + 1 : Nat) : Int)) (fun k => ?_) hev
    simp only [spec_CountDisorder.l1, disR, Nat.add_zero]
    rw [if_neg (by omega), w1 i (by omega)]
  | succ d ih =>
    intro j m hj hm hev
    have hlt : j < c.length := by omega
    rw [drop_cons c j hlt] at hev
    simp only [disR] at hev
    by_cases c1 : h > rd c (j : Int)
    · rw [if_pos c1] at hev
      refine Ev.step (fun k => ?_) (ih (j + 1) (m + 1) (by omega) (by omega) (by rw [Nat.add_assoc]; exact hev))
      simp only [spec_CountDisorder.l1]
      rw [if_pos (by omega), if_pos (by omega), if_pos (by omega), if_pos c1, w1 m (by omega), w1 j (by omega)]
    · rw [if_neg c1, Nat.zero_add] at hev
      refine Ev.step (fun k => ?_) (ih (j + 1) m (by omega) (by omega) hev)
      simp only [spec_CountDisorder.l1]
      rw [if_pos (by omega), if_pos (by omega), if_pos (by omega), if_neg c1, w1 j (by omega)]
theorem dis_in_impl (l : List Int) (hl : l.length ≤ 40) (h : Int) (i : Nat) (hi : i ≤ 40) (c : List Int) (hc : c.length ≤ 40) (R : Int × Bool) : ∀ (d j m : Nat), j + d = c.length → m ≤ 1000000 + j →
    Ev (fun k => impl_CountDisorder.l0 k l ((m + disR h (c.drop j) : Nat) : Int) l (l.length : Int) ((i + 1 : Nat) : Int)) R →
    Ev (fun k => impl_CountDisorder.l1 k l (m : Int) h l (l.length : Int) (i : Int) c (c.length : Int) (j : Int)) R := by
  intro d
  induction d with
  | zero =>
    intro j m hj hm hev
    rw [List.drop_eq_nil_of_le (by omega)] at hev
    refine Ev.step (f := fun k => impl_CountDisorder.l0 k l ((m + disR h [] : Nat) : Int) l (l.length : Int) ((i + 1 : Nat) : Int)) (fun k => ?_) hev
    simp only [impl_CountDisorder.l1, disR, Nat.add_zero]
    rw [if_neg (by omega), w1 i (by omega)]
  | succ d ih =>
    intro j m hj hm hev
    have hlt : j < c.length := by omega
    rw [drop_cons c j hlt] at hev
    simp only [disR] at hev
    by_cases c1 : h > rd c (j : Int)
    · rw [if_pos c1] at hev
      refine Ev.step (fun k => ?_) (ih (j + 1) (m + 1) (by omega) (by omega) (by rw [Nat.add_assoc]; exact hev))
      simp only [impl_CountDisorder.l1]
      rw [if_pos (by omega), if_pos (by omega), if_pos (by omega), if_pos c1, w1 m (by omega), w1 j (by omega)]
    · rw [if_neg c1, Nat.zero_add] at hev
      refine Ev.step (fun k => ?_) (ih (j + 1) m (by omega) (by omega) hev)
      simp only [impl_CountDisorder.l1]
      rw [if_pos (by omega), if_pos (by omega), if_pos (by omega), if_neg c1, w1 j (by omega)]
theorem dis_out_spec (l : List Int) (hl : l.length ≤ 40) : ∀ (d i m : Nat), i + d = l.length → m ≤ i * 40 →
    Ev (fun k => spec_CountDisorder.l0 k l (m : Int) l (l.length : Int) (i : Int)) (((m + disL (l.drop i) : Nat) : Int), true) := by
  intro d
  induction d with
  | zero =>
    intro i m hi hm
    refine Ev.step (f := fun _ => some ((m : Int), true)) (fun k => ?_) ?_
    · simp only [spec_CountDisorder.l0]
      rw [if_neg (by omega)]
    · rw [List.drop_eq_nil_of_le (by omega)]
      exact Ev.now _
  | succ d ih =>
    intro i m hi hm
    have hlt : i < l.length := by omega
    rw [drop_cons l i hlt]
    simp only [disL]
    have hle := disR_le (rd l (i : Int)) (l.drop (i + 1))
    rw [List.length_drop] at hle
    have hr := ih (i + 1) (m + disR (rd l (i : Int)) (l.drop (i + 1))) (by omega) (by omega)
    rw [Nat.add_assoc] at hr
    have h2 := dis_in_spec l hl (rd l (i : Int)) i (by omega) (l.drop (i + 1)) (by rw [List.length_drop]; omega) _ (l.drop (i + 1)).length 0 m (by omega) (by omega) hr
    refine Ev.step (fun k => ?_) h2
    simp only [spec_CountDisorder.l0]
    rw [if_pos (by omega), if_pos (by omega), if_pos (by omega), w1 i (by omega), if_pos (by omega), if_pos (by omega)]
    rfl
theorem dis_out_impl (l : List Int) (hl : l.length ≤ 40) : ∀ (d i m : Nat), i + d = l.length → m ≤ i * 40 →
    Ev (fun k => impl_CountDisorder.l0 k l (m : Int) l (l.length : Int) (i : Int)) (((m + disL (l.drop i) : Nat) : Int), true) := by
  intro d
  induction d with
  | zero =>
    intro i m hi hm
    refine Ev.step (f := fun _ => some ((m : Int), true)) (fun k => ?_) ?_
    · simp only [impl_CountDisorder.l0]
      rw [if_neg (by omega)]
    · rw [List.drop_eq_nil_of_le (by omega)]
      exact Ev.now _
  | succ d ih =>
    intro i m hi hm
    have hlt : i < l.length := by omega
    have hdc := drop_cons l i hlt
    rw [hdc]
    simp only [disL]
    have hle := disR_le (rd l (i : Int)) (l.drop (i + 1))
    rw [List.length_drop] at hle
    have hr := ih (i + 1) (m + disR (rd l (i : Int)) (l.drop (i + 1))) (by omega) (by omega)
    rw [Nat.add_assoc] at hr
    have e : disR (rd l (i : Int)) (l.drop i) = disR (rd l (i : Int)) (l.drop (i + 1)) := by
      rw [hdc]; simp [disR]
    have h2 := dis_in_impl l hl (rd l (i : Int)) i (by omega) (l.drop i) (by rw [List.length_drop]; omega) _ (l.drop i).length 0 m (by omega) (by omega) (by rw [List.drop_zero, e]; exact hr)
    refine Ev.step (fun k => ?_) h2
    simp only [impl_CountDisorder.l0]
    rw [if_pos (by omega), if_pos (by omega), if_pos (by omega), if_pos (by omega)]
    rfl
theorem both (l : List Int) (hl : l.length ≤ 1048576) : ∃ (v : Int) (b : Bool), Ev (fun k => spec_CountDisorder.f k l) (v, b) ∧ Ev (fun k => impl_CountDisorder.f k l) (v, b) := by
  by_cases h : good l = true
  · have h40 := (good_len h).2
    refine ⟨((0 + disL (l.drop 0) : Nat) : Int), true, ?_, ?_⟩
    · refine Ev.bind (good_ev l hl) ?_
      simp only [h, if_true]
      exact dis_out_spec l h40 l.length 0 0 (by omega) (by omega)
    · simp only [impl_CountDisorder.f, impl_good, Option.bind_some, h, if_true]
      exact dis_out_impl l h40 l.length 0 0 (by omega) (by omega)
  · refine ⟨0, false, ?_, ?_⟩
    · refine Ev.bind (good_ev l hl) ?_
      simp only [h, if_false]
      exact Ev.now _
    · simp only [impl_CountDisorder.f, impl_good, Option.bind_some, h, if_false]
      exact Ev.now _
/-! the law's own steps, for functions of heights that tell a number -/
theorem law_tail (l : List Int) (v : Int) (b : Bool) (hl : l.length ≤ 1048576) (hs : Ev (fun k => spec_CountDisorder.f k l) (v, b)) (hi : Ev (fun k => impl_CountDisorder.f k l) (v, b)) :
    Ev (fun k => laws_FnExactCountDisorder.f k l) true := by
  refine Ev.congr (fun k => by unfold laws_FnExactCountDisorder.f; rw [if_neg (by omega)]) ?_
  refine Ev.bind (toIntS_ev l hl) ?_
  refine Ev.bind hs ?_
  refine Ev.bind (toIntS_ev l hl) ?_
  refine Ev.bind hi ?_
  simp only [bne_self_eq_false, if_true]
  refine Ev.step (fun k => by rw [laws_FnExactCountDisorder.j0]) ?_
  simp only [Bool.false_eq_true, if_false]
  refine Ev.bind (toIntS_ev l hl) ?_
  refine Ev.bind (eqIntS_ev l hl) ?_
  simp only [if_true]
  exact Ev.now _
theorem FnExactCountDisorder : laws_FnExactCountDisorder.Pure := by
  intro l _ _ _
  by_cases hl : l.length ≤ 1048576
  · obtain ⟨v, b, hs, hi⟩ := both l hl
    exact (law_tail l v b hl hs hi).rounds
  · exact ⟨0, by unfold laws_FnExactCountDisorder.f; rw [if_pos (by omega)]⟩

end Go.Proofs.Ythljbhianagobaa.Pure
