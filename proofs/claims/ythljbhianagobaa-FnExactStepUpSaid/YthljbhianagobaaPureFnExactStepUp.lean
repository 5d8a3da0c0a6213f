/- The program and the reference tell the same heights with one soldier taller, leave the list as it was, and hand out new memory, for every list and all 64-bit numbers that can be read. -/
import Derived.Test.YthljbhianagobaaPFnExactStepUpx3
namespace Go.Proofs.Ythljbhianagobaa.Pure
open Go.RowKit Go.Proofs.Ythljbhianagobaa.PFnExactStepUp Go.Proofs.YthljbhianagobaaW.PrintWords Go.Proofs.YthljbhianagobaaW.PrintLast Go.Proofs.YthljbhianagobaaW.PrintMore
set_option linter.unusedVariables false
set_option linter.unusedSimpArgs false

/-! plain words -/
theorem w1 (i : Nat) (h : i ≤ 4611686018427387904) : wrap64 ((i : Int) + 1) = ((i + 1 : Nat) : Int) := by unfold wrap64; omega
theorem rd_nat (l : List Int) (i : Nat) (h : i < l.length) : rd l (i : Int) = l[i] := by
  simp [rd, List.getD_eq_getElem?_getD, List.getElem?_eq_getElem h]
theorem drop_cons (l : List Int) (i : Nat) (h : i < l.length) : l.drop i = rd l (i : Int) :: l.drop (i + 1) := by
  rw [List.drop_eq_getElem_cons h, rd_nat l i h]
/-! who are heights -/
def good (l : List Int) : Bool := decide (1 ≤ l.length) && decide (l.length ≤ 40) && l.all (fun h => decide (1 ≤ h) && decide (h ≤ 100))
theorem impl_good (l : List Int) : impl_areHeights.f l = some (good l) := rfl
theorem good_len {l : List Int} (h : good l = true) : 1 ≤ l.length ∧ l.length ≤ 40 := by
  unfold good at h
  simp only [Bool.and_eq_true, decide_eq_true_eq] at h
  exact h.1
theorem good_mem {l : List Int} (h : good l = true) : ∀ x ∈ l, 1 ≤ x ∧ x ≤ 100 := by
  unfold good at h
  simp only [Bool.and_eq_true, decide_eq_true_eq, List.all_eq_true] at h
  exact h.2
theorem good_rd {l : List Int} (h : good l = true) (i : Nat) (hi : i < l.length) : 1 ≤ rd l (i : Int) ∧ rd l (i : Int) ≤ 100 := by
  rw [rd_nat l i hi]
  exact good_mem h _ (List.getElem_mem hi)
theorem all_ev (l : List Int) (hl : l.length ≤ 1048576) : ∀ (d i : Nat), i + d = l.length →
    Ev (fun k => spec_l1All.l0 k 1 100 l (l.length : Int) (i : Int)) ((l.drop i).all (fun h => decide (1 ≤ h) && decide (h ≤ 100))) := by
  intro d
  induction d with
  | zero =>
    intro i hi
    refine Ev.step (f := fun _ => some ((l.drop i).all (fun h => decide (1 ≤ h) && decide (h ≤ 100)))) (fun k => ?_) (Ev.now _)
    simp only [spec_l1All.l0]
    rw [if_neg (by omega), List.drop_eq_nil_of_le (by omega)]
    rfl
  | succ d ih =>
    intro i hi
    have hlt : i < l.length := by omega
    rw [drop_cons l i hlt]
    simp only [List.all_cons]
    by_cases h1 : 1 ≤ rd l (i : Int)
    · by_cases h2 : rd l (i : Int) ≤ 100
      · have hr := ih (i + 1) (by omega)
        rw [decide_eq_true h1, decide_eq_true h2]
        refine Ev.step (f := fun k => spec_l1All.l0 k 1 100 l (l.length : Int) ((i + 1 : Nat) : Int)) (fun k => ?_) hr
        simp only [spec_l1All.l0, spec_l1In.f]
        rw [if_pos (by omega), if_pos (by omega), if_pos (by omega), if_pos (by omega), w1 i (by omega)]
        simp [h2]
      · refine Ev.step (f := fun _ => some false) (fun k => ?_) ?_
        · simp only [spec_l1All.l0, spec_l1In.f]
          rw [if_pos (by omega), if_pos (by omega), if_pos (by omega), if_pos (by omega)]
          simp [h2]
        · rw [decide_eq_false h2, Bool.and_false, Bool.false_and]; exact Ev.now _
    · refine Ev.step (f := fun _ => some false) (fun k => ?_) ?_
      · simp only [spec_l1All.l0, spec_l1In.f]
        rw [if_pos (by omega), if_pos (by omega), if_pos (by omega), if_neg (by omega)]
        simp
      · rw [decide_eq_false h1, Bool.false_and, Bool.false_and]; exact Ev.now _
theorem good_ev (l : List Int) (hl : l.length ≤ 1048576) : Ev (fun k => spec_heGood.f k l) (good l) := by
  unfold good
  by_cases h1 : 1 ≤ l.length
  · by_cases h2 : l.length ≤ 40
    · refine Ev.congr (f := fun k => (spec_l1All.f k l 1 100).bind fun t => some t) (fun k => ?_) ?_
      · simp only [spec_heGood.f, spec_l1In.f]
        rw [if_pos (by omega)]
        simp only [Option.bind_some]
        rw [if_pos (by simp; omega)]
      · refine Ev.bind (a := l.all (fun h => decide (1 ≤ h) && decide (h ≤ 100))) ?_ ?_
        · exact all_ev l hl l.length 0 (by omega)
        · rw [decide_eq_true h1, decide_eq_true h2]; exact Ev.now _
    · refine Ev.congr (f := fun _ => some false) (fun k => ?_) ?_
      · simp only [spec_heGood.f, spec_l1In.f]
        rw [if_pos (by omega)]
        simp only [Option.bind_some]
        rw [if_neg (by simp; omega)]
      · rw [decide_eq_false h2, Bool.and_false, Bool.false_and]; exact Ev.now _
  · refine Ev.congr (f := fun _ => some false) (fun k => ?_) ?_
    · simp only [spec_heGood.f, spec_l1In.f]
      rw [if_neg (by omega)]
      rfl
    · rw [decide_eq_false h1, Bool.false_and, Bool.false_and]; exact Ev.now _
theorem toIntS_loop (l : List Int) (hl : l.length ≤ 1048576) : ∀ (d i : Nat) (acc : List Int), i + d = l.length → acc.length = l.length →
    Ev (fun k => laws_toIntS.l0 k l acc (i : Int)) (acc.take i ++ l.drop i) := by
  intro d
  induction d with
  | zero =>
    intro i acc hi ha
    refine Ev.step (f := fun _ => some acc) (fun k => ?_) ?_
    · simp only [laws_toIntS.l0]
      rw [if_neg (by omega)]
    · rw [List.take_of_length_le (by omega), List.drop_eq_nil_of_le (by omega), List.append_nil]
      exact Ev.now _
  | succ d ih =>
    intro i acc hi ha
    have hlt : i < l.length := by omega
    have hr := ih (i + 1) (acc.set i (rd l (i : Int))) (by omega) (by simpa using ha)
    have e : (acc.set i (rd l (i : Int))).take (i + 1) ++ l.drop (i + 1) = acc.take i ++ l.drop i := by
      rw [drop_cons l i hlt, List.take_succ_eq_append_getElem (by simp; omega), List.getElem_set_self, List.append_assoc]
      congr 1
      simp [List.take_set_of_le]
    rw [e] at hr
    refine Ev.step (f := fun k => laws_toIntS.l0 k l (acc.set i (rd l (i : Int))) ((i + 1 : Nat) : Int)) (fun k => ?_) hr
    simp only [laws_toIntS.l0]
    rw [if_pos (by omega), if_pos (by omega), if_pos (by omega), w1 i (by omega)]
    rfl
theorem toIntS_ev (l : List Int) (hl : l.length ≤ 1048576) : Ev (fun k => laws_toIntS.f k l) l := by
  refine Ev.congr (f := fun k => laws_toIntS.l0 k l (List.replicate l.length 0) ((0 : Nat) : Int)) (fun k => ?_) ?_
  · simp only [laws_toIntS.f]
    rw [if_pos (by omega), if_pos (by simp; omega)]
    simp
  · have := toIntS_loop l hl l.length 0 (List.replicate l.length 0) (by omega) (by simp)
    simpa using this
theorem eqIntS_loop (l : List Int) (hl : l.length ≤ 1048576) : ∀ (d i : Nat), i + d = l.length → Ev (fun k => laws_eqIntS.l0 k l l (i : Int)) true := by
  intro d
  induction d with
  | zero =>
    intro i hi
    refine Ev.step (f := fun _ => some true) (fun k => ?_) (Ev.now _)
    simp only [laws_eqIntS.l0]
    rw [if_neg (by omega)]
  | succ d ih =>
    intro i hi
    refine Ev.step (f := fun k => laws_eqIntS.l0 k l l ((i + 1 : Nat) : Int)) (fun k => ?_) (ih (i + 1) (by omega))
    simp only [laws_eqIntS.l0]
    rw [if_pos (by omega), if_pos (by omega), if_pos (by omega), if_pos trivial, w1 i (by omega)]
theorem eqIntS_ev (l : List Int) (hl : l.length ≤ 1048576) : Ev (fun k => laws_eqIntS.f k l l) true := by
  refine Ev.congr (f := fun k => laws_eqIntS.l0 k l l ((0 : Nat) : Int)) (fun k => ?_) (eqIntS_loop l hl l.length 0 (by omega))
  simp only [laws_eqIntS.f]
  rw [if_pos trivial]
  rfl
def upto : Nat → Nat → List Int
  | _, 0 => []
  | i, n + 1 => ((i + 1 : Nat) : Int) :: upto (i + 1) n
theorem upto_len : ∀ n i, (upto i n).length = n
  | 0, _ => rfl
  | n + 1, i => by simp [upto, upto_len n (i + 1)]
theorem mark_loop (n : Nat) (hn : n ≤ 1048576) : ∀ (d i : Nat) (x : List Int), x.length = n → i + d = n →
    Ev (fun k => laws_markIntS.l0 k x ((i + 1 : Nat) : Int) (i : Int)) (((n + 1 : Nat) : Int), x.take i ++ upto i d) := by
  intro d
  induction d with
  | zero =>
    intro i x hx hi
    refine Ev.step (f := fun _ => some (((i + 1 : Nat) : Int), x)) (fun k => ?_) ?_
    · simp only [laws_markIntS.l0]
      rw [if_neg (by omega)]
    · rw [List.take_of_length_le (by omega)]
      simp only [upto, List.append_nil]
      rw [show i = n by omega]
      exact Ev.now _
  | succ d ih =>
    intro i x hx hi
    have hr := ih (i + 1) (x.set i ((i + 1 : Nat) : Int)) (by simpa using hx) (by omega)
    have e : (x.set i ((i + 1 : Nat) : Int)).take (i + 1) ++ upto (i + 1) d = x.take i ++ upto i (d + 1) := by
      rw [List.take_succ_eq_append_getElem (by simp; omega), List.getElem_set_self, List.append_assoc]
      simp [List.take_set_of_le, upto]
    rw [e] at hr
    refine Ev.step (f := fun k => laws_markIntS.l0 k (x.set i ((i + 1 : Nat) : Int)) ((i + 1 + 1 : Nat) : Int) ((i + 1 : Nat) : Int)) (fun k => ?_) hr
    simp only [laws_markIntS.l0]
    rw [if_pos (by omega), if_pos (by omega), w1 i (by omega), w1 (i + 1) (by omega)]
    rfl
theorem mark_ev (x : List Int) (hx : x.length ≤ 1048576) : Ev (fun k => laws_markIntS.f k x 1) (((x.length + 1 : Nat) : Int), upto 0 x.length) := by
  have := mark_loop x.length hx x.length 0 x rfl (by omega)
  simpa [laws_markIntS.f] using this
theorem held_loop (n : Nat) (hn : n ≤ 1048576) : ∀ (d i : Nat) (p : List Int), p.length = i → i + d = n →
    Ev (fun k => laws_heldIntS.l0 k (p ++ upto i d) ((i + 1 : Nat) : Int) (i : Int)) (((n + 1 : Nat) : Int)) := by
  intro d
  induction d with
  | zero =>
    intro i p hp hi
    refine Ev.step (f := fun _ => some (((i + 1 : Nat) : Int))) (fun k => ?_) ?_
    · simp only [laws_heldIntS.l0]
      rw [if_neg (by simp [upto]; omega)]
    · rw [show i = n by omega]
      exact Ev.now _
  | succ d ih =>
    intro i p hp hi
    have hr := ih (i + 1) (p ++ [((i + 1 : Nat) : Int)]) (by simp [hp]) (by omega)
    have e : (p ++ [((i + 1 : Nat) : Int)]) ++ upto (i + 1) d = p ++ upto i (d + 1) := by simp [upto]
    rw [e] at hr
    have hlen : (p ++ upto i (d + 1)).length = i + (d + 1) := by simp [upto_len, hp]
    have hrd : rd (p ++ upto i (d + 1)) (i : Int) = ((i + 1 : Nat) : Int) := by
      rw [rd_nat _ i (by omega), List.getElem_append_right (by omega)]
      simp [hp, upto]
    refine Ev.step (f := fun k => laws_heldIntS.l0 k (p ++ upto i (d + 1)) ((i + 1 + 1 : Nat) : Int) ((i + 1 : Nat) : Int)) (fun k => ?_) hr
    simp only [laws_heldIntS.l0]
    rw [hrd, hlen, if_pos (by omega), if_pos (by omega), if_pos rfl, w1 i (by omega), w1 (i + 1) (by omega)]
theorem held_ev (n : Nat) (hn : n ≤ 1048576) : Ev (fun k => laws_heldIntS.f k (upto 0 n) 1) (((n + 1 : Nat) : Int)) := by
  have := held_loop n hn n 0 [] rfl (by omega)
  simpa [laws_heldIntS.f] using this
theorem both (l : List Int) (hl : l.length ≤ 1048576) (a1 a2 : Int) : ∃ (v : List Int) (b : Bool), v.length ≤ 1048576 ∧ Ev (fun k => spec_StepUp.f k l a1 a2) (v, b) ∧ Ev (fun k => impl_StepUp.f l a1 a2) (v, b) := by
  by_cases h : good l = true
  · have hlen := good_len h
    have hw : wrap64 ((l.length : Int) - 1) = (l.length : Int) - 1 := by unfold wrap64; omega
    have hcl : slices_Clone_int_int.f l = some l := by unfold slices_Clone_int_int.f; rw [if_pos (by omega)]
    have hown : spec_l1Own.f l = some l := by
      unfold spec_l1Own.f
      simp only [Option.bind_some, List.length_nil, List.nil_append]
      rw [if_pos (by omega)]
    by_cases h1 : 0 ≤ a1
    · by_cases h2 : a1 ≤ (l.length : Int) - 1
      · have h2' : a1 < (l.length : Int) := by omega
        obtain ⟨i, rfl⟩ := Int.eq_ofNat_of_zero_le h1
        have hb := good_rd h i (by omega)
        have e1 : wrap64 (1 - rd l (i : Int)) = 1 - rd l (i : Int) := by unfold wrap64; omega
        have e2 : wrap64 (100 - rd l (i : Int)) = 100 - rd l (i : Int) := by unfold wrap64; omega
        by_cases hc : 1 - rd l (i : Int) ≤ a2 ∧ a2 ≤ 100 - rd l (i : Int)
        · have e3 : wrap64 (rd l (i : Int) + a2) = rd l (i : Int) + a2 := by unfold wrap64; omega
          refine ⟨l.set i (rd l (i : Int) + a2), true, by simpa using hl, ?_, ?_⟩
          · refine Ev.bind (good_ev l hl) ?_
            simp only [h, if_true, spec_l1In.f, ge_iff_le, h1, hw, h2, h2', decide_true, Option.bind_some, e3, hown,
              show (-100 : Int) ≤ a2 by omega, show a2 ≤ 100 by omega, show 1 ≤ rd l (i : Int) + a2 by omega, show rd l (i : Int) + a2 ≤ 100 by omega]
            exact Ev.now _
          · simp only [impl_StepUp.f, impl_good, Option.bind_some, h, if_true, impl_in.f, h1, hw, h2, h2', decide_true, e1, e2, hc.1, hc.2, hcl, e3]
            exact Ev.now _
        · refine ⟨[], false, by simp, ?_, ?_⟩
          · refine Ev.bind (good_ev l hl) ?_
            by_cases c1 : (-100 : Int) ≤ a2
            · by_cases c2 : a2 ≤ 100
              · have e3 : wrap64 (rd l (i : Int) + a2) = rd l (i : Int) + a2 := by unfold wrap64; omega
                by_cases c3 : 1 ≤ rd l (i : Int) + a2
                · have c4 : ¬ rd l (i : Int) + a2 ≤ 100 := by omega
                  simp only [h, if_true, spec_l1In.f, ge_iff_le, h1, hw, h2, h2', decide_true, Option.bind_some, e3, c1, c2, c3, c4, decide_false, Bool.false_eq_true, if_false]
                  exact Ev.now _
                · simp only [h, if_true, spec_l1In.f, ge_iff_le, h1, hw, h2, h2', decide_true, Option.bind_some, e3, c1, c2, c3, Bool.false_eq_true, if_false]
                  exact Ev.now _
              · simp only [h, if_true, spec_l1In.f, ge_iff_le, h1, hw, h2, decide_true, Option.bind_some, c1, c2, decide_false, Bool.false_eq_true, if_false]
                exact Ev.now _
            · simp only [h, if_true, spec_l1In.f, ge_iff_le, h1, hw, h2, decide_true, Option.bind_some, c1, Bool.false_eq_true, if_false]
              exact Ev.now _
          · by_cases c1 : 1 - rd l (i : Int) ≤ a2
            · have c2 : ¬ a2 ≤ 100 - rd l (i : Int) := fun x => hc ⟨c1, x⟩
              simp only [impl_StepUp.f, impl_good, Option.bind_some, h, if_true, impl_in.f, h1, hw, h2, h2', decide_true, e1, e2, c1, c2, decide_false, Bool.false_eq_true, if_false]
              exact Ev.now _
            · simp only [impl_StepUp.f, impl_good, Option.bind_some, h, if_true, impl_in.f, h1, hw, h2, h2', decide_true, e1, e2, c1, Bool.false_eq_true, if_false]
              exact Ev.now _
      · refine ⟨[], false, by simp, ?_, ?_⟩
        · refine Ev.bind (good_ev l hl) ?_
          simp only [h, if_true, spec_l1In.f, ge_iff_le, h1, hw, h2, Option.bind_some, decide_false, Bool.false_eq_true, if_false]
          exact Ev.now _
        · simp only [impl_StepUp.f, impl_good, Option.bind_some, h, if_true, impl_in.f, h1, hw, h2, decide_false, Bool.false_eq_true, if_false]
          exact Ev.now _
    · refine ⟨[], false, by simp, ?_, ?_⟩
      · refine Ev.bind (good_ev l hl) ?_
        simp only [h, if_true, spec_l1In.f, ge_iff_le, h1, Option.bind_some, Bool.false_eq_true, if_false]
        exact Ev.now _
      · simp only [impl_StepUp.f, impl_good, Option.bind_some, h, if_true, impl_in.f, h1, Bool.false_eq_true, if_false]
        exact Ev.now _
  · refine ⟨[], false, by simp, ?_, ?_⟩
    · refine Ev.bind (good_ev l hl) ?_
      simp only [h, if_false]
      exact Ev.now _
    · simp only [impl_StepUp.f, impl_good, Option.bind_some, h, if_false]
      exact Ev.now _
/-! the law's own steps, for functions of heights that tell a list -/
theorem law_tail (l v : List Int) (a1 a2 : Int) (b : Bool) (hl : l.length ≤ 1048576) (hv : v.length ≤ 1048576) (hs : Ev (fun k => spec_StepUp.f k l a1 a2) (v, b)) (hi : Ev (fun k => impl_StepUp.f l a1 a2) (v, b)) :
    Ev (fun k => laws_FnExactStepUp.f k l a1 a2) true := by
  refine Ev.congr (fun k => by unfold laws_FnExactStepUp.f; rw [if_neg (by omega)]) ?_
  refine Ev.bind (toIntS_ev l hl) ?_
  refine Ev.bind hs ?_
  refine Ev.bind (toIntS_ev l hl) ?_
  refine Ev.bind hi ?_
  refine Ev.bind (eqIntS_ev v hv) ?_
  simp only [bne_self_eq_false, if_true]
  refine Ev.step (fun k => by rw [laws_FnExactStepUp.j0]) ?_
  simp only [Bool.false_eq_true, if_false]
  refine Ev.bind (toIntS_ev l hl) ?_
  refine Ev.bind (eqIntS_ev l hl) ?_
  simp only [if_true]
  refine Ev.bind (mark_ev l hl) ?_
  refine Ev.congr (fun k => by rw [if_neg (by simp; omega)]) ?_
  refine Ev.bind (eqIntS_ev v hv) ?_
  simp only [bne_self_eq_false, if_true]
  refine Ev.step (fun k => by rw [laws_FnExactStepUp.j1]) ?_
  simp only [Bool.false_eq_true, if_false]
  refine Ev.bind (mark_ev v hv) ?_
  refine Ev.bind (held_ev v.length hv) ?_
  refine Ev.congr (fun k => by rw [if_neg (by simp; omega), if_pos rfl]) ?_
  refine Ev.bind (toIntS_ev l hl) ?_
  refine Ev.bind hi ?_
  refine Ev.bind (eqIntS_ev v hv) ?_
  simp only [bne_self_eq_false, if_true]
  refine Ev.step (fun k => by rw [laws_FnExactStepUp.j2]) ?_
  simp only [Bool.false_eq_true, if_false]
  refine Ev.bind (held_ev v.length hv) ?_
  refine Ev.congr (fun k => by rw [if_neg (by simp; omega), if_pos rfl]) ?_
  exact Ev.now _
theorem FnExactStepUp : laws_FnExactStepUp.Pure := by
  intro l a1 a2 _ _ _ _ _
  by_cases hl : l.length ≤ 1048576
  · obtain ⟨v, b, hv, hs, hi⟩ := both l hl a1 a2
    exact (law_tail l v a1 a2 b hl hv hs hi).rounds
  · exact ⟨0, by unfold laws_FnExactStepUp.f; rw [if_pos (by omega)]⟩

end Go.Proofs.Ythljbhianagobaa.Pure
