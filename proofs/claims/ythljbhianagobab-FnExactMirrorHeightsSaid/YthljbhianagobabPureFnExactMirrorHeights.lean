/- The program and the reference tell the same mirrored heights, leave the list as it was, and hand out new memory, for every list that can be read. -/
import Derived.Test.YthljbhianagobabPFnExactMirrorHeightsx3
namespace Go.Proofs.Ythljbhianagobab.Pure
open Go.RowKit Go.Proofs.Ythljbhianagobab.PFnExactMirrorHeights Go.Proofs.YthljbhianagobabW.PrintWords Go.Proofs.YthljbhianagobabW.PrintLast Go.Proofs.YthljbhianagobabW.PrintMore
set_option linter.unusedVariables false
set_option linter.unusedSimpArgs false

/-! plain words -/
theorem w1 (i : Nat) (h : i ≤ 4611686018427387904) : wrap64 ((i : Int) + 1) = ((i + 1 : Nat) : Int) := by unfold wrap64; omega
theorem rd_nat (l : List Int) (i : Nat) (h : i < l.length) : rd l (i : Int) = l[i] := by
  simp [rd, List.getD_eq_getElem?_getD, List.getElem?_eq_getElem h]
theorem drop_cons (l : List Int) (i : Nat) (h : i < l.length) : l.drop i = rd l (i : Int) :: l.drop (i + 1) := by
  rw [List.drop_eq_getElem_cons h, rd_nat l i h]
/-! who are heights -/
def good (l : List Int) : Bool := decide (1 ≤ l.length) && decide (l.length ≤ 40) && l.all (fun h => decide (1 ≤ h) && decide (h ≤ 100))
theorem impl_good (l : List Int) : impl_areHeights.f l = some (good l) := rfl
theorem good_len {l : List Int} (h : good l = true) : 1 ≤ l.length ∧ l.length ≤ 40 := by
  unfold good at h
  simp only [Bool.and_eq_true, decide_eq_true_eq] at h
  exact h.1
theorem good_mem {l : List Int} (h : good l = true) : ∀ x ∈ l, 1 ≤ x ∧ x ≤ 100 := by
  unfold good at h
  simp only [Bool.and_eq_true, decide_eq_true_eq, List.all_eq_true] at h
  exact h.2
theorem good_rd {l : List Int} (h : good l = true) (i : Nat) (hi : i < l.length) : 1 ≤ rd l (i : Int) ∧ rd l (i : Int) ≤ 100 := by
  rw [rd_nat l i hi]
  exact good_mem h _ (List.getElem_mem hi)
theorem all_ev (l : List Int) (hl : l.length ≤ 1048576) : ∀ (d i : Nat), i + d = l.length →
    Ev (fun k => spec_l1All.l0 k 1 100 l (l.length : Int) (i : Int)) ((l.drop i).all (fun h => decide (1 ≤ h) && decide (h ≤ 100))) := by
  intro d
  induction d with
  | zero =>
    intro i hi
    refine Ev.step (f := fun _ => some ((l.drop i).all (fun h => decide (1 ≤ h) && decide (h ≤ 100)))) (fun k => ?_) (Ev.now _)
    simp only [spec_l1All.l0]
    rw [if_neg (by omega), List.drop_eq_nil_of_le (by omega)]
    rfl
  | succ d ih =>
    intro i hi
    have hlt : i < l.length := by omega
    rw [drop_cons l i hlt]
    simp only [List.all_cons]
    by_cases h1 : 1 ≤ rd l (i : Int)
    · by_cases h2 : rd l (i : Int) ≤ 100
      · have hr := ih (i + 1) (by omega)
        rw [decide_eq_true h1, decide_eq_true h2]
        refine Ev.step (f := fun k => spec_l1All.l0 k 1 100 l (l.length : Int) ((i + 1 : Nat) : Int)) (fun k => ?_) hr
        simp only [spec_l1All.l0, spec_l1In.f]
        rw [if_pos (by omega), if_pos (by omega), if_pos (by omega), if_pos (by omega), w1 i (by omega)]
        simp [h2]
      · refine Ev.step (f := fun _ => some false) (fun k => ?_) ?_
        · simp only [spec_l1All.l0, spec_l1In.f]
          rw [if_pos (by omega), if_pos (by omega), if_pos (by omega), if_pos (by omega)]
          simp [h2]
        · rw [decide_eq_false h2, Bool.and_false, Bool.false_and]; exact Ev.now _
    · refine Ev.step (f := fun _ => some false) (fun k => ?_) ?_
      · simp only [spec_l1All.l0, spec_l1In.f]
        rw [if_pos (by omega), if_pos (by omega), if_pos (by omega), if_neg (by omega)]
        simp
      · rw [decide_eq_false h1, Bool.false_and, Bool.false_and]; exact Ev.now _
theorem good_ev (l : List Int) (hl : l.length ≤ 1048576) : Ev (fun k => spec_heGood.f k l) (good l) := by
  unfold good
  by_cases h1 : 1 ≤ l.length
  · by_cases h2 : l.length ≤ 40
    · refine Ev.congr (f := fun k => (spec_l1All.f k l 1 100).bind fun t => some t) (fun k => ?_) ?_
      · simp only [spec_heGood.f, spec_l1In.f]
        rw [if_pos (by omega)]
        simp only [Option.bind_some]
        rw [if_pos (by simp; omega)]
      · refine Ev.bind (a := l.all (fun h => decide (1 ≤ h) && decide (h ≤ 100))) ?_ ?_
        · exact all_ev l hl l.length 0 (by omega)
        · rw [decide_eq_true h1, decide_eq_true h2]; exact Ev.now _
    · refine Ev.congr (f := fun _ => some false) (fun k => ?_) ?_
      · simp only [spec_heGood.f, spec_l1In.f]
        rw [if_pos (by omega)]
        simp only [Option.bind_some]
        rw [if_neg (by simp; omega)]
      · rw [decide_eq_false h2, Bool.and_false, Bool.false_and]; exact Ev.now _
  · refine Ev.congr (f := fun _ => some false) (fun k => ?_) ?_
    · simp only [spec_heGood.f, spec_l1In.f]
      rw [if_neg (by omega)]
      rfl
    · rw [decide_eq_false h1, Bool.false_and, Bool.false_and]; exact Ev.now _
theorem toIntS_loop (l : List Int) (hl : l.length ≤ 1048576) : ∀ (d i : Nat) (acc : List Int), i + d = l.length → acc.length = l.length →
    Ev (fun k => laws_toIntS.l0 k l acc (i : Int)) (acc.take i ++ l.drop i) := by
  intro d
  induction d with
  | zero =>
    intro i acc hi ha
    refine Ev.step (f := fun _ => some acc) (fun k => ?_) ?_
    · simp only [laws_toIntS.l0]
      rw [if_neg (by omega)]
    · rw [List.take_of_length_le (by omega), List.drop_eq_nil_of_le (by omega), List.append_nil]
      exact Ev.now _
  | succ d ih =>
    intro i acc hi ha
    have hlt : i < l.length := by omega
    have hr := ih (i + 1) (acc.set i (rd l (i : Int))) (by omega) (by simpa using ha)
    have e : (acc.set i (rd l (i : Int))).take (i + 1) ++ l.drop (i + 1) = acc.take i ++ l.drop i := by
      rw [drop_cons l i hlt, List.take_succ_eq_append_getElem (by simp; omega), List.getElem_set_self, List.append_assoc]
      congr 1
      simp [List.take_set_of_le]
    rw [e] at hr
    refine Ev.step (f := fun k => laws_toIntS.l0 k l (acc.set i (rd l (i : Int))) ((i + 1 : Nat) : Int)) (fun k => ?_) hr
    simp only [laws_toIntS.l0]
    rw [if_pos (by omega), if_pos (by omega), if_pos (by omega), w1 i (by omega)]
    rfl
theorem toIntS_ev (l : List Int) (hl : l.length ≤ 1048576) : Ev (fun k => laws_toIntS.f k l) l := by
  refine Ev.congr (f := fun k => laws_toIntS.l0 k l (List.replicate l.length 0) ((0 : Nat) : Int)) (fun k => ?_) ?_
  · simp only [laws_toIntS.f]
    rw [if_pos (by omega), if_pos (by simp; omega)]
    simp
  · have := toIntS_loop l hl l.length 0 (List.replicate l.length 0) (by omega) (by simp)
    simpa using this
theorem eqIntS_loop (l : List Int) (hl : l.length ≤ 1048576) : ∀ (d i : Nat), i + d = l.length → Ev (fun k => laws_eqIntS.l0 k l l (i : Int)) true := by
  intro d
  induction d with
  | zero =>
    intro i hi
    refine Ev.step (f := fun _ => some true) (fun k => ?_) (Ev.now _)
    simp only [laws_eqIntS.l0]
    rw [if_neg (by omega)]
  | succ d ih =>
    intro i hi
    refine Ev.step (f := fun k => laws_eqIntS.l0 k l l ((i + 1 : Nat) : Int)) (fun k => ?_) (ih (i + 1) (by omega))
    simp only [laws_eqIntS.l0]
    rw [if_pos (by omega), if_pos (by omega), if_pos (by omega), if_pos trivial, w1 i (by omega)]
theorem eqIntS_ev (l : List Int) (hl : l.length ≤ 1048576) : Ev (fun k => laws_eqIntS.f k l l) true := by
  refine Ev.congr (f := fun k => laws_eqIntS.l0 k l l ((0 : Nat) : Int)) (fun k => ?_) (eqIntS_loop l hl l.length 0 (by omega))
  simp only [laws_eqIntS.f]
  rw [if_pos trivial]
  rfl
def upto : Nat → Nat → List Int
  | _, 0 => []
  | i, n + 1 => ((i + 1 : Nat) : Int) :: upto (i + 1) n
theorem upto_len : ∀ n i, (upto i n).length = n
  | 0, _ => rfl
  | n + 1, i => by simp [upto, upto_len n (i + 1)]
theorem mark_loop (n : Nat) (hn : n ≤ 1048576) : ∀ (d i : Nat) (x : List Int), x.length = n → i + d = n →
    Ev (fun k => laws_markIntS.l0 k x ((i + 1 : Nat) : Int) (i : Int)) (((n + 1 : Nat) : Int), x.take i ++ upto i d) := by
  intro d
  induction d with
  | zero =>
    intro i x hx hi
    refine Ev.step (f := fun _ => some (((i + 1 : Nat) : Int), x)) (fun k => ?_) ?_
    · simp only [laws_markIntS.l0]
      rw [if_neg (by omega)]
    · rw [List.take_of_length_le (by omega)]
      simp only [upto, List.append_nil]
      rw [show i = n by omega]
      exact Ev.now _
  | succ d ih =>
    intro i x hx hi
    have hr := ih (i + 1) (x.set i ((i + 1 : Nat) : Int)) (by simpa using hx) (by omega)
    have e : (x.set i ((i + 1 : Nat) : Int)).take (i + 1) ++ upto (i + 1) d = x.take i ++ upto i (d + 1) := by
      rw [List.take_succ_eq_append_getElem (by simp; omega), List.getElem_set_self, List.append_assoc]
      simp [List.take_set_of_le, upto]
    rw [e] at hr
    refine Ev.step (f := fun k => laws_markIntS.l0 k (x.set i ((i + 1 : Nat) : Int)) ((i + 1 + 1 : Nat) : Int) ((i + 1 : Nat) : Int)) (fun k => ?_) hr
    simp only [laws_markIntS.l0]
    rw [if_pos (by omega), if_pos (by omega), w1 i (by omega), w1 (i + 1) (by omega)]
    rfl
theorem mark_ev (x : List Int) (hx : x.length ≤ 1048576) : Ev (fun k => laws_markIntS.f k x 1) (((x.length + 1 : Nat) : Int), upto 0 x.length) := by
  have := mark_loop x.length hx x.length 0 x rfl (by omega)
  simpa [laws_markIntS.f] using this
theorem held_loop (n : Nat) (hn : n ≤ 1048576) : ∀ (d i : Nat) (p : List Int), p.length = i → i + d = n →
    Ev (fun k => laws_heldIntS.l0 k (p ++ upto i d) ((i + 1 : Nat) : Int) (i : Int)) (((n + 1 : Nat) : Int)) := by
  intro d
  induction d with
  | zero =>
    intro i p hp hi
    refine Ev.step (f := fun _ => some (((i + 1 : Nat) : Int))) (fun k => ?_) ?_
    · simp only [laws_heldIntS.l0]
      rw [if_neg (by simp [upto]; omega)]
    · rw [show i = n by omega]
      exact Ev.now _
  | succ d ih =>
    intro i p hp hi
    have hr := ih (i + 1) (p ++ [((i + 1 : Nat) : Int)]) (by simp [hp]) (by omega)
    have e : (p ++ [((i + 1 : Nat) : Int)]) ++ upto (i + 1) d = p ++ upto i (d + 1) := by simp [upto]
    rw [e] at hr
    have hlen : (p ++ upto i (d + 1)).length = i + (d + 1) := by simp [upto_len, hp]
    have hrd : rd (p ++ upto i (d + 1)) (i : Int) = ((i + 1 : Nat) : Int) := by
      rw [rd_nat _ i (by omega), List.getElem_append_right (by omega)]
      simp [hp, upto]
    refine Ev.step (f := fun k => laws_heldIntS.l0 k (p ++ upto i (d + 1)) ((i + 1 + 1 : Nat) : Int) ((i + 1 : Nat) : Int)) (fun k => ?_) hr
    simp only [laws_heldIntS.l0]
    rw [hrd, hlen, if_pos (by omega), if_pos (by omega), if_pos rfl, w1 i (by omega), w1 (i + 1) (by omega)]
theorem held_ev (n : Nat) (hn : n ≤ 1048576) : Ev (fun k => laws_heldIntS.f k (upto 0 n) 1) (((n + 1 : Nat) : Int)) := by
  have := held_loop n hn n 0 [] rfl (by omega)
  simpa [laws_heldIntS.f] using this
/-! a list told from its end on -/
theorem wm1 (m : Nat) (h : m ≤ 4611686018427387904) : wrap64 ((m : Int) - 1) = (m : Int) - 1 := by unfold wrap64; omega
theorem back_loop (l : List Int) (hl : l.length ≤ 1048576) : ∀ (m : Nat) (acc : List Int), m ≤ l.length → acc.length + m ≤ 1048576 →
    Ev (fun k => spec_heBack.l0 k l acc ((m : Int) - 1)) (acc ++ (l.take m).reverse) := by
  intro m
  induction m with
  | zero =>
    intro acc hm ha
    refine Ev.step (f := fun _ => some acc) (fun k => ?_) ?_
    · simp only [spec_heBack.l0]
      rw [if_neg (by omega)]
    · rw [List.take_zero, List.reverse_nil, List.append_nil]
      exact Ev.now _
  | succ m ih =>
    intro acc hm ha
    have hr := ih (acc ++ [rd l (m : Int)]) (by omega) (by simp; omega)
    rw [List.append_assoc] at hr
    have e : (l.take (m + 1)).reverse = [rd l (m : Int)] ++ (l.take m).reverse := by
      rw [List.take_succ_eq_append_getElem (by omega), List.reverse_append, rd_nat l m (by omega)]
      rfl
    rw [e]
    refine Ev.step (fun k => ?_) hr
    simp only [spec_heBack.l0]
    rw [show (((m + 1 : Nat) : Int) - 1) = (m : Int) by omega, if_pos (by omega), if_pos (by omega), if_pos (by omega), if_pos (by omega), wm1 m (by omega)]
theorem back_ev (l : List Int) (hl : l.length ≤ 1048576) : Ev (fun k => spec_heBack.f k l) l.reverse := by
  have h := back_loop l hl l.length [] (by omega) (by simpa using hl)
  rw [List.take_length, List.nil_append] at h
  refine Ev.congr (fun k => ?_) h
  simp only [spec_heBack.f]
  rw [wm1 l.length (by omega)]
theorem set_mid (p s : List Int) (a b : Int) (m : List Int) : ((p ++ (a :: (m ++ [b])) ++ s).set p.length b).set (p.length + (m.length + 1)) a = (p ++ [b]) ++ m ++ (a :: s) := by
  simp [List.set_append]
theorem rev_loop : ∀ (d : Nat) (mid p s : List Int), mid.length ≤ d → p.length = s.length → (p ++ mid ++ s).length ≤ 1048576 →
    Ev (fun k => slices_Reverse_int_int.l0 k (p ++ mid ++ s) (p.length : Int) ((p.length : Int) + (mid.length : Int) - 1)) (p ++ mid.reverse ++ s) := by
  intro d
  induction d with
  | zero =>
    intro mid p s hm hps hlen
    obtain rfl : mid = [] := List.eq_nil_of_length_eq_zero (by omega)
    refine Ev.step (f := fun _ => some (p ++ [] ++ s)) (fun k => ?_) (Ev.now _)
    simp only [slices_Reverse_int_int.l0]
    rw [if_neg (by simp; try omega)]
  | succ d ih =>
    intro mid p s hm hps hlen
    match mid with
    | [] =>
      refine Ev.step (f := fun _ => some (p ++ [] ++ s)) (fun k => ?_) (Ev.now _)
      simp only [slices_Reverse_int_int.l0]
      rw [if_neg (by simp; try omega)]
    | [a] =>
      refine Ev.step (f := fun _ => some (p ++ [a] ++ s)) (fun k => ?_) (Ev.now _)
      simp only [slices_Reverse_int_int.l0]
      rw [if_neg (by simp; try omega)]
    | a :: c :: t =>
      obtain ⟨m, b, hmb⟩ : ∃ m b, c :: t = m ++ [b] := ⟨(c :: t).dropLast, (c :: t).getLast (by simp), (List.dropLast_concat_getLast (by simp)).symm⟩
      rw [hmb] at hm hlen ⊢
      simp only [List.length_cons, List.length_append, List.length_nil] at hm hlen
      have hr := ih m (p ++ [b]) (a :: s) (by omega) (by simp; omega) (by simp; omega)
      have e : (p ++ [b]) ++ m.reverse ++ (a :: s) = p ++ (a :: (m ++ [b])).reverse ++ s := by simp
      rw [e] at hr
      have hfull : (p ++ a :: (m ++ [b]) ++ s).length = p.length + (m.length + 2) + s.length := by simp; omega
      have r1 : rd (p ++ a :: (m ++ [b]) ++ s) (p.length : Int) = a := by
        rw [rd_nat _ _ (by omega)]
        simp
      have r2 : rd (p ++ a :: (m ++ [b]) ++ s) ((p.length + (m.length + 1) : Nat) : Int) = b := by
        rw [rd_nat _ _ (by omega)]
        simp [List.getElem_append]
      refine Ev.step (fun k => ?_) hr
      simp only [slices_Reverse_int_int.l0]
      have ej : (p.length : Int) + ((a :: (m ++ [b])).length : Int) - 1 = ((p.length + (m.length + 1) : Nat) : Int) := by simp; omega
      rw [ej, r1, r2, hfull, if_pos (by omega), if_pos (by omega), if_pos (by omega), if_pos (by omega), if_pos (by omega), w1 p.length (by omega), wm1 _ (by omega)]
      rw [show ((p.length : Int)).toNat = p.length by omega, show (((p.length + (m.length + 1) : Nat) : Int)).toNat = p.length + (m.length + 1) by omega, set_mid]
      congr 1
      · simp
      · simp; omega
theorem mirrored_ev (l : List Int) (hl : l.length ≤ 1048576) : Ev (fun k => impl_mirrored.f k l) l.reverse := by
  have h := rev_loop l.length l [] [] (by omega) rfl (by simpa using hl)
  simp only [List.nil_append, List.append_nil, List.length_nil] at h
  have h2 : Ev (fun k => slices_Reverse_int_int.f k l) l.reverse := by
    refine Ev.congr (fun k => ?_) h
    simp only [slices_Reverse_int_int.f]
    rw [wm1 l.length (by omega)]
    congr 1
    omega
  have hc : slices_Clone_int_int.f l = some l := by unfold slices_Clone_int_int.f; rw [if_pos (by omega)]
  simp only [impl_mirrored.f, hc, Option.bind_some]
  exact Ev.bind h2 (Ev.now _)
theorem both (l : List Int) (hl : l.length ≤ 1048576) : ∃ (v : List Int) (b : Bool), v.length ≤ 1048576 ∧ Ev (fun k => spec_MirrorHeights.f k l) (v, b) ∧ Ev (fun k => impl_MirrorHeights.f k l) (v, b) := by
  by_cases h : good l = true
  · refine ⟨l.reverse, true, by simpa using hl, ?_, ?_⟩
    · refine Ev.bind (good_ev l hl) ?_
      simp only [h, if_true]
      exact Ev.bind (back_ev l hl) (Ev.now _)
    · simp only [impl_MirrorHeights.f, impl_good, Option.bind_some, h, if_true]
      exact Ev.bind (mirrored_ev l hl) (Ev.now _)
  · refine ⟨[], false, by simp, ?_, ?_⟩
    · refine Ev.bind (good_ev l hl) ?_
      simp only [h, if_false]
      exact Ev.now _
    · simp only [impl_MirrorHeights.f, impl_good, Option.bind_some, h, if_false]
      exact Ev.now _
/-! the law's own steps, for functions of heights that tell a list -/
theorem law_tail (l v : List Int) (b : Bool) (hl : l.length ≤ 1048576) (hv : v.length ≤ 1048576) (hs : Ev (fun k => spec_MirrorHeights.f k l) (v, b)) (hi : Ev (fun k => impl_MirrorHeights.f k l) (v, b)) :
    Ev (fun k => laws_FnExactMirrorHeights.f k l) true := by
  refine Ev.congr (fun k => by unfold laws_FnExactMirrorHeights.f; rw [if_neg (by omega)]) ?_
  refine Ev.bind (toIntS_ev l hl) ?_
  refine Ev.bind hs ?_
  refine Ev.bind (toIntS_ev l hl) ?_
  refine Ev.bind hi ?_
  refine Ev.bind (eqIntS_ev v hv) ?_
  simp only [bne_self_eq_false, if_true]
  refine Ev.step (fun k => by rw [laws_FnExactMirrorHeights.j0]) ?_
  simp only [Bool.false_eq_true, if_false]
  refine Ev.bind (toIntS_ev l hl) ?_
  refine Ev.bind (eqIntS_ev l hl) ?_
  simp only [if_true]
  refine Ev.bind (mark_ev l hl) ?_
  refine Ev.congr (fun k => by rw [if_neg (by simp; omega)]) ?_
  refine Ev.bind (eqIntS_ev v hv) ?_
  simp only [bne_self_eq_false, if_true]
  refine Ev.step (fun k => by rw [laws_FnExactMirrorHeights.j1]) ?_
  simp only [Bool.false_eq_true, if_false]
  refine Ev.bind (mark_ev v hv) ?_
  refine Ev.bind (held_ev v.length hv) ?_
  refine Ev.congr (fun k => by rw [if_neg (by simp; omega), if_pos rfl]) ?_
  refine Ev.bind (toIntS_ev l hl) ?_
  refine Ev.bind hi ?_
  refine Ev.bind (eqIntS_ev v hv) ?_
  simp only [bne_self_eq_false, if_true]
  refine Ev.step (fun k => by rw [laws_FnExactMirrorHeights.j2]) ?_
  simp only [Bool.false_eq_true, if_false]
  refine Ev.bind (held_ev v.length hv) ?_
  refine Ev.congr (fun k => by rw [if_neg (by simp; omega), if_pos rfl]) ?_
  exact Ev.now _
theorem FnExactMirrorHeights : laws_FnExactMirrorHeights.Pure := by
  intro l _ _ _
  by_cases hl : l.length ≤ 1048576
  · obtain ⟨v, b, hv, hs, hi⟩ := both l hl
    exact (law_tail l v b hl hv hs hi).rounds
  · exact ⟨0, by unfold laws_FnExactMirrorHeights.f; rw [if_pos (by omega)]⟩

end Go.Proofs.Ythljbhianagobab.Pure
