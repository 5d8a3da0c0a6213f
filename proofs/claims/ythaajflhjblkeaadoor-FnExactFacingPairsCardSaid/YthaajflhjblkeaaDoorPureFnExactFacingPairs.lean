/- The program and the reference tell the same pairs who face each other, for every string, and the list is new memory. -/
import Derived.Test.YthaajflhjblkeaaDoorPFnExactFacingPairsx2
namespace Go.Proofs.YthaajflhjblkeaaDoor.Pure
open Go.RowKit Go.Proofs.YthaajflhjblkeaaDoor.PFnExactFacingPairs Go.Proofs.YthaajflhjblkeaaDoorW.PrintWords Go.Proofs.YthaajflhjblkeaaDoorW.PrintLast Go.Proofs.YthaajflhjblkeaaDoorW.PrintMore
set_option linter.unusedVariables false
set_option linter.unusedSimpArgs false

/-! plain words -/
theorem w1 (i : Nat) (h : i ≤ 4611686018427387904) : wrap64 ((i : Int) + 1) = ((i + 1 : Nat) : Int) := by unfold wrap64; omega
theorem rd_nat (l : List Int) (i : Nat) (h : i < l.length) : rd l (i : Int) = l[i] := by
  simp [rd, List.getD_eq_getElem?_getD, List.getElem?_eq_getElem h]
theorem drop_cons (l : List Int) (i : Nat) (h : i < l.length) : l.drop i = rd l (i : Int) :: l.drop (i + 1) := by
  rw [List.drop_eq_getElem_cons h, rd_nat l i h]
/-! rows as lists of signs -/
theorem sz (s : ByteArray) : s.size = s.data.toList.length := by
  rw [Array.length_toList]; rfl
theorem bt_at' (s : ByteArray) (i : Nat) (h : i < s.data.toList.length) : bt s (i : Int) = ((s.data.toList[i]).toNat : Int) := by
  have h2 : i < s.size := by rw [sz]; exact h
  unfold bt
  rw [dif_pos (show ((i : Nat) : Int).toNat < s.size by simpa using h2)]
  rfl
theorem bt_eq (s : ByteArray) (i : Nat) (h : i < s.data.toList.length) (c : UInt8) : (bt s (i : Int) = (c.toNat : Int)) ↔ s.data.toList[i] = c := by
  rw [bt_at' s i h]
  constructor
  · intro e
    exact UInt8.toNat_inj.1 (by omega)
  · intro e
    rw [e]
theorem bt_60 (s : ByteArray) (i : Nat) (h : i < s.data.toList.length) : (bt s (i : Int) = 60) ↔ s.data.toList[i] = 60 := bt_eq s i h 60
theorem bt_62 (s : ByteArray) (i : Nat) (h : i < s.data.toList.length) : (bt s (i : Int) = 62) ↔ s.data.toList[i] = 62 := bt_eq s i h 62
theorem good_loop (s : ByteArray) (hs : s.size ≤ 1048576) : ∀ (d i : Nat), i + d = s.size →
    Ev (fun k => spec_rwGood.l0 k s (i : Int)) ((s.data.toList.drop i).all (fun b => b == 60 || b == 62)) := by
  have hz := sz s
  intro d
  induction d with
  | zero =>
    intro i hi
    refine Ev.step (f := fun _ => some ((s.data.toList.drop i).all (fun b => b == 60 || b == 62))) (fun k => ?_) (Ev.now _)
    simp only [spec_rwGood.l0]
    rw [if_neg (by omega), List.drop_eq_nil_of_le (by omega)]
    rfl
  | succ d ih =>
    intro i hi
    have hlt : i < s.data.toList.length := by omega
    rw [List.drop_eq_getElem_cons hlt, List.all_cons]
    by_cases h1 : s.data.toList[i] = 60
    · refine Ev.step (f := fun k => spec_rwGood.l0 k s ((i + 1 : Nat) : Int)) (fun k => ?_) ?_
      · simp only [spec_rwGood.l0]
        rw [if_pos (by omega), if_pos (by omega), if_pos ((bt_60 s i hlt).2 h1), w1 i (by omega)]
      · rw [h1]
        exact ih (i + 1) (by omega)
    · have e1 : ¬ bt s (i : Int) = 60 := fun e => h1 ((bt_60 s i hlt).1 e)
      by_cases h2 : s.data.toList[i] = 62
      · refine Ev.step (f := fun k => spec_rwGood.l0 k s ((i + 1 : Nat) : Int)) (fun k => ?_) ?_
        · simp only [spec_rwGood.l0]
          rw [if_pos (by omega), if_pos (by omega), if_neg e1, if_pos ((bt_62 s i hlt).2 h2), w1 i (by omega)]
        · rw [h2]
          exact ih (i + 1) (by omega)
      · have e2 : ¬ bt s (i : Int) = 62 := fun e => h2 ((bt_62 s i hlt).1 e)
        refine Ev.step (f := fun _ => some false) (fun k => ?_) ?_
        · simp only [spec_rwGood.l0]
          rw [if_pos (by omega), if_pos (by omega), if_neg e1, if_neg e2]
        · rw [beq_eq_false_iff_ne.2 h1, beq_eq_false_iff_ne.2 h2]
          exact Ev.now _
theorem good_ev (s : ByteArray) : Ev (fun k => spec_rwGood.f k s) (rowB s) := by
  have hz := sz s
  unfold rowB
  by_cases h1 : 1 ≤ s.size
  · by_cases h2 : s.size ≤ 60
    · have e : ∀ k, spec_rwGood.f k s = spec_rwGood.l0 k s ((0 : Nat) : Int) := by
        intro k
        unfold spec_rwGood.f spec_l1In.f
        rw [if_pos (by omega), decide_eq_true (show ((s.size : Nat) : Int) ≤ 60 by omega)]
        simp
      refine Ev.congr e ?_
      have := good_loop s (by omega) s.size 0 (by omega)
      rw [decide_eq_true h1, decide_eq_true h2]
      simpa using this
    · refine Ev.congr (f := fun _ => some false) (fun k => ?_) ?_
      · unfold spec_rwGood.f spec_l1In.f
        rw [if_pos (by omega), decide_eq_false (show ¬ ((s.size : Nat) : Int) ≤ 60 by omega)]
        simp
      · rw [decide_eq_false h2]
        simp only [Bool.and_false, Bool.false_and]
        exact Ev.now _
  · refine Ev.congr (f := fun _ => some false) (fun k => ?_) ?_
    · unfold spec_rwGood.f spec_l1In.f
      rw [if_neg (by omega)]
      simp
    · rw [decide_eq_false h1]
      simp only [Bool.false_and]
      exact Ev.now _
theorem rowB_len {s : ByteArray} (h : rowB s = true) : 1 ≤ s.size ∧ s.size ≤ 60 := by
  unfold rowB at h
  simp only [Bool.and_eq_true, decide_eq_true_eq] at h
  exact h.1
theorem rowB_all {s : ByteArray} (h : rowB s = true) : s.data.toList.all (fun b => b == 60 || b == 62) = true := by
  unfold rowB at h
  simp only [Bool.and_eq_true] at h
  exact h.2
/-! who face each other -/
def prs : Nat → List UInt8 → List Int
  | i, a :: b :: t => if a = 62 ∧ b = 60 then (i : Int) :: prs (i + 1) (b :: t) else prs (i + 1) (b :: t)
  | _, _ => []
theorem prs_drop (l : List UInt8) (i : Nat) (h : i + 1 < l.length) : prs i (l.drop i) = if l[i] = 62 ∧ l[i + 1] = 60 then (i : Int) :: prs (i + 1) (l.drop (i + 1)) else prs (i + 1) (l.drop (i + 1)) := by
  rw [List.drop_eq_getElem_cons (show i < l.length by omega), List.drop_eq_getElem_cons h, prs]
theorem prs_end (l : List UInt8) (i : Nat) (h : l.length ≤ i + 1) : prs i (l.drop i) = [] := by
  have hl : (l.drop i).length ≤ 1 := by rw [List.length_drop]; omega
  match l.drop i, hl with
  | [], _ => rfl
  | [_], _ => rfl
  | _ :: _ :: _, h => simp at h
theorem prs_len : ∀ (i : Nat) (l : List UInt8), (prs i l).length ≤ l.length
  | _, [] => by simp [prs]
  | _, [_] => by simp [prs]
  | i, a :: b :: t => by
    have ih := prs_len (i + 1) (b :: t)
    rw [prs]
    split
    · simp only [List.length_cons] at ih ⊢; omega
    · simp only [List.length_cons] at ih ⊢; omega
theorem pairs_loop (s : ByteArray) (hs : s.size ≤ 1048576) : ∀ (d i : Nat) (acc : List Int), i + d = s.size → acc.length ≤ i →
    Ev (fun k => spec_rwPairs.l0 k s acc (i : Int)) (acc ++ prs i (s.data.toList.drop i)) := by
  have hz := sz s
  intro d
  induction d with
  | zero =>
    intro i acc hi ha
    refine Ev.step (f := fun _ => some acc) (fun k => ?_) ?_
    · simp only [spec_rwPairs.l0]
      rw [w1 i (by omega), if_neg (by omega)]
    · rw [prs_end _ _ (by omega), List.append_nil]
      exact Ev.now _
  | succ d ih =>
    intro i acc hi ha
    by_cases hl : i + 1 < s.size
    · have h1 : i < s.data.toList.length := by omega
      have h2 : i + 1 < s.data.toList.length := by omega
      rw [prs_drop _ i h2]
      by_cases c1 : s.data.toList[i] = 62
      · by_cases c2 : s.data.toList[i + 1] = 60
        · have hr := ih (i + 1) (acc ++ [(i : Int)]) (by omega) (by simp; omega)
          rw [if_pos ⟨c1, c2⟩]
          rw [List.append_assoc] at hr
          refine Ev.step (f := fun k => spec_rwPairs.l0 k s (acc ++ [(i : Int)]) ((i + 1 : Nat) : Int)) (fun k => ?_) hr
          simp only [spec_rwPairs.l0]
          rw [w1 i (by omega), if_pos (by omega), if_pos (by omega), if_pos (by omega), if_pos ((bt_62 s i h1).2 c1), if_pos (by omega), if_pos ((bt_60 s (i + 1) h2).2 c2), if_pos (by omega)]
        · rw [if_neg (fun h => c2 h.2)]
          refine Ev.step (f := fun k => spec_rwPairs.l0 k s acc ((i + 1 : Nat) : Int)) (fun k => ?_) (ih (i + 1) acc (by omega) (by omega))
          simp only [spec_rwPairs.l0]
          rw [w1 i (by omega), if_pos (by omega), if_pos (by omega), if_pos (by omega), if_pos ((bt_62 s i h1).2 c1), if_pos (by omega), if_neg (fun e => c2 ((bt_60 s (i + 1) h2).1 e))]
      · rw [if_neg (fun h => c1 h.1)]
        refine Ev.step (f := fun k => spec_rwPairs.l0 k s acc ((i + 1 : Nat) : Int)) (fun k => ?_) (ih (i + 1) acc (by omega) (by omega))
        simp only [spec_rwPairs.l0]
        rw [w1 i (by omega), if_pos (by omega), if_pos (by omega), if_pos (by omega), if_neg (fun e => c1 ((bt_62 s i h1).1 e))]
    · refine Ev.step (f := fun _ => some acc) (fun k => ?_) ?_
      · simp only [spec_rwPairs.l0]
        rw [w1 i (by omega), if_neg (by omega)]
      · rw [prs_end _ _ (by omega), List.append_nil]
        exact Ev.now _
theorem pairs_ev (s : ByteArray) (hs : s.size ≤ 1048576) : Ev (fun k => spec_rwPairs.f k s) (prs 0 s.data.toList) := by
  have := pairs_loop s hs s.size 0 [] (by omega) (by simp)
  simpa [spec_rwPairs.f] using this
/-! the program's own list of who face each other -/
theorem facing_loop (s : ByteArray) (hs : s.size ≤ 1048576) (h0 : 1 ≤ s.size) : ∀ (d i : Nat) (acc : List Int), i + d + 1 = s.size → acc.length ≤ i →
    Ev (fun k => impl_facing.l0 k s acc ((s.size - 1 : Nat) : Int) (i : Int)) (acc ++ prs i (s.data.toList.drop i)) := by
  have hz := sz s
  intro d
  induction d with
  | zero =>
    intro i acc hi ha
    refine Ev.step (f := fun _ => some acc) (fun k => ?_) ?_
    · simp only [impl_facing.l0]
      rw [if_neg (by omega)]
    · rw [prs_end _ _ (by omega), List.append_nil]
      exact Ev.now _
  | succ d ih =>
    intro i acc hi ha
    have h1 : i < s.data.toList.length := by omega
    have h2 : i + 1 < s.data.toList.length := by omega
    rw [prs_drop _ i h2]
    by_cases c1 : s.data.toList[i] = 62
    · by_cases c2 : s.data.toList[i + 1] = 60
      · have hr := ih (i + 1) (acc ++ [(i : Int)]) (by omega) (by simp; omega)
        rw [if_pos ⟨c1, c2⟩]
        rw [List.append_assoc] at hr
        refine Ev.step (f := fun k => impl_facing.l0 k s (acc ++ [(i : Int)]) ((s.size - 1 : Nat) : Int) ((i + 1 : Nat) : Int)) (fun k => ?_) hr
        simp only [impl_facing.l0]
        rw [w1 i (by omega), if_pos (by omega), if_pos (by omega), if_pos (by omega), if_pos ((bt_62 s i h1).2 c1), if_pos (by omega), if_pos (by omega), if_pos ((bt_60 s (i + 1) h2).2 c2), if_pos (by omega)]
      · rw [if_neg (fun h => c2 h.2)]
        refine Ev.step (f := fun k => impl_facing.l0 k s acc ((s.size - 1 : Nat) : Int) ((i + 1 : Nat) : Int)) (fun k => ?_) (ih (i + 1) acc (by omega) (by omega))
        simp only [impl_facing.l0]
        rw [w1 i (by omega), if_pos (by omega), if_pos (by omega), if_pos (by omega), if_pos ((bt_62 s i h1).2 c1), if_pos (by omega), if_pos (by omega), if_neg (fun e => c2 ((bt_60 s (i + 1) h2).1 e))]
    · rw [if_neg (fun h => c1 h.1)]
      refine Ev.step (f := fun k => impl_facing.l0 k s acc ((s.size - 1 : Nat) : Int) ((i + 1 : Nat) : Int)) (fun k => ?_) (ih (i + 1) acc (by omega) (by omega))
      simp only [impl_facing.l0]
      rw [w1 i (by omega), if_pos (by omega), if_pos (by omega), if_pos (by omega), if_neg (fun e => c1 ((bt_62 s i h1).1 e))]
theorem facing_ev (s : ByteArray) (hs : s.size ≤ 1048576) (h0 : 1 ≤ s.size) : Ev (fun k => impl_facing.f k s) (prs 0 s.data.toList) := by
  have := facing_loop s hs h0 (s.size - 1) 0 [] (by omega) (by simp)
  refine Ev.congr (fun k => ?_) this
  unfold impl_facing.f
  congr 1
  unfold wrap64
  omega
theorem eqIntS_loop (l : List Int) (hl : l.length ≤ 1048576) : ∀ (d i : Nat), i + d = l.length → Ev (fun k => laws_eqIntS.l0 k l l (i : Int)) true := by
  intro d
  induction d with
  | zero =>
    intro i hi
    refine Ev.step (f := fun _ => some true) (fun k => ?_) (Ev.now _)
    simp only [laws_eqIntS.l0]
    rw [if_neg (by omega)]
  | succ d ih =>
    intro i hi
    refine Ev.step (f := fun k => laws_eqIntS.l0 k l l ((i + 1 : Nat) : Int)) (fun k => ?_) (ih (i + 1) (by omega))
    simp only [laws_eqIntS.l0]
    rw [if_pos (by omega), if_pos (by omega), if_pos (by omega), if_pos trivial, w1 i (by omega)]
theorem eqIntS_ev (l : List Int) (hl : l.length ≤ 1048576) : Ev (fun k => laws_eqIntS.f k l l) true := by
  refine Ev.congr (f := fun k => laws_eqIntS.l0 k l l ((0 : Nat) : Int)) (fun k => ?_) (eqIntS_loop l hl l.length 0 (by omega))
  simp only [laws_eqIntS.f]
  rw [if_pos trivial]
  rfl
def upto : Nat → Nat → List Int
  | _, 0 => []
  | i, n + 1 => ((i + 1 : Nat) : Int) :: upto (i + 1) n
theorem upto_len : ∀ n i, (upto i n).length = n
  | 0, _ => rfl
  | n + 1, i => by simp [upto, upto_len n (i + 1)]
theorem mark_loop (n : Nat) (hn : n ≤ 1048576) : ∀ (d i : Nat) (x : List Int), x.length = n → i + d = n →
    Ev (fun k => laws_markIntS.l0 k x ((i + 1 : Nat) : Int) (i : Int)) (((n + 1 : Nat) : Int), x.take i ++ upto i d) := by
  intro d
  induction d with
  | zero =>
    intro i x hx hi
    refine Ev.step (f := fun _ => some (((i + 1 : Nat) : Int), x)) (fun k => ?_) ?_
    · simp only [laws_markIntS.l0]
      rw [if_neg (by omega)]
    · rw [List.take_of_length_le (by omega)]
      simp only [upto, List.append_nil]
      rw [show i = n by omega]
      exact Ev.now _
  | succ d ih =>
    intro i x hx hi
    have hr := ih (i + 1) (x.set i ((i + 1 : Nat) : Int)) (by simpa using hx) (by omega)
    have e : (x.set i ((i + 1 : Nat) : Int)).take (i + 1) ++ upto (i + 1) d = x.take i ++ upto i (d + 1) := by
      rw [List.take_succ_eq_append_getElem (by simp; omega), List.getElem_set_self, List.append_assoc]
      simp [List.take_set_of_le, upto]
    rw [e] at hr
    refine Ev.step (f := fun k => laws_markIntS.l0 k (x.set i ((i + 1 : Nat) : Int)) ((i + 1 + 1 : Nat) : Int) ((i + 1 : Nat) : Int)) (fun k => ?_) hr
    simp only [laws_markIntS.l0]
    rw [if_pos (by omega), if_pos (by omega), w1 i (by omega), w1 (i + 1) (by omega)]
    rfl
theorem mark_ev (x : List Int) (hx : x.length ≤ 1048576) : Ev (fun k => laws_markIntS.f k x 1) (((x.length + 1 : Nat) : Int), upto 0 x.length) := by
  have := mark_loop x.length hx x.length 0 x rfl (by omega)
  simpa [laws_markIntS.f] using this
theorem held_loop (n : Nat) (hn : n ≤ 1048576) : ∀ (d i : Nat) (p : List Int), p.length = i → i + d = n →
    Ev (fun k => laws_heldIntS.l0 k (p ++ upto i d) ((i + 1 : Nat) : Int) (i : Int)) (((n + 1 : Nat) : Int)) := by
  intro d
  induction d with
  | zero =>
    intro i p hp hi
    refine Ev.step (f := fun _ => some (((i + 1 : Nat) : Int))) (fun k => ?_) ?_
    · simp only [laws_heldIntS.l0]
      rw [if_neg (by simp [upto]; omega)]
    · rw [show i = n by omega]
      exact Ev.now _
  | succ d ih =>
    intro i p hp hi
    have hr := ih (i + 1) (p ++ [((i + 1 : Nat) : Int)]) (by simp [hp]) (by omega)
    have e : (p ++ [((i + 1 : Nat) : Int)]) ++ upto (i + 1) d = p ++ upto i (d + 1) := by simp [upto]
    rw [e] at hr
    have hlen : (p ++ upto i (d + 1)).length = i + (d + 1) := by simp [upto_len, hp]
    have hrd : rd (p ++ upto i (d + 1)) (i : Int) = ((i + 1 : Nat) : Int) := by
      rw [rd_nat _ i (by omega), List.getElem_append_right (by omega)]
      simp [hp, upto]
    refine Ev.step (f := fun k => laws_heldIntS.l0 k (p ++ upto i (d + 1)) ((i + 1 + 1 : Nat) : Int) ((i + 1 : Nat) : Int)) (fun k => ?_) hr
    simp only [laws_heldIntS.l0]
    rw [hrd, hlen, if_pos (by omega), if_pos (by omega), if_pos rfl, w1 i (by omega), w1 (i + 1) (by omega)]
theorem held_ev (n : Nat) (hn : n ≤ 1048576) : Ev (fun k => laws_heldIntS.f k (upto 0 n) 1) (((n + 1 : Nat) : Int)) := by
  have := held_loop n hn n 0 [] rfl (by omega)
  simpa [laws_heldIntS.f] using this
theorem both (s : ByteArray) (hs : s.size ≤ 1048576) : ∃ (v : List Int) (b : Bool), v.length ≤ 1048576 ∧ Ev (fun k => spec_FacingPairs.f k s) (v, b) ∧ Ev (fun k => impl_FacingPairs.f k s) (v, b) := by
  by_cases h : rowB s = true
  · have h60 := rowB_len h
    have hl := prs_len 0 s.data.toList
    have hz := sz s
    refine ⟨prs 0 s.data.toList, true, by omega, ?_, ?_⟩
    · refine Ev.bind (good_ev s) ?_
      simp only [h, if_true]
      exact Ev.bind (pairs_ev s hs) (Ev.now _)
    · simp only [impl_FacingPairs.f, impl_isRow.f, Option.bind_some, h, if_true]
      exact Ev.bind (facing_ev s hs h60.1) (Ev.now _)
  · refine ⟨[], false, by simp, ?_, ?_⟩
    · refine Ev.bind (good_ev s) ?_
      simp only [h, if_false]
      exact Ev.now _
    · simp only [impl_FacingPairs.f, impl_isRow.f, Option.bind_some, h, if_false]
      exact Ev.now _
/-! the law's own steps, for functions of a row that tell a list and whether there is one -/
theorem FnExactFacingPairs : laws_FnExactFacingPairs.Pure := by
  intro s _
  by_cases hs : s.size ≤ 1048576
  · obtain ⟨v, b, hv, h1, h2⟩ := both s hs
    refine Ev.rounds (r := true) ?_
    refine Ev.congr (fun k => by unfold laws_FnExactFacingPairs.f; rw [if_neg (by omega)]) ?_
    refine Ev.bind h1 ?_
    refine Ev.bind h2 ?_
    refine Ev.bind (eqIntS_ev v hv) ?_
    simp only [bne_self_eq_false, if_true]
    refine Ev.step (fun k => by rw [laws_FnExactFacingPairs.j0]) ?_
    simp only [Bool.false_eq_true, if_false]
    refine Ev.bind (mark_ev v hv) ?_
    refine Ev.bind (held_ev v.length hv) ?_
    refine Ev.congr (fun k => by rw [if_neg (by simp; omega), if_pos rfl]) ?_
    refine Ev.bind h2 ?_
    refine Ev.bind (eqIntS_ev v hv) ?_
    simp only [bne_self_eq_false, if_true]
    refine Ev.step (fun k => by rw [laws_FnExactFacingPairs.j1]) ?_
    simp only [Bool.false_eq_true, if_false]
    refine Ev.bind (held_ev v.length hv) ?_
    refine Ev.congr (fun k => by rw [if_neg (by simp; omega), if_pos rfl]) ?_
    exact Ev.now _
  · exact ⟨0, by unfold laws_FnExactFacingPairs.f; rw [if_pos (by omega)]⟩

end Go.Proofs.YthaajflhjblkeaaDoor.Pure
