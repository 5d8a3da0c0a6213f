/- The program and the reference tell the same turned row, for every string. -/
import Derived.Test.YthaajflhjblkeaaDoorPFnExactTurnedRowx1
namespace Go.Proofs.YthaajflhjblkeaaDoor.Pure
open Go.RowKit Go.Proofs.YthaajflhjblkeaaDoor.PFnExactTurnedRow Go.Proofs.YthaajflhjblkeaaDoorW.PrintWords Go.Proofs.YthaajflhjblkeaaDoorW.PrintLast Go.Proofs.YthaajflhjblkeaaDoorW.PrintMore
set_option linter.unusedVariables false
set_option linter.unusedSimpArgs false

/-! plain words -/
theorem w1 (i : Nat) (h : i ≤ 4611686018427387904) : wrap64 ((i : Int) + 1) = ((i + 1 : Nat) : Int) := by unfold wrap64; omega
theorem rd_nat (l : List Int) (i : Nat) (h : i < l.length) : rd l (i : Int) = l[i] := by
  simp [rd, List.getD_eq_getElem?_getD, List.getElem?_eq_getElem h]
theorem drop_cons (l : List Int) (i : Nat) (h : i < l.length) : l.drop i = rd l (i : Int) :: l.drop (i + 1) := by
  rw [List.drop_eq_getElem_cons h, rd_nat l i h]
/-! rows as lists of signs -/
theorem sz (s : ByteArray) : s.size = s.data.toList.length := by
  rw [Array.length_toList]; rfl
theorem bt_at' (s : ByteArray) (i : Nat) (h : i < s.data.toList.length) : bt s (i : Int) = ((s.data.toList[i]).toNat : Int) := by
  have h2 : i < s.size := by rw [sz]; exact h
  unfold bt
  rw [dif_pos (show ((i : Nat) : Int).toNat < s.size by simpa using h2)]
  rfl
theorem bt_eq (s : ByteArray) (i : Nat) (h : i < s.data.toList.length) (c : UInt8) : (bt s (i : Int) = (c.toNat : Int)) ↔ s.data.toList[i] = c := by
  rw [bt_at' s i h]
  constructor
  · intro e
    exact UInt8.toNat_inj.1 (by omega)
  · intro e
    rw [e]
theorem bt_60 (s : ByteArray) (i : Nat) (h : i < s.data.toList.length) : (bt s (i : Int) = 60) ↔ s.data.toList[i] = 60 := bt_eq s i h 60
theorem bt_62 (s : ByteArray) (i : Nat) (h : i < s.data.toList.length) : (bt s (i : Int) = 62) ↔ s.data.toList[i] = 62 := bt_eq s i h 62
theorem good_loop (s : ByteArray) (hs : s.size ≤ 1048576) : ∀ (d i : Nat), i + d = s.size →
    Ev (fun k => spec_rwGood.l0 k s (i : Int)) ((s.data.toList.drop i).all (fun b => b == 60 || b == 62)) := by
  have hz := sz s
  intro d
  induction d with
  | zero =>
    intro i hi
    refine Ev.step (f := fun _ => some ((s.data.toList.drop i).all (fun b => b == 60 || b == 62))) (fun k => ?_) (Ev.now _)
    simp only [spec_rwGood.l0]
    rw [if_neg (by omega), List.drop_eq_nil_of_le (by omega)]
    rfl
  | succ d ih =>
    intro i hi
    have hlt : i < s.data.toList.length := by omega
    rw [List.drop_eq_getElem_cons hlt, List.all_cons]
    by_cases h1 : s.data.toList[i] = 60
    · refine Ev.step (f := fun k => spec_rwGood.l0 k s ((i + 1 : Nat) : Int)) (fun k => ?_) ?_
      · simp only [spec_rwGood.l0]
        rw [if_pos (by omega), if_pos (by omega), if_pos ((bt_60 s i hlt).2 h1), w1 i (by omega)]
      · rw [h1]
        exact ih (i + 1) (by omega)
    · have e1 : ¬ bt s (i : Int) = 60 := fun e => h1 ((bt_60 s i hlt).1 e)
      by_cases h2 : s.data.toList[i] = 62
      · refine Ev.step (f := fun k => spec_rwGood.l0 k s ((i + 1 : Nat) : Int)) (fun k => ?_) ?_
        · simp only [spec_rwGood.l0]
          rw [if_pos (by omega), if_pos (by omega), if_neg e1, if_pos ((bt_62 s i hlt).2 h2), w1 i (by omega)]
        · rw [h2]
          exact ih (i + 1) (by omega)
      · have e2 : ¬ bt s (i : Int) = 62 := fun e => h2 ((bt_62 s i hlt).1 e)
        refine Ev.step (f := fun _ => some false) (fun k => ?_) ?_
        · simp only [spec_rwGood.l0]
          rw [if_pos (by omega), if_pos (by omega), if_neg e1, if_neg e2]
        · rw [beq_eq_false_iff_ne.2 h1, beq_eq_false_iff_ne.2 h2]
          exact Ev.now _
theorem good_ev (s : ByteArray) : Ev (fun k => spec_rwGood.f k s) (rowB s) := by
  have hz := sz s
  unfold rowB
  by_cases h1 : 1 ≤ s.size
  · by_cases h2 : s.size ≤ 60
    · have e : ∀ k, spec_rwGood.f k s = spec_rwGood.l0 k s ((0 : Nat) : Int) := by
        intro k
        unfold spec_rwGood.f spec_l1In.f
        rw [if_pos (by omega), decide_eq_true (show ((s.size : Nat) : Int) ≤ 60 by omega)]
        simp
      refine Ev.congr e ?_
      have := good_loop s (by omega) s.size 0 (by omega)
      rw [decide_eq_true h1, decide_eq_true h2]
      simpa using this
    · refine Ev.congr (f := fun _ => some false) (fun k => ?_) ?_
      · unfold spec_rwGood.f spec_l1In.f
        rw [if_pos (by omega), decide_eq_false (show ¬ ((s.size : Nat) : Int) ≤ 60 by omega)]
        simp
      · rw [decide_eq_false h2]
        simp only [Bool.and_false, Bool.false_and]
        exact Ev.now _
  · refine Ev.congr (f := fun _ => some false) (fun k => ?_) ?_
    · unfold spec_rwGood.f spec_l1In.f
      rw [if_neg (by omega)]
      simp
    · rw [decide_eq_false h1]
      simp only [Bool.false_and]
      exact Ev.now _
theorem rowB_len {s : ByteArray} (h : rowB s = true) : 1 ≤ s.size ∧ s.size ≤ 60 := by
  unfold rowB at h
  simp only [Bool.and_eq_true, decide_eq_true_eq] at h
  exact h.1
theorem rowB_all {s : ByteArray} (h : rowB s = true) : s.data.toList.all (fun b => b == 60 || b == 62) = true := by
  unfold rowB at h
  simp only [Bool.and_eq_true] at h
  exact h.2
def bs (l : List UInt8) : ByteArray := ⟨l.toArray⟩
theorem bs_snoc (l : List UInt8) (c : UInt8) : bs l ++ (⟨#[c]⟩ : ByteArray) = bs (l ++ [c]) := by
  apply ByteArray.ext
  rw [ByteArray.data_append]
  simp [bs]
theorem turned_loop (s : ByteArray) (hs : s.size ≤ 1048576) : ∀ (d i : Nat) (acc : List UInt8), i + d = s.size → acc.length = i →
    Ev (fun k => spec_TurnedRow.l0 k s (bs acc) (i : Int)) (bs (acc ++ (s.data.toList.drop i).map otherB), true) := by
  have hz := sz s
  intro d
  induction d with
  | zero =>
    intro i acc hi ha
    refine Ev.step (f := fun _ => some (bs acc, true)) (fun k => ?_) ?_
    · simp only [spec_TurnedRow.l0]
      rw [if_neg (by omega)]
    · rw [List.drop_eq_nil_of_le (by omega), List.map_nil, List.append_nil]
      exact Ev.now _
  | succ d ih =>
    intro i acc hi ha
    have hlt : i < s.data.toList.length := by omega
    have hr := ih (i + 1) (acc ++ [otherB s.data.toList[i]]) (by omega) (by simp; omega)
    rw [List.append_assoc] at hr
    rw [List.drop_eq_getElem_cons hlt, List.map_cons]
    have hsz : (bs acc).size + 1 ≤ 9223372036854775807 := by
      have : (bs acc).size = acc.length := rfl
      omega
    refine Ev.step (f := fun k => spec_TurnedRow.l0 k s (bs (acc ++ [otherB s.data.toList[i]])) ((i + 1 : Nat) : Int)) (fun k => ?_) hr
    simp only [spec_TurnedRow.l0, spec_rwOther.f]
    rw [if_pos (by omega), if_pos (by omega), w1 i (by omega)]
    by_cases c : s.data.toList[i] = 60
    · rw [if_pos ((bt_60 s i hlt).2 c), Option.bind_some, if_pos (show (bs acc).size + (⟨#[62]⟩ : ByteArray).size ≤ 9223372036854775807 from hsz), bs_snoc, otherB, if_pos c]
    · rw [if_neg (fun e => c ((bt_60 s i hlt).1 e)), Option.bind_some, if_pos (show (bs acc).size + (⟨#[60]⟩ : ByteArray).size ≤ 9223372036854775807 from hsz), bs_snoc, otherB, if_neg c]
theorem both (s : ByteArray) (hs : s.size ≤ 1048576) : ∃ (v : ByteArray) (b : Bool), Ev (fun k => spec_TurnedRow.f k s) (v, b) ∧ Ev (fun _ => impl_TurnedRow.f s) (v, b) := by
  by_cases h : rowB s = true
  · have h60 := rowB_len h
    refine ⟨bs (s.data.toList.map otherB), true, ?_, ?_⟩
    · refine Ev.bind (good_ev s) ?_
      simp only [h, if_true]
      have := turned_loop s hs s.size 0 [] (by omega) rfl
      simp only [List.drop_zero, List.nil_append] at this
      exact this
    · simp only [impl_TurnedRow.f, impl_isRow.f, Option.bind_some, h, if_true, impl_turned.f]
      rw [if_pos ⟨by omega, rowB_all h⟩]
      exact Ev.now _
  · refine ⟨⟨#[]⟩, false, ?_, ?_⟩
    · refine Ev.bind (good_ev s) ?_
      simp only [h, if_false]
      exact Ev.now _
    · simp only [impl_TurnedRow.f, impl_isRow.f, Option.bind_some, h, if_false]
      exact Ev.now _
/-! the law's own steps, for functions of a row that tell a value and whether there is one -/
theorem FnExactTurnedRow : laws_FnExactTurnedRow.Pure := by
  intro s _
  by_cases hs : s.size ≤ 1048576
  · obtain ⟨v, b, h1, h2⟩ := both s hs
    refine Ev.rounds (r := true) ?_
    refine Ev.congr (fun k => by unfold laws_FnExactTurnedRow.f; rw [if_neg (by omega)]) ?_
    refine Ev.bind h1 ?_
    refine Ev.bind h2 ?_
    simp only [bne_self_eq_false, Bool.false_eq_true, if_false, if_true]
    exact Ev.now _
  · exact ⟨0, by unfold laws_FnExactTurnedRow.f; rw [if_pos (by omega)]⟩

end Go.Proofs.YthaajflhjblkeaaDoor.Pure
