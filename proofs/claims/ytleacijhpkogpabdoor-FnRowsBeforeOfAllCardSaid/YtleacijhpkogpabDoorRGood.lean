/- Is a text a row, as the reference tells it: contracts over the printed walk of spec.rwGood. -/
import Derived.Test.YtleacijhpkogpabDoorPFnRowsBeforeOfAllx12
import Derived.Test.YtleacijhpkogpabDoorRPlain
namespace Go.Proofs.YtleacijhpkogpabDoor.RGood
open Go.RowKit Go.Proofs.YtleacijhpkogpabDoorW.PrintWords Go.Proofs.YtleacijhpkogpabDoorW.PrintLast Go.Proofs.YtleacijhpkogpabDoorW.PrintMore Go.Proofs.YtleacijhpkogpabDoor.PFnRowsBeforeOfAll Go.Proofs.YtleacijhpkogpabDoor.RPlain
set_option linter.unusedVariables false
set_option linter.unusedSimpArgs false

/-! plain words -/
theorem w1 (i : Nat) (h : i ≤ 4611686018427387904) : wrap64 ((i : Int) + 1) = ((i + 1 : Nat) : Int) := by unfold wrap64; omega
theorem rd_nat (l : List Int) (i : Nat) (h : i < l.length) : rd l (i : Int) = l[i] := by
  simp [rd, List.getD_eq_getElem?_getD, List.getElem?_eq_getElem h]
theorem drop_cons (l : List Int) (i : Nat) (h : i < l.length) : l.drop i = rd l (i : Int) :: l.drop (i + 1) := by
  rw [List.drop_eq_getElem_cons h, rd_nat l i h]
theorem bt_at' (s : ByteArray) (i : Nat) (h : i < s.data.toList.length) : bt s (i : Int) = ((s.data.toList[i]).toNat : Int) := by
  have h2 : i < s.size := by rw [sz]; exact h
  unfold bt
  rw [dif_pos (show ((i : Nat) : Int).toNat < s.size by simpa using h2)]
  rfl
theorem bt_eq (s : ByteArray) (i : Nat) (h : i < s.data.toList.length) (c : UInt8) : (bt s (i : Int) = (c.toNat : Int)) ↔ s.data.toList[i] = c := by
  rw [bt_at' s i h]
  constructor
  · intro e
    exact UInt8.toNat_inj.1 (by omega)
  · intro e
    rw [e]
theorem bt_60 (s : ByteArray) (i : Nat) (h : i < s.data.toList.length) : (bt s (i : Int) = 60) ↔ s.data.toList[i] = 60 := bt_eq s i h 60
theorem bt_62 (s : ByteArray) (i : Nat) (h : i < s.data.toList.length) : (bt s (i : Int) = 62) ↔ s.data.toList[i] = 62 := bt_eq s i h 62
theorem good_loop (s : ByteArray) (hs : s.size ≤ 1048576) : ∀ (d i : Nat), i + d = s.size →
    Ev (fun k => spec_rwGood.l0 k s (i : Int)) ((s.data.toList.drop i).all (fun b => b == 60 || b == 62)) := by
  have hz := sz s
  intro d
  induction d with
  | zero =>
    intro i hi
    refine Ev.step (f := fun _ => some ((s.data.toList.drop i).all (fun b => b == 60 || b == 62))) (fun k => ?_) (Ev.now _)
    simp only [spec_rwGood.l0]
    rw [if_neg (by omega), List.drop_eq_nil_of_le (by omega)]
    rfl
  | succ d ih =>
    intro i hi
    have hlt : i < s.data.toList.length := by omega
    rw [List.drop_eq_getElem_cons hlt, List.all_cons]
    by_cases h1 : s.data.toList[i] = 60
    · refine Ev.step (f := fun k => spec_rwGood.l0 k s ((i + 1 : Nat) : Int)) (fun k => ?_) ?_
      · simp only [spec_rwGood.l0]
        rw [if_pos (by omega), if_pos (by omega), if_pos ((bt_60 s i hlt).2 h1), w1 i (by omega)]
      · rw [h1]
        exact ih (i + 1) (by omega)
    · have e1 : ¬ bt s (i : Int) = 60 := fun e => h1 ((bt_60 s i hlt).1 e)
      by_cases h2 : s.data.toList[i] = 62
      · refine Ev.step (f := fun k => spec_rwGood.l0 k s ((i + 1 : Nat) : Int)) (fun k => ?_) ?_
        · simp only [spec_rwGood.l0]
          rw [if_pos (by omega), if_pos (by omega), if_neg e1, if_pos ((bt_62 s i hlt).2 h2), w1 i (by omega)]
        · rw [h2]
          exact ih (i + 1) (by omega)
      · have e2 : ¬ bt s (i : Int) = 62 := fun e => h2 ((bt_62 s i hlt).1 e)
        refine Ev.step (f := fun _ => some false) (fun k => ?_) ?_
        · simp only [spec_rwGood.l0]
          rw [if_pos (by omega), if_pos (by omega), if_neg e1, if_neg e2]
        · rw [beq_eq_false_iff_ne.2 h1, beq_eq_false_iff_ne.2 h2]
          exact Ev.now _
theorem good_ev (s : ByteArray) : Ev (fun k => spec_rwGood.f k s) (rowB s) := by
  have hz := sz s
  unfold rowB
  by_cases h1 : 1 ≤ s.size
  · by_cases h2 : s.size ≤ 60
    · have e : ∀ k, spec_rwGood.f k s = spec_rwGood.l0 k s ((0 : Nat) : Int) := by
        intro k
        unfold spec_rwGood.f spec_l1In.f
        rw [if_pos (by omega), decide_eq_true (show ((s.size : Nat) : Int) ≤ 60 by omega)]
        simp
      refine Ev.congr e ?_
      have := good_loop s (by omega) s.size 0 (by omega)
      rw [decide_eq_true h1, decide_eq_true h2]
      simpa using this
    · refine Ev.congr (f := fun _ => some false) (fun k => ?_) ?_
      · unfold spec_rwGood.f spec_l1In.f
        rw [if_pos (by omega), decide_eq_false (show ¬ ((s.size : Nat) : Int) ≤ 60 by omega)]
        simp
      · rw [decide_eq_false h2]
        simp only [Bool.and_false, Bool.false_and]
        exact Ev.now _
  · refine Ev.congr (f := fun _ => some false) (fun k => ?_) ?_
    · unfold spec_rwGood.f spec_l1In.f
      rw [if_neg (by omega)]
      simp
    · rw [decide_eq_false h1]
      simp only [Bool.false_and]
      exact Ev.now _
theorem good_calls (s : ByteArray) (w : World) :
    Calls Tryd.prog 57 #[.string s] w fun e w' => e = .returned (.bool (rowB s)) ∧ Drawn0 w w' := by
  obtain ⟨k, hk⟩ := (good_ev s).rounds
  exact spec_rwGood.calls k s _ w hk
end Go.Proofs.YtleacijhpkogpabDoor.RGood
