/- Is a text a row, as the reference tells it: contracts over the printed walk of spec.rwGood. -/
import Derived.Test.YtleacijhpkogpabDoorPFnRowsRestOfAllx2
import Derived.Test.YtleacijhpkogpabDoorRPlain
import Derived.Test.YtleacijhpkogpabDoorMl
import Derived.Test.YtleacijhpkogpabDoorPFnRowsRestOfAllx5
import Derived.WalkSpells
import Derived.Shelf.Abstract
import Derived.Test.YtleacijhpkogpabDoorPFnRowsRestOfAllx29
import Derived.Test.YtleacijhpkogpabDoorPFnRowsRestOfAllx44
namespace Go.Proofs.YtleacijhpkogpabDoor.RGood
open Go.RowKit Go.Proofs.YtleacijhpkogpabDoorW.PrintWords Go.Proofs.YtleacijhpkogpabDoorW.PrintLast Go.Proofs.YtleacijhpkogpabDoorW.PrintMore Go.Proofs.YtleacijhpkogpabDoor.PFnRowsRestOfAll Go.Proofs.YtleacijhpkogpabDoor.RPlain
set_option linter.unusedVariables false
set_option linter.unusedSimpArgs false

/-! plain words -/
theorem w1 (i : Nat) (h : i ≤ 4611686018427387904) : wrap64 ((i : Int) + 1) = ((i + 1 : Nat) : Int) := by unfold wrap64; omega
theorem rd_nat (l : List Int) (i : Nat) (h : i < l.length) : rd l (i : Int) = l[i] := by
  simp [rd, List.getD_eq_getElem?_getD, List.getElem?_eq_getElem h]
theorem drop_cons (l : List Int) (i : Nat) (h : i < l.length) : l.drop i = rd l (i : Int) :: l.drop (i + 1) := by
  rw [List.drop_eq_getElem_cons h, rd_nat l i h]
theorem bt_at' (s : ByteArray) (i : Nat) (h : i < s.data.toList.length) : bt s (i : Int) = ((s.data.toList[i]).toNat : Int) := by
  have h2 : i < s.size := by rw [sz]; exact h
  unfold bt
  rw [dif_pos (show ((i : Nat) : Int).toNat < s.size by simpa using h2)]
  rfl
theorem bt_eq (s : ByteArray) (i : Nat) (h : i < s.data.toList.length) (c : UInt8) : (bt s (i : Int) = (c.toNat : Int)) ↔ s.data.toList[i] = c := by
  rw [bt_at' s i h]
  constructor
  · intro e
    exact UInt8.toNat_inj.1 (by omega)
  · intro e
    rw [e]
theorem bt_60 (s : ByteArray) (i : Nat) (h : i < s.data.toList.length) : (bt s (i : Int) = 60) ↔ s.data.toList[i] = 60 := bt_eq s i h 60
theorem bt_62 (s : ByteArray) (i : Nat) (h : i < s.data.toList.length) : (bt s (i : Int) = 62) ↔ s.data.toList[i] = 62 := bt_eq s i h 62
theorem good_loop (s : ByteArray) (hs : s.size ≤ 1048576) : ∀ (d i : Nat), i + d = s.size →
    Ev (fun k => spec_rwGood.l0 k s (i : Int)) ((s.data.toList.drop i).all (fun b => b == 60 || b == 62)) := by
  have hz := sz s
  intro d
  induction d with
  | zero =>
    intro i hi
    refine Ev.step (f := fun _ => some ((s.data.toList.drop i).all (fun b => b == 60 || b == 62))) (fun k => ?_) (Ev.now _)
    simp only [spec_rwGood.l0]
    rw [if_neg (by omega), List.drop_eq_nil_of_le (by omega)]
    rfl
  | succ d ih =>
    intro i hi
    have hlt : i < s.data.toList.length := by omega
    rw [List.drop_eq_getElem_cons hlt, List.all_cons]
    by_cases h1 : s.data.toList[i] = 60
    · refine Ev.step (f := fun k => spec_rwGood.l0 k s ((i + 1 : Nat) : Int)) (fun k => ?_) ?_
      · simp only [spec_rwGood.l0]
        rw [if_pos (by omega), if_pos (by omega), if_pos ((bt_60 s i hlt).2 h1), w1 i (by omega)]
      · rw [h1]
        exact ih (i + 1) (by omega)
    · have e1 : ¬ bt s (i : Int) = 60 := fun e => h1 ((bt_60 s i hlt).1 e)
      by_cases h2 : s.data.toList[i] = 62
      · refine Ev.step (f := fun k => spec_rwGood.l0 k s ((i + 1 : Nat) : Int)) (fun k => ?_) ?_
        · simp only [spec_rwGood.l0]
          rw [if_pos (by omega), if_pos (by omega), if_neg e1, if_pos ((bt_62 s i hlt).2 h2), w1 i (by omega)]
        · rw [h2]
          exact ih (i + 1) (by omega)
      · have e2 : ¬ bt s (i : Int) = 62 := fun e => h2 ((bt_62 s i hlt).1 e)
        refine Ev.step (f := fun _ => some false) (fun k => ?_) ?_
        · simp only [spec_rwGood.l0]
          rw [if_pos (by omega), if_pos (by omega), if_neg e1, if_neg e2]
        · rw [beq_eq_false_iff_ne.2 h1, beq_eq_false_iff_ne.2 h2]
          exact Ev.now _
theorem good_ev (s : ByteArray) : Ev (fun k => spec_rwGood.f k s) (rowB s) := by
  have hz := sz s
  unfold rowB
  by_cases h1 : 1 ≤ s.size
  · by_cases h2 : s.size ≤ 60
    · have e : ∀ k, spec_rwGood.f k s = spec_rwGood.l0 k s ((0 : Nat) : Int) := by
        intro k
        unfold spec_rwGood.f spec_l1In.f
        rw [if_pos (by omega), decide_eq_true (show ((s.size : Nat) : Int) ≤ 60 by omega)]
        simp
      refine Ev.congr e ?_
      have := good_loop s (by omega) s.size 0 (by omega)
      rw [decide_eq_true h1, decide_eq_true h2]
      simpa using this
    · refine Ev.congr (f := fun _ => some false) (fun k => ?_) ?_
      · unfold spec_rwGood.f spec_l1In.f
        rw [if_pos (by omega), decide_eq_false (show ¬ ((s.size : Nat) : Int) ≤ 60 by omega)]
        simp
      · rw [decide_eq_false h2]
        simp only [Bool.and_false, Bool.false_and]
        exact Ev.now _
  · refine Ev.congr (f := fun _ => some false) (fun k => ?_) ?_
    · unfold spec_rwGood.f spec_l1In.f
      rw [if_neg (by omega)]
      simp
    · rw [decide_eq_false h1]
      simp only [Bool.false_and]
      exact Ev.now _
theorem good_calls (s : ByteArray) (w : World) :
    Calls Tryd.prog 57 #[.string s] w fun e w' => e = .returned (.bool (rowB s)) ∧ Drawn0 w w' := by
  obtain ⟨k, hk⟩ := (good_ev s).rounds
  exact spec_rwGood.calls k s _ w hk
end Go.Proofs.YtleacijhpkogpabDoor.RGood
/- Is a text a row, as the program tells it: the walk of impl.isRow over strings.Trim's contract. -/
namespace Go.Proofs.YtleacijhpkogpabDoor.RImpl
open Go.RowKit Go.Proofs.YtleacijhpkogpabDoorW.PrintWords Go.Proofs.YtleacijhpkogpabDoorW.PrintLast Go.Proofs.YtleacijhpkogpabDoorW.PrintMore Go.Shelf Go.Proofs.YtleacijhpkogpabDoor.PFnRowsRestOfAll Go.Proofs.YtleacijhpkogpabDoor.RPlain
set_option linter.unusedVariables false
set_option linter.unusedSimpArgs false

set_option maxHeartbeats 1600000 in
set_option maxRecDepth 100000 in
theorem isRow_calls (a0 : ByteArray) (w : World) :
    Calls Tryd.prog 59 #[.string a0] w fun e w' => e = .returned (.bool (rowB a0)) ∧ Below w.heap.size w w' := by
  by_cases c1 : 1 ≤ a0.size ∧ a0.size ≤ 60
  · have hin := Aside0.mk (fun W => impl_in.calls (a0.size : Int) 1 60 true W (by
      unfold impl_in.f
      rw [if_pos (by omega)]
      simp; omega))
    have hcon := fun W : World => Any.strings_Trim_laid Tryd.lays160 (by kernel_rfl) a0 ⟨#[60, 62]⟩ W (by omega) (by decide) (ascii_of_all (by decide))
    have hT := Aside0.mk (fun W : World => (show Calls Tryd.prog 84 #[.string a0, .string ⟨#[60, 62]⟩] W (fun e w' => e = .returned (.string ⟨(Lib.trimS a0.data.toList [60, 62]).toArray⟩) ∧ Below W.heap.size W w') from hcon W))
    clear hcon
    have hv : Aside0 (rowB a0 = (Lib.trimS a0.data.toList [60, 62]).isEmpty) := ⟨by
      unfold rowB
      rw [decide_eq_true c1.1, decide_eq_true c1.2, trimS_all]; rfl⟩
    generalize Lib.trimS a0.data.toList [60, 62] = l at hT hv
    rw [hv.out]
    clear hv c1
    cases l with
    | nil =>
      go_enter Tryd.func59, Tryd.ntmps59
      go_wp2_with (first | (go_at_call 80; refine (hin.out _).mono ?_; rintro e w' ⟨rfl, ⟨nd, rfl⟩⟩) | (go_at_call 84; refine (hT.out _).mono ?_; rintro e w9 ⟨rfl, hb9⟩))
      go_ret
      exact ⟨by first | rfl | (simp; done), by first | exact hb9 | exact below_then (by repeat (first | exact Below.refl _ _ | apply pw_below_drewN | apply below_drew)) (by simp) hb9⟩
    | cons b l =>
      go_enter Tryd.func59, Tryd.ntmps59
      go_wp2_with (first | (go_at_call 80; refine (hin.out _).mono ?_; rintro e w' ⟨rfl, ⟨nd, rfl⟩⟩) | (go_at_call 84; refine (hT.out _).mono ?_; rintro e w9 ⟨rfl, hb9⟩))
      go_ret
      exact ⟨by first | rfl | (simp; done), by first | exact hb9 | exact below_then (by repeat (first | exact Below.refl _ _ | apply pw_below_drewN | apply below_drew)) (by simp) hb9⟩
  · have hin := Aside0.mk (fun W => impl_in.calls (a0.size : Int) 1 60 false W (by
      unfold impl_in.f
      split
      · simp; omega
      · rfl))
    have hv : Aside0 (rowB a0 = false) := ⟨by
      unfold rowB
      rcases Nat.lt_or_ge a0.size 1 with h | h
      · rw [decide_eq_false (show ¬ 1 ≤ a0.size by omega)]; rfl
      · rw [decide_eq_false (show ¬ a0.size ≤ 60 by omega)]; simp⟩
    rw [hv.out]
    clear hv c1
    go_enter Tryd.func59, Tryd.ntmps59
    go_wp2_with (go_at_call 80; refine (hin.out _).mono ?_; rintro e w' ⟨rfl, ⟨nd, rfl⟩⟩)
    go_ret
    exact ⟨rfl, by repeat (first | exact Below.refl _ _ | apply pw_below_drewN | apply below_drew)⟩
theorem isRow_yes (l : List UInt8) (h : rowB (bs l) = true) (w : World) :
    Calls Tryd.prog 59 #[.string (bs l)] w fun e w' => e = .returned (.bool true) ∧ Below w.heap.size w w' := by
  have := isRow_calls (bs l) w
  rwa [h] at this
theorem isRow_no (s : ByteArray) (h : rowB s = false) (w : World) :
    Calls Tryd.prog 59 #[.string s] w fun e w' => e = .returned (.bool false) ∧ Below w.heap.size w w' := by
  have := isRow_calls s w
  rwa [h] at this
end Go.Proofs.YtleacijhpkogpabDoor.RImpl
/- Who face each other, as the program tells it: a contract over the printed walk of impl.facing. -/
namespace Go.Proofs.YtleacijhpkogpabDoor.RImpl
open Go.RowKit Go.Proofs.YtleacijhpkogpabDoorW.PrintWords Go.Proofs.YtleacijhpkogpabDoorW.PrintLast Go.Proofs.YtleacijhpkogpabDoorW.PrintMore Go.Proofs.YtleacijhpkogpabDoor.PFnRowsRestOfAll Go.Proofs.YtleacijhpkogpabDoor.RPlain Go.Proofs.YtleacijhpkogpabDoor.RGood
set_option linter.unusedVariables false
set_option linter.unusedSimpArgs false

/-! the program's own list of who face each other -/
theorem facing_loop (s : ByteArray) (hs : s.size ≤ 1048576) (h0 : 1 ≤ s.size) : ∀ (d i : Nat) (acc : List Int), i + d + 1 = s.size → acc.length ≤ i →
    Ev (fun k => impl_facing.l0 k s acc ((s.size - 1 : Nat) : Int) (i : Int)) (acc ++ prs i (s.data.toList.drop i)) := by
  have hz := sz s
  intro d
  induction d with
  | zero =>
    intro i acc hi ha
    refine Ev.step (f := fun _ => some acc) (fun k => ?_) ?_
    · simp only [impl_facing.l0]
      rw [if_neg (by omega)]
    · rw [prs_end _ _ (by omega), List.append_nil]
      exact Ev.now _
  | succ d ih =>
    intro i acc hi ha
    have h1 : i < s.data.toList.length := by omega
    have h2 : i + 1 < s.data.toList.length := by omega
    rw [prs_drop _ i h2]
    by_cases c1 : s.data.toList[i] = 62
    · by_cases c2 : s.data.toList[i + 1] = 60
      · have hr := ih (i + 1) (acc ++ [(i : Int)]) (by omega) (by simp; omega)
        rw [if_pos ⟨c1, c2⟩]
        rw [List.append_assoc] at hr
        refine Ev.step (f := fun k => impl_facing.l0 k s (acc ++ [(i : Int)]) ((s.size - 1 : Nat) : Int) ((i + 1 : Nat) : Int)) (fun k => ?_) hr
        simp only [impl_facing.l0]
        rw [w1 i (by omega), if_pos (by omega), if_pos (by omega), if_pos (by omega), if_pos ((bt_62 s i h1).2 c1), if_pos (by omega), if_pos (by omega), if_pos ((bt_60 s (i + 1) h2).2 c2), if_pos (by omega)]
      · rw [if_neg (fun h => c2 h.2)]
        refine Ev.step (f := fun k => impl_facing.l0 k s acc ((s.size - 1 : Nat) : Int) ((i + 1 : Nat) : Int)) (fun k => ?_) (ih (i + 1) acc (by omega) (by omega))
        simp only [impl_facing.l0]
        rw [w1 i (by omega), if_pos (by omega), if_pos (by omega), if_pos (by omega), if_pos ((bt_62 s i h1).2 c1), if_pos (by omega), if_pos (by omega), if_neg (fun e => c2 ((bt_60 s (i + 1) h2).1 e))]
    · rw [if_neg (fun h => c1 h.1)]
      refine Ev.step (f := fun k => impl_facing.l0 k s acc ((s.size - 1 : Nat) : Int) ((i + 1 : Nat) : Int)) (fun k => ?_) (ih (i + 1) acc (by omega) (by omega))
      simp only [impl_facing.l0]
      rw [w1 i (by omega), if_pos (by omega), if_pos (by omega), if_pos (by omega), if_neg (fun e => c1 ((bt_62 s i h1).1 e))]
theorem facing_ev (s : ByteArray) (hs : s.size ≤ 1048576) (h0 : 1 ≤ s.size) : Ev (fun k => impl_facing.f k s) (prs 0 s.data.toList) := by
  have := facing_loop s hs h0 (s.size - 1) 0 [] (by omega) (by simp)
  refine Ev.congr (fun k => ?_) this
  unfold impl_facing.f
  congr 1
  unfold wrap64
  omega
theorem facing_calls (l : List UInt8) (hl : 1 ≤ l.length ∧ l.length ≤ 1048576) (w : World) :
    Calls Tryd.prog 66 #[.string (bs l)] w fun e w' => ∃ v : Value, e = .returned v ∧ Kd.R (Kd.int .i64) 3 w' w.heap.size (fun _ => True) v (prs 0 l) ∧ Below w.heap.size w w' := by
  have hz : (bs l).size = l.length := rfl
  obtain ⟨k, hk⟩ := (facing_ev (bs l) (by omega) (by omega)).rounds
  exact impl_facing.calls k (bs l) _ w hk
end Go.Proofs.YtleacijhpkogpabDoor.RImpl
/- The row by its number, as the reference tells it: a contract over the printed walk of spec.rwMake. -/
namespace Go.Proofs.YtleacijhpkogpabDoor.RSpec
open Go.RowKit Go.Proofs.YtleacijhpkogpabDoorW.PrintWords Go.Proofs.YtleacijhpkogpabDoorW.PrintLast Go.Proofs.YtleacijhpkogpabDoorW.PrintMore Go.Proofs.YtleacijhpkogpabDoor.PFnRowsRestOfAll Go.Proofs.YtleacijhpkogpabDoor.RPlain
set_option linter.unusedVariables false
set_option linter.unusedSimpArgs false

theorem make_loop : ∀ (n v : Nat) (acc : List Nat), n ≤ 60 → acc.length + n ≤ 1000000 → v ≤ 9223372036854775807 →
    Ev (fun k => spec_rwMake.l0 k (n : Int) (v : Int) (txt acc)) (txt (mk n v ++ acc)) := by
  intro n
  induction n with
  | zero =>
    intro v acc hn ha hv
    refine Ev.step (f := fun _ => some (txt acc)) (fun k => ?_) (Ev.now _)
    simp only [spec_rwMake.l0]
    rw [if_neg (by omega)]
  | succ n ih =>
    intro v acc hn ha hv
    have hr := ih (v / 2) (sgn v :: acc) (by omega) (by simp only [List.length_cons]; omega) (by omega)
    have e1 : wrap64 (((n + 1 : Nat) : Int) - 1) = (n : Int) := by unfold wrap64; omega
    have e2 : wrap64 (Int.tdiv (v : Int) 2) = ((v / 2 : Nat) : Int) := by
      rw [Int.tdiv_eq_ediv_of_nonneg (by omega)]; unfold wrap64; omega
    have e3 : Int.tmod (v : Int) 2 = ((v % 2 : Nat) : Int) := by
      rw [Int.tmod_eq_emod_of_nonneg (by omega)]; omega
    have hsz : 1 + (txt acc).size ≤ 9223372036854775807 := by rw [txt_size]; omega
    have e4 : mk (n + 1) v ++ acc = mk n (v / 2) ++ sgn v :: acc := by simp [mk]
    rw [e4]
    refine Ev.step (fun k => ?_) hr
    simp only [spec_rwMake.l0]
    rw [if_pos (by omega), e1, e2, e3, ← txt_cons]
    by_cases c : v % 2 = 1
    · rw [if_pos (by omega), if_pos hsz]
      unfold sgn
      rw [if_pos c]
      rfl
    · rw [if_neg (by omega), if_pos hsz]
      unfold sgn
      rw [if_neg c]
      rfl
theorem make_ev (n v : Nat) (hn : n ≤ 60) (hv : v ≤ 9223372036854775807) : Ev (fun k => spec_rwMake.f k (n : Int) (v : Int)) (txt (mk n v)) := by
  have := make_loop n v [] hn (by simp; omega) hv
  rw [List.append_nil] at this
  exact this
theorem make_calls (n v : Nat) (hn : n ≤ 60) (hv : v ≤ 9223372036854775807) (w : World) :
    Calls Tryd.prog 79 #[.int .i64 (n : Int), .int .i64 (v : Int)] w fun e w' => e = .returned (.string (bs (mkL n v))) ∧ Drawn0 w w' := by
  obtain ⟨k, hk⟩ := (make_ev n v hn hv).rounds
  exact spec_rwMake.calls k _ _ _ w hk
end Go.Proofs.YtleacijhpkogpabDoor.RSpec
