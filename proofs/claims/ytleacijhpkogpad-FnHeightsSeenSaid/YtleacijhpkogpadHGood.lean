/- Are numbers heights, as the reference tells it; a list copied: contracts over the printed walks of spec.heGood and laws.toIntS. -/
import Derived.Test.YtleacijhpkogpadPFnHeightsSeenx12
import Derived.Test.YtleacijhpkogpadHAre
namespace Go.Proofs.Ytleacijhpkogpad.HSpecG
open Go.RowKit Go.Proofs.YtleacijhpkogpadW.PrintWords Go.Proofs.YtleacijhpkogpadW.PrintLast Go.Proofs.YtleacijhpkogpadW.PrintMore Go.Proofs.Ytleacijhpkogpad.PFnHeightsSeen Go.Proofs.Ytleacijhpkogpad.HImpl
set_option linter.unusedVariables false
set_option linter.unusedSimpArgs false

/-! plain words -/
theorem w1 (i : Nat) (h : i ≤ 4611686018427387904) : wrap64 ((i : Int) + 1) = ((i + 1 : Nat) : Int) := by unfold wrap64; omega
theorem rd_nat (l : List Int) (i : Nat) (h : i < l.length) : rd l (i : Int) = l[i] := by
  simp [rd, List.getD_eq_getElem?_getD, List.getElem?_eq_getElem h]
theorem drop_cons (l : List Int) (i : Nat) (h : i < l.length) : l.drop i = rd l (i : Int) :: l.drop (i + 1) := by
  rw [List.drop_eq_getElem_cons h, rd_nat l i h]
theorem all_ev (l : List Int) (hl : l.length ≤ 1048576) : ∀ (d i : Nat), i + d = l.length →
    Ev (fun k => spec_l1All.l0 k 1 100 l (l.length : Int) (i : Int)) ((l.drop i).all (fun h => decide (1 ≤ h) && decide (h ≤ 100))) := by
  intro d
  induction d with
  | zero =>
    intro i hi
    refine Ev.step (f := fun _ => some ((l.drop i).all (fun h => decide (1 ≤ h) && decide (h ≤ 100)))) (fun k => ?_) (Ev.now _)
    simp only [spec_l1All.l0]
    rw [if_neg (by omega), List.drop_eq_nil_of_le (by omega)]
    rfl
  | succ d ih =>
    intro i hi
    have hlt : i < l.length := by omega
    rw [drop_cons l i hlt]
    simp only [List.all_cons]
    by_cases h1 : 1 ≤ rd l (i : Int)
    · by_cases h2 : rd l (i : Int) ≤ 100
      · have hr := ih (i + 1) (by omega)
        rw [decide_eq_true h1, decide_eq_true h2]
        refine Ev.step (f := fun k => spec_l1All.l0 k 1 100 l (l.length : Int) ((i + 1 : Nat) : Int)) (fun k => ?_) hr
        simp only [spec_l1All.l0, spec_l1In.f]
        rw [if_pos (by omega), if_pos (by omega), if_pos (by omega), if_pos (by omega), w1 i (by omega)]
        simp [h2]
      · refine Ev.step (f := fun _ => some false) (fun k => ?_) ?_
        · simp only [spec_l1All.l0, spec_l1In.f]
          rw [if_pos (by omega), if_pos (by omega), if_pos (by omega), if_pos (by omega)]
          simp [h2]
        · rw [decide_eq_false h2, Bool.and_false, Bool.false_and]; exact Ev.now _
    · refine Ev.step (f := fun _ => some false) (fun k => ?_) ?_
      · simp only [spec_l1All.l0, spec_l1In.f]
        rw [if_pos (by omega), if_pos (by omega), if_pos (by omega), if_neg (by omega)]
        simp
      · rw [decide_eq_false h1, Bool.false_and, Bool.false_and]; exact Ev.now _
theorem good_ev (l : List Int) (hl : l.length ≤ 1048576) : Ev (fun k => spec_heGood.f k l) (good l) := by
  unfold good
  by_cases h1 : 1 ≤ l.length
  · by_cases h2 : l.length ≤ 40
    · refine Ev.congr (f := fun k => (spec_l1All.f k l 1 100).bind fun t => some t) (fun k => ?_) ?_
      · simp only [spec_heGood.f, spec_l1In.f]
        rw [if_pos (by omega)]
        simp only [Option.bind_some]
        rw [if_pos (by simp; omega)]
      · refine Ev.bind (a := l.all (fun h => decide (1 ≤ h) && decide (h ≤ 100))) ?_ ?_
        · exact all_ev l hl l.length 0 (by omega)
        · rw [decide_eq_true h1, decide_eq_true h2]; exact Ev.now _
    · refine Ev.congr (f := fun _ => some false) (fun k => ?_) ?_
      · simp only [spec_heGood.f, spec_l1In.f]
        rw [if_pos (by omega)]
        simp only [Option.bind_some]
        rw [if_neg (by simp; omega)]
      · rw [decide_eq_false h2, Bool.and_false, Bool.false_and]; exact Ev.now _
  · refine Ev.congr (f := fun _ => some false) (fun k => ?_) ?_
    · simp only [spec_heGood.f, spec_l1In.f]
      rw [if_neg (by omega)]
      rfl
    · rw [decide_eq_false h1, Bool.false_and, Bool.false_and]; exact Ev.now _
theorem good_is (A0 : Option Addr) (c0 : Nat) (l : List Int) (hl : l.length ≤ 1048576) (b : Bool) (hb : good l = b) (w : World) (h0 : Kd.C (Kd.int .i64) w A0 l.length l) (hc0 : l.length ≤ c0) :
    Calls Try.prog 56 #[.slice A0 l.length c0] w fun e w' => e = .returned (.bool b) ∧ Drawn0 w w' := by
  subst hb
  obtain ⟨k, hk⟩ := (good_ev l hl).rounds
  exact spec_heGood.calls k A0 c0 l _ w h0 hc0 hk
end Go.Proofs.Ytleacijhpkogpad.HSpecG
