/- Whether a number stands in a list: the walks of slices.Index and slices.Contains, and the reference's printed one. -/
import Derived.Test.YtleacijhpkogpacPFnExactFirstBySeenx9
import Derived.Test.YtleacijhpkogpacHAre
import Derived.Test.YtleacijhpkogpacHSeen
namespace Go.Proofs.Ytleacijhpkogpac.HHas
open Go.RowKit Go.Proofs.YtleacijhpkogpacW.PrintWords Go.Proofs.YtleacijhpkogpacW.PrintLast Go.Proofs.YtleacijhpkogpacW.PrintMore Go.Proofs.Ytleacijhpkogpac.PFnExactFirstBySeen Go.Proofs.Ytleacijhpkogpac.HImpl Go.Proofs.Ytleacijhpkogpac.HClone Go.Proofs.Ytleacijhpkogpac.HSeen
set_option linter.unusedVariables false
set_option linter.unusedSimpArgs false

set_option maxHeartbeats 8000000 in
set_option maxRecDepth 100000 in
theorem index_calls (A0 : Option Addr) (c0 : Nat) (l0 : List Int) (x : Int) (w : World) (hr0 : Kd.C (Kd.int .i64) w A0 l0.length l0) (hl : l0.length ≤ 1048576) :
    Calls Try.prog 88 #[.slice A0 l0.length c0, .int .i64 x] w fun e w' => e = .returned (.int .i64 (idxF (fun y => x == y) l0 0)) ∧ Drawn0 w w' := by
  have HR0 := Aside0.mk hr0
  clear hr0
  go_enter Try.func88, Try.ntmps88
  go_wp2
  go_loopg [5, 8] l0.length (fun kq v5 v8 w' => ∃ (i : Int), 0 ≤ i ∧ i ≤ (l0.length : Int) ∧ (l0.length : Int) - i = (kq : Int) ∧ v8 = .int .i64 i ∧ Aside0 (idxF (fun y => x == y) (l0.drop i.toNat) i = idxF (fun y => x == y) l0 0) ∧ Drawn0 w w')
  case atStart => exact ⟨0, by omega, by omega, by omega, rfl, ⟨rfl⟩, Drawn0.refl _⟩
  case round =>
    obtain ⟨i, hi0, hi1, hk, rfl, HA, ⟨m1, rfl⟩⟩ := hrel
    by_cases hlt : i < (l0.length : Int)
    · have hst := Aside0.mk (idxF_step (fun y => x == y) l0 i hi0 hlt)
      obtain ⟨ad, ead, hx⟩ := Kd.at_int HR0.out i hi0 hlt
      cases ead
      generalize hy : rd l0 i = y at hx hst
      clear hy
      cases hq : (x == y) with
      | true =>
        have HQ := Aside0.mk hq
        go_wp2
        go_ret
        refine ⟨?_, by repeat (first | exact Drawn0.refl _ | apply Drawn0.step)⟩
        rw [← HA.out, hst.out]; simp only [HQ.out]; rfl
      | false =>
        have HQ := Aside0.mk hq
        go_wp2
        go_roundg (l0.length - (i + 1).toNat)
        case measure => omega
        case rel => exact ⟨i + 1, by omega, by omega, by omega, by first | rfl | go_num, ⟨by rw [← HA.out, hst.out]; simp only [HQ.out]; rfl⟩, by repeat (first | exact Drawn0.refl _ | apply Drawn0.step)⟩
    · have e : i = (l0.length : Int) := by omega
      have H2 : Aside0 (idxF (fun y => x == y) l0 0 = -1) := ⟨by rw [← HA.out, e]; simp [idxF]⟩
      have c4b0 : decide (i < (l0.length : Int)) = false := decide_eq_false hlt
      clear e hlt hk hi1 hi0
      go_wp2
      go_ret
      exact ⟨by rw [H2.out]; first | rfl | (simp; done), by repeat (first | exact Drawn0.refl _ | apply Drawn0.step)⟩
def has (l : List Int) (x : Int) : Bool := l.any (fun y => x == y)
set_option maxHeartbeats 8000000 in
set_option maxRecDepth 100000 in
theorem contains_calls (A0 : Option Addr) (c0 : Nat) (l0 : List Int) (x : Int) (b : Bool) (hb : has l0 x = b) (hl : l0.length ≤ 1048576) (w : World) (hr0 : Kd.C (Kd.int .i64) w A0 l0.length l0) :
    Calls Try.prog 66 #[.slice A0 l0.length c0, .int .i64 x] w fun e w' => e = .returned (.bool b) ∧ Drawn0 w w' := by
  have hI := Aside0.mk (index_calls A0 c0 l0 x w hr0 hl)
  have hA := Aside0.mk (idxF_any (fun y => x == y) l0 0 (by omega))
  unfold has at hb
  rw [hb] at hA
  clear hb
  generalize idxF (fun y => x == y) l0 0 = i at hI hA
  have hb : decide (0 ≤ i) = b := hA.out
  clear hA
  subst hb
  go_enter Try.func66, Try.ntmps66
  go_wp2_with (go_at_call 88; refine hI.out.mono ?_; rintro e w' ⟨rfl, ⟨nd, rfl⟩⟩)
  go_ret
  exact ⟨rfl, ⟨nd, rfl⟩⟩
theorem has_loop (l : List Int) (hl : l.length ≤ 1048576) (x : Int) : ∀ (d i : Nat), i + d = l.length →
    Ev (fun k => spec_l1Has.l0 k x l (l.length : Int) (i : Int)) (has (l.drop i) x) := by
  intro d
  induction d with
  | zero =>
    intro i hi
    refine Ev.step (f := fun _ => some false) (fun k => ?_) ?_
    · simp only [spec_l1Has.l0]
      rw [if_neg (by omega)]
    · rw [List.drop_eq_nil_of_le (by omega)]
      exact Ev.now _
  | succ d ih =>
    intro i hi
    have hlt : i < l.length := by omega
    rw [drop_cons l i hlt]
    by_cases c : rd l (i : Int) = x
    · refine Ev.step (f := fun _ => some true) (fun k => ?_) ?_
      · simp only [spec_l1Has.l0]
        rw [if_pos (by omega), if_pos (by omega), if_pos (by omega), if_pos c]
      · have : has (rd l (i : Int) :: l.drop (i + 1)) x = true := by simp [has, c]
        rw [this]; exact Ev.now _
    · have e : has (rd l (i : Int) :: l.drop (i + 1)) x = has (l.drop (i + 1)) x := by
        simp only [has, List.any_cons]
        rw [beq_eq_false_iff_ne.2 (fun h => c h.symm), Bool.false_or]
      rw [e]
      refine Ev.step (fun k => ?_) (ih (i + 1) (by omega))
      simp only [spec_l1Has.l0]
      rw [if_pos (by omega), if_pos (by omega), if_pos (by omega), if_neg c, w1 i (by omega)]
theorem has_ev (l : List Int) (hl : l.length ≤ 1048576) (x : Int) : Ev (fun k => spec_l1Has.f k l x) (has l x) := has_loop l hl x l.length 0 (by omega)
end Go.Proofs.Ytleacijhpkogpac.HHas
