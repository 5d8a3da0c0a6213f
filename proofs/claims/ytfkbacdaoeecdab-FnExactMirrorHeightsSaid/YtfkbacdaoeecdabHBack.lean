/- A list told from its end on, as the reference tells it: over the printed walk of spec.heBack. -/
import Derived.Test.YtfkbacdaoeecdabPFnExactMirrorHeightsx8
import Derived.Test.YtfkbacdaoeecdabHClone
namespace Go.Proofs.Ytfkbacdaoeecdab.HBack
open Go.RowKit Go.Proofs.YtfkbacdaoeecdabW.PrintWords Go.Proofs.YtfkbacdaoeecdabW.PrintLast Go.Proofs.YtfkbacdaoeecdabW.PrintMore Go.Proofs.Ytfkbacdaoeecdab.PFnExactMirrorHeights Go.Proofs.Ytfkbacdaoeecdab.HClone
set_option linter.unusedVariables false
set_option linter.unusedSimpArgs false

theorem back_loop (l : List Int) (hl : l.length ≤ 1048576) : ∀ (m : Nat) (acc : List Int), m ≤ l.length → acc.length + m ≤ 1048576 →
    Ev (fun k => spec_heBack.l0 k l acc ((m : Int) - 1)) (acc ++ (l.take m).reverse) := by
  intro m
  induction m with
  | zero =>
    intro acc hm ha
    refine Ev.step (f := fun _ => some acc) (fun k => ?_) ?_
    · simp only [spec_heBack.l0]
      rw [if_neg (by omega)]
    · rw [List.take_zero, List.reverse_nil, List.append_nil]
      exact Ev.now _
  | succ m ih =>
    intro acc hm ha
    have hr := ih (acc ++ [rd l (m : Int)]) (by omega) (by simp; omega)
    rw [List.append_assoc] at hr
    have e : (l.take (m + 1)).reverse = [rd l (m : Int)] ++ (l.take m).reverse := by
      rw [List.take_succ_eq_append_getElem (by omega), List.reverse_append, rd_nat l m (by omega)]
      rfl
    rw [e]
    refine Ev.step (fun k => ?_) hr
    simp only [spec_heBack.l0]
    rw [show (((m + 1 : Nat) : Int) - 1) = (m : Int) by omega, if_pos (by omega), if_pos (by omega), if_pos (by omega), if_pos (by omega), wm1 m (by omega)]
theorem back_ev (l : List Int) (hl : l.length ≤ 1048576) : Ev (fun k => spec_heBack.f k l) l.reverse := by
  have h := back_loop l hl l.length [] (by omega) (by simpa using hl)
  rw [List.take_length, List.nil_append] at h
  refine Ev.congr (fun k => ?_) h
  simp only [spec_heBack.f]
  rw [wm1 l.length (by omega)]
theorem back_calls (A0 : Option Addr) (c0 : Nat) (l : List Int) (hl : l.length ≤ 1048576) (w : World) (h0 : Kd.C (Kd.int .i64) w A0 l.length l) (hc0 : l.length ≤ c0) :
    Calls Try.prog 29 #[.slice A0 l.length c0] w fun e w' => ∃ v : Value, e = .returned v ∧ Kd.R (Kd.int .i64) 3 w' w.heap.size (fun _ => True) v l.reverse ∧ Below w.heap.size w w' := by
  obtain ⟨k, hk⟩ := (back_ev l hl).rounds
  exact spec_heBack.calls k A0 c0 l _ w h0 hc0 hk
end Go.Proofs.Ytfkbacdaoeecdab.HBack
