/- The row by its number, as the reference tells it: a contract over the printed walk of spec.rwMake. -/
import Derived.Test.YtfkbacdaoeecdadRPlain
import Derived.Test.YtfkbacdaoeecdadPFnExactRowOfNumberx2
namespace Go.Proofs.Ytfkbacdaoeecdad.RSpec
open Go.RowKit Go.Proofs.YtfkbacdaoeecdadW.PrintWords Go.Proofs.YtfkbacdaoeecdadW.PrintLast Go.Proofs.YtfkbacdaoeecdadW.PrintMore Go.Proofs.Ytfkbacdaoeecdad.PFnExactRowOfNumber Go.Proofs.Ytfkbacdaoeecdad.RPlain
set_option linter.unusedVariables false
set_option linter.unusedSimpArgs false

theorem make_loop : ∀ (n v : Nat) (acc : List Nat), n ≤ 60 → acc.length + n ≤ 1000000 → v ≤ 9223372036854775807 →
    Ev (fun k => spec_rwMake.l0 k (n : Int) (v : Int) (txt acc)) (txt (mk n v ++ acc)) := by
  intro n
  induction n with
  | zero =>
    intro v acc hn ha hv
    refine Ev.step (f := fun _ => some (txt acc)) (fun k => ?_) (Ev.now _)
    simp only [spec_rwMake.l0]
    rw [if_neg (by omega)]
  | succ n ih =>
    intro v acc hn ha hv
    have hr := ih (v / 2) (sgn v :: acc) (by omega) (by simp only [List.length_cons]; omega) (by omega)
    have e1 : wrap64 (((n + 1 : Nat) : Int) - 1) = (n : Int) := by unfold wrap64; omega
    have e2 : wrap64 (Int.tdiv (v : Int) 2) = ((v / 2 : Nat) : Int) := by
      rw [Int.tdiv_eq_ediv_of_nonneg (by omega)]; unfold wrap64; omega
    have e3 : Int.tmod (v : Int) 2 = ((v % 2 : Nat) : Int) := by
      rw [Int.tmod_eq_emod_of_nonneg (by omega)]; omega
    have hsz : 1 + (txt acc).size ≤ 9223372036854775807 := by rw [txt_size]; omega
    have e4 : mk (n + 1) v ++ acc = mk n (v / 2) ++ sgn v :: acc := by simp [mk]
    rw [e4]
    refine Ev.step (fun k => ?_) hr
    simp only [spec_rwMake.l0]
    rw [if_pos (by omega), e1, e2, e3, ← txt_cons]
    by_cases c : v % 2 = 1
    · rw [if_pos (by omega), if_pos hsz]
      unfold sgn
      rw [if_pos c]
      rfl
    · rw [if_neg (by omega), if_pos hsz]
      unfold sgn
      rw [if_neg c]
      rfl
theorem make_ev (n v : Nat) (hn : n ≤ 60) (hv : v ≤ 9223372036854775807) : Ev (fun k => spec_rwMake.f k (n : Int) (v : Int)) (txt (mk n v)) := by
  have := make_loop n v [] hn (by simp; omega) hv
  rw [List.append_nil] at this
  exact this
theorem make_calls (n v : Nat) (hn : n ≤ 60) (hv : v ≤ 9223372036854775807) (w : World) :
    Calls Try.prog 7 #[.int .i64 (n : Int), .int .i64 (v : Int)] w fun e w' => e = .returned (.string (bs (mkL n v))) ∧ Drawn0 w w' := by
  obtain ⟨k, hk⟩ := (make_ev n v hn hv).rounds
  exact spec_rwMake.calls k _ _ _ w hk
end Go.Proofs.Ytfkbacdaoeecdad.RSpec
