/- Are rows of so many traced, as the program tells it: contracts over the printed walks of impl.in, isTraced. -/
import Derived.Test.YtfkbacdaoeecdadDoorRPlain
import Derived.Test.YtfkbacdaoeecdadDoorPFnExactHasBeforex17
import Derived.Test.YtfkbacdaoeecdadDoorPFnExactHasBeforex9
namespace Go.Proofs.YtfkbacdaoeecdadDoor.RImpl
open Go.RowKit Go.Proofs.YtfkbacdaoeecdadDoorW.PrintWords Go.Proofs.YtfkbacdaoeecdadDoorW.PrintLast Go.Proofs.YtfkbacdaoeecdadDoorW.PrintMore Go.Proofs.YtfkbacdaoeecdadDoor.PFnExactHasBefore Go.Proofs.YtfkbacdaoeecdadDoor.RPlain
set_option linter.unusedVariables false
set_option linter.unusedSimpArgs false

theorem in_calls (a b c : Int) (w : World) : Calls Tryd.prog 20 #[.int .i64 a, .int .i64 b, .int .i64 c] w fun e w' => e = .returned (.bool (decide (b ≤ a ∧ a ≤ c))) ∧ Drawn0 w w' :=
  impl_in.calls a b c _ w (by
    unfold impl_in.f
    by_cases h : b ≤ a
    · rw [if_pos h]
      by_cases h2 : a ≤ c
      · rw [decide_eq_true h2, decide_eq_true ⟨h, h2⟩]
      · rw [decide_eq_false h2, decide_eq_false (fun z => h2 z.2)]
    · rw [if_neg h, decide_eq_false (fun z => h z.1)])
theorem traced_calls (a : Int) (w : World) : Calls Tryd.prog 35 #[.int .i64 a] w fun e w' => e = .returned (.bool (decide (1 ≤ a ∧ a ≤ 12))) ∧ Drawn0 w w' :=
  impl_isTraced.calls a _ w (by
    unfold impl_isTraced.f impl_in.f
    by_cases h : 1 ≤ a
    · rw [if_pos h]
      by_cases h2 : a ≤ 12
      · rw [decide_eq_true h2, decide_eq_true ⟨h, h2⟩]; rfl
      · rw [decide_eq_false h2, decide_eq_false (fun z => h2 z.2)]; rfl
    · rw [if_neg h, decide_eq_false (fun z => h z.1)]; rfl)
theorem traced_yes (n : Nat) (h : 1 ≤ n ∧ n ≤ 12) (w : World) : Calls Tryd.prog 35 #[.int .i64 (n : Int)] w fun e w' => e = .returned (.bool true) ∧ Drawn0 w w' := by
  have := traced_calls (n : Int) w
  rwa [decide_eq_true (by omega)] at this
theorem traced_no (a : Int) (h : ¬ (1 ≤ a ∧ a ≤ 12)) (w : World) : Calls Tryd.prog 35 #[.int .i64 a] w fun e w' => e = .returned (.bool false) ∧ Drawn0 w w' := by
  have := traced_calls a w
  rwa [decide_eq_false h] at this
end Go.Proofs.YtfkbacdaoeecdadDoor.RImpl
