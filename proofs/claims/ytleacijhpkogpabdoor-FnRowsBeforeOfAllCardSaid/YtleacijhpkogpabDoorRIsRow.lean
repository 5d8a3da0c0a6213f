/- Is a text a row, as the program tells it: the walk of impl.isRow over strings.Trim's contract. -/
import Derived.Test.YtleacijhpkogpabDoorMl
import Derived.Test.YtleacijhpkogpabDoorRPlain
import Derived.Test.YtleacijhpkogpabDoorPFnRowsBeforeOfAllx1
import Derived.WalkSpells
import Derived.Shelf.Abstract
namespace Go.Proofs.YtleacijhpkogpabDoor.RImpl
open Go.RowKit Go.Proofs.YtleacijhpkogpabDoorW.PrintWords Go.Proofs.YtleacijhpkogpabDoorW.PrintLast Go.Proofs.YtleacijhpkogpabDoorW.PrintMore Go.Shelf Go.Proofs.YtleacijhpkogpabDoor.PFnRowsBeforeOfAll Go.Proofs.YtleacijhpkogpabDoor.RPlain
set_option linter.unusedVariables false
set_option linter.unusedSimpArgs false

set_option maxHeartbeats 1600000 in
set_option maxRecDepth 100000 in
theorem isRow_calls (a0 : ByteArray) (w : World) :
    Calls Tryd.prog 59 #[.string a0] w fun e w' => e = .returned (.bool (rowB a0)) ∧ Below w.heap.size w w' := by
  by_cases c1 : 1 ≤ a0.size ∧ a0.size ≤ 60
  · have hin := Aside0.mk (fun W => impl_in.calls (a0.size : Int) 1 60 true W (by
      unfold impl_in.f
      rw [if_pos (by omega)]
      simp; omega))
    have hcon := fun W : World => Any.strings_Trim_laid Tryd.lays160 (by kernel_rfl) a0 ⟨#[60, 62]⟩ W (by omega) (by decide) (ascii_of_all (by decide))
    have hT := Aside0.mk (fun W : World => (show Calls Tryd.prog 84 #[.string a0, .string ⟨#[60, 62]⟩] W (fun e w' => e = .returned (.string ⟨(Lib.trimS a0.data.toList [60, 62]).toArray⟩) ∧ Below W.heap.size W w') from hcon W))
    clear hcon
    have hv : Aside0 (rowB a0 = (Lib.trimS a0.data.toList [60, 62]).isEmpty) := ⟨by
      unfold rowB
      rw [decide_eq_true c1.1, decide_eq_true c1.2, trimS_all]; rfl⟩
    generalize Lib.trimS a0.data.toList [60, 62] = l at hT hv
    rw [hv.out]
    clear hv c1
    cases l with
    | nil =>
      go_enter Tryd.func59, Tryd.ntmps59
      go_wp2_with (first | (go_at_call 80; refine (hin.out _).mono ?_; rintro e w' ⟨rfl, ⟨nd, rfl⟩⟩) | (go_at_call 84; refine (hT.out _).mono ?_; rintro e w9 ⟨rfl, hb9⟩))
      go_ret
      exact ⟨by first | rfl | (simp; done), by first | exact hb9 | exact below_then (by repeat (first | exact Below.refl _ _ | apply pw_below_drewN | apply below_drew)) (by simp) hb9⟩
    | cons b l =>
      go_enter Tryd.func59, Tryd.ntmps59
      go_wp2_with (first | (go_at_call 80; refine (hin.out _).mono ?_; rintro e w' ⟨rfl, ⟨nd, rfl⟩⟩) | (go_at_call 84; refine (hT.out _).mono ?_; rintro e w9 ⟨rfl, hb9⟩))
      go_ret
      exact ⟨by first | rfl | (simp; done), by first | exact hb9 | exact below_then (by repeat (first | exact Below.refl _ _ | apply pw_below_drewN | apply below_drew)) (by simp) hb9⟩
  · have hin := Aside0.mk (fun W => impl_in.calls (a0.size : Int) 1 60 false W (by
      unfold impl_in.f
      split
      · simp; omega
      · rfl))
    have hv : Aside0 (rowB a0 = false) := ⟨by
      unfold rowB
      rcases Nat.lt_or_ge a0.size 1 with h | h
      · rw [decide_eq_false (show ¬ 1 ≤ a0.size by omega)]; rfl
      · rw [decide_eq_false (show ¬ a0.size ≤ 60 by omega)]; simp⟩
    rw [hv.out]
    clear hv c1
    go_enter Tryd.func59, Tryd.ntmps59
    go_wp2_with (go_at_call 80; refine (hin.out _).mono ?_; rintro e w' ⟨rfl, ⟨nd, rfl⟩⟩)
    go_ret
    exact ⟨rfl, by repeat (first | exact Below.refl _ _ | apply pw_below_drewN | apply below_drew)⟩
theorem isRow_yes (l : List UInt8) (h : rowB (bs l) = true) (w : World) :
    Calls Tryd.prog 59 #[.string (bs l)] w fun e w' => e = .returned (.bool true) ∧ Below w.heap.size w w' := by
  have := isRow_calls (bs l) w
  rwa [h] at this
theorem isRow_no (s : ByteArray) (h : rowB s = false) (w : World) :
    Calls Tryd.prog 59 #[.string s] w fun e w' => e = .returned (.bool false) ∧ Below w.heap.size w w' := by
  have := isRow_calls s w
  rwa [h] at this
end Go.Proofs.YtleacijhpkogpabDoor.RImpl
