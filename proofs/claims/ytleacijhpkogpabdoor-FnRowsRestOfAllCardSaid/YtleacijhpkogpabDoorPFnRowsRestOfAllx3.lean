-- PRINTED BY print.sh 35421559b90ae4d0a3588c463048766b98c2df88dd9212a6774a882060cdf62d: not written by this session
import Derived.Test.YtleacijhpkogpabDoorPFnRowsRestOfAllx0
namespace Go.Proofs.YtleacijhpkogpabDoor.PFnRowsRestOfAll
open Go.RowKit Go.Proofs.YtleacijhpkogpabDoorW.PrintWords Go.Proofs.YtleacijhpkogpabDoorW.PrintLast Go.Proofs.YtleacijhpkogpabDoorW.PrintMore
attribute [local go_sem] max2_int min2_int max_two min_two max_three min_three max_four min_four   -- for this text's walks alone
set_option linter.unusedVariables false
set_option linter.unusedSimpArgs false

/-! ### spec_rwOther: function 58 -/
def spec_rwOther.f (a0 : Int) : Option (ByteArray) := if a0 = 60 then (some (⟨#[62]⟩ : ByteArray)) else (some (⟨#[60]⟩ : ByteArray))
set_option maxHeartbeats 8000000 in
set_option maxRecDepth 100000 in
theorem spec_rwOther.calls (a0 : Int) (r : ByteArray) (w : World) (h : spec_rwOther.f a0 = some r) :
    Calls Tryd.prog 58 #[.int .u8 a0] w fun e w' => e = .returned (.string r) ∧ Drawn0 w w' := by
  have H : (if a0 = 60 then (some (⟨#[62]⟩ : ByteArray)) else (some (⟨#[60]⟩ : ByteArray))) = some r := h
  clear h
  by_cases c2 : a0 = 60
  · rw [if_pos c2] at H
    have c2b0 : (a0 == 60) = true := beq_iff_eq.mpr c2
    have c2b1 : (a0 != 60) = false := bne_eq_false_iff_eq.mpr c2
    clear c2
    obtain rfl := Option.some.inj H
    go_enter Tryd.func58, Tryd.ntmps58
    go_wp2
    go_ret
    exact ⟨by first | rfl | (simp; done) | (simp [*]; done), by repeat (first | exact Drawn0.refl _ | apply Drawn0.step)⟩
  · rw [if_neg c2] at H
    have c2b0 : (a0 == 60) = false := beq_eq_false_iff_ne.mpr c2
    have c2b1 : (a0 != 60) = true := bne_iff_ne.mpr c2
    obtain rfl := Option.some.inj H
    go_enter Tryd.func58, Tryd.ntmps58
    go_wp2
    go_ret
    exact ⟨by first | rfl | (simp; done) | (simp [*]; done), by repeat (first | exact Drawn0.refl _ | apply Drawn0.step)⟩

end Go.Proofs.YtleacijhpkogpabDoor.PFnRowsRestOfAll
