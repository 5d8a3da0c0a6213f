-- PRINTED BY print.sh 35421559b90ae4d0a3588c463048766b98c2df88dd9212a6774a882060cdf62d: not written by this session
import Derived.Test.YtfkbacdaoeecdadDoorPFnExactHasBeforex0
import Derived.Test.YtfkbacdaoeecdadDoorPFnExactHasBeforex9
namespace Go.Proofs.YtfkbacdaoeecdadDoor.PFnExactHasBefore
open Go.RowKit Go.Proofs.YtfkbacdaoeecdadDoorW.PrintWords Go.Proofs.YtfkbacdaoeecdadDoorW.PrintLast Go.Proofs.YtfkbacdaoeecdadDoorW.PrintMore
attribute [local go_sem] max2_int min2_int max_two min_two max_three min_three max_four min_four   -- for this text's walks alone
set_option linter.unusedVariables false
set_option linter.unusedSimpArgs false

-- NOT PRINTED: function 50 (stringslite_Index)

-- NOT PRINTED: function 44 (strings_Index)

-- NOT PRINTED: function 62 (utf8_RuneCountInString)

-- NOT PRINTED: function 63 (bytealg_CountString)

-- NOT PRINTED: function 51 (strings_Count)

-- NOT PRINTED: function 70 (abi_NoEscape)

-- NOT PRINTED: function 64 (strings_Builder_copyCheck)

-- NOT PRINTED: function 71 (bytealg_MakeNoZero)

-- NOT PRINTED: function 65 (strings_Builder_grow)

-- NOT PRINTED: function 52 (strings_Builder_Grow)

-- NOT PRINTED: function 53 (strings_Builder_WriteString)

-- NOT PRINTED: function 54 (strings_Builder_String)

-- NOT PRINTED: function 45 (strings_Replace)

-- NOT PRINTED: function 32 (strings_ReplaceAll)

-- NOT PRINTED: function 22 (impl_tick)

/-! ### impl_isTraced: function 35 -/
def impl_isTraced.f (a0 : Int) : Option (Bool) := (impl_in.f a0 1 12).bind fun t126 => (some t126)
set_option maxHeartbeats 8000000 in
set_option maxRecDepth 100000 in
theorem impl_isTraced.calls (a0 : Int) (r : Bool) (w : World) (h : impl_isTraced.f a0 = some r) :
    Calls Tryd.prog 35 #[.int .i64 a0] w fun e w' => e = .returned (.bool r) ∧ Drawn0 w w' := by
  have H : ((impl_in.f a0 1 12).bind fun t126 => (some t126)) = some r := h
  clear h
  replace H := Option.bind_eq_some_iff.mp H
  obtain ⟨t126, A20, H⟩ := H
  replace H : (some t126) = some r := H
  have A2 := Aside0.mk A20
  clear A20
  obtain rfl := Option.some.inj H
  go_enter Tryd.func35, Tryd.ntmps35
  go_wp2_with (first | ((with_reducible refine gate_callee (f := 20) rfl ?_); refine goesL_ (some 4) rfl rfl Tryd.func20 (by kernel_rfl) rfl #[.int .i64 a0, .int .i64 1, .int .i64 12] rfl (by (try simp only [List.map_toArray, List.map_cons, List.map_nil]); first | done | rfl | (simp only [List.length_drop, List.length_take]; rfl)) ?_; (with_reducible refine (impl_in.calls a0 1 12 t126 _ A2.out).mono ?_); rintro e w' ⟨rfl, ⟨nd, rfl⟩⟩; refine ⟨_, rfl, ?_⟩))
  go_ret
  exact ⟨by first | rfl | (simp; done) | (simp [*]; done), by repeat (first | exact Drawn0.refl _ | apply Drawn0.step)⟩

end Go.Proofs.YtfkbacdaoeecdadDoor.PFnExactHasBefore
