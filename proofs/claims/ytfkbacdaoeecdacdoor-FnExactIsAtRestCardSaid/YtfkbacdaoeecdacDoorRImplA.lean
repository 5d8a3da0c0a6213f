/- How the program ticks a row: the walks of impl.isAtRest, tick over the library's contracts. -/
import Derived.Test.YtfkbacdaoeecdacDoorMl
import Derived.Test.YtfkbacdaoeecdacDoorRPlain
import Derived.Test.YtfkbacdaoeecdacDoorPFnExactTickRowx0
import Derived.WalkSpells
import Derived.Lib.SliceRun
import Derived.Shelf.Abstract
namespace Go.Proofs.YtfkbacdaoeecdacDoor.RImpl
open Go.RowKit Go.Proofs.YtfkbacdaoeecdacDoorW.PrintWords Go.Proofs.YtfkbacdaoeecdacDoorW.PrintLast Go.Proofs.YtfkbacdaoeecdacDoorW.PrintMore Go.Shelf Go.Proofs.YtfkbacdaoeecdacDoor.RPlain
set_option linter.unusedVariables false
set_option linter.unusedSimpArgs false

set_option maxHeartbeats 1600000 in
set_option maxRecDepth 100000 in
theorem atRest_calls (l : List UInt8) (hl : l.length < 1000000) (w : World) (hML : ML w) :
    Calls Tryd.prog 28 #[.string (bs l)] w fun e w' => e = .returned (.bool (!hasB l)) ∧ Drawn0 w w' := by
  obtain ⟨⟨m, hm⟩, _⟩ := hML
  have hC := Aside0.mk (show Calls Tryd.prog 36 #[.string (bs l), .string ⟨#[62, 60]⟩] w (fun e w' => e = .returned (.bool (Lib.contains l [62, 60])) ∧ w' = w) from Any.strings_Contains Tryd.lays144 (bs l) ⟨#[62, 60]⟩ m w (by rw [bs_size]; omega) hm)
  have hv : Aside0 (Lib.contains l [62, 60] = hasB l) := ⟨index_two _⟩
  rw [← hv.out]
  clear hv
  generalize Lib.contains l [62, 60] = b at hC
  generalize bs l = x at hC ⊢
  clear hl hm
  go_enter Tryd.func28, Tryd.ntmps28
  go_wp2_with (go_at_call 36; refine hC.out.mono ?_; rintro e w' ⟨rfl, rfl⟩)
  go_ret
  exact ⟨rfl, Drawn0.refl _⟩
theorem rest_is (l : List UInt8) (b : Bool) (h : hasB l = b) (hl : l.length < 1000000) (w : World) (hML : ML w) :
    Calls Tryd.prog 28 #[.string ⟨l.toArray⟩] w fun e w' => e = .returned (.bool (!b)) ∧ Drawn0 w w' := by
  subst h
  exact atRest_calls l hl w hML
set_option maxHeartbeats 1600000 in
set_option maxRecDepth 100000 in
theorem itick_calls (l : List UInt8) (hl : l.length < 1000000) (w : World) (hML : ML w) :
    Calls Tryd.prog 32 #[.string (bs l)] w fun e w' => e = .returned (.string (bs (tkB l))) ∧ Below w.heap.size w w' := by
  obtain ⟨⟨m, hm⟩, _⟩ := hML
  have hcnt := Lib.countB_le ⟨#[62, 60]⟩ (by decide) (bs l).size (bs l) (Nat.le_refl _)
  have hz : (bs l).size = l.length := rfl
  have hC := Aside0.mk (show Calls Tryd.prog 39 #[.string (bs l), .string ⟨#[62, 60]⟩, .string ⟨#[60, 62]⟩] w (fun e w' => e = .returned (.string ⟨(Lib.replaceAll l [62, 60] [60, 62]).toArray⟩) ∧ Below w.heap.size w w') from Any.strings_ReplaceAll Tryd.lays155 Tryd.Builder_Extra_155 (bs l) ⟨#[62, 60]⟩ ⟨#[60, 62]⟩ m w (by omega) hm (by decide) (by
    have : (⟨#[60, 62]⟩ : ByteArray).size = 2 := rfl
    rw [this]; omega))
  have hv : Aside0 ((⟨(Lib.replaceAll l [62, 60] [60, 62]).toArray⟩ : ByteArray) = bs (tkB l)) := ⟨by rw [tk_all]; rfl⟩
  rw [hv.out] at hC
  clear hv hm hcnt hz
  generalize bs (tkB l) = r at hC ⊢
  generalize bs l = x at hC ⊢
  go_enter Tryd.func32, Tryd.ntmps32
  go_wp2_with (go_at_call 39; refine hC.out.mono ?_; rintro e w' ⟨rfl, hB⟩)
  go_ret
  exact ⟨rfl, hB⟩
end Go.Proofs.YtfkbacdaoeecdacDoor.RImpl
