/- Does a tick lead to a row: the walks of impl.HasBefore, spec.HasBefore. -/
import Derived.Test.YtfkbacdaoeecdadDoorRBef
namespace Go.Proofs.YtfkbacdaoeecdadDoor.RHas
open Go.RowKit Go.Proofs.YtfkbacdaoeecdadDoorW.PrintWords Go.Proofs.YtfkbacdaoeecdadDoorW.PrintLast Go.Proofs.YtfkbacdaoeecdadDoorW.PrintMore Go.Shelf Go.Proofs.YtfkbacdaoeecdadDoor.RPlain
set_option linter.unusedVariables false
set_option linter.unusedSimpArgs false

set_option maxHeartbeats 4000000 in
set_option maxRecDepth 100000 in
theorem impl_no (s : ByteArray) (h : ¬ (rowB s = true ∧ s.size ≤ 12)) (w : World) :
    Calls Tryd.prog 14 #[.string s] w fun e w' => e = .returned (.tuple #[.bool false, .bool false]) ∧ Below w.heap.size w w' := by
  have HR := Aside0.mk (fun W => RBef.impl_no s h W)
  clear h
  have HB := Aside0.mk (Below.refl w.heap.size w)
  go_enter Tryd.func14, Tryd.ntmps14
  go_wp2_with (go_at_call 29; refine (HR.out _).mono ?_; rintro e w3 ⟨v, rfl, ho, hb⟩; obtain ⟨A, cc, rfl, hlc, hC⟩ := Kd.R_reads ho; clear ho hC; have HBn := Aside0.mk (below_step (by repeat (first | (with_reducible first | exact HB.out | apply below_alloc | apply pw_below_drewN | apply below_drew1) | exact HB.out)) hb); clear hb HB; have HB := HBn; clear HBn)
  go_ret2
  exact ⟨by first | rfl | simp, (by repeat (first | (with_reducible first | exact HB.out | apply below_alloc | apply pw_below_drewN | apply below_drew1) | exact HB.out))⟩
set_option maxHeartbeats 4000000 in
set_option maxRecDepth 100000 in
theorem impl_yes (l : List UInt8) (h : rowB (bs l) = true) (h12 : (bs l).size ≤ 12) (w : World) (hML : ML w) :
    Calls Tryd.prog 14 #[.string (bs l)] w fun e w' => e = .returned (.tuple #[.bool (decide ((0 : Int) < ((befL l (2 ^ l.length)).length : Int))), .bool true]) ∧ Below w.heap.size w w' := by
  have HR := Aside0.mk (fun W (hb : Below w.heap.size w W) => RBef.impl_yes l h h12 W (hML.of_below hb))
  clear h h12 hML
  have HB := Aside0.mk (Below.refl w.heap.size w)
  generalize befL l (2 ^ l.length) = xs at *
  generalize bs l = x at *
  go_enter Tryd.func14, Tryd.ntmps14
  go_wp2_with (go_at_call 29; refine (HR.out _ (by repeat (first | (with_reducible first | exact HB.out | apply below_alloc | apply pw_below_drewN | apply below_drew1) | exact HB.out))).mono ?_; rintro e w3 ⟨v, rfl, ho, hb⟩; obtain ⟨A, cc, rfl, hlc, hC⟩ := Kd.R_reads ho; clear ho hC; have HBn := Aside0.mk (below_step (by repeat (first | (with_reducible first | exact HB.out | apply below_alloc | apply pw_below_drewN | apply below_drew1) | exact HB.out)) hb); clear hb HB; have HB := HBn; clear HBn)
  go_ret2
  exact ⟨by first | rfl | simp, (by repeat (first | (with_reducible first | exact HB.out | apply below_alloc | apply pw_below_drewN | apply below_drew1) | exact HB.out))⟩
set_option maxHeartbeats 4000000 in
set_option maxRecDepth 100000 in
theorem spec_no (s : ByteArray) (h : ¬ (rowB s = true ∧ s.size ≤ 12)) (w : World) :
    Calls Tryd.prog 13 #[.string s] w fun e w' => e = .returned (.tuple #[.bool false, .bool false]) ∧ Below w.heap.size w w' := by
  have HB := Aside0.mk (Below.refl w.heap.size w)
  cases c : rowB s with
  | false =>
    have HG := Aside0.mk (fun W => RBef.good_no s c W)
    clear h c
    go_enter Tryd.func13, Tryd.ntmps13
    go_wp2_with (go_at_call 15; refine (HG.out _).mono ?_; rintro e w' ⟨rfl, ⟨nd, rfl⟩⟩)
    go_ret2
    exact ⟨rfl, (by repeat (first | (with_reducible first | exact HB.out | apply below_alloc | apply pw_below_drewN | apply below_drew1) | exact HB.out))⟩
  | true =>
    have h12 : ¬ s.size ≤ 12 := fun z => h ⟨c, z⟩
    have HG := Aside0.mk (fun W => RBef.good_yes s.data.toList c W)
    change Aside0 (∀ W : World, Calls Tryd.prog 15 #[.string s] W fun e w' => e = .returned (.bool true) ∧ Drawn0 W w') at HG
    have HF := Aside0.mk (fun W => RSpec.few_no (s.size : Int) (by omega) W)
    clear h c h12
    go_enter Tryd.func13, Tryd.ntmps13
    go_wp2_with (first | (go_at_call 15; refine (HG.out _).mono ?_; rintro e w' ⟨rfl, ⟨nd, rfl⟩⟩) | (go_at_call 27; refine (HF.out _).mono ?_; rintro e w' ⟨rfl, ⟨nd2, rfl⟩⟩))
    go_ret2
    exact ⟨rfl, (by repeat (first | (with_reducible first | exact HB.out | apply below_alloc | apply pw_below_drewN | apply below_drew1) | exact HB.out))⟩
set_option maxHeartbeats 4000000 in
set_option maxRecDepth 100000 in
theorem spec_yes (l : List UInt8) (h : rowB (bs l) = true) (h12 : (bs l).size ≤ 12) (w : World) :
    Calls Tryd.prog 13 #[.string (bs l)] w fun e w' => e = .returned (.tuple #[.bool (decide ((0 : Int) < ((befL l (2 ^ l.length)).length : Int))), .bool true]) ∧ Below w.heap.size w w' := by
  have HB := Aside0.mk (Below.refl w.heap.size w)
  have h60 := rowB_len h
  have HG := Aside0.mk (fun W => RBef.good_yes l h W)
  have HF := Aside0.mk (fun W => RSpec.few_yes (bs l).size (by omega) W)
  have HBE := Aside0.mk (fun W => RBef.before_calls l l.length rfl h12 W)
  clear h h60 h12
  generalize befL l (2 ^ l.length) = xs at *
  generalize bs l = s at *
  go_enter Tryd.func13, Tryd.ntmps13
  go_wp2_with (first | (go_at_call 15; refine (HG.out _).mono ?_; rintro e w' ⟨rfl, ⟨nd, rfl⟩⟩) | (go_at_call 27; refine (HF.out _).mono ?_; rintro e w' ⟨rfl, ⟨nd2, rfl⟩⟩) | (go_at_call 28; refine (HBE.out _).mono ?_; rintro e w4 ⟨v, rfl, ho, hb⟩; obtain ⟨A, cc, rfl, hlc, hC⟩ := Kd.R_reads ho; clear ho hC; have HBn := Aside0.mk (below_step (by repeat (first | (with_reducible first | exact HB.out | apply below_alloc | apply pw_below_drewN | apply below_drew1) | exact HB.out)) hb); clear hb HB; have HB := HBn; clear HBn))
  go_ret2
  exact ⟨by first | rfl | simp, (by repeat (first | (with_reducible first | exact HB.out | apply below_alloc | apply pw_below_drewN | apply below_drew1) | exact HB.out))⟩
end Go.Proofs.YtfkbacdaoeecdadDoor.RHas
