/- Who face each other: the walks of impl.FacingPairs, spec.FacingPairs, by the contracts of what they call. -/
import Derived.Test.YtfkbacdaoeecdacDoorRTops
import Derived.Test.YtfkbacdaoeecdacDoorRFacing
namespace Go.Proofs.YtfkbacdaoeecdacDoor.RFP
open Go.RowKit Go.Proofs.YtfkbacdaoeecdacDoorW.PrintWords Go.Proofs.YtfkbacdaoeecdacDoorW.PrintLast Go.Proofs.YtfkbacdaoeecdacDoorW.PrintMore Go.Shelf Go.Proofs.YtfkbacdaoeecdacDoor.RPlain
set_option linter.unusedVariables false
set_option linter.unusedSimpArgs false

set_option maxHeartbeats 4000000 in
set_option maxRecDepth 100000 in
theorem impl_no (s : ByteArray) (h : rowB s = false) (w : World) :
    Calls Tryd.prog 14 #[.string s] w fun e w' => ∃ v, e = .returned (.tuple #[v, .bool false]) ∧ Kd.R (Kd.int .i64) 3 w' w.heap.size (fun _ => True) v [] ∧ Below w.heap.size w w' := by
  have HI := Aside0.mk (fun W => RImpl.isRow_no s h W)
  clear h
  have HB := Aside0.mk (Below.refl w.heap.size w)
  go_enter Tryd.func14, Tryd.ntmps14
  go_wp2_with (go_at_call 25; refine (HI.out _).mono ?_; rintro e w3 ⟨rfl, hb⟩; have HBn := Aside0.mk (below_step (by repeat (first | (with_reducible first | exact HB.out | apply below_alloc | apply pw_below_drewN | apply below_drew1) | exact HB.out)) hb); clear hb HB; have HB := HBn; clear HBn)
  go_ret2
  exact ⟨_, rfl, Kd.R_nil _ _ _ _ _, (by repeat (first | (with_reducible first | exact HB.out | apply below_alloc | apply pw_below_drewN | apply below_drew1) | exact HB.out))⟩
set_option maxHeartbeats 4000000 in
set_option maxRecDepth 100000 in
theorem spec_no (s : ByteArray) (h : rowB s = false) (w : World) :
    Calls Tryd.prog 13 #[.string s] w fun e w' => ∃ v, e = .returned (.tuple #[v, .bool false]) ∧ Kd.R (Kd.int .i64) 3 w' w.heap.size (fun _ => True) v [] ∧ Below w.heap.size w w' := by
  have HG := Aside0.mk (fun W => RTops.good_no s h W)
  clear h
  have HB := Aside0.mk (Below.refl w.heap.size w)
  go_enter Tryd.func13, Tryd.ntmps13
  go_wp2_with (go_at_call 24; refine (HG.out _).mono ?_; rintro e w' ⟨rfl, ⟨nd, rfl⟩⟩)
  go_ret2
  exact ⟨_, rfl, Kd.R_nil _ _ _ _ _, (by repeat (first | (with_reducible first | exact HB.out | apply below_alloc | apply pw_below_drewN | apply below_drew1) | exact HB.out))⟩
set_option maxHeartbeats 4000000 in
set_option maxRecDepth 100000 in
theorem impl_yes (l : List UInt8) (h : rowB (bs l) = true) (w : World) :
    Calls Tryd.prog 14 #[.string (bs l)] w fun e w' => ∃ v, e = .returned (.tuple #[v, .bool true]) ∧ Kd.R (Kd.int .i64) 3 w' w.heap.size (fun _ => True) v (prs 0 l) ∧ Below w.heap.size w w' := by
  have h60 := rowB_len h
  have hz : (bs l).size = l.length := rfl
  have HI := Aside0.mk (fun W => RImpl.isRow_yes l h W)
  have HF := Aside0.mk (fun W => RImpl.facing_calls l (by omega) W)
  clear h60 h hz
  have HB := Aside0.mk (Below.refl w.heap.size w)
  generalize prs 0 l = ps at *
  generalize bs l = x at *
  go_enter Tryd.func14, Tryd.ntmps14
  go_wp2_with (first | (go_at_call 25; refine (HI.out _).mono ?_; rintro e w3 ⟨rfl, hb⟩; have HBn := Aside0.mk (below_step (by repeat (first | (with_reducible first | exact HB.out | apply below_alloc | apply pw_below_drewN | apply below_drew1) | exact HB.out)) hb); clear hb HB; have HB := HBn; clear HBn) | (go_at_call 27; refine (HF.out _).mono ?_; rintro e w4 ⟨v, rfl, ho, hb⟩; have HO := Aside0.mk (Kd.R_lower ho (below_size (by repeat (first | (with_reducible first | exact HB.out | apply below_alloc | apply pw_below_drewN | apply below_drew1) | exact HB.out)))); have HBn := Aside0.mk (below_step (by repeat (first | (with_reducible first | exact HB.out | apply below_alloc | apply pw_below_drewN | apply below_drew1) | exact HB.out)) hb); clear ho hb HB; have HB := HBn; clear HBn))
  go_ret2
  exact ⟨_, rfl, HO.out, (by repeat (first | (with_reducible first | exact HB.out | apply below_alloc | apply pw_below_drewN | apply below_drew1) | exact HB.out))⟩
set_option maxHeartbeats 4000000 in
set_option maxRecDepth 100000 in
theorem spec_yes (l : List UInt8) (h : rowB (bs l) = true) (w : World) :
    Calls Tryd.prog 13 #[.string (bs l)] w fun e w' => ∃ v, e = .returned (.tuple #[v, .bool true]) ∧ Kd.R (Kd.int .i64) 3 w' w.heap.size (fun _ => True) v (prs 0 l) ∧ Below w.heap.size w w' := by
  have h60 := rowB_len h
  have hz : (bs l).size = l.length := rfl
  have HG := Aside0.mk (fun W => RTops.good_yes l h W)
  have HF := Aside0.mk (fun W => RSpec.pairs_calls (bs l) (by omega) W)
  change Aside0 (∀ W : World, Calls Tryd.prog 26 #[.string (bs l)] W fun e w' => ∃ v : Value, e = .returned v ∧ Kd.R (Kd.int .i64) 3 w' W.heap.size (fun _ => True) v (prs 0 l) ∧ Below W.heap.size W w') at HF
  clear h60 h hz
  have HB := Aside0.mk (Below.refl w.heap.size w)
  generalize prs 0 l = ps at *
  generalize bs l = x at *
  go_enter Tryd.func13, Tryd.ntmps13
  go_wp2_with (first | (go_at_call 24; refine (HG.out _).mono ?_; rintro e w' ⟨rfl, ⟨nd, rfl⟩⟩) | (go_at_call 26; refine (HF.out _).mono ?_; rintro e w4 ⟨v, rfl, ho, hb⟩; have HO := Aside0.mk (Kd.R_lower ho (below_size (by repeat (first | (with_reducible first | exact HB.out | apply below_alloc | apply pw_below_drewN | apply below_drew1) | exact HB.out)))); have HBn := Aside0.mk (below_step (by repeat (first | (with_reducible first | exact HB.out | apply below_alloc | apply pw_below_drewN | apply below_drew1) | exact HB.out)) hb); clear ho hb HB; have HB := HBn; clear HBn))
  go_ret2
  exact ⟨_, rfl, HO.out, (by repeat (first | (with_reducible first | exact HB.out | apply below_alloc | apply pw_below_drewN | apply below_drew1) | exact HB.out))⟩
end Go.Proofs.YtfkbacdaoeecdacDoor.RFP
