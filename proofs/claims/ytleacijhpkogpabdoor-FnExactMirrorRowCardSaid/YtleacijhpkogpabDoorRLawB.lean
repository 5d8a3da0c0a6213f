/- The laws on mirrored rows and on turns: the walks of laws.FnExactMirrorRow, FnExactCountTurns: program and reference tell the same. -/
import Derived.Test.YtleacijhpkogpabDoorRTurns
import Derived.Test.YtleacijhpkogpabDoorRMirror
namespace Go.Proofs.YtleacijhpkogpabDoor.RLaw
open Go.RowKit Go.Proofs.YtleacijhpkogpabDoorW.PrintWords Go.Proofs.YtleacijhpkogpabDoorW.PrintLast Go.Proofs.YtleacijhpkogpabDoorW.PrintMore Go.Proofs.YtleacijhpkogpabDoor.RPlain
set_option linter.unusedVariables false
set_option linter.unusedSimpArgs false

set_option maxHeartbeats 4000000 in
set_option maxRecDepth 100000 in
theorem MirrorRow_same (s : ByteArray) (x : ByteArray) (b : Bool) (w : World) (hs : s.size ≤ 1048576) (hS : ∀ W, Calls Tryd.prog 8 #[.string s] W fun e w' => e = .returned (.tuple #[.string x, .bool b]) ∧ Below W.heap.size W w')
    (hI : ∀ W, Below w.heap.size w W → Calls Tryd.prog 9 #[.string s] W fun e w' => e = .returned (.tuple #[.string x, .bool b]) ∧ Below W.heap.size W w') :
    Calls Tryd.prog 3 #[.string s] w fun e w' => e = .returned (.bool true) ∧ Below w.heap.size w w' := by
  have HB := Aside0.mk (Below.refl w.heap.size w)
  have HS := Aside0.mk hS
  have HI := Aside0.mk hI
  clear hS hI
  go_enter Tryd.func3, Tryd.ntmps3
  go_wp2_with (first | (go_at_call 8; refine (HS.out _).mono ?_; rintro e w3 ⟨rfl, hb⟩; have HBn := Aside0.mk (below_step (by repeat (first | (with_reducible first | exact HB.out | apply below_alloc | apply pw_below_drewN | apply below_drew1) | exact HB.out)) hb); clear hb HB; have HB := HBn; clear HBn) | (go_at_call 9; refine (HI.out _ (by repeat (first | (with_reducible first | exact HB.out | apply below_alloc | apply pw_below_drewN | apply below_drew1) | exact HB.out))).mono ?_; rintro e w4 ⟨rfl, hb⟩; have HBn := Aside0.mk (below_step (by repeat (first | (with_reducible first | exact HB.out | apply below_alloc | apply pw_below_drewN | apply below_drew1) | exact HB.out)) hb); clear hb HB; have HB := HBn; clear HBn))
  go_ret
  exact ⟨rfl, (by repeat (first | (with_reducible first | exact HB.out | apply below_alloc | apply pw_below_drewN | apply below_drew1) | exact HB.out))⟩
set_option maxHeartbeats 4000000 in
set_option maxRecDepth 100000 in
theorem MirrorRow_long (s : ByteArray) (w : World) (hs : 1048576 < s.size) (ws : s.size ≤ 140737488351232) :
    Calls Tryd.prog 3 #[.string s] w fun e w' => e = .returned (.bool true) ∧ Below w.heap.size w w' := by
  have HB := Aside0.mk (Below.refl w.heap.size w)
  go_enter Tryd.func3, Tryd.ntmps3
  go_wp2
  go_ret
  exact ⟨rfl, (by repeat (first | (with_reducible first | exact HB.out | apply below_alloc | apply pw_below_drewN | apply below_drew1) | exact HB.out))⟩
theorem MirrorRow_walk (s : ByteArray) (w : World) (ws : s.size ≤ 140737488351232) (hML : ML w) :
    Calls Tryd.prog 3 #[.string s] w fun e w' => e = .returned (.bool true) ∧ Below w.heap.size w w' := by
  by_cases hs : s.size ≤ 1048576
  · cases h : rowB s with
    | true => exact MirrorRow_same s _ _ w hs (fun W => (RMirror.spec_yes s.data.toList h W).mono fun e W' h => ⟨h.1, h.2.below⟩) (fun W hb => RMirror.impl_yes s.data.toList h W (hML.of_below hb))
    | false => exact MirrorRow_same s _ _ w hs (fun W => (RMirror.spec_no s h W).mono fun e W' h => ⟨h.1, h.2.below⟩) (fun W hb => RMirror.impl_no s h W)
  · exact MirrorRow_long s w (by omega) ws
set_option maxHeartbeats 4000000 in
set_option maxRecDepth 100000 in
theorem CountTurns_same (s : ByteArray) (x : Int) (b : Bool) (w : World) (hs : s.size ≤ 1048576) (hS : ∀ W, Calls Tryd.prog 10 #[.string s] W fun e w' => e = .returned (.tuple #[.int .i64 x, .bool b]) ∧ Below W.heap.size W w')
    (hI : ∀ W, Below w.heap.size w W → Calls Tryd.prog 11 #[.string s] W fun e w' => e = .returned (.tuple #[.int .i64 x, .bool b]) ∧ Below W.heap.size W w') :
    Calls Tryd.prog 4 #[.string s] w fun e w' => e = .returned (.bool true) ∧ Below w.heap.size w w' := by
  have HB := Aside0.mk (Below.refl w.heap.size w)
  have HS := Aside0.mk hS
  have HI := Aside0.mk hI
  clear hS hI
  go_enter Tryd.func4, Tryd.ntmps4
  go_wp2_with (first | (go_at_call 10; refine (HS.out _).mono ?_; rintro e w3 ⟨rfl, hb⟩; have HBn := Aside0.mk (below_step (by repeat (first | (with_reducible first | exact HB.out | apply below_alloc | apply pw_below_drewN | apply below_drew1) | exact HB.out)) hb); clear hb HB; have HB := HBn; clear HBn) | (go_at_call 11; refine (HI.out _ (by repeat (first | (with_reducible first | exact HB.out | apply below_alloc | apply pw_below_drewN | apply below_drew1) | exact HB.out))).mono ?_; rintro e w4 ⟨rfl, hb⟩; have HBn := Aside0.mk (below_step (by repeat (first | (with_reducible first | exact HB.out | apply below_alloc | apply pw_below_drewN | apply below_drew1) | exact HB.out)) hb); clear hb HB; have HB := HBn; clear HBn))
  go_ret
  exact ⟨rfl, (by repeat (first | (with_reducible first | exact HB.out | apply below_alloc | apply pw_below_drewN | apply below_drew1) | exact HB.out))⟩
set_option maxHeartbeats 4000000 in
set_option maxRecDepth 100000 in
theorem CountTurns_long (s : ByteArray) (w : World) (hs : 1048576 < s.size) (ws : s.size ≤ 140737488351232) :
    Calls Tryd.prog 4 #[.string s] w fun e w' => e = .returned (.bool true) ∧ Below w.heap.size w w' := by
  have HB := Aside0.mk (Below.refl w.heap.size w)
  go_enter Tryd.func4, Tryd.ntmps4
  go_wp2
  go_ret
  exact ⟨rfl, (by repeat (first | (with_reducible first | exact HB.out | apply below_alloc | apply pw_below_drewN | apply below_drew1) | exact HB.out))⟩
theorem CountTurns_walk (s : ByteArray) (w : World) (ws : s.size ≤ 140737488351232) (hML : ML w) :
    Calls Tryd.prog 4 #[.string s] w fun e w' => e = .returned (.bool true) ∧ Below w.heap.size w w' := by
  by_cases hs : s.size ≤ 1048576
  · cases h : rowB s with
    | true => exact CountTurns_same s _ _ w hs (fun W => RTurns.spec_yes s.data.toList h W) (fun W hb => RTurns.impl_yes s.data.toList h W (hML.of_below hb))
    | false => exact CountTurns_same s _ _ w hs (fun W => RTurns.spec_no s h W) (fun W hb => RTurns.impl_no s h W)
  · exact CountTurns_long s w (by omega) ws
end Go.Proofs.YtleacijhpkogpabDoor.RLaw
