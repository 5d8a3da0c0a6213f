/- The exact laws on RowAfter, TicksToRest, RestOf, HasBefore: the walks: program and reference tell the same. -/
import Derived.Test.YtfkbacdaoeecdadDoorRTops
import Derived.Test.YtfkbacdaoeecdadDoorRAfter
import Derived.Test.YtfkbacdaoeecdadDoorRHas
namespace Go.Proofs.YtfkbacdaoeecdadDoor.RLaw
open Go.RowKit Go.Proofs.YtfkbacdaoeecdadDoorW.PrintWords Go.Proofs.YtfkbacdaoeecdadDoorW.PrintLast Go.Proofs.YtfkbacdaoeecdadDoorW.PrintMore Go.Proofs.YtfkbacdaoeecdadDoor.RPlain
set_option linter.unusedVariables false
set_option linter.unusedSimpArgs false

set_option maxHeartbeats 4000000 in
set_option maxRecDepth 100000 in
theorem RowAfter_same (s : ByteArray) (k : Int) (x : ByteArray) (b : Bool) (w : World) (hs : s.size ≤ 1048576)
    (hS : ∀ W, Calls Tryd.prog 7 #[.string s, .int .i64 k] W fun e w' => e = .returned (.tuple #[.string x, .bool b]) ∧ Below W.heap.size W w')
    (hI : ∀ W, Below w.heap.size w W → Calls Tryd.prog 8 #[.string s, .int .i64 k] W fun e w' => e = .returned (.tuple #[.string x, .bool b]) ∧ Below W.heap.size W w') :
    Calls Tryd.prog 3 #[.string s, .int .i64 k] w fun e w' => e = .returned (.bool true) ∧ Below w.heap.size w w' := by
  have HB := Aside0.mk (Below.refl w.heap.size w)
  have HS := Aside0.mk hS
  have HI := Aside0.mk hI
  clear hS hI
  go_enter Tryd.func3, Tryd.ntmps3
  go_wp2_with (first | (go_at_call 7; refine (HS.out _).mono ?_; rintro e w3 ⟨rfl, hb⟩; have HBn := Aside0.mk (below_step (by repeat (first | (with_reducible first | exact HB.out | apply below_alloc | apply pw_below_drewN | apply below_drew1) | exact HB.out)) hb); clear hb HB; have HB := HBn; clear HBn) | (go_at_call 8; refine (HI.out _ (by repeat (first | (with_reducible first | exact HB.out | apply below_alloc | apply pw_below_drewN | apply below_drew1) | exact HB.out))).mono ?_; rintro e w4 ⟨rfl, hb⟩; have HBn := Aside0.mk (below_step (by repeat (first | (with_reducible first | exact HB.out | apply below_alloc | apply pw_below_drewN | apply below_drew1) | exact HB.out)) hb); clear hb HB; have HB := HBn; clear HBn))
  go_ret
  exact ⟨rfl, (by repeat (first | (with_reducible first | exact HB.out | apply below_alloc | apply pw_below_drewN | apply below_drew1) | exact HB.out))⟩
set_option maxHeartbeats 4000000 in
set_option maxRecDepth 100000 in
theorem RowAfter_long (s : ByteArray) (k : Int) (w : World) (hs : 1048576 < s.size) (ws : s.size ≤ 140737488351232) :
    Calls Tryd.prog 3 #[.string s, .int .i64 k] w fun e w' => e = .returned (.bool true) ∧ Below w.heap.size w w' := by
  have HB := Aside0.mk (Below.refl w.heap.size w)
  go_enter Tryd.func3, Tryd.ntmps3
  go_wp2
  go_ret
  exact ⟨rfl, (by repeat (first | (with_reducible first | exact HB.out | apply below_alloc | apply pw_below_drewN | apply below_drew1) | exact HB.out))⟩
theorem RowAfter_walk (s : ByteArray) (k : Int) (w : World) (ws : s.size ≤ 140737488351232) (wk : (Lit.int .i64 k).wf = true) (hML : ML w) :
    Calls Tryd.prog 3 #[.string s, .int .i64 k] w fun e w' => e = .returned (.bool true) ∧ Below w.heap.size w w' := by
  by_cases hs : s.size ≤ 1048576
  · by_cases h : rowB s = true ∧ 0 ≤ k ∧ k ≤ 1000000
    · obtain ⟨n, rfl⟩ := Int.eq_ofNat_of_zero_le h.2.1
      exact RowAfter_same s n _ _ w hs (fun W => RAfter.spec_yes s.data.toList n h.1 (by have := h.2.2; omega) W) (fun W hb => RAfter.impl_yes s.data.toList n h.1 (by have := h.2.2; omega) W (hML.of_below hb))
    · exact RowAfter_same s k _ _ w hs (fun W => RAfter.spec_no s k h W) (fun W hb => RAfter.impl_no s k h W)
  · exact RowAfter_long s k w (by omega) ws
set_option maxHeartbeats 4000000 in
set_option maxRecDepth 100000 in
theorem TicksToRest_same (s : ByteArray) (x : Int) (b : Bool) (w : World) (hs : s.size ≤ 1048576)
    (hS : ∀ W, Calls Tryd.prog 9 #[.string s] W fun e w' => e = .returned (.tuple #[.int .i64 x, .bool b]) ∧ Below W.heap.size W w')
    (hI : ∀ W, Below w.heap.size w W → Calls Tryd.prog 10 #[.string s] W fun e w' => e = .returned (.tuple #[.int .i64 x, .bool b]) ∧ Below W.heap.size W w') :
    Calls Tryd.prog 4 #[.string s] w fun e w' => e = .returned (.bool true) ∧ Below w.heap.size w w' := by
  have HB := Aside0.mk (Below.refl w.heap.size w)
  have HS := Aside0.mk hS
  have HI := Aside0.mk hI
  clear hS hI
  go_enter Tryd.func4, Tryd.ntmps4
  go_wp2_with (first | (go_at_call 9; refine (HS.out _).mono ?_; rintro e w3 ⟨rfl, hb⟩; have HBn := Aside0.mk (below_step (by repeat (first | (with_reducible first | exact HB.out | apply below_alloc | apply pw_below_drewN | apply below_drew1) | exact HB.out)) hb); clear hb HB; have HB := HBn; clear HBn) | (go_at_call 10; refine (HI.out _ (by repeat (first | (with_reducible first | exact HB.out | apply below_alloc | apply pw_below_drewN | apply below_drew1) | exact HB.out))).mono ?_; rintro e w4 ⟨rfl, hb⟩; have HBn := Aside0.mk (below_step (by repeat (first | (with_reducible first | exact HB.out | apply below_alloc | apply pw_below_drewN | apply below_drew1) | exact HB.out)) hb); clear hb HB; have HB := HBn; clear HBn))
  go_ret
  exact ⟨rfl, (by repeat (first | (with_reducible first | exact HB.out | apply below_alloc | apply pw_below_drewN | apply below_drew1) | exact HB.out))⟩
set_option maxHeartbeats 4000000 in
set_option maxRecDepth 100000 in
theorem TicksToRest_long (s : ByteArray) (w : World) (hs : 1048576 < s.size) (ws : s.size ≤ 140737488351232) :
    Calls Tryd.prog 4 #[.string s] w fun e w' => e = .returned (.bool true) ∧ Below w.heap.size w w' := by
  have HB := Aside0.mk (Below.refl w.heap.size w)
  go_enter Tryd.func4, Tryd.ntmps4
  go_wp2
  go_ret
  exact ⟨rfl, (by repeat (first | (with_reducible first | exact HB.out | apply below_alloc | apply pw_below_drewN | apply below_drew1) | exact HB.out))⟩
theorem TicksToRest_walk (s : ByteArray) (w : World) (ws : s.size ≤ 140737488351232) (hML : ML w) :
    Calls Tryd.prog 4 #[.string s] w fun e w' => e = .returned (.bool true) ∧ Below w.heap.size w w' := by
  by_cases hs : s.size ≤ 1048576
  · cases h : rowB s with
    | true => exact TicksToRest_same s _ _ w hs (fun W => RTops.spec_TicksToRest_yes s.data.toList h W) (fun W hb => RTops.impl_TicksToRest_yes s.data.toList h W (hML.of_below hb))
    | false => exact TicksToRest_same s _ _ w hs (fun W => RTops.spec_TicksToRest_no s h W) (fun W hb => RTops.impl_TicksToRest_no s h W)
  · exact TicksToRest_long s w (by omega) ws
set_option maxHeartbeats 4000000 in
set_option maxRecDepth 100000 in
theorem RestOf_same (s : ByteArray) (x : ByteArray) (b : Bool) (w : World) (hs : s.size ≤ 1048576)
    (hS : ∀ W, Calls Tryd.prog 11 #[.string s] W fun e w' => e = .returned (.tuple #[.string x, .bool b]) ∧ Below W.heap.size W w')
    (hI : ∀ W, Below w.heap.size w W → Calls Tryd.prog 12 #[.string s] W fun e w' => e = .returned (.tuple #[.string x, .bool b]) ∧ Below W.heap.size W w') :
    Calls Tryd.prog 5 #[.string s] w fun e w' => e = .returned (.bool true) ∧ Below w.heap.size w w' := by
  have HB := Aside0.mk (Below.refl w.heap.size w)
  have HS := Aside0.mk hS
  have HI := Aside0.mk hI
  clear hS hI
  go_enter Tryd.func5, Tryd.ntmps5
  go_wp2_with (first | (go_at_call 11; refine (HS.out _).mono ?_; rintro e w3 ⟨rfl, hb⟩; have HBn := Aside0.mk (below_step (by repeat (first | (with_reducible first | exact HB.out | apply below_alloc | apply pw_below_drewN | apply below_drew1) | exact HB.out)) hb); clear hb HB; have HB := HBn; clear HBn) | (go_at_call 12; refine (HI.out _ (by repeat (first | (with_reducible first | exact HB.out | apply below_alloc | apply pw_below_drewN | apply below_drew1) | exact HB.out))).mono ?_; rintro e w4 ⟨rfl, hb⟩; have HBn := Aside0.mk (below_step (by repeat (first | (with_reducible first | exact HB.out | apply below_alloc | apply pw_below_drewN | apply below_drew1) | exact HB.out)) hb); clear hb HB; have HB := HBn; clear HBn))
  go_ret
  exact ⟨rfl, (by repeat (first | (with_reducible first | exact HB.out | apply below_alloc | apply pw_below_drewN | apply below_drew1) | exact HB.out))⟩
set_option maxHeartbeats 4000000 in
set_option maxRecDepth 100000 in
theorem RestOf_long (s : ByteArray) (w : World) (hs : 1048576 < s.size) (ws : s.size ≤ 140737488351232) :
    Calls Tryd.prog 5 #[.string s] w fun e w' => e = .returned (.bool true) ∧ Below w.heap.size w w' := by
  have HB := Aside0.mk (Below.refl w.heap.size w)
  go_enter Tryd.func5, Tryd.ntmps5
  go_wp2
  go_ret
  exact ⟨rfl, (by repeat (first | (with_reducible first | exact HB.out | apply below_alloc | apply pw_below_drewN | apply below_drew1) | exact HB.out))⟩
theorem RestOf_walk (s : ByteArray) (w : World) (ws : s.size ≤ 140737488351232) (hML : ML w) :
    Calls Tryd.prog 5 #[.string s] w fun e w' => e = .returned (.bool true) ∧ Below w.heap.size w w' := by
  by_cases hs : s.size ≤ 1048576
  · cases h : rowB s with
    | true => exact RestOf_same s _ _ w hs (fun W => RTops.spec_RestOf_yes s.data.toList h W) (fun W hb => RTops.impl_RestOf_yes s.data.toList h W (hML.of_below hb))
    | false => exact RestOf_same s _ _ w hs (fun W => RTops.spec_RestOf_no s h W) (fun W hb => RTops.impl_RestOf_no s h W)
  · exact RestOf_long s w (by omega) ws
set_option maxHeartbeats 4000000 in
set_option maxRecDepth 100000 in
theorem HasBefore_same (s : ByteArray) (x : Bool) (b : Bool) (w : World) (hs : s.size ≤ 1048576)
    (hS : ∀ W, Calls Tryd.prog 13 #[.string s] W fun e w' => e = .returned (.tuple #[.bool x, .bool b]) ∧ Below W.heap.size W w')
    (hI : ∀ W, Below w.heap.size w W → Calls Tryd.prog 14 #[.string s] W fun e w' => e = .returned (.tuple #[.bool x, .bool b]) ∧ Below W.heap.size W w') :
    Calls Tryd.prog 6 #[.string s] w fun e w' => e = .returned (.bool true) ∧ Below w.heap.size w w' := by
  have HB := Aside0.mk (Below.refl w.heap.size w)
  have HS := Aside0.mk hS
  have HI := Aside0.mk hI
  clear hS hI
  go_enter Tryd.func6, Tryd.ntmps6
  go_wp2_with (first | (go_at_call 13; refine (HS.out _).mono ?_; rintro e w3 ⟨rfl, hb⟩; have HBn := Aside0.mk (below_step (by repeat (first | (with_reducible first | exact HB.out | apply below_alloc | apply pw_below_drewN | apply below_drew1) | exact HB.out)) hb); clear hb HB; have HB := HBn; clear HBn) | (go_at_call 14; refine (HI.out _ (by repeat (first | (with_reducible first | exact HB.out | apply below_alloc | apply pw_below_drewN | apply below_drew1) | exact HB.out))).mono ?_; rintro e w4 ⟨rfl, hb⟩; have HBn := Aside0.mk (below_step (by repeat (first | (with_reducible first | exact HB.out | apply below_alloc | apply pw_below_drewN | apply below_drew1) | exact HB.out)) hb); clear hb HB; have HB := HBn; clear HBn))
  go_ret
  exact ⟨rfl, (by repeat (first | (with_reducible first | exact HB.out | apply below_alloc | apply pw_below_drewN | apply below_drew1) | exact HB.out))⟩
set_option maxHeartbeats 4000000 in
set_option maxRecDepth 100000 in
theorem HasBefore_long (s : ByteArray) (w : World) (hs : 1048576 < s.size) (ws : s.size ≤ 140737488351232) :
    Calls Tryd.prog 6 #[.string s] w fun e w' => e = .returned (.bool true) ∧ Below w.heap.size w w' := by
  have HB := Aside0.mk (Below.refl w.heap.size w)
  go_enter Tryd.func6, Tryd.ntmps6
  go_wp2
  go_ret
  exact ⟨rfl, (by repeat (first | (with_reducible first | exact HB.out | apply below_alloc | apply pw_below_drewN | apply below_drew1) | exact HB.out))⟩
theorem HasBefore_walk (s : ByteArray) (w : World) (ws : s.size ≤ 140737488351232) (hML : ML w) :
    Calls Tryd.prog 6 #[.string s] w fun e w' => e = .returned (.bool true) ∧ Below w.heap.size w w' := by
  by_cases hs : s.size ≤ 1048576
  · by_cases h : rowB s = true ∧ s.size ≤ 12
    · exact HasBefore_same s _ _ w hs (fun W => RHas.spec_yes s.data.toList h.1 h.2 W) (fun W hb => RHas.impl_yes s.data.toList h.1 h.2 W (hML.of_below hb))
    · exact HasBefore_same s _ _ w hs (fun W => RHas.spec_no s h W) (fun W hb => RHas.impl_no s h W)
  · exact HasBefore_long s w (by omega) ws
end Go.Proofs.YtfkbacdaoeecdadDoor.RLaw
