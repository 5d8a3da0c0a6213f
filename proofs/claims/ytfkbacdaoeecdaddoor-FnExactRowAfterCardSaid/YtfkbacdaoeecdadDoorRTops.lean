/- The exported functions on rows that tell plain values: the walks, in the program and in the reference, by the contracts of what they call. -/
import Derived.Test.YtfkbacdaoeecdadDoorRIsRow
import Derived.Test.YtfkbacdaoeecdadDoorRGood
import Derived.Test.YtfkbacdaoeecdadDoorRPlain3
import Derived.Test.YtfkbacdaoeecdadDoorRTicks
import Derived.Test.YtfkbacdaoeecdadDoorRRest
namespace Go.Proofs.YtfkbacdaoeecdadDoor.RTops
open Go.RowKit Go.Proofs.YtfkbacdaoeecdadDoorW.PrintWords Go.Proofs.YtfkbacdaoeecdadDoorW.PrintLast Go.Proofs.YtfkbacdaoeecdadDoorW.PrintMore Go.Shelf Go.Proofs.YtfkbacdaoeecdadDoor.RPlain
set_option linter.unusedVariables false
set_option linter.unusedSimpArgs false

theorem good_yes (l : List UInt8) (h : rowB (bs l) = true) (w : World) :
    Calls Tryd.prog 15 #[.string (bs l)] w fun e w' => e = .returned (.bool true) ∧ Drawn0 w w' := by
  have := RGood.good_calls (bs l) w
  rwa [h] at this
theorem good_no (s : ByteArray) (h : rowB s = false) (w : World) :
    Calls Tryd.prog 15 #[.string s] w fun e w' => e = .returned (.bool false) ∧ Drawn0 w w' := by
  have := RGood.good_calls s w
  rwa [h] at this
set_option maxHeartbeats 4000000 in
set_option maxRecDepth 100000 in
theorem impl_TicksToRest_no (s : ByteArray) (h : rowB s = false) (w : World) :
    Calls Tryd.prog 10 #[.string s] w fun e w' => e = .returned (.tuple #[.int .i64 0, .bool false]) ∧ Below w.heap.size w w' := by
  have HI := Aside0.mk (fun W => RImpl.isRow_no s h W)
  clear h
  have HB := Aside0.mk (Below.refl w.heap.size w)
  go_enter Tryd.func10, Tryd.ntmps10
  go_wp2_with (go_at_call 19; refine (HI.out _).mono ?_; rintro e w3 ⟨rfl, hb⟩; have HBn := Aside0.mk (below_step (by repeat (first | (with_reducible first | exact HB.out | apply below_alloc | apply pw_below_drewN | apply below_drew1) | exact HB.out)) hb); clear hb HB; have HB := HBn; clear HBn)
  go_ret2
  exact ⟨rfl, (by repeat (first | (with_reducible first | exact HB.out | apply below_alloc | apply pw_below_drewN | apply below_drew1) | exact HB.out))⟩
set_option maxHeartbeats 4000000 in
set_option maxRecDepth 100000 in
theorem spec_TicksToRest_no (s : ByteArray) (h : rowB s = false) (w : World) :
    Calls Tryd.prog 9 #[.string s] w fun e w' => e = .returned (.tuple #[.int .i64 0, .bool false]) ∧ Below w.heap.size w w' := by
  have HG := Aside0.mk (fun W => good_no s h W)
  clear h
  have HB := Aside0.mk (Below.refl w.heap.size w)
  go_enter Tryd.func9, Tryd.ntmps9
  go_wp2_with (go_at_call 15; refine (HG.out _).mono ?_; rintro e w' ⟨rfl, ⟨nd, rfl⟩⟩)
  go_ret2
  exact ⟨rfl, (by repeat (first | (with_reducible first | exact HB.out | apply below_alloc | apply pw_below_drewN | apply below_drew1) | exact HB.out))⟩
set_option maxHeartbeats 4000000 in
set_option maxRecDepth 100000 in
theorem impl_TicksToRest_yes (l : List UInt8) (h : rowB (bs l) = true) (w : World) (hML : ML w) :
    Calls Tryd.prog 10 #[.string (bs l)] w fun e w' => e = .returned (.tuple #[.int .i64 ((histL l).2.length : Int), .bool true]) ∧ Below w.heap.size w w' := by
  have h60 := rowB_len h
  have hz : (bs l).size = l.length := rfl
  have HI := Aside0.mk (fun W => RImpl.isRow_yes l h W)
  have HT := Aside0.mk (fun W (hb : Below w.heap.size w W) => RImpl.ticks_calls l (by omega) W (hML.of_below hb))
  clear h60 h hz hML
  have HB := Aside0.mk (Below.refl w.heap.size w)
  generalize ((histL l).2.length : Int) = r at *
  generalize bs l = x at *
  go_enter Tryd.func10, Tryd.ntmps10
  go_wp2_with (first | (go_at_call 19; refine (HI.out _).mono ?_; rintro e w3 ⟨rfl, hb⟩; have HBn := Aside0.mk (below_step (by repeat (first | (with_reducible first | exact HB.out | apply below_alloc | apply pw_below_drewN | apply below_drew1) | exact HB.out)) hb); clear hb HB; have HB := HBn; clear HBn) | (go_at_call 24; refine (HT.out _ (by repeat (first | (with_reducible first | exact HB.out | apply below_alloc | apply pw_below_drewN | apply below_drew1) | exact HB.out))).mono ?_; rintro e w4 ⟨rfl, hb⟩; have HBn := Aside0.mk (below_step (by repeat (first | (with_reducible first | exact HB.out | apply below_alloc | apply pw_below_drewN | apply below_drew1) | exact HB.out)) hb); clear hb HB; have HB := HBn; clear HBn))
  go_ret2
  exact ⟨by first | rfl | simp, (by repeat (first | (with_reducible first | exact HB.out | apply below_alloc | apply pw_below_drewN | apply below_drew1) | exact HB.out))⟩
set_option maxHeartbeats 4000000 in
set_option maxRecDepth 100000 in
theorem spec_TicksToRest_yes (l : List UInt8) (h : rowB (bs l) = true) (w : World) :
    Calls Tryd.prog 9 #[.string (bs l)] w fun e w' => e = .returned (.tuple #[.int .i64 ((histL l).2.length : Int), .bool true]) ∧ Below w.heap.size w w' := by
  have h60 := rowB_len h
  have hz : (bs l).size = l.length := rfl
  have HG := Aside0.mk (fun W => good_yes l h W)
  have HT := Aside0.mk (fun W => RSpec.rest_calls l (by omega) W)
  clear h60 h hz
  have HB := Aside0.mk (Below.refl w.heap.size w)
  generalize ((histL l).2.length : Int) = r at *
  generalize bs (histL l).1 = y at *
  generalize bs l = x at *
  go_enter Tryd.func9, Tryd.ntmps9
  go_wp2_with (first | (go_at_call 15; refine (HG.out _).mono ?_; rintro e w' ⟨rfl, ⟨nd, rfl⟩⟩) | (go_at_call 23; refine (HT.out _).mono ?_; rintro e w4 ⟨rfl, hb⟩; have HBn := Aside0.mk (below_step (by repeat (first | (with_reducible first | exact HB.out | apply below_alloc | apply pw_below_drewN | apply below_drew1) | exact HB.out)) hb); clear hb HB; have HB := HBn; clear HBn))
  go_ret2
  exact ⟨by first | rfl | simp, (by repeat (first | (with_reducible first | exact HB.out | apply below_alloc | apply pw_below_drewN | apply below_drew1) | exact HB.out))⟩
set_option maxHeartbeats 4000000 in
set_option maxRecDepth 100000 in
theorem impl_RestOf_no (s : ByteArray) (h : rowB s = false) (w : World) :
    Calls Tryd.prog 12 #[.string s] w fun e w' => e = .returned (.tuple #[.string ⟨#[]⟩, .bool false]) ∧ Below w.heap.size w w' := by
  have HI := Aside0.mk (fun W => RImpl.isRow_no s h W)
  clear h
  have HB := Aside0.mk (Below.refl w.heap.size w)
  go_enter Tryd.func12, Tryd.ntmps12
  go_wp2_with (go_at_call 19; refine (HI.out _).mono ?_; rintro e w3 ⟨rfl, hb⟩; have HBn := Aside0.mk (below_step (by repeat (first | (with_reducible first | exact HB.out | apply below_alloc | apply pw_below_drewN | apply below_drew1) | exact HB.out)) hb); clear hb HB; have HB := HBn; clear HBn)
  go_ret2
  exact ⟨rfl, (by repeat (first | (with_reducible first | exact HB.out | apply below_alloc | apply pw_below_drewN | apply below_drew1) | exact HB.out))⟩
set_option maxHeartbeats 4000000 in
set_option maxRecDepth 100000 in
theorem spec_RestOf_no (s : ByteArray) (h : rowB s = false) (w : World) :
    Calls Tryd.prog 11 #[.string s] w fun e w' => e = .returned (.tuple #[.string ⟨#[]⟩, .bool false]) ∧ Below w.heap.size w w' := by
  have HG := Aside0.mk (fun W => good_no s h W)
  clear h
  have HB := Aside0.mk (Below.refl w.heap.size w)
  go_enter Tryd.func11, Tryd.ntmps11
  go_wp2_with (go_at_call 15; refine (HG.out _).mono ?_; rintro e w' ⟨rfl, ⟨nd, rfl⟩⟩)
  go_ret2
  exact ⟨rfl, (by repeat (first | (with_reducible first | exact HB.out | apply below_alloc | apply pw_below_drewN | apply below_drew1) | exact HB.out))⟩
set_option maxHeartbeats 4000000 in
set_option maxRecDepth 100000 in
theorem RestOf_1_calls (x : ByteArray) (w : World) :
    Calls Tryd.prog 26 #[.string x] w fun e w' => e = .returned (.tuple #[]) ∧ Below w.heap.size w w' := by
  go_enter Tryd.func26, Tryd.ntmps26
  go_wp2
  first | go_end0 | go_ret
  exact ⟨by first | rfl | simp, (by repeat (first | exact Below.refl _ _ | apply below_alloc | apply pw_below_drewN | apply below_drew1))⟩
set_option maxHeartbeats 4000000 in
set_option maxRecDepth 100000 in
theorem impl_RestOf_yes (l : List UInt8) (h : rowB (bs l) = true) (w : World) (hML : ML w) :
    Calls Tryd.prog 12 #[.string (bs l)] w fun e w' => e = .returned (.tuple #[.string (bs (histL l).1), .bool true]) ∧ Below w.heap.size w w' := by
  have h60 := rowB_len h
  have hz : (bs l).size = l.length := rfl
  have HI := Aside0.mk (fun W => RImpl.isRow_yes l h W)
  have HH := Aside0.mk (fun W (hi : Below w.heap.size w W) => (show Calls Tryd.prog 25 #[.string (bs l), .func (.func 26) #[] #[]] W (fun e w' => e = .returned (.string (bs (histL l).1)) ∧ Below w.heap.size w w') from
    (RImpl.history_calls 26 #[] (enters_ (P := Tryd.prog) Tryd.func26 (by kernel_rfl) rfl) (fun _ (s : Unit) => s) (fun _ W => Below w.heap.size w W)
      (fun s W hi => hML.of_below hi) (fun s W W' hi hb => below_then hi hi.size hb) l.length (by omega) (fun l' s W hl' hi => (RestOf_1_calls ⟨l'.toArray⟩ W).mono fun e W' h => ⟨h.1, below_then hi hi.size h.2⟩) l rfl () W hi).mono fun e W' h => ⟨h.1, h.2⟩))
  clear h60 h hz hML
  have HB := Aside0.mk (Below.refl w.heap.size w)
  generalize bs (histL l).1 = r at *
  generalize bs l = x at *
  have hmf : ∀ (fn : Fn) (first cap : Array Value) (w : World), (Instr.makeFunc fn first cap).run Tryd.prog w = .ok (.func fn first cap) w := fun _ _ _ _ => rfl
  go_enter Tryd.func12, Tryd.ntmps12
  go_wp2_with (first | (go_at_call 19; refine (HI.out _).mono ?_; rintro e w3 ⟨rfl, hb⟩; have HBn := Aside0.mk (below_step (by repeat (first | (with_reducible first | exact HB.out | apply below_alloc | apply pw_below_drewN | apply below_drew1) | exact HB.out)) hb); clear hb HB; have HB := HBn; clear HBn) | (go_at_call 25; refine (HH.out _ (by repeat (first | (with_reducible first | exact HB.out | apply below_alloc | apply pw_below_drewN | apply below_drew1) | exact HB.out))).mono ?_; rintro e w4 ⟨rfl, hb⟩; clear HB; have HB := Aside0.mk hb; clear hb))
  go_ret2
  exact ⟨by first | rfl | simp, (by repeat (first | (with_reducible first | exact HB.out | apply below_alloc | apply pw_below_drewN | apply below_drew1) | exact HB.out))⟩
set_option maxHeartbeats 4000000 in
set_option maxRecDepth 100000 in
theorem spec_RestOf_yes (l : List UInt8) (h : rowB (bs l) = true) (w : World) :
    Calls Tryd.prog 11 #[.string (bs l)] w fun e w' => e = .returned (.tuple #[.string (bs (histL l).1), .bool true]) ∧ Below w.heap.size w w' := by
  have h60 := rowB_len h
  have hz : (bs l).size = l.length := rfl
  have HG := Aside0.mk (fun W => good_yes l h W)
  have HT := Aside0.mk (fun W => RSpec.rest_calls l (by omega) W)
  clear h60 h hz
  have HB := Aside0.mk (Below.refl w.heap.size w)
  generalize ((histL l).2.length : Int) = r at *
  generalize bs (histL l).1 = y at *
  generalize bs l = x at *
  go_enter Tryd.func11, Tryd.ntmps11
  go_wp2_with (first | (go_at_call 15; refine (HG.out _).mono ?_; rintro e w' ⟨rfl, ⟨nd, rfl⟩⟩) | (go_at_call 23; refine (HT.out _).mono ?_; rintro e w4 ⟨rfl, hb⟩; have HBn := Aside0.mk (below_step (by repeat (first | (with_reducible first | exact HB.out | apply below_alloc | apply pw_below_drewN | apply below_drew1) | exact HB.out)) hb); clear hb HB; have HB := HBn; clear HBn))
  go_ret2
  exact ⟨by first | rfl | simp, (by repeat (first | (with_reducible first | exact HB.out | apply below_alloc | apply pw_below_drewN | apply below_drew1) | exact HB.out))⟩
end Go.Proofs.YtfkbacdaoeecdadDoor.RTops
