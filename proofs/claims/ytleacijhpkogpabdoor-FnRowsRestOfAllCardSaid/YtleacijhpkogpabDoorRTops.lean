/- The exported functions on rows that tell plain values: the walks, in the program and in the reference, by the contracts of what they call. -/
import Derived.Test.YtleacijhpkogpabDoorRIsRow
import Derived.Test.YtleacijhpkogpabDoorRPlain
import Derived.Test.YtleacijhpkogpabDoorRImpl
import Derived.Test.YtleacijhpkogpabDoorRRest
import Derived.Test.YtleacijhpkogpabDoorPFnRowsRestOfAllx33
import Derived.Test.YtleacijhpkogpabDoorPFnRowsRestOfAllx5
import Derived.Test.YtleacijhpkogpabDoorPFnRowsRestOfAllx1
namespace Go.Proofs.YtleacijhpkogpabDoor.RTops
open Go.RowKit Go.Proofs.YtleacijhpkogpabDoorW.PrintWords Go.Proofs.YtleacijhpkogpabDoorW.PrintLast Go.Proofs.YtleacijhpkogpabDoorW.PrintMore Go.Shelf Go.Proofs.YtleacijhpkogpabDoor.RPlain
set_option linter.unusedVariables false
set_option linter.unusedSimpArgs false

theorem good_yes (l : List UInt8) (h : rowB (bs l) = true) (w : World) :
    Calls Tryd.prog 57 #[.string (bs l)] w fun e w' => e = .returned (.bool true) ∧ Drawn0 w w' := by
  have := RGood.good_calls (bs l) w
  rwa [h] at this
theorem good_no (s : ByteArray) (h : rowB s = false) (w : World) :
    Calls Tryd.prog 57 #[.string s] w fun e w' => e = .returned (.bool false) ∧ Drawn0 w w' := by
  have := RGood.good_calls s w
  rwa [h] at this
set_option maxHeartbeats 4000000 in
set_option maxRecDepth 100000 in
theorem impl_IsRow (s : ByteArray) (w : World) :
    Calls Tryd.prog 46 #[.string s] w fun e w' => e = .returned (.bool (rowB s)) ∧ Below w.heap.size w w' := by
  have HI := Aside0.mk (fun W => RImpl.isRow_calls s W)
  have HB := Aside0.mk (Below.refl w.heap.size w)
  generalize rowB s = b at *
  go_enter Tryd.func46, Tryd.ntmps46
  go_wp2_with (go_at_call 59; refine (HI.out _).mono ?_; rintro e w3 ⟨rfl, hb⟩; have HBn := Aside0.mk (below_step (by repeat (first | (with_reducible first | exact HB.out | apply below_alloc | apply pw_below_drewN | apply below_drew1) | exact HB.out)) hb); clear hb HB; have HB := HBn; clear HBn)
  go_ret
  exact ⟨rfl, (by repeat (first | (with_reducible first | exact HB.out | apply below_alloc | apply pw_below_drewN | apply below_drew1) | exact HB.out))⟩
set_option maxHeartbeats 4000000 in
set_option maxRecDepth 100000 in
theorem spec_IsRow (s : ByteArray) (w : World) :
    Calls Tryd.prog 47 #[.string s] w fun e w' => e = .returned (.bool (rowB s)) ∧ Below w.heap.size w w' := by
  have HG := Aside0.mk (fun W => RGood.good_calls s W)
  have HB := Aside0.mk (Below.refl w.heap.size w)
  generalize rowB s = b at *
  go_enter Tryd.func47, Tryd.ntmps47
  go_wp2_with (go_at_call 57; refine (HG.out _).mono ?_; rintro e w' ⟨rfl, ⟨nd, rfl⟩⟩)
  go_ret
  exact ⟨rfl, (by repeat (first | (with_reducible first | exact HB.out | apply below_alloc | apply pw_below_drewN | apply below_drew1) | exact HB.out))⟩
set_option maxHeartbeats 4000000 in
set_option maxRecDepth 100000 in
theorem impl_TickRow_no (s : ByteArray) (h : rowB s = false) (w : World) :
    Calls Tryd.prog 24 #[.string s] w fun e w' => e = .returned (.tuple #[.string ⟨#[]⟩, .bool false]) ∧ Below w.heap.size w w' := by
  have HI := Aside0.mk (fun W => RImpl.isRow_no s h W)
  clear h
  have HB := Aside0.mk (Below.refl w.heap.size w)
  go_enter Tryd.func24, Tryd.ntmps24
  go_wp2_with (go_at_call 59; refine (HI.out _).mono ?_; rintro e w3 ⟨rfl, hb⟩; have HBn := Aside0.mk (below_step (by repeat (first | (with_reducible first | exact HB.out | apply below_alloc | apply pw_below_drewN | apply below_drew1) | exact HB.out)) hb); clear hb HB; have HB := HBn; clear HBn)
  go_ret2
  exact ⟨rfl, (by repeat (first | (with_reducible first | exact HB.out | apply below_alloc | apply pw_below_drewN | apply below_drew1) | exact HB.out))⟩
set_option maxHeartbeats 4000000 in
set_option maxRecDepth 100000 in
theorem spec_TickRow_no (s : ByteArray) (h : rowB s = false) (w : World) :
    Calls Tryd.prog 41 #[.string s] w fun e w' => e = .returned (.tuple #[.string ⟨#[]⟩, .bool false]) ∧ Below w.heap.size w w' := by
  have HG := Aside0.mk (fun W => good_no s h W)
  clear h
  have HB := Aside0.mk (Below.refl w.heap.size w)
  go_enter Tryd.func41, Tryd.ntmps41
  go_wp2_with (go_at_call 57; refine (HG.out _).mono ?_; rintro e w' ⟨rfl, ⟨nd, rfl⟩⟩)
  go_ret2
  exact ⟨rfl, (by repeat (first | (with_reducible first | exact HB.out | apply below_alloc | apply pw_below_drewN | apply below_drew1) | exact HB.out))⟩
set_option maxHeartbeats 4000000 in
set_option maxRecDepth 100000 in
theorem impl_TickRow_yes (l : List UInt8) (h : rowB (bs l) = true) (w : World) (hML : ML w) :
    Calls Tryd.prog 24 #[.string (bs l)] w fun e w' => e = .returned (.tuple #[.string (bs (tkB l)), .bool true]) ∧ Below w.heap.size w w' := by
  have h60 := rowB_len h
  have hz : (bs l).size = l.length := rfl
  have HI := Aside0.mk (fun W => RImpl.isRow_yes l h W)
  have HT := Aside0.mk (fun W (hb : Below w.heap.size w W) => RImpl.itick_calls l (by omega) W (hML.of_below hb))
  clear h60 h hz hML
  have HB := Aside0.mk (Below.refl w.heap.size w)
  generalize bs (tkB l) = r at *
  generalize bs l = x at *
  go_enter Tryd.func24, Tryd.ntmps24
  go_wp2_with (first | (go_at_call 59; refine (HI.out _).mono ?_; rintro e w3 ⟨rfl, hb⟩; have HBn := Aside0.mk (below_step (by repeat (first | (with_reducible first | exact HB.out | apply below_alloc | apply pw_below_drewN | apply below_drew1) | exact HB.out)) hb); clear hb HB; have HB := HBn; clear HBn) | (go_at_call 70; refine (HT.out _ (by repeat (first | (with_reducible first | exact HB.out | apply below_alloc | apply pw_below_drewN | apply below_drew1) | exact HB.out))).mono ?_; rintro e w4 ⟨rfl, hb⟩; have HBn := Aside0.mk (below_step (by repeat (first | (with_reducible first | exact HB.out | apply below_alloc | apply pw_below_drewN | apply below_drew1) | exact HB.out)) hb); clear hb HB; have HB := HBn; clear HBn))
  go_ret2
  exact ⟨by first | rfl | simp, (by repeat (first | (with_reducible first | exact HB.out | apply below_alloc | apply pw_below_drewN | apply below_drew1) | exact HB.out))⟩
set_option maxHeartbeats 4000000 in
set_option maxRecDepth 100000 in
theorem spec_TickRow_yes (l : List UInt8) (h : rowB (bs l) = true) (w : World) :
    Calls Tryd.prog 41 #[.string (bs l)] w fun e w' => e = .returned (.tuple #[.string (bs (tkB l)), .bool true]) ∧ Below w.heap.size w w' := by
  have h60 := rowB_len h
  have hz : (bs l).size = l.length := rfl
  have HG := Aside0.mk (fun W => good_yes l h W)
  have HT := Aside0.mk (fun W => RSpec.tick_calls (bs l) (by omega) W)
  change Aside0 (∀ W : World, Calls Tryd.prog 63 #[.string (bs l)] W fun e w' => e = .returned (.string (bs (tkB l))) ∧ Below W.heap.size W w') at HT
  clear h60 h hz
  have HB := Aside0.mk (Below.refl w.heap.size w)
  generalize bs (tkB l) = r at *
  generalize bs l = x at *
  go_enter Tryd.func41, Tryd.ntmps41
  go_wp2_with (first | (go_at_call 57; refine (HG.out _).mono ?_; rintro e w' ⟨rfl, ⟨nd, rfl⟩⟩) | (go_at_call 63; refine (HT.out _).mono ?_; rintro e w4 ⟨rfl, hb⟩; have HBn := Aside0.mk (below_step (by repeat (first | (with_reducible first | exact HB.out | apply below_alloc | apply pw_below_drewN | apply below_drew1) | exact HB.out)) hb); clear hb HB; have HB := HBn; clear HBn))
  go_ret2
  exact ⟨by first | rfl | simp, (by repeat (first | (with_reducible first | exact HB.out | apply below_alloc | apply pw_below_drewN | apply below_drew1) | exact HB.out))⟩
set_option maxHeartbeats 4000000 in
set_option maxRecDepth 100000 in
theorem impl_IsAtRest_no (s : ByteArray) (h : rowB s = false) (w : World) :
    Calls Tryd.prog 22 #[.string s] w fun e w' => e = .returned (.tuple #[.bool false, .bool false]) ∧ Below w.heap.size w w' := by
  have HI := Aside0.mk (fun W => RImpl.isRow_no s h W)
  clear h
  have HB := Aside0.mk (Below.refl w.heap.size w)
  go_enter Tryd.func22, Tryd.ntmps22
  go_wp2_with (go_at_call 59; refine (HI.out _).mono ?_; rintro e w3 ⟨rfl, hb⟩; have HBn := Aside0.mk (below_step (by repeat (first | (with_reducible first | exact HB.out | apply below_alloc | apply pw_below_drewN | apply below_drew1) | exact HB.out)) hb); clear hb HB; have HB := HBn; clear HBn)
  go_ret2
  exact ⟨rfl, (by repeat (first | (with_reducible first | exact HB.out | apply below_alloc | apply pw_below_drewN | apply below_drew1) | exact HB.out))⟩
set_option maxHeartbeats 4000000 in
set_option maxRecDepth 100000 in
theorem spec_IsAtRest_no (s : ByteArray) (h : rowB s = false) (w : World) :
    Calls Tryd.prog 42 #[.string s] w fun e w' => e = .returned (.tuple #[.bool false, .bool false]) ∧ Below w.heap.size w w' := by
  have HG := Aside0.mk (fun W => good_no s h W)
  clear h
  have HB := Aside0.mk (Below.refl w.heap.size w)
  go_enter Tryd.func42, Tryd.ntmps42
  go_wp2_with (go_at_call 57; refine (HG.out _).mono ?_; rintro e w' ⟨rfl, ⟨nd, rfl⟩⟩)
  go_ret2
  exact ⟨rfl, (by repeat (first | (with_reducible first | exact HB.out | apply below_alloc | apply pw_below_drewN | apply below_drew1) | exact HB.out))⟩
set_option maxHeartbeats 4000000 in
set_option maxRecDepth 100000 in
theorem impl_IsAtRest_yes (l : List UInt8) (h : rowB (bs l) = true) (w : World) (hML : ML w) :
    Calls Tryd.prog 22 #[.string (bs l)] w fun e w' => e = .returned (.tuple #[.bool (!hasB l), .bool true]) ∧ Below w.heap.size w w' := by
  have h60 := rowB_len h
  have hz : (bs l).size = l.length := rfl
  have HI := Aside0.mk (fun W => RImpl.isRow_yes l h W)
  have HT := Aside0.mk (fun W (hb : Below w.heap.size w W) => RImpl.atRest_calls l (by omega) W (hML.of_below hb))
  clear h60 h hz hML
  have HB := Aside0.mk (Below.refl w.heap.size w)
  generalize (!hasB l) = r at *
  generalize bs l = x at *
  go_enter Tryd.func22, Tryd.ntmps22
  go_wp2_with (first | (go_at_call 59; refine (HI.out _).mono ?_; rintro e w3 ⟨rfl, hb⟩; have HBn := Aside0.mk (below_step (by repeat (first | (with_reducible first | exact HB.out | apply below_alloc | apply pw_below_drewN | apply below_drew1) | exact HB.out)) hb); clear hb HB; have HB := HBn; clear HBn) | (go_at_call 73; refine (HT.out _ (by repeat (first | (with_reducible first | exact HB.out | apply below_alloc | apply pw_below_drewN | apply below_drew1) | exact HB.out))).mono ?_; rintro e w' ⟨rfl, ⟨nd2, rfl⟩⟩))
  go_ret2
  exact ⟨by first | rfl | simp, (by repeat (first | (with_reducible first | exact HB.out | apply below_alloc | apply pw_below_drewN | apply below_drew1) | exact HB.out))⟩
set_option maxHeartbeats 4000000 in
set_option maxRecDepth 100000 in
theorem spec_IsAtRest_yes (l : List UInt8) (h : rowB (bs l) = true) (w : World) :
    Calls Tryd.prog 42 #[.string (bs l)] w fun e w' => e = .returned (.tuple #[.bool (!hasB l), .bool true]) ∧ Below w.heap.size w w' := by
  have h60 := rowB_len h
  have hz : (bs l).size = l.length := rfl
  have HG := Aside0.mk (fun W => good_yes l h W)
  have HP := Aside0.mk (fun W => RSpec.pairs_calls (bs l) (by omega) W)
  change Aside0 (∀ W : World, Calls Tryd.prog 62 #[.string (bs l)] W fun e w' => ∃ v : Value, e = .returned v ∧ Kd.R (Kd.int .i64) 3 w' W.heap.size (fun _ => True) v (prs 0 l) ∧ Below W.heap.size W w') at HP
  have HE := Aside0.mk (prs_has 0 l)
  clear h60 h hz
  have HB := Aside0.mk (Below.refl w.heap.size w)
  rw [← HE.out]
  clear HE
  generalize prs 0 l = ps at *
  generalize bs l = x at *
  go_enter Tryd.func42, Tryd.ntmps42
  go_wp2_with (first | (go_at_call 57; refine (HG.out _).mono ?_; rintro e w' ⟨rfl, ⟨nd, rfl⟩⟩) | (go_at_call 62; refine (HP.out _).mono ?_; rintro e w3 ⟨v, rfl, ho, hb⟩; obtain ⟨A, cc, rfl, hlc, hC⟩ := Kd.R_reads ho; clear ho hC; have HBn := Aside0.mk (below_step (by repeat (first | (with_reducible first | exact HB.out | apply below_alloc | apply pw_below_drewN | apply below_drew1) | exact HB.out)) hb); clear hb HB; have HB := HBn; clear HBn))
  go_ret2
  exact ⟨by first | rfl | simp, (by repeat (first | (with_reducible first | exact HB.out | apply below_alloc | apply pw_below_drewN | apply below_drew1) | exact HB.out))⟩
set_option maxHeartbeats 4000000 in
set_option maxRecDepth 100000 in
theorem impl_TicksToRest_no (s : ByteArray) (h : rowB s = false) (w : World) :
    Calls Tryd.prog 35 #[.string s] w fun e w' => e = .returned (.tuple #[.int .i64 0, .bool false]) ∧ Below w.heap.size w w' := by
  have HI := Aside0.mk (fun W => RImpl.isRow_no s h W)
  clear h
  have HB := Aside0.mk (Below.refl w.heap.size w)
  go_enter Tryd.func35, Tryd.ntmps35
  go_wp2_with (go_at_call 59; refine (HI.out _).mono ?_; rintro e w3 ⟨rfl, hb⟩; have HBn := Aside0.mk (below_step (by repeat (first | (with_reducible first | exact HB.out | apply below_alloc | apply pw_below_drewN | apply below_drew1) | exact HB.out)) hb); clear hb HB; have HB := HBn; clear HBn)
  go_ret2
  exact ⟨rfl, (by repeat (first | (with_reducible first | exact HB.out | apply below_alloc | apply pw_below_drewN | apply below_drew1) | exact HB.out))⟩
set_option maxHeartbeats 4000000 in
set_option maxRecDepth 100000 in
theorem spec_TicksToRest_no (s : ByteArray) (h : rowB s = false) (w : World) :
    Calls Tryd.prog 36 #[.string s] w fun e w' => e = .returned (.tuple #[.int .i64 0, .bool false]) ∧ Below w.heap.size w w' := by
  have HG := Aside0.mk (fun W => good_no s h W)
  clear h
  have HB := Aside0.mk (Below.refl w.heap.size w)
  go_enter Tryd.func36, Tryd.ntmps36
  go_wp2_with (go_at_call 57; refine (HG.out _).mono ?_; rintro e w' ⟨rfl, ⟨nd, rfl⟩⟩)
  go_ret2
  exact ⟨rfl, (by repeat (first | (with_reducible first | exact HB.out | apply below_alloc | apply pw_below_drewN | apply below_drew1) | exact HB.out))⟩
set_option maxHeartbeats 4000000 in
set_option maxRecDepth 100000 in
theorem impl_TicksToRest_yes (l : List UInt8) (h : rowB (bs l) = true) (w : World) (hML : ML w) :
    Calls Tryd.prog 35 #[.string (bs l)] w fun e w' => e = .returned (.tuple #[.int .i64 ((histL l).2.length : Int), .bool true]) ∧ Below w.heap.size w w' := by
  have h60 := rowB_len h
  have hz : (bs l).size = l.length := rfl
  have HI := Aside0.mk (fun W => RImpl.isRow_yes l h W)
  have HT := Aside0.mk (fun W (hb : Below w.heap.size w W) => RImpl.ticks_calls l (by omega) W (hML.of_below hb))
  clear h60 h hz hML
  have HB := Aside0.mk (Below.refl w.heap.size w)
  generalize ((histL l).2.length : Int) = r at *
  generalize bs l = x at *
  go_enter Tryd.func35, Tryd.ntmps35
  go_wp2_with (first | (go_at_call 59; refine (HI.out _).mono ?_; rintro e w3 ⟨rfl, hb⟩; have HBn := Aside0.mk (below_step (by repeat (first | (with_reducible first | exact HB.out | apply below_alloc | apply pw_below_drewN | apply below_drew1) | exact HB.out)) hb); clear hb HB; have HB := HBn; clear HBn) | (go_at_call 82; refine (HT.out _ (by repeat (first | (with_reducible first | exact HB.out | apply below_alloc | apply pw_below_drewN | apply below_drew1) | exact HB.out))).mono ?_; rintro e w4 ⟨rfl, hb⟩; have HBn := Aside0.mk (below_step (by repeat (first | (with_reducible first | exact HB.out | apply below_alloc | apply pw_below_drewN | apply below_drew1) | exact HB.out)) hb); clear hb HB; have HB := HBn; clear HBn))
  go_ret2
  exact ⟨by first | rfl | simp, (by repeat (first | (with_reducible first | exact HB.out | apply below_alloc | apply pw_below_drewN | apply below_drew1) | exact HB.out))⟩
set_option maxHeartbeats 4000000 in
set_option maxRecDepth 100000 in
theorem spec_TicksToRest_yes (l : List UInt8) (h : rowB (bs l) = true) (w : World) :
    Calls Tryd.prog 36 #[.string (bs l)] w fun e w' => e = .returned (.tuple #[.int .i64 ((histL l).2.length : Int), .bool true]) ∧ Below w.heap.size w w' := by
  have h60 := rowB_len h
  have hz : (bs l).size = l.length := rfl
  have HG := Aside0.mk (fun W => good_yes l h W)
  have HT := Aside0.mk (fun W => RSpec.rest_calls l (by omega) W)
  clear h60 h hz
  have HB := Aside0.mk (Below.refl w.heap.size w)
  generalize ((histL l).2.length : Int) = r at *
  generalize bs (histL l).1 = y at *
  generalize bs l = x at *
  go_enter Tryd.func36, Tryd.ntmps36
  go_wp2_with (first | (go_at_call 57; refine (HG.out _).mono ?_; rintro e w' ⟨rfl, ⟨nd, rfl⟩⟩) | (go_at_call 78; refine (HT.out _).mono ?_; rintro e w4 ⟨rfl, hb⟩; have HBn := Aside0.mk (below_step (by repeat (first | (with_reducible first | exact HB.out | apply below_alloc | apply pw_below_drewN | apply below_drew1) | exact HB.out)) hb); clear hb HB; have HB := HBn; clear HBn))
  go_ret2
  exact ⟨by first | rfl | simp, (by repeat (first | (with_reducible first | exact HB.out | apply below_alloc | apply pw_below_drewN | apply below_drew1) | exact HB.out))⟩
set_option maxHeartbeats 4000000 in
set_option maxRecDepth 100000 in
theorem impl_RestOf_no (s : ByteArray) (h : rowB s = false) (w : World) :
    Calls Tryd.prog 37 #[.string s] w fun e w' => e = .returned (.tuple #[.string ⟨#[]⟩, .bool false]) ∧ Below w.heap.size w w' := by
  have HI := Aside0.mk (fun W => RImpl.isRow_no s h W)
  clear h
  have HB := Aside0.mk (Below.refl w.heap.size w)
  go_enter Tryd.func37, Tryd.ntmps37
  go_wp2_with (go_at_call 59; refine (HI.out _).mono ?_; rintro e w3 ⟨rfl, hb⟩; have HBn := Aside0.mk (below_step (by repeat (first | (with_reducible first | exact HB.out | apply below_alloc | apply pw_below_drewN | apply below_drew1) | exact HB.out)) hb); clear hb HB; have HB := HBn; clear HBn)
  go_ret2
  exact ⟨rfl, (by repeat (first | (with_reducible first | exact HB.out | apply below_alloc | apply pw_below_drewN | apply below_drew1) | exact HB.out))⟩
set_option maxHeartbeats 4000000 in
set_option maxRecDepth 100000 in
theorem spec_RestOf_no (s : ByteArray) (h : rowB s = false) (w : World) :
    Calls Tryd.prog 38 #[.string s] w fun e w' => e = .returned (.tuple #[.string ⟨#[]⟩, .bool false]) ∧ Below w.heap.size w w' := by
  have HG := Aside0.mk (fun W => good_no s h W)
  clear h
  have HB := Aside0.mk (Below.refl w.heap.size w)
  go_enter Tryd.func38, Tryd.ntmps38
  go_wp2_with (go_at_call 57; refine (HG.out _).mono ?_; rintro e w' ⟨rfl, ⟨nd, rfl⟩⟩)
  go_ret2
  exact ⟨rfl, (by repeat (first | (with_reducible first | exact HB.out | apply below_alloc | apply pw_below_drewN | apply below_drew1) | exact HB.out))⟩
set_option maxHeartbeats 4000000 in
set_option maxRecDepth 100000 in
theorem RestOf_1_calls (x : ByteArray) (w : World) :
    Calls Tryd.prog 83 #[.string x] w fun e w' => e = .returned (.tuple #[]) ∧ Below w.heap.size w w' := by
  go_enter Tryd.func83, Tryd.ntmps83
  go_wp2
  first | go_end0 | go_ret
  exact ⟨by first | rfl | simp, (by repeat (first | exact Below.refl _ _ | apply below_alloc | apply pw_below_drewN | apply below_drew1))⟩
set_option maxHeartbeats 4000000 in
set_option maxRecDepth 100000 in
theorem impl_RestOf_yes (l : List UInt8) (h : rowB (bs l) = true) (w : World) (hML : ML w) :
    Calls Tryd.prog 37 #[.string (bs l)] w fun e w' => e = .returned (.tuple #[.string (bs (histL l).1), .bool true]) ∧ Below w.heap.size w w' := by
  have h60 := rowB_len h
  have hz : (bs l).size = l.length := rfl
  have HI := Aside0.mk (fun W => RImpl.isRow_yes l h W)
  have HH := Aside0.mk (fun W (hi : Below w.heap.size w W) => (show Calls Tryd.prog 64 #[.string (bs l), .func (.func 83) #[] #[]] W (fun e w' => e = .returned (.string (bs (histL l).1)) ∧ Below w.heap.size w w') from
    (RImpl.history_calls 83 #[] (enters_ (P := Tryd.prog) Tryd.func83 (by kernel_rfl) rfl) (fun _ (s : Unit) => s) (fun _ W => Below w.heap.size w W)
      (fun s W hi => hML.of_below hi) (fun s W W' hi hb => below_then hi hi.size hb) l.length (by omega) (fun l' s W hl' hi => (RestOf_1_calls ⟨l'.toArray⟩ W).mono fun e W' h => ⟨h.1, below_then hi hi.size h.2⟩) l rfl () W hi).mono fun e W' h => ⟨h.1, h.2⟩))
  clear h60 h hz hML
  have HB := Aside0.mk (Below.refl w.heap.size w)
  generalize bs (histL l).1 = r at *
  generalize bs l = x at *
  have hmf : ∀ (fn : Fn) (first cap : Array Value) (w : World), (Instr.makeFunc fn first cap).run Tryd.prog w = .ok (.func fn first cap) w := fun _ _ _ _ => rfl
  go_enter Tryd.func37, Tryd.ntmps37
  go_wp2_with (first | (go_at_call 59; refine (HI.out _).mono ?_; rintro e w3 ⟨rfl, hb⟩; have HBn := Aside0.mk (below_step (by repeat (first | (with_reducible first | exact HB.out | apply below_alloc | apply pw_below_drewN | apply below_drew1) | exact HB.out)) hb); clear hb HB; have HB := HBn; clear HBn) | (go_at_call 64; refine (HH.out _ (by repeat (first | (with_reducible first | exact HB.out | apply below_alloc | apply pw_below_drewN | apply below_drew1) | exact HB.out))).mono ?_; rintro e w4 ⟨rfl, hb⟩; clear HB; have HB := Aside0.mk hb; clear hb))
  go_ret2
  exact ⟨by first | rfl | simp, (by repeat (first | (with_reducible first | exact HB.out | apply below_alloc | apply pw_below_drewN | apply below_drew1) | exact HB.out))⟩
set_option maxHeartbeats 4000000 in
set_option maxRecDepth 100000 in
theorem spec_RestOf_yes (l : List UInt8) (h : rowB (bs l) = true) (w : World) :
    Calls Tryd.prog 38 #[.string (bs l)] w fun e w' => e = .returned (.tuple #[.string (bs (histL l).1), .bool true]) ∧ Below w.heap.size w w' := by
  have h60 := rowB_len h
  have hz : (bs l).size = l.length := rfl
  have HG := Aside0.mk (fun W => good_yes l h W)
  have HT := Aside0.mk (fun W => RSpec.rest_calls l (by omega) W)
  clear h60 h hz
  have HB := Aside0.mk (Below.refl w.heap.size w)
  generalize ((histL l).2.length : Int) = r at *
  generalize bs (histL l).1 = y at *
  generalize bs l = x at *
  go_enter Tryd.func38, Tryd.ntmps38
  go_wp2_with (first | (go_at_call 57; refine (HG.out _).mono ?_; rintro e w' ⟨rfl, ⟨nd, rfl⟩⟩) | (go_at_call 78; refine (HT.out _).mono ?_; rintro e w4 ⟨rfl, hb⟩; have HBn := Aside0.mk (below_step (by repeat (first | (with_reducible first | exact HB.out | apply below_alloc | apply pw_below_drewN | apply below_drew1) | exact HB.out)) hb); clear hb HB; have HB := HBn; clear HBn))
  go_ret2
  exact ⟨by first | rfl | simp, (by repeat (first | (with_reducible first | exact HB.out | apply below_alloc | apply pw_below_drewN | apply below_drew1) | exact HB.out))⟩
end Go.Proofs.YtleacijhpkogpabDoor.RTops
/- The row in which each looks to the other side: the walks of impl.TurnedRow, spec.TurnedRow. -/
namespace Go.Proofs.YtleacijhpkogpabDoor.RTurn
open Go.RowKit Go.Proofs.YtleacijhpkogpabDoorW.PrintWords Go.Proofs.YtleacijhpkogpabDoorW.PrintLast Go.Proofs.YtleacijhpkogpabDoorW.PrintMore Go.Shelf Go.Proofs.YtleacijhpkogpabDoor.RPlain
set_option linter.unusedVariables false
set_option linter.unusedSimpArgs false

theorem turned_loop (s : ByteArray) (hs : s.size ≤ 1048576) : ∀ (d i : Nat) (acc : List UInt8), i + d = s.size → acc.length = i →
    Ev (fun k => PFnRowsRestOfAll.spec_TurnedRow.l0 k s (bs acc) (i : Int)) (bs (acc ++ (s.data.toList.drop i).map otherB), true) := by
  have hz := sz s
  intro d
  induction d with
  | zero =>
    intro i acc hi ha
    refine Ev.step (f := fun _ => some (bs acc, true)) (fun k => ?_) ?_
    · simp only [PFnRowsRestOfAll.spec_TurnedRow.l0]
      rw [if_neg (by omega)]
    · rw [List.drop_eq_nil_of_le (by omega), List.map_nil, List.append_nil]
      exact Ev.now _
  | succ d ih =>
    intro i acc hi ha
    have hlt : i < s.data.toList.length := by omega
    have hr := ih (i + 1) (acc ++ [otherB s.data.toList[i]]) (by omega) (by simp; omega)
    rw [List.append_assoc] at hr
    rw [List.drop_eq_getElem_cons hlt, List.map_cons]
    have hsz : (bs acc).size + 1 ≤ 9223372036854775807 := by
      have : (bs acc).size = acc.length := rfl
      omega
    have ew : wrap64 ((i : Int) + 1) = ((i + 1 : Nat) : Int) := by unfold wrap64; omega
    refine Ev.step (f := fun k => PFnRowsRestOfAll.spec_TurnedRow.l0 k s (bs (acc ++ [otherB s.data.toList[i]])) ((i + 1 : Nat) : Int)) (fun k => ?_) hr
    simp only [PFnRowsRestOfAll.spec_TurnedRow.l0, PFnRowsRestOfAll.spec_rwOther.f]
    rw [if_pos (by omega), if_pos (by omega), ew]
    by_cases c : s.data.toList[i] = 60
    · rw [if_pos ((RGood.bt_60 s i hlt).2 c), Option.bind_some, if_pos (show (bs acc).size + (⟨#[62]⟩ : ByteArray).size ≤ 9223372036854775807 from hsz), bs_snoc, otherB, if_pos c]
    · rw [if_neg (fun e => c ((RGood.bt_60 s i hlt).1 e)), Option.bind_some, if_pos (show (bs acc).size + (⟨#[60]⟩ : ByteArray).size ≤ 9223372036854775807 from hsz), bs_snoc, otherB, if_neg c]
theorem spec_yes (l : List UInt8) (h : rowB (bs l) = true) (w : World) :
    Calls Tryd.prog 44 #[.string (bs l)] w fun e w' => e = .returned (.tuple #[.string (bs (l.map otherB)), .bool true]) ∧ Below w.heap.size w w' := by
  have h60 := rowB_len h
  have h1 := turned_loop (bs l) (by omega) (bs l).size 0 [] (Nat.zero_add _) rfl
  rw [show (bs l).data.toList = l from rfl, List.drop_zero, List.nil_append] at h1
  have h2 : Ev (fun k => PFnRowsRestOfAll.spec_TurnedRow.f k (bs l)) (bs (l.map otherB), true) := by
    refine Ev.bind (RGood.good_ev (bs l)) ?_
    simp only [h, if_true]
    exact h1
  obtain ⟨k, hk⟩ := h2.rounds
  exact (PFnRowsRestOfAll.spec_TurnedRow.calls k _ _ _ w hk).mono fun e W' h => ⟨h.1, h.2.below⟩
theorem spec_no (s : ByteArray) (h : rowB s = false) (w : World) :
    Calls Tryd.prog 44 #[.string s] w fun e w' => e = .returned (.tuple #[.string ⟨#[]⟩, .bool false]) ∧ Below w.heap.size w w' := by
  have h2 : Ev (fun k => PFnRowsRestOfAll.spec_TurnedRow.f k s) ((⟨#[]⟩ : ByteArray), false) := by
    refine Ev.bind (RGood.good_ev s) ?_
    simp only [h]
    exact Ev.now _
  obtain ⟨k, hk⟩ := h2.rounds
  exact (PFnRowsRestOfAll.spec_TurnedRow.calls k _ _ _ w hk).mono fun e W' h => ⟨h.1, h.2.below⟩
set_option maxHeartbeats 4000000 in
set_option maxRecDepth 100000 in
theorem impl_no (s : ByteArray) (h : rowB s = false) (w : World) :
    Calls Tryd.prog 43 #[.string s] w fun e w' => e = .returned (.tuple #[.string ⟨#[]⟩, .bool false]) ∧ Below w.heap.size w w' := by
  have HI := Aside0.mk (fun W => RImpl.isRow_no s h W)
  clear h
  have HB := Aside0.mk (Below.refl w.heap.size w)
  go_enter Tryd.func43, Tryd.ntmps43
  go_wp2_with (go_at_call 59; refine (HI.out _).mono ?_; rintro e w3 ⟨rfl, hb⟩; have HBn := Aside0.mk (below_step (by repeat (first | (with_reducible first | exact HB.out | apply below_alloc | apply pw_below_drewN | apply below_drew1) | exact HB.out)) hb); clear hb HB; have HB := HBn; clear HBn)
  go_ret2
  exact ⟨rfl, (by repeat (first | (with_reducible first | exact HB.out | apply below_alloc | apply pw_below_drewN | apply below_drew1) | exact HB.out))⟩
set_option maxHeartbeats 4000000 in
set_option maxRecDepth 100000 in
theorem impl_yes (l : List UInt8) (h : rowB (bs l) = true) (w : World) (hML : ML w) :
    Calls Tryd.prog 43 #[.string (bs l)] w fun e w' => e = .returned (.tuple #[.string (bs (l.map otherB)), .bool true]) ∧ Below w.heap.size w w' := by
  have h60 := rowB_len h
  have hz : (bs l).size = l.length := rfl
  have HI := Aside0.mk (fun W => RImpl.isRow_yes l h W)
  have HT := Aside0.mk (fun W (hb : Below w.heap.size w W) => RImpl.turned_calls l (by omega) (rowB_all h) W (hML.of_below hb))
  clear h60 h hz hML
  have HB := Aside0.mk (Below.refl w.heap.size w)
  generalize bs (l.map otherB) = r at *
  generalize bs l = x at *
  go_enter Tryd.func43, Tryd.ntmps43
  go_wp2_with (first | (go_at_call 59; refine (HI.out _).mono ?_; rintro e w3 ⟨rfl, hb⟩; have HBn := Aside0.mk (below_step (by repeat (first | (with_reducible first | exact HB.out | apply below_alloc | apply pw_below_drewN | apply below_drew1) | exact HB.out)) hb); clear hb HB; have HB := HBn; clear HBn) | (go_at_call 60; with_reducible refine (HT.out _ (by repeat (first | (with_reducible first | exact HB.out | apply below_alloc | apply pw_below_drewN | apply below_drew1) | exact HB.out))).mono ?_; rintro e w4 ⟨rfl, hb⟩; have HBn := Aside0.mk (below_step (by repeat (first | (with_reducible first | exact HB.out | apply below_alloc | apply pw_below_drewN | apply below_drew1) | exact HB.out)) hb); clear hb HB; have HB := HBn; clear HBn))
  go_ret2
  exact ⟨rfl, (by repeat (first | (with_reducible first | exact HB.out | apply below_alloc | apply pw_below_drewN | apply below_drew1) | exact HB.out))⟩
end Go.Proofs.YtleacijhpkogpabDoor.RTurn
/- The row of a number: the walks of impl.RowOfNumber, spec.RowOfNumber. -/
namespace Go.Proofs.YtleacijhpkogpabDoor.RByNum
open Go.RowKit Go.Proofs.YtleacijhpkogpabDoorW.PrintWords Go.Proofs.YtleacijhpkogpabDoorW.PrintLast Go.Proofs.YtleacijhpkogpabDoorW.PrintMore Go.Shelf Go.Proofs.YtleacijhpkogpabDoor.RPlain
set_option linter.unusedVariables false
set_option linter.unusedSimpArgs false

theorem in_calls (a b c : Int) (w : World) : Calls Tryd.prog 80 #[.int .i64 a, .int .i64 b, .int .i64 c] w fun e w' => e = .returned (.bool (decide (b ≤ a ∧ a ≤ c))) ∧ Drawn0 w w' :=
  PFnRowsRestOfAll.impl_in.calls a b c _ w (by
    unfold PFnRowsRestOfAll.impl_in.f
    by_cases h : b ≤ a
    · rw [if_pos h]
      by_cases h2 : a ≤ c
      · rw [decide_eq_true h2, decide_eq_true ⟨h, h2⟩]
      · rw [decide_eq_false h2, decide_eq_false (fun z => h2 z.2)]
    · rw [if_neg h, decide_eq_false (fun z => h z.1)])
theorem l1in_calls (a b c : Int) (w : World) : Calls Tryd.prog 81 #[.int .i64 a, .int .i64 b, .int .i64 c] w fun e w' => e = .returned (.bool (decide (b ≤ a ∧ a ≤ c))) ∧ Drawn0 w w' :=
  PFnRowsRestOfAll.spec_l1In.calls a b c _ w (by
    unfold PFnRowsRestOfAll.spec_l1In.f
    by_cases h : a ≥ b
    · rw [if_pos h]
      by_cases h2 : a ≤ c
      · rw [decide_eq_true h2, decide_eq_true ⟨h, h2⟩]
      · rw [decide_eq_false h2, decide_eq_false (fun z => h2 z.2)]
    · rw [if_neg h, decide_eq_false (fun z => h z.1)])
theorem pow_60 (m : Nat) (h : m ≤ 60) : 2 ^ m ≤ 1152921504606846976 := Nat.le_trans (Nat.pow_le_pow_right (by decide) h) (by decide)
theorem wrap_pow (m : Nat) (h : m ≤ 60) : wrap64 (2 ^ m) = ((2 ^ m : Nat) : Int) := by
  have := pow_60 m h
  rw [show ((2 : Int) ^ m) = ((2 ^ m : Nat) : Int) by push_cast; rfl]
  generalize 2 ^ m = P at *
  unfold wrap64; omega
set_option maxHeartbeats 4000000 in
set_option maxRecDepth 100000 in
theorem impl_no (n v : Int) (h : ¬ (1 ≤ n ∧ n ≤ 60 ∧ 0 ≤ v ∧ v < ((2 ^ n.toNat : Nat) : Int))) (w : World) :
    Calls Tryd.prog 52 #[.int .i64 n, .int .i64 v] w fun e w' => e = .returned (.tuple #[.string ⟨#[]⟩, .bool false]) ∧ Below w.heap.size w w' := by
  have HB := Aside0.mk (Below.refl w.heap.size w)
  by_cases hn : 1 ≤ n ∧ n ≤ 60
  · obtain ⟨m, rfl⟩ := Int.eq_ofNat_of_zero_le (show 0 ≤ n by omega)
    have hp := pow_60 m (by omega)
    have hpw := wrap_pow m (by omega)
    rw [Int.toNat_natCast] at h
    generalize hP : 2 ^ m = P at *
    have HPP := Aside0.mk hP
    clear hP
    have hv : ¬ (0 ≤ v ∧ v ≤ (P : Int) - 1) := fun z => h ⟨hn.1, hn.2, z.1, by omega⟩
    have H1 := Aside0.mk (fun W => in_calls (m : Int) 1 60 W)
    rw [decide_eq_true hn] at H1
    have H2 := Aside0.mk (fun W => in_calls v 0 ((P : Int) - 1) W)
    rw [decide_eq_false hv] at H2
    obtain ⟨h1, h2⟩ := hn
    clear h hv
    go_enter Tryd.func52, Tryd.ntmps52
    go_wp2_with (first | (go_at_call 80; with_reducible refine (H1.out _).mono ?_; rintro e w' ⟨rfl, ⟨nd1, rfl⟩⟩) | (go_at_call 80; with_reducible refine (H2.out _).mono ?_; rintro e w' ⟨rfl, ⟨nd2, rfl⟩⟩))
    go_ret2
    exact ⟨rfl, (by repeat (first | (with_reducible first | exact HB.out | apply below_alloc | apply pw_below_drewN | apply below_drew1) | exact HB.out))⟩
  · have H1 := Aside0.mk (fun W => in_calls n 1 60 W)
    rw [decide_eq_false hn] at H1
    clear h hn
    go_enter Tryd.func52, Tryd.ntmps52
    go_wp2_with (go_at_call 80; with_reducible refine (H1.out _).mono ?_; rintro e w' ⟨rfl, ⟨nd1, rfl⟩⟩)
    go_ret2
    exact ⟨rfl, (by repeat (first | (with_reducible first | exact HB.out | apply below_alloc | apply pw_below_drewN | apply below_drew1) | exact HB.out))⟩
set_option maxHeartbeats 4000000 in
set_option maxRecDepth 100000 in
theorem impl_yes (m v : Nat) (hn : 1 ≤ m ∧ m ≤ 60) (hv : v < 2 ^ m) (w : World) :
    Calls Tryd.prog 52 #[.int .i64 (m : Int), .int .i64 (v : Int)] w fun e w' => e = .returned (.tuple #[.string (bs (mkL m v)), .bool true]) ∧ Below w.heap.size w w' := by
  have HB := Aside0.mk (Below.refl w.heap.size w)
  have hp := pow_60 m hn.2
  have hpw := wrap_pow m hn.2
  have HR := Aside0.mk (fun W => RImpl.rowOf_calls m v (by omega) (by omega) W)
  generalize hP : 2 ^ m = P at *
  have HPP := Aside0.mk hP
  clear hP
  have H1 := Aside0.mk (fun W => in_calls (m : Int) 1 60 W)
  rw [decide_eq_true (show (1 : Int) ≤ (m : Int) ∧ (m : Int) ≤ 60 by omega)] at H1
  have H2 := Aside0.mk (fun W => in_calls (v : Int) 0 ((P : Int) - 1) W)
  rw [decide_eq_true (show (0 : Int) ≤ (v : Int) ∧ (v : Int) ≤ (P : Int) - 1 by omega)] at H2
  obtain ⟨h1, h2⟩ := hn
  generalize bs (mkL m v) = r at *
  clear hv
  go_enter Tryd.func52, Tryd.ntmps52
  go_wp2_with (first | (go_at_call 80; with_reducible refine (H1.out _).mono ?_; rintro e w' ⟨rfl, ⟨nd1, rfl⟩⟩) | (go_at_call 80; with_reducible refine (H2.out _).mono ?_; rintro e w' ⟨rfl, ⟨nd2, rfl⟩⟩) | (go_at_call 69; with_reducible refine (HR.out _).mono ?_; rintro e w4 ⟨rfl, hb⟩; have HBn := Aside0.mk (below_step (by repeat (first | (with_reducible first | exact HB.out | apply below_alloc | apply pw_below_drewN | apply below_drew1) | exact HB.out)) hb); clear hb HB; have HB := HBn; clear HBn))
  go_ret2
  exact ⟨rfl, (by repeat (first | (with_reducible first | exact HB.out | apply below_alloc | apply pw_below_drewN | apply below_drew1) | exact HB.out))⟩
set_option maxHeartbeats 4000000 in
set_option maxRecDepth 100000 in
theorem spec_no (n v : Int) (h : ¬ (1 ≤ n ∧ n ≤ 60 ∧ 0 ≤ v ∧ v < ((2 ^ n.toNat : Nat) : Int))) (w : World) :
    Calls Tryd.prog 55 #[.int .i64 n, .int .i64 v] w fun e w' => e = .returned (.tuple #[.string ⟨#[]⟩, .bool false]) ∧ Below w.heap.size w w' := by
  have HB := Aside0.mk (Below.refl w.heap.size w)
  by_cases hn : 1 ≤ n ∧ n ≤ 60
  · obtain ⟨m, rfl⟩ := Int.eq_ofNat_of_zero_le (show 0 ≤ n by omega)
    have hp := pow_60 m (by omega)
    have hpw := wrap_pow m (by omega)
    rw [Int.toNat_natCast] at h
    generalize hP : 2 ^ m = P at *
    have HPP := Aside0.mk hP
    clear hP
    have hv : ¬ (0 ≤ v ∧ v ≤ (P : Int) - 1) := fun z => h ⟨hn.1, hn.2, z.1, by omega⟩
    have H1 := Aside0.mk (fun W => l1in_calls (m : Int) 1 60 W)
    rw [decide_eq_true hn] at H1
    have H2 := Aside0.mk (fun W => l1in_calls v 0 ((P : Int) - 1) W)
    rw [decide_eq_false hv] at H2
    obtain ⟨h1, h2⟩ := hn
    clear h hv
    go_enter Tryd.func55, Tryd.ntmps55
    go_wp2_with (first | (go_at_call 81; with_reducible refine (H1.out _).mono ?_; rintro e w' ⟨rfl, ⟨nd1, rfl⟩⟩) | (go_at_call 81; with_reducible refine (H2.out _).mono ?_; rintro e w' ⟨rfl, ⟨nd2, rfl⟩⟩))
    go_ret2
    exact ⟨rfl, (by repeat (first | (with_reducible first | exact HB.out | apply below_alloc | apply pw_below_drewN | apply below_drew1) | exact HB.out))⟩
  · have H1 := Aside0.mk (fun W => l1in_calls n 1 60 W)
    rw [decide_eq_false hn] at H1
    clear h hn
    go_enter Tryd.func55, Tryd.ntmps55
    go_wp2_with (go_at_call 81; with_reducible refine (H1.out _).mono ?_; rintro e w' ⟨rfl, ⟨nd1, rfl⟩⟩)
    go_ret2
    exact ⟨rfl, (by repeat (first | (with_reducible first | exact HB.out | apply below_alloc | apply pw_below_drewN | apply below_drew1) | exact HB.out))⟩
set_option maxHeartbeats 4000000 in
set_option maxRecDepth 100000 in
theorem spec_yes (m v : Nat) (hn : 1 ≤ m ∧ m ≤ 60) (hv : v < 2 ^ m) (w : World) :
    Calls Tryd.prog 55 #[.int .i64 (m : Int), .int .i64 (v : Int)] w fun e w' => e = .returned (.tuple #[.string (bs (mkL m v)), .bool true]) ∧ Below w.heap.size w w' := by
  have HB := Aside0.mk (Below.refl w.heap.size w)
  have hp := pow_60 m hn.2
  have hpw := wrap_pow m hn.2
  have HR := Aside0.mk (fun W => RSpec.make_calls m v (by omega) (by omega) W)
  generalize hP : 2 ^ m = P at *
  have HPP := Aside0.mk hP
  clear hP
  have H1 := Aside0.mk (fun W => l1in_calls (m : Int) 1 60 W)
  rw [decide_eq_true (show (1 : Int) ≤ (m : Int) ∧ (m : Int) ≤ 60 by omega)] at H1
  have H2 := Aside0.mk (fun W => l1in_calls (v : Int) 0 ((P : Int) - 1) W)
  rw [decide_eq_true (show (0 : Int) ≤ (v : Int) ∧ (v : Int) ≤ (P : Int) - 1 by omega)] at H2
  obtain ⟨h1, h2⟩ := hn
  generalize bs (mkL m v) = r at *
  clear hv
  go_enter Tryd.func55, Tryd.ntmps55
  go_wp2_with (first | (go_at_call 81; with_reducible refine (H1.out _).mono ?_; rintro e w' ⟨rfl, ⟨nd1, rfl⟩⟩) | (go_at_call 81; with_reducible refine (H2.out _).mono ?_; rintro e w' ⟨rfl, ⟨nd2, rfl⟩⟩) | (go_at_call 79; with_reducible refine (HR.out _).mono ?_; rintro e w' ⟨rfl, ⟨nd3, rfl⟩⟩))
  go_ret2
  exact ⟨rfl, (by repeat (first | (with_reducible first | exact HB.out | apply below_alloc | apply pw_below_drewN | apply below_drew1) | exact HB.out))⟩
end Go.Proofs.YtleacijhpkogpabDoor.RByNum
/- The row behind so many ticks: the walks of impl.RowAfter, spec.RowAfter. -/
namespace Go.Proofs.YtleacijhpkogpabDoor.RAfter
open Go.RowKit Go.Proofs.YtleacijhpkogpabDoorW.PrintWords Go.Proofs.YtleacijhpkogpabDoorW.PrintLast Go.Proofs.YtleacijhpkogpabDoorW.PrintMore Go.Shelf Go.Proofs.YtleacijhpkogpabDoor.RPlain
set_option linter.unusedVariables false
set_option linter.unusedSimpArgs false

theorem in_calls (a b c : Int) (w : World) : Calls Tryd.prog 80 #[.int .i64 a, .int .i64 b, .int .i64 c] w fun e w' => e = .returned (.bool (decide (b ≤ a ∧ a ≤ c))) ∧ Drawn0 w w' :=
  PFnRowsRestOfAll.impl_in.calls a b c _ w (by
    unfold PFnRowsRestOfAll.impl_in.f
    by_cases h : b ≤ a
    · rw [if_pos h]
      by_cases h2 : a ≤ c
      · rw [decide_eq_true h2, decide_eq_true ⟨h, h2⟩]
      · rw [decide_eq_false h2, decide_eq_false (fun z => h2 z.2)]
    · rw [if_neg h, decide_eq_false (fun z => h z.1)])
theorem l1in_calls (a b c : Int) (w : World) : Calls Tryd.prog 81 #[.int .i64 a, .int .i64 b, .int .i64 c] w fun e w' => e = .returned (.bool (decide (b ≤ a ∧ a ≤ c))) ∧ Drawn0 w w' :=
  PFnRowsRestOfAll.spec_l1In.calls a b c _ w (by
    unfold PFnRowsRestOfAll.spec_l1In.f
    by_cases h : a ≥ b
    · rw [if_pos h]
      by_cases h2 : a ≤ c
      · rw [decide_eq_true h2, decide_eq_true ⟨h, h2⟩]
      · rw [decide_eq_false h2, decide_eq_false (fun z => h2 z.2)]
    · rw [if_neg h, decide_eq_false (fun z => h z.1)])
set_option maxHeartbeats 4000000 in
set_option maxRecDepth 100000 in
theorem impl_no (s : ByteArray) (k : Int) (h : ¬ (rowB s = true ∧ 0 ≤ k ∧ k ≤ 1000000)) (w : World) :
    Calls Tryd.prog 53 #[.string s, .int .i64 k] w fun e w' => e = .returned (.tuple #[.string ⟨#[]⟩, .bool false]) ∧ Below w.heap.size w w' := by
  have HB := Aside0.mk (Below.refl w.heap.size w)
  cases c : rowB s with
  | false =>
    have HI := Aside0.mk (fun W => RImpl.isRow_no s c W)
    clear h c
    go_enter Tryd.func53, Tryd.ntmps53
    go_wp2_with (go_at_call 59; refine (HI.out _).mono ?_; rintro e w3 ⟨rfl, hb⟩; have HBn := Aside0.mk (below_step (by repeat (first | (with_reducible first | exact HB.out | apply below_alloc | apply pw_below_drewN | apply below_drew1) | exact HB.out)) hb); clear hb HB; have HB := HBn; clear HBn)
    go_ret2
    exact ⟨rfl, (by repeat (first | (with_reducible first | exact HB.out | apply below_alloc | apply pw_below_drewN | apply below_drew1) | exact HB.out))⟩
  | true =>
    have hk : ¬ (0 ≤ k ∧ k ≤ 1000000) := fun z => h ⟨c, z⟩
    have HI := Aside0.mk (fun W => RImpl.isRow_yes s.data.toList c W)
    change Aside0 (∀ W : World, Calls Tryd.prog 59 #[.string s] W fun e w' => e = .returned (.bool true) ∧ Below W.heap.size W w') at HI
    have HN := Aside0.mk (fun W => in_calls k 0 1000000 W)
    rw [decide_eq_false hk] at HN
    clear h c hk
    go_enter Tryd.func53, Tryd.ntmps53
    go_wp2_with (first | (go_at_call 59; refine (HI.out _).mono ?_; rintro e w3 ⟨rfl, hb⟩; have HBn := Aside0.mk (below_step (by repeat (first | (with_reducible first | exact HB.out | apply below_alloc | apply pw_below_drewN | apply below_drew1) | exact HB.out)) hb); clear hb HB; have HB := HBn; clear HBn) | (go_at_call 80; with_reducible refine (HN.out _).mono ?_; rintro e w' ⟨rfl, ⟨nd2, rfl⟩⟩))
    go_ret2
    exact ⟨rfl, (by repeat (first | (with_reducible first | exact HB.out | apply below_alloc | apply pw_below_drewN | apply below_drew1) | exact HB.out))⟩
set_option maxHeartbeats 4000000 in
set_option maxRecDepth 100000 in
theorem spec_no (s : ByteArray) (k : Int) (h : ¬ (rowB s = true ∧ 0 ≤ k ∧ k ≤ 1000000)) (w : World) :
    Calls Tryd.prog 54 #[.string s, .int .i64 k] w fun e w' => e = .returned (.tuple #[.string ⟨#[]⟩, .bool false]) ∧ Below w.heap.size w w' := by
  have HB := Aside0.mk (Below.refl w.heap.size w)
  cases c : rowB s with
  | false =>
    have HG := Aside0.mk (fun W => RTops.good_no s c W)
    clear h c
    go_enter Tryd.func54, Tryd.ntmps54
    go_wp2_with (go_at_call 57; refine (HG.out _).mono ?_; rintro e w' ⟨rfl, ⟨nd, rfl⟩⟩)
    go_ret2
    exact ⟨rfl, (by repeat (first | (with_reducible first | exact HB.out | apply below_alloc | apply pw_below_drewN | apply below_drew1) | exact HB.out))⟩
  | true =>
    have hk : ¬ (0 ≤ k ∧ k ≤ 1000000) := fun z => h ⟨c, z⟩
    have HG := Aside0.mk (fun W => RTops.good_yes s.data.toList c W)
    change Aside0 (∀ W : World, Calls Tryd.prog 57 #[.string s] W fun e w' => e = .returned (.bool true) ∧ Drawn0 W w') at HG
    have HN := Aside0.mk (fun W => l1in_calls k 0 1000000 W)
    rw [decide_eq_false hk] at HN
    clear h c hk
    go_enter Tryd.func54, Tryd.ntmps54
    go_wp2_with (first | (go_at_call 57; refine (HG.out _).mono ?_; rintro e w' ⟨rfl, ⟨nd, rfl⟩⟩) | (go_at_call 81; with_reducible refine (HN.out _).mono ?_; rintro e w' ⟨rfl, ⟨nd2, rfl⟩⟩))
    go_ret2
    exact ⟨rfl, (by repeat (first | (with_reducible first | exact HB.out | apply below_alloc | apply pw_below_drewN | apply below_drew1) | exact HB.out))⟩
set_option maxHeartbeats 4000000 in
set_option maxRecDepth 100000 in
theorem impl_yes (l : List UInt8) (k : Nat) (h : rowB (bs l) = true) (hk : k ≤ 1000000) (w : World) (hML : ML w) :
    Calls Tryd.prog 53 #[.string (bs l), .int .i64 (k : Int)] w fun e w' => e = .returned (.tuple #[.string (bs (aftL l k)), .bool true]) ∧ Below w.heap.size w w' := by
  have h60 := rowB_len h
  have hz : (bs l).size = l.length := rfl
  have HI := Aside0.mk (fun W => RImpl.isRow_yes l h W)
  have HN := Aside0.mk (fun W => in_calls (k : Int) 0 1000000 W)
  rw [decide_eq_true (show 0 ≤ (k : Int) ∧ (k : Int) ≤ 1000000 by omega)] at HN
  have HL := Aside0.mk (show l.length ≤ 60 by omega)
  have HK0 := Aside0.mk hk
  have HML := Aside0.mk (fun W (hb : Below w.heap.size w W) => hML.of_below hb)
  clear h60 h hz hk hML
  have HB := Aside0.mk (Below.refl w.heap.size w)
  go_enter Tryd.func53, Tryd.ntmps53
  go_wp2_with (first | (go_at_call 59; refine (HI.out _).mono ?_; rintro e w3 ⟨rfl, hb⟩; have HBn := Aside0.mk (below_step (by repeat (first | (with_reducible first | exact HB.out | apply below_alloc | apply pw_below_drewN | apply below_drew1) | exact HB.out)) hb); clear hb HB; have HB := HBn; clear HBn) | (go_at_call 80; with_reducible refine (HN.out _).mono ?_; rintro e w' ⟨rfl, ⟨nd2, rfl⟩⟩))
  go_loopg [0, 1] k (fun kq v0 v1 w' => ∃ (l1 : List UInt8) (n : Nat), v0 = .string (bs l1) ∧ v1 = .int .i64 (n : Int) ∧ Aside0 (kq = n) ∧ Aside0 (n ≤ 1000000) ∧ Aside0 (l1.length ≤ 60) ∧ Aside0 (aftL l1 n = aftL l k) ∧ Aside0 (Below w.heap.size w w'))
  case atStart => exact ⟨l, k, rfl, rfl, ⟨rfl⟩, HK0, HL, ⟨rfl⟩, ⟨(by repeat (first | (with_reducible first | exact HB.out | apply below_alloc | apply pw_below_drewN | apply below_drew1) | exact HB.out))⟩⟩
  case round =>
    clear HB HL HI HN
    obtain ⟨l1, n, rfl, rfl, HK, HN, HL1, HE, HB⟩ := hrel
    have HR := Aside0.mk (fun W (hb : Below w.heap.size w W) => RImpl.rest_is l1 (hasB l1) rfl (by have := HL1.out; omega) W (HML.out W hb))
    have HT := Aside0.mk (fun W (hb : Below w.heap.size w W) => RImpl.itick_calls l1 (by have := HL1.out; omega) W (HML.out W hb))
    cases n with
    | zero =>
      clear HT HR
      have HE2 := Aside0.mk (show l1 = aftL l k from HE.out)
      have hz0 : ((0 : Nat) : Int) = 0 := rfl
      generalize hb1 : bs l1 = b1
      have HB1 := Aside0.mk hb1
      clear hb1 HE
      go_wp2
      go_ret2
      exact ⟨by rw [← HE2.out, HB1.out]; rfl, (by repeat (first | (with_reducible first | exact HB.out | apply below_alloc | apply pw_below_drewN | apply below_drew1) | exact HB.out))⟩
    | succ n =>
      have hn1 : (0 : Int) < ((n + 1 : Nat) : Int) := by omega
      have hn2 : n ≤ 1000000 := by have := HN.out; omega
      cases c : hasB l1 with
      | true =>
        change Aside0 (∀ W : World, Below w.heap.size w W → Calls Tryd.prog 73 #[.string (bs l1)] W fun e w' => e = .returned (.bool (!hasB l1)) ∧ Drawn0 W w') at HR
        rw [c] at HR
        have HS := Aside0.mk (show aftL (tkB l1) n = aftL l k from HE.out)
        have HTL := Aside0.mk (tkB_len l1)
        clear HE c
        generalize hb1 : bs l1 = b1 at HR HT ⊢
        clear hb1
        go_wp2_with (first | (go_at_call 73; with_reducible refine (HR.out _ (by repeat (first | (with_reducible first | exact HB.out | apply below_alloc | apply pw_below_drewN | apply below_drew1) | exact HB.out))).mono ?_; rintro e w' ⟨rfl, ⟨nd3, rfl⟩⟩) | (go_at_call 70; with_reducible refine (HT.out _ (by repeat (first | (with_reducible first | exact HB.out | apply below_alloc | apply pw_below_drewN | apply below_drew1) | exact HB.out))).mono ?_; rintro e w5 ⟨rfl, hb⟩; have HBn := Aside0.mk (below_step (by repeat (first | (with_reducible first | exact HB.out | apply below_alloc | apply pw_below_drewN | apply below_drew1) | exact HB.out)) hb); clear hb HB; have HB := HBn; clear HBn))
        go_roundg n
        case measure => have := HK.out; omega
        case rel => exact ⟨tkB l1, n, rfl, by first | rfl | (congr 1; omega) | simp, ⟨rfl⟩, ⟨hn2⟩, ⟨by rw [HTL.out]; exact HL1.out⟩, HS, ⟨(by repeat (first | (with_reducible first | exact HB.out | apply below_alloc | apply pw_below_drewN | apply below_drew1) | exact HB.out))⟩⟩
      | false =>
        change Aside0 (∀ W : World, Below w.heap.size w W → Calls Tryd.prog 73 #[.string (bs l1)] W fun e w' => e = .returned (.bool (!hasB l1)) ∧ Drawn0 W w') at HR
        rw [c] at HR
        have HS := Aside0.mk (show l1 = aftL l k from by rw [← HE.out, aft_rest c])
        clear HE c HT
        generalize hb1 : bs l1 = b1 at HR ⊢
        have HB1 := Aside0.mk hb1
        clear hb1
        go_wp2_with (go_at_call 73; with_reducible refine (HR.out _ (by repeat (first | (with_reducible first | exact HB.out | apply below_alloc | apply pw_below_drewN | apply below_drew1) | exact HB.out))).mono ?_; rintro e w' ⟨rfl, ⟨nd3, rfl⟩⟩)
        go_ret2
        exact ⟨by rw [← HS.out, HB1.out]; rfl, (by repeat (first | (with_reducible first | exact HB.out | apply below_alloc | apply pw_below_drewN | apply below_drew1) | exact HB.out))⟩
set_option maxHeartbeats 4000000 in
set_option maxRecDepth 100000 in
theorem spec_yes (l : List UInt8) (k : Nat) (h : rowB (bs l) = true) (hk : k ≤ 1000000) (w : World) :
    Calls Tryd.prog 54 #[.string (bs l), .int .i64 (k : Int)] w fun e w' => e = .returned (.tuple #[.string (bs (aftL l k)), .bool true]) ∧ Below w.heap.size w w' := by
  have h60 := rowB_len h
  have hz : (bs l).size = l.length := rfl
  have HG := Aside0.mk (fun W => RTops.good_yes l h W)
  have HN := Aside0.mk (fun W => l1in_calls (k : Int) 0 1000000 W)
  rw [decide_eq_true (show 0 ≤ (k : Int) ∧ (k : Int) ≤ 1000000 by omega)] at HN
  have HL := Aside0.mk (show l.length ≤ 60 by omega)
  have HK0 := Aside0.mk hk
  clear h60 h hz hk
  have HB := Aside0.mk (Below.refl w.heap.size w)
  go_enter Tryd.func54, Tryd.ntmps54
  go_wp2_with (first | (go_at_call 57; refine (HG.out _).mono ?_; rintro e w' ⟨rfl, ⟨nd, rfl⟩⟩) | (go_at_call 81; with_reducible refine (HN.out _).mono ?_; rintro e w' ⟨rfl, ⟨nd2, rfl⟩⟩))
  go_loopg [0, 1] k (fun kq v0 v1 w' => ∃ (l1 : List UInt8) (n : Nat), v0 = .string (bs l1) ∧ v1 = .int .i64 (n : Int) ∧ Aside0 (kq = n) ∧ Aside0 (n ≤ 1000000) ∧ Aside0 (l1.length ≤ 60) ∧ Aside0 (aftL l1 n = aftL l k) ∧ Aside0 (Below w.heap.size w w'))
  case atStart => exact ⟨l, k, rfl, rfl, ⟨rfl⟩, HK0, HL, ⟨rfl⟩, ⟨(by repeat (first | (with_reducible first | exact HB.out | apply below_alloc | apply pw_below_drewN | apply below_drew1) | exact HB.out))⟩⟩
  case round =>
    clear HB HL HG HN
    obtain ⟨l1, n, rfl, rfl, HK, HN, HL1, HE, HB⟩ := hrel
    have HP := Aside0.mk (fun W => RSpec.pairs_calls (bs l1) (by have := HL1.out; rw [bs_size]; omega) W)
    change Aside0 (∀ W : World, Calls Tryd.prog 62 #[.string (bs l1)] W fun e w' => ∃ v : Value, e = .returned v ∧ Kd.R (Kd.int .i64) 3 w' W.heap.size (fun _ => True) v (prs 0 l1) ∧ Below W.heap.size W w') at HP
    have HT := Aside0.mk (fun W => RSpec.tick_calls (bs l1) (by have := HL1.out; rw [bs_size]; omega) W)
    change Aside0 (∀ W : World, Calls Tryd.prog 63 #[.string (bs l1)] W fun e w' => e = .returned (.string (bs (tkB l1))) ∧ Below W.heap.size W w') at HT
    cases n with
    | zero =>
      clear HT HP
      have HE2 := Aside0.mk (show l1 = aftL l k from HE.out)
      have hz0 : ((0 : Nat) : Int) = 0 := rfl
      generalize hb1 : bs l1 = b1
      have HB1 := Aside0.mk hb1
      clear hb1 HE
      go_wp2
      go_ret2
      exact ⟨by rw [← HE2.out, HB1.out]; rfl, (by repeat (first | (with_reducible first | exact HB.out | apply below_alloc | apply pw_below_drewN | apply below_drew1) | exact HB.out))⟩
    | succ n =>
      have hn1 : (0 : Int) < ((n + 1 : Nat) : Int) := by omega
      have hn2 : n ≤ 1000000 := by have := HN.out; omega
      cases c : hasB l1 with
      | true =>
        have hps := prs_pos 0 l1 c
        generalize prs 0 l1 = ps at HP hps
        have HS := Aside0.mk (show aftL (tkB l1) n = aftL l k from HE.out)
        have HTL := Aside0.mk (tkB_len l1)
        clear HE c
        generalize hb1 : bs l1 = b1 at HP HT ⊢
        clear hb1
        go_wp2_with (first | (go_at_call 62; refine (HP.out _).mono ?_; rintro e w3 ⟨v, rfl, ho, hb⟩; obtain ⟨A, cc, rfl, hlc, hC⟩ := Kd.R_reads ho; clear ho hC; have HBn := Aside0.mk (below_step (by repeat (first | (with_reducible first | exact HB.out | apply below_alloc | apply pw_below_drewN | apply below_drew1) | exact HB.out)) hb); clear hb HB; have HB := HBn; clear HBn) | (go_at_call 63; with_reducible refine (HT.out _).mono ?_; rintro e w5 ⟨rfl, hb⟩; have HBn := Aside0.mk (below_step (by repeat (first | (with_reducible first | exact HB.out | apply below_alloc | apply pw_below_drewN | apply below_drew1) | exact HB.out)) hb); clear hb HB; have HB := HBn; clear HBn))
        go_roundg n
        case measure => have := HK.out; omega
        case rel => exact ⟨tkB l1, n, rfl, by first | rfl | (congr 1; omega) | simp, ⟨rfl⟩, ⟨hn2⟩, ⟨by rw [HTL.out]; exact HL1.out⟩, HS, ⟨(by repeat (first | (with_reducible first | exact HB.out | apply below_alloc | apply pw_below_drewN | apply below_drew1) | exact HB.out))⟩⟩
      | false =>
        rw [prs_none 0 l1 c] at HP
        have HS := Aside0.mk (show l1 = aftL l k from by rw [← HE.out, aft_rest c])
        clear HE c HT
        generalize hb1 : bs l1 = b1 at HP ⊢
        have HB1 := Aside0.mk hb1
        clear hb1
        go_wp2_with (go_at_call 62; refine (HP.out _).mono ?_; rintro e w3 ⟨v, rfl, ho, hb⟩; obtain ⟨A, cc, rfl, hlc, hC⟩ := Kd.R_reads ho; clear ho hC; have HBn := Aside0.mk (below_step (by repeat (first | (with_reducible first | exact HB.out | apply below_alloc | apply pw_below_drewN | apply below_drew1) | exact HB.out)) hb); clear hb HB; have HB := HBn; clear HBn)
        go_ret2
        exact ⟨by rw [← HS.out, HB1.out]; rfl, (by repeat (first | (with_reducible first | exact HB.out | apply below_alloc | apply pw_below_drewN | apply below_drew1) | exact HB.out))⟩
end Go.Proofs.YtleacijhpkogpabDoor.RAfter
/- Who face each other: the walks of impl.FacingPairs, spec.FacingPairs, by the contracts of what they call. -/
namespace Go.Proofs.YtleacijhpkogpabDoor.RFP
open Go.RowKit Go.Proofs.YtleacijhpkogpabDoorW.PrintWords Go.Proofs.YtleacijhpkogpabDoorW.PrintLast Go.Proofs.YtleacijhpkogpabDoorW.PrintMore Go.Shelf Go.Proofs.YtleacijhpkogpabDoor.RPlain
set_option linter.unusedVariables false
set_option linter.unusedSimpArgs false

set_option maxHeartbeats 4000000 in
set_option maxRecDepth 100000 in
theorem impl_no (s : ByteArray) (h : rowB s = false) (w : World) :
    Calls Tryd.prog 39 #[.string s] w fun e w' => ∃ v, e = .returned (.tuple #[v, .bool false]) ∧ Kd.R (Kd.int .i64) 3 w' w.heap.size (fun _ => True) v [] ∧ Below w.heap.size w w' := by
  have HI := Aside0.mk (fun W => RImpl.isRow_no s h W)
  clear h
  have HB := Aside0.mk (Below.refl w.heap.size w)
  go_enter Tryd.func39, Tryd.ntmps39
  go_wp2_with (go_at_call 59; refine (HI.out _).mono ?_; rintro e w3 ⟨rfl, hb⟩; have HBn := Aside0.mk (below_step (by repeat (first | (with_reducible first | exact HB.out | apply below_alloc | apply pw_below_drewN | apply below_drew1) | exact HB.out)) hb); clear hb HB; have HB := HBn; clear HBn)
  go_ret2
  exact ⟨_, rfl, Kd.R_nil _ _ _ _ _, (by repeat (first | (with_reducible first | exact HB.out | apply below_alloc | apply pw_below_drewN | apply below_drew1) | exact HB.out))⟩
set_option maxHeartbeats 4000000 in
set_option maxRecDepth 100000 in
theorem spec_no (s : ByteArray) (h : rowB s = false) (w : World) :
    Calls Tryd.prog 40 #[.string s] w fun e w' => ∃ v, e = .returned (.tuple #[v, .bool false]) ∧ Kd.R (Kd.int .i64) 3 w' w.heap.size (fun _ => True) v [] ∧ Below w.heap.size w w' := by
  have HG := Aside0.mk (fun W => RTops.good_no s h W)
  clear h
  have HB := Aside0.mk (Below.refl w.heap.size w)
  go_enter Tryd.func40, Tryd.ntmps40
  go_wp2_with (go_at_call 57; refine (HG.out _).mono ?_; rintro e w' ⟨rfl, ⟨nd, rfl⟩⟩)
  go_ret2
  exact ⟨_, rfl, Kd.R_nil _ _ _ _ _, (by repeat (first | (with_reducible first | exact HB.out | apply below_alloc | apply pw_below_drewN | apply below_drew1) | exact HB.out))⟩
set_option maxHeartbeats 4000000 in
set_option maxRecDepth 100000 in
theorem impl_yes (l : List UInt8) (h : rowB (bs l) = true) (w : World) :
    Calls Tryd.prog 39 #[.string (bs l)] w fun e w' => ∃ v, e = .returned (.tuple #[v, .bool true]) ∧ Kd.R (Kd.int .i64) 3 w' w.heap.size (fun _ => True) v (prs 0 l) ∧ Below w.heap.size w w' := by
  have h60 := rowB_len h
  have hz : (bs l).size = l.length := rfl
  have HI := Aside0.mk (fun W => RImpl.isRow_yes l h W)
  have HF := Aside0.mk (fun W => RImpl.facing_calls l (by omega) W)
  clear h60 h hz
  have HB := Aside0.mk (Below.refl w.heap.size w)
  generalize prs 0 l = ps at *
  generalize bs l = x at *
  go_enter Tryd.func39, Tryd.ntmps39
  go_wp2_with (first | (go_at_call 59; refine (HI.out _).mono ?_; rintro e w3 ⟨rfl, hb⟩; have HBn := Aside0.mk (below_step (by repeat (first | (with_reducible first | exact HB.out | apply below_alloc | apply pw_below_drewN | apply below_drew1) | exact HB.out)) hb); clear hb HB; have HB := HBn; clear HBn) | (go_at_call 66; refine (HF.out _).mono ?_; rintro e w4 ⟨v, rfl, ho, hb⟩; have HO := Aside0.mk (Kd.R_lower ho (below_size (by repeat (first | (with_reducible first | exact HB.out | apply below_alloc | apply pw_below_drewN | apply below_drew1) | exact HB.out)))); have HBn := Aside0.mk (below_step (by repeat (first | (with_reducible first | exact HB.out | apply below_alloc | apply pw_below_drewN | apply below_drew1) | exact HB.out)) hb); clear ho hb HB; have HB := HBn; clear HBn))
  go_ret2
  exact ⟨_, rfl, HO.out, (by repeat (first | (with_reducible first | exact HB.out | apply below_alloc | apply pw_below_drewN | apply below_drew1) | exact HB.out))⟩
set_option maxHeartbeats 4000000 in
set_option maxRecDepth 100000 in
theorem spec_yes (l : List UInt8) (h : rowB (bs l) = true) (w : World) :
    Calls Tryd.prog 40 #[.string (bs l)] w fun e w' => ∃ v, e = .returned (.tuple #[v, .bool true]) ∧ Kd.R (Kd.int .i64) 3 w' w.heap.size (fun _ => True) v (prs 0 l) ∧ Below w.heap.size w w' := by
  have h60 := rowB_len h
  have hz : (bs l).size = l.length := rfl
  have HG := Aside0.mk (fun W => RTops.good_yes l h W)
  have HF := Aside0.mk (fun W => RSpec.pairs_calls (bs l) (by omega) W)
  change Aside0 (∀ W : World, Calls Tryd.prog 62 #[.string (bs l)] W fun e w' => ∃ v : Value, e = .returned v ∧ Kd.R (Kd.int .i64) 3 w' W.heap.size (fun _ => True) v (prs 0 l) ∧ Below W.heap.size W w') at HF
  clear h60 h hz
  have HB := Aside0.mk (Below.refl w.heap.size w)
  generalize prs 0 l = ps at *
  generalize bs l = x at *
  go_enter Tryd.func40, Tryd.ntmps40
  go_wp2_with (first | (go_at_call 57; refine (HG.out _).mono ?_; rintro e w' ⟨rfl, ⟨nd, rfl⟩⟩) | (go_at_call 62; refine (HF.out _).mono ?_; rintro e w4 ⟨v, rfl, ho, hb⟩; have HO := Aside0.mk (Kd.R_lower ho (below_size (by repeat (first | (with_reducible first | exact HB.out | apply below_alloc | apply pw_below_drewN | apply below_drew1) | exact HB.out)))); have HBn := Aside0.mk (below_step (by repeat (first | (with_reducible first | exact HB.out | apply below_alloc | apply pw_below_drewN | apply below_drew1) | exact HB.out)) hb); clear ho hb HB; have HB := HBn; clear HBn))
  go_ret2
  exact ⟨_, rfl, HO.out, (by repeat (first | (with_reducible first | exact HB.out | apply below_alloc | apply pw_below_drewN | apply below_drew1) | exact HB.out))⟩
end Go.Proofs.YtleacijhpkogpabDoor.RFP
/- The number of a row: the walks of impl.NumberOfRow, spec.NumberOfRow. -/
namespace Go.Proofs.YtleacijhpkogpabDoor.RNum
open Go.RowKit Go.Proofs.YtleacijhpkogpabDoorW.PrintWords Go.Proofs.YtleacijhpkogpabDoorW.PrintLast Go.Proofs.YtleacijhpkogpabDoorW.PrintMore Go.Shelf Go.Proofs.YtleacijhpkogpabDoor.RPlain
set_option linter.unusedVariables false
set_option linter.unusedSimpArgs false

theorem num_take (l : List UInt8) (i : Nat) (h : i < l.length) : numL (l.take (i + 1)) = 2 * numL (l.take i) + bitB l[i] := by
  rw [List.take_succ_eq_append_getElem h, num_snoc]
theorem num_lt60 (l : List UInt8) (h : l.length ≤ 59) : numL l < 576460752303423488 :=
  Nat.lt_of_lt_of_le (num_lt l.length l rfl) (Nat.le_trans (Nat.pow_le_pow_right (by decide) h) (by decide))
set_option maxHeartbeats 4000000 in
set_option maxRecDepth 100000 in
theorem impl_no (s : ByteArray) (h : rowB s = false) (w : World) :
    Calls Tryd.prog 51 #[.string s] w fun e w' => e = .returned (.tuple #[.int .i64 0, .bool false]) ∧ Below w.heap.size w w' := by
  have HI := Aside0.mk (fun W => RImpl.isRow_no s h W)
  clear h
  have HB := Aside0.mk (Below.refl w.heap.size w)
  go_enter Tryd.func51, Tryd.ntmps51
  go_wp2_with (go_at_call 59; refine (HI.out _).mono ?_; rintro e w3 ⟨rfl, hb⟩; have HBn := Aside0.mk (below_step (by repeat (first | (with_reducible first | exact HB.out | apply below_alloc | apply pw_below_drewN | apply below_drew1) | exact HB.out)) hb); clear hb HB; have HB := HBn; clear HBn)
  go_ret2
  exact ⟨rfl, (by repeat (first | (with_reducible first | exact HB.out | apply below_alloc | apply pw_below_drewN | apply below_drew1) | exact HB.out))⟩
set_option maxHeartbeats 4000000 in
set_option maxRecDepth 100000 in
theorem spec_no (s : ByteArray) (h : rowB s = false) (w : World) :
    Calls Tryd.prog 56 #[.string s] w fun e w' => e = .returned (.tuple #[.int .i64 0, .bool false]) ∧ Below w.heap.size w w' := by
  have HG := Aside0.mk (fun W => RTops.good_no s h W)
  clear h
  have HB := Aside0.mk (Below.refl w.heap.size w)
  go_enter Tryd.func56, Tryd.ntmps56
  go_wp2_with (go_at_call 57; refine (HG.out _).mono ?_; rintro e w' ⟨rfl, ⟨nd, rfl⟩⟩)
  go_ret2
  exact ⟨rfl, (by repeat (first | (with_reducible first | exact HB.out | apply below_alloc | apply pw_below_drewN | apply below_drew1) | exact HB.out))⟩
set_option maxHeartbeats 4000000 in
set_option maxRecDepth 100000 in
theorem impl_yes (l : List UInt8) (h : rowB (bs l) = true) (w : World) :
    Calls Tryd.prog 51 #[.string (bs l)] w fun e w' => e = .returned (.tuple #[.int .i64 (numL l : Int), .bool true]) ∧ Below w.heap.size w w' := by
  have h60 := rowB_len h
  have hz : (bs l).size = l.length := rfl
  have HI := Aside0.mk (fun W => RImpl.isRow_yes l h W)
  have HS := Aside0.mk hz
  rw [hz] at h60
  obtain ⟨h1, h2⟩ := h60
  clear h hz
  have HB := Aside0.mk (Below.refl w.heap.size w)
  go_enter Tryd.func51, Tryd.ntmps51
  go_wp2_with (go_at_call 59; refine (HI.out _).mono ?_; rintro e w3 ⟨rfl, hb⟩; have HBn := Aside0.mk (below_step (by repeat (first | (with_reducible first | exact HB.out | apply below_alloc | apply pw_below_drewN | apply below_drew1) | exact HB.out)) hb); clear hb HB; have HB := HBn; clear HBn)
  go_loopg [4, 11] l.length (fun kq v4 v11 w' => ∃ (i : Nat), v4 = .int .i64 (numL (l.take i) : Int) ∧ v11 = .int .i64 (i : Int) ∧ Aside0 (kq + i = l.length) ∧ Aside0 (Below w.heap.size w w'))
  case atStart => exact ⟨0, rfl, rfl, ⟨by omega⟩, ⟨(by repeat (first | (with_reducible first | exact HB.out | apply below_alloc | apply pw_below_drewN | apply below_drew1) | exact HB.out))⟩⟩
  case round =>
    clear HB HI
    obtain ⟨i, rfl, rfl, HK, HB⟩ := hrel
    have hk := HK.out
    by_cases hi : i < l.length
    · have HN := Aside0.mk (num_take l i hi)
      have hlt := num_lt60 (l.take i) (by rw [List.length_take]; omega)
      generalize numL (l.take i) = n at *
      have hi2 : i < (bs l).size := by rw [HS.out]; exact hi
      by_cases c : l[i] = 62
      · have hcb : ((bs l)[i]'hi2).toNat = 62 := by rw [show (bs l)[i]'hi2 = l[i] from rfl, c]; rfl
        have HN2 : Aside0 (numL (l.take (i + 1)) = 2 * n + 1) := ⟨by rw [HN.out, show bitB l[i] = 1 by unfold bitB; exact if_pos c]⟩
        clear HN c
        go_wp2
        go_roundg (l.length - (i + 1))
        case measure => omega
        case rel => exact ⟨i + 1, by rw [HN2.out]; first | rfl | (congr 1; omega) | (simp; omega), by first | rfl | simp, ⟨by omega⟩, ⟨(by repeat (first | (with_reducible first | exact HB.out | apply below_alloc | apply pw_below_drewN | apply below_drew1) | exact HB.out))⟩⟩
      · have hcb : ¬ ((bs l)[i]'hi2).toNat = 62 := fun e => c (by rw [show (bs l)[i]'hi2 = l[i] from rfl] at e; exact UInt8.toNat_inj.1 e)
        have HN2 : Aside0 (numL (l.take (i + 1)) = 2 * n) := ⟨by rw [HN.out, show bitB l[i] = 0 by unfold bitB; exact if_neg c, Nat.add_zero]⟩
        clear HN c
        go_wp2
        go_roundg (l.length - (i + 1))
        case measure => omega
        case rel => exact ⟨i + 1, by rw [HN2.out]; first | rfl | (congr 1; omega) | (simp; omega), by first | rfl | simp, ⟨by omega⟩, ⟨(by repeat (first | (with_reducible first | exact HB.out | apply below_alloc | apply pw_below_drewN | apply below_drew1) | exact HB.out))⟩⟩
    · have HIL : Aside0 (i = l.length) := ⟨by omega⟩
      have hnb : ¬ i < (bs l).size := by rw [HS.out]; exact hi
      go_wp2
      go_ret2
      refine ⟨?_, (by repeat (first | (with_reducible first | exact HB.out | apply below_alloc | apply pw_below_drewN | apply below_drew1) | exact HB.out))⟩
      rw [HIL.out, List.take_length]; rfl
set_option maxHeartbeats 4000000 in
set_option maxRecDepth 100000 in
theorem spec_yes (l : List UInt8) (h : rowB (bs l) = true) (w : World) :
    Calls Tryd.prog 56 #[.string (bs l)] w fun e w' => e = .returned (.tuple #[.int .i64 (numL l : Int), .bool true]) ∧ Below w.heap.size w w' := by
  have h60 := rowB_len h
  have hz : (bs l).size = l.length := rfl
  have HG := Aside0.mk (fun W => RTops.good_yes l h W)
  have HS := Aside0.mk hz
  rw [hz] at h60
  obtain ⟨h1, h2⟩ := h60
  clear h hz
  have HB := Aside0.mk (Below.refl w.heap.size w)
  go_enter Tryd.func56, Tryd.ntmps56
  go_wp2_with (go_at_call 57; refine (HG.out _).mono ?_; rintro e w' ⟨rfl, ⟨nd, rfl⟩⟩)
  go_loopg [4, 5] l.length (fun kq v4 v5 w' => ∃ (i : Nat), v4 = .int .i64 (numL (l.take i) : Int) ∧ v5 = .int .i64 (i : Int) ∧ Aside0 (kq + i = l.length) ∧ Aside0 (Below w.heap.size w w'))
  case atStart => exact ⟨0, rfl, rfl, ⟨by omega⟩, ⟨(by repeat (first | (with_reducible first | exact HB.out | apply below_alloc | apply pw_below_drewN | apply below_drew1) | exact HB.out))⟩⟩
  case round =>
    clear HB HG
    obtain ⟨i, rfl, rfl, HK, HB⟩ := hrel
    have hk := HK.out
    by_cases hi : i < l.length
    · have HN := Aside0.mk (num_take l i hi)
      have hlt := num_lt60 (l.take i) (by rw [List.length_take]; omega)
      generalize numL (l.take i) = n at *
      have hi2 : i < (bs l).size := by rw [HS.out]; exact hi
      by_cases c : l[i] = 62
      · have hcb : ((bs l)[i]'hi2).toNat = 62 := by rw [show (bs l)[i]'hi2 = l[i] from rfl, c]; rfl
        have HN2 : Aside0 (numL (l.take (i + 1)) = 2 * n + 1) := ⟨by rw [HN.out, show bitB l[i] = 1 by unfold bitB; exact if_pos c]⟩
        clear HN c
        go_wp2
        go_roundg (l.length - (i + 1))
        case measure => omega
        case rel => exact ⟨i + 1, by rw [HN2.out]; first | rfl | (congr 1; omega) | (simp; omega), by first | rfl | simp, ⟨by omega⟩, ⟨(by repeat (first | (with_reducible first | exact HB.out | apply below_alloc | apply pw_below_drewN | apply below_drew1) | exact HB.out))⟩⟩
      · have hcb : ¬ ((bs l)[i]'hi2).toNat = 62 := fun e => c (by rw [show (bs l)[i]'hi2 = l[i] from rfl] at e; exact UInt8.toNat_inj.1 e)
        have HN2 : Aside0 (numL (l.take (i + 1)) = 2 * n) := ⟨by rw [HN.out, show bitB l[i] = 0 by unfold bitB; exact if_neg c, Nat.add_zero]⟩
        clear HN c
        go_wp2
        go_roundg (l.length - (i + 1))
        case measure => omega
        case rel => exact ⟨i + 1, by rw [HN2.out]; first | rfl | (congr 1; omega) | (simp; omega), by first | rfl | simp, ⟨by omega⟩, ⟨(by repeat (first | (with_reducible first | exact HB.out | apply below_alloc | apply pw_below_drewN | apply below_drew1) | exact HB.out))⟩⟩
    · have HIL : Aside0 (i = l.length) := ⟨by omega⟩
      have hnb : ¬ i < (bs l).size := by rw [HS.out]; exact hi
      go_wp2
      go_ret2
      refine ⟨?_, (by repeat (first | (with_reducible first | exact HB.out | apply below_alloc | apply pw_below_drewN | apply below_drew1) | exact HB.out))⟩
      rw [HIL.out, List.take_length]; rfl
end Go.Proofs.YtleacijhpkogpabDoor.RNum
