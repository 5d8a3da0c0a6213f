/- The exact laws on IsRow, FacingPairs, IsAtRest, TurnedRow, TickRow, NumberOfRow: the walks: program and reference tell the same. -/
import Derived.Test.YtfkbacdaoeecdacDoorRTops
import Derived.Test.YtfkbacdaoeecdacDoorRFP
import Derived.Test.YtfkbacdaoeecdacDoorRNum
import Derived.Test.YtfkbacdaoeecdacDoorRTurn
import Derived.Test.YtfkbacdaoeecdacDoorRMarks
namespace Go.Proofs.YtfkbacdaoeecdacDoor.RLaw
open Go.RowKit Go.Proofs.YtfkbacdaoeecdacDoorW.PrintWords Go.Proofs.YtfkbacdaoeecdacDoorW.PrintLast Go.Proofs.YtfkbacdaoeecdacDoorW.PrintMore Go.Proofs.YtfkbacdaoeecdacDoor.RPlain
set_option linter.unusedVariables false
set_option linter.unusedSimpArgs false

set_option maxHeartbeats 4000000 in
set_option maxRecDepth 100000 in
theorem IsRow_same (s : ByteArray) (x : Bool) (w : World) (hs : s.size ≤ 1048576)
    (hS : ∀ W, Calls Tryd.prog 9 #[.string s] W fun e w' => e = .returned (.bool x) ∧ Below W.heap.size W w')
    (hI : ∀ W, Below w.heap.size w W → Calls Tryd.prog 10 #[.string s] W fun e w' => e = .returned (.bool x) ∧ Below W.heap.size W w') :
    Calls Tryd.prog 3 #[.string s] w fun e w' => e = .returned (.bool true) ∧ Below w.heap.size w w' := by
  have HB := Aside0.mk (Below.refl w.heap.size w)
  have HS := Aside0.mk hS
  have HI := Aside0.mk hI
  clear hS hI
  go_enter Tryd.func3, Tryd.ntmps3
  go_wp2_with (first | (go_at_call 9; refine (HS.out _).mono ?_; rintro e w3 ⟨rfl, hb⟩; have HBn := Aside0.mk (below_step (by repeat (first | (with_reducible first | exact HB.out | apply below_alloc | apply pw_below_drewN | apply below_drew1) | exact HB.out)) hb); clear hb HB; have HB := HBn; clear HBn) | (go_at_call 10; refine (HI.out _ (by repeat (first | (with_reducible first | exact HB.out | apply below_alloc | apply pw_below_drewN | apply below_drew1) | exact HB.out))).mono ?_; rintro e w4 ⟨rfl, hb⟩; have HBn := Aside0.mk (below_step (by repeat (first | (with_reducible first | exact HB.out | apply below_alloc | apply pw_below_drewN | apply below_drew1) | exact HB.out)) hb); clear hb HB; have HB := HBn; clear HBn))
  go_ret
  exact ⟨rfl, (by repeat (first | (with_reducible first | exact HB.out | apply below_alloc | apply pw_below_drewN | apply below_drew1) | exact HB.out))⟩
set_option maxHeartbeats 4000000 in
set_option maxRecDepth 100000 in
theorem IsRow_long (s : ByteArray) (w : World) (hs : 1048576 < s.size) (ws : s.size ≤ 140737488351232) :
    Calls Tryd.prog 3 #[.string s] w fun e w' => e = .returned (.bool true) ∧ Below w.heap.size w w' := by
  have HB := Aside0.mk (Below.refl w.heap.size w)
  go_enter Tryd.func3, Tryd.ntmps3
  go_wp2
  go_ret
  exact ⟨rfl, (by repeat (first | (with_reducible first | exact HB.out | apply below_alloc | apply pw_below_drewN | apply below_drew1) | exact HB.out))⟩
theorem IsRow_walk (s : ByteArray) (w : World) (ws : s.size ≤ 140737488351232) (hML : ML w) :
    Calls Tryd.prog 3 #[.string s] w fun e w' => e = .returned (.bool true) ∧ Below w.heap.size w w' := by
  by_cases hs : s.size ≤ 1048576
  · exact IsRow_same s _ w hs (fun W => RTops.spec_IsRow s W) (fun W hb => RTops.impl_IsRow s W)
  · exact IsRow_long s w (by omega) ws
set_option maxHeartbeats 4000000 in
set_option maxRecDepth 100000 in
theorem FacingPairs_same (s : ByteArray) (g : List Int) (b : Bool) (w : World) (hs : s.size ≤ 1048576) (hg : g.length ≤ 1048576)
    (hS : ∀ W, Calls Tryd.prog 13 #[.string s] W fun e w' => ∃ v, e = .returned (.tuple #[v, .bool b]) ∧ Kd.R (Kd.int .i64) 3 w' W.heap.size (fun _ => True) v g ∧ Below W.heap.size W w')
    (hI : ∀ W, Below w.heap.size w W → Calls Tryd.prog 14 #[.string s] W fun e w' => ∃ v, e = .returned (.tuple #[v, .bool b]) ∧ Kd.R (Kd.int .i64) 3 w' W.heap.size (fun _ => True) v g ∧ Below W.heap.size W w') :
    Calls Tryd.prog 5 #[.string s] w fun e w' => e = .returned (.bool true) ∧ Below w.heap.size w w' := by
  have HB := Aside0.mk (Below.refl w.heap.size w)
  have HS := Aside0.mk hS
  have HI := Aside0.mk hI
  have HG := Aside0.mk hg
  have hul := RMarks.upto_len g.length 0
  have HUL := Aside0.mk hul
  clear hS hI hul
  go_enter Tryd.func5, Tryd.ntmps5
  go_wp2_with fail
  refine (HS.out _).mono ?_
  rintro e w1 ⟨v0, rfl, ho0, hb⟩
  have HB1 := Aside0.mk (below_step (by repeat (first | (with_reducible first | exact HB.out | apply below_alloc | apply pw_below_drewN | apply below_drew1) | exact HB.out)) hb)
  obtain ⟨A0, c0, rfl, hlc0, hC0⟩ := Kd.R_reads ho0
  have HC0 := Aside0.mk hC0
  clear hC0 ho0 hb HB
  go_wp2_with fail
  refine (HI.out _ HB1.out).mono ?_
  rintro e w2 ⟨v1, rfl, ho1, hb⟩
  have HBW := Aside0.mk hb
  have HO1 := Aside0.mk ho1
  obtain ⟨A1, c1, rfl, hlc1, hC1⟩ := Kd.R_reads ho1
  have HC1 := Aside0.mk hC1
  clear hC1 ho1 hb
  go_wp2_with fail
  refine (RMarks.eqI A1 c1 A0 c0 g HG.out _ HC1.out hlc1 (Kd.C_below HC0.out HBW.out) hlc0).mono ?_
  rintro e w' ⟨rfl, ⟨nd1, rfl⟩⟩
  have HBW1 := Aside0.mk (pw_below_drewN HBW.out nd1)
  have HO2 := Aside0.mk (Kd.R_drewN HO1.out nd1)
  clear HBW HO1 HC1
  cases b
  all_goals
    go_wp2_with fail
    refine (RMarks.markI _ g HG.out w1 _ HBW1.out HO2.out).mono ?_
    rintro e w4 ⟨rfl, ho, hb⟩
    have HBW := Aside0.mk hb
    have HO := Aside0.mk ho
    have HC := Aside0.mk (Kd.R_reads' ho).2.2
    clear ho hb HBW1 HO2
    go_wp2_with fail
    refine (RMarks.heldI A1 c1 g.length HG.out _ HC.out (by rw [HUL.out]; exact hlc1)).mono ?_
    rintro e w5 ⟨rfl, hb⟩
    have HBW1 := Aside0.mk (below_step HBW.out hb)
    have HO1 := Aside0.mk (Kd.R_below HO.out hb)
    clear HBW HO HC hb
    have HBB := Aside0.mk (below_step HB1.out HBW1.out)
    go_wp2_with fail
    refine (HI.out _ HBB.out).mono ?_
    rintro e w6 ⟨v2, rfl, ho, hb⟩
    have HBW := Aside0.mk (below_step HBW1.out hb)
    have HO2 := Aside0.mk (Kd.R_below HO1.out hb)
    obtain ⟨A2, c2, rfl, hlc2, hC2⟩ := Kd.R_reads ho
    have HC2 := Aside0.mk hC2
    clear hC2 ho hb HBW1 HO1 HBB
    go_wp2_with fail
    refine (RMarks.eqI A2 c2 A0 c0 g HG.out _ HC2.out hlc2 (Kd.C_below HC0.out HBW.out) hlc0).mono ?_
    rintro e w' ⟨rfl, ⟨nd3, rfl⟩⟩
    have HB := Aside0.mk (below_step HB1.out HBW.out)
    have HC := Aside0.mk (Kd.R_reads' (Kd.R_drewN HO2.out nd3)).2.2
    clear HBW HO2 HC2
    go_wp2_with fail
    refine (RMarks.heldI A1 c1 g.length HG.out _ HC.out (by rw [HUL.out]; exact hlc1)).mono ?_
    rintro e w7 ⟨rfl, hb⟩
    have HBn := Aside0.mk (below_step (by repeat (first | (with_reducible first | exact HB.out | apply below_alloc | apply pw_below_drewN | apply below_drew1) | exact HB.out)) hb)
    clear HC HB hb
    have HB := HBn
    clear HBn
    go_wp2_with fail
    go_ret
    exact ⟨rfl, (by repeat (first | (with_reducible first | exact HB.out | apply below_alloc | apply pw_below_drewN | apply below_drew1) | exact HB.out))⟩
set_option maxHeartbeats 4000000 in
set_option maxRecDepth 100000 in
theorem FacingPairs_long (s : ByteArray) (w : World) (hs : 1048576 < s.size) (ws : s.size ≤ 140737488351232) :
    Calls Tryd.prog 5 #[.string s] w fun e w' => e = .returned (.bool true) ∧ Below w.heap.size w w' := by
  have HB := Aside0.mk (Below.refl w.heap.size w)
  go_enter Tryd.func5, Tryd.ntmps5
  go_wp2
  go_ret
  exact ⟨rfl, (by repeat (first | (with_reducible first | exact HB.out | apply below_alloc | apply pw_below_drewN | apply below_drew1) | exact HB.out))⟩
theorem FacingPairs_walk (s : ByteArray) (w : World) (ws : s.size ≤ 140737488351232) (hML : ML w) :
    Calls Tryd.prog 5 #[.string s] w fun e w' => e = .returned (.bool true) ∧ Below w.heap.size w w' := by
  by_cases hs : s.size ≤ 1048576
  · have hl := prs_len 0 s.data.toList
    rw [← sz] at hl
    cases h : rowB s with
    | true => exact FacingPairs_same s _ _ w hs (by omega) (fun W => RFP.spec_yes s.data.toList h W) (fun W hb => RFP.impl_yes s.data.toList h W)
    | false => exact FacingPairs_same s [] _ w hs (by simp) (fun W => RFP.spec_no s h W) (fun W hb => RFP.impl_no s h W)
  · exact FacingPairs_long s w (by omega) ws
set_option maxHeartbeats 4000000 in
set_option maxRecDepth 100000 in
theorem IsAtRest_same (s : ByteArray) (x : Bool) (b : Bool) (w : World) (hs : s.size ≤ 1048576)
    (hS : ∀ W, Calls Tryd.prog 18 #[.string s] W fun e w' => e = .returned (.tuple #[.bool x, .bool b]) ∧ Below W.heap.size W w')
    (hI : ∀ W, Below w.heap.size w W → Calls Tryd.prog 19 #[.string s] W fun e w' => e = .returned (.tuple #[.bool x, .bool b]) ∧ Below W.heap.size W w') :
    Calls Tryd.prog 6 #[.string s] w fun e w' => e = .returned (.bool true) ∧ Below w.heap.size w w' := by
  have HB := Aside0.mk (Below.refl w.heap.size w)
  have HS := Aside0.mk hS
  have HI := Aside0.mk hI
  clear hS hI
  go_enter Tryd.func6, Tryd.ntmps6
  go_wp2_with (first | (go_at_call 18; refine (HS.out _).mono ?_; rintro e w3 ⟨rfl, hb⟩; have HBn := Aside0.mk (below_step (by repeat (first | (with_reducible first | exact HB.out | apply below_alloc | apply pw_below_drewN | apply below_drew1) | exact HB.out)) hb); clear hb HB; have HB := HBn; clear HBn) | (go_at_call 19; refine (HI.out _ (by repeat (first | (with_reducible first | exact HB.out | apply below_alloc | apply pw_below_drewN | apply below_drew1) | exact HB.out))).mono ?_; rintro e w4 ⟨rfl, hb⟩; have HBn := Aside0.mk (below_step (by repeat (first | (with_reducible first | exact HB.out | apply below_alloc | apply pw_below_drewN | apply below_drew1) | exact HB.out)) hb); clear hb HB; have HB := HBn; clear HBn))
  go_ret
  exact ⟨rfl, (by repeat (first | (with_reducible first | exact HB.out | apply below_alloc | apply pw_below_drewN | apply below_drew1) | exact HB.out))⟩
set_option maxHeartbeats 4000000 in
set_option maxRecDepth 100000 in
theorem IsAtRest_long (s : ByteArray) (w : World) (hs : 1048576 < s.size) (ws : s.size ≤ 140737488351232) :
    Calls Tryd.prog 6 #[.string s] w fun e w' => e = .returned (.bool true) ∧ Below w.heap.size w w' := by
  have HB := Aside0.mk (Below.refl w.heap.size w)
  go_enter Tryd.func6, Tryd.ntmps6
  go_wp2
  go_ret
  exact ⟨rfl, (by repeat (first | (with_reducible first | exact HB.out | apply below_alloc | apply pw_below_drewN | apply below_drew1) | exact HB.out))⟩
theorem IsAtRest_walk (s : ByteArray) (w : World) (ws : s.size ≤ 140737488351232) (hML : ML w) :
    Calls Tryd.prog 6 #[.string s] w fun e w' => e = .returned (.bool true) ∧ Below w.heap.size w w' := by
  by_cases hs : s.size ≤ 1048576
  · cases h : rowB s with
    | true => exact IsAtRest_same s _ _ w hs (fun W => RTops.spec_IsAtRest_yes s.data.toList h W) (fun W hb => RTops.impl_IsAtRest_yes s.data.toList h W (hML.of_below hb))
    | false => exact IsAtRest_same s _ _ w hs (fun W => RTops.spec_IsAtRest_no s h W) (fun W hb => RTops.impl_IsAtRest_no s h W)
  · exact IsAtRest_long s w (by omega) ws
set_option maxHeartbeats 4000000 in
set_option maxRecDepth 100000 in
theorem TickRow_same (s : ByteArray) (x : ByteArray) (b : Bool) (w : World) (hs : s.size ≤ 1048576)
    (hS : ∀ W, Calls Tryd.prog 22 #[.string s] W fun e w' => e = .returned (.tuple #[.string x, .bool b]) ∧ Below W.heap.size W w')
    (hI : ∀ W, Below w.heap.size w W → Calls Tryd.prog 23 #[.string s] W fun e w' => e = .returned (.tuple #[.string x, .bool b]) ∧ Below W.heap.size W w') :
    Calls Tryd.prog 8 #[.string s] w fun e w' => e = .returned (.bool true) ∧ Below w.heap.size w w' := by
  have HB := Aside0.mk (Below.refl w.heap.size w)
  have HS := Aside0.mk hS
  have HI := Aside0.mk hI
  clear hS hI
  go_enter Tryd.func8, Tryd.ntmps8
  go_wp2_with (first | (go_at_call 22; refine (HS.out _).mono ?_; rintro e w3 ⟨rfl, hb⟩; have HBn := Aside0.mk (below_step (by repeat (first | (with_reducible first | exact HB.out | apply below_alloc | apply pw_below_drewN | apply below_drew1) | exact HB.out)) hb); clear hb HB; have HB := HBn; clear HBn) | (go_at_call 23; refine (HI.out _ (by repeat (first | (with_reducible first | exact HB.out | apply below_alloc | apply pw_below_drewN | apply below_drew1) | exact HB.out))).mono ?_; rintro e w4 ⟨rfl, hb⟩; have HBn := Aside0.mk (below_step (by repeat (first | (with_reducible first | exact HB.out | apply below_alloc | apply pw_below_drewN | apply below_drew1) | exact HB.out)) hb); clear hb HB; have HB := HBn; clear HBn))
  go_ret
  exact ⟨rfl, (by repeat (first | (with_reducible first | exact HB.out | apply below_alloc | apply pw_below_drewN | apply below_drew1) | exact HB.out))⟩
set_option maxHeartbeats 4000000 in
set_option maxRecDepth 100000 in
theorem TickRow_long (s : ByteArray) (w : World) (hs : 1048576 < s.size) (ws : s.size ≤ 140737488351232) :
    Calls Tryd.prog 8 #[.string s] w fun e w' => e = .returned (.bool true) ∧ Below w.heap.size w w' := by
  have HB := Aside0.mk (Below.refl w.heap.size w)
  go_enter Tryd.func8, Tryd.ntmps8
  go_wp2
  go_ret
  exact ⟨rfl, (by repeat (first | (with_reducible first | exact HB.out | apply below_alloc | apply pw_below_drewN | apply below_drew1) | exact HB.out))⟩
theorem TickRow_walk (s : ByteArray) (w : World) (ws : s.size ≤ 140737488351232) (hML : ML w) :
    Calls Tryd.prog 8 #[.string s] w fun e w' => e = .returned (.bool true) ∧ Below w.heap.size w w' := by
  by_cases hs : s.size ≤ 1048576
  · cases h : rowB s with
    | true => exact TickRow_same s _ _ w hs (fun W => RTops.spec_TickRow_yes s.data.toList h W) (fun W hb => RTops.impl_TickRow_yes s.data.toList h W (hML.of_below hb))
    | false => exact TickRow_same s _ _ w hs (fun W => RTops.spec_TickRow_no s h W) (fun W hb => RTops.impl_TickRow_no s h W)
  · exact TickRow_long s w (by omega) ws
set_option maxHeartbeats 4000000 in
set_option maxRecDepth 100000 in
theorem NumberOfRow_same (s : ByteArray) (x : Int) (b : Bool) (w : World) (hs : s.size ≤ 1048576)
    (hS : ∀ W, Calls Tryd.prog 11 #[.string s] W fun e w' => e = .returned (.tuple #[.int .i64 x, .bool b]) ∧ Below W.heap.size W w')
    (hI : ∀ W, Below w.heap.size w W → Calls Tryd.prog 12 #[.string s] W fun e w' => e = .returned (.tuple #[.int .i64 x, .bool b]) ∧ Below W.heap.size W w') :
    Calls Tryd.prog 4 #[.string s] w fun e w' => e = .returned (.bool true) ∧ Below w.heap.size w w' := by
  have HB := Aside0.mk (Below.refl w.heap.size w)
  have HS := Aside0.mk hS
  have HI := Aside0.mk hI
  clear hS hI
  go_enter Tryd.func4, Tryd.ntmps4
  go_wp2_with (first | (go_at_call 11; refine (HS.out _).mono ?_; rintro e w3 ⟨rfl, hb⟩; have HBn := Aside0.mk (below_step (by repeat (first | (with_reducible first | exact HB.out | apply below_alloc | apply pw_below_drewN | apply below_drew1) | exact HB.out)) hb); clear hb HB; have HB := HBn; clear HBn) | (go_at_call 12; refine (HI.out _ (by repeat (first | (with_reducible first | exact HB.out | apply below_alloc | apply pw_below_drewN | apply below_drew1) | exact HB.out))).mono ?_; rintro e w4 ⟨rfl, hb⟩; have HBn := Aside0.mk (below_step (by repeat (first | (with_reducible first | exact HB.out | apply below_alloc | apply pw_below_drewN | apply below_drew1) | exact HB.out)) hb); clear hb HB; have HB := HBn; clear HBn))
  go_ret
  exact ⟨rfl, (by repeat (first | (with_reducible first | exact HB.out | apply below_alloc | apply pw_below_drewN | apply below_drew1) | exact HB.out))⟩
set_option maxHeartbeats 4000000 in
set_option maxRecDepth 100000 in
theorem NumberOfRow_long (s : ByteArray) (w : World) (hs : 1048576 < s.size) (ws : s.size ≤ 140737488351232) :
    Calls Tryd.prog 4 #[.string s] w fun e w' => e = .returned (.bool true) ∧ Below w.heap.size w w' := by
  have HB := Aside0.mk (Below.refl w.heap.size w)
  go_enter Tryd.func4, Tryd.ntmps4
  go_wp2
  go_ret
  exact ⟨rfl, (by repeat (first | (with_reducible first | exact HB.out | apply below_alloc | apply pw_below_drewN | apply below_drew1) | exact HB.out))⟩
theorem NumberOfRow_walk (s : ByteArray) (w : World) (ws : s.size ≤ 140737488351232) (hML : ML w) :
    Calls Tryd.prog 4 #[.string s] w fun e w' => e = .returned (.bool true) ∧ Below w.heap.size w w' := by
  by_cases hs : s.size ≤ 1048576
  · cases h : rowB s with
    | true => exact NumberOfRow_same s _ _ w hs (fun W => RNum.spec_yes s.data.toList h W) (fun W hb => RNum.impl_yes s.data.toList h W)
    | false => exact NumberOfRow_same s _ _ w hs (fun W => RNum.spec_no s h W) (fun W hb => RNum.impl_no s h W)
  · exact NumberOfRow_long s w (by omega) ws
set_option maxHeartbeats 4000000 in
set_option maxRecDepth 100000 in
theorem TurnedRow_same (s : ByteArray) (x : ByteArray) (b : Bool) (w : World) (hs : s.size ≤ 1048576)
    (hS : ∀ W, Calls Tryd.prog 20 #[.string s] W fun e w' => e = .returned (.tuple #[.string x, .bool b]) ∧ Below W.heap.size W w')
    (hI : ∀ W, Below w.heap.size w W → Calls Tryd.prog 21 #[.string s] W fun e w' => e = .returned (.tuple #[.string x, .bool b]) ∧ Below W.heap.size W w') :
    Calls Tryd.prog 7 #[.string s] w fun e w' => e = .returned (.bool true) ∧ Below w.heap.size w w' := by
  have HB := Aside0.mk (Below.refl w.heap.size w)
  have HS := Aside0.mk hS
  have HI := Aside0.mk hI
  clear hS hI
  go_enter Tryd.func7, Tryd.ntmps7
  go_wp2_with (first | (go_at_call 20; refine (HS.out _).mono ?_; rintro e w3 ⟨rfl, hb⟩; have HBn := Aside0.mk (below_step (by repeat (first | (with_reducible first | exact HB.out | apply below_alloc | apply pw_below_drewN | apply below_drew1) | exact HB.out)) hb); clear hb HB; have HB := HBn; clear HBn) | (go_at_call 21; refine (HI.out _ (by repeat (first | (with_reducible first | exact HB.out | apply below_alloc | apply pw_below_drewN | apply below_drew1) | exact HB.out))).mono ?_; rintro e w4 ⟨rfl, hb⟩; have HBn := Aside0.mk (below_step (by repeat (first | (with_reducible first | exact HB.out | apply below_alloc | apply pw_below_drewN | apply below_drew1) | exact HB.out)) hb); clear hb HB; have HB := HBn; clear HBn))
  go_ret
  exact ⟨rfl, (by repeat (first | (with_reducible first | exact HB.out | apply below_alloc | apply pw_below_drewN | apply below_drew1) | exact HB.out))⟩
set_option maxHeartbeats 4000000 in
set_option maxRecDepth 100000 in
theorem TurnedRow_long (s : ByteArray) (w : World) (hs : 1048576 < s.size) (ws : s.size ≤ 140737488351232) :
    Calls Tryd.prog 7 #[.string s] w fun e w' => e = .returned (.bool true) ∧ Below w.heap.size w w' := by
  have HB := Aside0.mk (Below.refl w.heap.size w)
  go_enter Tryd.func7, Tryd.ntmps7
  go_wp2
  go_ret
  exact ⟨rfl, (by repeat (first | (with_reducible first | exact HB.out | apply below_alloc | apply pw_below_drewN | apply below_drew1) | exact HB.out))⟩
theorem TurnedRow_walk (s : ByteArray) (w : World) (ws : s.size ≤ 140737488351232) (hML : ML w) :
    Calls Tryd.prog 7 #[.string s] w fun e w' => e = .returned (.bool true) ∧ Below w.heap.size w w' := by
  by_cases hs : s.size ≤ 1048576
  · cases h : rowB s with
    | true => exact TurnedRow_same s _ _ w hs (fun W => RTurn.spec_yes s.data.toList h W) (fun W hb => RTurn.impl_yes s.data.toList h W (hML.of_below hb))
    | false => exact TurnedRow_same s _ _ w hs (fun W => RTurn.spec_no s h W) (fun W hb => RTurn.impl_no s h W)
  · exact TurnedRow_long s w (by omega) ws
end Go.Proofs.YtfkbacdaoeecdacDoor.RLaw
