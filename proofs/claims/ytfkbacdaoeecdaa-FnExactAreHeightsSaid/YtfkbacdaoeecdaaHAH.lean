/- What is a list of heights: the walks of spec.AreHeights, impl.AreHeights and of the law. -/
import Derived.Test.YtfkbacdaoeecdaaHGood
import Derived.Test.YtfkbacdaoeecdaaRMarks
namespace Go.Proofs.Ytfkbacdaoeecdaa.HAH
open Go.RowKit Go.Proofs.YtfkbacdaoeecdaaW.PrintWords Go.Proofs.YtfkbacdaoeecdaaW.PrintLast Go.Proofs.YtfkbacdaoeecdaaW.PrintMore Go.Proofs.Ytfkbacdaoeecdaa.HImpl
set_option linter.unusedVariables false
set_option linter.unusedSimpArgs false

set_option maxHeartbeats 8000000 in
set_option maxRecDepth 100000 in
theorem spec_AreHeights (A0 : Option Addr) (c0 : Nat) (l : List Int) (hl : l.length ≤ 1048576) (w : World) (h0 : Kd.C (Kd.int .i64) w A0 l.length l) (hc0 : l.length ≤ c0) :
    Calls Try.prog 23 #[.slice A0 l.length c0] w fun e w' => e = .returned (.bool (good l)) ∧ Below w.heap.size w w' := by
  have HB := Aside0.mk (Below.refl w.heap.size w)
  have HG := Aside0.mk (HSpecG.good_is A0 c0 l hl _ rfl w h0 hc0)
  clear h0
  go_enter Try.func23, Try.ntmps23
  go_wp2_with (go_at_call 25; refine HG.out.mono ?_; rintro e w' ⟨rfl, ⟨nd, rfl⟩⟩)
  go_ret
  exact ⟨rfl, (by repeat (first | (with_reducible first | exact HB.out | apply below_alloc | apply pw_below_drewN | apply below_drew1) | exact HB.out))⟩
set_option maxHeartbeats 8000000 in
set_option maxRecDepth 100000 in
theorem impl_AreHeights (A0 : Option Addr) (c0 : Nat) (l : List Int) (hl : l.length ≤ 1048576) (w : World) (h0 : Kd.C (Kd.int .i64) w A0 l.length l) (hc0 : l.length ≤ c0) :
    Calls Try.prog 24 #[.slice A0 l.length c0] w fun e w' => e = .returned (.bool (good l)) ∧ Below w.heap.size w w' := by
  have HB := Aside0.mk (Below.refl w.heap.size w)
  have HG := Aside0.mk (HImpl.are_is A0 c0 l _ rfl w h0 hc0)
  clear h0
  go_enter Try.func24, Try.ntmps24
  go_wp2_with (go_at_call 28; refine HG.out.mono ?_; rintro e w' ⟨rfl, ⟨nd, rfl⟩⟩)
  go_ret
  exact ⟨rfl, (by repeat (first | (with_reducible first | exact HB.out | apply below_alloc | apply pw_below_drewN | apply below_drew1) | exact HB.out))⟩
set_option maxHeartbeats 8000000 in
set_option maxRecDepth 100000 in
theorem AreHeights_same (A0 : Option Addr) (c0 : Nat) (l : List Int) (b : Bool) (w : World) (hl : l.length ≤ 1048576)
    (h0 : Kd.C (Kd.int .i64) w A0 l.length l) (hc0 : l.length ≤ c0)
    (hS : ∀ (A : Option Addr) (c : Nat) (W : World), Kd.C (Kd.int .i64) W A l.length l → l.length ≤ c → Calls Try.prog 23 #[.slice A l.length c] W fun e w' => e = .returned (.bool b) ∧ Below W.heap.size W w')
    (hI : ∀ (A : Option Addr) (c : Nat) (W : World), Kd.C (Kd.int .i64) W A l.length l → l.length ≤ c → Calls Try.prog 24 #[.slice A l.length c] W fun e w' => e = .returned (.bool b) ∧ Below W.heap.size W w') :
    Calls Try.prog 8 #[.slice A0 l.length c0] w fun e w' => e = .returned (.bool true) ∧ Below w.heap.size w w' := by
  have HS := Aside0.mk hS
  have HI := Aside0.mk hI
  have HC := Aside0.mk h0
  have HL := Aside0.mk hl
  clear hS hI h0
  go_enter Try.func8, Try.ntmps8
  go_wp2_with fail
  refine (HSpecG.to_calls A0 c0 l HL.out _ HC.out hc0).mono ?_
  rintro e w1 ⟨vt, rfl, ho, hb⟩
  obtain ⟨At, ct, rfl, hlt, hCt⟩ := Kd.R_reads ho
  have HCt := Aside0.mk hCt
  have HB1 := Aside0.mk hb
  clear ho hCt hb
  go_wp2_with fail
  refine (HS.out At ct _ HCt.out hlt).mono ?_
  rintro e w2 ⟨rfl, hb⟩
  have HB2 := Aside0.mk (below_step HB1.out hb)
  clear hb HCt HB1
  go_wp2_with fail
  refine (HSpecG.to_calls A0 c0 l HL.out _ (Kd.C_below HC.out HB2.out) hc0).mono ?_
  rintro e w3 ⟨vx, rfl, hox, hb⟩
  have HX := Aside0.mk hox
  have HB3 := Aside0.mk (below_step HB2.out hb)
  obtain ⟨Ax, cx, rfl, hlx, hCx⟩ := Kd.R_reads hox
  have HCX := Aside0.mk hCx
  clear hox hb hCx HB2
  go_wp2_with fail
  refine (HI.out Ax cx _ HCX.out hlx).mono ?_
  rintro e w4 ⟨rfl, hb⟩
  have HB4 := Aside0.mk (below_step HB3.out hb)
  have HX4 := Aside0.mk (Kd.R_below HX.out hb)
  clear hb HB3 HX HCX
  cases b
  all_goals
    go_wp2_with fail
    refine (HSpecG.to_calls A0 c0 l HL.out _ (Kd.C_below HC.out HB4.out) hc0).mono ?_
    rintro e w5 ⟨vy, rfl, hoy, hb⟩
    have HB5 := Aside0.mk (below_step HB4.out hb)
    have HX5 := Aside0.mk (Kd.R_below HX4.out hb)
    obtain ⟨Ay, cy, rfl, hly, hCy⟩ := Kd.R_reads hoy
    have HCY := Aside0.mk hCy
    clear hoy hb hCy HB4 HX4
    go_wp2_with fail
    refine (RMarks.eqI Ax cx Ay cy l HL.out _ (Kd.R_reads' HX5.out).2.2 hlx HCY.out hly).mono ?_
    rintro e w' ⟨rfl, ⟨nd2, rfl⟩⟩
    have HB := HB5
    go_wp2_with fail
    go_ret
    exact ⟨rfl, (by repeat (first | (with_reducible first | exact HB.out | apply below_alloc | apply pw_below_drewN | apply below_drew1) | exact HB.out))⟩
set_option maxHeartbeats 8000000 in
set_option maxRecDepth 100000 in
theorem AreHeights_long (A0 : Option Addr) (c0 : Nat) (l : List Int) (w : World) (hl : 1048576 < l.length) (h2 : l.length ≤ 9223372036854775807) :
    Calls Try.prog 8 #[.slice A0 l.length c0] w fun e w' => e = .returned (.bool true) ∧ Below w.heap.size w w' := by
  have HB := Aside0.mk (Below.refl w.heap.size w)
  go_enter Try.func8, Try.ntmps8
  go_wp2
  go_ret
  exact ⟨rfl, (by repeat (first | (with_reducible first | exact HB.out | apply below_alloc | apply pw_below_drewN | apply below_drew1) | exact HB.out))⟩
theorem AreHeights_walk (A0 : Option Addr) (c0 : Nat) (l : List Int) (w : World) (h0 : Kd.C (Kd.int .i64) w A0 l.length l) (hc0 : l.length ≤ c0) (hm : l.length ≤ maxLen) :
    Calls Try.prog 8 #[.slice A0 l.length c0] w fun e w' => e = .returned (.bool true) ∧ Below w.heap.size w w' := by
  rcases Nat.lt_or_ge 1048576 l.length with h | h
  · exact AreHeights_long A0 c0 l w h (Nat.le_trans hm (by decide))
  · exact AreHeights_same A0 c0 l (good l) w h h0 hc0 (fun A c W hC hc => spec_AreHeights A c l h W hC hc) (fun A c W hC hc => impl_AreHeights A c l h W hC hc)
end Go.Proofs.Ytfkbacdaoeecdaa.HAH
