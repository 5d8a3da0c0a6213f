/- The law on the tallest of windows: the walk of laws.FnExactTallestOfWindows: program and reference tell the same. -/
import Derived.Test.YtfkbacdaoeecdabHTW
import Derived.Test.YtfkbacdaoeecdabRMarksX
namespace Go.Proofs.Ytfkbacdaoeecdab.HLawW
open Go.RowKit Go.Proofs.YtfkbacdaoeecdabW.PrintWords Go.Proofs.YtfkbacdaoeecdabW.PrintLast Go.Proofs.YtfkbacdaoeecdabW.PrintMore Go.Proofs.Ytfkbacdaoeecdab.HImpl
set_option linter.unusedVariables false
set_option linter.unusedSimpArgs false

set_option maxHeartbeats 8000000 in
set_option maxRecDepth 100000 in
theorem TallestOfWindows_same (A0 : Option Addr) (c0 : Nat) (l : List Int) (e0 : Int) (g : List Int) (b : Bool) (w : World) (hl : l.length ≤ 1048576) (hg : g.length ≤ 1048576)
    (h0 : Kd.C (Kd.int .i64) w A0 l.length l) (hc0 : l.length ≤ c0)
    (hS : ∀ (A : Option Addr) (c : Nat) (W : World), Kd.C (Kd.int .i64) W A l.length l → l.length ≤ c → Calls Try.prog 21 #[.slice A l.length c, .int .i64 e0] W fun e w' => ∃ v, e = .returned (.tuple #[v, .bool b]) ∧ Kd.R (Kd.int .i64) 3 w' W.heap.size (fun _ => True) v g ∧ Below W.heap.size W w')
    (hI : ∀ (A : Option Addr) (c : Nat) (W : World), Kd.C (Kd.int .i64) W A l.length l → l.length ≤ c → Calls Try.prog 22 #[.slice A l.length c, .int .i64 e0] W fun e w' => ∃ v, e = .returned (.tuple #[v, .bool b]) ∧ Kd.R (Kd.int .i64) 3 w' W.heap.size (fun _ => True) v g ∧ Below W.heap.size W w') :
    Calls Try.prog 7 #[.slice A0 l.length c0, .int .i64 e0] w fun e w' => e = .returned (.bool true) ∧ Below w.heap.size w w' := by
  have HS := Aside0.mk hS
  have HI := Aside0.mk hI
  have HC := Aside0.mk h0
  have HL := Aside0.mk hl
  have HG := Aside0.mk hg
  have HUL := Aside0.mk (RMarks.upto_len g.length 0)
  clear hS hI h0
  go_enter Try.func7, Try.ntmps7
  go_wp2_with fail
  refine (HSpecG.to_calls A0 c0 l HL.out _ HC.out hc0).mono ?_
  rintro e w1 ⟨vt, rfl, ho, hb⟩
  obtain ⟨At, ct, rfl, hlt, hCt⟩ := Kd.R_reads ho
  have HCt := Aside0.mk hCt
  have HB1 := Aside0.mk hb
  clear ho hCt hb
  go_wp2_with fail
  refine (HS.out At ct _ HCt.out hlt).mono ?_
  rintro e w2 ⟨v0, rfl, ho, hb⟩
  obtain ⟨Aw, cw, rfl, hlw, hCw⟩ := Kd.R_reads ho
  have HCW := Aside0.mk hCw
  have HB2 := Aside0.mk (below_step HB1.out hb)
  clear ho hCw hb HCt HB1
  go_wp2_with fail
  refine (HSpecG.to_calls A0 c0 l HL.out _ (Kd.C_below HC.out HB2.out) hc0).mono ?_
  rintro e w3 ⟨vx, rfl, hox, hb⟩
  have HX := Aside0.mk hox
  have HBW := Aside0.mk hb
  have HS3 := Aside0.mk hb.size
  obtain ⟨Ax, cx, rfl, hlx, hCx⟩ := Kd.R_reads hox
  have HCX := Aside0.mk hCx
  clear hox hb hCx
  go_wp2_with fail
  refine (HI.out Ax cx _ HCX.out hlx).mono ?_
  rintro e w4 ⟨vg, rfl, hog, hb⟩
  have HG0 := Aside0.mk hog
  have HBW4 := Aside0.mk (below_step HBW.out hb)
  have HX4 := Aside0.mk (Kd.R_below HX.out hb)
  have HLX := Aside0.mk (fun k (hk : (Value.slice Ax l.length cx).ownBlock = some k) => Kd.R_lt HX.out k hk)
  have HSZ := Aside0.mk hb.size
  obtain ⟨Ag, cg, rfl, hlg, hCg⟩ := Kd.R_reads hog
  have HCG := Aside0.mk hCg
  clear hog hb hCg HBW HX HCX
  go_wp2_with fail
  refine (RMarks.eqI Ag cg Aw cw g HG.out _ HCG.out hlg (Kd.C_below HCW.out HBW4.out) hlw).mono ?_
  rintro e w' ⟨rfl, ⟨nd1, rfl⟩⟩
  have HB5 := Aside0.mk (below_step HB2.out (pw_below_drewN HBW4.out nd1))
  cases b
  all_goals
    go_wp2_with fail
    refine (HSpecG.to_calls A0 c0 l HL.out _ (Kd.C_below HC.out HB5.out) hc0).mono ?_
    rintro e w5 ⟨vy, rfl, hoy, hb⟩
    have HBW5 := Aside0.mk (below_step (pw_below_drewN HBW4.out nd1) hb)
    have HX5 := Aside0.mk (Kd.R_below (Kd.R_drewN HX4.out nd1) hb)
    have HG5 := Aside0.mk (Kd.R_below (Kd.R_drewN HG0.out nd1) hb)
    obtain ⟨Ay, cy, rfl, hly, hCy⟩ := Kd.R_reads hoy
    have HCY := Aside0.mk hCy
    clear hoy hb hCy HCG
    go_wp2_with fail
    refine (RMarks.eqI Ax cx Ay cy l HL.out _ (Kd.R_reads' HX5.out).2.2 hlx HCY.out hly).mono ?_
    rintro e w' ⟨rfl, ⟨nd2, rfl⟩⟩
    have HMX := Aside0.mk (RMarksX.markK (.slice Ax l.length cx) l HL.out (fun k => k < w3.heap.size) w2 (w5.drewN nd2) (pw_below_drewN HBW5.out nd2) (Kd.R_mono (Kd.R_tight rfl (Kd.R_drewN HX5.out nd2)) (fun k hk => HLX.out k hk.symm)))
    have HG6 := Aside0.mk (Kd.R_drewN HG5.out nd2)
    clear HX5 HCY HBW5 HG5
    go_wp2_with fail
    refine HMX.out.mono ?_
    rintro e w6 ⟨rfl, _, hb, hkept⟩
    have HBW := Aside0.mk hb
    have HO := Aside0.mk (Kd.R_lower (Kd.R_mono (ok' := fun _ => True) (Kd.R_step (Kd.R_bound HG6.out) (fun k hk hlt => hkept.2 k hlt (fun h => Nat.lt_irrefl _ (Nat.lt_of_lt_of_le h hk.2.1)))) (fun _ _ => trivial)) HS3.out)
    have HCG := Aside0.mk (Kd.R_reads' HO.out).2.2
    clear hb hkept HMX HG6
    go_wp2_with fail
    refine (RMarks.eqI Ag cg Aw cw g HG.out _ HCG.out hlg (Kd.C_below HCW.out HBW.out) hlw).mono ?_
    rintro e w' ⟨rfl, ⟨nd3, rfl⟩⟩
    have HBW1 := Aside0.mk (pw_below_drewN HBW.out nd3)
    have HO1 := Aside0.mk (Kd.R_drewN HO.out nd3)
    clear HBW HO HCG
    have HBW := HBW1
    have HO := HO1
    clear HBW1 HO1
    go_wp2_with fail
    refine (RMarks.markI _ g HG.out w2 _ HBW.out HO.out).mono ?_
    rintro e w7 ⟨rfl, ho, hb⟩
    have HBW1 := Aside0.mk hb
    have HO1 := Aside0.mk ho
    have HCG := Aside0.mk (Kd.R_reads' ho).2.2
    clear ho hb HBW HO
    go_wp2_with fail
    refine (RMarks.heldI Ag cg g.length HG.out _ HCG.out (by rw [HUL.out]; exact hlg)).mono ?_
    rintro e w8 ⟨rfl, hb⟩
    have HBW := Aside0.mk (below_step HBW1.out hb)
    have HO := Aside0.mk (Kd.R_below HO1.out hb)
    have HB8 := Aside0.mk (below_step HB2.out HBW.out)
    clear hb HBW1 HO1 HCG
    go_wp2_with fail
    refine (HSpecG.to_calls A0 c0 l HL.out _ (Kd.C_below HC.out HB8.out) hc0).mono ?_
    rintro e w9 ⟨vz, rfl, hoz, hb⟩
    obtain ⟨Az, cz, rfl, hlz, hCz⟩ := Kd.R_reads hoz
    have HCZ := Aside0.mk hCz
    have HBW1 := Aside0.mk (below_step HBW.out hb)
    have HO1 := Aside0.mk (Kd.R_below HO.out hb)
    clear hoz hCz hb HBW HO HB8
    go_wp2_with fail
    refine (HI.out Az cz _ HCZ.out hlz).mono ?_
    rintro e w10 ⟨vh, rfl, hoh, hb⟩
    obtain ⟨Ah, ch, rfl, hlh, hCh⟩ := Kd.R_reads hoh
    have HCH := Aside0.mk hCh
    have HBW := Aside0.mk (below_step HBW1.out hb)
    have HO := Aside0.mk (Kd.R_below HO1.out hb)
    clear hoh hCh hb HBW1 HO1 HCZ
    go_wp2_with fail
    refine (RMarks.eqI Ah ch Aw cw g HG.out _ HCH.out hlh (Kd.C_below HCW.out HBW.out) hlw).mono ?_
    rintro e w' ⟨rfl, ⟨nd4, rfl⟩⟩
    have HB := Aside0.mk (below_step HB2.out HBW.out)
    have HCG := Aside0.mk (Kd.R_reads' (Kd.R_drewN HO.out nd4)).2.2
    clear HBW HO HCH
    go_wp2_with fail
    refine (RMarks.heldI Ag cg g.length HG.out _ HCG.out (by rw [HUL.out]; exact hlg)).mono ?_
    rintro e w11 ⟨rfl, hb⟩
    have HBn := Aside0.mk (below_step (by repeat (first | (with_reducible first | exact HB.out | apply below_alloc | apply pw_below_drewN | apply below_drew1) | exact HB.out)) hb)
    clear HB hb HCG
    have HB := HBn
    clear HBn
    go_wp2_with fail
    go_ret
    exact ⟨rfl, (by repeat (first | (with_reducible first | exact HB.out | apply below_alloc | apply pw_below_drewN | apply below_drew1) | exact HB.out))⟩
set_option maxHeartbeats 8000000 in
set_option maxRecDepth 100000 in
theorem TallestOfWindows_long (A0 : Option Addr) (c0 : Nat) (l : List Int) (e0 : Int) (w : World) (hl : 1048576 < l.length) (h2 : l.length ≤ 9223372036854775807) :
    Calls Try.prog 7 #[.slice A0 l.length c0, .int .i64 e0] w fun e w' => e = .returned (.bool true) ∧ Below w.heap.size w w' := by
  have HB := Aside0.mk (Below.refl w.heap.size w)
  go_enter Try.func7, Try.ntmps7
  go_wp2
  go_ret
  exact ⟨rfl, (by repeat (first | (with_reducible first | exact HB.out | apply below_alloc | apply pw_below_drewN | apply below_drew1) | exact HB.out))⟩
theorem winT_len (l : List Int) (e0 : Int) : ((HTW.winT l e0).getD []).length ≤ l.length := by
  unfold HTW.winT
  split
  · rename_i c
    have := c.2
    rw [Option.getD_some, HTW.winL_len]; omega
  · simp
theorem TallestOfWindows_walk (A0 : Option Addr) (c0 : Nat) (l : List Int) (e0 : Int) (w : World) (h0 : Kd.C (Kd.int .i64) w A0 l.length l) (hc0 : l.length ≤ c0) (hm : l.length ≤ maxLen) {p0 : Prop} (_ : p0) :
    Calls Try.prog 7 #[.slice A0 l.length c0, .int .i64 e0] w fun e w' => e = .returned (.bool true) ∧ Below w.heap.size w w' := by
  rcases Nat.lt_or_ge 1048576 l.length with h | h
  · exact TallestOfWindows_long A0 c0 l e0 w h (Nat.le_trans hm (by decide))
  · exact TallestOfWindows_same A0 c0 l e0 _ _ w h (Nat.le_trans (winT_len l e0) h) h0 hc0 (fun A c W hC hc => HTW.spec_calls A c l e0 h W hC hc) (fun A c W hC hc => HTW.impl_calls A c l e0 h W hC hc)
end Go.Proofs.Ytfkbacdaoeecdab.HLawW
