/- The law on the first order so seen: the walk of laws.FnExactFirstBySeen. -/
import Derived.Test.YtleacijhpkogpacRMarks
import Derived.Test.YtleacijhpkogpacHSpecF
namespace Go.Proofs.Ytleacijhpkogpac.HLawF
open Go.RowKit Go.Proofs.YtleacijhpkogpacW.PrintWords Go.Proofs.YtleacijhpkogpacW.PrintLast Go.Proofs.YtleacijhpkogpacW.PrintMore Go.Proofs.Ytleacijhpkogpac.HFind Go.Proofs.Ytleacijhpkogpac.RMarks
set_option linter.unusedVariables false
set_option linter.unusedSimpArgs false

set_option maxHeartbeats 4000000 in
set_option maxRecDepth 100000 in
theorem FirstBySeen_same (e0 e1 e2 : Int) (g : List Int) (b : Bool) (w : World) (hg : g.length ≤ 1048576)
    (hS : ∀ W, Calls Try.prog 18 #[.int .i64 e0, .int .i64 e1, .int .i64 e2] W fun e w' => ∃ v, e = .returned (.tuple #[v, .bool b]) ∧ Kd.R (Kd.int .i64) 3 w' W.heap.size (fun _ => True) v g ∧ Below W.heap.size W w')
    (hI : ∀ W, Below w.heap.size w W → Calls Try.prog 19 #[.int .i64 e0, .int .i64 e1, .int .i64 e2] W fun e w' => ∃ v, e = .returned (.tuple #[v, .bool b]) ∧ Kd.R (Kd.int .i64) 3 w' W.heap.size (fun _ => True) v g ∧ Below W.heap.size W w') :
    Calls Try.prog 5 #[.int .i64 e0, .int .i64 e1, .int .i64 e2] w fun e w' => e = .returned (.bool true) ∧ Below w.heap.size w w' := by
  have HB := Aside0.mk (Below.refl w.heap.size w)
  have HS := Aside0.mk hS
  have HI := Aside0.mk hI
  have HG := Aside0.mk hg
  have hul := RMarks.upto_len g.length 0
  have HUL := Aside0.mk hul
  clear hS hI hul
  go_enter Try.func5, Try.ntmps5
  go_wp2_with fail
  refine (HS.out _).mono ?_
  rintro e w1 ⟨v0, rfl, ho0, hb⟩
  have HB1 := Aside0.mk (below_step (by repeat (first | (with_reducible first | exact HB.out | apply below_alloc | apply pw_below_drewN | apply below_drew1) | exact HB.out)) hb)
  obtain ⟨A0, c0, rfl, hlc0, hC0⟩ := Kd.R_reads ho0
  have HC0 := Aside0.mk hC0
  clear hC0 ho0 hb HB
  go_wp2_with fail
  refine (HI.out _ HB1.out).mono ?_
  rintro e w2 ⟨v1, rfl, ho1, hb⟩
  have HBW := Aside0.mk hb
  have HO1 := Aside0.mk ho1
  obtain ⟨A1, c1, rfl, hlc1, hC1⟩ := Kd.R_reads ho1
  have HC1 := Aside0.mk hC1
  clear hC1 ho1 hb
  go_wp2_with fail
  refine (RMarks.eqI A1 c1 A0 c0 g HG.out _ HC1.out hlc1 (Kd.C_below HC0.out HBW.out) hlc0).mono ?_
  rintro e w' ⟨rfl, ⟨nd1, rfl⟩⟩
  have HBW1 := Aside0.mk (pw_below_drewN HBW.out nd1)
  have HO2 := Aside0.mk (Kd.R_drewN HO1.out nd1)
  clear HBW HO1 HC1
  cases b
  all_goals
    go_wp2_with fail
    refine (RMarks.markI _ g HG.out w1 _ HBW1.out HO2.out).mono ?_
    rintro e w4 ⟨rfl, ho, hb⟩
    have HBW := Aside0.mk hb
    have HO := Aside0.mk ho
    have HC := Aside0.mk (Kd.R_reads' ho).2.2
    clear ho hb HBW1 HO2
    go_wp2_with fail
    refine (RMarks.heldI A1 c1 g.length HG.out _ HC.out (by rw [HUL.out]; exact hlc1)).mono ?_
    rintro e w5 ⟨rfl, hb⟩
    have HBW1 := Aside0.mk (below_step HBW.out hb)
    have HO1 := Aside0.mk (Kd.R_below HO.out hb)
    clear HBW HO HC hb
    have HBB := Aside0.mk (below_step HB1.out HBW1.out)
    go_wp2_with fail
    refine (HI.out _ HBB.out).mono ?_
    rintro e w6 ⟨v2, rfl, ho, hb⟩
    have HBW := Aside0.mk (below_step HBW1.out hb)
    have HO2 := Aside0.mk (Kd.R_below HO1.out hb)
    obtain ⟨A2, c2, rfl, hlc2, hC2⟩ := Kd.R_reads ho
    have HC2 := Aside0.mk hC2
    clear hC2 ho hb HBW1 HO1 HBB
    go_wp2_with fail
    refine (RMarks.eqI A2 c2 A0 c0 g HG.out _ HC2.out hlc2 (Kd.C_below HC0.out HBW.out) hlc0).mono ?_
    rintro e w' ⟨rfl, ⟨nd3, rfl⟩⟩
    have HB := Aside0.mk (below_step HB1.out HBW.out)
    have HC := Aside0.mk (Kd.R_reads' (Kd.R_drewN HO2.out nd3)).2.2
    clear HBW HO2 HC2
    go_wp2_with fail
    refine (RMarks.heldI A1 c1 g.length HG.out _ HC.out (by rw [HUL.out]; exact hlc1)).mono ?_
    rintro e w7 ⟨rfl, hb⟩
    have HBn := Aside0.mk (below_step (by repeat (first | (with_reducible first | exact HB.out | apply below_alloc | apply pw_below_drewN | apply below_drew1) | exact HB.out)) hb)
    clear HC HB hb
    have HB := HBn
    clear HBn
    go_wp2_with fail
    go_ret
    exact ⟨rfl, (by repeat (first | (with_reducible first | exact HB.out | apply below_alloc | apply pw_below_drewN | apply below_drew1) | exact HB.out))⟩
theorem FirstBySeen_walk (e0 e1 e2 : Int) (w : World) {p0 p1 p2 : Prop} (_ : p0) (_ : p1) (_ : p2) :
    Calls Try.prog 5 #[.int .i64 e0, .int .i64 e1, .int .i64 e2] w fun e w' => e = .returned (.bool true) ∧ Below w.heap.size w w' :=
  FirstBySeen_same e0 e1 e2 _ _ w (Nat.le_trans (firstB_len e0 e1 e2) (by omega)) (fun W => spec_calls e0 e1 e2 W) (fun W _ => impl_calls e0 e1 e2 W)
end Go.Proofs.Ytleacijhpkogpac.HLawF
