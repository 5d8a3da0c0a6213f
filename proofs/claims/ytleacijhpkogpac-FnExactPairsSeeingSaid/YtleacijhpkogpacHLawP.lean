/- The law on pairs: the walk of laws.FnExactPairsSeeing. -/
import Derived.Test.YtleacijhpkogpacRMarksSS
import Derived.Test.YtleacijhpkogpacRMarksX
import Derived.Test.YtleacijhpkogpacHPairs
namespace Go.Proofs.Ytleacijhpkogpac.HLaw
open Go.RowKit Go.Proofs.YtleacijhpkogpacW.PrintWords Go.Proofs.YtleacijhpkogpacW.PrintLast Go.Proofs.YtleacijhpkogpacW.PrintMore
set_option linter.unusedVariables false
set_option linter.unusedSimpArgs false

set_option maxHeartbeats 8000000 in
set_option maxRecDepth 100000 in
theorem PairsSeeing_same (A0 : Option Addr) (c0 : Nat) (l : List Int) (g : List (List Int)) (b : Bool) (w : World) (hl : l.length ≤ 1048576) (hg : g.length ≤ 1048576) (hgr : ∀ r ∈ g, r.length ≤ 1048576) (hgt : RMarksSS.tot g ≤ 1000000000)
    (h0 : Kd.C (Kd.int .i64) w A0 l.length l) (hc0 : l.length ≤ c0)
    (hS : ∀ (A : Option Addr) (c : Nat) (W : World), Kd.C (Kd.int .i64) W A l.length l → l.length ≤ c → Calls Try.prog 10 #[.slice A l.length c] W fun e w' => ∃ v, e = .returned (.tuple #[v, .bool b]) ∧ Kd.S (Kd.slice 3 (Kd.int .i64)) 25 w' W.heap.size (fun _ => True) v g ∧ Below W.heap.size W w')
    (hI : ∀ (A : Option Addr) (c : Nat) (W : World), Kd.C (Kd.int .i64) W A l.length l → l.length ≤ c → Calls Try.prog 12 #[.slice A l.length c] W fun e w' => ∃ v, e = .returned (.tuple #[v, .bool b]) ∧ Kd.S (Kd.slice 3 (Kd.int .i64)) 25 w' W.heap.size (fun _ => True) v g ∧ Below W.heap.size W w') :
    Calls Try.prog 4 #[.slice A0 l.length c0] w fun e w' => e = .returned (.bool true) ∧ Below w.heap.size w w' := by
  have HS := Aside0.mk hS
  have HI := Aside0.mk hI
  have HC := Aside0.mk h0
  have HL := Aside0.mk hl
  have HG := Aside0.mk hg
  have HGR := Aside0.mk hgr
  have HGT := Aside0.mk hgt
  clear hgr hgt
  have HUL := Aside0.mk (RMarksSS.mkSS_len g 0)
  clear hS hI h0
  go_enter Try.func4, Try.ntmps4
  go_wp2_with fail
  refine (HSpecG.to_calls A0 c0 l HL.out _ HC.out hc0).mono ?_
  rintro e w1 ⟨vt, rfl, ho, hb⟩
  obtain ⟨At, ct, rfl, hlt, hCt⟩ := Kd.R_reads ho
  have HCt := Aside0.mk hCt
  have HB1 := Aside0.mk hb
  clear ho hCt hb
  go_wp2_with fail
  refine (HS.out At ct _ HCt.out hlt).mono ?_
  rintro e w2 ⟨v0, rfl, ho, hb⟩
  obtain ⟨Aw, cw, rfl, hlw, hCw⟩ := Kd.S_reads ho
  have HCW := Aside0.mk hCw
  have HB2 := Aside0.mk (below_step HB1.out hb)
  clear ho hCw hb HCt HB1
  go_wp2_with fail
  refine (HSpecG.to_calls A0 c0 l HL.out _ (Kd.C_below HC.out HB2.out) hc0).mono ?_
  rintro e w3 ⟨vx, rfl, hox, hb⟩
  have HX := Aside0.mk hox
  have HBW := Aside0.mk hb
  have HS3 := Aside0.mk hb.size
  obtain ⟨Ax, cx, rfl, hlx, hCx⟩ := Kd.R_reads hox
  have HCX := Aside0.mk hCx
  clear hox hb hCx
  go_wp2_with fail
  refine (HI.out Ax cx _ HCX.out hlx).mono ?_
  rintro e w4 ⟨vg, rfl, hog, hb⟩
  have HG0 := Aside0.mk hog
  have HBW4 := Aside0.mk (below_step HBW.out hb)
  have HX4 := Aside0.mk (Kd.R_below HX.out hb)
  have HLX := Aside0.mk (fun k (hk : (Value.slice Ax l.length cx).ownBlock = some k) => Kd.R_lt HX.out k hk)
  have HSZ := Aside0.mk hb.size
  obtain ⟨Ag, cg, rfl, hlg, hCg⟩ := Kd.S_reads hog
  have HCG := Aside0.mk hCg
  clear hog hb hCg HBW HX HCX
  go_wp2_with fail
  refine (RMarksSS.eqSS Ag cg Aw cw g HG.out HGR.out _ HCG.out hlg (Kd.C_below HCW.out HBW4.out) hlw).mono ?_
  rintro e w' ⟨rfl, ⟨nd1, rfl⟩⟩
  have HB5 := Aside0.mk (below_step HB2.out (pw_below_drewN HBW4.out nd1))
  cases b
  all_goals
    go_wp2_with fail
    refine (HSpecG.to_calls A0 c0 l HL.out _ (Kd.C_below HC.out HB5.out) hc0).mono ?_
    rintro e w5 ⟨vy, rfl, hoy, hb⟩
    have HBW5 := Aside0.mk (below_step (pw_below_drewN HBW4.out nd1) hb)
    have HX5 := Aside0.mk (Kd.R_below (Kd.R_drewN HX4.out nd1) hb)
    have HG5 := Aside0.mk (Kd.S_below (Kd.S_drewN HG0.out nd1) hb)
    obtain ⟨Ay, cy, rfl, hly, hCy⟩ := Kd.R_reads hoy
    have HCY := Aside0.mk hCy
    clear hoy hb hCy HCG
    go_wp2_with fail
    refine (RMarks.eqI Ax cx Ay cy l HL.out _ (Kd.R_reads' HX5.out).2.2 hlx HCY.out hly).mono ?_
    rintro e w' ⟨rfl, ⟨nd2, rfl⟩⟩
    have HMX := Aside0.mk (RMarksX.markK (.slice Ax l.length cx) l HL.out (fun k => k < w3.heap.size) w2 (w5.drewN nd2) (pw_below_drewN HBW5.out nd2) (Kd.R_mono (Kd.R_tight rfl (Kd.R_drewN HX5.out nd2)) (fun k hk => HLX.out k hk.symm)))
    have HG6 := Aside0.mk (Kd.S_drewN HG5.out nd2)
    clear HX5 HCY HBW5 HG5
    go_wp2_with fail
    refine HMX.out.mono ?_
    rintro e w6 ⟨rfl, _, hb, hkept⟩
    have HBW := Aside0.mk hb
    have HO := Aside0.mk (Kd.S_lower (Kd.S_mono (ok' := fun _ => True) (Kd.S_step (Kd.S_bound HG6.out) (fun k hk hlt => hkept.2 k hlt (fun h => Nat.lt_irrefl _ (Nat.lt_of_lt_of_le h hk.2.1)))) (fun _ _ => trivial)) HS3.out)
    have HCG := Aside0.mk (Kd.S_reads' HO.out).2.2
    clear hb hkept HMX HG6
    go_wp2_with fail
    refine (RMarksSS.eqSS Ag cg Aw cw g HG.out HGR.out _ HCG.out hlg (Kd.C_below HCW.out HBW.out) hlw).mono ?_
    rintro e w' ⟨rfl, ⟨nd3, rfl⟩⟩
    have HBW1 := Aside0.mk (pw_below_drewN HBW.out nd3)
    have HO1 := Aside0.mk (Kd.S_drewN HO.out nd3)
    clear HBW HO HCG
    have HBW := HBW1
    have HO := HO1
    clear HBW1 HO1
    go_wp2_with fail
    refine (RMarksSS.markSS _ g HG.out HGR.out HGT.out w2 _ HBW.out HO.out).mono ?_
    rintro e w7 ⟨rfl, ho, hb⟩
    have HBW1 := Aside0.mk hb
    have HO1 := Aside0.mk ho
    have HCG := Aside0.mk (Kd.S_reads' ho).2.2
    clear ho hb HBW HO
    go_wp2_with fail
    refine (RMarksSS.heldSS Ag cg g HG.out HGR.out HGT.out _ HCG.out (by rw [HUL.out]; exact hlg)).mono ?_
    rintro e w8 ⟨rfl, hd⟩
    have hb := hd.below
    clear hd
    have HBW := Aside0.mk (below_step HBW1.out hb)
    have HO := Aside0.mk (Kd.S_below HO1.out hb)
    have HB8 := Aside0.mk (below_step HB2.out HBW.out)
    clear hb HBW1 HO1 HCG
    go_wp2_with fail
    refine (HSpecG.to_calls A0 c0 l HL.out _ (Kd.C_below HC.out HB8.out) hc0).mono ?_
    rintro e w9 ⟨vz, rfl, hoz, hb⟩
    obtain ⟨Az, cz, rfl, hlz, hCz⟩ := Kd.R_reads hoz
    have HCZ := Aside0.mk hCz
    have HBW1 := Aside0.mk (below_step HBW.out hb)
    have HO1 := Aside0.mk (Kd.S_below HO.out hb)
    clear hoz hCz hb HBW HO HB8
    go_wp2_with fail
    refine (HI.out Az cz _ HCZ.out hlz).mono ?_
    rintro e w10 ⟨vh, rfl, hoh, hb⟩
    obtain ⟨Ah, ch, rfl, hlh, hCh⟩ := Kd.S_reads hoh
    have HCH := Aside0.mk hCh
    have HBW := Aside0.mk (below_step HBW1.out hb)
    have HO := Aside0.mk (Kd.S_below HO1.out hb)
    clear hoh hCh hb HBW1 HO1 HCZ
    go_wp2_with fail
    refine (RMarksSS.eqSS Ah ch Aw cw g HG.out HGR.out _ HCH.out hlh (Kd.C_below HCW.out HBW.out) hlw).mono ?_
    rintro e w' ⟨rfl, ⟨nd4, rfl⟩⟩
    have HB := Aside0.mk (below_step HB2.out HBW.out)
    have HCG := Aside0.mk (Kd.S_reads' (Kd.S_drewN HO.out nd4)).2.2
    clear HBW HO HCH
    go_wp2_with fail
    refine (RMarksSS.heldSS Ag cg g HG.out HGR.out HGT.out _ HCG.out (by rw [HUL.out]; exact hlg)).mono ?_
    rintro e w11 ⟨rfl, hd⟩
    have hb := hd.below
    clear hd
    have HBn := Aside0.mk (below_step (by repeat (first | (with_reducible first | exact HB.out | apply below_alloc | apply pw_below_drewN | apply below_drew1) | exact HB.out)) hb)
    clear HB hb HCG
    have HB := HBn
    clear HBn
    go_wp2_with fail
    go_ret
    exact ⟨rfl, (by repeat (first | (with_reducible first | exact HB.out | apply below_alloc | apply pw_below_drewN | apply below_drew1) | exact HB.out))⟩
set_option maxHeartbeats 8000000 in
set_option maxRecDepth 100000 in
theorem PairsSeeing_long (A0 : Option Addr) (c0 : Nat) (l : List Int) (w : World) (hl : 1048576 < l.length) (h2 : l.length ≤ 9223372036854775807) :
    Calls Try.prog 4 #[.slice A0 l.length c0] w fun e w' => e = .returned (.bool true) ∧ Below w.heap.size w w' := by
  have HB := Aside0.mk (Below.refl w.heap.size w)
  go_enter Try.func4, Try.ntmps4
  go_wp2
  go_ret
  exact ⟨rfl, (by repeat (first | (with_reducible first | exact HB.out | apply below_alloc | apply pw_below_drewN | apply below_drew1) | exact HB.out))⟩
theorem prJ_rows (h : Int) (i : Nat) : ∀ (t : List Int) (j : Nat) (m : Int), ∀ r ∈ HPairs.prJ h i t j m, r.length = 2
  | [], _, _, r, hr => by simp [HPairs.prJ] at hr
  | x :: t, j, m, r, hr => by
    rw [HPairs.prJ] at hr
    rcases List.mem_append.1 hr with hr | hr
    · split at hr
      · rw [List.mem_singleton.1 hr]; rfl
      · simp at hr
    · exact prJ_rows h i t (j + 1) _ r hr
theorem prI_rows (l : List Int) : ∀ d i, ∀ r ∈ HPairs.prI l d i, r.length = 2
  | 0, _, r, hr => by simp [HPairs.prI] at hr
  | d + 1, i, r, hr => by
    rw [HPairs.prI] at hr
    rcases List.mem_append.1 hr with hr | hr
    · exact prJ_rows _ _ _ _ _ r hr
    · exact prI_rows l d (i + 1) r hr
theorem tot_two : ∀ t : List (List Int), (∀ r ∈ t, r.length = 2) → RMarksSS.tot t = 2 * t.length
  | [], _ => rfl
  | r :: t, h => by
    rw [RMarksSS.tot, h r List.mem_cons_self, tot_two t (fun x hx => h x (List.mem_cons_of_mem _ hx)), List.length_cons]; omega
theorem PairsSeeing_walk (A0 : Option Addr) (c0 : Nat) (l : List Int) (w : World) (h0 : Kd.C (Kd.int .i64) w A0 l.length l) (hc0 : l.length ≤ c0) (hm : l.length ≤ maxLen) :
    Calls Try.prog 4 #[.slice A0 l.length c0] w fun e w' => e = .returned (.bool true) ∧ Below w.heap.size w w' := by
  by_cases hl : l.length ≤ 1048576
  · cases hg : HImpl.good l with
    | true =>
      have h40 := HImpl.good_len hg
      have hp := HPairs.prI_len l l.length 0
      have hmul := Nat.mul_le_mul h40.2 h40.2
      have hr := prI_rows l l.length 0
      have ht := tot_two _ hr
      refine PairsSeeing_same A0 c0 l (HPairs.pairsL l) true w hl (by unfold HPairs.pairsL; omega) (fun r h => by rw [hr r h]; decide) (by unfold HPairs.pairsL; omega) h0 hc0 (fun A c W h hc => ?_) (fun A c W h hc => HPairs.impl_yes A c l hg W h hc)
      have := HPairs.spec_calls A c l hl W h hc
      simpa [hg] using this
    | false =>
      refine PairsSeeing_same A0 c0 l [] false w hl (by simp) (by simp) (by simp [RMarksSS.tot]) h0 hc0 (fun A c W h hc => ?_) (fun A c W h hc => HPairs.impl_no A c l hg W h hc)
      have := HPairs.spec_calls A c l hl W h hc
      simpa [hg] using this
  · exact PairsSeeing_long A0 c0 l w (by omega) (by unfold maxLen at hm; omega)
end Go.Proofs.Ytleacijhpkogpac.HLaw
