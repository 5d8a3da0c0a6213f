/- The law on who rises (FnHeightsRiseOfAll): the whole walk. -/
import Derived.Test.YtleacijhpkogpacHBigT4
import Derived.Test.YtleacijhpkogpacHBigT8
import Derived.Deep.DeepCutAuto
import Derived.Deep.CutRange
import Derived.Lib.OthersKept
import Derived.Deep.QuietTactic
import Derived.BigQuiet
import Derived.IntWalk
import Derived.Test.YtleacijhpkogpacHRiseP
import Derived.Test.YtleacijhpkogpacHLawVR
import Derived.Test.YtleacijhpkogpacHGood
import Derived.Test.YtleacijhpkogpacHSFL
import Derived.Test.YtleacijhpkogpacHLR
import Derived.Test.YtleacijhpkogpacHSpecF
import Derived.Test.YtleacijhpkogpacHCBS
set_option linter.unusedVariables false
set_option linter.unusedSimpArgs false
set_option maxHeartbeats 8000000
set_option maxRecDepth 1000000
namespace Go.Proofs.Ytleacijhpkogpac.HBigT
open Go.RowKit YtleacijhpkogpacW.PrintWords YtleacijhpkogpacW.PrintLast YtleacijhpkogpacW.PrintMore Part HImpl

theorem whole (l lr rk mi fi : List Int) (mo le di ct nu de : Int) (A0 : Option Addr) (c0 : Nat) (m lf bh k x y pp : Int) (g q1 q2 q3 : Bool) (w : World) (hC : Kd.C (Kd.int .i64) w A0 l.length l)
    (hiLR : ∀ W,Below w.heap.size w W → Calls Try.prog 41 #[.slice A0 l.length c0] W fun e w' => ∃ v,e = .returned (.tuple #[v,.bool g]) ∧ Kd.R (Kd.int .i64) 3 w' W.heap.size (fun _ => True) v lr ∧ Below W.heap.size W w')
    (hsLR : ∀ W,Below w.heap.size w W → Calls Try.prog 42 #[.slice A0 l.length c0] W fun e w' => ∃ v,e = .returned (.tuple #[v,.bool g]) ∧ Kd.R (Kd.int .i64) 3 w' W.heap.size (fun _ => True) v lr ∧ Below W.heap.size W w')
    (hiLM : ∀ W,Below w.heap.size w W → Calls Try.prog 43 #[.slice A0 l.length c0] W fun e w' => e = .returned (.tuple #[.int .i64 mo,.bool g]) ∧ Below W.heap.size W w')
    (hsLM : ∀ W,Below w.heap.size w W → Calls Try.prog 44 #[.slice A0 l.length c0] W fun e w' => e = .returned (.tuple #[.int .i64 mo,.bool g]) ∧ Below W.heap.size W w')
    (hiFL : ∀ W,Below w.heap.size w W → Calls Try.prog 45 #[.slice A0 l.length c0] W fun e w' => e = .returned (.tuple #[.int .i64 le,.bool g]) ∧ Below W.heap.size W w')
    (hsFL : ∀ W,Below w.heap.size w W → Calls Try.prog 46 #[.slice A0 l.length c0] W fun e w' => e = .returned (.tuple #[.int .i64 le,.bool g]) ∧ Below W.heap.size W w')
    (hiCD : ∀ W,Below w.heap.size w W → Calls Try.prog 47 #[.slice A0 l.length c0] W fun e w' => e = .returned (.tuple #[.int .i64 di,.bool g]) ∧ Below W.heap.size W w')
    (hsCD : ∀ W,Below w.heap.size w W → Calls Try.prog 48 #[.slice A0 l.length c0] W fun e w' => e = .returned (.tuple #[.int .i64 di,.bool g]) ∧ Below W.heap.size W w')
    (hiRK : ∀ W,Below w.heap.size w W → Calls Try.prog 49 #[.slice A0 l.length c0] W fun e w' => ∃ v,e = .returned (.tuple #[v,.bool g]) ∧ Kd.R (Kd.int .i64) 3 w' W.heap.size (fun _ => True) v rk ∧ Below W.heap.size W w')
    (hsRK : ∀ W,Below w.heap.size w W → Calls Try.prog 50 #[.slice A0 l.length c0] W fun e w' => ∃ v,e = .returned (.tuple #[v,.bool g]) ∧ Kd.R (Kd.int .i64) 3 w' W.heap.size (fun _ => True) v rk ∧ Below W.heap.size W w')
    (hiAH : ∀ W,Below w.heap.size w W → Calls Try.prog 31 #[.slice A0 l.length c0] W fun e w' => e = .returned (.bool g) ∧ Below W.heap.size W w')
    (hGG : g = true → ∃ (D : Nat) (Sm : Int),di = (D : Int) ∧ (l.length ≤ 40) ∧ (0 < lr.length) ∧ (lr.length ≤ 40) ∧ ((lr.length : Int) ≤ mo) ∧ (mo ≤ (l.length : Int)) ∧ (le = (l.length : Int) - mo) ∧ (rk.length = l.length) ∧ ((l.length : Int) * ((l.length : Int) - 1) = 2 * Sm) ∧ (0 ≤ Sm ∧ Sm ≤ 1000000) ∧ (lr.Pairwise (· < ·)) ∧ (rk.sum = Sm) ∧ (∀ x ∈ rk,0 ≤ x) ∧ (∀ i j : Nat,i + 1 = j → j < lr.length → ∃ a b : Nat,rd lr (i : Int) = (a : Int) ∧ rd lr (j : Int) = (b : Int) ∧ a < l.length ∧ b < l.length ∧ rd l (a : Int) < rd l (b : Int)) ∧ (HDis.disL rk = D) ∧ (D ≤ 1000000) ∧ (∀ i : Nat,i < rk.length → 0 ≤ rd rk (i : Int) ∧ rd rk (i : Int) < (l.length : Int)) ∧ (∀ i j : Nat,i < j → j < rk.length → rd rk (i : Int) ≠ rd rk (j : Int)) ∧ (∀ W,Below w.heap.size w W → Calls Try.prog 27 #[.slice A0 l.length c0] W fun e w' => ∃ v,e = .returned (.tuple #[v,.bool true]) ∧ Kd.R (Kd.int .i64) 3 w' W.heap.size (fun _ => True) v mi ∧ Below W.heap.size W w') ∧ (∀ (A : Option Addr) (c : Nat) (W : World),Kd.C (Kd.int .i64) W A mi.length mi → mi.length ≤ c → Calls Try.prog 43 #[.slice A mi.length c] W fun e w' => e = .returned (.tuple #[.int .i64 mo,.bool true]) ∧ Below W.heap.size W w'))
    (hHLEN : lr.length ≤ 1048576 ∧ rk.length ≤ 1048576)
    (hHLC : l.length ≤ c0)
    (hiCB : ∀ W,Below w.heap.size w W → Calls Try.prog 9 #[.int .i64 m,.int .i64 lf,.int .i64 bh] W fun e w' => e = .returned (.tuple #[.int .i64 ct,.bool q1]) ∧ Below W.heap.size W w')
    (hsCB : ∀ W,Below w.heap.size w W → Calls Try.prog 8 #[.int .i64 m,.int .i64 lf,.int .i64 bh] W fun e w' => e = .returned (.tuple #[.int .i64 ct,.bool q1]) ∧ Below W.heap.size W w')
    (hiFB : ∀ W,Below w.heap.size w W → Calls Try.prog 19 #[.int .i64 k,.int .i64 x,.int .i64 y] W fun e w' => ∃ v,e = .returned (.tuple #[v,.bool q2]) ∧ Kd.R (Kd.int .i64) 3 w' W.heap.size (fun _ => True) v fi ∧ Below W.heap.size W w')
    (hsFB : ∀ W,Below w.heap.size w W → Calls Try.prog 18 #[.int .i64 k,.int .i64 x,.int .i64 y] W fun e w' => ∃ v,e = .returned (.tuple #[v,.bool q2]) ∧ Kd.R (Kd.int .i64) 3 w' W.heap.size (fun _ => True) v fi ∧ Below W.heap.size W w')
    (hiMS : ∀ W,Below w.heap.size w W → Calls Try.prog 52 #[.int .i64 pp] W fun e w' => e = .returned (.tuple #[.int .i64 nu,.int .i64 de,.bool q3]) ∧ Drawn0 W w')
    (hsMS : ∀ W,Below w.heap.size w W → Calls Try.prog 53 #[.int .i64 pp] W fun e w' => e = .returned (.tuple #[.int .i64 nu,.int .i64 de,.bool q3]) ∧ Drawn0 W w')
    (hNB : q1 = true → ∀ W,Below w.heap.size w W → Calls Try.prog 9 #[.int .i64 m,.int .i64 bh,.int .i64 lf] W fun e w' => e = .returned (.tuple #[.int .i64 ct,.bool true]) ∧ Drawn0 W w')
    (hEB : q2 = true → ∃ (sl sr : List Int) (mn : Int),k = (fi.length : Int) ∧ x = (sl.length : Int) ∧ y = (sr.length : Int) ∧ 1 ≤ mn ∧ (∀ (A : Option Addr) (c : Nat) (W : World),Kd.C (Kd.int .i64) W A fi.length fi → fi.length ≤ c → Calls Try.prog 21 #[.slice A fi.length c] W fun e w' => ∃ v,e = .returned (.tuple #[v,.bool true]) ∧ Kd.R (Kd.int .i64) 3 w' W.heap.size (fun _ => True) v sl ∧ Below W.heap.size W w') ∧ (∀ (A : Option Addr) (c : Nat) (W : World),Kd.C (Kd.int .i64) W A fi.length fi → fi.length ≤ c → Calls Try.prog 22 #[.slice A fi.length c] W fun e w' => ∃ v,e = .returned (.tuple #[v,.bool true]) ∧ Kd.R (Kd.int .i64) 3 w' W.heap.size (fun _ => True) v sr ∧ Below W.heap.size W w') ∧ (∀ W,Below w.heap.size w W → Calls Try.prog 9 #[.int .i64 (fi.length : Int),.int .i64 (sl.length : Int),.int .i64 (sr.length : Int)] W fun e w' => e = .returned (.tuple #[.int .i64 mn,.bool true]) ∧ Drawn0 W w'))
    (hMB : q3 = true → ∃ p n N D : Nat,pp = (p : Int) ∧ nu = (N : Int) ∧ de = (D : Int) ∧ p = n + 1 ∧ n ≤ 14 ∧ (∀ i : Nat,i ≤ 14 → HRiseQ.allS i ≤ 1307674368000) ∧ (∀ i j : Nat,i ≤ p → j ≤ p → ∀ W,Below w.heap.size w W → Calls Try.prog 9 #[.int .i64 (p : Int),.int .i64 (i : Int),.int .i64 (j : Int)] W fun e w' => e = .returned (.tuple #[.int .i64 (HPlain.seenC n i j : Int),.bool true]) ∧ Drawn0 W w') ∧ (∀ i j : Nat,i ≤ p → j ≤ p → HRiseP.sm (HRiseQ.rowS n) i + HRiseP.sm (fun j => HPlain.seenC n i j) (j + 1) ≤ 100000000000000 ∧ HRiseP.sm (fun i => i * HRiseQ.rowS n i) i + i * HRiseP.sm (fun j => HPlain.seenC n i j) (j + 1) ≤ 100000000000000) ∧ (1 ≤ D ∧ HRiseQ.allS n % D = 0 ∧ HRiseQ.allW n = HRiseQ.allS n / D * N ∧ HRiseQ.allS n ≤ 1307674368000 ∧ HRiseQ.allW n ≤ 100000000000000))
    (hFL : fi.length ≤ 1048576)
    : Calls Try.prog 7 #[.slice A0 l.length c0,.int .i64 m,.int .i64 lf,.int .i64 bh,.int .i64 k,.int .i64 x,.int .i64 y,.int .i64 pp] w fun e w' => e = .returned (.bool true) ∧ Below w.heap.size w w' := by
  have HC := Aside0.mk hC
  have iLR := Aside0.mk hiLR
  have sLR := Aside0.mk hsLR
  have iLM := Aside0.mk hiLM
  have sLM := Aside0.mk hsLM
  have iFL := Aside0.mk hiFL
  have sFL := Aside0.mk hsFL
  have iCD := Aside0.mk hiCD
  have sCD := Aside0.mk hsCD
  have iRK := Aside0.mk hiRK
  have sRK := Aside0.mk hsRK
  have iAH := Aside0.mk hiAH
  have GG := Aside0.mk hGG
  have HLEN := Aside0.mk hHLEN
  have HLC := Aside0.mk hHLC
  have iCB := Aside0.mk hiCB
  have sCB := Aside0.mk hsCB
  have iFB := Aside0.mk hiFB
  have sFB := Aside0.mk hsFB
  have iMS := Aside0.mk hiMS
  have sMS := Aside0.mk hsMS
  have NB := Aside0.mk hNB
  have EB := Aside0.mk hEB
  have MB := Aside0.mk hMB
  have FL := Aside0.mk hFL
  clear hC hiLR hsLR hiLM hsLM hiFL hsFL hiCD hsCD hiRK hsRK hiAH hGG hHLEN hHLC hiCB hsCB hiFB hsFB hiMS hsMS hNB hEB hMB hFL
  have HBW := Aside0.mk (Below.refl w.heap.size w)
  have HB := Aside0.mk (Below.refl w.heap.size w)
  go_enter Try.func7,Try.ntmps7
  cases d1 : decide ((10000 : Int) < (l.length : Int)) with
  | true =>
    go_wp2_with fail
    go_ret
    exact ⟨rfl,(by repeat first|(with_reducible first|exact HB.out|apply below_alloc|apply pw_below_drewN|apply below_drew1)|exact HB.out)⟩
  | false =>
  go_upto_region 3 with fail
  clear d1
  go_wp2_with fail
  refine (iLR.out _ (below_step HBW.out (by repeat first|(with_reducible first|exact HB.out|apply below_alloc|apply pw_below_drewN|apply below_drew1)|exact HB.out))).mono ?_
  rintro e wd1 ⟨vd1,rfl,ho,hb⟩
  obtain ⟨A1,k1,rfl,hlc,hC⟩ := Kd.R_reads ho
  have HC1 := Aside0.mk hC
  have HL1 := Aside0.mk hlc
  have HW1 := Aside0.mk hb
  have HBn := Aside0.mk (below_step (by repeat first|(with_reducible first|exact HB.out|apply below_alloc|apply pw_below_drewN|apply below_drew1)|exact HB.out) hb); clear hb HB; have HB := HBn; clear HBn; try dsimp only
  clear ho hlc hC
  go_wp2_with fail
  refine (sLR.out _ (below_step HBW.out (by repeat first|(with_reducible first|exact HB.out|apply below_alloc|apply pw_below_drewN|apply below_drew1)|exact HB.out))).mono ?_
  rintro e wd2 ⟨vd2,rfl,ho,hb⟩
  obtain ⟨A2,k2,rfl,hlc,hC⟩ := Kd.R_reads ho
  have HC2 := Aside0.mk hC
  have HL2 := Aside0.mk hlc
  have HW2 := Aside0.mk hb
  have HBn := Aside0.mk (below_step (by repeat first|(with_reducible first|exact HB.out|apply below_alloc|apply pw_below_drewN|apply below_drew1)|exact HB.out) hb); clear hb HB; have HB := HBn; clear HBn; try dsimp only
  clear ho hlc hC
  go_wp2_with fail
  refine (iLM.out _ (below_step HBW.out (by repeat first|(with_reducible first|exact HB.out|apply below_alloc|apply pw_below_drewN|apply below_drew1)|exact HB.out))).mono ?_
  rintro e wd3 ⟨rfl,hb⟩
  have HW3 := Aside0.mk hb
  have HBn := Aside0.mk (below_step (by repeat first|(with_reducible first|exact HB.out|apply below_alloc|apply pw_below_drewN|apply below_drew1)|exact HB.out) hb); clear hb HB; have HB := HBn; clear HBn; try dsimp only
  go_wp2_with fail
  refine (sLM.out _ (below_step HBW.out (by repeat first|(with_reducible first|exact HB.out|apply below_alloc|apply pw_below_drewN|apply below_drew1)|exact HB.out))).mono ?_
  rintro e wd4 ⟨rfl,hb⟩
  have HW4 := Aside0.mk hb
  have HBn := Aside0.mk (below_step (by repeat first|(with_reducible first|exact HB.out|apply below_alloc|apply pw_below_drewN|apply below_drew1)|exact HB.out) hb); clear hb HB; have HB := HBn; clear HBn; try dsimp only
  go_wp2_with fail
  refine (iFL.out _ (below_step HBW.out (by repeat first|(with_reducible first|exact HB.out|apply below_alloc|apply pw_below_drewN|apply below_drew1)|exact HB.out))).mono ?_
  rintro e wd5 ⟨rfl,hb⟩
  have HW5 := Aside0.mk hb
  have HBn := Aside0.mk (below_step (by repeat first|(with_reducible first|exact HB.out|apply below_alloc|apply pw_below_drewN|apply below_drew1)|exact HB.out) hb); clear hb HB; have HB := HBn; clear HBn; try dsimp only
  go_wp2_with fail
  refine (sFL.out _ (below_step HBW.out (by repeat first|(with_reducible first|exact HB.out|apply below_alloc|apply pw_below_drewN|apply below_drew1)|exact HB.out))).mono ?_
  rintro e wd6 ⟨rfl,hb⟩
  have HW6 := Aside0.mk hb
  have HBn := Aside0.mk (below_step (by repeat first|(with_reducible first|exact HB.out|apply below_alloc|apply pw_below_drewN|apply below_drew1)|exact HB.out) hb); clear hb HB; have HB := HBn; clear HBn; try dsimp only
  go_wp2_with fail
  refine (iCD.out _ (below_step HBW.out (by repeat first|(with_reducible first|exact HB.out|apply below_alloc|apply pw_below_drewN|apply below_drew1)|exact HB.out))).mono ?_
  rintro e wd7 ⟨rfl,hb⟩
  have HW7 := Aside0.mk hb
  have HBn := Aside0.mk (below_step (by repeat first|(with_reducible first|exact HB.out|apply below_alloc|apply pw_below_drewN|apply below_drew1)|exact HB.out) hb); clear hb HB; have HB := HBn; clear HBn; try dsimp only
  go_wp2_with fail
  refine (sCD.out _ (below_step HBW.out (by repeat first|(with_reducible first|exact HB.out|apply below_alloc|apply pw_below_drewN|apply below_drew1)|exact HB.out))).mono ?_
  rintro e wd8 ⟨rfl,hb⟩
  have HW8 := Aside0.mk hb
  have HBn := Aside0.mk (below_step (by repeat first|(with_reducible first|exact HB.out|apply below_alloc|apply pw_below_drewN|apply below_drew1)|exact HB.out) hb); clear hb HB; have HB := HBn; clear HBn; try dsimp only
  go_wp2_with fail
  refine (iRK.out _ (below_step HBW.out (by repeat first|(with_reducible first|exact HB.out|apply below_alloc|apply pw_below_drewN|apply below_drew1)|exact HB.out))).mono ?_
  rintro e wd9 ⟨vd9,rfl,ho,hb⟩
  obtain ⟨A9,k9,rfl,hlc,hC⟩ := Kd.R_reads ho
  have HC9 := Aside0.mk hC
  have HL9 := Aside0.mk hlc
  have HW9 := Aside0.mk hb
  have HBn := Aside0.mk (below_step (by repeat first|(with_reducible first|exact HB.out|apply below_alloc|apply pw_below_drewN|apply below_drew1)|exact HB.out) hb); clear hb HB; have HB := HBn; clear HBn; try dsimp only
  clear ho hlc hC
  go_wp2_with fail
  refine (sRK.out _ (below_step HBW.out (by repeat first|(with_reducible first|exact HB.out|apply below_alloc|apply pw_below_drewN|apply below_drew1)|exact HB.out))).mono ?_
  rintro e wd10 ⟨vd10,rfl,ho,hb⟩
  obtain ⟨A10,k10,rfl,hlc,hC⟩ := Kd.R_reads ho
  have HC10 := Aside0.mk hC
  have HL10 := Aside0.mk hlc
  have HW10 := Aside0.mk hb
  have HBn := Aside0.mk (below_step (by repeat first|(with_reducible first|exact HB.out|apply below_alloc|apply pw_below_drewN|apply below_drew1)|exact HB.out) hb); clear hb HB; have HB := HBn; clear HBn; try dsimp only
  clear ho hlc hC
  clear HBW
  have HBW := HB
  clear HB
  have HB := Aside0.mk (Below.refl wd10.heap.size wd10)
  have HD1 := Aside0.mk ((Kd.C_below (Kd.C_below (Kd.C_below (Kd.C_below (Kd.C_below (Kd.C_below (Kd.C_below (Kd.C_below (Kd.C_below HC1.out HW2.out) HW3.out) HW4.out) HW5.out) HW6.out) HW7.out) HW8.out) HW9.out) HW10.out))
  have HD2 := Aside0.mk ((Kd.C_below (Kd.C_below (Kd.C_below (Kd.C_below (Kd.C_below (Kd.C_below (Kd.C_below (Kd.C_below HC2.out HW3.out) HW4.out) HW5.out) HW6.out) HW7.out) HW8.out) HW9.out) HW10.out))
  have HD9 := Aside0.mk ((Kd.C_below HC9.out HW10.out))
  have HD10 := Aside0.mk (HC10.out)
  clear HC1 HC2 HC9 HC10 HW2 HW3 HW4 HW5 HW6 HW7 HW8 HW9 HW10
  have S0 := Aside0.mk (fun W (hb : Below wd10.heap.size wd10 W) => HLawV.same_yes A1 k1 A2 k2 lr HLEN.out.1 W (Kd.C_below HD1.out hb) HL1.out (Kd.C_below HD2.out hb) HL2.out)
  have S1 := Aside0.mk (fun W (hb : Below wd10.heap.size wd10 W) => HLawV.same_yes A9 k9 A10 k10 rk HLEN.out.2 W (Kd.C_below HD9.out hb) HL9.out (Kd.C_below HD10.out hb) HL10.out)
  have I1 := Aside0.mk (fun W (hb : Below wd10.heap.size wd10 W) => iAH.out W (below_step HBW.out hb))
  go_upto_region 13 with fail
  refine part13 l A0 c0 g mo le di wd10 _ ⟨(by repeat first|(with_reducible first|exact HB.out|apply below_alloc|apply pw_below_drewN|apply below_drew1)|exact HB.out)⟩ S0 S1 I1 _ _ ?_
  intro u131 u132 u133 u134 u135 u136 u137 u138 u139 u140 u141 u142 u143 u144 u145 u146 u147 u148 u149 u150 u151 u152 u153 u154 u155 u156 u157 u158 u159 u160 u161 u162 u163 u164 u165 u166 u167 u168 u169 u170 u171 u172 u173 u174 u175 u176 u177 u178 u179 u180 u181 u182 u183 u184 u185 u186 u187 u188 u189 u190 u191 u192 u193 u194 u195 u196 u197 u198 u199 u200 u201 u202 u203 u204 u205 u206 w13 h206 hb
  subst h206; clear HB; have HB := hb; clear hb S0 S1 I1
  refine (by assumption : ∀ (a : Act) (w : World),Code.wp _ _ _ a w → _) _ _ ?_
  go_upto_if 206 with fail
  try simp only [List.append]
  go_cut [] from 207 to 207 (fun wx => Aside0 (Below wd10.heap.size wd10 wx))
  case first =>
    go_wp2_with fail
    go_meet
    case rel => exact ⟨(by repeat first|(with_reducible first|exact HB.out|apply below_alloc|apply pw_below_drewN|apply below_drew1)|exact HB.out)⟩
  case rest =>
  clear HB
  have HB := hcut
  clear hcut
  cases g with
  | false =>
    refine (by assumption : ∀ (a : Act) (w : World),Code.wp _ _ _ a w → _) _ _ ?_
    go_upto_if 207 with fail
    refine partA_no wd10 _ ⟨(by repeat first|(with_reducible first|exact HB.out|apply below_alloc|apply pw_below_drewN|apply below_drew1)|exact HB.out)⟩ _ _ ?_
    intro u16 u37 u38 u39 u40 u41 u42 u43 u44 u45 u46 u47 u208 u209 u210 u211 u212 u213 u214 u215 u216 u217 u218 u219 u220 u221 u222 u223 u224 u225 u226 u227 u228 u229 u230 u231 u232 u233 u234 u235 u236 u237 u238 u239 u240 u241 u242 u243 u244 u245 u246 u247 u248 u249 u250 u251 u252 u253 u254 u255 u256 u257 u258 u259 u260 u261 u262 u263 u264 u265 u266 u267 u268 u269 u270 u271 u272 u273 u274 u275 u276 u277 u278 u279 u280 u281 u282 u283 u284 u285 u286 u287 u288 u289 u290 u291 u292 u293 u294 u295 u296 u297 u298 u299 u300 u301 u302 u303 u304 u305 u306 u307 u308 u309 u310 u311 u312 u313 u314 u315 u316 u317 u318 u319 u320 u321 u322 u323 u324 u325 u326 u327 u328 u329 u330 u331 u332 u333 u334 w22  hb
    clear HB; have HB := hb; clear hb
    refine (by assumption : ∀ (a : Act) (w : World),Code.wp _ _ _ a w → _) _ _ ?_
    have HBx := Aside0.mk (below_step HBW.out (by repeat first|(with_reducible first|exact HB.out|apply below_alloc|apply pw_below_drewN|apply below_drew1)|exact HB.out))
    have EBX : q2 = true → ∃ (sl sr : List Int) (mn : Int),k = (fi.length : Int) ∧ x = (sl.length : Int) ∧ y = (sr.length : Int) ∧ 1 ≤ mn ∧ (∀ (A : Option Addr) (c : Nat) (W : World),Kd.C (Kd.int .i64) W A fi.length fi → fi.length ≤ c → Calls Try.prog 21 #[.slice A fi.length c] W fun e w' => ∃ v,e = .returned (.tuple #[v,.bool true]) ∧ Kd.R (Kd.int .i64) 3 w' W.heap.size (fun _ => True) v sl ∧ Below W.heap.size W w') ∧ (∀ (A : Option Addr) (c : Nat) (W : World),Kd.C (Kd.int .i64) W A fi.length fi → fi.length ≤ c → Calls Try.prog 22 #[.slice A fi.length c] W fun e w' => ∃ v,e = .returned (.tuple #[v,.bool true]) ∧ Kd.R (Kd.int .i64) 3 w' W.heap.size (fun _ => True) v sr ∧ Below W.heap.size W w') ∧ (∀ W,Below w22.heap.size w22 W → Calls Try.prog 9 #[.int .i64 (fi.length : Int),.int .i64 (sl.length : Int),.int .i64 (sr.length : Int)] W fun e w' => e = .returned (.tuple #[.int .i64 mn,.bool true]) ∧ Drawn0 W w') := fun h => by
      obtain ⟨sl,sr,mn,g1,g2,g3,g4,g5,g6,g7⟩ := EB.out h
      exact ⟨sl,sr,mn,g1,g2,g3,g4,g5,g6,fun W hb => g7 W (below_step HBx.out hb)⟩
    have MBX : q3 = true → ∃ p n N D : Nat,pp = (p : Int) ∧ nu = (N : Int) ∧ de = (D : Int) ∧ p = n + 1 ∧ n ≤ 14 ∧ (∀ i : Nat,i ≤ 14 → HRiseQ.allS i ≤ 1307674368000) ∧ (∀ i j : Nat,i ≤ p → j ≤ p → ∀ W,Below w22.heap.size w22 W → Calls Try.prog 9 #[.int .i64 (p : Int),.int .i64 (i : Int),.int .i64 (j : Int)] W fun e w' => e = .returned (.tuple #[.int .i64 (HPlain.seenC n i j : Int),.bool true]) ∧ Drawn0 W w') ∧ (∀ i j : Nat,i ≤ p → j ≤ p → HRiseP.sm (HRiseQ.rowS n) i + HRiseP.sm (fun j => HPlain.seenC n i j) (j + 1) ≤ 100000000000000 ∧ HRiseP.sm (fun i => i * HRiseQ.rowS n i) i + i * HRiseP.sm (fun j => HPlain.seenC n i j) (j + 1) ≤ 100000000000000) ∧ (1 ≤ D ∧ HRiseQ.allS n % D = 0 ∧ HRiseQ.allW n = HRiseQ.allS n / D * N ∧ HRiseQ.allS n ≤ 1307674368000 ∧ HRiseQ.allW n ≤ 100000000000000) := fun h => by
      obtain ⟨p,n,N,D,g1,g2,g3,g4,g5,g6,g7,g8,g9⟩ := MB.out h
      exact ⟨p,n,N,D,g1,g2,g3,g4,g5,g6,fun i j hi hj W hb => g7 i j hi hj W (below_step HBx.out hb),g8,g9⟩
    exact tail fi ct nu de m lf bh k x y pp q1 q2 q3 w w22 HBx _ ⟨Below.refl _ _⟩ (fun W hb => iCB.out W (below_step HBx.out hb)) (fun W hb => sCB.out W (below_step HBx.out hb)) (fun W hb => iFB.out W (below_step HBx.out hb)) (fun W hb => sFB.out W (below_step HBx.out hb)) (fun W hb => iMS.out W (below_step HBx.out hb)) (fun W hb => sMS.out W (below_step HBx.out hb)) (fun h W hb => NB.out h W (below_step HBx.out hb)) EBX MBX FL.out
  | true =>
    obtain ⟨D,Sm,rfl,q0,q1,q2,q3,q4,q5,q6,q7,q8,q9,q10,q11,q12,q13,q14,q15,q16,qc1,qc2⟩ := GG.out rfl
    clear GG
    have qcc1 := fun W (h : Below wd10.heap.size wd10 W) => qc1 W (below_step HBW.out h)
    refine (by assumption : ∀ (a : Act) (w : World),Code.wp _ _ _ a w → _) _ _ ?_
    go_upto_if 207 with fail
    refine partA l lr rk mi D mo le Sm A0 A1 A9 c0 k1 k9 wd10 _ ⟨(by repeat first|(with_reducible first|exact HB.out|apply below_alloc|apply pw_below_drewN|apply below_drew1)|exact HB.out)⟩ ⟨q0⟩ ⟨q1⟩ ⟨q2⟩ ⟨q3⟩ ⟨q4⟩ ⟨q5⟩ ⟨q6⟩ ⟨q7⟩ ⟨q8⟩ ⟨q9⟩ ⟨q10⟩ ⟨q11⟩ ⟨q12⟩ ⟨q13⟩ ⟨q14⟩ ⟨q15⟩ ⟨q16⟩ ⟨Kd.C_below HC.out HBW.out⟩ HLC HD1 HL1 HD9 HL9 ⟨qcc1⟩ ⟨qc2⟩ _ _ ?_
    clear q0 q1 q2 q3 q4 q5 q6 q7 q8 q9 q10 q11 q12 q13 q14 q15 q16 qc1 qc2 qcc1
    intro u16 u37 u38 u39 u40 u41 u42 u43 u44 u45 u46 u47 u208 u209 u210 u211 u212 u213 u214 u215 u216 u217 u218 u219 u220 u221 u222 u223 u224 u225 u226 u227 u228 u229 u230 u231 u232 u233 u234 u235 u236 u237 u238 u239 u240 u241 u242 u243 u244 u245 u246 u247 u248 u249 u250 u251 u252 u253 u254 u255 u256 u257 u258 u259 u260 u261 u262 u263 u264 u265 u266 u267 u268 u269 u270 u271 u272 u273 u274 u275 u276 u277 u278 u279 u280 u281 u282 u283 u284 u285 u286 u287 u288 u289 u290 u291 u292 u293 u294 u295 u296 u297 u298 u299 u300 u301 u302 u303 u304 u305 u306 u307 u308 u309 u310 u311 u312 u313 u314 u315 u316 u317 u318 u319 u320 u321 u322 u323 u324 u325 u326 u327 u328 u329 u330 u331 u332 u333 u334 w22 hb
    clear HB; have HB := hb; clear hb
    refine (by assumption : ∀ (a : Act) (w : World),Code.wp _ _ _ a w → _) _ _ ?_
    have HBx := Aside0.mk (below_step HBW.out (by repeat first|(with_reducible first|exact HB.out|apply below_alloc|apply pw_below_drewN|apply below_drew1)|exact HB.out))
    have EBX : q2 = true → ∃ (sl sr : List Int) (mn : Int),k = (fi.length : Int) ∧ x = (sl.length : Int) ∧ y = (sr.length : Int) ∧ 1 ≤ mn ∧ (∀ (A : Option Addr) (c : Nat) (W : World),Kd.C (Kd.int .i64) W A fi.length fi → fi.length ≤ c → Calls Try.prog 21 #[.slice A fi.length c] W fun e w' => ∃ v,e = .returned (.tuple #[v,.bool true]) ∧ Kd.R (Kd.int .i64) 3 w' W.heap.size (fun _ => True) v sl ∧ Below W.heap.size W w') ∧ (∀ (A : Option Addr) (c : Nat) (W : World),Kd.C (Kd.int .i64) W A fi.length fi → fi.length ≤ c → Calls Try.prog 22 #[.slice A fi.length c] W fun e w' => ∃ v,e = .returned (.tuple #[v,.bool true]) ∧ Kd.R (Kd.int .i64) 3 w' W.heap.size (fun _ => True) v sr ∧ Below W.heap.size W w') ∧ (∀ W,Below w22.heap.size w22 W → Calls Try.prog 9 #[.int .i64 (fi.length : Int),.int .i64 (sl.length : Int),.int .i64 (sr.length : Int)] W fun e w' => e = .returned (.tuple #[.int .i64 mn,.bool true]) ∧ Drawn0 W w') := fun h => by
      obtain ⟨sl,sr,mn,g1,g2,g3,g4,g5,g6,g7⟩ := EB.out h
      exact ⟨sl,sr,mn,g1,g2,g3,g4,g5,g6,fun W hb => g7 W (below_step HBx.out hb)⟩
    have MBX : q3 = true → ∃ p n N D : Nat,pp = (p : Int) ∧ nu = (N : Int) ∧ de = (D : Int) ∧ p = n + 1 ∧ n ≤ 14 ∧ (∀ i : Nat,i ≤ 14 → HRiseQ.allS i ≤ 1307674368000) ∧ (∀ i j : Nat,i ≤ p → j ≤ p → ∀ W,Below w22.heap.size w22 W → Calls Try.prog 9 #[.int .i64 (p : Int),.int .i64 (i : Int),.int .i64 (j : Int)] W fun e w' => e = .returned (.tuple #[.int .i64 (HPlain.seenC n i j : Int),.bool true]) ∧ Drawn0 W w') ∧ (∀ i j : Nat,i ≤ p → j ≤ p → HRiseP.sm (HRiseQ.rowS n) i + HRiseP.sm (fun j => HPlain.seenC n i j) (j + 1) ≤ 100000000000000 ∧ HRiseP.sm (fun i => i * HRiseQ.rowS n i) i + i * HRiseP.sm (fun j => HPlain.seenC n i j) (j + 1) ≤ 100000000000000) ∧ (1 ≤ D ∧ HRiseQ.allS n % D = 0 ∧ HRiseQ.allW n = HRiseQ.allS n / D * N ∧ HRiseQ.allS n ≤ 1307674368000 ∧ HRiseQ.allW n ≤ 100000000000000) := fun h => by
      obtain ⟨p,n,N,D,g1,g2,g3,g4,g5,g6,g7,g8,g9⟩ := MB.out h
      exact ⟨p,n,N,D,g1,g2,g3,g4,g5,g6,fun i j hi hj W hb => g7 i j hi hj W (below_step HBx.out hb),g8,g9⟩
    exact tail fi ct nu de m lf bh k x y pp q1 q2 q3 w w22 HBx _ ⟨Below.refl _ _⟩ (fun W hb => iCB.out W (below_step HBx.out hb)) (fun W hb => sCB.out W (below_step HBx.out hb)) (fun W hb => iFB.out W (below_step HBx.out hb)) (fun W hb => sFB.out W (below_step HBx.out hb)) (fun W hb => iMS.out W (below_step HBx.out hb)) (fun W hb => sMS.out W (below_step HBx.out hb)) (fun h W hb => NB.out h W (below_step HBx.out hb)) EBX MBX FL.out
end Go.Proofs.Ytleacijhpkogpac.HBigT
/- What is known of heights that rise,of counts,of first orders,of means: for the laws on who rises. -/
namespace Go.Proofs.Ytleacijhpkogpac.HFactR
open Go.RowKit YtleacijhpkogpacW.PrintWords YtleacijhpkogpacW.PrintLast YtleacijhpkogpacW.PrintMore HImpl HRiseP

theorem good_rev (l : List Int) (h : good l = true) : good l.reverse = true := by
  unfold good at h ⊢
  simpa using h
theorem sum_take (l : List Int) : ∀ n,n ≤ l.length → (l.take n).sum = sumI l n
  | 0,_ => by simp [sumI]
  | n + 1,h => by
    rw [List.take_succ_eq_append_getElem (show n < l.length by omega),List.sum_append,sum_take l n (by omega),sumI,rd_get (show n < l.length by omega)]
    simp
theorem dis_le : ∀ t : List Int,HDis.disL t ≤ t.length * t.length
  | [] => by simp [HDis.disL]
  | h :: t => by
    have h1 := HDis.disR_le h t
    have h2 := dis_le t
    rw [HDis.disL,List.length_cons]
    have e : (t.length + 1) * (t.length + 1) = t.length * t.length + 2 * t.length + 1 := by simp only [Nat.add_mul,Nat.mul_add,Nat.one_mul,Nat.mul_one]; omega
    rw [e]; omega
theorem mul_40 (n : Nat) (h : n ≤ 40) : n * n ≤ 1600 := Nat.le_trans (Nat.mul_le_mul h h) (by decide)
theorem rise_facts (A0 : Option Addr) (c0 : Nat) (l : List Int) (hg : good l = true) (hLC : l.length ≤ c0) (w : World) (hC : Kd.C (Kd.int .i64) w A0 l.length l) (lr rk mi : List Int) (mo le di : Int) (hlr_ : HLR.longL l = lr) (hrk_ : HRank.ranksR l l 0 = rk) (hmi_ : l.reverse = mi) (hmo_ : HMtn.mtn l 0 l.length 0 = mo) (hle_ : (l.length : Int) - HMtn.mtn l 0 l.length 0 = le) (hdi_ : ((HDis.disL l : Nat) : Int) = di) :
    ∃ (D : Nat) (Sm : Int),di = (D : Int) ∧ (l.length ≤ 40) ∧ (0 < lr.length) ∧ (lr.length ≤ 40) ∧ ((lr.length : Int) ≤ mo) ∧ (mo ≤ (l.length : Int)) ∧ (le = (l.length : Int) - mo) ∧ (rk.length = l.length) ∧ ((l.length : Int) * ((l.length : Int) - 1) = 2 * Sm) ∧ (0 ≤ Sm ∧ Sm ≤ 1000000) ∧ (lr.Pairwise (· < ·)) ∧ (rk.sum = Sm) ∧ (∀ x ∈ rk,0 ≤ x) ∧ (∀ i j : Nat,i + 1 = j → j < lr.length → ∃ a b : Nat,rd lr (i : Int) = (a : Int) ∧ rd lr (j : Int) = (b : Int) ∧ a < l.length ∧ b < l.length ∧ rd l (a : Int) < rd l (b : Int)) ∧ (HDis.disL rk = D) ∧ (D ≤ 1000000) ∧ (∀ i : Nat,i < rk.length → 0 ≤ rd rk (i : Int) ∧ rd rk (i : Int) < (l.length : Int)) ∧ (∀ i j : Nat,i < j → j < rk.length → rd rk (i : Int) ≠ rd rk (j : Int)) ∧ (∀ W,Below w.heap.size w W → Calls Try.prog 27 #[.slice A0 l.length c0] W fun e w' => ∃ v,e = .returned (.tuple #[v,.bool true]) ∧ Kd.R (Kd.int .i64) 3 w' W.heap.size (fun _ => True) v mi ∧ Below W.heap.size W w') ∧ (∀ (A : Option Addr) (c : Nat) (W : World),Kd.C (Kd.int .i64) W A mi.length mi → mi.length ≤ c → Calls Try.prog 43 #[.slice A mi.length c] W fun e w' => e = .returned (.tuple #[.int .i64 mo,.bool true]) ∧ Below W.heap.size W w') := by
  have hl := good_len hg
  have hp : ∀ x ∈ l,1 ≤ x := fun x hx => (good_mem hg x hx).1
  have hls := long_some l hl.1 hp
  have hll : (HLR.longL l).length ≤ l.length := HLR.pick_len l _ _ _ _ _
  have hlm := long_mtn l
  have hmr := HMtn.mtn_range l l.length 0 0 (by omega) (by omega) (by omega)
  have hkl : (HRank.ranksR l l 0).length = l.length := rksL_len l
  have hrt := rks_total l
  have hmm := mul_40 l.length hl.2
  have hpr := pick_rise l (HLR.risL l) l.length 0 (HMax.maxL (HLR.risL l) 0) 0
  have hpm := pick_mem l (HLR.risL l) l.length 0 (HMax.maxL (HLR.risL l) 0) 0
  change (HLR.longL l).Pairwise _ at hpr
  change ∀ x,x ∈ HLR.longL l → _ at hpm
  have hks : (HRank.ranksR l l 0).sum = (sm (HRiseP.rk l) l.length : Int) := by
    have h1 := sum_take (rksL l) (rksL l).length (Nat.le_refl _)
    rw [List.take_length,rksL_len,rks_sum l l.length (Nat.le_refl _)] at h1
    exact h1
  have hd := dis_le l
  have hgr := good_rev l hg
  subst hlr_ hrk_ hmi_ hmo_ hle_ hdi_
  refine ⟨HDis.disL l,(sm (HRiseP.rk l) l.length : Int),rfl,hl.2,List.length_pos_iff.2 hls,by omega,hlm,hmr.2,rfl,hkl,?_,⟨by omega,by omega⟩,hpr.imp (fun h => h.1),hks,fun x hx => ?_,fun i j hij hj => ?_,rks_dis l,by omega,fun i hi => ?_,fun i j hij hj => ?_,fun W hb => ?_,fun A c W hC hc => ?_⟩
  · have e : (l.length : Int) * ((l.length : Int) - 1) = ((l.length * l.length : Nat) : Int) - (l.length : Int) := by
      rw [Int.mul_sub,Int.mul_one,Int.natCast_mul]
    rw [e]; omega
  · obtain ⟨k,hk,e⟩ := List.mem_iff_getElem.1 hx
    have h2 := rksL_rd l k (by omega)
    rw [rd_get (show k < (rksL l).length from hk)] at h2
    have h3 : (rksL l)[k]'(show k < (rksL l).length from hk) = x := e
    omega
  · have hi : i < (HLR.longL l).length := by omega
    have h2 := List.pairwise_iff_getElem.1 hpr i j hi hj (by omega)
    obtain ⟨a,ea,_,ha,_⟩ := hpm _ (List.getElem_mem hi)
    obtain ⟨b,eb,_,hb,_⟩ := hpm _ (List.getElem_mem hj)
    refine ⟨a,b,by rw [rd_get hi,ea],by rw [rd_get hj,eb],by omega,by omega,?_⟩
    rw [ea,eb] at h2
    exact h2.2
  · rw [hkl] at hi
    have h2 := rksL_rd l i hi
    have h3 := rk_bd l i hi
    change rd (HRank.ranksR l l 0) (i : Int) = _ at h2
    rw [h2]; omega
  · rw [hkl] at hj
    have h2 := rksL_rd l i (by omega)
    have h3 := rksL_rd l j hj
    have h4 := rk_ne l i j (by omega) hj (by omega)
    change rd (HRank.ranksR l l 0) (i : Int) = _ at h2
    change rd (HRank.ranksR l l 0) (j : Int) = _ at h3
    rw [h2,h3]
    exact fun e => h4 (Int.ofNat.inj e)
  · have := HMir.impl_MirrorHeights A0 c0 l (by omega) W (Kd.C_below hC hb) hLC
    rw [hg] at this
    exact this
  · have := HMtn.impl_LongestMountain A c l.reverse (by rw [List.length_reverse]; omega) W hC hc
    rw [hgr,List.length_reverse] at this
    simp only [if_true] at this
    rw [mtn_rev l] at this
    rw [List.length_reverse]
    exact this
theorem count_pack (m lf bh : Int) (w : World) : ∃ (ct : Int) (q1 : Bool),(∀ W,Below w.heap.size w W → Calls Try.prog 9 #[.int .i64 m,.int .i64 lf,.int .i64 bh] W fun e w' => e = .returned (.tuple #[.int .i64 ct,.bool q1]) ∧ Below W.heap.size W w') ∧ (∀ W,Below w.heap.size w W → Calls Try.prog 8 #[.int .i64 m,.int .i64 lf,.int .i64 bh] W fun e w' => e = .returned (.tuple #[.int .i64 ct,.bool q1]) ∧ Below W.heap.size W w') ∧ (q1 = true → ∀ W,Below w.heap.size w W → Calls Try.prog 9 #[.int .i64 m,.int .i64 bh,.int .i64 lf] W fun e w' => e = .returned (.tuple #[.int .i64 ct,.bool true]) ∧ Drawn0 W w') := by
  cases h : HCBS.askB m lf bh with
  | true =>
    have h2 := of_decide_eq_true h
    obtain ⟨n,hn⟩ := Int.eq_ofNat_of_zero_le (show 0 ≤ m - 1 by omega)
    obtain rfl : m = ((n + 1 : Nat) : Int) := by omega
    obtain ⟨a,rfl⟩ := Int.eq_ofNat_of_zero_le h2.2.1.1
    obtain ⟨b,rfl⟩ := Int.eq_ofNat_of_zero_le h2.2.2.1
    refine ⟨(HPlain.seenC n a b : Int),true,fun W _ => (HCBS.impl_yes n a b (by omega) (by omega) (by omega) W).mono fun e w' h => ⟨h.1,h.2.below⟩,fun W _ => HCBS.spec_yes n a b (by omega) (by omega) (by omega) W,fun _ W _ => ?_⟩
    have := HCBS.impl_yes n b a (by omega) (by omega) (by omega) W
    rw [HRiseQ.seenC_sym n b a] at this
    exact this
  | false => exact ⟨0,false,fun W _ => (HCBS.impl_no m lf bh h W).mono fun e w' h => ⟨h.1,h.2.below⟩,fun W _ => HCBS.spec_no m lf bh h W,fun e => by cases e⟩
theorem first_pack (k x y : Int) (w : World) : ∃ (fi : List Int) (q2 : Bool),(∀ W,Below w.heap.size w W → Calls Try.prog 19 #[.int .i64 k,.int .i64 x,.int .i64 y] W fun e w' => ∃ v,e = .returned (.tuple #[v,.bool q2]) ∧ Kd.R (Kd.int .i64) 3 w' W.heap.size (fun _ => True) v fi ∧ Below W.heap.size W w') ∧ (∀ W,Below w.heap.size w W → Calls Try.prog 18 #[.int .i64 k,.int .i64 x,.int .i64 y] W fun e w' => ∃ v,e = .returned (.tuple #[v,.bool q2]) ∧ Kd.R (Kd.int .i64) 3 w' W.heap.size (fun _ => True) v fi ∧ Below W.heap.size W w') ∧ (q2 = true → ∃ (sl sr : List Int) (mn : Int),k = (fi.length : Int) ∧ x = (sl.length : Int) ∧ y = (sr.length : Int) ∧ 1 ≤ mn ∧ (∀ (A : Option Addr) (c : Nat) (W : World),Kd.C (Kd.int .i64) W A fi.length fi → fi.length ≤ c → Calls Try.prog 21 #[.slice A fi.length c] W fun e w' => ∃ v,e = .returned (.tuple #[v,.bool true]) ∧ Kd.R (Kd.int .i64) 3 w' W.heap.size (fun _ => True) v sl ∧ Below W.heap.size W w') ∧ (∀ (A : Option Addr) (c : Nat) (W : World),Kd.C (Kd.int .i64) W A fi.length fi → fi.length ≤ c → Calls Try.prog 22 #[.slice A fi.length c] W fun e w' => ∃ v,e = .returned (.tuple #[v,.bool true]) ∧ Kd.R (Kd.int .i64) 3 w' W.heap.size (fun _ => True) v sr ∧ Below W.heap.size W w') ∧ (∀ W,Below w.heap.size w W → Calls Try.prog 9 #[.int .i64 (fi.length : Int),.int .i64 (sl.length : Int),.int .i64 (sr.length : Int)] W fun e w' => e = .returned (.tuple #[.int .i64 mn,.bool true]) ∧ Drawn0 W w')) ∧ fi.length ≤ 1048576 := by
  refine ⟨(HFind.firstB k x y).getD [],(HFind.firstB k x y).isSome,fun W _ => HFind.impl_calls k x y W,fun W _ => HFind.spec_calls k x y W,fun h => ?_,Nat.le_trans (HFind.firstB_len k x y) (by decide)⟩
  obtain ⟨o,e⟩ := Option.isSome_iff_exists.1 h
  rw [e]
  show ∃ (sl sr : List Int) (mn : Int),k = (o.length : Int) ∧ _
  have ha : HFind.asked k x y := by
    unfold HFind.firstB at e
    split at e
    · rename_i c; exact c
    · cases e
  unfold HFind.firstB at e
  rw [if_pos ha] at e
  obtain ⟨⟨h1,h8⟩,⟨hx0,hx1⟩,⟨hy0,hy1⟩⟩ := ha
  obtain ⟨n,hn⟩ := Int.eq_ofNat_of_zero_le (show 0 ≤ k - 1 by omega)
  obtain rfl : k = ((n + 1 : Nat) : Int) := by omega
  rw [Int.toNat_natCast] at e
  have hlen := HFind.look_len (n + 1) x y (n + 1) [] (by simp) o e
  obtain ⟨hd,hb,hsx,hsy⟩ := HRiseQ.look_got (n + 1) x y (n + 1) [] o List.nodup_nil (by simp) e
  have hfc := HRiseQ.first_count o n hlen hd (fun z hz => (hb z hz).1)
  have hg : good o = true := by
    unfold good
    rw [hlen,decide_eq_true (show 1 ≤ n + 1 by omega),decide_eq_true (show n + 1 ≤ 40 by omega),Bool.true_and,Bool.true_and,List.all_eq_true]
    intro z hz
    have := hb z hz
    rw [Bool.and_eq_true,decide_eq_true_eq,decide_eq_true_eq]
    omega
  have hrl := HSeen.rightL_len o
  refine ⟨HSeen.seenR o 0 0,HSeen.rightL o,(HPlain.seenC n (HSeen.seenR o 0 0).length (HSeen.seenR o.reverse 0 0).length : Int),by rw [hlen],hsx.symm,by rw [hrl]; exact hsy.symm,by omega,fun A c W hC hc => ?_,fun A c W hC hc => ?_,fun W _ => ?_⟩
  · have := HSFL.impl_SeenFromLeft A c o (by omega) W hC hc
    rw [hg] at this
    exact this
  · have := HSFR.impl_SeenFromRight A c o (by omega) W hC hc
    rw [hg] at this
    exact this
  · have := HCBS.impl_yes n (HSeen.seenR o 0 0).length (HSeen.seenR o.reverse 0 0).length (by omega) (by omega) (by omega) W
    rw [Option.getD_some,hlen,hrl]
    exact this
theorem sm_mono (f : Nat → Nat) (a : Nat) : ∀ d,sm f a ≤ sm f (a + d)
  | 0 => Nat.le_refl _
  | d + 1 => Nat.le_trans (sm_mono f a d) (by rw [← Nat.add_assoc,sm]; omega)
theorem sm_up (f : Nat → Nat) (a b : Nat) (h : a ≤ b) : sm f a ≤ sm f b := by
  have := sm_mono f a (b - a)
  rwa [show a + (b - a) = b by omega] at this
theorem mean_facts (pp : Int) (w : World) : ∃ (nu de : Int) (q3 : Bool),(∀ W,Below w.heap.size w W → Calls Try.prog 52 #[.int .i64 pp] W fun e w' => e = .returned (.tuple #[.int .i64 nu,.int .i64 de,.bool q3]) ∧ Drawn0 W w') ∧ (∀ W,Below w.heap.size w W → Calls Try.prog 53 #[.int .i64 pp] W fun e w' => e = .returned (.tuple #[.int .i64 nu,.int .i64 de,.bool q3]) ∧ Drawn0 W w') ∧ (q3 = true → ∃ p n N D : Nat,pp = (p : Int) ∧ nu = (N : Int) ∧ de = (D : Int) ∧ p = n + 1 ∧ n ≤ 14 ∧ (∀ i : Nat,i ≤ 14 → HRiseQ.allS i ≤ 1307674368000) ∧ (∀ i j : Nat,i ≤ p → j ≤ p → ∀ W,Below w.heap.size w W → Calls Try.prog 9 #[.int .i64 (p : Int),.int .i64 (i : Int),.int .i64 (j : Int)] W fun e w' => e = .returned (.tuple #[.int .i64 (HPlain.seenC n i j : Int),.bool true]) ∧ Drawn0 W w') ∧ (∀ i j : Nat,i ≤ p → j ≤ p → HRiseP.sm (HRiseQ.rowS n) i + HRiseP.sm (fun j => HPlain.seenC n i j) (j + 1) ≤ 100000000000000 ∧ HRiseP.sm (fun i => i * HRiseQ.rowS n i) i + i * HRiseP.sm (fun j => HPlain.seenC n i j) (j + 1) ≤ 100000000000000) ∧ (1 ≤ D ∧ HRiseQ.allS n % D = 0 ∧ HRiseQ.allW n = HRiseQ.allS n / D * N ∧ HRiseQ.allS n ≤ 1307674368000 ∧ HRiseQ.allW n ≤ 100000000000000)) := by
  obtain ⟨nu,de,q3,h1,h2,h3⟩ := HMean.mean_pack pp w
  refine ⟨nu,de,q3,h1,h2,fun hq => ?_⟩
  obtain ⟨n,N,D,e1,e2,e3,e4,g1,g2,g3,g4,g5⟩ := h3 hq
  refine ⟨n + 1,n,N,D,e1,e3,e4,rfl,e2,fun i hi => ?_,fun i j hi hj W _ => HCBS.impl_yes n i j (by omega) (by omega) (by omega) W,fun i j hi hj => ?_,g1,g2,g3,g4,g5⟩
  · have := (HMean.tab_facts ⟨i,by omega⟩).2.2.2.1
    rw [HMean.allS_is]
    exact this
  · have a1 := sm_up (fun j => HPlain.seenC n i j) (j + 1) (n + 2) (by omega)
    have a2 : sm (HRiseQ.rowS n) i + HRiseQ.rowS n i = sm (HRiseQ.rowS n) (i + 1) := rfl
    have a3 := sm_up (HRiseQ.rowS n) (i + 1) (n + 2) (by omega)
    have a4 : sm (fun i => i * HRiseQ.rowS n i) i + i * HRiseQ.rowS n i = sm (fun i => i * HRiseQ.rowS n i) (i + 1) := rfl
    have a5 := sm_up (fun i => i * HRiseQ.rowS n i) (i + 1) (n + 2) (by omega)
    have a6 : sm (fun j => HPlain.seenC n i j) (n + 2) = HRiseQ.rowS n i := rfl
    have a7 : sm (HRiseQ.rowS n) (n + 2) = HRiseQ.allS n := rfl
    have a8 : sm (fun i => i * HRiseQ.rowS n i) (n + 2) = HRiseQ.allW n := rfl
    have a9 := Nat.mul_le_mul_left i a1
    rw [a6] at a1 a9
    rw [a7] at a3
    rw [a8] at a5
    exact ⟨by omega,by omega⟩
end Go.Proofs.Ytleacijhpkogpac.HFactR
/- The law on who rises (FnHeightsRiseOfAll): its walk,joined with what the functions that it calls tell. -/
namespace Go.Proofs.Ytleacijhpkogpac.HLaw
open Go.RowKit YtleacijhpkogpacW.PrintWords YtleacijhpkogpacW.PrintLast YtleacijhpkogpacW.PrintMore HImpl HFactR

theorem rise_long (A0 : Option Addr) (c0 : Nat) (l : List Int) (m lf bh k x y pp : Int) (w : World) (h : ¬ l.length ≤ 10000) :
    Calls Try.prog 7 #[.slice A0 l.length c0,.int .i64 m,.int .i64 lf,.int .i64 bh,.int .i64 k,.int .i64 x,.int .i64 y,.int .i64 pp] w fun e w' => e = .returned (.bool true) ∧ Below w.heap.size w w' := by
  have HB := Aside0.mk (Below.refl w.heap.size w)
  have d1 : decide ((10000 : Int) < (l.length : Int)) = true := decide_eq_true (by omega)
  clear h
  go_enter Try.func7,Try.ntmps7
  go_wp2_with fail
  go_ret
  exact ⟨rfl,(by repeat first|(with_reducible first|exact HB.out|apply below_alloc|apply pw_below_drewN|apply below_drew1)|exact HB.out)⟩
theorem HeightsRiseOfAll_walk (A0 : Option Addr) (c0 : Nat) (l : List Int) (m lf bh k x y pp : Int) (w : World)
    (hC : Kd.C (Kd.int .i64) w A0 l.length l) (hLC : l.length ≤ c0) (hm0 : l.length ≤ maxLen) {p1 p2 p3 p4 p5 p6 p7 : Prop} (_ : p1) (_ : p2) (_ : p3) (_ : p4) (_ : p5) (_ : p6) (_ : p7) :
    Calls Try.prog 7 #[.slice A0 l.length c0,.int .i64 m,.int .i64 lf,.int .i64 bh,.int .i64 k,.int .i64 x,.int .i64 y,.int .i64 pp] w fun e w' => e = .returned (.bool true) ∧ Below w.heap.size w w' := by
  by_cases hlen : l.length ≤ 10000
  · have hl1 : l.length ≤ 1048576 := by omega
    obtain ⟨ct,q1,iCB,sCB,NB⟩ := count_pack m lf bh w
    obtain ⟨fi,q2,iFB,sFB,EB,FL⟩ := first_pack k x y w
    obtain ⟨nu,de,q3,iMS,sMS,MB⟩ := mean_facts pp w
    cases hg : good l with
    | true =>
      have hgl := good_len hg
      have hll : (HLR.longL l).length ≤ l.length := HLR.pick_len l _ _ _ _ _
      have hkl : (HRank.ranksR l l 0).length = l.length := HRiseP.rksL_len l
      exact HBigT.whole l (HLR.longL l) (HRank.ranksR l l 0) l.reverse fi (HMtn.mtn l 0 l.length 0) ((l.length : Int) - HMtn.mtn l 0 l.length 0) ((HDis.disL l : Nat) : Int) ct nu de A0 c0 m lf bh k x y pp true q1 q2 q3 w hC
        (fun W hb => by have := HLR.impl_LongestRising A0 c0 l hl1 W (Kd.C_below hC hb) hLC; simp only [hg,if_true,Bool.false_eq_true,if_false] at this; exact this)
        (fun W hb => by have := HLR.spec_LongestRising A0 c0 l hl1 W (Kd.C_below hC hb) hLC; simp only [hg,if_true,Bool.false_eq_true,if_false] at this; exact this)
        (fun W hb => by have := HMtn.impl_LongestMountain A0 c0 l hl1 W (Kd.C_below hC hb) hLC; simp only [hg,if_true,Bool.false_eq_true,if_false] at this; exact this)
        (fun W hb => by have := HMtn.spec_LongestMountain A0 c0 l hl1 W (Kd.C_below hC hb) hLC; simp only [hg,if_true,Bool.false_eq_true,if_false] at this; exact this)
        (fun W hb => by have := HFew.impl_FewestToLeave A0 c0 l hl1 W (Kd.C_below hC hb) hLC; simp only [hg,if_true,Bool.false_eq_true,if_false] at this; exact this)
        (fun W hb => by have := HFew.spec_FewestToLeave A0 c0 l hl1 W (Kd.C_below hC hb) hLC; simp only [hg,if_true,Bool.false_eq_true,if_false] at this; exact this)
        (fun W hb => by have := HDis.impl_CountDisorder A0 c0 l hl1 W (Kd.C_below hC hb) hLC; simp only [hg,if_true,Bool.false_eq_true,if_false] at this; exact this)
        (fun W hb => by have := HDis.spec_CountDisorder A0 c0 l hl1 W (Kd.C_below hC hb) hLC; simp only [hg,if_true,Bool.false_eq_true,if_false] at this; exact this)
        (fun W hb => by have := HRank.impl_RanksOf A0 c0 l hl1 W (Kd.C_below hC hb) hLC; simp only [hg,if_true,Bool.false_eq_true,if_false] at this; exact this)
        (fun W hb => by have := HRank.spec_RanksOf A0 c0 l hl1 W (Kd.C_below hC hb) hLC; simp only [hg,if_true,Bool.false_eq_true,if_false] at this; exact this)
        (fun W hb => by have := HAH.impl_AreHeights A0 c0 l hl1 W (Kd.C_below hC hb) hLC; simp only [hg,if_true,Bool.false_eq_true,if_false] at this; exact this)
        (fun _ => rise_facts A0 c0 l hg hLC w hC _ _ _ _ _ _ rfl rfl rfl rfl rfl rfl) ⟨by omega,by omega⟩ hLC iCB sCB iFB sFB iMS sMS NB EB MB FL
    | false =>
      exact HBigT.whole l [] [] [] fi 0 0 0 ct nu de A0 c0 m lf bh k x y pp false q1 q2 q3 w hC
        (fun W hb => by have := HLR.impl_LongestRising A0 c0 l hl1 W (Kd.C_below hC hb) hLC; simp only [hg,if_true,Bool.false_eq_true,if_false] at this; exact this)
        (fun W hb => by have := HLR.spec_LongestRising A0 c0 l hl1 W (Kd.C_below hC hb) hLC; simp only [hg,if_true,Bool.false_eq_true,if_false] at this; exact this)
        (fun W hb => by have := HMtn.impl_LongestMountain A0 c0 l hl1 W (Kd.C_below hC hb) hLC; simp only [hg,if_true,Bool.false_eq_true,if_false] at this; exact this)
        (fun W hb => by have := HMtn.spec_LongestMountain A0 c0 l hl1 W (Kd.C_below hC hb) hLC; simp only [hg,if_true,Bool.false_eq_true,if_false] at this; exact this)
        (fun W hb => by have := HFew.impl_FewestToLeave A0 c0 l hl1 W (Kd.C_below hC hb) hLC; simp only [hg,if_true,Bool.false_eq_true,if_false] at this; exact this)
        (fun W hb => by have := HFew.spec_FewestToLeave A0 c0 l hl1 W (Kd.C_below hC hb) hLC; simp only [hg,if_true,Bool.false_eq_true,if_false] at this; exact this)
        (fun W hb => by have := HDis.impl_CountDisorder A0 c0 l hl1 W (Kd.C_below hC hb) hLC; simp only [hg,if_true,Bool.false_eq_true,if_false] at this; exact this)
        (fun W hb => by have := HDis.spec_CountDisorder A0 c0 l hl1 W (Kd.C_below hC hb) hLC; simp only [hg,if_true,Bool.false_eq_true,if_false] at this; exact this)
        (fun W hb => by have := HRank.impl_RanksOf A0 c0 l hl1 W (Kd.C_below hC hb) hLC; simp only [hg,if_true,Bool.false_eq_true,if_false] at this; exact this)
        (fun W hb => by have := HRank.spec_RanksOf A0 c0 l hl1 W (Kd.C_below hC hb) hLC; simp only [hg,if_true,Bool.false_eq_true,if_false] at this; exact this)
        (fun W hb => by have := HAH.impl_AreHeights A0 c0 l hl1 W (Kd.C_below hC hb) hLC; simp only [hg,if_true,Bool.false_eq_true,if_false] at this; exact this)
        (fun e => by cases e) ⟨by simp,by simp⟩ hLC iCB sCB iFB sFB iMS sMS NB EB MB FL
  · exact rise_long A0 c0 l m lf bh k x y pp w hlen
end Go.Proofs.Ytleacijhpkogpac.HLaw
