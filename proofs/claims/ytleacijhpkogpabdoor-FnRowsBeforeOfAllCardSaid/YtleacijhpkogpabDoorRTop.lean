/- The counts by ticks, as the reference makes them: the walk of spec.rwCounts. -/
import Derived.Test.YtleacijhpkogpabDoorRRest
import Derived.Test.YtleacijhpkogpabDoorPFnRowsBeforeOfAllx16
import Derived.Test.YtleacijhpkogpabDoorPFnRowsBeforeOfAllx13
namespace Go.Proofs.YtleacijhpkogpabDoor.RSpec
open Go.RowKit Go.Proofs.YtleacijhpkogpabDoorW.PrintWords Go.Proofs.YtleacijhpkogpabDoorW.PrintLast Go.Proofs.YtleacijhpkogpabDoorW.PrintMore Go.Proofs.YtleacijhpkogpabDoor.PFnRowsBeforeOfAll Go.Proofs.YtleacijhpkogpabDoor.RPlain
set_option linter.unusedVariables false
set_option linter.unusedSimpArgs false

theorem make_loop : ∀ (n v : Nat) (acc : List Nat), n ≤ 60 → acc.length + n ≤ 1000000 → v ≤ 9223372036854775807 →
    Ev (fun k => spec_rwMake.l0 k (n : Int) (v : Int) (txt acc)) (txt (mk n v ++ acc)) := by
  intro n
  induction n with
  | zero =>
    intro v acc hn ha hv
    refine Ev.step (f := fun _ => some (txt acc)) (fun k => ?_) (Ev.now _)
    simp only [spec_rwMake.l0]
    rw [if_neg (by omega)]
  | succ n ih =>
    intro v acc hn ha hv
    have hr := ih (v / 2) (sgn v :: acc) (by omega) (by simp only [List.length_cons]; omega) (by omega)
    have e1 : wrap64 (((n + 1 : Nat) : Int) - 1) = (n : Int) := by unfold wrap64; omega
    have e2 : wrap64 (Int.tdiv (v : Int) 2) = ((v / 2 : Nat) : Int) := by
      rw [Int.tdiv_eq_ediv_of_nonneg (by omega)]; unfold wrap64; omega
    have e3 : Int.tmod (v : Int) 2 = ((v % 2 : Nat) : Int) := by
      rw [Int.tmod_eq_emod_of_nonneg (by omega)]; omega
    have hsz : 1 + (txt acc).size ≤ 9223372036854775807 := by rw [txt_size]; omega
    have e4 : mk (n + 1) v ++ acc = mk n (v / 2) ++ sgn v :: acc := by simp [mk]
    rw [e4]
    refine Ev.step (fun k => ?_) hr
    simp only [spec_rwMake.l0]
    rw [if_pos (by omega), e1, e2, e3, ← txt_cons]
    by_cases c : v % 2 = 1
    · rw [if_pos (by omega), if_pos hsz]
      unfold sgn
      rw [if_pos c]
      rfl
    · rw [if_neg (by omega), if_pos hsz]
      unfold sgn
      rw [if_neg c]
      rfl
theorem make_ev (n v : Nat) (hn : n ≤ 60) (hv : v ≤ 9223372036854775807) : Ev (fun k => spec_rwMake.f k (n : Int) (v : Int)) (txt (mk n v)) := by
  have := make_loop n v [] hn (by simp; omega) hv
  rw [List.append_nil] at this
  exact this
theorem make_calls (n v : Nat) (hn : n ≤ 60) (hv : v ≤ 9223372036854775807) (w : World) :
    Calls Tryd.prog 79 #[.int .i64 (n : Int), .int .i64 (v : Int)] w fun e w' => e = .returned (.string (bs (mkL n v))) ∧ Drawn0 w w' := by
  obtain ⟨k, hk⟩ := (make_ev n v hn hv).rounds
  exact spec_rwMake.calls k _ _ _ w hk
/-- What the inner loop makes of the counts. -/
def padC (out : List Int) (m : Nat) : List Int := out ++ List.replicate m 0
theorem padC_len (out : List Int) (m : Nat) : (padC out m).length = out.length + m := by simp [padC]
theorem padC_succ (out : List Int) (m : Nat) : padC out m ++ [0] = padC out (m + 1) := by
  unfold padC; rw [List.append_assoc, List.replicate_succ']
theorem padC_step (out : List Int) (t m : Nat) (h : m = t + 1 - out.length) : (padC out m).set t (rd (padC out m) (t : Int) + 1) = stepC out t := by
  subst h; rfl
set_option maxHeartbeats 4000000 in
set_option maxRecDepth 100000 in
theorem counts_calls (n : Nat) (hn : n ≤ 12) (w : World) :
    Calls Tryd.prog 76 #[.int .i64 (n : Int)] w fun e w' => ∃ v : Value, e = .returned v ∧ Kd.R (Kd.int .i64) 3 w' w.heap.size (fun _ => True) v (cntL (tks n) n (2 ^ n)) ∧ Below w.heap.size w w' := by
  have HB := Aside0.mk (Below.refl w.heap.size w)
  have HP := Aside0.mk (pow_12 n hn)
  have e1 : (((n : Int) + 1)).toNat = n + 1 := by omega
  go_enter Tryd.func76, Tryd.ntmps76
  go_wp2_with ((with_reducible refine gate_dst (N := 9) rfl ?_); refine Kd.R_make (Kd.int .i64) (w0 := w) w.heap.size 3 rfl (N := 9) rfl 27 _ _ rfl ((n : Int) + 1) rfl rfl Tryd.underlying27 (.int .i64 0) 8 info3 rfl (by decide) (by omega) 0 (ok := fun _ => True) (okp := fun _ => True) rfl (fun _ hk => hk) trivial (by omega) (by omega) (by repeat (first | (with_reducible first | exact HB.out | apply below_alloc | apply pw_below_drewN | apply below_drew1) | exact HB.out)) (below_size (by repeat (first | (with_reducible first | exact HB.out | apply below_alloc | apply pw_below_drewN | apply below_drew1) | exact HB.out))) ?_; intro v1 w5 ho hb hg hnew; rw [e1] at ho; have HO := Aside0.mk ho; have HBn := Aside0.mk hb; clear ho hb hg hnew HB; have HB := HBn; clear HBn)
  clear e1
  go_loopg [3, 4] (2 ^ n) (fun kq v3 v4 w' => ∃ j : Nat, v4 = .int .i64 (j : Int) ∧ Aside0 (kq + j = 2 ^ n) ∧ Aside0 (Kd.R (Kd.int .i64) 3 w' w.heap.size (fun _ => True) v3 (cntL (tks n) n j)) ∧ Aside0 (Below w.heap.size w w'))
  case atStart => exact ⟨0, rfl, ⟨rfl⟩, HO, ⟨(by repeat (first | (with_reducible first | exact HB.out | apply below_alloc | apply pw_below_drewN | apply below_drew1) | exact HB.out))⟩⟩
  case round =>
    clear HO HB
    obtain ⟨j, rfl, HK, HO, HB⟩ := hrel
    have hpw : wrap64 (2 ^ n) = ((2 ^ n : Nat) : Int) := by
      have := HP.out
      rw [show ((2 : Int) ^ n) = ((2 ^ n : Nat) : Int) by push_cast; rfl]
      generalize 2 ^ n = P at *
      unfold wrap64; omega
    have hP4 : 2 ^ n ≤ 4096 := HP.out
    have HM := Aside0.mk (fun W => make_calls n j (by omega) (by have := HK.out; omega) W)
    have HR := Aside0.mk (fun W => rest_calls (mkL n j) (by rw [mkL_len]; omega) W)
    have HT : Aside0 ((histL (mkL n j)).2.length = tks n j) := ⟨rfl⟩
    have hT := tks_le n j hn
    have HLn := Aside0.mk (fun (h : j < 2 ^ n) => cntL_len (tks n) n 145 (by omega) j (fun u hu => by have := tks_le n u hn; omega))
    have HCS : Aside0 (cntL (tks n) n (j + 1) = stepC (cntL (tks n) n j) (tks n j)) := ⟨rfl⟩
    have HRD : Aside0 (∀ m, 0 ≤ rd (padC (cntL (tks n) n j) m) ((tks n j : Nat) : Int) ∧ rd (padC (cntL (tks n) n j) m) ((tks n j : Nat) : Int) ≤ (j : Int)) := ⟨fun m => by
      have e : rd (padC (cntL (tks n) n j) m) ((tks n j : Nat) : Int) = (cN (tks n) j (tks n j) : Int) := (pad_get _ m (tks n j)).trans (cntL_get (tks n) n j (tks n j))
      have := cN_le (tks n) (tks n j) j
      rw [e]; omega⟩
    generalize hPe : 2 ^ n = P at *
    have HPe := Aside0.mk hPe
    clear hPe
    by_cases hj : j < P
    · have hln := HLn.out hj
      have hj4 : j ≤ 4096 := by omega
      rw [HT.out] at HR
      generalize tks n j = T at *
      generalize histL (mkL n j) = hh at *
      generalize bs (mkL n j) = b at *
      generalize hcn : cntL (tks n) n j = out at *
      clear hcn
      have HLn2 := Aside0.mk hln
      clear HLn hln
      go_wp2_with (first
        | (go_at_call 79; refine (HM.out _).mono ?_; rintro e w3 ⟨rfl, ⟨nd, rfl⟩⟩)
        | (go_at_call 78; refine (HR.out _).mono ?_; rintro e w4 ⟨rfl, hb⟩; have HOn := Aside0.mk (Kd.R_below (Kd.R_drewN HO.out _) hb); have HBn := Aside0.mk (below_step (by repeat (first | (with_reducible first | exact HB.out | apply below_alloc | apply pw_below_drewN | apply below_drew1) | exact HB.out)) hb); clear hb HB HO; have HB := HBn; have HO := HOn; clear HBn HOn))
      obtain ⟨wo, rfl⟩ : ∃ wo : World, wo = w4 := ⟨_, rfl⟩
      go_loopg [3] (T + 1 - out.length) (fun kq2 v3 w' => ∃ m : Nat, Aside0 (kq2 + m = T + 1 - out.length) ∧ Aside0 (Kd.R (Kd.int .i64) 3 w' w.heap.size (fun _ => True) v3 (padC out m)) ∧ Aside0 (Below w.heap.size w w'))
      case atStart => exact ⟨0, ⟨by omega⟩, ⟨by rw [show padC out 0 = out from List.append_nil _]; exact HO.out⟩, ⟨(by repeat (first | (with_reducible first | exact HB.out | apply below_alloc | apply pw_below_drewN | apply below_drew1) | exact HB.out))⟩⟩
      case round =>
        clear HO HB
        obtain ⟨m, HK2, HO, HB⟩ := hrel
        obtain ⟨A, c, rfl, hlc, hC⟩ := Kd.R_reads HO.out
        clear hC
        have HQ := Aside0.mk (padC_len out m)
        have hq := padC_len out m
        have hl2 := HLn2.out
        have hk2 := HK2.out
        have hqb : (padC out m).length ≤ 145 := by omega
        have HQ2 : Aside0 (¬ (padC out m).length ≤ T → m = T + 1 - out.length ∧ T < (padC out m).length) := ⟨fun h => by omega⟩
        have HSU := Aside0.mk (padC_succ out m)
        have HST := Aside0.mk (padC_step out T m)
        have hrd := HRD.out m
        clear hq hl2 hk2
        generalize padC out m = xs at *
        by_cases hqT : xs.length ≤ T
        · go_wp2_with ((with_reducible refine gate_builtin (b := .append) (xs := #[.tmp 27, .tmp 28]) rfl ?_); at_builtin; refine Kd.R_append (Kd.int .i64) (w0 := w) w.heap.size rfl (.tmp 27) (.tmp 28) 27 3 (.int .i64 0) 8 rfl Tryd.underlying27 info3 rfl (by decide) (by omega) (.slice A xs.length c) xs 0 [.int .i64 0] (fun _ => True) (fun _ => False) rfl rfl ?aP (fun _ hk => hk.elim) ?aF ?aO ?aB ?aS ?aL ?_; (case aP => exact rfl); (case aB => exact (by repeat (first | (with_reducible first | exact HB.out | apply below_alloc | apply pw_below_drewN | apply below_drew1) | exact HB.out))); (case aF => exact (fun _ _ => trivial)); (case aO => exact HO.out); (case aS => exact (below_size (by repeat (first | (with_reducible first | exact HB.out | apply below_alloc | apply pw_below_drewN | apply below_drew1) | exact HB.out)))); (case aL => omega); intro v7 w7 ho hb hg hat; rw [HSU.out] at ho; have HOn := Aside0.mk ho; have HBn := Aside0.mk hb; clear ho hb hg hat HO HB; have HO := HOn; have HB := HBn; clear HOn HBn)
          go_roundg (T + 1 - out.length - (m + 1))
          case measure => have := HK2.out; have := HQ.out; omega
          case rel => exact ⟨m + 1, ⟨by have := HK2.out; have := HQ.out; omega⟩, HO, ⟨(by repeat (first | (with_reducible first | exact HB.out | apply below_alloc | apply pw_below_drewN | apply below_drew1) | exact HB.out))⟩⟩
        · obtain ⟨hm, hTx⟩ := HQ2.out hqT
          obtain ⟨g, c2, e, gb, gl, HG⟩ := Kd.R_form HO.out (by omega)
          cases e
          have GB := Aside0.mk gb
          clear gb gl HG
          obtain ⟨hx, hf⟩ := Kd.R_celln 0 HO.out (T : Int) (by omega) (by omega)
          have HP1 := Aside0.mk (Kd.R_putg HO.out (T : Int) (rd xs (T : Int) + 1))
          replace hx : wr.cell? ⟨g, T, none⟩ = some (.int .i64 (rd xs (T : Int))) := hx
          replace hf : wr.frozen? ⟨g, T, none⟩ = false := hf
          have HV := Aside0.mk (HST.out hm)
          clear hm
          generalize rd xs (T : Int) = q at *
          go_wp2
          go_roundg (P - (j + 1))
          case measure => have := HK.out; omega
          case rel => exact ⟨j + 1, by first | rfl | go_num, ⟨by have := HK.out; omega⟩, ⟨by have h1 := HP1.out.1; rw [show (xs.set ((T : Nat) : Int).toNat (q + 1)) = cntL (tks n) n (j + 1) from HV.out.trans HCS.out.symm] at h1; exact h1⟩, ⟨below_set HB.out GB.out⟩⟩
    · have hjP : j = P := by have := HK.out; omega
      clear HM HR HT hT HLn HCS HRD
      go_wp2
      go_ret
      exact ⟨_, rfl, by rw [HPe.out, ← hjP]; exact HO.out, (by repeat (first | (with_reducible first | exact HB.out | apply below_alloc | apply pw_below_drewN | apply below_drew1) | exact HB.out))⟩
end Go.Proofs.YtleacijhpkogpabDoor.RSpec
/- Sums, counts and longest ticks, as the reference tells them: the walks of spec.SumOfTicks, CountByTicks, LongestTicks, FirstLongest. -/
namespace Go.Proofs.YtleacijhpkogpabDoor.RSpec
open Go.RowKit Go.Proofs.YtleacijhpkogpabDoorW.PrintWords Go.Proofs.YtleacijhpkogpabDoorW.PrintLast Go.Proofs.YtleacijhpkogpabDoorW.PrintMore Go.Proofs.YtleacijhpkogpabDoor.PFnRowsBeforeOfAll Go.Proofs.YtleacijhpkogpabDoor.RPlain
set_option linter.unusedVariables false
set_option linter.unusedSimpArgs false

theorem l1in_calls (a b c : Int) (w : World) : Calls Tryd.prog 81 #[.int .i64 a, .int .i64 b, .int .i64 c] w fun e w' => e = .returned (.bool (decide (b ≤ a ∧ a ≤ c))) ∧ Drawn0 w w' :=
  spec_l1In.calls a b c _ w (by
    unfold spec_l1In.f
    by_cases h : a ≥ b
    · rw [if_pos h]
      by_cases h2 : a ≤ c
      · rw [decide_eq_true h2, decide_eq_true ⟨h, h2⟩]
      · rw [decide_eq_false h2, decide_eq_false (fun z => h2 z.2)]
    · rw [if_neg h, decide_eq_false (fun z => h z.1)])
theorem few_calls (a : Int) (w : World) : Calls Tryd.prog 71 #[.int .i64 a] w fun e w' => e = .returned (.bool (decide (1 ≤ a ∧ a ≤ 12))) ∧ Drawn0 w w' :=
  spec_rwFew.calls a _ w (by
    unfold spec_rwFew.f spec_l1In.f
    by_cases h : a ≥ 1
    · rw [if_pos h]
      by_cases h2 : a ≤ 12
      · rw [decide_eq_true h2, decide_eq_true ⟨h, h2⟩]; rfl
      · rw [decide_eq_false h2, decide_eq_false (fun z => h2 z.2)]; rfl
    · rw [if_neg h, decide_eq_false (fun z => h z.1)]; rfl)
theorem few_yes (n : Nat) (h : 1 ≤ n ∧ n ≤ 12) (w : World) : Calls Tryd.prog 71 #[.int .i64 (n : Int)] w fun e w' => e = .returned (.bool true) ∧ Drawn0 w w' := by
  have := few_calls (n : Int) w
  rwa [decide_eq_true (by omega)] at this
theorem few_no (a : Int) (h : ¬ (1 ≤ a ∧ a ≤ 12)) (w : World) : Calls Tryd.prog 71 #[.int .i64 a] w fun e w' => e = .returned (.bool false) ∧ Drawn0 w w' := by
  have := few_calls a w
  rwa [decide_eq_false h] at this
/-! ### the sum -/
set_option maxHeartbeats 4000000 in
set_option maxRecDepth 100000 in
theorem sum_no (a : Int) (h : ¬ (1 ≤ a ∧ a ≤ 12)) (w : World) :
    Calls Tryd.prog 30 #[.int .i64 a] w fun e w' => e = .returned (.tuple #[.int .i64 0, .bool false]) ∧ Below w.heap.size w w' := by
  have HF := Aside0.mk (fun W => few_no a h W)
  clear h
  have HB := Aside0.mk (Below.refl w.heap.size w)
  go_enter Tryd.func30, Tryd.ntmps30
  go_wp2_with (go_at_call 71; refine (HF.out _).mono ?_; rintro e w' ⟨rfl, ⟨nd, rfl⟩⟩)
  go_ret2
  exact ⟨rfl, (by repeat (first | (with_reducible first | exact HB.out | apply below_alloc | apply pw_below_drewN | apply below_drew1) | exact HB.out))⟩
set_option maxHeartbeats 4000000 in
set_option maxRecDepth 100000 in
theorem sum_yes (n : Nat) (hn : 1 ≤ n ∧ n ≤ 12) (w : World) :
    Calls Tryd.prog 30 #[.int .i64 (n : Int)] w fun e w' => e = .returned (.tuple #[.int .i64 (sumT (tks n) (2 ^ n) : Int), .bool true]) ∧ Below w.heap.size w w' := by
  have HF := Aside0.mk (fun W => few_yes n hn W)
  have HC := Aside0.mk (fun W => counts_calls n hn.2 W)
  have HB := Aside0.mk (Below.refl w.heap.size w)
  have hp := pow_12 n hn.2
  have hlen := (cntL_len (tks n) n 145 (by omega) (2 ^ n) (fun u _ => by have := tks_le n u hn.2; omega)).2
  have HS := Aside0.mk (sumW_cnt (tks n) n (2 ^ n) hp (by omega))
  clear hn hp
  generalize cntL (tks n) n (2 ^ n) = out at *
  generalize (sumT (tks n) (2 ^ n) : Int) = S at *
  go_enter Tryd.func30, Tryd.ntmps30
  go_wp2_with (first
    | (go_at_call 71; refine (HF.out _).mono ?_; rintro e w' ⟨rfl, ⟨nd, rfl⟩⟩)
    | (go_at_call 76; refine (HC.out _).mono ?_; rintro e w3 ⟨v, rfl, ho, hb⟩; obtain ⟨A, c, rfl, hlc, hC⟩ := Kd.R_reads ho; have HCC := Aside0.mk hC; have HBn := Aside0.mk (below_step (by repeat (first | (with_reducible first | exact HB.out | apply below_alloc | apply pw_below_drewN | apply below_drew1) | exact HB.out)) hb); clear ho hC hb HB; have HB := HBn; clear HBn))
  clear HF HC
  go_loopg [4, 13] out.length (fun kq v4 v13 w' => ∃ j : Nat, v4 = .int .i64 (sumW out j) ∧ v13 = .int .i64 (j : Int) ∧ Aside0 (kq + j = out.length) ∧ Aside0 ((Kd.int .i64).C w' A out.length out) ∧ Aside0 (Below w.heap.size w w'))
  case atStart => exact ⟨0, rfl, rfl, ⟨rfl⟩, HCC, ⟨(by repeat (first | (with_reducible first | exact HB.out | apply below_alloc | apply pw_below_drewN | apply below_drew1) | exact HB.out))⟩⟩
  case round =>
    clear HCC HB
    obtain ⟨j, rfl, rfl, HK, HCC, HB⟩ := hrel
    by_cases hj : j < out.length
    · obtain ⟨ad, e, hc⟩ := Kd.at_int HCC.out (j : Int) (by omega) (by omega)
      cases e
      replace hc : wr.cell? (ad.add j) = some (.int .i64 (rdI out j)) := hc
      have HSW : Aside0 (sumW out (j + 1) = wrap64 (sumW out j + wrap64 ((j : Int) * rdI out j))) := ⟨rfl⟩
      generalize rdI out j = q at *
      generalize sumW out j = s at *
      go_wp2
      go_roundg (out.length - (j + 1))
      case measure => have := HK.out; omega
      case rel => exact ⟨j + 1, by rw [HSW.out], rfl, ⟨by have := HK.out; omega⟩, HCC, ⟨(by repeat (first | (with_reducible first | exact HB.out | apply below_alloc | apply pw_below_drewN | apply below_drew1) | exact HB.out))⟩⟩
    · have hjj : j = out.length := by have := HK.out; omega
      have HS2 : Aside0 (sumW out j = S) := ⟨by rw [hjj]; exact HS.out⟩
      generalize sumW out j = s at *
      go_wp2
      go_ret2
      exact ⟨by rw [HS2.out]; rfl, (by repeat (first | (with_reducible first | exact HB.out | apply below_alloc | apply pw_below_drewN | apply below_drew1) | exact HB.out))⟩
/-! ### the counts -/
set_option maxHeartbeats 4000000 in
set_option maxRecDepth 100000 in
theorem count_no (a b : Int) (h : ¬ ((1 ≤ a ∧ a ≤ 12) ∧ (0 ≤ b ∧ b ≤ 1000))) (w : World) :
    Calls Tryd.prog 32 #[.int .i64 a, .int .i64 b] w fun e w' => e = .returned (.tuple #[.int .i64 0, .bool false]) ∧ Below w.heap.size w w' := by
  have HB := Aside0.mk (Below.refl w.heap.size w)
  by_cases h1 : 1 ≤ a ∧ a ≤ 12
  · have HF := Aside0.mk (fun W => few_calls a W)
    rw [decide_eq_true h1] at HF
    have HI := Aside0.mk (fun W => l1in_calls b 0 1000 W)
    rw [decide_eq_false (fun z => h ⟨h1, z⟩)] at HI
    clear h h1
    go_enter Tryd.func32, Tryd.ntmps32
    go_wp2_with (first | (go_at_call 71; refine (HF.out _).mono ?_; rintro e w' ⟨rfl, ⟨nd, rfl⟩⟩) | (go_at_call 81; refine (HI.out _).mono ?_; rintro e w' ⟨rfl, ⟨nd2, rfl⟩⟩))
    go_ret2
    exact ⟨rfl, (by repeat (first | (with_reducible first | exact HB.out | apply below_alloc | apply pw_below_drewN | apply below_drew1) | exact HB.out))⟩
  · have HF := Aside0.mk (fun W => few_no a h1 W)
    clear h h1
    go_enter Tryd.func32, Tryd.ntmps32
    go_wp2_with (go_at_call 71; refine (HF.out _).mono ?_; rintro e w' ⟨rfl, ⟨nd, rfl⟩⟩)
    go_ret2
    exact ⟨rfl, (by repeat (first | (with_reducible first | exact HB.out | apply below_alloc | apply pw_below_drewN | apply below_drew1) | exact HB.out))⟩
set_option maxHeartbeats 4000000 in
set_option maxRecDepth 100000 in
theorem count_yes (n t : Nat) (hn : 1 ≤ n ∧ n ≤ 12) (ht : t ≤ 1000) (w : World) :
    Calls Tryd.prog 32 #[.int .i64 (n : Int), .int .i64 (t : Int)] w fun e w' => e = .returned (.tuple #[.int .i64 (cN (tks n) (2 ^ n) t : Int), .bool true]) ∧ Below w.heap.size w w' := by
  have HF := Aside0.mk (fun W => few_yes n hn W)
  have HC := Aside0.mk (fun W => counts_calls n hn.2 W)
  have HI := Aside0.mk (fun W => l1in_calls (t : Int) 0 1000 W)
  rw [decide_eq_true (by omega)] at HI
  have HB := Aside0.mk (Below.refl w.heap.size w)
  have HS : Aside0 (rdI (cntL (tks n) n (2 ^ n)) t = (cN (tks n) (2 ^ n) t : Int)) := ⟨cntL_get (tks n) n (2 ^ n) t⟩
  clear hn
  generalize cntL (tks n) n (2 ^ n) = out at *
  generalize (cN (tks n) (2 ^ n) t : Int) = S at *
  by_cases hl : t < out.length
  · go_enter Tryd.func32, Tryd.ntmps32
    go_wp2_with (first | (go_at_call 71; refine (HF.out _).mono ?_; rintro e w' ⟨rfl, ⟨nd, rfl⟩⟩) | (go_at_call 81; refine (HI.out _).mono ?_; rintro e w' ⟨rfl, ⟨nd2, rfl⟩⟩) | (go_at_call 76; refine (HC.out _).mono ?_; rintro e w3 ⟨v, rfl, ho, hb⟩; obtain ⟨A, c, rfl, hlc, hC⟩ := Kd.R_reads ho; have HCC := Aside0.mk hC; have HBn := Aside0.mk (below_step (by repeat (first | (with_reducible first | exact HB.out | apply below_alloc | apply pw_below_drewN | apply below_drew1) | exact HB.out)) hb); clear ho hC hb HB; have HB := HBn; clear HBn; obtain ⟨ad, e, hc⟩ := Kd.at_int HCC.out (t : Int) (by omega) (by omega); cases e; replace hc : w3.cell? (ad.add t) = some (.int .i64 (rdI out t)) := hc; rw [HS.out] at hc))
    go_ret2
    exact ⟨rfl, (by repeat (first | (with_reducible first | exact HB.out | apply below_alloc | apply pw_below_drewN | apply below_drew1) | exact HB.out))⟩
  · have h0 : S = 0 := by rw [← HS.out]; unfold rdI; rw [List.getD_eq_getElem?_getD, List.getElem?_eq_none (by omega)]; rfl
    subst h0
    go_enter Tryd.func32, Tryd.ntmps32
    go_wp2_with (first | (go_at_call 71; refine (HF.out _).mono ?_; rintro e w' ⟨rfl, ⟨nd, rfl⟩⟩) | (go_at_call 81; refine (HI.out _).mono ?_; rintro e w' ⟨rfl, ⟨nd2, rfl⟩⟩) | (go_at_call 76; refine (HC.out _).mono ?_; rintro e w3 ⟨v, rfl, ho, hb⟩; obtain ⟨A, c, rfl, hlc, hC⟩ := Kd.R_reads ho; have HCC := Aside0.mk hC; have HBn := Aside0.mk (below_step (by repeat (first | (with_reducible first | exact HB.out | apply below_alloc | apply pw_below_drewN | apply below_drew1) | exact HB.out)) hb); clear ho hC hb HB; have HB := HBn; clear HBn))
    go_ret2
    exact ⟨rfl, (by repeat (first | (with_reducible first | exact HB.out | apply below_alloc | apply pw_below_drewN | apply below_drew1) | exact HB.out))⟩
/-! ### the longest ones -/
set_option maxHeartbeats 4000000 in
set_option maxRecDepth 100000 in
theorem long_no (a : Int) (h : ¬ (1 ≤ a ∧ a ≤ 12)) (w : World) :
    Calls Tryd.prog 26 #[.int .i64 a] w fun e w' => e = .returned (.tuple #[.int .i64 0, .bool false]) ∧ Below w.heap.size w w' := by
  have HF := Aside0.mk (fun W => few_no a h W)
  clear h
  have HB := Aside0.mk (Below.refl w.heap.size w)
  go_enter Tryd.func26, Tryd.ntmps26
  go_wp2_with (go_at_call 71; refine (HF.out _).mono ?_; rintro e w' ⟨rfl, ⟨nd, rfl⟩⟩)
  go_ret2
  exact ⟨rfl, (by repeat (first | (with_reducible first | exact HB.out | apply below_alloc | apply pw_below_drewN | apply below_drew1) | exact HB.out))⟩
set_option maxHeartbeats 4000000 in
set_option maxRecDepth 100000 in
theorem long_yes (n : Nat) (hn : 1 ≤ n ∧ n ≤ 12) (w : World) :
    Calls Tryd.prog 26 #[.int .i64 (n : Int)] w fun e w' => e = .returned (.tuple #[.int .i64 (mxT (tks n) (2 ^ n) : Int), .bool true]) ∧ Below w.heap.size w w' := by
  have HF := Aside0.mk (fun W => few_yes n hn W)
  have HC := Aside0.mk (fun W => counts_calls n hn.2 W)
  have HB := Aside0.mk (Below.refl w.heap.size w)
  have hlen := (cntL_len (tks n) n 145 (by omega) (2 ^ n) (fun u _ => by have := tks_le n u hn.2; omega)).2
  have HS := Aside0.mk (lastT_cnt (tks n) n (2 ^ n) (Nat.pow_pos (by decide)))
  clear hn
  generalize cntL (tks n) n (2 ^ n) = out at *
  generalize mxT (tks n) (2 ^ n) = S at *
  go_enter Tryd.func26, Tryd.ntmps26
  go_wp2_with (first | (go_at_call 71; refine (HF.out _).mono ?_; rintro e w' ⟨rfl, ⟨nd, rfl⟩⟩) | (go_at_call 76; refine (HC.out _).mono ?_; rintro e w3 ⟨v, rfl, ho, hb⟩; obtain ⟨A, c, rfl, hlc, hC⟩ := Kd.R_reads ho; have HCC := Aside0.mk hC; have HBn := Aside0.mk (below_step (by repeat (first | (with_reducible first | exact HB.out | apply below_alloc | apply pw_below_drewN | apply below_drew1) | exact HB.out)) hb); clear ho hC hb HB; have HB := HBn; clear HBn))
  clear HF HC
  go_loopg [4, 13] out.length (fun kq v4 v13 w' => ∃ j : Nat, v4 = .int .i64 (lastT out j : Int) ∧ v13 = .int .i64 (j : Int) ∧ Aside0 (kq + j = out.length) ∧ Aside0 ((Kd.int .i64).C w' A out.length out) ∧ Aside0 (Below w.heap.size w w'))
  case atStart => exact ⟨0, rfl, rfl, ⟨rfl⟩, HCC, ⟨(by repeat (first | (with_reducible first | exact HB.out | apply below_alloc | apply pw_below_drewN | apply below_drew1) | exact HB.out))⟩⟩
  case round =>
    clear HCC HB
    obtain ⟨j, rfl, rfl, HK, HCC, HB⟩ := hrel
    by_cases hj : j < out.length
    · obtain ⟨ad, e, hc⟩ := Kd.at_int HCC.out (j : Int) (by omega) (by omega)
      cases e
      replace hc : wr.cell? (ad.add j) = some (.int .i64 (rdI out j)) := hc
      have HSW : Aside0 (lastT out (j + 1) = if rdI out j > 0 then j else lastT out j) := ⟨rfl⟩
      generalize rdI out j = q at *
      generalize lastT out j = s at *
      by_cases hq : 0 < q
      · go_wp2
        go_roundg (out.length - (j + 1))
        case measure => have := HK.out; omega
        case rel => exact ⟨j + 1, by rw [HSW.out, if_pos (show q > 0 by omega)], rfl, ⟨by have := HK.out; omega⟩, HCC, ⟨(by repeat (first | (with_reducible first | exact HB.out | apply below_alloc | apply pw_below_drewN | apply below_drew1) | exact HB.out))⟩⟩
      · go_wp2
        go_roundg (out.length - (j + 1))
        case measure => have := HK.out; omega
        case rel => exact ⟨j + 1, by rw [HSW.out, if_neg (show ¬ q > 0 by omega)], rfl, ⟨by have := HK.out; omega⟩, HCC, ⟨(by repeat (first | (with_reducible first | exact HB.out | apply below_alloc | apply pw_below_drewN | apply below_drew1) | exact HB.out))⟩⟩
    · have hjj : j = out.length := by have := HK.out; omega
      have HS2 : Aside0 (lastT out j = S) := ⟨by rw [hjj]; exact HS.out⟩
      generalize lastT out j = s at *
      go_wp2
      go_ret2
      exact ⟨by rw [HS2.out]; rfl, (by repeat (first | (with_reducible first | exact HB.out | apply below_alloc | apply pw_below_drewN | apply below_drew1) | exact HB.out))⟩
/-! ### the first of the longest ones -/
set_option maxHeartbeats 4000000 in
set_option maxRecDepth 100000 in
theorem first_no (a : Int) (h : ¬ (1 ≤ a ∧ a ≤ 12)) (w : World) :
    Calls Tryd.prog 28 #[.int .i64 a] w fun e w' => e = .returned (.tuple #[.string ⟨#[]⟩, .bool false]) ∧ Below w.heap.size w w' := by
  have HF := Aside0.mk (fun W => long_no a h W)
  clear h
  have HB := Aside0.mk (Below.refl w.heap.size w)
  go_enter Tryd.func28, Tryd.ntmps28
  go_wp2_with (go_at_call 26; refine (HF.out _).mono ?_; rintro e w3 ⟨rfl, hb⟩; have HBn := Aside0.mk (below_step (by repeat (first | (with_reducible first | exact HB.out | apply below_alloc | apply pw_below_drewN | apply below_drew1) | exact HB.out)) hb); clear hb HB; have HB := HBn; clear HBn)
  go_ret2
  exact ⟨rfl, (by repeat (first | (with_reducible first | exact HB.out | apply below_alloc | apply pw_below_drewN | apply below_drew1) | exact HB.out))⟩
set_option maxHeartbeats 4000000 in
set_option maxRecDepth 100000 in
theorem first_yes (n f : Nat) (hn : 1 ≤ n ∧ n ≤ 12) (hf : f < 2 ^ n ∧ tks n f = mxT (tks n) (2 ^ n) ∧ ∀ i, i < f → tks n i ≠ mxT (tks n) (2 ^ n)) (w : World) :
    Calls Tryd.prog 28 #[.int .i64 (n : Int)] w fun e w' => e = .returned (.tuple #[.string (bs (mkL n f)), .bool true]) ∧ Below w.heap.size w w' := by
  have HF := Aside0.mk (fun W => long_yes n hn W)
  have HB := Aside0.mk (Below.refl w.heap.size w)
  have HP := Aside0.mk (pow_12 n hn.2)
  have HFF := Aside0.mk hf
  have hn2 := hn.2
  clear hf hn
  have HMX := Aside0.mk (fun u => tks_le n u hn2)
  generalize hS : mxT (tks n) (2 ^ n) = S at *
  clear hS
  go_enter Tryd.func28, Tryd.ntmps28
  go_wp2_with (go_at_call 26; refine (HF.out _).mono ?_; rintro e w3 ⟨rfl, hb⟩; have HBn := Aside0.mk (below_step (by repeat (first | (with_reducible first | exact HB.out | apply below_alloc | apply pw_below_drewN | apply below_drew1) | exact HB.out)) hb); clear hb HB; have HB := HBn; clear HBn)
  clear HF
  go_loopg [6] f (fun kq v6 w' => ∃ j : Nat, v6 = .int .i64 (j : Int) ∧ Aside0 (kq + j = f) ∧ Aside0 (Below w.heap.size w w'))
  case atStart => exact ⟨0, rfl, ⟨rfl⟩, ⟨(by repeat (first | (with_reducible first | exact HB.out | apply below_alloc | apply pw_below_drewN | apply below_drew1) | exact HB.out))⟩⟩
  case round =>
    clear HB
    obtain ⟨j, rfl, HK, HB⟩ := hrel
    have hpw : wrap64 (2 ^ n) = ((2 ^ n : Nat) : Int) := by
      have := HP.out
      rw [show ((2 : Int) ^ n) = ((2 ^ n : Nat) : Int) by push_cast; rfl]
      generalize 2 ^ n = P at *
      unfold wrap64; omega
    have hjP : j < 2 ^ n := by have := HK.out; have := HFF.out.1; omega
    have hP4 : 2 ^ n ≤ 4096 := HP.out
    have HM := Aside0.mk (fun W => make_calls n j (by omega) (by omega) W)
    have HR := Aside0.mk (fun W => rest_calls (mkL n j) (by rw [mkL_len]; omega) W)
    have HT : Aside0 ((histL (mkL n j)).2.length = tks n j) := ⟨rfl⟩
    rw [HT.out] at HR
    have hT := tks_le n j hn2
    have HE := Aside0.mk (fun h : j < f => HFF.out.2.2 j h)
    have HE2 := Aside0.mk (fun h : j = f => h ▸ HFF.out.2.1)
    generalize hPe : 2 ^ n = P at *
    clear hPe
    generalize tks n j = T at *
    generalize histL (mkL n j) = hh at *
    generalize hb : bs (mkL n j) = b at *
    have HBB := Aside0.mk hb
    clear hb
    by_cases hjf : j < f
    · have hne : (((T : Int) == (S : Int))) = false := beq_eq_false_iff_ne.mpr (fun z => HE.out hjf (by omega))
      go_wp2_with (first
        | (go_at_call 79; refine (HM.out _).mono ?_; rintro e w4 ⟨rfl, ⟨nd, rfl⟩⟩)
        | (go_at_call 78; refine (HR.out _).mono ?_; rintro e w4 ⟨rfl, hb⟩; have HBn := Aside0.mk (below_step (by repeat (first | (with_reducible first | exact HB.out | apply below_alloc | apply pw_below_drewN | apply below_drew1) | exact HB.out)) hb); clear hb HB; have HB := HBn; clear HBn))
      go_roundg (f - (j + 1))
      case measure => have := HK.out; omega
      case rel => exact ⟨j + 1, rfl, ⟨by have := HK.out; omega⟩, ⟨(by repeat (first | (with_reducible first | exact HB.out | apply below_alloc | apply pw_below_drewN | apply below_drew1) | exact HB.out))⟩⟩
    · have hjj : j = f := by have := HK.out; omega
      obtain rfl : T = S := HE2.out hjj
      have HJ := Aside0.mk hjj
      clear hjj
      go_wp2_with (first
        | (go_at_call 79; refine (HM.out _).mono ?_; rintro e w4 ⟨rfl, ⟨nd, rfl⟩⟩)
        | (go_at_call 78; refine (HR.out _).mono ?_; rintro e w4 ⟨rfl, hb⟩; have HBn := Aside0.mk (below_step (by repeat (first | (with_reducible first | exact HB.out | apply below_alloc | apply pw_below_drewN | apply below_drew1) | exact HB.out)) hb); clear hb HB; have HB := HBn; clear HBn))
      go_ret2
      exact ⟨by rw [← HJ.out, HBB.out]; rfl, (by repeat (first | (with_reducible first | exact HB.out | apply below_alloc | apply pw_below_drewN | apply below_drew1) | exact HB.out))⟩
end Go.Proofs.YtleacijhpkogpabDoor.RSpec
