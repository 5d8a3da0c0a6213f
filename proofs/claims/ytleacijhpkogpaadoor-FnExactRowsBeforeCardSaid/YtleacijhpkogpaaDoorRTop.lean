/- Sums, counts and longest ticks, as the reference tells them: the walks of spec.SumOfTicks, CountByTicks, LongestTicks, FirstLongest. -/
import Derived.Test.YtleacijhpkogpaaDoorRCounts
import Derived.Test.YtleacijhpkogpaaDoorPFnExactFirstLongestx1
namespace Go.Proofs.YtleacijhpkogpaaDoor.RSpec
open Go.RowKit Go.Proofs.YtleacijhpkogpaaDoorW.PrintWords Go.Proofs.YtleacijhpkogpaaDoorW.PrintLast Go.Proofs.YtleacijhpkogpaaDoorW.PrintMore Go.Proofs.YtleacijhpkogpaaDoor.PFnExactFirstLongest Go.Proofs.YtleacijhpkogpaaDoor.RPlain
set_option linter.unusedVariables false
set_option linter.unusedSimpArgs false

theorem l1in_calls (a b c : Int) (w : World) : Calls Tryd.prog 31 #[.int .i64 a, .int .i64 b, .int .i64 c] w fun e w' => e = .returned (.bool (decide (b ≤ a ∧ a ≤ c))) ∧ Drawn0 w w' :=
  spec_l1In.calls a b c _ w (by
    unfold spec_l1In.f
    by_cases h : a ≥ b
    · rw [if_pos h]
      by_cases h2 : a ≤ c
      · rw [decide_eq_true h2, decide_eq_true ⟨h, h2⟩]
      · rw [decide_eq_false h2, decide_eq_false (fun z => h2 z.2)]
    · rw [if_neg h, decide_eq_false (fun z => h z.1)])
theorem few_calls (a : Int) (w : World) : Calls Tryd.prog 22 #[.int .i64 a] w fun e w' => e = .returned (.bool (decide (1 ≤ a ∧ a ≤ 12))) ∧ Drawn0 w w' :=
  spec_rwFew.calls a _ w (by
    unfold spec_rwFew.f spec_l1In.f
    by_cases h : a ≥ 1
    · rw [if_pos h]
      by_cases h2 : a ≤ 12
      · rw [decide_eq_true h2, decide_eq_true ⟨h, h2⟩]; rfl
      · rw [decide_eq_false h2, decide_eq_false (fun z => h2 z.2)]; rfl
    · rw [if_neg h, decide_eq_false (fun z => h z.1)]; rfl)
theorem few_yes (n : Nat) (h : 1 ≤ n ∧ n ≤ 12) (w : World) : Calls Tryd.prog 22 #[.int .i64 (n : Int)] w fun e w' => e = .returned (.bool true) ∧ Drawn0 w w' := by
  have := few_calls (n : Int) w
  rwa [decide_eq_true (by omega)] at this
theorem few_no (a : Int) (h : ¬ (1 ≤ a ∧ a ≤ 12)) (w : World) : Calls Tryd.prog 22 #[.int .i64 a] w fun e w' => e = .returned (.bool false) ∧ Drawn0 w w' := by
  have := few_calls a w
  rwa [decide_eq_false h] at this
/-! ### the sum -/
set_option maxHeartbeats 4000000 in
set_option maxRecDepth 100000 in
theorem sum_no (a : Int) (h : ¬ (1 ≤ a ∧ a ≤ 12)) (w : World) :
    Calls Tryd.prog 13 #[.int .i64 a] w fun e w' => e = .returned (.tuple #[.int .i64 0, .bool false]) ∧ Below w.heap.size w w' := by
  have HF := Aside0.mk (fun W => few_no a h W)
  clear h
  have HB := Aside0.mk (Below.refl w.heap.size w)
  go_enter Tryd.func13, Tryd.ntmps13
  go_wp2_with (go_at_call 22; refine (HF.out _).mono ?_; rintro e w' ⟨rfl, ⟨nd, rfl⟩⟩)
  go_ret2
  exact ⟨rfl, (by repeat (first | (with_reducible first | exact HB.out | apply below_alloc | apply pw_below_drewN | apply below_drew1) | exact HB.out))⟩
set_option maxHeartbeats 4000000 in
set_option maxRecDepth 100000 in
theorem sum_yes (n : Nat) (hn : 1 ≤ n ∧ n ≤ 12) (w : World) :
    Calls Tryd.prog 13 #[.int .i64 (n : Int)] w fun e w' => e = .returned (.tuple #[.int .i64 (sumT (tks n) (2 ^ n) : Int), .bool true]) ∧ Below w.heap.size w w' := by
  have HF := Aside0.mk (fun W => few_yes n hn W)
  have HC := Aside0.mk (fun W => counts_calls n hn.2 W)
  have HB := Aside0.mk (Below.refl w.heap.size w)
  have hp := pow_12 n hn.2
  have hlen := (cntL_len (tks n) n 145 (by omega) (2 ^ n) (fun u _ => by have := tks_le n u hn.2; omega)).2
  have HS := Aside0.mk (sumW_cnt (tks n) n (2 ^ n) hp (by omega))
  clear hn hp
  generalize cntL (tks n) n (2 ^ n) = out at *
  generalize (sumT (tks n) (2 ^ n) : Int) = S at *
  go_enter Tryd.func13, Tryd.ntmps13
  go_wp2_with (first
    | (go_at_call 22; refine (HF.out _).mono ?_; rintro e w' ⟨rfl, ⟨nd, rfl⟩⟩)
    | (go_at_call 29; refine (HC.out _).mono ?_; rintro e w3 ⟨v, rfl, ho, hb⟩; obtain ⟨A, c, rfl, hlc, hC⟩ := Kd.R_reads ho; have HCC := Aside0.mk hC; have HBn := Aside0.mk (below_step (by repeat (first | (with_reducible first | exact HB.out | apply below_alloc | apply pw_below_drewN | apply below_drew1) | exact HB.out)) hb); clear ho hC hb HB; have HB := HBn; clear HBn))
  clear HF HC
  go_loopg [4, 13] out.length (fun kq v4 v13 w' => ∃ j : Nat, v4 = .int .i64 (sumW out j) ∧ v13 = .int .i64 (j : Int) ∧ Aside0 (kq + j = out.length) ∧ Aside0 ((Kd.int .i64).C w' A out.length out) ∧ Aside0 (Below w.heap.size w w'))
  case atStart => exact ⟨0, rfl, rfl, ⟨rfl⟩, HCC, ⟨(by repeat (first | (with_reducible first | exact HB.out | apply below_alloc | apply pw_below_drewN | apply below_drew1) | exact HB.out))⟩⟩
  case round =>
    clear HCC HB
    obtain ⟨j, rfl, rfl, HK, HCC, HB⟩ := hrel
    by_cases hj : j < out.length
    · obtain ⟨ad, e, hc⟩ := Kd.at_int HCC.out (j : Int) (by omega) (by omega)
      cases e
      replace hc : wr.cell? (ad.add j) = some (.int .i64 (rdI out j)) := hc
      have HSW : Aside0 (sumW out (j + 1) = wrap64 (sumW out j + wrap64 ((j : Int) * rdI out j))) := ⟨rfl⟩
      generalize rdI out j = q at *
      generalize sumW out j = s at *
      go_wp2
      go_roundg (out.length - (j + 1))
      case measure => have := HK.out; omega
      case rel => exact ⟨j + 1, by rw [HSW.out], rfl, ⟨by have := HK.out; omega⟩, HCC, ⟨(by repeat (first | (with_reducible first | exact HB.out | apply below_alloc | apply pw_below_drewN | apply below_drew1) | exact HB.out))⟩⟩
    · have hjj : j = out.length := by have := HK.out; omega
      have HS2 : Aside0 (sumW out j = S) := ⟨by rw [hjj]; exact HS.out⟩
      generalize sumW out j = s at *
      go_wp2
      go_ret2
      exact ⟨by rw [HS2.out]; rfl, (by repeat (first | (with_reducible first | exact HB.out | apply below_alloc | apply pw_below_drewN | apply below_drew1) | exact HB.out))⟩
/-! ### the counts -/
set_option maxHeartbeats 4000000 in
set_option maxRecDepth 100000 in
theorem count_no (a b : Int) (h : ¬ ((1 ≤ a ∧ a ≤ 12) ∧ (0 ≤ b ∧ b ≤ 1000))) (w : World) :
    Calls Tryd.prog 15 #[.int .i64 a, .int .i64 b] w fun e w' => e = .returned (.tuple #[.int .i64 0, .bool false]) ∧ Below w.heap.size w w' := by
  have HB := Aside0.mk (Below.refl w.heap.size w)
  by_cases h1 : 1 ≤ a ∧ a ≤ 12
  · have HF := Aside0.mk (fun W => few_calls a W)
    rw [decide_eq_true h1] at HF
    have HI := Aside0.mk (fun W => l1in_calls b 0 1000 W)
    rw [decide_eq_false (fun z => h ⟨h1, z⟩)] at HI
    clear h h1
    go_enter Tryd.func15, Tryd.ntmps15
    go_wp2_with (first | (go_at_call 22; refine (HF.out _).mono ?_; rintro e w' ⟨rfl, ⟨nd, rfl⟩⟩) | (go_at_call 31; refine (HI.out _).mono ?_; rintro e w' ⟨rfl, ⟨nd2, rfl⟩⟩))
    go_ret2
    exact ⟨rfl, (by repeat (first | (with_reducible first | exact HB.out | apply below_alloc | apply pw_below_drewN | apply below_drew1) | exact HB.out))⟩
  · have HF := Aside0.mk (fun W => few_no a h1 W)
    clear h h1
    go_enter Tryd.func15, Tryd.ntmps15
    go_wp2_with (go_at_call 22; refine (HF.out _).mono ?_; rintro e w' ⟨rfl, ⟨nd, rfl⟩⟩)
    go_ret2
    exact ⟨rfl, (by repeat (first | (with_reducible first | exact HB.out | apply below_alloc | apply pw_below_drewN | apply below_drew1) | exact HB.out))⟩
set_option maxHeartbeats 4000000 in
set_option maxRecDepth 100000 in
theorem count_yes (n t : Nat) (hn : 1 ≤ n ∧ n ≤ 12) (ht : t ≤ 1000) (w : World) :
    Calls Tryd.prog 15 #[.int .i64 (n : Int), .int .i64 (t : Int)] w fun e w' => e = .returned (.tuple #[.int .i64 (cN (tks n) (2 ^ n) t : Int), .bool true]) ∧ Below w.heap.size w w' := by
  have HF := Aside0.mk (fun W => few_yes n hn W)
  have HC := Aside0.mk (fun W => counts_calls n hn.2 W)
  have HI := Aside0.mk (fun W => l1in_calls (t : Int) 0 1000 W)
  rw [decide_eq_true (by omega)] at HI
  have HB := Aside0.mk (Below.refl w.heap.size w)
  have HS : Aside0 (rdI (cntL (tks n) n (2 ^ n)) t = (cN (tks n) (2 ^ n) t : Int)) := ⟨cntL_get (tks n) n (2 ^ n) t⟩
  clear hn
  generalize cntL (tks n) n (2 ^ n) = out at *
  generalize (cN (tks n) (2 ^ n) t : Int) = S at *
  by_cases hl : t < out.length
  · go_enter Tryd.func15, Tryd.ntmps15
    go_wp2_with (first | (go_at_call 22; refine (HF.out _).mono ?_; rintro e w' ⟨rfl, ⟨nd, rfl⟩⟩) | (go_at_call 31; refine (HI.out _).mono ?_; rintro e w' ⟨rfl, ⟨nd2, rfl⟩⟩) | (go_at_call 29; refine (HC.out _).mono ?_; rintro e w3 ⟨v, rfl, ho, hb⟩; obtain ⟨A, c, rfl, hlc, hC⟩ := Kd.R_reads ho; have HCC := Aside0.mk hC; have HBn := Aside0.mk (below_step (by repeat (first | (with_reducible first | exact HB.out | apply below_alloc | apply pw_below_drewN | apply below_drew1) | exact HB.out)) hb); clear ho hC hb HB; have HB := HBn; clear HBn; obtain ⟨ad, e, hc⟩ := Kd.at_int HCC.out (t : Int) (by omega) (by omega); cases e; replace hc : w3.cell? (ad.add t) = some (.int .i64 (rdI out t)) := hc; rw [HS.out] at hc))
    go_ret2
    exact ⟨rfl, (by repeat (first | (with_reducible first | exact HB.out | apply below_alloc | apply pw_below_drewN | apply below_drew1) | exact HB.out))⟩
  · have h0 : S = 0 := by rw [← HS.out]; unfold rdI; rw [List.getD_eq_getElem?_getD, List.getElem?_eq_none (by omega)]; rfl
    subst h0
    go_enter Tryd.func15, Tryd.ntmps15
    go_wp2_with (first | (go_at_call 22; refine (HF.out _).mono ?_; rintro e w' ⟨rfl, ⟨nd, rfl⟩⟩) | (go_at_call 31; refine (HI.out _).mono ?_; rintro e w' ⟨rfl, ⟨nd2, rfl⟩⟩) | (go_at_call 29; refine (HC.out _).mono ?_; rintro e w3 ⟨v, rfl, ho, hb⟩; obtain ⟨A, c, rfl, hlc, hC⟩ := Kd.R_reads ho; have HCC := Aside0.mk hC; have HBn := Aside0.mk (below_step (by repeat (first | (with_reducible first | exact HB.out | apply below_alloc | apply pw_below_drewN | apply below_drew1) | exact HB.out)) hb); clear ho hC hb HB; have HB := HBn; clear HBn))
    go_ret2
    exact ⟨rfl, (by repeat (first | (with_reducible first | exact HB.out | apply below_alloc | apply pw_below_drewN | apply below_drew1) | exact HB.out))⟩
/-! ### the longest ones -/
set_option maxHeartbeats 4000000 in
set_option maxRecDepth 100000 in
theorem long_no (a : Int) (h : ¬ (1 ≤ a ∧ a ≤ 12)) (w : World) :
    Calls Tryd.prog 17 #[.int .i64 a] w fun e w' => e = .returned (.tuple #[.int .i64 0, .bool false]) ∧ Below w.heap.size w w' := by
  have HF := Aside0.mk (fun W => few_no a h W)
  clear h
  have HB := Aside0.mk (Below.refl w.heap.size w)
  go_enter Tryd.func17, Tryd.ntmps17
  go_wp2_with (go_at_call 22; refine (HF.out _).mono ?_; rintro e w' ⟨rfl, ⟨nd, rfl⟩⟩)
  go_ret2
  exact ⟨rfl, (by repeat (first | (with_reducible first | exact HB.out | apply below_alloc | apply pw_below_drewN | apply below_drew1) | exact HB.out))⟩
set_option maxHeartbeats 4000000 in
set_option maxRecDepth 100000 in
theorem long_yes (n : Nat) (hn : 1 ≤ n ∧ n ≤ 12) (w : World) :
    Calls Tryd.prog 17 #[.int .i64 (n : Int)] w fun e w' => e = .returned (.tuple #[.int .i64 (mxT (tks n) (2 ^ n) : Int), .bool true]) ∧ Below w.heap.size w w' := by
  have HF := Aside0.mk (fun W => few_yes n hn W)
  have HC := Aside0.mk (fun W => counts_calls n hn.2 W)
  have HB := Aside0.mk (Below.refl w.heap.size w)
  have hlen := (cntL_len (tks n) n 145 (by omega) (2 ^ n) (fun u _ => by have := tks_le n u hn.2; omega)).2
  have HS := Aside0.mk (lastT_cnt (tks n) n (2 ^ n) (Nat.pow_pos (by decide)))
  clear hn
  generalize cntL (tks n) n (2 ^ n) = out at *
  generalize mxT (tks n) (2 ^ n) = S at *
  go_enter Tryd.func17, Tryd.ntmps17
  go_wp2_with (first | (go_at_call 22; refine (HF.out _).mono ?_; rintro e w' ⟨rfl, ⟨nd, rfl⟩⟩) | (go_at_call 29; refine (HC.out _).mono ?_; rintro e w3 ⟨v, rfl, ho, hb⟩; obtain ⟨A, c, rfl, hlc, hC⟩ := Kd.R_reads ho; have HCC := Aside0.mk hC; have HBn := Aside0.mk (below_step (by repeat (first | (with_reducible first | exact HB.out | apply below_alloc | apply pw_below_drewN | apply below_drew1) | exact HB.out)) hb); clear ho hC hb HB; have HB := HBn; clear HBn))
  clear HF HC
  go_loopg [4, 13] out.length (fun kq v4 v13 w' => ∃ j : Nat, v4 = .int .i64 (lastT out j : Int) ∧ v13 = .int .i64 (j : Int) ∧ Aside0 (kq + j = out.length) ∧ Aside0 ((Kd.int .i64).C w' A out.length out) ∧ Aside0 (Below w.heap.size w w'))
  case atStart => exact ⟨0, rfl, rfl, ⟨rfl⟩, HCC, ⟨(by repeat (first | (with_reducible first | exact HB.out | apply below_alloc | apply pw_below_drewN | apply below_drew1) | exact HB.out))⟩⟩
  case round =>
    clear HCC HB
    obtain ⟨j, rfl, rfl, HK, HCC, HB⟩ := hrel
    by_cases hj : j < out.length
    · obtain ⟨ad, e, hc⟩ := Kd.at_int HCC.out (j : Int) (by omega) (by omega)
      cases e
      replace hc : wr.cell? (ad.add j) = some (.int .i64 (rdI out j)) := hc
      have HSW : Aside0 (lastT out (j + 1) = if rdI out j > 0 then j else lastT out j) := ⟨rfl⟩
      generalize rdI out j = q at *
      generalize lastT out j = s at *
      by_cases hq : 0 < q
      · go_wp2
        go_roundg (out.length - (j + 1))
        case measure => have := HK.out; omega
        case rel => exact ⟨j + 1, by rw [HSW.out, if_pos (show q > 0 by omega)], rfl, ⟨by have := HK.out; omega⟩, HCC, ⟨(by repeat (first | (with_reducible first | exact HB.out | apply below_alloc | apply pw_below_drewN | apply below_drew1) | exact HB.out))⟩⟩
      · go_wp2
        go_roundg (out.length - (j + 1))
        case measure => have := HK.out; omega
        case rel => exact ⟨j + 1, by rw [HSW.out, if_neg (show ¬ q > 0 by omega)], rfl, ⟨by have := HK.out; omega⟩, HCC, ⟨(by repeat (first | (with_reducible first | exact HB.out | apply below_alloc | apply pw_below_drewN | apply below_drew1) | exact HB.out))⟩⟩
    · have hjj : j = out.length := by have := HK.out; omega
      have HS2 : Aside0 (lastT out j = S) := ⟨by rw [hjj]; exact HS.out⟩
      generalize lastT out j = s at *
      go_wp2
      go_ret2
      exact ⟨by rw [HS2.out]; rfl, (by repeat (first | (with_reducible first | exact HB.out | apply below_alloc | apply pw_below_drewN | apply below_drew1) | exact HB.out))⟩
/-! ### the first of the longest ones -/
set_option maxHeartbeats 4000000 in
set_option maxRecDepth 100000 in
theorem first_no (a : Int) (h : ¬ (1 ≤ a ∧ a ≤ 12)) (w : World) :
    Calls Tryd.prog 19 #[.int .i64 a] w fun e w' => e = .returned (.tuple #[.string ⟨#[]⟩, .bool false]) ∧ Below w.heap.size w w' := by
  have HF := Aside0.mk (fun W => long_no a h W)
  clear h
  have HB := Aside0.mk (Below.refl w.heap.size w)
  go_enter Tryd.func19, Tryd.ntmps19
  go_wp2_with (go_at_call 17; refine (HF.out _).mono ?_; rintro e w3 ⟨rfl, hb⟩; have HBn := Aside0.mk (below_step (by repeat (first | (with_reducible first | exact HB.out | apply below_alloc | apply pw_below_drewN | apply below_drew1) | exact HB.out)) hb); clear hb HB; have HB := HBn; clear HBn)
  go_ret2
  exact ⟨rfl, (by repeat (first | (with_reducible first | exact HB.out | apply below_alloc | apply pw_below_drewN | apply below_drew1) | exact HB.out))⟩
set_option maxHeartbeats 4000000 in
set_option maxRecDepth 100000 in
theorem first_yes (n f : Nat) (hn : 1 ≤ n ∧ n ≤ 12) (hf : f < 2 ^ n ∧ tks n f = mxT (tks n) (2 ^ n) ∧ ∀ i, i < f → tks n i ≠ mxT (tks n) (2 ^ n)) (w : World) :
    Calls Tryd.prog 19 #[.int .i64 (n : Int)] w fun e w' => e = .returned (.tuple #[.string (bs (mkL n f)), .bool true]) ∧ Below w.heap.size w w' := by
  have HF := Aside0.mk (fun W => long_yes n hn W)
  have HB := Aside0.mk (Below.refl w.heap.size w)
  have HP := Aside0.mk (pow_12 n hn.2)
  have HFF := Aside0.mk hf
  have hn2 := hn.2
  clear hf hn
  have HMX := Aside0.mk (fun u => tks_le n u hn2)
  generalize hS : mxT (tks n) (2 ^ n) = S at *
  clear hS
  go_enter Tryd.func19, Tryd.ntmps19
  go_wp2_with (go_at_call 17; refine (HF.out _).mono ?_; rintro e w3 ⟨rfl, hb⟩; have HBn := Aside0.mk (below_step (by repeat (first | (with_reducible first | exact HB.out | apply below_alloc | apply pw_below_drewN | apply below_drew1) | exact HB.out)) hb); clear hb HB; have HB := HBn; clear HBn)
  clear HF
  go_loopg [6] f (fun kq v6 w' => ∃ j : Nat, v6 = .int .i64 (j : Int) ∧ Aside0 (kq + j = f) ∧ Aside0 (Below w.heap.size w w'))
  case atStart => exact ⟨0, rfl, ⟨rfl⟩, ⟨(by repeat (first | (with_reducible first | exact HB.out | apply below_alloc | apply pw_below_drewN | apply below_drew1) | exact HB.out))⟩⟩
  case round =>
    clear HB
    obtain ⟨j, rfl, HK, HB⟩ := hrel
    have hpw : wrap64 (2 ^ n) = ((2 ^ n : Nat) : Int) := by
      have := HP.out
      rw [show ((2 : Int) ^ n) = ((2 ^ n : Nat) : Int) by push_cast; rfl]
      generalize 2 ^ n = P at *
      unfold wrap64; omega
    have hjP : j < 2 ^ n := by have := HK.out; have := HFF.out.1; omega
    have hP4 : 2 ^ n ≤ 4096 := HP.out
    have HM := Aside0.mk (fun W => make_calls n j (by omega) (by omega) W)
    have HR := Aside0.mk (fun W => rest_calls (mkL n j) (by rw [mkL_len]; omega) W)
    have HT : Aside0 ((histL (mkL n j)).2.length = tks n j) := ⟨rfl⟩
    rw [HT.out] at HR
    have hT := tks_le n j hn2
    have HE := Aside0.mk (fun h : j < f => HFF.out.2.2 j h)
    have HE2 := Aside0.mk (fun h : j = f => h ▸ HFF.out.2.1)
    generalize hPe : 2 ^ n = P at *
    clear hPe
    generalize tks n j = T at *
    generalize histL (mkL n j) = hh at *
    generalize hb : bs (mkL n j) = b at *
    have HBB := Aside0.mk hb
    clear hb
    by_cases hjf : j < f
    · have hne : (((T : Int) == (S : Int))) = false := beq_eq_false_iff_ne.mpr (fun z => HE.out hjf (by omega))
      go_wp2_with (first
        | (go_at_call 35; refine (HM.out _).mono ?_; rintro e w4 ⟨rfl, ⟨nd, rfl⟩⟩)
        | (go_at_call 34; refine (HR.out _).mono ?_; rintro e w4 ⟨rfl, hb⟩; have HBn := Aside0.mk (below_step (by repeat (first | (with_reducible first | exact HB.out | apply below_alloc | apply pw_below_drewN | apply below_drew1) | exact HB.out)) hb); clear hb HB; have HB := HBn; clear HBn))
      go_roundg (f - (j + 1))
      case measure => have := HK.out; omega
      case rel => exact ⟨j + 1, rfl, ⟨by have := HK.out; omega⟩, ⟨(by repeat (first | (with_reducible first | exact HB.out | apply below_alloc | apply pw_below_drewN | apply below_drew1) | exact HB.out))⟩⟩
    · have hjj : j = f := by have := HK.out; omega
      obtain rfl : T = S := HE2.out hjj
      have HJ := Aside0.mk hjj
      clear hjj
      go_wp2_with (first
        | (go_at_call 35; refine (HM.out _).mono ?_; rintro e w4 ⟨rfl, ⟨nd, rfl⟩⟩)
        | (go_at_call 34; refine (HR.out _).mono ?_; rintro e w4 ⟨rfl, hb⟩; have HBn := Aside0.mk (below_step (by repeat (first | (with_reducible first | exact HB.out | apply below_alloc | apply pw_below_drewN | apply below_drew1) | exact HB.out)) hb); clear hb HB; have HB := HBn; clear HBn))
      go_ret2
      exact ⟨by rw [← HJ.out, HBB.out]; rfl, (by repeat (first | (with_reducible first | exact HB.out | apply below_alloc | apply pw_below_drewN | apply below_drew1) | exact HB.out))⟩
end Go.Proofs.YtleacijhpkogpaaDoor.RSpec
