/- Sums, counts and longest ticks, as the program tells them: the walks of impl.SumOfTicks, CountByTicks, LongestTicks, FirstLongest. -/
import Derived.Test.YtleacijhpkogpaaDoorRBy
import Derived.Test.YtleacijhpkogpaaDoorPFnExactFirstLongestx9
namespace Go.Proofs.YtleacijhpkogpaaDoor.RImpl
open Go.RowKit Go.Proofs.YtleacijhpkogpaaDoorW.PrintWords Go.Proofs.YtleacijhpkogpaaDoorW.PrintLast Go.Proofs.YtleacijhpkogpaaDoorW.PrintMore Go.Proofs.YtleacijhpkogpaaDoor.PFnExactFirstLongest Go.Shelf Go.Proofs.YtleacijhpkogpaaDoor.RPlain
set_option linter.unusedVariables false
set_option linter.unusedSimpArgs false

theorem in_calls (a b c : Int) (w : World) : Calls Tryd.prog 32 #[.int .i64 a, .int .i64 b, .int .i64 c] w fun e w' => e = .returned (.bool (decide (b ≤ a ∧ a ≤ c))) ∧ Drawn0 w w' :=
  impl_in.calls a b c _ w (by
    unfold impl_in.f
    by_cases h : b ≤ a
    · rw [if_pos h]
      by_cases h2 : a ≤ c
      · rw [decide_eq_true h2, decide_eq_true ⟨h, h2⟩]
      · rw [decide_eq_false h2, decide_eq_false (fun z => h2 z.2)]
    · rw [if_neg h, decide_eq_false (fun z => h z.1)])
theorem traced_calls (a : Int) (w : World) : Calls Tryd.prog 25 #[.int .i64 a] w fun e w' => e = .returned (.bool (decide (1 ≤ a ∧ a ≤ 12))) ∧ Drawn0 w w' :=
  impl_isTraced.calls a _ w (by
    unfold impl_isTraced.f impl_in.f
    by_cases h : 1 ≤ a
    · rw [if_pos h]
      by_cases h2 : a ≤ 12
      · rw [decide_eq_true h2, decide_eq_true ⟨h, h2⟩]; rfl
      · rw [decide_eq_false h2, decide_eq_false (fun z => h2 z.2)]; rfl
    · rw [if_neg h, decide_eq_false (fun z => h z.1)]; rfl)
theorem traced_yes (n : Nat) (h : 1 ≤ n ∧ n ≤ 12) (w : World) : Calls Tryd.prog 25 #[.int .i64 (n : Int)] w fun e w' => e = .returned (.bool true) ∧ Drawn0 w w' := by
  have := traced_calls (n : Int) w
  rwa [decide_eq_true (by omega)] at this
theorem traced_no (a : Int) (h : ¬ (1 ≤ a ∧ a ≤ 12)) (w : World) : Calls Tryd.prog 25 #[.int .i64 a] w fun e w' => e = .returned (.bool false) ∧ Drawn0 w w' := by
  have := traced_calls a w
  rwa [decide_eq_false h] at this
set_option maxHeartbeats 4000000 in
set_option maxRecDepth 100000 in
theorem sum_no (a : Int) (h : ¬ (1 ≤ a ∧ a ≤ 12)) (w : World) :
    Calls Tryd.prog 14 #[.int .i64 a] w fun e w' => e = .returned (.tuple #[.int .i64 0, .bool false]) ∧ Below w.heap.size w w' := by
  have HF := Aside0.mk (fun W => traced_no a h W)
  clear h
  have HB := Aside0.mk (Below.refl w.heap.size w)
  go_enter Tryd.func14, Tryd.ntmps14
  go_wp2_with (go_at_call 25; refine (HF.out _).mono ?_; rintro e w' ⟨rfl, ⟨nd, rfl⟩⟩)
  go_ret2
  exact ⟨rfl, (by repeat (first | (with_reducible first | exact HB.out | apply below_alloc | apply pw_below_drewN | apply below_drew1) | exact HB.out))⟩
set_option maxHeartbeats 4000000 in
set_option maxRecDepth 100000 in
theorem long_no (a : Int) (h : ¬ (1 ≤ a ∧ a ≤ 12)) (w : World) :
    Calls Tryd.prog 18 #[.int .i64 a] w fun e w' => e = .returned (.tuple #[.int .i64 0, .bool false]) ∧ Below w.heap.size w w' := by
  have HF := Aside0.mk (fun W => traced_no a h W)
  clear h
  have HB := Aside0.mk (Below.refl w.heap.size w)
  go_enter Tryd.func18, Tryd.ntmps18
  go_wp2_with (go_at_call 25; refine (HF.out _).mono ?_; rintro e w' ⟨rfl, ⟨nd, rfl⟩⟩)
  go_ret2
  exact ⟨rfl, (by repeat (first | (with_reducible first | exact HB.out | apply below_alloc | apply pw_below_drewN | apply below_drew1) | exact HB.out))⟩
set_option maxHeartbeats 4000000 in
set_option maxRecDepth 100000 in
theorem first_no (a : Int) (h : ¬ (1 ≤ a ∧ a ≤ 12)) (w : World) :
    Calls Tryd.prog 20 #[.int .i64 a] w fun e w' => e = .returned (.tuple #[.string ⟨#[]⟩, .bool false]) ∧ Below w.heap.size w w' := by
  have HF := Aside0.mk (fun W => traced_no a h W)
  clear h
  have HB := Aside0.mk (Below.refl w.heap.size w)
  go_enter Tryd.func20, Tryd.ntmps20
  go_wp2_with (go_at_call 25; refine (HF.out _).mono ?_; rintro e w' ⟨rfl, ⟨nd, rfl⟩⟩)
  go_ret2
  exact ⟨rfl, (by repeat (first | (with_reducible first | exact HB.out | apply below_alloc | apply pw_below_drewN | apply below_drew1) | exact HB.out))⟩
set_option maxHeartbeats 4000000 in
set_option maxRecDepth 100000 in
theorem sum_yes (n : Nat) (hn : 1 ≤ n ∧ n ≤ 12) (w : World) (hML : ML w) :
    Calls Tryd.prog 14 #[.int .i64 (n : Int)] w fun e w' => e = .returned (.tuple #[.int .i64 (sumT (tks n) (2 ^ n) : Int), .bool true]) ∧ Below w.heap.size w w' := by
  have HF := Aside0.mk (fun W => traced_yes n hn W)
  have HC := Aside0.mk (fun W (h : Below w.heap.size w W) => by_calls n hn W (hML.of_below h))
  have HB := Aside0.mk (Below.refl w.heap.size w)
  have hp := pow_12 n hn.2
  have hlen : (bT (tks n) (2 ^ n)).length ≤ 4096 := by rw [bT_len]; exact hp
  have HS : Aside0 (sumV (bT (tks n) (2 ^ n)) (bT (tks n) (2 ^ n)).length = (sumT (tks n) (2 ^ n) : Int)) := ⟨by rw [bT_len]; exact (sumV_bT (tks n) (2 ^ n) hp (fun u _ => tks_le n u hn.2) _ (Nat.le_refl _)).1⟩
  clear hn hp hML
  generalize bT (tks n) (2 ^ n) = out at *
  generalize (sumT (tks n) (2 ^ n) : Int) = S at *
  go_enter Tryd.func14, Tryd.ntmps14
  go_wp2_with (first | (go_at_call 25; refine (HF.out _).mono ?_; rintro e w' ⟨rfl, ⟨nd, rfl⟩⟩) | (go_at_call 30; refine (HC.out _ (by repeat (first | (with_reducible first | exact HB.out | apply below_alloc | apply pw_below_drewN | apply below_drew1) | exact HB.out))).mono ?_; rintro e w3 ⟨v, rfl, ho, hb⟩; obtain ⟨A, c, rfl, hlc, hC⟩ := Kd.R_reads ho; have HCC := Aside0.mk hC; have HBn := Aside0.mk (below_step (by repeat (first | (with_reducible first | exact HB.out | apply below_alloc | apply pw_below_drewN | apply below_drew1) | exact HB.out)) hb); clear ho hC hb HB; have HB := HBn; clear HBn))
  clear HF HC
  go_loopg [4, 13] out.length (fun kq v4 v13 w' => ∃ j : Nat, v4 = .int .i64 (sumV out j) ∧ v13 = .int .i64 (j : Int) ∧ Aside0 (kq + j = out.length) ∧ Aside0 ((Kd.int .i64).C w' A out.length out) ∧ Aside0 (Below w.heap.size w w'))
  case atStart => exact ⟨0, rfl, rfl, ⟨rfl⟩, HCC, ⟨(by repeat (first | (with_reducible first | exact HB.out | apply below_alloc | apply pw_below_drewN | apply below_drew1) | exact HB.out))⟩⟩
  case round =>
    clear HCC HB
    obtain ⟨j, rfl, rfl, HK, HCC, HB⟩ := hrel
    by_cases hj : j < out.length
    · obtain ⟨ad, e, hc⟩ := Kd.at_int HCC.out (j : Int) (by omega) (by omega)
      cases e
      replace hc : wr.cell? (ad.add j) = some (.int .i64 (rdI out j)) := hc
      have HSW : Aside0 (sumV out (j + 1) = wrap64 (sumV out j + rdI out j)) := ⟨rfl⟩
      generalize rdI out j = q at *
      generalize sumV out j = s at *
      go_wp2
      go_roundg (out.length - (j + 1))
      case measure => have := HK.out; omega
      case rel => exact ⟨j + 1, by rw [HSW.out], rfl, ⟨by have := HK.out; omega⟩, HCC, ⟨(by repeat (first | (with_reducible first | exact HB.out | apply below_alloc | apply pw_below_drewN | apply below_drew1) | exact HB.out))⟩⟩
    · have hjj : j = out.length := by have := HK.out; omega
      have HS2 : Aside0 (sumV out j = S) := ⟨by rw [hjj]; exact HS.out⟩
      generalize sumV out j = s at *
      go_wp2
      go_ret2
      exact ⟨by rw [HS2.out]; rfl, (by repeat (first | (with_reducible first | exact HB.out | apply below_alloc | apply pw_below_drewN | apply below_drew1) | exact HB.out))⟩
set_option maxHeartbeats 4000000 in
set_option maxRecDepth 100000 in
theorem long_yes (n : Nat) (hn : 1 ≤ n ∧ n ≤ 12) (w : World) (hML : ML w) :
    Calls Tryd.prog 18 #[.int .i64 (n : Int)] w fun e w' => e = .returned (.tuple #[.int .i64 (mxT (tks n) (2 ^ n) : Int), .bool true]) ∧ Below w.heap.size w w' := by
  have HF := Aside0.mk (fun W => traced_yes n hn W)
  have HC := Aside0.mk (fun W (h : Below w.heap.size w W) => by_calls n hn W (hML.of_below h))
  have HB := Aside0.mk (Below.refl w.heap.size w)
  have hp := pow_12 n hn.2
  have hp0 : 0 < 2 ^ n := Nat.pow_pos (by decide)
  have hlen : 0 < (bT (tks n) (2 ^ n)).length ∧ (bT (tks n) (2 ^ n)).length ≤ 1000000 := by rw [bT_len]; omega
  have hS : mxU (bT (tks n) (2 ^ n)) ((bT (tks n) (2 ^ n)).length - 1) = (mxT (tks n) (2 ^ n) : Int) := by
    rw [bT_len, mxU_bT _ _ _ (by omega)]
    rw [show 2 ^ n - 1 + 1 = 2 ^ n by omega]
  have HM := Aside0.mk (fun A c (h : (bT (tks n) (2 ^ n)).length ≤ c) W hC => max_calls A c (bT (tks n) (2 ^ n)) hlen h W hC)
  rw [hS] at HM
  clear hn hp hML hp0 hS hlen
  generalize bT (tks n) (2 ^ n) = out at *
  generalize (mxT (tks n) (2 ^ n) : Int) = S at *
  go_enter Tryd.func18, Tryd.ntmps18
  go_wp2_with (first | (go_at_call 25; refine (HF.out _).mono ?_; rintro e w' ⟨rfl, ⟨nd, rfl⟩⟩) | (go_at_call 30; refine (HC.out _ (by repeat (first | (with_reducible first | exact HB.out | apply below_alloc | apply pw_below_drewN | apply below_drew1) | exact HB.out))).mono ?_; rintro e w3 ⟨v, rfl, ho, hb⟩; obtain ⟨A, c, rfl, hlc, hC⟩ := Kd.R_reads ho; have HCC := Aside0.mk hC; have HBn := Aside0.mk (below_step (by repeat (first | (with_reducible first | exact HB.out | apply below_alloc | apply pw_below_drewN | apply below_drew1) | exact HB.out)) hb); clear ho hC hb HB; have HB := HBn; clear HBn) | (go_at_call 33; refine (HM.out _ _ hlc _ HCC.out).mono ?_; rintro e w4 ⟨rfl, hb⟩; have HBn := Aside0.mk (below_step (by repeat (first | (with_reducible first | exact HB.out | apply below_alloc | apply pw_below_drewN | apply below_drew1) | exact HB.out)) hb); clear hb HB; have HB := HBn; clear HBn))
  go_ret2
  exact ⟨rfl, (by repeat (first | (with_reducible first | exact HB.out | apply below_alloc | apply pw_below_drewN | apply below_drew1) | exact HB.out))⟩
set_option maxHeartbeats 4000000 in
set_option maxRecDepth 100000 in
theorem first_yes (n f : Nat) (hn : 1 ≤ n ∧ n ≤ 12) (hf : f < 2 ^ n ∧ tks n f = mxT (tks n) (2 ^ n) ∧ ∀ i, i < f → tks n i ≠ mxT (tks n) (2 ^ n)) (w : World) (hML : ML w) :
    Calls Tryd.prog 20 #[.int .i64 (n : Int)] w fun e w' => e = .returned (.tuple #[.string (bs (mkL n f)), .bool true]) ∧ Below w.heap.size w w' := by
  have HF := Aside0.mk (fun W => traced_yes n hn W)
  have HC := Aside0.mk (fun W (h : Below w.heap.size w W) => by_calls n hn W (hML.of_below h))
  have HB := Aside0.mk (Below.refl w.heap.size w)
  have hp := pow_12 n hn.2
  have hp0 : 0 < 2 ^ n := Nat.pow_pos (by decide)
  have hlen : 0 < (bT (tks n) (2 ^ n)).length ∧ (bT (tks n) (2 ^ n)).length ≤ 1000000 := by rw [bT_len]; omega
  have hS : mxU (bT (tks n) (2 ^ n)) ((bT (tks n) (2 ^ n)).length - 1) = (mxT (tks n) (2 ^ n) : Int) := by
    rw [bT_len, mxU_bT _ _ _ (by omega)]
    rw [show 2 ^ n - 1 + 1 = 2 ^ n by omega]
  have HM := Aside0.mk (fun A c (h : (bT (tks n) (2 ^ n)).length ≤ c) W hC => max_calls A c (bT (tks n) (2 ^ n)) hlen h W hC)
  rw [hS] at HM
  have HX := Aside0.mk (fun A c (h : (bT (tks n) (2 ^ n)).length ≤ c) W hC => index_calls A c (bT (tks n) (2 ^ n)) (mxT (tks n) (2 ^ n) : Int) f (by rw [bT_len]; exact hf.1) hlen.2 (by rw [bT_rd _ _ _ hf.1, hf.2.1]) (fun i hi => by rw [bT_rd _ _ _ (by omega)]; have := hf.2.2 i hi; omega) h W hC)
  have HR := Aside0.mk (fun W => rowOf_calls n f (by omega) (by omega) W)
  clear hn hp hML hp0 hS hlen hf
  generalize bT (tks n) (2 ^ n) = out at *
  generalize (mxT (tks n) (2 ^ n) : Int) = S at *
  generalize bs (mkL n f) = b at *
  go_enter Tryd.func20, Tryd.ntmps20
  go_wp2_with (first | (go_at_call 25; refine (HF.out _).mono ?_; rintro e w' ⟨rfl, ⟨nd, rfl⟩⟩) | (go_at_call 30; refine (HC.out _ (by repeat (first | (with_reducible first | exact HB.out | apply below_alloc | apply pw_below_drewN | apply below_drew1) | exact HB.out))).mono ?_; rintro e w3 ⟨v, rfl, ho, hb⟩; obtain ⟨A, c, rfl, hlc, hC⟩ := Kd.R_reads ho; have HCC := Aside0.mk hC; have HBn := Aside0.mk (below_step (by repeat (first | (with_reducible first | exact HB.out | apply below_alloc | apply pw_below_drewN | apply below_drew1) | exact HB.out)) hb); clear ho hC hb HB; have HB := HBn; clear HBn) | (go_at_call 33; refine (HM.out _ _ hlc _ HCC.out).mono ?_; rintro e w4 ⟨rfl, hb⟩; have HCn := Aside0.mk (Kd.C_below HCC.out hb); have HBn := Aside0.mk (below_step (by repeat (first | (with_reducible first | exact HB.out | apply below_alloc | apply pw_below_drewN | apply below_drew1) | exact HB.out)) hb); clear hb HB HCC; have HB := HBn; have HCC := HCn; clear HBn HCn) | (go_at_call 36; refine (HX.out _ _ hlc _ HCC.out).mono ?_; rintro e w5 ⟨rfl, ⟨nd3, rfl⟩⟩) | (go_at_call 26; refine (HR.out _).mono ?_; rintro e w6 ⟨rfl, hb⟩; have HBn := Aside0.mk (below_step (by repeat (first | (with_reducible first | exact HB.out | apply below_alloc | apply pw_below_drewN | apply below_drew1) | exact HB.out)) hb); clear hb HB; have HB := HBn; clear HBn))
  go_ret2
  exact ⟨rfl, (by repeat (first | (with_reducible first | exact HB.out | apply below_alloc | apply pw_below_drewN | apply below_drew1) | exact HB.out))⟩
set_option maxHeartbeats 4000000 in
set_option maxRecDepth 100000 in
theorem count_no (a b : Int) (h : ¬ ((1 ≤ a ∧ a ≤ 12) ∧ (0 ≤ b ∧ b ≤ 1000))) (w : World) :
    Calls Tryd.prog 16 #[.int .i64 a, .int .i64 b] w fun e w' => e = .returned (.tuple #[.int .i64 0, .bool false]) ∧ Below w.heap.size w w' := by
  have HB := Aside0.mk (Below.refl w.heap.size w)
  by_cases h1 : 1 ≤ a ∧ a ≤ 12
  · have HF := Aside0.mk (fun W => traced_calls a W)
    rw [decide_eq_true h1] at HF
    have HI := Aside0.mk (fun W => in_calls b 0 1000 W)
    rw [decide_eq_false (fun z => h ⟨h1, z⟩)] at HI
    clear h h1
    go_enter Tryd.func16, Tryd.ntmps16
    go_wp2_with (first | (go_at_call 25; refine (HF.out _).mono ?_; rintro e w' ⟨rfl, ⟨nd, rfl⟩⟩) | (go_at_call 32; refine (HI.out _).mono ?_; rintro e w' ⟨rfl, ⟨nd2, rfl⟩⟩))
    go_ret2
    exact ⟨rfl, (by repeat (first | (with_reducible first | exact HB.out | apply below_alloc | apply pw_below_drewN | apply below_drew1) | exact HB.out))⟩
  · have HF := Aside0.mk (fun W => traced_no a h1 W)
    clear h h1
    go_enter Tryd.func16, Tryd.ntmps16
    go_wp2_with (go_at_call 25; refine (HF.out _).mono ?_; rintro e w' ⟨rfl, ⟨nd, rfl⟩⟩)
    go_ret2
    exact ⟨rfl, (by repeat (first | (with_reducible first | exact HB.out | apply below_alloc | apply pw_below_drewN | apply below_drew1) | exact HB.out))⟩
set_option maxHeartbeats 4000000 in
set_option maxRecDepth 100000 in
theorem count_yes (n t : Nat) (hn : 1 ≤ n ∧ n ≤ 12) (ht : t ≤ 1000) (w : World) (hML : ML w) :
    Calls Tryd.prog 16 #[.int .i64 (n : Int), .int .i64 (t : Int)] w fun e w' => e = .returned (.tuple #[.int .i64 (cN (tks n) (2 ^ n) t : Int), .bool true]) ∧ Below w.heap.size w w' := by
  have HF := Aside0.mk (fun W => traced_yes n hn W)
  have HC := Aside0.mk (fun W (h : Below w.heap.size w W) => by_calls n hn W (hML.of_below h))
  have HI := Aside0.mk (fun W => in_calls (t : Int) 0 1000 W)
  rw [decide_eq_true (by omega)] at HI
  have HB := Aside0.mk (Below.refl w.heap.size w)
  have hp := pow_12 n hn.2
  have hlen : (bT (tks n) (2 ^ n)).length ≤ 4096 := by rw [bT_len]; exact hp
  have HS : Aside0 (cntV (bT (tks n) (2 ^ n)) (t : Int) (bT (tks n) (2 ^ n)).length = cN (tks n) (2 ^ n) t) := ⟨by rw [bT_len]; exact cntV_bT (tks n) (2 ^ n) t _ (Nat.le_refl _)⟩
  have HLE : ∀ j, cntV (bT (tks n) (2 ^ n)) (t : Int) j ≤ j := by
    intro j
    induction j with
    | zero => exact Nat.le_refl _
    | succ j ih => rw [cntV]; split <;> omega
  have HLE' := Aside0.mk HLE
  clear hn hp hML HLE
  generalize bT (tks n) (2 ^ n) = out at *
  generalize cN (tks n) (2 ^ n) t = S at *
  go_enter Tryd.func16, Tryd.ntmps16
  go_wp2_with (first | (go_at_call 25; refine (HF.out _).mono ?_; rintro e w' ⟨rfl, ⟨nd, rfl⟩⟩) | (go_at_call 32; refine (HI.out _).mono ?_; rintro e w' ⟨rfl, ⟨nd2, rfl⟩⟩) | (go_at_call 30; refine (HC.out _ (by repeat (first | (with_reducible first | exact HB.out | apply below_alloc | apply pw_below_drewN | apply below_drew1) | exact HB.out))).mono ?_; rintro e w3 ⟨v, rfl, ho, hb⟩; obtain ⟨A, c, rfl, hlc, hC⟩ := Kd.R_reads ho; have HCC := Aside0.mk hC; have HBn := Aside0.mk (below_step (by repeat (first | (with_reducible first | exact HB.out | apply below_alloc | apply pw_below_drewN | apply below_drew1) | exact HB.out)) hb); clear ho hC hb HB; have HB := HBn; clear HBn))
  clear HF HC HI
  go_loopg [6, 20] out.length (fun kq v6 v20 w' => ∃ j : Nat, v6 = .int .i64 (cntV out (t : Int) j : Int) ∧ v20 = .int .i64 (j : Int) ∧ Aside0 (kq + j = out.length) ∧ Aside0 ((Kd.int .i64).C w' A out.length out) ∧ Aside0 (Below w.heap.size w w'))
  case atStart => exact ⟨0, rfl, rfl, ⟨rfl⟩, HCC, ⟨(by repeat (first | (with_reducible first | exact HB.out | apply below_alloc | apply pw_below_drewN | apply below_drew1) | exact HB.out))⟩⟩
  case round =>
    clear HCC HB
    obtain ⟨j, rfl, rfl, HK, HCC, HB⟩ := hrel
    have hle := HLE'.out j
    by_cases hj : j < out.length
    · obtain ⟨ad, e, hc⟩ := Kd.at_int HCC.out (j : Int) (by omega) (by omega)
      cases e
      replace hc : wr.cell? (ad.add j) = some (.int .i64 (rdI out j)) := hc
      have HSW : Aside0 (cntV out (t : Int) (j + 1) = cntV out (t : Int) j + if rdI out j = (t : Int) then 1 else 0) := ⟨rfl⟩
      generalize rdI out j = q at *
      generalize cntV out (t : Int) j = s at *
      by_cases hq : q = (t : Int)
      · have hqb : (q == (t : Int)) = true := beq_iff_eq.mpr hq
        have HSW2 : Aside0 (cntV out (t : Int) (j + 1) = s + 1) := ⟨by rw [HSW.out, if_pos hq]⟩
        clear hq
        go_wp2
        go_roundg (out.length - (j + 1))
        case measure => have := HK.out; omega
        case rel => exact ⟨j + 1, by rw [HSW2.out]; rfl, rfl, ⟨by have := HK.out; omega⟩, HCC, ⟨(by repeat (first | (with_reducible first | exact HB.out | apply below_alloc | apply pw_below_drewN | apply below_drew1) | exact HB.out))⟩⟩
      · have hqb : (q == (t : Int)) = false := beq_eq_false_iff_ne.mpr hq
        have HSW2 : Aside0 (cntV out (t : Int) (j + 1) = s) := ⟨by rw [HSW.out, if_neg hq]; rfl⟩
        clear hq
        go_wp2
        go_roundg (out.length - (j + 1))
        case measure => have := HK.out; omega
        case rel => exact ⟨j + 1, by rw [HSW2.out], rfl, ⟨by have := HK.out; omega⟩, HCC, ⟨(by repeat (first | (with_reducible first | exact HB.out | apply below_alloc | apply pw_below_drewN | apply below_drew1) | exact HB.out))⟩⟩
    · have hjj : j = out.length := by have := HK.out; omega
      have HS2 : Aside0 (cntV out (t : Int) j = S) := ⟨by rw [hjj]; exact HS.out⟩
      generalize cntV out (t : Int) j = s at *
      go_wp2
      go_ret2
      exact ⟨by rw [HS2.out]; rfl, (by repeat (first | (with_reducible first | exact HB.out | apply below_alloc | apply pw_below_drewN | apply below_drew1) | exact HB.out))⟩
end Go.Proofs.YtleacijhpkogpaaDoor.RImpl
