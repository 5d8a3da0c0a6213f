/- What is known of heights that are good, of steps and of windows: for the laws on who is seen. -/
import Derived.Test.YtleacijhpkogpacHBigP
import Derived.Test.YtleacijhpkogpacHSFL
import Derived.Test.YtleacijhpkogpacHStep
import Derived.Test.YtleacijhpkogpacHNext
import Derived.Test.YtleacijhpkogpacHTW
import Derived.Test.YtleacijhpkogpacHBigS9
namespace Go.Proofs.Ytleacijhpkogpac.HFactS
open Go.RowKit Go.Proofs.YtleacijhpkogpacW.PrintWords Go.Proofs.YtleacijhpkogpacW.PrintLast Go.Proofs.YtleacijhpkogpacW.PrintMore Go.Proofs.Ytleacijhpkogpac.HImpl Go.Proofs.Ytleacijhpkogpac.HSeen Go.Proofs.Ytleacijhpkogpac.HMax Go.Proofs.Ytleacijhpkogpac.HPairs Go.Proofs.Ytleacijhpkogpac.HNext Go.Proofs.Ytleacijhpkogpac.HBigP
set_option linter.unusedVariables false
set_option linter.unusedSimpArgs false

theorem nt_rd (l : List Int) (n i : Nat) (h : i < n) : rd (ntR l n) (i : Int) = ntAt l i := by
  simp [rd, ntR, List.getD_eq_getElem?_getD, List.getElem?_map, h]
theorem rows_two (l : List Int) : ∀ r ∈ pairsL l, r.length = 2 := fun r hr => by
  obtain ⟨i, j, e, _⟩ := pairs_facts l r hr
  rw [e]; rfl
theorem pairs_len (l : List Int) (h : l.length ≤ 40) : (pairsL l).length ≤ 1600 := by
  have h1 := prI_len l l.length 0
  have h2 := Nat.mul_le_mul h h
  unfold pairsL
  omega
theorem good_facts (l : List Int) (hg : good l = true) (lf rg nx mi tu : List Int) (Pr : List (List Int)) (hlf_ : seenR l 0 0 = lf) (hrg_ : rightL l = rg) (hnx_ : ntR l l.length = nx) (hmi_ : l.reverse = mi) (htu_ : seenR l.reverse 0 0 = tu) (hpr_ : pairsL l = Pr) :
    ∃ (j1 j2 : Nat) (M : Int), (l.length ≤ 40) ∧ (1 ≤ l.length) ∧ (0 < lf.length ∧ lf.length ≤ 40) ∧ (0 < rg.length ∧ rg.length ≤ 40) ∧ (j1 < l.length) ∧ (j2 < l.length) ∧ (rd lf 0 = 0) ∧ (rd lf ((lf.length : Int) - 1) = (j1 : Int)) ∧ (rd l (j1 : Int) = M) ∧ (rd rg ((rg.length : Int) - 1) = (l.length : Int) - 1) ∧ (rd rg 0 = (j2 : Int)) ∧ (rd l (j2 : Int) = M) ∧ (HMax.maxL l 0 = M) ∧ (lf.Pairwise (· < ·)) ∧ (rg.Pairwise (· < ·)) ∧ (Pr.length ≤ 1048576 ∧ ∀ r ∈ Pr, r.length ≤ 1048576) ∧ (∀ i : Nat, i < l.length → decide ((i : Int) ∈ lf) = decide (HMax.maxL (l.take i) 0 < rd l (i : Int))) ∧ (∀ i : Nat, i < l.length → (rd nx (i : Int) = -1 ∧ HMax.maxL (l.drop i) 0 ≤ rd l (i : Int)) ∨ ∃ k : Nat, rd nx (i : Int) = (k : Int) ∧ i < k ∧ k < l.length ∧ rd l (i : Int) < rd l (k : Int) ∧ HMax.maxL ((l.take k).drop i) 0 ≤ rd l (i : Int)) ∧ (∀ i : Nat, i + 1 < l.length → [(i : Int), (i : Int) + 1] ∈ Pr) ∧ (∀ q : Nat, q < Pr.length → ∃ a b : Nat, PFnHeightsSeenOfAll.rd_L1 Pr (q : Int) = [(a : Int), (b : Int)] ∧ a < b ∧ b < l.length ∧ HMax.maxL ((l.take b).drop (a + 1)) 0 < rd l (a : Int) ∧ HMax.maxL ((l.take b).drop (a + 1)) 0 < rd l (b : Int)) ∧ (rg.length = tu.length) ∧ (∀ i j : Nat, i + j + 1 = rg.length → rd rg (j : Int) = (l.length : Int) - 1 - rd tu (i : Int) ∧ 0 ≤ rd tu (i : Int) ∧ rd tu (i : Int) < (l.length : Int)) ∧ nx.length = l.length ∧ mi.length = l.length ∧ (∀ (A : Option Addr) (c : Nat) (W : World), Kd.C (Kd.int .i64) W A mi.length mi → mi.length ≤ c → Calls Try.prog 21 #[.slice A mi.length c] W fun e w' => ∃ v, e = .returned (.tuple #[v, .bool true]) ∧ Kd.R (Kd.int .i64) 3 w' W.heap.size (fun _ => True) v tu ∧ Below W.heap.size W w') ∧ (∀ (A : Option Addr) (c : Nat) (W : World), Kd.C (Kd.int .i64) W A mi.length mi → mi.length ≤ c → Calls Try.prog 27 #[.slice A mi.length c] W fun e w' => ∃ v, e = .returned (.tuple #[v, .bool true]) ∧ Kd.R (Kd.int .i64) 3 w' W.heap.size (fun _ => True) v l ∧ Below W.heap.size W w') := by
  subst hlf_ hrg_ hnx_ hmi_ htu_ hpr_
  have hl := good_len hg
  have hp : ∀ x ∈ l, 1 ≤ x := fun x hx => (good_mem hg x hx).1
  have hbig : l.length ≤ 1048576 := by omega
  obtain ⟨a1, a2, j1, a3, a4, a5⟩ := seen_facts l hl.1 hp
  obtain ⟨b1, b2, j2, b3, b4, b5⟩ := right_facts l hl.1 hbig hp
  have hsl := seenR_len l 0 0
  have hrl := rightL_len l
  have hsr := seenR_len l.reverse 0 0
  have hgr := good_reverse l hg
  rw [List.length_reverse] at hsr
  refine ⟨j1, j2, maxL l 0, hl.2, hl.1, ⟨a1, by omega⟩, ⟨b1, by omega⟩, a3, b3, a2, a4, a5, b2, b4, b5, rfl, seenR_lt l 0 0, right_lt l hbig, ⟨by have := pairs_len l hl.2; omega, fun r hr => by rw [rows_two l r hr]; decide⟩,
    fun i hi => decide_eq_decide.2 (seen_has l i hi), fun i hi => ?_, fun i hi => ?_, fun q hq => ?_, hrl, fun i j hij => ?_, ntR_len l l.length, List.length_reverse, fun A c W hC hc => ?_, fun A c W hC hc => ?_⟩
  · rw [nt_rd l l.length i hi]
    exact next_facts l hbig i hi (by have := hp _ (rd_in (l := l) (i := (i : Int)) (by omega) (by omega)); omega)
  · have := pairs_next l i hi hp
    rw [show (((i + 1 : Nat) : Int)) = (i : Int) + 1 by omega] at this
    exact this
  · rw [HLawV.rd_row _ q hq]
    obtain ⟨i, j, e, h1, h2, h3, h4⟩ := pairs_facts l _ (List.getElem_mem hq)
    exact ⟨i, j, e, h1, h2, h3, h4⟩
  · have h1 := right_rd l hbig i (by omega)
    rw [show ((rightL l).length : Int) - 1 - (i : Int) = (j : Int) by omega] at h1
    have h2 := seen_in l.reverse _ (rd_in (l := seenR l.reverse 0 0) (i := (i : Int)) (by omega) (by omega))
    rw [List.length_reverse] at h2
    exact ⟨h1, h2.1, h2.2⟩
  · have := HSFL.impl_SeenFromLeft A c l.reverse (by rw [List.length_reverse]; omega) W hC hc
    rw [hgr] at this
    exact this
  · have := HMir.impl_MirrorHeights A c l.reverse (by rw [List.length_reverse]; omega) W hC hc
    rw [hgr, List.reverse_reverse] at this
    exact this
theorem rd_set (l : List Int) (i : Nat) (v : Int) (h : i < l.length) : rd (l.set i v) (i : Int) = v := by
  simp [rd, List.getD_eq_getElem?_getD, List.getElem?_set_self h]
theorem set_back (l : List Int) (i : Nat) (v : Int) (h : i < l.length) : (l.set i v).set i (rd l (i : Int)) = l := by
  rw [List.set_set, rd, List.getD_eq_getElem?_getD, Int.toNat_natCast, List.getElem?_eq_getElem h]
  simp
theorem step_len (l : List Int) (a1 a2 : Int) : ((HStep.stepT l a1 a2).getD []).length ≤ l.length := by
  unfold HStep.stepT
  split <;> simp
theorem step_facts (hh up : List Int) (k by_ : Int) (h : HStep.stepT hh k by_ = some up) : (∃ kk : Nat, k = (kk : Int) ∧ kk < hh.length ∧ hh.length ≤ 40 ∧ up.length = hh.length ∧ (-100 ≤ by_ ∧ by_ ≤ 100) ∧ rd up (kk : Int) = rd hh (kk : Int) + by_ ∧ (-1000 ≤ rd hh (kk : Int) ∧ rd hh (kk : Int) ≤ 1000)) ∧ HStep.stepT up k (-by_) = some hh := by
  unfold HStep.stepT at h
  split at h
  · rename_i c
    obtain ⟨hg, ⟨h0, h1⟩, h2, h3⟩ := c
    obtain ⟨kk, rfl⟩ := Int.eq_ofNat_of_zero_le h0
    have hl := good_len hg
    have hk : kk < hh.length := by omega
    have hv := HStep.good_rd hg kk hk
    rw [Int.toNat_natCast] at h
    have hu : hh.set kk (rd hh (kk : Int) + by_) = up := Option.some.inj h
    subst hu
    have hr := rd_set hh kk (rd hh (kk : Int) + by_) hk
    refine ⟨⟨kk, rfl, hk, hl.2, List.length_set .., ⟨by omega, by omega⟩, hr, ⟨by omega, by omega⟩⟩, ?_⟩
    have hgu : good (hh.set kk (rd hh (kk : Int) + by_)) = true := by
      unfold good
      rw [List.length_set, decide_eq_true hl.1, decide_eq_true hl.2, Bool.true_and, Bool.true_and, List.all_eq_true]
      intro x hx
      rw [Bool.and_eq_true, decide_eq_true_eq, decide_eq_true_eq]
      rcases List.mem_or_eq_of_mem_set hx with hx | hx
      · exact good_mem hg x hx
      · omega
    unfold HStep.stepT
    rw [if_pos ⟨hgu, ⟨by omega, by rw [List.length_set]; omega⟩, by rw [hr]; omega, by rw [hr]; omega⟩, hr, Int.toNat_natCast, show rd hh (kk : Int) + by_ + -by_ = rd hh (kk : Int) by omega, set_back hh kk _ hk]
  · cases h
theorem win_rd (l : List Int) (m : Nat) : ∀ (d k i : Nat), i < d → rd (HTW.winL l m k d) (i : Int) = maxL ((l.take (k + i + m)).drop (k + i)) 0
  | 0, k, i, h => by omega
  | d + 1, k, 0, _ => by rw [HTW.winL]; rfl
  | d + 1, k, i + 1, h => by
    have ih := win_rd l m d (k + 1) i (by omega)
    rw [show k + 1 + i = k + (i + 1) by omega] at ih
    rw [HTW.winL, ← ih]
    simp [rd, List.getD_eq_getElem?_getD]
theorem win_len (l : List Int) (m : Int) : ((HTW.winT l m).getD []).length ≤ l.length + 1 := by
  unfold HTW.winT
  split
  · simp only [Option.getD_some, HTW.winL_len]; omega
  · simp
theorem win_facts (ww ta : List Int) (width : Int) (h : HTW.winT ww width = some ta) : ∃ m : Nat, width = (m : Int) ∧ ww.length ≤ 40 ∧ ta.length + m = ww.length + 1 ∧ m ≤ ww.length ∧ (∀ i : Nat, i < ta.length → rd ta (i : Int) = HMax.maxL ((ww.take (i + m)).drop i) 0) := by
  unfold HTW.winT at h
  split at h
  · rename_i c
    obtain ⟨hg, h1, h2⟩ := c
    obtain ⟨m, rfl⟩ := Int.eq_ofNat_of_zero_le (show 0 ≤ width by omega)
    have hl := good_len hg
    rw [Int.toNat_natCast] at h
    have hu : HTW.winL ww m 0 (ww.length + 1 - m) = ta := Option.some.inj h
    subst hu
    have e := HTW.winL_len ww m (ww.length + 1 - m) 0
    refine ⟨m, rfl, hl.2, by omega, by omega, fun i hi => ?_⟩
    have := win_rd ww m (ww.length + 1 - m) 0 i (by omega)
    rw [Nat.zero_add] at this
    exact this
  · cases h
end Go.Proofs.Ytleacijhpkogpac.HFactS
/- The law on who is seen (FnHeightsSeenOfAll): its walk, joined with what the functions that it calls tell. -/
namespace Go.Proofs.Ytleacijhpkogpac.HLaw
open Go.RowKit Go.Proofs.YtleacijhpkogpacW.PrintWords Go.Proofs.YtleacijhpkogpacW.PrintLast Go.Proofs.YtleacijhpkogpacW.PrintMore Go.Proofs.Ytleacijhpkogpac.HImpl Go.Proofs.Ytleacijhpkogpac.HSeen Go.Proofs.Ytleacijhpkogpac.HMax Go.Proofs.Ytleacijhpkogpac.HPairs Go.Proofs.Ytleacijhpkogpac.HNext Go.Proofs.Ytleacijhpkogpac.HFactS
set_option linter.unusedVariables false
set_option linter.unusedSimpArgs false

set_option maxHeartbeats 8000000 in
set_option maxRecDepth 100000 in
theorem seen_long (A0 : Option Addr) (c0 : Nat) (l : List Int) (Ah : Option Addr) (ch : Nat) (hh : List Int) (k by_ : Int) (Aw : Option Addr) (cw : Nat) (ww : List Int) (width : Int) (w : World) (h : ¬ (l.length ≤ 10000 ∧ hh.length ≤ 10000 ∧ ww.length ≤ 10000)) :
    Calls Try.prog 6 #[.slice A0 l.length c0, .slice Ah hh.length ch, .int .i64 k, .int .i64 by_, .slice Aw ww.length cw, .int .i64 width] w fun e w' => e = .returned (.bool true) ∧ Below w.heap.size w w' := by
  have HB := Aside0.mk (Below.refl w.heap.size w)
  have HN := Aside0.mk h
  clear h
  go_enter Try.func6, Try.ntmps6
  cases d1 : decide ((10000 : Int) < (l.length : Int)) with
  | true =>
    go_wp2_with fail
    go_ret
    exact ⟨rfl, (by repeat (first | (with_reducible first | exact HB.out | apply below_alloc | apply pw_below_drewN | apply below_drew1) | exact HB.out))⟩
  | false =>
  cases d2 : decide ((10000 : Int) < (hh.length : Int)) with
  | true =>
    go_wp2_with fail
    go_ret
    exact ⟨rfl, (by repeat (first | (with_reducible first | exact HB.out | apply below_alloc | apply pw_below_drewN | apply below_drew1) | exact HB.out))⟩
  | false =>
  cases d3 : decide ((10000 : Int) < (ww.length : Int)) with
  | true =>
    go_wp2_with fail
    go_ret
    exact ⟨rfl, (by repeat (first | (with_reducible first | exact HB.out | apply below_alloc | apply pw_below_drewN | apply below_drew1) | exact HB.out))⟩
  | false =>
  exfalso
  have e1 := of_decide_eq_false d1
  have e2 := of_decide_eq_false d2
  have e3 := of_decide_eq_false d3
  exact HN.out ⟨by omega, by omega, by omega⟩
set_option maxHeartbeats 4000000 in
set_option maxRecDepth 100000 in
theorem HeightsSeenOfAll_walk (A0 : Option Addr) (c0 : Nat) (l : List Int) (Ah : Option Addr) (ch : Nat) (hh : List Int) (k by_ : Int) (Aw : Option Addr) (cw : Nat) (ww : List Int) (width : Int) (w : World)
    (hC : Kd.C (Kd.int .i64) w A0 l.length l) (hLC : l.length ≤ c0) (hm0 : l.length ≤ maxLen) (hCH : Kd.C (Kd.int .i64) w Ah hh.length hh) (hLH : hh.length ≤ ch) (hm1 : hh.length ≤ maxLen) {p2 p3 : Prop} (_ : p2) (_ : p3) (hCW : Kd.C (Kd.int .i64) w Aw ww.length ww) (hLW : ww.length ≤ cw) (hm4 : ww.length ≤ maxLen) {p5 : Prop} (_ : p5) :
    Calls Try.prog 6 #[.slice A0 l.length c0, .slice Ah hh.length ch, .int .i64 k, .int .i64 by_, .slice Aw ww.length cw, .int .i64 width] w fun e w' => e = .returned (.bool true) ∧ Below w.heap.size w w' := by
  by_cases hlen : l.length ≤ 10000 ∧ hh.length ≤ 10000 ∧ ww.length ≤ 10000
  · obtain ⟨hl1, hl2, hl3⟩ : l.length ≤ 1048576 ∧ hh.length ≤ 1048576 ∧ ww.length ≤ 1048576 := by omega
    have hsu := step_len hh k by_
    have hwi := win_len ww width
    cases hg : good l with
    | true =>
      have hgl := good_len hg
      have hsl := seenR_len l 0 0
      have hrl := rightL_len l
      have hsr := seenR_len l.reverse 0 0
      rw [List.length_reverse] at hsr
      have HL1 : (seenR l 0 0).length ≤ 1048576 := by omega
      have HL2 : (rightL l).length ≤ 1048576 := by omega
      have HL3 : (ntR l l.length).length ≤ 1048576 := by rw [ntR_len]; exact hl1
      have HL4 : l.reverse.length ≤ 1048576 := by rw [List.length_reverse]; exact hl1
      have HPR : (pairsL l).length ≤ 1048576 ∧ ∀ r ∈ pairsL l, r.length ≤ 1048576 := ⟨by have := pairs_len l hgl.2; omega, fun r hr => by rw [rows_two l r hr]; decide⟩
      refine HBigS.whole l hh ww (seenR l 0 0) (rightL l) (ntR l l.length) l.reverse (seenR l.reverse 0 0) ((HStep.stepT hh k by_).getD []) ((HTW.winT ww width).getD []) (pairsL l) A0 Ah Aw c0 ch cw k by_ width true (HStep.stepT hh k by_).isSome (HTW.winT ww width).isSome w hC hCH hCW
        (fun W hb => by have := HSFL.impl_SeenFromLeft A0 c0 l hl1 W (Kd.C_below hC hb) hLC; simp only [hg, if_true, Bool.false_eq_true, if_false] at this; exact this)
        (fun W hb => by have := HSFR.impl_SeenFromRight A0 c0 l hl1 W (Kd.C_below hC hb) hLC; simp only [hg, if_true, Bool.false_eq_true, if_false] at this; exact this)
        (fun W hb => by have := HSFL.spec_SeenFromLeft A0 c0 l hl1 W (Kd.C_below hC hb) hLC; simp only [hg, if_true, Bool.false_eq_true, if_false] at this; exact this)
        (fun W hb => by have := HSFR.spec_SeenFromRight A0 c0 l hl1 W (Kd.C_below hC hb) hLC; simp only [hg, if_true, Bool.false_eq_true, if_false] at this; exact this)
        (fun W hb => HNext.impl_yes A0 c0 l hg W (Kd.C_below hC hb) hLC)
        (fun W hb => by have := HNext.spec_calls A0 c0 l hl1 W (Kd.C_below hC hb) hLC; simp only [hg, if_true, Bool.false_eq_true, if_false] at this; exact this)
        (fun W hb => HPairs.impl_yes A0 c0 l hg W (Kd.C_below hC hb) hLC)
        (fun W hb => by have := HPairs.spec_calls A0 c0 l hl1 W (Kd.C_below hC hb) hLC; simp only [hg, if_true, Bool.false_eq_true, if_false] at this; exact this)
        (fun W hb => by have := HMir.impl_MirrorHeights A0 c0 l hl1 W (Kd.C_below hC hb) hLC; simp only [hg, if_true, Bool.false_eq_true, if_false] at this; exact this)
        (fun W hb => by have := HMir.spec_MirrorHeights A0 c0 l hl1 W (Kd.C_below hC hb) hLC; simp only [hg, if_true, Bool.false_eq_true, if_false] at this; exact this)
        (fun W hb => by have := HAH.impl_AreHeights A0 c0 l hl1 W (Kd.C_below hC hb) hLC; simp only [hg, if_true, Bool.false_eq_true, if_false] at this; exact this)
        (fun W hb => by have := HAH.spec_AreHeights A0 c0 l hl1 W (Kd.C_below hC hb) hLC; simp only [hg, if_true, Bool.false_eq_true, if_false] at this; exact this)
        (fun W hb => HStep.impl_calls Ah ch hh k by_ hl2 W (Kd.C_below hCH hb) hLH) (fun W hb => HStep.spec_calls Ah ch hh k by_ hl2 W (Kd.C_below hCH hb) hLH)
        (fun W hb => HTW.impl_calls Aw cw ww width hl3 W (Kd.C_below hCW hb) hLW) (fun W hb => HTW.spec_calls Aw cw ww width hl3 W (Kd.C_below hCW hb) hLW)
        (fun _ => good_facts l hg _ _ _ _ _ _ rfl rfl rfl rfl rfl rfl) (fun h => ?_) (fun h => ?_) (fun h => ?_) ⟨HL1, HL2, HL3, HL4, by omega, by omega⟩ HPR hLC hLH hLW
      · obtain ⟨up, e⟩ := Option.isSome_iff_exists.1 h
        have := (step_facts hh up k by_ e).1
        rw [e]; exact this
      · obtain ⟨up, e⟩ := Option.isSome_iff_exists.1 h
        intro A c W hC hc
        rw [e] at hC hc ⊢
        have h2 := (step_facts hh up k by_ e).2
        have hul : up.length ≤ 1048576 := by have := step_len hh k by_; rw [e] at this; exact Nat.le_trans this hl2
        have := HStep.impl_calls A c up k (-by_) hul W hC hc
        rw [h2] at this
        exact this
      · obtain ⟨ta, e⟩ := Option.isSome_iff_exists.1 h
        have := win_facts ww ta width e
        rw [e]; exact this
    | false =>
      have HL1 : ([] : List Int).length ≤ 1048576 := by simp
      have HL2 := HL1
      have HL3 := HL1
      have HL4 := HL1
      have HPR : ([] : List (List Int)).length ≤ 1048576 ∧ ∀ r ∈ ([] : List (List Int)), r.length ≤ 1048576 := by simp
      refine HBigS.whole l hh ww [] [] [] [] [] ((HStep.stepT hh k by_).getD []) ((HTW.winT ww width).getD []) [] A0 Ah Aw c0 ch cw k by_ width false (HStep.stepT hh k by_).isSome (HTW.winT ww width).isSome w hC hCH hCW
        (fun W hb => by have := HSFL.impl_SeenFromLeft A0 c0 l hl1 W (Kd.C_below hC hb) hLC; simp only [hg, if_true, Bool.false_eq_true, if_false] at this; exact this)
        (fun W hb => by have := HSFR.impl_SeenFromRight A0 c0 l hl1 W (Kd.C_below hC hb) hLC; simp only [hg, if_true, Bool.false_eq_true, if_false] at this; exact this)
        (fun W hb => by have := HSFL.spec_SeenFromLeft A0 c0 l hl1 W (Kd.C_below hC hb) hLC; simp only [hg, if_true, Bool.false_eq_true, if_false] at this; exact this)
        (fun W hb => by have := HSFR.spec_SeenFromRight A0 c0 l hl1 W (Kd.C_below hC hb) hLC; simp only [hg, if_true, Bool.false_eq_true, if_false] at this; exact this)
        (fun W hb => HNext.impl_no A0 c0 l hg W (Kd.C_below hC hb) hLC)
        (fun W hb => by have := HNext.spec_calls A0 c0 l hl1 W (Kd.C_below hC hb) hLC; simp only [hg, if_true, Bool.false_eq_true, if_false] at this; exact this)
        (fun W hb => HPairs.impl_no A0 c0 l hg W (Kd.C_below hC hb) hLC)
        (fun W hb => by have := HPairs.spec_calls A0 c0 l hl1 W (Kd.C_below hC hb) hLC; simp only [hg, if_true, Bool.false_eq_true, if_false] at this; exact this)
        (fun W hb => by have := HMir.impl_MirrorHeights A0 c0 l hl1 W (Kd.C_below hC hb) hLC; simp only [hg, if_true, Bool.false_eq_true, if_false] at this; exact this)
        (fun W hb => by have := HMir.spec_MirrorHeights A0 c0 l hl1 W (Kd.C_below hC hb) hLC; simp only [hg, if_true, Bool.false_eq_true, if_false] at this; exact this)
        (fun W hb => by have := HAH.impl_AreHeights A0 c0 l hl1 W (Kd.C_below hC hb) hLC; simp only [hg, if_true, Bool.false_eq_true, if_false] at this; exact this)
        (fun W hb => by have := HAH.spec_AreHeights A0 c0 l hl1 W (Kd.C_below hC hb) hLC; simp only [hg, if_true, Bool.false_eq_true, if_false] at this; exact this)
        (fun W hb => HStep.impl_calls Ah ch hh k by_ hl2 W (Kd.C_below hCH hb) hLH) (fun W hb => HStep.spec_calls Ah ch hh k by_ hl2 W (Kd.C_below hCH hb) hLH)
        (fun W hb => HTW.impl_calls Aw cw ww width hl3 W (Kd.C_below hCW hb) hLW) (fun W hb => HTW.spec_calls Aw cw ww width hl3 W (Kd.C_below hCW hb) hLW)
        (fun e => by cases e) (fun h => ?_) (fun h => ?_) (fun h => ?_) ⟨HL1, HL2, HL3, HL4, by omega, by omega⟩ HPR hLC hLH hLW
      · obtain ⟨up, e⟩ := Option.isSome_iff_exists.1 h
        have := (step_facts hh up k by_ e).1
        rw [e]; exact this
      · obtain ⟨up, e⟩ := Option.isSome_iff_exists.1 h
        intro A c W hC hc
        rw [e] at hC hc ⊢
        have h2 := (step_facts hh up k by_ e).2
        have hul : up.length ≤ 1048576 := by have := step_len hh k by_; rw [e] at this; exact Nat.le_trans this hl2
        have := HStep.impl_calls A c up k (-by_) hul W hC hc
        rw [h2] at this
        exact this
      · obtain ⟨ta, e⟩ := Option.isSome_iff_exists.1 h
        have := win_facts ww ta width e
        rw [e]; exact this
  · exact seen_long A0 c0 l Ah ch hh k by_ Aw cw ww width w hlen
end Go.Proofs.Ytleacijhpkogpac.HLaw
