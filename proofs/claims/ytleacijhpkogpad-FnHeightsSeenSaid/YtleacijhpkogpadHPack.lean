/- What is known of heights that are good, of steps and of windows: for the laws on who is seen. -/
import Derived.Test.YtleacijhpkogpadHBigP
import Derived.Test.YtleacijhpkogpadHSFL
import Derived.Test.YtleacijhpkogpadHTW
import Derived.Test.YtleacijhpkogpadPFnHeightsSeenx1
namespace Go.Proofs.Ytleacijhpkogpad.HFactS
open Go.RowKit Go.Proofs.YtleacijhpkogpadW.PrintWords Go.Proofs.YtleacijhpkogpadW.PrintLast Go.Proofs.YtleacijhpkogpadW.PrintMore Go.Proofs.Ytleacijhpkogpad.HImpl Go.Proofs.Ytleacijhpkogpad.HSeen Go.Proofs.Ytleacijhpkogpad.HMax Go.Proofs.Ytleacijhpkogpad.HPairs Go.Proofs.Ytleacijhpkogpad.HNext Go.Proofs.Ytleacijhpkogpad.HBigP
set_option linter.unusedVariables false
set_option linter.unusedSimpArgs false

theorem nt_rd (l : List Int) (n i : Nat) (h : i < n) : rd (ntR l n) (i : Int) = ntAt l i := by
  simp [rd, ntR, List.getD_eq_getElem?_getD, List.getElem?_map, h]
theorem rows_two (l : List Int) : ∀ r ∈ pairsL l, r.length = 2 := fun r hr => by
  obtain ⟨i, j, e, _⟩ := pairs_facts l r hr
  rw [e]; rfl
theorem pairs_len (l : List Int) (h : l.length ≤ 40) : (pairsL l).length ≤ 1600 := by
  have h1 := prI_len l l.length 0
  have h2 := Nat.mul_le_mul h h
  unfold pairsL
  omega
theorem good_facts (l : List Int) (hg : good l = true) (lf rg nx mi tu : List Int) (Pr : List (List Int)) (hlf_ : seenR l 0 0 = lf) (hrg_ : rightL l = rg) (hnx_ : ntR l l.length = nx) (hmi_ : l.reverse = mi) (htu_ : seenR l.reverse 0 0 = tu) (hpr_ : pairsL l = Pr) :
    ∃ (j1 j2 : Nat) (M : Int), (l.length ≤ 40) ∧ (1 ≤ l.length) ∧ (0 < lf.length ∧ lf.length ≤ 40) ∧ (0 < rg.length ∧ rg.length ≤ 40) ∧ (j1 < l.length) ∧ (j2 < l.length) ∧ (rd lf 0 = 0) ∧ (rd lf ((lf.length : Int) - 1) = (j1 : Int)) ∧ (rd l (j1 : Int) = M) ∧ (rd rg ((rg.length : Int) - 1) = (l.length : Int) - 1) ∧ (rd rg 0 = (j2 : Int)) ∧ (rd l (j2 : Int) = M) ∧ (HMax.maxL l 0 = M) ∧ (lf.Pairwise (· < ·)) ∧ (rg.Pairwise (· < ·)) ∧ (Pr.length ≤ 1048576 ∧ ∀ r ∈ Pr, r.length ≤ 1048576) ∧ (∀ i : Nat, i < l.length → decide ((i : Int) ∈ lf) = decide (HMax.maxL (l.take i) 0 < rd l (i : Int))) ∧ (∀ i : Nat, i < l.length → (rd nx (i : Int) = -1 ∧ HMax.maxL (l.drop i) 0 ≤ rd l (i : Int)) ∨ ∃ k : Nat, rd nx (i : Int) = (k : Int) ∧ i < k ∧ k < l.length ∧ rd l (i : Int) < rd l (k : Int) ∧ HMax.maxL ((l.take k).drop i) 0 ≤ rd l (i : Int)) ∧ (∀ i : Nat, i + 1 < l.length → [(i : Int), (i : Int) + 1] ∈ Pr) ∧ (∀ q : Nat, q < Pr.length → ∃ a b : Nat, PFnHeightsSeen.rd_L2 Pr (q : Int) = [(a : Int), (b : Int)] ∧ a < b ∧ b < l.length ∧ HMax.maxL ((l.take b).drop (a + 1)) 0 < rd l (a : Int) ∧ HMax.maxL ((l.take b).drop (a + 1)) 0 < rd l (b : Int)) ∧ (rg.length = tu.length) ∧ (∀ i j : Nat, i + j + 1 = rg.length → rd rg (j : Int) = (l.length : Int) - 1 - rd tu (i : Int) ∧ 0 ≤ rd tu (i : Int) ∧ rd tu (i : Int) < (l.length : Int)) ∧ nx.length = l.length ∧ mi.length = l.length ∧ (∀ (A : Option Addr) (c : Nat) (W : World), Kd.C (Kd.int .i64) W A mi.length mi → mi.length ≤ c → Calls Try.prog 7 #[.slice A mi.length c] W fun e w' => ∃ v, e = .returned (.tuple #[v, .bool true]) ∧ Kd.R (Kd.int .i64) 3 w' W.heap.size (fun _ => True) v tu ∧ Below W.heap.size W w') ∧ (∀ (A : Option Addr) (c : Nat) (W : World), Kd.C (Kd.int .i64) W A mi.length mi → mi.length ≤ c → Calls Try.prog 15 #[.slice A mi.length c] W fun e w' => ∃ v, e = .returned (.tuple #[v, .bool true]) ∧ Kd.R (Kd.int .i64) 3 w' W.heap.size (fun _ => True) v l ∧ Below W.heap.size W w') := by
  subst hlf_ hrg_ hnx_ hmi_ htu_ hpr_
  have hl := good_len hg
  have hp : ∀ x ∈ l, 1 ≤ x := fun x hx => (good_mem hg x hx).1
  have hbig : l.length ≤ 1048576 := by omega
  obtain ⟨a1, a2, j1, a3, a4, a5⟩ := seen_facts l hl.1 hp
  obtain ⟨b1, b2, j2, b3, b4, b5⟩ := right_facts l hl.1 hbig hp
  have hsl := seenR_len l 0 0
  have hrl := rightL_len l
  have hsr := seenR_len l.reverse 0 0
  have hgr := good_reverse l hg
  rw [List.length_reverse] at hsr
  refine ⟨j1, j2, maxL l 0, hl.2, hl.1, ⟨a1, by omega⟩, ⟨b1, by omega⟩, a3, b3, a2, a4, a5, b2, b4, b5, rfl, seenR_lt l 0 0, right_lt l hbig, ⟨by have := pairs_len l hl.2; omega, fun r hr => by rw [rows_two l r hr]; decide⟩,
    fun i hi => decide_eq_decide.2 (seen_has l i hi), fun i hi => ?_, fun i hi => ?_, fun q hq => ?_, hrl, fun i j hij => ?_, ntR_len l l.length, List.length_reverse, fun A c W hC hc => ?_, fun A c W hC hc => ?_⟩
  · rw [nt_rd l l.length i hi]
    exact next_facts l hbig i hi (by have := hp _ (rd_in (l := l) (i := (i : Int)) (by omega) (by omega)); omega)
  · have := pairs_next l i hi hp
    rw [show (((i + 1 : Nat) : Int)) = (i : Int) + 1 by omega] at this
    exact this
  · rw [HLawV.rd_row _ q hq]
    obtain ⟨i, j, e, h1, h2, h3, h4⟩ := pairs_facts l _ (List.getElem_mem hq)
    exact ⟨i, j, e, h1, h2, h3, h4⟩
  · have h1 := right_rd l hbig i (by omega)
    rw [show ((rightL l).length : Int) - 1 - (i : Int) = (j : Int) by omega] at h1
    have h2 := seen_in l.reverse _ (rd_in (l := seenR l.reverse 0 0) (i := (i : Int)) (by omega) (by omega))
    rw [List.length_reverse] at h2
    exact ⟨h1, h2.1, h2.2⟩
  · have := HSFL.impl_SeenFromLeft A c l.reverse (by rw [List.length_reverse]; omega) W hC hc
    rw [hgr] at this
    exact this
  · have := HMir.impl_MirrorHeights A c l.reverse (by rw [List.length_reverse]; omega) W hC hc
    rw [hgr, List.reverse_reverse] at this
    exact this
theorem rd_set (l : List Int) (i : Nat) (v : Int) (h : i < l.length) : rd (l.set i v) (i : Int) = v := by
  simp [rd, List.getD_eq_getElem?_getD, List.getElem?_set_self h]
theorem set_back (l : List Int) (i : Nat) (v : Int) (h : i < l.length) : (l.set i v).set i (rd l (i : Int)) = l := by
  rw [List.set_set, rd, List.getD_eq_getElem?_getD, Int.toNat_natCast, List.getElem?_eq_getElem h]
  simp
theorem step_len (l : List Int) (a1 a2 : Int) : ((HStep.stepT l a1 a2).getD []).length ≤ l.length := by
  unfold HStep.stepT
  split <;> simp
theorem step_facts (hh up : List Int) (k by_ : Int) (h : HStep.stepT hh k by_ = some up) : (∃ kk : Nat, k = (kk : Int) ∧ kk < hh.length ∧ hh.length ≤ 40 ∧ up.length = hh.length ∧ (-100 ≤ by_ ∧ by_ ≤ 100) ∧ rd up (kk : Int) = rd hh (kk : Int) + by_ ∧ (-1000 ≤ rd hh (kk : Int) ∧ rd hh (kk : Int) ≤ 1000)) ∧ HStep.stepT up k (-by_) = some hh := by
  unfold HStep.stepT at h
  split at h
  · rename_i c
    obtain ⟨hg, ⟨h0, h1⟩, h2, h3⟩ := c
    obtain ⟨kk, rfl⟩ := Int.eq_ofNat_of_zero_le h0
    have hl := good_len hg
    have hk : kk < hh.length := by omega
    have hv := HStep.good_rd hg kk hk
    rw [Int.toNat_natCast] at h
    have hu : hh.set kk (rd hh (kk : Int) + by_) = up := Option.some.inj h
    subst hu
    have hr := rd_set hh kk (rd hh (kk : Int) + by_) hk
    refine ⟨⟨kk, rfl, hk, hl.2, List.length_set .., ⟨by omega, by omega⟩, hr, ⟨by omega, by omega⟩⟩, ?_⟩
    have hgu : good (hh.set kk (rd hh (kk : Int) + by_)) = true := by
      unfold good
      rw [List.length_set, decide_eq_true hl.1, decide_eq_true hl.2, Bool.true_and, Bool.true_and, List.all_eq_true]
      intro x hx
      rw [Bool.and_eq_true, decide_eq_true_eq, decide_eq_true_eq]
      rcases List.mem_or_eq_of_mem_set hx with hx | hx
      · exact good_mem hg x hx
      · omega
    unfold HStep.stepT
    rw [if_pos ⟨hgu, ⟨by omega, by rw [List.length_set]; omega⟩, by rw [hr]; omega, by rw [hr]; omega⟩, hr, Int.toNat_natCast, show rd hh (kk : Int) + by_ + -by_ = rd hh (kk : Int) by omega, set_back hh kk _ hk]
  · cases h
theorem win_rd (l : List Int) (m : Nat) : ∀ (d k i : Nat), i < d → rd (HTW.winL l m k d) (i : Int) = maxL ((l.take (k + i + m)).drop (k + i)) 0
  | 0, k, i, h => by omega
  | d + 1, k, 0, _ => by rw [HTW.winL]; rfl
  | d + 1, k, i + 1, h => by
    have ih := win_rd l m d (k + 1) i (by omega)
    rw [show k + 1 + i = k + (i + 1) by omega] at ih
    rw [HTW.winL, ← ih]
    simp [rd, List.getD_eq_getElem?_getD]
theorem win_len (l : List Int) (m : Int) : ((HTW.winT l m).getD []).length ≤ l.length + 1 := by
  unfold HTW.winT
  split
  · simp only [Option.getD_some, HTW.winL_len]; omega
  · simp
theorem win_facts (ww ta : List Int) (width : Int) (h : HTW.winT ww width = some ta) : ∃ m : Nat, width = (m : Int) ∧ ww.length ≤ 40 ∧ ta.length + m = ww.length + 1 ∧ m ≤ ww.length ∧ (∀ i : Nat, i < ta.length → rd ta (i : Int) = HMax.maxL ((ww.take (i + m)).drop i) 0) := by
  unfold HTW.winT at h
  split at h
  · rename_i c
    obtain ⟨hg, h1, h2⟩ := c
    obtain ⟨m, rfl⟩ := Int.eq_ofNat_of_zero_le (show 0 ≤ width by omega)
    have hl := good_len hg
    rw [Int.toNat_natCast] at h
    have hu : HTW.winL ww m 0 (ww.length + 1 - m) = ta := Option.some.inj h
    subst hu
    have e := HTW.winL_len ww m (ww.length + 1 - m) 0
    refine ⟨m, rfl, hl.2, by omega, by omega, fun i hi => ?_⟩
    have := win_rd ww m (ww.length + 1 - m) 0 i (by omega)
    rw [Nat.zero_add] at this
    exact this
  · cases h
end Go.Proofs.Ytleacijhpkogpad.HFactS
/- What the functions that the drawn law on who is seen calls tell, for whatever list is drawn. -/
namespace Go.Proofs.Ytleacijhpkogpad.HPack
open Go.RowKit Go.Proofs.YtleacijhpkogpadW.PrintWords Go.Proofs.YtleacijhpkogpadW.PrintLast Go.Proofs.YtleacijhpkogpadW.PrintMore Go.Proofs.Ytleacijhpkogpad.HImpl Go.Proofs.Ytleacijhpkogpad.HSeen Go.Proofs.Ytleacijhpkogpad.HMax Go.Proofs.Ytleacijhpkogpad.HPairs Go.Proofs.Ytleacijhpkogpad.HNext Go.Proofs.Ytleacijhpkogpad.HFactS
set_option linter.unusedVariables false
set_option linter.unusedSimpArgs false

theorem big_pack (A0 : Option Addr) (c0 : Nat) (l0 : List Int) (A1 : Option Addr) (c1 : Nat) (l1 : List Int) (w : World) (hr0 : Kd.C (Kd.int .u8) w A0 l0.length l0) (hc0 : l0.length ≤ c0) (hr1 : Kd.C (Kd.int .u8) w A1 l1.length l1) (hc1 : l1.length ≤ c1) :
    ∃ r : Bool, Calls Try.prog 5 #[.slice A0 l0.length c0, .slice A1 l1.length c1] w fun e w' => e = .returned (.bool r) ∧ Drawn0 w w' := by
  obtain ⟨r, h⟩ : ∃ r, PFnHeightsSeen.laws_big.f l0 l1 = some r := by
    unfold PFnHeightsSeen.laws_big.f
    split
    · exact ⟨_, rfl⟩
    · exact ⟨_, rfl⟩
  exact ⟨r, PFnHeightsSeen.laws_big.calls A0 c0 l0 A1 c1 l1 r w hr0 hc0 hr1 hc1 h⟩
theorem ten_pack (A0 : Option Addr) (c0 : Nat) (l : List Int) (hl1 : l.length ≤ 1048576) (hLC : l.length ≤ c0) (w : World) (hC : Kd.C (Kd.int .i64) w A0 l.length l) :
    ∃ (lf rg nx mi tu : List Int) (Pr : List (List Int)) (g : Bool), (∀ W, Below w.heap.size w W → Calls Try.prog 7 #[.slice A0 l.length c0] W fun e w' => ∃ v, e = .returned (.tuple #[v, .bool g]) ∧ Kd.R (Kd.int .i64) 3 w' W.heap.size (fun _ => True) v lf ∧ Below W.heap.size W w') ∧ (∀ W, Below w.heap.size w W → Calls Try.prog 8 #[.slice A0 l.length c0] W fun e w' => ∃ v, e = .returned (.tuple #[v, .bool g]) ∧ Kd.R (Kd.int .i64) 3 w' W.heap.size (fun _ => True) v rg ∧ Below W.heap.size W w') ∧ (∀ W, Below w.heap.size w W → Calls Try.prog 9 #[.slice A0 l.length c0] W fun e w' => ∃ v, e = .returned (.tuple #[v, .bool g]) ∧ Kd.R (Kd.int .i64) 3 w' W.heap.size (fun _ => True) v lf ∧ Below W.heap.size W w') ∧ (∀ W, Below w.heap.size w W → Calls Try.prog 10 #[.slice A0 l.length c0] W fun e w' => ∃ v, e = .returned (.tuple #[v, .bool g]) ∧ Kd.R (Kd.int .i64) 3 w' W.heap.size (fun _ => True) v rg ∧ Below W.heap.size W w') ∧ (∀ W, Below w.heap.size w W → Calls Try.prog 11 #[.slice A0 l.length c0] W fun e w' => ∃ v, e = .returned (.tuple #[v, .bool g]) ∧ Kd.R (Kd.int .i64) 3 w' W.heap.size (fun _ => True) v nx ∧ Below W.heap.size W w') ∧ (∀ W, Below w.heap.size w W → Calls Try.prog 12 #[.slice A0 l.length c0] W fun e w' => ∃ v, e = .returned (.tuple #[v, .bool g]) ∧ Kd.R (Kd.int .i64) 3 w' W.heap.size (fun _ => True) v nx ∧ Below W.heap.size W w') ∧ (∀ W, Below w.heap.size w W → Calls Try.prog 13 #[.slice A0 l.length c0] W fun e w' => ∃ v, e = .returned (.tuple #[v, .bool g]) ∧ Kd.S (Kd.slice 3 (Kd.int .i64)) 24 w' W.heap.size (fun _ => True) v Pr ∧ Below W.heap.size W w') ∧ (∀ W, Below w.heap.size w W → Calls Try.prog 14 #[.slice A0 l.length c0] W fun e w' => ∃ v, e = .returned (.tuple #[v, .bool g]) ∧ Kd.S (Kd.slice 3 (Kd.int .i64)) 24 w' W.heap.size (fun _ => True) v Pr ∧ Below W.heap.size W w') ∧ (∀ W, Below w.heap.size w W → Calls Try.prog 15 #[.slice A0 l.length c0] W fun e w' => ∃ v, e = .returned (.tuple #[v, .bool g]) ∧ Kd.R (Kd.int .i64) 3 w' W.heap.size (fun _ => True) v mi ∧ Below W.heap.size W w') ∧ (∀ W, Below w.heap.size w W → Calls Try.prog 16 #[.slice A0 l.length c0] W fun e w' => ∃ v, e = .returned (.tuple #[v, .bool g]) ∧ Kd.R (Kd.int .i64) 3 w' W.heap.size (fun _ => True) v mi ∧ Below W.heap.size W w') ∧ (∀ W, Below w.heap.size w W → Calls Try.prog 19 #[.slice A0 l.length c0] W fun e w' => e = .returned (.bool g) ∧ Below W.heap.size W w') ∧ (∀ W, Below w.heap.size w W → Calls Try.prog 20 #[.slice A0 l.length c0] W fun e w' => e = .returned (.bool g) ∧ Below W.heap.size W w') ∧ (g = true → ∃ (j1 j2 : Nat) (M : Int), (l.length ≤ 40) ∧ (1 ≤ l.length) ∧ (0 < lf.length ∧ lf.length ≤ 40) ∧ (0 < rg.length ∧ rg.length ≤ 40) ∧ (j1 < l.length) ∧ (j2 < l.length) ∧ (rd lf 0 = 0) ∧ (rd lf ((lf.length : Int) - 1) = (j1 : Int)) ∧ (rd l (j1 : Int) = M) ∧ (rd rg ((rg.length : Int) - 1) = (l.length : Int) - 1) ∧ (rd rg 0 = (j2 : Int)) ∧ (rd l (j2 : Int) = M) ∧ (HMax.maxL l 0 = M) ∧ (lf.Pairwise (· < ·)) ∧ (rg.Pairwise (· < ·)) ∧ (Pr.length ≤ 1048576 ∧ ∀ r ∈ Pr, r.length ≤ 1048576) ∧ (∀ i : Nat, i < l.length → decide ((i : Int) ∈ lf) = decide (HMax.maxL (l.take i) 0 < rd l (i : Int))) ∧ (∀ i : Nat, i < l.length → (rd nx (i : Int) = -1 ∧ HMax.maxL (l.drop i) 0 ≤ rd l (i : Int)) ∨ ∃ k : Nat, rd nx (i : Int) = (k : Int) ∧ i < k ∧ k < l.length ∧ rd l (i : Int) < rd l (k : Int) ∧ HMax.maxL ((l.take k).drop i) 0 ≤ rd l (i : Int)) ∧ (∀ i : Nat, i + 1 < l.length → [(i : Int), (i : Int) + 1] ∈ Pr) ∧ (∀ q : Nat, q < Pr.length → ∃ a b : Nat, PFnHeightsSeen.rd_L2 Pr (q : Int) = [(a : Int), (b : Int)] ∧ a < b ∧ b < l.length ∧ HMax.maxL ((l.take b).drop (a + 1)) 0 < rd l (a : Int) ∧ HMax.maxL ((l.take b).drop (a + 1)) 0 < rd l (b : Int)) ∧ (rg.length = tu.length) ∧ (∀ i j : Nat, i + j + 1 = rg.length → rd rg (j : Int) = (l.length : Int) - 1 - rd tu (i : Int) ∧ 0 ≤ rd tu (i : Int) ∧ rd tu (i : Int) < (l.length : Int)) ∧ nx.length = l.length ∧ mi.length = l.length ∧ (∀ (A : Option Addr) (c : Nat) (W : World), Kd.C (Kd.int .i64) W A mi.length mi → mi.length ≤ c → Calls Try.prog 7 #[.slice A mi.length c] W fun e w' => ∃ v, e = .returned (.tuple #[v, .bool true]) ∧ Kd.R (Kd.int .i64) 3 w' W.heap.size (fun _ => True) v tu ∧ Below W.heap.size W w') ∧ (∀ (A : Option Addr) (c : Nat) (W : World), Kd.C (Kd.int .i64) W A mi.length mi → mi.length ≤ c → Calls Try.prog 15 #[.slice A mi.length c] W fun e w' => ∃ v, e = .returned (.tuple #[v, .bool true]) ∧ Kd.R (Kd.int .i64) 3 w' W.heap.size (fun _ => True) v l ∧ Below W.heap.size W w')) ∧ (lf.length ≤ 1048576 ∧ rg.length ≤ 1048576 ∧ nx.length ≤ 1048576 ∧ mi.length ≤ 1048576 ∧ True) ∧ (Pr.length ≤ 1048576 ∧ ∀ r ∈ Pr, r.length ≤ 1048576) := by
  cases hg : good l with
  | true =>
    have hgl := good_len hg
    have hsl := seenR_len l 0 0
    have hrl := rightL_len l
    have hsr := seenR_len l.reverse 0 0
    rw [List.length_reverse] at hsr
    exact ⟨seenR l 0 0, rightL l, ntR l l.length, l.reverse, seenR l.reverse 0 0, pairsL l, true, (fun W hb => by have := HSFL.impl_SeenFromLeft A0 c0 l hl1 W (Kd.C_below hC hb) hLC; simp only [hg, if_true, Bool.false_eq_true, if_false] at this; exact this), (fun W hb => by have := HSFR.impl_SeenFromRight A0 c0 l hl1 W (Kd.C_below hC hb) hLC; simp only [hg, if_true, Bool.false_eq_true, if_false] at this; exact this), (fun W hb => by have := HSFL.spec_SeenFromLeft A0 c0 l hl1 W (Kd.C_below hC hb) hLC; simp only [hg, if_true, Bool.false_eq_true, if_false] at this; exact this), (fun W hb => by have := HSFR.spec_SeenFromRight A0 c0 l hl1 W (Kd.C_below hC hb) hLC; simp only [hg, if_true, Bool.false_eq_true, if_false] at this; exact this), (fun W hb => HNext.impl_yes A0 c0 l hg W (Kd.C_below hC hb) hLC), (fun W hb => by have := HNext.spec_calls A0 c0 l hl1 W (Kd.C_below hC hb) hLC; simp only [hg, if_true, Bool.false_eq_true, if_false] at this; exact this), (fun W hb => HPairs.impl_yes A0 c0 l hg W (Kd.C_below hC hb) hLC), (fun W hb => by have := HPairs.spec_calls A0 c0 l hl1 W (Kd.C_below hC hb) hLC; simp only [hg, if_true, Bool.false_eq_true, if_false] at this; exact this), (fun W hb => by have := HMir.impl_MirrorHeights A0 c0 l hl1 W (Kd.C_below hC hb) hLC; simp only [hg, if_true, Bool.false_eq_true, if_false] at this; exact this), (fun W hb => by have := HMir.spec_MirrorHeights A0 c0 l hl1 W (Kd.C_below hC hb) hLC; simp only [hg, if_true, Bool.false_eq_true, if_false] at this; exact this), (fun W hb => by have := HAH.impl_AreHeights A0 c0 l hl1 W (Kd.C_below hC hb) hLC; simp only [hg, if_true, Bool.false_eq_true, if_false] at this; exact this), (fun W hb => by have := HAH.spec_AreHeights A0 c0 l hl1 W (Kd.C_below hC hb) hLC; simp only [hg, if_true, Bool.false_eq_true, if_false] at this; exact this), (fun _ => good_facts l hg _ _ _ _ _ _ rfl rfl rfl rfl rfl rfl), ⟨by omega, by omega, by rw [ntR_len]; exact hl1, by rw [List.length_reverse]; exact hl1, trivial⟩, ⟨by have := pairs_len l hgl.2; omega, fun r hr => by rw [rows_two l r hr]; decide⟩⟩
  | false =>
    exact ⟨[], [], [], [], [], [], false, (fun W hb => by have := HSFL.impl_SeenFromLeft A0 c0 l hl1 W (Kd.C_below hC hb) hLC; simp only [hg, if_true, Bool.false_eq_true, if_false] at this; exact this), (fun W hb => by have := HSFR.impl_SeenFromRight A0 c0 l hl1 W (Kd.C_below hC hb) hLC; simp only [hg, if_true, Bool.false_eq_true, if_false] at this; exact this), (fun W hb => by have := HSFL.spec_SeenFromLeft A0 c0 l hl1 W (Kd.C_below hC hb) hLC; simp only [hg, if_true, Bool.false_eq_true, if_false] at this; exact this), (fun W hb => by have := HSFR.spec_SeenFromRight A0 c0 l hl1 W (Kd.C_below hC hb) hLC; simp only [hg, if_true, Bool.false_eq_true, if_false] at this; exact this), (fun W hb => HNext.impl_no A0 c0 l hg W (Kd.C_below hC hb) hLC), (fun W hb => by have := HNext.spec_calls A0 c0 l hl1 W (Kd.C_below hC hb) hLC; simp only [hg, if_true, Bool.false_eq_true, if_false] at this; exact this), (fun W hb => HPairs.impl_no A0 c0 l hg W (Kd.C_below hC hb) hLC), (fun W hb => by have := HPairs.spec_calls A0 c0 l hl1 W (Kd.C_below hC hb) hLC; simp only [hg, if_true, Bool.false_eq_true, if_false] at this; exact this), (fun W hb => by have := HMir.impl_MirrorHeights A0 c0 l hl1 W (Kd.C_below hC hb) hLC; simp only [hg, if_true, Bool.false_eq_true, if_false] at this; exact this), (fun W hb => by have := HMir.spec_MirrorHeights A0 c0 l hl1 W (Kd.C_below hC hb) hLC; simp only [hg, if_true, Bool.false_eq_true, if_false] at this; exact this), (fun W hb => by have := HAH.impl_AreHeights A0 c0 l hl1 W (Kd.C_below hC hb) hLC; simp only [hg, if_true, Bool.false_eq_true, if_false] at this; exact this), (fun W hb => by have := HAH.spec_AreHeights A0 c0 l hl1 W (Kd.C_below hC hb) hLC; simp only [hg, if_true, Bool.false_eq_true, if_false] at this; exact this), (fun e => by cases e), ⟨by simp, by simp, by simp, by simp, trivial⟩, ⟨by simp, by simp⟩⟩
theorem step_pack (Ah : Option Addr) (ch : Nat) (hh : List Int) (k by_ : Int) (hl2 : hh.length ≤ 1048576) (hLH : hh.length ≤ ch) (w : World) (hCH : Kd.C (Kd.int .i64) w Ah hh.length hh) :
    ∃ (up : List Int) (nb : Bool), (∀ W, Below w.heap.size w W → Calls Try.prog 26 #[.slice Ah hh.length ch, .int .i64 k, .int .i64 by_] W fun e w' => ∃ v, e = .returned (.tuple #[v, .bool nb]) ∧ Kd.R (Kd.int .i64) 3 w' W.heap.size (fun _ => True) v up ∧ Below W.heap.size W w') ∧ (∀ W, Below w.heap.size w W → Calls Try.prog 27 #[.slice Ah hh.length ch, .int .i64 k, .int .i64 by_] W fun e w' => ∃ v, e = .returned (.tuple #[v, .bool nb]) ∧ Kd.R (Kd.int .i64) 3 w' W.heap.size (fun _ => True) v up ∧ Below W.heap.size W w') ∧ (nb = true → ∃ kk : Nat, k = (kk : Int) ∧ kk < hh.length ∧ hh.length ≤ 40 ∧ up.length = hh.length ∧ (-100 ≤ by_ ∧ by_ ≤ 100) ∧ rd up (kk : Int) = rd hh (kk : Int) + by_ ∧ (-1000 ≤ rd hh (kk : Int) ∧ rd hh (kk : Int) ≤ 1000)) ∧ (nb = true → ∀ (A : Option Addr) (c : Nat) (W : World), Kd.C (Kd.int .i64) W A up.length up → up.length ≤ c → Calls Try.prog 26 #[.slice A up.length c, .int .i64 k, .int .i64 (-by_)] W fun e w' => ∃ v, e = .returned (.tuple #[v, .bool true]) ∧ Kd.R (Kd.int .i64) 3 w' W.heap.size (fun _ => True) v hh ∧ Below W.heap.size W w') ∧ up.length ≤ 1048576 := by
  have hsu := step_len hh k by_
  refine ⟨(HStep.stepT hh k by_).getD [], (HStep.stepT hh k by_).isSome, (fun W hb => HStep.impl_calls Ah ch hh k by_ hl2 W (Kd.C_below hCH hb) hLH), (fun W hb => HStep.spec_calls Ah ch hh k by_ hl2 W (Kd.C_below hCH hb) hLH), (fun h => ?_), (fun h => ?_), by omega⟩
  · obtain ⟨up, e⟩ := Option.isSome_iff_exists.1 h
    have := (step_facts hh up k by_ e).1
    rw [e]; exact this
  · obtain ⟨up, e⟩ := Option.isSome_iff_exists.1 h
    intro A c W hC hc
    rw [e] at hC hc ⊢
    have h2 := (step_facts hh up k by_ e).2
    have hul : up.length ≤ 1048576 := by have := step_len hh k by_; rw [e] at this; exact Nat.le_trans this hl2
    have := HStep.impl_calls A c up k (-by_) hul W hC hc
    rw [h2] at this
    exact this
theorem win_pack (Aw : Option Addr) (cw : Nat) (ww : List Int) (width : Int) (hl3 : ww.length ≤ 1048575) (hLW : ww.length ≤ cw) (w : World) (hCW : Kd.C (Kd.int .i64) w Aw ww.length ww) :
    ∃ (ta : List Int) (tb : Bool), (∀ W, Below w.heap.size w W → Calls Try.prog 29 #[.slice Aw ww.length cw, .int .i64 width] W fun e w' => ∃ v, e = .returned (.tuple #[v, .bool tb]) ∧ Kd.R (Kd.int .i64) 3 w' W.heap.size (fun _ => True) v ta ∧ Below W.heap.size W w') ∧ (∀ W, Below w.heap.size w W → Calls Try.prog 30 #[.slice Aw ww.length cw, .int .i64 width] W fun e w' => ∃ v, e = .returned (.tuple #[v, .bool tb]) ∧ Kd.R (Kd.int .i64) 3 w' W.heap.size (fun _ => True) v ta ∧ Below W.heap.size W w') ∧ (tb = true → ∃ m : Nat, width = (m : Int) ∧ ww.length ≤ 40 ∧ ta.length + m = ww.length + 1 ∧ m ≤ ww.length ∧ (∀ i : Nat, i < ta.length → rd ta (i : Int) = HMax.maxL ((ww.take (i + m)).drop i) 0)) ∧ ta.length ≤ 1048576 := by
  have hwi := win_len ww width
  refine ⟨(HTW.winT ww width).getD [], (HTW.winT ww width).isSome, (fun W hb => HTW.impl_calls Aw cw ww width (by omega) W (Kd.C_below hCW hb) hLW), (fun W hb => HTW.spec_calls Aw cw ww width (by omega) W (Kd.C_below hCW hb) hLW), (fun h => ?_), by omega⟩
  · obtain ⟨ta, e⟩ := Option.isSome_iff_exists.1 h
    have := win_facts ww ta width e
    rw [e]; exact this
end Go.Proofs.Ytleacijhpkogpad.HPack
