/- What is known of heights that rise,of counts,of first orders,of means: for the laws on who rises. -/
import Derived.Test.YtleacijhpkogpadHRiseP
import Derived.Test.YtleacijhpkogpadHLawVR
import Derived.Test.YtleacijhpkogpadHGood
import Derived.Test.YtleacijhpkogpadHSFL
import Derived.Test.YtleacijhpkogpadHLR
import Derived.Test.YtleacijhpkogpadHSpecF
import Derived.Test.YtleacijhpkogpadHCBS
import Derived.Test.YtleacijhpkogpadPFnHeightsRisex1
set_option linter.unusedVariables false
set_option linter.unusedSimpArgs false
namespace Go.Proofs.Ytleacijhpkogpad.HFactR
open Go.RowKit YtleacijhpkogpadW.PrintWords YtleacijhpkogpadW.PrintLast YtleacijhpkogpadW.PrintMore HImpl HRiseP

theorem good_rev (l : List Int) (h : good l = true) : good l.reverse = true := by
  unfold good at h ⊢
  simpa using h
theorem sum_take (l : List Int) : ∀ n,n ≤ l.length → (l.take n).sum = sumI l n
  | 0,_ => by simp [sumI]
  | n + 1,h => by
    rw [List.take_succ_eq_append_getElem (show n < l.length by omega),List.sum_append,sum_take l n (by omega),sumI,rd_get (show n < l.length by omega)]
    simp
theorem dis_le : ∀ t : List Int,HDis.disL t ≤ t.length * t.length
  | [] => by simp [HDis.disL]
  | h :: t => by
    have h1 := HDis.disR_le h t
    have h2 := dis_le t
    rw [HDis.disL,List.length_cons]
    have e : (t.length + 1) * (t.length + 1) = t.length * t.length + 2 * t.length + 1 := by simp only [Nat.add_mul,Nat.mul_add,Nat.one_mul,Nat.mul_one]; omega
    rw [e]; omega
theorem mul_40 (n : Nat) (h : n ≤ 40) : n * n ≤ 1600 := Nat.le_trans (Nat.mul_le_mul h h) (by decide)
theorem rise_facts (A0 : Option Addr) (c0 : Nat) (l : List Int) (hg : good l = true) (hLC : l.length ≤ c0) (w : World) (hC : Kd.C (Kd.int .i64) w A0 l.length l) (lr rk mi : List Int) (mo le di : Int) (hlr_ : HLR.longL l = lr) (hrk_ : HRank.ranksR l l 0 = rk) (hmi_ : l.reverse = mi) (hmo_ : HMtn.mtn l 0 l.length 0 = mo) (hle_ : (l.length : Int) - HMtn.mtn l 0 l.length 0 = le) (hdi_ : ((HDis.disL l : Nat) : Int) = di) :
    ∃ (D : Nat) (Sm : Int),di = (D : Int) ∧ (l.length ≤ 40) ∧ (0 < lr.length) ∧ (lr.length ≤ 40) ∧ ((lr.length : Int) ≤ mo) ∧ (mo ≤ (l.length : Int)) ∧ (le = (l.length : Int) - mo) ∧ (rk.length = l.length) ∧ ((l.length : Int) * ((l.length : Int) - 1) = 2 * Sm) ∧ (0 ≤ Sm ∧ Sm ≤ 1000000) ∧ (lr.Pairwise (· < ·)) ∧ (rk.sum = Sm) ∧ (∀ x ∈ rk,0 ≤ x) ∧ (∀ i j : Nat,i + 1 = j → j < lr.length → ∃ a b : Nat,rd lr (i : Int) = (a : Int) ∧ rd lr (j : Int) = (b : Int) ∧ a < l.length ∧ b < l.length ∧ rd l (a : Int) < rd l (b : Int)) ∧ (HDis.disL rk = D) ∧ (D ≤ 1000000) ∧ (∀ i : Nat,i < rk.length → 0 ≤ rd rk (i : Int) ∧ rd rk (i : Int) < (l.length : Int)) ∧ (∀ i j : Nat,i < j → j < rk.length → rd rk (i : Int) ≠ rd rk (j : Int)) ∧ (∀ W,Below w.heap.size w W → Calls Try.prog 15 #[.slice A0 l.length c0] W fun e w' => ∃ v,e = .returned (.tuple #[v,.bool true]) ∧ Kd.R (Kd.int .i64) 3 w' W.heap.size (fun _ => True) v mi ∧ Below W.heap.size W w') ∧ (∀ (A : Option Addr) (c : Nat) (W : World),Kd.C (Kd.int .i64) W A mi.length mi → mi.length ≤ c → Calls Try.prog 34 #[.slice A mi.length c] W fun e w' => e = .returned (.tuple #[.int .i64 mo,.bool true]) ∧ Below W.heap.size W w') := by
  have hl := good_len hg
  have hp : ∀ x ∈ l,1 ≤ x := fun x hx => (good_mem hg x hx).1
  have hls := long_some l hl.1 hp
  have hll : (HLR.longL l).length ≤ l.length := HLR.pick_len l _ _ _ _ _
  have hlm := long_mtn l
  have hmr := HMtn.mtn_range l l.length 0 0 (by omega) (by omega) (by omega)
  have hkl : (HRank.ranksR l l 0).length = l.length := rksL_len l
  have hrt := rks_total l
  have hmm := mul_40 l.length hl.2
  have hpr := pick_rise l (HLR.risL l) l.length 0 (HMax.maxL (HLR.risL l) 0) 0
  have hpm := pick_mem l (HLR.risL l) l.length 0 (HMax.maxL (HLR.risL l) 0) 0
  change (HLR.longL l).Pairwise _ at hpr
  change ∀ x,x ∈ HLR.longL l → _ at hpm
  have hks : (HRank.ranksR l l 0).sum = (sm (HRiseP.rk l) l.length : Int) := by
    have h1 := sum_take (rksL l) (rksL l).length (Nat.le_refl _)
    rw [List.take_length,rksL_len,rks_sum l l.length (Nat.le_refl _)] at h1
    exact h1
  have hd := dis_le l
  have hgr := good_rev l hg
  subst hlr_ hrk_ hmi_ hmo_ hle_ hdi_
  refine ⟨HDis.disL l,(sm (HRiseP.rk l) l.length : Int),rfl,hl.2,List.length_pos_iff.2 hls,by omega,hlm,hmr.2,rfl,hkl,?_,⟨by omega,by omega⟩,hpr.imp (fun h => h.1),hks,fun x hx => ?_,fun i j hij hj => ?_,rks_dis l,by omega,fun i hi => ?_,fun i j hij hj => ?_,fun W hb => ?_,fun A c W hC hc => ?_⟩
  · have e : (l.length : Int) * ((l.length : Int) - 1) = ((l.length * l.length : Nat) : Int) - (l.length : Int) := by
      rw [Int.mul_sub,Int.mul_one,Int.natCast_mul]
    rw [e]; omega
  · obtain ⟨k,hk,e⟩ := List.mem_iff_getElem.1 hx
    have h2 := rksL_rd l k (by omega)
    rw [rd_get (show k < (rksL l).length from hk)] at h2
    have h3 : (rksL l)[k]'(show k < (rksL l).length from hk) = x := e
    omega
  · have hi : i < (HLR.longL l).length := by omega
    have h2 := List.pairwise_iff_getElem.1 hpr i j hi hj (by omega)
    obtain ⟨a,ea,_,ha,_⟩ := hpm _ (List.getElem_mem hi)
    obtain ⟨b,eb,_,hb,_⟩ := hpm _ (List.getElem_mem hj)
    refine ⟨a,b,by rw [rd_get hi,ea],by rw [rd_get hj,eb],by omega,by omega,?_⟩
    rw [ea,eb] at h2
    exact h2.2
  · rw [hkl] at hi
    have h2 := rksL_rd l i hi
    have h3 := rk_bd l i hi
    change rd (HRank.ranksR l l 0) (i : Int) = _ at h2
    rw [h2]; omega
  · rw [hkl] at hj
    have h2 := rksL_rd l i (by omega)
    have h3 := rksL_rd l j hj
    have h4 := rk_ne l i j (by omega) hj (by omega)
    change rd (HRank.ranksR l l 0) (i : Int) = _ at h2
    change rd (HRank.ranksR l l 0) (j : Int) = _ at h3
    rw [h2,h3]
    exact fun e => h4 (Int.ofNat.inj e)
  · have := HMir.impl_MirrorHeights A0 c0 l (by omega) W (Kd.C_below hC hb) hLC
    rw [hg] at this
    exact this
  · have := HMtn.impl_LongestMountain A c l.reverse (by rw [List.length_reverse]; omega) W hC hc
    rw [hgr,List.length_reverse] at this
    simp only [if_true] at this
    rw [mtn_rev l] at this
    rw [List.length_reverse]
    exact this
theorem count_pack (m lf bh : Int) (w : World) : ∃ (ct : Int) (q1 : Bool),(∀ W,Below w.heap.size w W → Calls Try.prog 44 #[.int .i64 m,.int .i64 lf,.int .i64 bh] W fun e w' => e = .returned (.tuple #[.int .i64 ct,.bool q1]) ∧ Below W.heap.size W w') ∧ (∀ W,Below w.heap.size w W → Calls Try.prog 45 #[.int .i64 m,.int .i64 lf,.int .i64 bh] W fun e w' => e = .returned (.tuple #[.int .i64 ct,.bool q1]) ∧ Below W.heap.size W w') ∧ (q1 = true → ∀ W,Below w.heap.size w W → Calls Try.prog 44 #[.int .i64 m,.int .i64 bh,.int .i64 lf] W fun e w' => e = .returned (.tuple #[.int .i64 ct,.bool true]) ∧ Drawn0 W w') := by
  cases h : HCBS.askB m lf bh with
  | true =>
    have h2 := of_decide_eq_true h
    obtain ⟨n,hn⟩ := Int.eq_ofNat_of_zero_le (show 0 ≤ m - 1 by omega)
    obtain rfl : m = ((n + 1 : Nat) : Int) := by omega
    obtain ⟨a,rfl⟩ := Int.eq_ofNat_of_zero_le h2.2.1.1
    obtain ⟨b,rfl⟩ := Int.eq_ofNat_of_zero_le h2.2.2.1
    refine ⟨(HPlain.seenC n a b : Int),true,fun W _ => (HCBS.impl_yes n a b (by omega) (by omega) (by omega) W).mono fun e w' h => ⟨h.1,h.2.below⟩,fun W _ => HCBS.spec_yes n a b (by omega) (by omega) (by omega) W,fun _ W _ => ?_⟩
    have := HCBS.impl_yes n b a (by omega) (by omega) (by omega) W
    rw [HRiseQ.seenC_sym n b a] at this
    exact this
  | false => exact ⟨0,false,fun W _ => (HCBS.impl_no m lf bh h W).mono fun e w' h => ⟨h.1,h.2.below⟩,fun W _ => HCBS.spec_no m lf bh h W,fun e => by cases e⟩
theorem first_pack (k x y : Int) (w : World) : ∃ (fi : List Int) (q2 : Bool),(∀ W,Below w.heap.size w W → Calls Try.prog 47 #[.int .i64 k,.int .i64 x,.int .i64 y] W fun e w' => ∃ v,e = .returned (.tuple #[v,.bool q2]) ∧ Kd.R (Kd.int .i64) 3 w' W.heap.size (fun _ => True) v fi ∧ Below W.heap.size W w') ∧ (∀ W,Below w.heap.size w W → Calls Try.prog 48 #[.int .i64 k,.int .i64 x,.int .i64 y] W fun e w' => ∃ v,e = .returned (.tuple #[v,.bool q2]) ∧ Kd.R (Kd.int .i64) 3 w' W.heap.size (fun _ => True) v fi ∧ Below W.heap.size W w') ∧ (q2 = true → ∃ (sl sr : List Int) (mn : Int),k = (fi.length : Int) ∧ x = (sl.length : Int) ∧ y = (sr.length : Int) ∧ 1 ≤ mn ∧ (∀ (A : Option Addr) (c : Nat) (W : World),Kd.C (Kd.int .i64) W A fi.length fi → fi.length ≤ c → Calls Try.prog 7 #[.slice A fi.length c] W fun e w' => ∃ v,e = .returned (.tuple #[v,.bool true]) ∧ Kd.R (Kd.int .i64) 3 w' W.heap.size (fun _ => True) v sl ∧ Below W.heap.size W w') ∧ (∀ (A : Option Addr) (c : Nat) (W : World),Kd.C (Kd.int .i64) W A fi.length fi → fi.length ≤ c → Calls Try.prog 8 #[.slice A fi.length c] W fun e w' => ∃ v,e = .returned (.tuple #[v,.bool true]) ∧ Kd.R (Kd.int .i64) 3 w' W.heap.size (fun _ => True) v sr ∧ Below W.heap.size W w') ∧ (∀ W,Below w.heap.size w W → Calls Try.prog 44 #[.int .i64 (fi.length : Int),.int .i64 (sl.length : Int),.int .i64 (sr.length : Int)] W fun e w' => e = .returned (.tuple #[.int .i64 mn,.bool true]) ∧ Drawn0 W w')) ∧ fi.length ≤ 1048576 := by
  refine ⟨(HFind.firstB k x y).getD [],(HFind.firstB k x y).isSome,fun W _ => HFind.impl_calls k x y W,fun W _ => HFind.spec_calls k x y W,fun h => ?_,Nat.le_trans (HFind.firstB_len k x y) (by decide)⟩
  obtain ⟨o,e⟩ := Option.isSome_iff_exists.1 h
  rw [e]
  show ∃ (sl sr : List Int) (mn : Int),k = (o.length : Int) ∧ _
  have ha : HFind.asked k x y := by
    unfold HFind.firstB at e
    split at e
    · rename_i c; exact c
    · cases e
  unfold HFind.firstB at e
  rw [if_pos ha] at e
  obtain ⟨⟨h1,h8⟩,⟨hx0,hx1⟩,⟨hy0,hy1⟩⟩ := ha
  obtain ⟨n,hn⟩ := Int.eq_ofNat_of_zero_le (show 0 ≤ k - 1 by omega)
  obtain rfl : k = ((n + 1 : Nat) : Int) := by omega
  rw [Int.toNat_natCast] at e
  have hlen := HFind.look_len (n + 1) x y (n + 1) [] (by simp) o e
  obtain ⟨hd,hb,hsx,hsy⟩ := HRiseQ.look_got (n + 1) x y (n + 1) [] o List.nodup_nil (by simp) e
  have hfc := HRiseQ.first_count o n hlen hd (fun z hz => (hb z hz).1)
  have hg : good o = true := by
    unfold good
    rw [hlen,decide_eq_true (show 1 ≤ n + 1 by omega),decide_eq_true (show n + 1 ≤ 40 by omega),Bool.true_and,Bool.true_and,List.all_eq_true]
    intro z hz
    have := hb z hz
    rw [Bool.and_eq_true,decide_eq_true_eq,decide_eq_true_eq]
    omega
  have hrl := HSeen.rightL_len o
  refine ⟨HSeen.seenR o 0 0,HSeen.rightL o,(HPlain.seenC n (HSeen.seenR o 0 0).length (HSeen.seenR o.reverse 0 0).length : Int),by rw [hlen],hsx.symm,by rw [hrl]; exact hsy.symm,by omega,fun A c W hC hc => ?_,fun A c W hC hc => ?_,fun W _ => ?_⟩
  · have := HSFL.impl_SeenFromLeft A c o (by omega) W hC hc
    rw [hg] at this
    exact this
  · have := HSFR.impl_SeenFromRight A c o (by omega) W hC hc
    rw [hg] at this
    exact this
  · have := HCBS.impl_yes n (HSeen.seenR o 0 0).length (HSeen.seenR o.reverse 0 0).length (by omega) (by omega) (by omega) W
    rw [Option.getD_some,hlen,hrl]
    exact this
theorem sm_mono (f : Nat → Nat) (a : Nat) : ∀ d,sm f a ≤ sm f (a + d)
  | 0 => Nat.le_refl _
  | d + 1 => Nat.le_trans (sm_mono f a d) (by rw [← Nat.add_assoc,sm]; omega)
theorem sm_up (f : Nat → Nat) (a b : Nat) (h : a ≤ b) : sm f a ≤ sm f b := by
  have := sm_mono f a (b - a)
  rwa [show a + (b - a) = b by omega] at this
theorem mean_facts (pp : Int) (w : World) : ∃ (nu de : Int) (q3 : Bool),(∀ W,Below w.heap.size w W → Calls Try.prog 50 #[.int .i64 pp] W fun e w' => e = .returned (.tuple #[.int .i64 nu,.int .i64 de,.bool q3]) ∧ Drawn0 W w') ∧ (∀ W,Below w.heap.size w W → Calls Try.prog 51 #[.int .i64 pp] W fun e w' => e = .returned (.tuple #[.int .i64 nu,.int .i64 de,.bool q3]) ∧ Drawn0 W w') ∧ (q3 = true → ∃ p n N D : Nat,pp = (p : Int) ∧ nu = (N : Int) ∧ de = (D : Int) ∧ p = n + 1 ∧ n ≤ 14 ∧ (∀ i : Nat,i ≤ 14 → HRiseQ.allS i ≤ 1307674368000) ∧ (∀ i j : Nat,i ≤ p → j ≤ p → ∀ W,Below w.heap.size w W → Calls Try.prog 44 #[.int .i64 (p : Int),.int .i64 (i : Int),.int .i64 (j : Int)] W fun e w' => e = .returned (.tuple #[.int .i64 (HPlain.seenC n i j : Int),.bool true]) ∧ Drawn0 W w') ∧ (∀ i j : Nat,i ≤ p → j ≤ p → HRiseP.sm (HRiseQ.rowS n) i + HRiseP.sm (fun j => HPlain.seenC n i j) (j + 1) ≤ 100000000000000 ∧ HRiseP.sm (fun i => i * HRiseQ.rowS n i) i + i * HRiseP.sm (fun j => HPlain.seenC n i j) (j + 1) ≤ 100000000000000) ∧ (1 ≤ D ∧ HRiseQ.allS n % D = 0 ∧ HRiseQ.allW n = HRiseQ.allS n / D * N ∧ HRiseQ.allS n ≤ 1307674368000 ∧ HRiseQ.allW n ≤ 100000000000000)) := by
  obtain ⟨nu,de,q3,h1,h2,h3⟩ := HMean.mean_pack pp w
  refine ⟨nu,de,q3,h1,h2,fun hq => ?_⟩
  obtain ⟨n,N,D,e1,e2,e3,e4,g1,g2,g3,g4,g5⟩ := h3 hq
  refine ⟨n + 1,n,N,D,e1,e3,e4,rfl,e2,fun i hi => ?_,fun i j hi hj W _ => HCBS.impl_yes n i j (by omega) (by omega) (by omega) W,fun i j hi hj => ?_,g1,g2,g3,g4,g5⟩
  · have := (HMean.tab_facts ⟨i,by omega⟩).2.2.2.1
    rw [HMean.allS_is]
    exact this
  · have a1 := sm_up (fun j => HPlain.seenC n i j) (j + 1) (n + 2) (by omega)
    have a2 : sm (HRiseQ.rowS n) i + HRiseQ.rowS n i = sm (HRiseQ.rowS n) (i + 1) := rfl
    have a3 := sm_up (HRiseQ.rowS n) (i + 1) (n + 2) (by omega)
    have a4 : sm (fun i => i * HRiseQ.rowS n i) i + i * HRiseQ.rowS n i = sm (fun i => i * HRiseQ.rowS n i) (i + 1) := rfl
    have a5 := sm_up (fun i => i * HRiseQ.rowS n i) (i + 1) (n + 2) (by omega)
    have a6 : sm (fun j => HPlain.seenC n i j) (n + 2) = HRiseQ.rowS n i := rfl
    have a7 : sm (HRiseQ.rowS n) (n + 2) = HRiseQ.allS n := rfl
    have a8 : sm (fun i => i * HRiseQ.rowS n i) (n + 2) = HRiseQ.allW n := rfl
    have a9 := Nat.mul_le_mul_left i a1
    rw [a6] at a1 a9
    rw [a7] at a3
    rw [a8] at a5
    exact ⟨by omega,by omega⟩
end Go.Proofs.Ytleacijhpkogpad.HFactR
/- What the functions that the drawn law on who rises calls tell,for whatever list is drawn. -/
namespace Go.Proofs.Ytleacijhpkogpad.HPack
open Go.RowKit YtleacijhpkogpadW.PrintWords YtleacijhpkogpadW.PrintLast YtleacijhpkogpadW.PrintMore HImpl HFactR

theorem big_pack (A0 : Option Addr) (c0 : Nat) (l0 : List Int) (A1 : Option Addr) (c1 : Nat) (l1 : List Int) (w : World) (hr0 : Kd.C (Kd.int .u8) w A0 l0.length l0) (hc0 : l0.length ≤ c0) (hr1 : Kd.C (Kd.int .u8) w A1 l1.length l1) (hc1 : l1.length ≤ c1) :
    ∃ r : Bool,Calls Try.prog 5 #[.slice A0 l0.length c0,.slice A1 l1.length c1] w fun e w' => e = .returned (.bool r) ∧ Drawn0 w w' := by
  obtain ⟨r,h⟩ : ∃ r,PFnHeightsRise.laws_big.f l0 l1 = some r := by
    unfold PFnHeightsRise.laws_big.f
    split
    · exact ⟨_,rfl⟩
    · exact ⟨_,rfl⟩
  exact ⟨r,PFnHeightsRise.laws_big.calls A0 c0 l0 A1 c1 l1 r w hr0 hc0 hr1 hc1 h⟩
theorem ten_pack (A0 : Option Addr) (c0 : Nat) (l : List Int) (hl1 : l.length ≤ 1048576) (hLC : l.length ≤ c0) (w : World) (hC : Kd.C (Kd.int .i64) w A0 l.length l) :
    ∃ (lr rk mi : List Int) (mo le di : Int) (g : Bool),(∀ W,Below w.heap.size w W → Calls Try.prog 32 #[.slice A0 l.length c0] W fun e w' => ∃ v,e = .returned (.tuple #[v,.bool g]) ∧ Kd.R (Kd.int .i64) 3 w' W.heap.size (fun _ => True) v lr ∧ Below W.heap.size W w') ∧ (∀ W,Below w.heap.size w W → Calls Try.prog 33 #[.slice A0 l.length c0] W fun e w' => ∃ v,e = .returned (.tuple #[v,.bool g]) ∧ Kd.R (Kd.int .i64) 3 w' W.heap.size (fun _ => True) v lr ∧ Below W.heap.size W w') ∧ (∀ W,Below w.heap.size w W → Calls Try.prog 34 #[.slice A0 l.length c0] W fun e w' => e = .returned (.tuple #[.int .i64 mo,.bool g]) ∧ Below W.heap.size W w') ∧ (∀ W,Below w.heap.size w W → Calls Try.prog 35 #[.slice A0 l.length c0] W fun e w' => e = .returned (.tuple #[.int .i64 mo,.bool g]) ∧ Below W.heap.size W w') ∧ (∀ W,Below w.heap.size w W → Calls Try.prog 36 #[.slice A0 l.length c0] W fun e w' => e = .returned (.tuple #[.int .i64 le,.bool g]) ∧ Below W.heap.size W w') ∧ (∀ W,Below w.heap.size w W → Calls Try.prog 37 #[.slice A0 l.length c0] W fun e w' => e = .returned (.tuple #[.int .i64 le,.bool g]) ∧ Below W.heap.size W w') ∧ (∀ W,Below w.heap.size w W → Calls Try.prog 38 #[.slice A0 l.length c0] W fun e w' => e = .returned (.tuple #[.int .i64 di,.bool g]) ∧ Below W.heap.size W w') ∧ (∀ W,Below w.heap.size w W → Calls Try.prog 39 #[.slice A0 l.length c0] W fun e w' => e = .returned (.tuple #[.int .i64 di,.bool g]) ∧ Below W.heap.size W w') ∧ (∀ W,Below w.heap.size w W → Calls Try.prog 40 #[.slice A0 l.length c0] W fun e w' => ∃ v,e = .returned (.tuple #[v,.bool g]) ∧ Kd.R (Kd.int .i64) 3 w' W.heap.size (fun _ => True) v rk ∧ Below W.heap.size W w') ∧ (∀ W,Below w.heap.size w W → Calls Try.prog 41 #[.slice A0 l.length c0] W fun e w' => ∃ v,e = .returned (.tuple #[v,.bool g]) ∧ Kd.R (Kd.int .i64) 3 w' W.heap.size (fun _ => True) v rk ∧ Below W.heap.size W w') ∧ (∀ W,Below w.heap.size w W → Calls Try.prog 19 #[.slice A0 l.length c0] W fun e w' => e = .returned (.bool g) ∧ Below W.heap.size W w') ∧ (g = true → ∃ (D : Nat) (Sm : Int),di = (D : Int) ∧ (l.length ≤ 40) ∧ (0 < lr.length) ∧ (lr.length ≤ 40) ∧ ((lr.length : Int) ≤ mo) ∧ (mo ≤ (l.length : Int)) ∧ (le = (l.length : Int) - mo) ∧ (rk.length = l.length) ∧ ((l.length : Int) * ((l.length : Int) - 1) = 2 * Sm) ∧ (0 ≤ Sm ∧ Sm ≤ 1000000) ∧ (lr.Pairwise (· < ·)) ∧ (rk.sum = Sm) ∧ (∀ x ∈ rk,0 ≤ x) ∧ (∀ i j : Nat,i + 1 = j → j < lr.length → ∃ a b : Nat,rd lr (i : Int) = (a : Int) ∧ rd lr (j : Int) = (b : Int) ∧ a < l.length ∧ b < l.length ∧ rd l (a : Int) < rd l (b : Int)) ∧ (HDis.disL rk = D) ∧ (D ≤ 1000000) ∧ (∀ i : Nat,i < rk.length → 0 ≤ rd rk (i : Int) ∧ rd rk (i : Int) < (l.length : Int)) ∧ (∀ i j : Nat,i < j → j < rk.length → rd rk (i : Int) ≠ rd rk (j : Int)) ∧ (∀ W,Below w.heap.size w W → Calls Try.prog 15 #[.slice A0 l.length c0] W fun e w' => ∃ v,e = .returned (.tuple #[v,.bool true]) ∧ Kd.R (Kd.int .i64) 3 w' W.heap.size (fun _ => True) v mi ∧ Below W.heap.size W w') ∧ (∀ (A : Option Addr) (c : Nat) (W : World),Kd.C (Kd.int .i64) W A mi.length mi → mi.length ≤ c → Calls Try.prog 34 #[.slice A mi.length c] W fun e w' => e = .returned (.tuple #[.int .i64 mo,.bool true]) ∧ Below W.heap.size W w')) ∧ (lr.length ≤ 1048576 ∧ rk.length ≤ 1048576) := by
  cases hg : good l with
  | true =>
    have hgl := good_len hg
    have hll : (HLR.longL l).length ≤ l.length := HLR.pick_len l _ _ _ _ _
    have hkl : (HRank.ranksR l l 0).length = l.length := HRiseP.rksL_len l
    exact ⟨HLR.longL l,HRank.ranksR l l 0,l.reverse,HMtn.mtn l 0 l.length 0,(l.length : Int) - HMtn.mtn l 0 l.length 0,((HDis.disL l : Nat) : Int),true,(fun W hb => by have := HLR.impl_LongestRising A0 c0 l hl1 W (Kd.C_below hC hb) hLC; simp only [hg,if_true,Bool.false_eq_true,if_false] at this; exact this),(fun W hb => by have := HLR.spec_LongestRising A0 c0 l hl1 W (Kd.C_below hC hb) hLC; simp only [hg,if_true,Bool.false_eq_true,if_false] at this; exact this),(fun W hb => by have := HMtn.impl_LongestMountain A0 c0 l hl1 W (Kd.C_below hC hb) hLC; simp only [hg,if_true,Bool.false_eq_true,if_false] at this; exact this),(fun W hb => by have := HMtn.spec_LongestMountain A0 c0 l hl1 W (Kd.C_below hC hb) hLC; simp only [hg,if_true,Bool.false_eq_true,if_false] at this; exact this),(fun W hb => by have := HFew.impl_FewestToLeave A0 c0 l hl1 W (Kd.C_below hC hb) hLC; simp only [hg,if_true,Bool.false_eq_true,if_false] at this; exact this),(fun W hb => by have := HFew.spec_FewestToLeave A0 c0 l hl1 W (Kd.C_below hC hb) hLC; simp only [hg,if_true,Bool.false_eq_true,if_false] at this; exact this),(fun W hb => by have := HDis.impl_CountDisorder A0 c0 l hl1 W (Kd.C_below hC hb) hLC; simp only [hg,if_true,Bool.false_eq_true,if_false] at this; exact this),(fun W hb => by have := HDis.spec_CountDisorder A0 c0 l hl1 W (Kd.C_below hC hb) hLC; simp only [hg,if_true,Bool.false_eq_true,if_false] at this; exact this),(fun W hb => by have := HRank.impl_RanksOf A0 c0 l hl1 W (Kd.C_below hC hb) hLC; simp only [hg,if_true,Bool.false_eq_true,if_false] at this; exact this),(fun W hb => by have := HRank.spec_RanksOf A0 c0 l hl1 W (Kd.C_below hC hb) hLC; simp only [hg,if_true,Bool.false_eq_true,if_false] at this; exact this),(fun W hb => by have := HAH.impl_AreHeights A0 c0 l hl1 W (Kd.C_below hC hb) hLC; simp only [hg,if_true,Bool.false_eq_true,if_false] at this; exact this),(fun _ => rise_facts A0 c0 l hg hLC w hC _ _ _ _ _ _ rfl rfl rfl rfl rfl rfl),⟨by omega,by omega⟩⟩
  | false =>
    exact ⟨[],[],[],0,0,0,false,(fun W hb => by have := HLR.impl_LongestRising A0 c0 l hl1 W (Kd.C_below hC hb) hLC; simp only [hg,if_true,Bool.false_eq_true,if_false] at this; exact this),(fun W hb => by have := HLR.spec_LongestRising A0 c0 l hl1 W (Kd.C_below hC hb) hLC; simp only [hg,if_true,Bool.false_eq_true,if_false] at this; exact this),(fun W hb => by have := HMtn.impl_LongestMountain A0 c0 l hl1 W (Kd.C_below hC hb) hLC; simp only [hg,if_true,Bool.false_eq_true,if_false] at this; exact this),(fun W hb => by have := HMtn.spec_LongestMountain A0 c0 l hl1 W (Kd.C_below hC hb) hLC; simp only [hg,if_true,Bool.false_eq_true,if_false] at this; exact this),(fun W hb => by have := HFew.impl_FewestToLeave A0 c0 l hl1 W (Kd.C_below hC hb) hLC; simp only [hg,if_true,Bool.false_eq_true,if_false] at this; exact this),(fun W hb => by have := HFew.spec_FewestToLeave A0 c0 l hl1 W (Kd.C_below hC hb) hLC; simp only [hg,if_true,Bool.false_eq_true,if_false] at this; exact this),(fun W hb => by have := HDis.impl_CountDisorder A0 c0 l hl1 W (Kd.C_below hC hb) hLC; simp only [hg,if_true,Bool.false_eq_true,if_false] at this; exact this),(fun W hb => by have := HDis.spec_CountDisorder A0 c0 l hl1 W (Kd.C_below hC hb) hLC; simp only [hg,if_true,Bool.false_eq_true,if_false] at this; exact this),(fun W hb => by have := HRank.impl_RanksOf A0 c0 l hl1 W (Kd.C_below hC hb) hLC; simp only [hg,if_true,Bool.false_eq_true,if_false] at this; exact this),(fun W hb => by have := HRank.spec_RanksOf A0 c0 l hl1 W (Kd.C_below hC hb) hLC; simp only [hg,if_true,Bool.false_eq_true,if_false] at this; exact this),(fun W hb => by have := HAH.impl_AreHeights A0 c0 l hl1 W (Kd.C_below hC hb) hLC; simp only [hg,if_true,Bool.false_eq_true,if_false] at this; exact this),(fun e => by cases e),⟨by simp,by simp⟩⟩
end Go.Proofs.Ytleacijhpkogpad.HPack
