/- The list of ticks by number, its greatest number and its first place, as the program makes them: the walks of impl.byTicks, slices.Max, slices.Index. -/
import Derived.Test.YtleacijhpkogpabDoorRTicks
import Derived.Test.YtleacijhpkogpabDoorRRowOf
import Derived.Test.YtleacijhpkogpabDoorPFnRowsBeforeOfAllx28
import Derived.Test.YtleacijhpkogpabDoorPFnRowsBeforeOfAllx6
namespace Go.Proofs.YtleacijhpkogpabDoor.RImpl
open Go.RowKit Go.Proofs.YtleacijhpkogpabDoorW.PrintWords Go.Proofs.YtleacijhpkogpabDoorW.PrintLast Go.Proofs.YtleacijhpkogpabDoorW.PrintMore Go.Proofs.YtleacijhpkogpabDoor.PFnRowsBeforeOfAll Go.Shelf Go.Proofs.YtleacijhpkogpabDoor.RPlain
set_option linter.unusedVariables false
set_option linter.unusedSimpArgs false
attribute [local go_sem] max2_int max_two

set_option maxHeartbeats 4000000 in
set_option maxRecDepth 100000 in
theorem by_calls (n : Nat) (hn : 1 ≤ n ∧ n ≤ 12) (w : World) (hML : ML w) :
    Calls Tryd.prog 75 #[.int .i64 (n : Int)] w fun e w' => ∃ v : Value, e = .returned v ∧ Kd.R (Kd.int .i64) 3 w' w.heap.size (fun _ => True) v (bT (tks n) (2 ^ n)) ∧ Below w.heap.size w w' := by
  have HB := Aside0.mk (Below.refl w.heap.size w)
  have HML := Aside0.mk (fun W (h : Below w.heap.size w W) => hML.of_below h)
  have HP := Aside0.mk (pow_12 n hn.2)
  clear hML
  obtain ⟨hn1, hn⟩ := hn
  have hpw : wrap64 (2 ^ n) = ((2 ^ n : Nat) : Int) := by
    have := HP.out
    rw [show ((2 : Int) ^ n) = ((2 ^ n : Nat) : Int) by push_cast; rfl]
    generalize 2 ^ n = P at *
    unfold wrap64; omega
  have hP4 : 2 ^ n ≤ 4096 := HP.out
  generalize 2 ^ n = P at *
  have HPW := Aside0.mk hpw
  clear hpw
  go_enter Tryd.func75, Tryd.ntmps75
  go_wp2_with ((with_reducible refine gate_dst (N := 5) rfl ?_); refine Kd.R_lit (Kd.int .i64) (w0 := w) w.heap.size 3 ?hg (N := 5) ?hd (xs := ([] : List Int)) (inner := []) (ok := fun _ => True) (okp := fun _ => True) ?hr ?hp (fun _ hk => hk) trivial (by repeat (first | (with_reducible first | exact HB.out | apply below_alloc | apply pw_below_drewN | apply below_drew1) | exact HB.out)) (below_size (by repeat (first | (with_reducible first | exact HB.out | apply below_alloc | apply pw_below_drewN | apply below_drew1) | exact HB.out))) (by simp) ?_; (case hd => rfl); (case hg => rfl); (case hr => first | (go_simp; done) | (go_simp; rfl)); (case hp => exact (Reps.none _ _)); intro v1 w2 ho hb hg hnew; have HO := Aside0.mk ho; have HBn := Aside0.mk hb; clear ho hb hg hnew HB; have HB := HBn; clear HBn)
  rw [HPW.out]
  clear HPW
  go_loopg [3, 8] P (fun kq v3 v8 w' => ∃ j : Nat, v8 = .int .i64 (j : Int) ∧ Aside0 (kq + j = P) ∧ Aside0 (Kd.R (Kd.int .i64) 3 w' w.heap.size (fun _ => True) v3 (bT (tks n) j)) ∧ Aside0 (Below w.heap.size w w'))
  case atStart => exact ⟨0, rfl, ⟨rfl⟩, HO, ⟨(by repeat (first | (with_reducible first | exact HB.out | apply below_alloc | apply pw_below_drewN | apply below_drew1) | exact HB.out))⟩⟩
  case round =>
    clear HO HB
    obtain ⟨j, rfl, HK, HO, HB⟩ := hrel
    have HM := Aside0.mk (fun W => rowOf_calls n j (by omega) (by have := HK.out; omega) W)
    have HT := Aside0.mk (fun W (h : Below w.heap.size w W) => ticks_calls (mkL n j) (by rw [mkL_len]; omega) W (HML.out W h))
    have HTE : Aside0 ((histL (mkL n j)).2.length = tks n j) := ⟨rfl⟩
    rw [HTE.out] at HT
    clear HTE
    have HS := Aside0.mk (bT_succ (tks n) j)
    have hlen := bT_len (tks n) j
    by_cases hj : j < P
    · generalize bs (mkL n j) = b at *
      generalize hT : tks n j = T at *
      clear hT
      generalize bT (tks n) j = xs at *
      generalize hys : bT (tks n) (j + 1) = ys at *
      have HYS := Aside0.mk hys
      clear hys
      go_wp2_with (first
        | (go_at_call 69; refine (HM.out _).mono ?_; rintro e w4 ⟨rfl, hb⟩; have HOn := Aside0.mk (Kd.R_below HO.out hb); have HBn := Aside0.mk (below_step (by repeat (first | (with_reducible first | exact HB.out | apply below_alloc | apply pw_below_drewN | apply below_drew1) | exact HB.out)) hb); clear hb HB HO; have HB := HBn; have HO := HOn; clear HBn HOn)
        | (go_at_call 82; refine (HT.out _ (by repeat (first | (with_reducible first | exact HB.out | apply below_alloc | apply pw_below_drewN | apply below_drew1) | exact HB.out))).mono ?_; rintro e w5 ⟨rfl, hb⟩; have HOn := Aside0.mk (Kd.R_below HO.out hb); have HBn := Aside0.mk (below_step (by repeat (first | (with_reducible first | exact HB.out | apply below_alloc | apply pw_below_drewN | apply below_drew1) | exact HB.out)) hb); clear hb HB HO; have HB := HBn; have HO := HOn; clear HBn HOn)
        | ((with_reducible refine gate_builtin (b := .append) (xs := #[.tmp 11, .tmp 16]) rfl ?_); at_builtin; refine Kd.R_append (Kd.int .i64) (w0 := w) w.heap.size rfl (.tmp 11) (.tmp 16) 27 3 (.int .i64 0) 8 rfl Tryd.underlying27 info3 rfl (by decide) (by omega) u3 xs (T : Int) [.int .i64 (T : Int)] (fun _ => True) (fun _ => False) rfl rfl ?aP (fun _ hk => hk.elim) ?aF ?aO ?aB ?aS ?aL ?_; (case aP => exact rfl); (case aB => exact (by repeat (first | (with_reducible first | exact HB.out | apply below_alloc | apply pw_below_drewN | apply below_drew1) | exact HB.out))); (case aF => exact (fun _ _ => trivial)); (case aO => exact HO.out); (case aS => exact (below_size (by repeat (first | (with_reducible first | exact HB.out | apply below_alloc | apply pw_below_drewN | apply below_drew1) | exact HB.out)))); (case aL => omega); intro v7 w7 ho hb hg hat; rw [HS.out] at ho; have HOn := Aside0.mk ho; have HBn := Aside0.mk hb; clear ho hb hg hat HO HB; have HO := HOn; have HB := HBn; clear HOn HBn))
      go_roundg (P - (j + 1))
      case measure => have := HK.out; omega
      case rel => exact ⟨j + 1, rfl, ⟨by have := HK.out; omega⟩, ⟨by rw [HYS.out]; exact HO.out⟩, ⟨(by repeat (first | (with_reducible first | exact HB.out | apply below_alloc | apply pw_below_drewN | apply below_drew1) | exact HB.out))⟩⟩
    · have hjP : j = P := by have := HK.out; omega
      clear HM HT HS
      go_wp2
      go_ret
      exact ⟨_, rfl, by rw [← hjP]; exact HO.out, (by repeat (first | (with_reducible first | exact HB.out | apply below_alloc | apply pw_below_drewN | apply below_drew1) | exact HB.out))⟩
set_option maxHeartbeats 4000000 in
set_option maxRecDepth 100000 in
theorem max_calls (A : Option Addr) (c : Nat) (l : List Int) (hl : 0 < l.length ∧ l.length ≤ 1000000) (hlc : l.length ≤ c) (w : World) (hC : Kd.C (Kd.int .i64) w A l.length l) :
    Calls Tryd.prog 74 #[.slice A l.length c] w fun e w' => e = .returned (.int .i64 (mxU l (l.length - 1))) ∧ Below w.heap.size w w' := by
  have HB := Aside0.mk (Below.refl w.heap.size w)
  obtain ⟨hl0, hl1⟩ := hl
  have HC := Aside0.mk hC
  obtain ⟨ad, e, hc⟩ := Kd.at_int hC 0 (by omega) (by omega)
  cases e
  replace hc : w.cell? (ad.add 0) = some (.int .i64 (rdI l 0)) := hc
  rw [show ad.add 0 = ad by simp [Addr.add]] at hc
  clear hC
  have HS0 : Aside0 (mxU l 0 = rdI l 0) := ⟨rfl⟩
  generalize rdI l 0 = q at *
  go_enter Tryd.func74, Tryd.ntmps74
  go_wp2
  go_loopg [3, 4] (l.length - 1) (fun kq v3 v4 w' => ∃ i : Nat, v3 = .int .i64 (mxU l (i - 1)) ∧ v4 = .int .i64 (i : Int) ∧ Aside0 (kq + i = l.length ∧ 1 ≤ i) ∧ Aside0 ((Kd.int .i64).C w' (some ad) l.length l) ∧ Aside0 (Below w.heap.size w w'))
  case atStart => exact ⟨1, by rw [show mxU l (1 - 1) = q from HS0.out], rfl, ⟨by omega⟩, HC, ⟨(by repeat (first | (with_reducible first | exact HB.out | apply below_alloc | apply pw_below_drewN | apply below_drew1) | exact HB.out))⟩⟩
  case round =>
    clear HC HB
    obtain ⟨i, rfl, rfl, HK, HC, HB⟩ := hrel
    have hk := HK.out
    by_cases hj : i < l.length
    · obtain ⟨ad2, e, hc⟩ := Kd.at_int HC.out (i : Int) (by omega) (by omega)
      cases e
      replace hc : wr.cell? (ad.add i) = some (.int .i64 (rdI l i)) := hc
      have HSW : Aside0 (mxU l (i + 1 - 1) = if mxU l (i - 1) < rdI l i then rdI l i else mxU l (i - 1)) := ⟨by
        obtain ⟨m, rfl⟩ : ∃ m, i = m + 1 := ⟨i - 1, by omega⟩
        rfl⟩
      clear hk
      generalize rdI l i = q2 at *
      generalize mxU l (i - 1) = s at *
      by_cases hq : s < q2
      · go_wp2
        go_roundg (l.length - (i + 1))
        case measure => have := HK.out; omega
        case rel => exact ⟨i + 1, by rw [HSW.out, if_pos hq], rfl, ⟨by have := HK.out; omega⟩, HC, ⟨(by repeat (first | (with_reducible first | exact HB.out | apply below_alloc | apply pw_below_drewN | apply below_drew1) | exact HB.out))⟩⟩
      · go_wp2
        go_roundg (l.length - (i + 1))
        case measure => have := HK.out; omega
        case rel => exact ⟨i + 1, by rw [HSW.out, if_neg (show ¬ s < q2 by omega)], rfl, ⟨by have := HK.out; omega⟩, HC, ⟨(by repeat (first | (with_reducible first | exact HB.out | apply below_alloc | apply pw_below_drewN | apply below_drew1) | exact HB.out))⟩⟩
    · have HJ : Aside0 (mxU l (i - 1) = mxU l (l.length - 1)) := ⟨by rw [show i = l.length by omega]⟩
      clear hk
      generalize mxU l (i - 1) = s at *
      go_wp2
      go_ret
      exact ⟨by rw [HJ.out]; rfl, (by repeat (first | (with_reducible first | exact HB.out | apply below_alloc | apply pw_below_drewN | apply below_drew1) | exact HB.out))⟩
/-- The first place of a number. -/
theorem index_loop (l : List Int) (x : Int) (f : Nat) (hf : f < l.length) (hl : l.length ≤ 1000000) (hx : rdI l f = x) (hn : ∀ i, i < f → rdI l i ≠ x) : ∀ (d j : Nat), j + d = f →
    Ev (fun k => slices_Index_int_int.l0 k l x (l.length : Int) (j : Int)) (f : Int) := by
  intro d
  induction d with
  | zero =>
    intro j hj
    obtain rfl : j = f := by omega
    refine Ev.step (f := fun _ => some (j : Int)) (fun k => ?_) (Ev.now _)
    simp only [slices_Index_int_int.l0]
    rw [if_pos (by omega), if_pos (by omega), if_pos (by omega), if_pos (show x = rd l (j : Int) from hx.symm)]
  | succ d ih =>
    intro j hj
    refine Ev.step (f := fun k => slices_Index_int_int.l0 k l x (l.length : Int) ((j + 1 : Nat) : Int)) (fun k => ?_) (ih (j + 1) (by omega))
    have e1 : wrap64 ((j : Int) + 1) = ((j + 1 : Nat) : Int) := by unfold wrap64; omega
    simp only [slices_Index_int_int.l0]
    rw [if_pos (by omega), if_pos (by omega), if_pos (by omega), if_neg (show ¬ x = rd l (j : Int) from fun e => hn j (by omega) e.symm), e1]
theorem index_calls (A : Option Addr) (c : Nat) (l : List Int) (x : Int) (f : Nat) (hf : f < l.length) (hl : l.length ≤ 1000000) (hx : rdI l f = x) (hn : ∀ i, i < f → rdI l i ≠ x) (hlc : l.length ≤ c) (w : World) (hC : Kd.C (Kd.int .i64) w A l.length l) :
    Calls Tryd.prog 77 #[.slice A l.length c, .int .i64 x] w fun e w' => e = .returned (.int .i64 (f : Int)) ∧ Drawn0 w w' := by
  obtain ⟨k, hk⟩ := (index_loop l x f hf hl hx hn f 0 (by omega)).rounds
  exact slices_Index_int_int.calls k A c l x _ w hC hlc hk
end Go.Proofs.YtleacijhpkogpabDoor.RImpl
/- Sums, counts and longest ticks, as the program tells them: the walks of impl.SumOfTicks, CountByTicks, LongestTicks, FirstLongest. -/
namespace Go.Proofs.YtleacijhpkogpabDoor.RImpl
open Go.RowKit Go.Proofs.YtleacijhpkogpabDoorW.PrintWords Go.Proofs.YtleacijhpkogpabDoorW.PrintLast Go.Proofs.YtleacijhpkogpabDoorW.PrintMore Go.Proofs.YtleacijhpkogpabDoor.PFnRowsBeforeOfAll Go.Shelf Go.Proofs.YtleacijhpkogpabDoor.RPlain
set_option linter.unusedVariables false
set_option linter.unusedSimpArgs false

theorem in_calls (a b c : Int) (w : World) : Calls Tryd.prog 80 #[.int .i64 a, .int .i64 b, .int .i64 c] w fun e w' => e = .returned (.bool (decide (b ≤ a ∧ a ≤ c))) ∧ Drawn0 w w' :=
  impl_in.calls a b c _ w (by
    unfold impl_in.f
    by_cases h : b ≤ a
    · rw [if_pos h]
      by_cases h2 : a ≤ c
      · rw [decide_eq_true h2, decide_eq_true ⟨h, h2⟩]
      · rw [decide_eq_false h2, decide_eq_false (fun z => h2 z.2)]
    · rw [if_neg h, decide_eq_false (fun z => h z.1)])
theorem traced_calls (a : Int) (w : World) : Calls Tryd.prog 68 #[.int .i64 a] w fun e w' => e = .returned (.bool (decide (1 ≤ a ∧ a ≤ 12))) ∧ Drawn0 w w' :=
  impl_isTraced.calls a _ w (by
    unfold impl_isTraced.f impl_in.f
    by_cases h : 1 ≤ a
    · rw [if_pos h]
      by_cases h2 : a ≤ 12
      · rw [decide_eq_true h2, decide_eq_true ⟨h, h2⟩]; rfl
      · rw [decide_eq_false h2, decide_eq_false (fun z => h2 z.2)]; rfl
    · rw [if_neg h, decide_eq_false (fun z => h z.1)]; rfl)
theorem traced_yes (n : Nat) (h : 1 ≤ n ∧ n ≤ 12) (w : World) : Calls Tryd.prog 68 #[.int .i64 (n : Int)] w fun e w' => e = .returned (.bool true) ∧ Drawn0 w w' := by
  have := traced_calls (n : Int) w
  rwa [decide_eq_true (by omega)] at this
theorem traced_no (a : Int) (h : ¬ (1 ≤ a ∧ a ≤ 12)) (w : World) : Calls Tryd.prog 68 #[.int .i64 a] w fun e w' => e = .returned (.bool false) ∧ Drawn0 w w' := by
  have := traced_calls a w
  rwa [decide_eq_false h] at this
set_option maxHeartbeats 4000000 in
set_option maxRecDepth 100000 in
theorem sum_no (a : Int) (h : ¬ (1 ≤ a ∧ a ≤ 12)) (w : World) :
    Calls Tryd.prog 29 #[.int .i64 a] w fun e w' => e = .returned (.tuple #[.int .i64 0, .bool false]) ∧ Below w.heap.size w w' := by
  have HF := Aside0.mk (fun W => traced_no a h W)
  clear h
  have HB := Aside0.mk (Below.refl w.heap.size w)
  go_enter Tryd.func29, Tryd.ntmps29
  go_wp2_with (go_at_call 68; refine (HF.out _).mono ?_; rintro e w' ⟨rfl, ⟨nd, rfl⟩⟩)
  go_ret2
  exact ⟨rfl, (by repeat (first | (with_reducible first | exact HB.out | apply below_alloc | apply pw_below_drewN | apply below_drew1) | exact HB.out))⟩
set_option maxHeartbeats 4000000 in
set_option maxRecDepth 100000 in
theorem long_no (a : Int) (h : ¬ (1 ≤ a ∧ a ≤ 12)) (w : World) :
    Calls Tryd.prog 25 #[.int .i64 a] w fun e w' => e = .returned (.tuple #[.int .i64 0, .bool false]) ∧ Below w.heap.size w w' := by
  have HF := Aside0.mk (fun W => traced_no a h W)
  clear h
  have HB := Aside0.mk (Below.refl w.heap.size w)
  go_enter Tryd.func25, Tryd.ntmps25
  go_wp2_with (go_at_call 68; refine (HF.out _).mono ?_; rintro e w' ⟨rfl, ⟨nd, rfl⟩⟩)
  go_ret2
  exact ⟨rfl, (by repeat (first | (with_reducible first | exact HB.out | apply below_alloc | apply pw_below_drewN | apply below_drew1) | exact HB.out))⟩
set_option maxHeartbeats 4000000 in
set_option maxRecDepth 100000 in
theorem first_no (a : Int) (h : ¬ (1 ≤ a ∧ a ≤ 12)) (w : World) :
    Calls Tryd.prog 27 #[.int .i64 a] w fun e w' => e = .returned (.tuple #[.string ⟨#[]⟩, .bool false]) ∧ Below w.heap.size w w' := by
  have HF := Aside0.mk (fun W => traced_no a h W)
  clear h
  have HB := Aside0.mk (Below.refl w.heap.size w)
  go_enter Tryd.func27, Tryd.ntmps27
  go_wp2_with (go_at_call 68; refine (HF.out _).mono ?_; rintro e w' ⟨rfl, ⟨nd, rfl⟩⟩)
  go_ret2
  exact ⟨rfl, (by repeat (first | (with_reducible first | exact HB.out | apply below_alloc | apply pw_below_drewN | apply below_drew1) | exact HB.out))⟩
set_option maxHeartbeats 4000000 in
set_option maxRecDepth 100000 in
theorem sum_yes (n : Nat) (hn : 1 ≤ n ∧ n ≤ 12) (w : World) (hML : ML w) :
    Calls Tryd.prog 29 #[.int .i64 (n : Int)] w fun e w' => e = .returned (.tuple #[.int .i64 (sumT (tks n) (2 ^ n) : Int), .bool true]) ∧ Below w.heap.size w w' := by
  have HF := Aside0.mk (fun W => traced_yes n hn W)
  have HC := Aside0.mk (fun W (h : Below w.heap.size w W) => by_calls n hn W (hML.of_below h))
  have HB := Aside0.mk (Below.refl w.heap.size w)
  have hp := pow_12 n hn.2
  have hlen : (bT (tks n) (2 ^ n)).length ≤ 4096 := by rw [bT_len]; exact hp
  have HS : Aside0 (sumV (bT (tks n) (2 ^ n)) (bT (tks n) (2 ^ n)).length = (sumT (tks n) (2 ^ n) : Int)) := ⟨by rw [bT_len]; exact (sumV_bT (tks n) (2 ^ n) hp (fun u _ => tks_le n u hn.2) _ (Nat.le_refl _)).1⟩
  clear hn hp hML
  generalize bT (tks n) (2 ^ n) = out at *
  generalize (sumT (tks n) (2 ^ n) : Int) = S at *
  go_enter Tryd.func29, Tryd.ntmps29
  go_wp2_with (first | (go_at_call 68; refine (HF.out _).mono ?_; rintro e w' ⟨rfl, ⟨nd, rfl⟩⟩) | (go_at_call 75; refine (HC.out _ (by repeat (first | (with_reducible first | exact HB.out | apply below_alloc | apply pw_below_drewN | apply below_drew1) | exact HB.out))).mono ?_; rintro e w3 ⟨v, rfl, ho, hb⟩; obtain ⟨A, c, rfl, hlc, hC⟩ := Kd.R_reads ho; have HCC := Aside0.mk hC; have HBn := Aside0.mk (below_step (by repeat (first | (with_reducible first | exact HB.out | apply below_alloc | apply pw_below_drewN | apply below_drew1) | exact HB.out)) hb); clear ho hC hb HB; have HB := HBn; clear HBn))
  clear HF HC
  go_loopg [4, 13] out.length (fun kq v4 v13 w' => ∃ j : Nat, v4 = .int .i64 (sumV out j) ∧ v13 = .int .i64 (j : Int) ∧ Aside0 (kq + j = out.length) ∧ Aside0 ((Kd.int .i64).C w' A out.length out) ∧ Aside0 (Below w.heap.size w w'))
  case atStart => exact ⟨0, rfl, rfl, ⟨rfl⟩, HCC, ⟨(by repeat (first | (with_reducible first | exact HB.out | apply below_alloc | apply pw_below_drewN | apply below_drew1) | exact HB.out))⟩⟩
  case round =>
    clear HCC HB
    obtain ⟨j, rfl, rfl, HK, HCC, HB⟩ := hrel
    by_cases hj : j < out.length
    · obtain ⟨ad, e, hc⟩ := Kd.at_int HCC.out (j : Int) (by omega) (by omega)
      cases e
      replace hc : wr.cell? (ad.add j) = some (.int .i64 (rdI out j)) := hc
      have HSW : Aside0 (sumV out (j + 1) = wrap64 (sumV out j + rdI out j)) := ⟨rfl⟩
      generalize rdI out j = q at *
      generalize sumV out j = s at *
      go_wp2
      go_roundg (out.length - (j + 1))
      case measure => have := HK.out; omega
      case rel => exact ⟨j + 1, by rw [HSW.out], rfl, ⟨by have := HK.out; omega⟩, HCC, ⟨(by repeat (first | (with_reducible first | exact HB.out | apply below_alloc | apply pw_below_drewN | apply below_drew1) | exact HB.out))⟩⟩
    · have hjj : j = out.length := by have := HK.out; omega
      have HS2 : Aside0 (sumV out j = S) := ⟨by rw [hjj]; exact HS.out⟩
      generalize sumV out j = s at *
      go_wp2
      go_ret2
      exact ⟨by rw [HS2.out]; rfl, (by repeat (first | (with_reducible first | exact HB.out | apply below_alloc | apply pw_below_drewN | apply below_drew1) | exact HB.out))⟩
set_option maxHeartbeats 4000000 in
set_option maxRecDepth 100000 in
theorem long_yes (n : Nat) (hn : 1 ≤ n ∧ n ≤ 12) (w : World) (hML : ML w) :
    Calls Tryd.prog 25 #[.int .i64 (n : Int)] w fun e w' => e = .returned (.tuple #[.int .i64 (mxT (tks n) (2 ^ n) : Int), .bool true]) ∧ Below w.heap.size w w' := by
  have HF := Aside0.mk (fun W => traced_yes n hn W)
  have HC := Aside0.mk (fun W (h : Below w.heap.size w W) => by_calls n hn W (hML.of_below h))
  have HB := Aside0.mk (Below.refl w.heap.size w)
  have hp := pow_12 n hn.2
  have hp0 : 0 < 2 ^ n := Nat.pow_pos (by decide)
  have hlen : 0 < (bT (tks n) (2 ^ n)).length ∧ (bT (tks n) (2 ^ n)).length ≤ 1000000 := by rw [bT_len]; omega
  have hS : mxU (bT (tks n) (2 ^ n)) ((bT (tks n) (2 ^ n)).length - 1) = (mxT (tks n) (2 ^ n) : Int) := by
    rw [bT_len, mxU_bT _ _ _ (by omega)]
    rw [show 2 ^ n - 1 + 1 = 2 ^ n by omega]
  have HM := Aside0.mk (fun A c (h : (bT (tks n) (2 ^ n)).length ≤ c) W hC => max_calls A c (bT (tks n) (2 ^ n)) hlen h W hC)
  rw [hS] at HM
  clear hn hp hML hp0 hS hlen
  generalize bT (tks n) (2 ^ n) = out at *
  generalize (mxT (tks n) (2 ^ n) : Int) = S at *
  go_enter Tryd.func25, Tryd.ntmps25
  go_wp2_with (first | (go_at_call 68; refine (HF.out _).mono ?_; rintro e w' ⟨rfl, ⟨nd, rfl⟩⟩) | (go_at_call 75; refine (HC.out _ (by repeat (first | (with_reducible first | exact HB.out | apply below_alloc | apply pw_below_drewN | apply below_drew1) | exact HB.out))).mono ?_; rintro e w3 ⟨v, rfl, ho, hb⟩; obtain ⟨A, c, rfl, hlc, hC⟩ := Kd.R_reads ho; have HCC := Aside0.mk hC; have HBn := Aside0.mk (below_step (by repeat (first | (with_reducible first | exact HB.out | apply below_alloc | apply pw_below_drewN | apply below_drew1) | exact HB.out)) hb); clear ho hC hb HB; have HB := HBn; clear HBn) | (go_at_call 74; refine (HM.out _ _ hlc _ HCC.out).mono ?_; rintro e w4 ⟨rfl, hb⟩; have HBn := Aside0.mk (below_step (by repeat (first | (with_reducible first | exact HB.out | apply below_alloc | apply pw_below_drewN | apply below_drew1) | exact HB.out)) hb); clear hb HB; have HB := HBn; clear HBn))
  go_ret2
  exact ⟨rfl, (by repeat (first | (with_reducible first | exact HB.out | apply below_alloc | apply pw_below_drewN | apply below_drew1) | exact HB.out))⟩
set_option maxHeartbeats 4000000 in
set_option maxRecDepth 100000 in
theorem first_yes (n f : Nat) (hn : 1 ≤ n ∧ n ≤ 12) (hf : f < 2 ^ n ∧ tks n f = mxT (tks n) (2 ^ n) ∧ ∀ i, i < f → tks n i ≠ mxT (tks n) (2 ^ n)) (w : World) (hML : ML w) :
    Calls Tryd.prog 27 #[.int .i64 (n : Int)] w fun e w' => e = .returned (.tuple #[.string (bs (mkL n f)), .bool true]) ∧ Below w.heap.size w w' := by
  have HF := Aside0.mk (fun W => traced_yes n hn W)
  have HC := Aside0.mk (fun W (h : Below w.heap.size w W) => by_calls n hn W (hML.of_below h))
  have HB := Aside0.mk (Below.refl w.heap.size w)
  have hp := pow_12 n hn.2
  have hp0 : 0 < 2 ^ n := Nat.pow_pos (by decide)
  have hlen : 0 < (bT (tks n) (2 ^ n)).length ∧ (bT (tks n) (2 ^ n)).length ≤ 1000000 := by rw [bT_len]; omega
  have hS : mxU (bT (tks n) (2 ^ n)) ((bT (tks n) (2 ^ n)).length - 1) = (mxT (tks n) (2 ^ n) : Int) := by
    rw [bT_len, mxU_bT _ _ _ (by omega)]
    rw [show 2 ^ n - 1 + 1 = 2 ^ n by omega]
  have HM := Aside0.mk (fun A c (h : (bT (tks n) (2 ^ n)).length ≤ c) W hC => max_calls A c (bT (tks n) (2 ^ n)) hlen h W hC)
  rw [hS] at HM
  have HX := Aside0.mk (fun A c (h : (bT (tks n) (2 ^ n)).length ≤ c) W hC => index_calls A c (bT (tks n) (2 ^ n)) (mxT (tks n) (2 ^ n) : Int) f (by rw [bT_len]; exact hf.1) hlen.2 (by rw [bT_rd _ _ _ hf.1, hf.2.1]) (fun i hi => by rw [bT_rd _ _ _ (by omega)]; have := hf.2.2 i hi; omega) h W hC)
  have HR := Aside0.mk (fun W => rowOf_calls n f (by omega) (by omega) W)
  clear hn hp hML hp0 hS hlen hf
  generalize bT (tks n) (2 ^ n) = out at *
  generalize (mxT (tks n) (2 ^ n) : Int) = S at *
  generalize bs (mkL n f) = b at *
  go_enter Tryd.func27, Tryd.ntmps27
  go_wp2_with (first | (go_at_call 68; refine (HF.out _).mono ?_; rintro e w' ⟨rfl, ⟨nd, rfl⟩⟩) | (go_at_call 75; refine (HC.out _ (by repeat (first | (with_reducible first | exact HB.out | apply below_alloc | apply pw_below_drewN | apply below_drew1) | exact HB.out))).mono ?_; rintro e w3 ⟨v, rfl, ho, hb⟩; obtain ⟨A, c, rfl, hlc, hC⟩ := Kd.R_reads ho; have HCC := Aside0.mk hC; have HBn := Aside0.mk (below_step (by repeat (first | (with_reducible first | exact HB.out | apply below_alloc | apply pw_below_drewN | apply below_drew1) | exact HB.out)) hb); clear ho hC hb HB; have HB := HBn; clear HBn) | (go_at_call 74; refine (HM.out _ _ hlc _ HCC.out).mono ?_; rintro e w4 ⟨rfl, hb⟩; have HCn := Aside0.mk (Kd.C_below HCC.out hb); have HBn := Aside0.mk (below_step (by repeat (first | (with_reducible first | exact HB.out | apply below_alloc | apply pw_below_drewN | apply below_drew1) | exact HB.out)) hb); clear hb HB HCC; have HB := HBn; have HCC := HCn; clear HBn HCn) | (go_at_call 77; refine (HX.out _ _ hlc _ HCC.out).mono ?_; rintro e w5 ⟨rfl, ⟨nd3, rfl⟩⟩) | (go_at_call 69; refine (HR.out _).mono ?_; rintro e w6 ⟨rfl, hb⟩; have HBn := Aside0.mk (below_step (by repeat (first | (with_reducible first | exact HB.out | apply below_alloc | apply pw_below_drewN | apply below_drew1) | exact HB.out)) hb); clear hb HB; have HB := HBn; clear HBn))
  go_ret2
  exact ⟨rfl, (by repeat (first | (with_reducible first | exact HB.out | apply below_alloc | apply pw_below_drewN | apply below_drew1) | exact HB.out))⟩
set_option maxHeartbeats 4000000 in
set_option maxRecDepth 100000 in
theorem count_no (a b : Int) (h : ¬ ((1 ≤ a ∧ a ≤ 12) ∧ (0 ≤ b ∧ b ≤ 1000))) (w : World) :
    Calls Tryd.prog 31 #[.int .i64 a, .int .i64 b] w fun e w' => e = .returned (.tuple #[.int .i64 0, .bool false]) ∧ Below w.heap.size w w' := by
  have HB := Aside0.mk (Below.refl w.heap.size w)
  by_cases h1 : 1 ≤ a ∧ a ≤ 12
  · have HF := Aside0.mk (fun W => traced_calls a W)
    rw [decide_eq_true h1] at HF
    have HI := Aside0.mk (fun W => in_calls b 0 1000 W)
    rw [decide_eq_false (fun z => h ⟨h1, z⟩)] at HI
    clear h h1
    go_enter Tryd.func31, Tryd.ntmps31
    go_wp2_with (first | (go_at_call 68; refine (HF.out _).mono ?_; rintro e w' ⟨rfl, ⟨nd, rfl⟩⟩) | (go_at_call 80; refine (HI.out _).mono ?_; rintro e w' ⟨rfl, ⟨nd2, rfl⟩⟩))
    go_ret2
    exact ⟨rfl, (by repeat (first | (with_reducible first | exact HB.out | apply below_alloc | apply pw_below_drewN | apply below_drew1) | exact HB.out))⟩
  · have HF := Aside0.mk (fun W => traced_no a h1 W)
    clear h h1
    go_enter Tryd.func31, Tryd.ntmps31
    go_wp2_with (go_at_call 68; refine (HF.out _).mono ?_; rintro e w' ⟨rfl, ⟨nd, rfl⟩⟩)
    go_ret2
    exact ⟨rfl, (by repeat (first | (with_reducible first | exact HB.out | apply below_alloc | apply pw_below_drewN | apply below_drew1) | exact HB.out))⟩
set_option maxHeartbeats 4000000 in
set_option maxRecDepth 100000 in
theorem count_yes (n t : Nat) (hn : 1 ≤ n ∧ n ≤ 12) (ht : t ≤ 1000) (w : World) (hML : ML w) :
    Calls Tryd.prog 31 #[.int .i64 (n : Int), .int .i64 (t : Int)] w fun e w' => e = .returned (.tuple #[.int .i64 (cN (tks n) (2 ^ n) t : Int), .bool true]) ∧ Below w.heap.size w w' := by
  have HF := Aside0.mk (fun W => traced_yes n hn W)
  have HC := Aside0.mk (fun W (h : Below w.heap.size w W) => by_calls n hn W (hML.of_below h))
  have HI := Aside0.mk (fun W => in_calls (t : Int) 0 1000 W)
  rw [decide_eq_true (by omega)] at HI
  have HB := Aside0.mk (Below.refl w.heap.size w)
  have hp := pow_12 n hn.2
  have hlen : (bT (tks n) (2 ^ n)).length ≤ 4096 := by rw [bT_len]; exact hp
  have HS : Aside0 (cntV (bT (tks n) (2 ^ n)) (t : Int) (bT (tks n) (2 ^ n)).length = cN (tks n) (2 ^ n) t) := ⟨by rw [bT_len]; exact cntV_bT (tks n) (2 ^ n) t _ (Nat.le_refl _)⟩
  have HLE : ∀ j, cntV (bT (tks n) (2 ^ n)) (t : Int) j ≤ j := by
    intro j
    induction j with
    | zero => exact Nat.le_refl _
    | succ j ih => rw [cntV]; split <;> omega
  have HLE' := Aside0.mk HLE
  clear hn hp hML HLE
  generalize bT (tks n) (2 ^ n) = out at *
  generalize cN (tks n) (2 ^ n) t = S at *
  go_enter Tryd.func31, Tryd.ntmps31
  go_wp2_with (first | (go_at_call 68; refine (HF.out _).mono ?_; rintro e w' ⟨rfl, ⟨nd, rfl⟩⟩) | (go_at_call 80; refine (HI.out _).mono ?_; rintro e w' ⟨rfl, ⟨nd2, rfl⟩⟩) | (go_at_call 75; refine (HC.out _ (by repeat (first | (with_reducible first | exact HB.out | apply below_alloc | apply pw_below_drewN | apply below_drew1) | exact HB.out))).mono ?_; rintro e w3 ⟨v, rfl, ho, hb⟩; obtain ⟨A, c, rfl, hlc, hC⟩ := Kd.R_reads ho; have HCC := Aside0.mk hC; have HBn := Aside0.mk (below_step (by repeat (first | (with_reducible first | exact HB.out | apply below_alloc | apply pw_below_drewN | apply below_drew1) | exact HB.out)) hb); clear ho hC hb HB; have HB := HBn; clear HBn))
  clear HF HC HI
  go_loopg [6, 20] out.length (fun kq v6 v20 w' => ∃ j : Nat, v6 = .int .i64 (cntV out (t : Int) j : Int) ∧ v20 = .int .i64 (j : Int) ∧ Aside0 (kq + j = out.length) ∧ Aside0 ((Kd.int .i64).C w' A out.length out) ∧ Aside0 (Below w.heap.size w w'))
  case atStart => exact ⟨0, rfl, rfl, ⟨rfl⟩, HCC, ⟨(by repeat (first | (with_reducible first | exact HB.out | apply below_alloc | apply pw_below_drewN | apply below_drew1) | exact HB.out))⟩⟩
  case round =>
    clear HCC HB
    obtain ⟨j, rfl, rfl, HK, HCC, HB⟩ := hrel
    have hle := HLE'.out j
    by_cases hj : j < out.length
    · obtain ⟨ad, e, hc⟩ := Kd.at_int HCC.out (j : Int) (by omega) (by omega)
      cases e
      replace hc : wr.cell? (ad.add j) = some (.int .i64 (rdI out j)) := hc
      have HSW : Aside0 (cntV out (t : Int) (j + 1) = cntV out (t : Int) j + if rdI out j = (t : Int) then 1 else 0) := ⟨rfl⟩
      generalize rdI out j = q at *
      generalize cntV out (t : Int) j = s at *
      by_cases hq : q = (t : Int)
      · have hqb : (q == (t : Int)) = true := beq_iff_eq.mpr hq
        have HSW2 : Aside0 (cntV out (t : Int) (j + 1) = s + 1) := ⟨by rw [HSW.out, if_pos hq]⟩
        clear hq
        go_wp2
        go_roundg (out.length - (j + 1))
        case measure => have := HK.out; omega
        case rel => exact ⟨j + 1, by rw [HSW2.out]; rfl, rfl, ⟨by have := HK.out; omega⟩, HCC, ⟨(by repeat (first | (with_reducible first | exact HB.out | apply below_alloc | apply pw_below_drewN | apply below_drew1) | exact HB.out))⟩⟩
      · have hqb : (q == (t : Int)) = false := beq_eq_false_iff_ne.mpr hq
        have HSW2 : Aside0 (cntV out (t : Int) (j + 1) = s) := ⟨by rw [HSW.out, if_neg hq]; rfl⟩
        clear hq
        go_wp2
        go_roundg (out.length - (j + 1))
        case measure => have := HK.out; omega
        case rel => exact ⟨j + 1, by rw [HSW2.out], rfl, ⟨by have := HK.out; omega⟩, HCC, ⟨(by repeat (first | (with_reducible first | exact HB.out | apply below_alloc | apply pw_below_drewN | apply below_drew1) | exact HB.out))⟩⟩
    · have hjj : j = out.length := by have := HK.out; omega
      have HS2 : Aside0 (cntV out (t : Int) j = S) := ⟨by rw [hjj]; exact HS.out⟩
      generalize cntV out (t : Int) j = s at *
      go_wp2
      go_ret2
      exact ⟨by rw [HS2.out]; rfl, (by repeat (first | (with_reducible first | exact HB.out | apply below_alloc | apply pw_below_drewN | apply below_drew1) | exact HB.out))⟩
end Go.Proofs.YtleacijhpkogpabDoor.RImpl
