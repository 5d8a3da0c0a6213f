/- The list of ticks by number, its greatest number and its first place, as the program makes them: the walks of impl.byTicks, slices.Max, slices.Index. -/
import Derived.Test.YtleacijhpkogpaaDoorRTicks
import Derived.Test.YtleacijhpkogpaaDoorRRowOf
import Derived.Test.YtleacijhpkogpaaDoorPFnExactFirstLongestx15
namespace Go.Proofs.YtleacijhpkogpaaDoor.RImpl
open Go.RowKit Go.Proofs.YtleacijhpkogpaaDoorW.PrintWords Go.Proofs.YtleacijhpkogpaaDoorW.PrintLast Go.Proofs.YtleacijhpkogpaaDoorW.PrintMore Go.Proofs.YtleacijhpkogpaaDoor.PFnExactFirstLongest Go.Shelf Go.Proofs.YtleacijhpkogpaaDoor.RPlain
set_option linter.unusedVariables false
set_option linter.unusedSimpArgs false
attribute [local go_sem] max2_int max_two

set_option maxHeartbeats 4000000 in
set_option maxRecDepth 100000 in
theorem by_calls (n : Nat) (hn : 1 ≤ n ∧ n ≤ 12) (w : World) (hML : ML w) :
    Calls Tryd.prog 30 #[.int .i64 (n : Int)] w fun e w' => ∃ v : Value, e = .returned v ∧ Kd.R (Kd.int .i64) 3 w' w.heap.size (fun _ => True) v (bT (tks n) (2 ^ n)) ∧ Below w.heap.size w w' := by
  have HB := Aside0.mk (Below.refl w.heap.size w)
  have HML := Aside0.mk (fun W (h : Below w.heap.size w W) => hML.of_below h)
  have HP := Aside0.mk (pow_12 n hn.2)
  clear hML
  obtain ⟨hn1, hn⟩ := hn
  have hpw : wrap64 (2 ^ n) = ((2 ^ n : Nat) : Int) := by
    have := HP.out
    rw [show ((2 : Int) ^ n) = ((2 ^ n : Nat) : Int) by push_cast; rfl]
    generalize 2 ^ n = P at *
    unfold wrap64; omega
  have hP4 : 2 ^ n ≤ 4096 := HP.out
  generalize 2 ^ n = P at *
  have HPW := Aside0.mk hpw
  clear hpw
  go_enter Tryd.func30, Tryd.ntmps30
  go_wp2_with ((with_reducible refine gate_dst (N := 5) rfl ?_); refine Kd.R_lit (Kd.int .i64) (w0 := w) w.heap.size 3 ?hg (N := 5) ?hd (xs := ([] : List Int)) (inner := []) (ok := fun _ => True) (okp := fun _ => True) ?hr ?hp (fun _ hk => hk) trivial (by repeat (first | (with_reducible first | exact HB.out | apply below_alloc | apply pw_below_drewN | apply below_drew1) | exact HB.out)) (below_size (by repeat (first | (with_reducible first | exact HB.out | apply below_alloc | apply pw_below_drewN | apply below_drew1) | exact HB.out))) (by simp) ?_; (case hd => rfl); (case hg => rfl); (case hr => first | (go_simp; done) | (go_simp; rfl)); (case hp => exact (Reps.none _ _)); intro v1 w2 ho hb hg hnew; have HO := Aside0.mk ho; have HBn := Aside0.mk hb; clear ho hb hg hnew HB; have HB := HBn; clear HBn)
  rw [HPW.out]
  clear HPW
  go_loopg [3, 8] P (fun kq v3 v8 w' => ∃ j : Nat, v8 = .int .i64 (j : Int) ∧ Aside0 (kq + j = P) ∧ Aside0 (Kd.R (Kd.int .i64) 3 w' w.heap.size (fun _ => True) v3 (bT (tks n) j)) ∧ Aside0 (Below w.heap.size w w'))
  case atStart => exact ⟨0, rfl, ⟨rfl⟩, HO, ⟨(by repeat (first | (with_reducible first | exact HB.out | apply below_alloc | apply pw_below_drewN | apply below_drew1) | exact HB.out))⟩⟩
  case round =>
    clear HO HB
    obtain ⟨j, rfl, HK, HO, HB⟩ := hrel
    have HM := Aside0.mk (fun W => rowOf_calls n j (by omega) (by have := HK.out; omega) W)
    have HT := Aside0.mk (fun W (h : Below w.heap.size w W) => ticks_calls (mkL n j) (by rw [mkL_len]; omega) W (HML.out W h))
    have HTE : Aside0 ((histL (mkL n j)).2.length = tks n j) := ⟨rfl⟩
    rw [HTE.out] at HT
    clear HTE
    have HS := Aside0.mk (bT_succ (tks n) j)
    have hlen := bT_len (tks n) j
    by_cases hj : j < P
    · generalize bs (mkL n j) = b at *
      generalize hT : tks n j = T at *
      clear hT
      generalize bT (tks n) j = xs at *
      generalize hys : bT (tks n) (j + 1) = ys at *
      have HYS := Aside0.mk hys
      clear hys
      go_wp2_with (first
        | (go_at_call 26; refine (HM.out _).mono ?_; rintro e w4 ⟨rfl, hb⟩; have HOn := Aside0.mk (Kd.R_below HO.out hb); have HBn := Aside0.mk (below_step (by repeat (first | (with_reducible first | exact HB.out | apply below_alloc | apply pw_below_drewN | apply below_drew1) | exact HB.out)) hb); clear hb HB HO; have HB := HBn; have HO := HOn; clear HBn HOn)
        | (go_at_call 40; refine (HT.out _ (by repeat (first | (with_reducible first | exact HB.out | apply below_alloc | apply pw_below_drewN | apply below_drew1) | exact HB.out))).mono ?_; rintro e w5 ⟨rfl, hb⟩; have HOn := Aside0.mk (Kd.R_below HO.out hb); have HBn := Aside0.mk (below_step (by repeat (first | (with_reducible first | exact HB.out | apply below_alloc | apply pw_below_drewN | apply below_drew1) | exact HB.out)) hb); clear hb HB HO; have HB := HBn; have HO := HOn; clear HBn HOn)
        | ((with_reducible refine gate_builtin (b := .append) (xs := #[.tmp 11, .tmp 16]) rfl ?_); at_builtin; refine Kd.R_append (Kd.int .i64) (w0 := w) w.heap.size rfl (.tmp 11) (.tmp 16) 39 3 (.int .i64 0) 8 rfl Tryd.underlying39 info3 rfl (by decide) (by omega) u3 xs (T : Int) [.int .i64 (T : Int)] (fun _ => True) (fun _ => False) rfl rfl ?aP (fun _ hk => hk.elim) ?aF ?aO ?aB ?aS ?aL ?_; (case aP => exact rfl); (case aB => exact (by repeat (first | (with_reducible first | exact HB.out | apply below_alloc | apply pw_below_drewN | apply below_drew1) | exact HB.out))); (case aF => exact (fun _ _ => trivial)); (case aO => exact HO.out); (case aS => exact (below_size (by repeat (first | (with_reducible first | exact HB.out | apply below_alloc | apply pw_below_drewN | apply below_drew1) | exact HB.out)))); (case aL => omega); intro v7 w7 ho hb hg hat; rw [HS.out] at ho; have HOn := Aside0.mk ho; have HBn := Aside0.mk hb; clear ho hb hg hat HO HB; have HO := HOn; have HB := HBn; clear HOn HBn))
      go_roundg (P - (j + 1))
      case measure => have := HK.out; omega
      case rel => exact ⟨j + 1, rfl, ⟨by have := HK.out; omega⟩, ⟨by rw [HYS.out]; exact HO.out⟩, ⟨(by repeat (first | (with_reducible first | exact HB.out | apply below_alloc | apply pw_below_drewN | apply below_drew1) | exact HB.out))⟩⟩
    · have hjP : j = P := by have := HK.out; omega
      clear HM HT HS
      go_wp2
      go_ret
      exact ⟨_, rfl, by rw [← hjP]; exact HO.out, (by repeat (first | (with_reducible first | exact HB.out | apply below_alloc | apply pw_below_drewN | apply below_drew1) | exact HB.out))⟩
set_option maxHeartbeats 4000000 in
set_option maxRecDepth 100000 in
theorem max_calls (A : Option Addr) (c : Nat) (l : List Int) (hl : 0 < l.length ∧ l.length ≤ 1000000) (hlc : l.length ≤ c) (w : World) (hC : Kd.C (Kd.int .i64) w A l.length l) :
    Calls Tryd.prog 33 #[.slice A l.length c] w fun e w' => e = .returned (.int .i64 (mxU l (l.length - 1))) ∧ Below w.heap.size w w' := by
  have HB := Aside0.mk (Below.refl w.heap.size w)
  obtain ⟨hl0, hl1⟩ := hl
  have HC := Aside0.mk hC
  obtain ⟨ad, e, hc⟩ := Kd.at_int hC 0 (by omega) (by omega)
  cases e
  replace hc : w.cell? (ad.add 0) = some (.int .i64 (rdI l 0)) := hc
  rw [show ad.add 0 = ad by simp [Addr.add]] at hc
  clear hC
  have HS0 : Aside0 (mxU l 0 = rdI l 0) := ⟨rfl⟩
  generalize rdI l 0 = q at *
  go_enter Tryd.func33, Tryd.ntmps33
  go_wp2
  go_loopg [3, 4] (l.length - 1) (fun kq v3 v4 w' => ∃ i : Nat, v3 = .int .i64 (mxU l (i - 1)) ∧ v4 = .int .i64 (i : Int) ∧ Aside0 (kq + i = l.length ∧ 1 ≤ i) ∧ Aside0 ((Kd.int .i64).C w' (some ad) l.length l) ∧ Aside0 (Below w.heap.size w w'))
  case atStart => exact ⟨1, by rw [show mxU l (1 - 1) = q from HS0.out], rfl, ⟨by omega⟩, HC, ⟨(by repeat (first | (with_reducible first | exact HB.out | apply below_alloc | apply pw_below_drewN | apply below_drew1) | exact HB.out))⟩⟩
  case round =>
    clear HC HB
    obtain ⟨i, rfl, rfl, HK, HC, HB⟩ := hrel
    have hk := HK.out
    by_cases hj : i < l.length
    · obtain ⟨ad2, e, hc⟩ := Kd.at_int HC.out (i : Int) (by omega) (by omega)
      cases e
      replace hc : wr.cell? (ad.add i) = some (.int .i64 (rdI l i)) := hc
      have HSW : Aside0 (mxU l (i + 1 - 1) = if mxU l (i - 1) < rdI l i then rdI l i else mxU l (i - 1)) := ⟨by
        obtain ⟨m, rfl⟩ : ∃ m, i = m + 1 := ⟨i - 1, by omega⟩
        rfl⟩
      clear hk
      generalize rdI l i = q2 at *
      generalize mxU l (i - 1) = s at *
      by_cases hq : s < q2
      · go_wp2
        go_roundg (l.length - (i + 1))
        case measure => have := HK.out; omega
        case rel => exact ⟨i + 1, by rw [HSW.out, if_pos hq], rfl, ⟨by have := HK.out; omega⟩, HC, ⟨(by repeat (first | (with_reducible first | exact HB.out | apply below_alloc | apply pw_below_drewN | apply below_drew1) | exact HB.out))⟩⟩
      · go_wp2
        go_roundg (l.length - (i + 1))
        case measure => have := HK.out; omega
        case rel => exact ⟨i + 1, by rw [HSW.out, if_neg (show ¬ s < q2 by omega)], rfl, ⟨by have := HK.out; omega⟩, HC, ⟨(by repeat (first | (with_reducible first | exact HB.out | apply below_alloc | apply pw_below_drewN | apply below_drew1) | exact HB.out))⟩⟩
    · have HJ : Aside0 (mxU l (i - 1) = mxU l (l.length - 1)) := ⟨by rw [show i = l.length by omega]⟩
      clear hk
      generalize mxU l (i - 1) = s at *
      go_wp2
      go_ret
      exact ⟨by rw [HJ.out]; rfl, (by repeat (first | (with_reducible first | exact HB.out | apply below_alloc | apply pw_below_drewN | apply below_drew1) | exact HB.out))⟩
/-- The first place of a number. -/
theorem index_loop (l : List Int) (x : Int) (f : Nat) (hf : f < l.length) (hl : l.length ≤ 1000000) (hx : rdI l f = x) (hn : ∀ i, i < f → rdI l i ≠ x) : ∀ (d j : Nat), j + d = f →
    Ev (fun k => slices_Index_int_int.l0 k l x (l.length : Int) (j : Int)) (f : Int) := by
  intro d
  induction d with
  | zero =>
    intro j hj
    obtain rfl : j = f := by omega
    refine Ev.step (f := fun _ => some (j : Int)) (fun k => ?_) (Ev.now _)
    simp only [slices_Index_int_int.l0]
    rw [if_pos (by omega), if_pos (by omega), if_pos (by omega), if_pos (show x = rd l (j : Int) from hx.symm)]
  | succ d ih =>
    intro j hj
    refine Ev.step (f := fun k => slices_Index_int_int.l0 k l x (l.length : Int) ((j + 1 : Nat) : Int)) (fun k => ?_) (ih (j + 1) (by omega))
    have e1 : wrap64 ((j : Int) + 1) = ((j + 1 : Nat) : Int) := by unfold wrap64; omega
    simp only [slices_Index_int_int.l0]
    rw [if_pos (by omega), if_pos (by omega), if_pos (by omega), if_neg (show ¬ x = rd l (j : Int) from fun e => hn j (by omega) e.symm), e1]
theorem index_calls (A : Option Addr) (c : Nat) (l : List Int) (x : Int) (f : Nat) (hf : f < l.length) (hl : l.length ≤ 1000000) (hx : rdI l f = x) (hn : ∀ i, i < f → rdI l i ≠ x) (hlc : l.length ≤ c) (w : World) (hC : Kd.C (Kd.int .i64) w A l.length l) :
    Calls Tryd.prog 36 #[.slice A l.length c, .int .i64 x] w fun e w' => e = .returned (.int .i64 (f : Int)) ∧ Drawn0 w w' := by
  obtain ⟨k, hk⟩ := (index_loop l x f hf hl hx hn f 0 (by omega)).rounds
  exact slices_Index_int_int.calls k A c l x _ w hC hlc hk
end Go.Proofs.YtleacijhpkogpaaDoor.RImpl
