/- The counts by ticks, as the reference makes them: the walk of spec.rwCounts. -/
import Derived.Test.YtleacijhpkogpaaDoorRRest
import Derived.Test.YtleacijhpkogpaaDoorPFnExactFirstLongestx5
namespace Go.Proofs.YtleacijhpkogpaaDoor.RSpec
open Go.RowKit Go.Proofs.YtleacijhpkogpaaDoorW.PrintWords Go.Proofs.YtleacijhpkogpaaDoorW.PrintLast Go.Proofs.YtleacijhpkogpaaDoorW.PrintMore Go.Proofs.YtleacijhpkogpaaDoor.PFnExactFirstLongest Go.Proofs.YtleacijhpkogpaaDoor.RPlain
set_option linter.unusedVariables false
set_option linter.unusedSimpArgs false

theorem make_loop : ∀ (n v : Nat) (acc : List Nat), n ≤ 60 → acc.length + n ≤ 1000000 → v ≤ 9223372036854775807 →
    Ev (fun k => spec_rwMake.l0 k (n : Int) (v : Int) (txt acc)) (txt (mk n v ++ acc)) := by
  intro n
  induction n with
  | zero =>
    intro v acc hn ha hv
    refine Ev.step (f := fun _ => some (txt acc)) (fun k => ?_) (Ev.now _)
    simp only [spec_rwMake.l0]
    rw [if_neg (by omega)]
  | succ n ih =>
    intro v acc hn ha hv
    have hr := ih (v / 2) (sgn v :: acc) (by omega) (by simp only [List.length_cons]; omega) (by omega)
    have e1 : wrap64 (((n + 1 : Nat) : Int) - 1) = (n : Int) := by unfold wrap64; omega
    have e2 : wrap64 (Int.tdiv (v : Int) 2) = ((v / 2 : Nat) : Int) := by
      rw [Int.tdiv_eq_ediv_of_nonneg (by omega)]; unfold wrap64; omega
    have e3 : Int.tmod (v : Int) 2 = ((v % 2 : Nat) : Int) := by
      rw [Int.tmod_eq_emod_of_nonneg (by omega)]; omega
    have hsz : 1 + (txt acc).size ≤ 9223372036854775807 := by rw [txt_size]; omega
    have e4 : mk (n + 1) v ++ acc = mk n (v / 2) ++ sgn v :: acc := by simp [mk]
    rw [e4]
    refine Ev.step (fun k => ?_) hr
    simp only [spec_rwMake.l0]
    rw [if_pos (by omega), e1, e2, e3, ← txt_cons]
    by_cases c : v % 2 = 1
    · rw [if_pos (by omega), if_pos hsz]
      unfold sgn
      rw [if_pos c]
      rfl
    · rw [if_neg (by omega), if_pos hsz]
      unfold sgn
      rw [if_neg c]
      rfl
theorem make_ev (n v : Nat) (hn : n ≤ 60) (hv : v ≤ 9223372036854775807) : Ev (fun k => spec_rwMake.f k (n : Int) (v : Int)) (txt (mk n v)) := by
  have := make_loop n v [] hn (by simp; omega) hv
  rw [List.append_nil] at this
  exact this
theorem make_calls (n v : Nat) (hn : n ≤ 60) (hv : v ≤ 9223372036854775807) (w : World) :
    Calls Tryd.prog 35 #[.int .i64 (n : Int), .int .i64 (v : Int)] w fun e w' => e = .returned (.string (bs (mkL n v))) ∧ Drawn0 w w' := by
  obtain ⟨k, hk⟩ := (make_ev n v hn hv).rounds
  exact spec_rwMake.calls k _ _ _ w hk
/-- What the inner loop makes of the counts. -/
def padC (out : List Int) (m : Nat) : List Int := out ++ List.replicate m 0
theorem padC_len (out : List Int) (m : Nat) : (padC out m).length = out.length + m := by simp [padC]
theorem padC_succ (out : List Int) (m : Nat) : padC out m ++ [0] = padC out (m + 1) := by
  unfold padC; rw [List.append_assoc, List.replicate_succ']
theorem padC_step (out : List Int) (t m : Nat) (h : m = t + 1 - out.length) : (padC out m).set t (rd (padC out m) (t : Int) + 1) = stepC out t := by
  subst h; rfl
set_option maxHeartbeats 4000000 in
set_option maxRecDepth 100000 in
theorem counts_calls (n : Nat) (hn : n ≤ 12) (w : World) :
    Calls Tryd.prog 29 #[.int .i64 (n : Int)] w fun e w' => ∃ v : Value, e = .returned v ∧ Kd.R (Kd.int .i64) 3 w' w.heap.size (fun _ => True) v (cntL (tks n) n (2 ^ n)) ∧ Below w.heap.size w w' := by
  have HB := Aside0.mk (Below.refl w.heap.size w)
  have HP := Aside0.mk (pow_12 n hn)
  have e1 : (((n : Int) + 1)).toNat = n + 1 := by omega
  go_enter Tryd.func29, Tryd.ntmps29
  go_wp2_with ((with_reducible refine gate_dst (N := 9) rfl ?_); refine Kd.R_make (Kd.int .i64) (w0 := w) w.heap.size 3 rfl (N := 9) rfl 39 _ _ rfl ((n : Int) + 1) rfl rfl Tryd.underlying39 (.int .i64 0) 8 info3 rfl (by decide) (by omega) 0 (ok := fun _ => True) (okp := fun _ => True) rfl (fun _ hk => hk) trivial (by omega) (by omega) (by repeat (first | (with_reducible first | exact HB.out | apply below_alloc | apply pw_below_drewN | apply below_drew1) | exact HB.out)) (below_size (by repeat (first | (with_reducible first | exact HB.out | apply below_alloc | apply pw_below_drewN | apply below_drew1) | exact HB.out))) ?_; intro v1 w5 ho hb hg hnew; rw [e1] at ho; have HO := Aside0.mk ho; have HBn := Aside0.mk hb; clear ho hb hg hnew HB; have HB := HBn; clear HBn)
  clear e1
  go_loopg [3, 4] (2 ^ n) (fun kq v3 v4 w' => ∃ j : Nat, v4 = .int .i64 (j : Int) ∧ Aside0 (kq + j = 2 ^ n) ∧ Aside0 (Kd.R (Kd.int .i64) 3 w' w.heap.size (fun _ => True) v3 (cntL (tks n) n j)) ∧ Aside0 (Below w.heap.size w w'))
  case atStart => exact ⟨0, rfl, ⟨rfl⟩, HO, ⟨(by repeat (first | (with_reducible first | exact HB.out | apply below_alloc | apply pw_below_drewN | apply below_drew1) | exact HB.out))⟩⟩
  case round =>
    clear HO HB
    obtain ⟨j, rfl, HK, HO, HB⟩ := hrel
    have hpw : wrap64 (2 ^ n) = ((2 ^ n : Nat) : Int) := by
      have := HP.out
      rw [show ((2 : Int) ^ n) = ((2 ^ n : Nat) : Int) by push_cast; rfl]
      generalize 2 ^ n = P at *
      unfold wrap64; omega
    have hP4 : 2 ^ n ≤ 4096 := HP.out
    have HM := Aside0.mk (fun W => make_calls n j (by omega) (by have := HK.out; omega) W)
    have HR := Aside0.mk (fun W => rest_calls (mkL n j) (by rw [mkL_len]; omega) W)
    have HT : Aside0 ((histL (mkL n j)).2.length = tks n j) := ⟨rfl⟩
    have hT := tks_le n j hn
    have HLn := Aside0.mk (fun (h : j < 2 ^ n) => cntL_len (tks n) n 145 (by omega) j (fun u hu => by have := tks_le n u hn; omega))
    have HCS : Aside0 (cntL (tks n) n (j + 1) = stepC (cntL (tks n) n j) (tks n j)) := ⟨rfl⟩
    have HRD : Aside0 (∀ m, 0 ≤ rd (padC (cntL (tks n) n j) m) ((tks n j : Nat) : Int) ∧ rd (padC (cntL (tks n) n j) m) ((tks n j : Nat) : Int) ≤ (j : Int)) := ⟨fun m => by
      have e : rd (padC (cntL (tks n) n j) m) ((tks n j : Nat) : Int) = (cN (tks n) j (tks n j) : Int) := (pad_get _ m (tks n j)).trans (cntL_get (tks n) n j (tks n j))
      have := cN_le (tks n) (tks n j) j
      rw [e]; omega⟩
    generalize hPe : 2 ^ n = P at *
    have HPe := Aside0.mk hPe
    clear hPe
    by_cases hj : j < P
    · have hln := HLn.out hj
      have hj4 : j ≤ 4096 := by omega
      rw [HT.out] at HR
      generalize tks n j = T at *
      generalize histL (mkL n j) = hh at *
      generalize bs (mkL n j) = b at *
      generalize hcn : cntL (tks n) n j = out at *
      clear hcn
      have HLn2 := Aside0.mk hln
      clear HLn hln
      go_wp2_with (first
        | (go_at_call 35; refine (HM.out _).mono ?_; rintro e w3 ⟨rfl, ⟨nd, rfl⟩⟩)
        | (go_at_call 34; refine (HR.out _).mono ?_; rintro e w4 ⟨rfl, hb⟩; have HOn := Aside0.mk (Kd.R_below (Kd.R_drewN HO.out _) hb); have HBn := Aside0.mk (below_step (by repeat (first | (with_reducible first | exact HB.out | apply below_alloc | apply pw_below_drewN | apply below_drew1) | exact HB.out)) hb); clear hb HB HO; have HB := HBn; have HO := HOn; clear HBn HOn))
      obtain ⟨wo, rfl⟩ : ∃ wo : World, wo = w4 := ⟨_, rfl⟩
      go_loopg [3] (T + 1 - out.length) (fun kq2 v3 w' => ∃ m : Nat, Aside0 (kq2 + m = T + 1 - out.length) ∧ Aside0 (Kd.R (Kd.int .i64) 3 w' w.heap.size (fun _ => True) v3 (padC out m)) ∧ Aside0 (Below w.heap.size w w'))
      case atStart => exact ⟨0, ⟨by omega⟩, ⟨by rw [show padC out 0 = out from List.append_nil _]; exact HO.out⟩, ⟨(by repeat (first | (with_reducible first | exact HB.out | apply below_alloc | apply pw_below_drewN | apply below_drew1) | exact HB.out))⟩⟩
      case round =>
        clear HO HB
        obtain ⟨m, HK2, HO, HB⟩ := hrel
        obtain ⟨A, c, rfl, hlc, hC⟩ := Kd.R_reads HO.out
        clear hC
        have HQ := Aside0.mk (padC_len out m)
        have hq := padC_len out m
        have hl2 := HLn2.out
        have hk2 := HK2.out
        have hqb : (padC out m).length ≤ 145 := by omega
        have HQ2 : Aside0 (¬ (padC out m).length ≤ T → m = T + 1 - out.length ∧ T < (padC out m).length) := ⟨fun h => by omega⟩
        have HSU := Aside0.mk (padC_succ out m)
        have HST := Aside0.mk (padC_step out T m)
        have hrd := HRD.out m
        clear hq hl2 hk2
        generalize padC out m = xs at *
        by_cases hqT : xs.length ≤ T
        · go_wp2_with ((with_reducible refine gate_builtin (b := .append) (xs := #[.tmp 27, .tmp 28]) rfl ?_); at_builtin; refine Kd.R_append (Kd.int .i64) (w0 := w) w.heap.size rfl (.tmp 27) (.tmp 28) 39 3 (.int .i64 0) 8 rfl Tryd.underlying39 info3 rfl (by decide) (by omega) (.slice A xs.length c) xs 0 [.int .i64 0] (fun _ => True) (fun _ => False) rfl rfl ?aP (fun _ hk => hk.elim) ?aF ?aO ?aB ?aS ?aL ?_; (case aP => exact rfl); (case aB => exact (by repeat (first | (with_reducible first | exact HB.out | apply below_alloc | apply pw_below_drewN | apply below_drew1) | exact HB.out))); (case aF => exact (fun _ _ => trivial)); (case aO => exact HO.out); (case aS => exact (below_size (by repeat (first | (with_reducible first | exact HB.out | apply below_alloc | apply pw_below_drewN | apply below_drew1) | exact HB.out)))); (case aL => omega); intro v7 w7 ho hb hg hat; rw [HSU.out] at ho; have HOn := Aside0.mk ho; have HBn := Aside0.mk hb; clear ho hb hg hat HO HB; have HO := HOn; have HB := HBn; clear HOn HBn)
          go_roundg (T + 1 - out.length - (m + 1))
          case measure => have := HK2.out; have := HQ.out; omega
          case rel => exact ⟨m + 1, ⟨by have := HK2.out; have := HQ.out; omega⟩, HO, ⟨(by repeat (first | (with_reducible first | exact HB.out | apply below_alloc | apply pw_below_drewN | apply below_drew1) | exact HB.out))⟩⟩
        · obtain ⟨hm, hTx⟩ := HQ2.out hqT
          obtain ⟨g, c2, e, gb, gl, HG⟩ := Kd.R_form HO.out (by omega)
          cases e
          have GB := Aside0.mk gb
          clear gb gl HG
          obtain ⟨hx, hf⟩ := Kd.R_celln 0 HO.out (T : Int) (by omega) (by omega)
          have HP1 := Aside0.mk (Kd.R_putg HO.out (T : Int) (rd xs (T : Int) + 1))
          replace hx : wr.cell? ⟨g, T, none⟩ = some (.int .i64 (rd xs (T : Int))) := hx
          replace hf : wr.frozen? ⟨g, T, none⟩ = false := hf
          have HV := Aside0.mk (HST.out hm)
          clear hm
          generalize rd xs (T : Int) = q at *
          go_wp2
          go_roundg (P - (j + 1))
          case measure => have := HK.out; omega
          case rel => exact ⟨j + 1, by first | rfl | go_num, ⟨by have := HK.out; omega⟩, ⟨by have h1 := HP1.out.1; rw [show (xs.set ((T : Nat) : Int).toNat (q + 1)) = cntL (tks n) n (j + 1) from HV.out.trans HCS.out.symm] at h1; exact h1⟩, ⟨below_set HB.out GB.out⟩⟩
    · have hjP : j = P := by have := HK.out; omega
      clear HM HR HT hT HLn HCS HRD
      go_wp2
      go_ret
      exact ⟨_, rfl, by rw [HPe.out, ← hjP]; exact HO.out, (by repeat (first | (with_reducible first | exact HB.out | apply below_alloc | apply pw_below_drewN | apply below_drew1) | exact HB.out))⟩
end Go.Proofs.YtleacijhpkogpaaDoor.RSpec
