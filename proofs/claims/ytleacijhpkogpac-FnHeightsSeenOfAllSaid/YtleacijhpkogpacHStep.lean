/- One soldier taller: the walk of impl.StepUp and of the law; the reference over its printed walk. -/
import Derived.Test.YtleacijhpkogpacPFnHeightsSeenOfAllx28
import Derived.Test.YtleacijhpkogpacHGoodU
import Derived.Test.YtleacijhpkogpacHGood
import Derived.Test.YtleacijhpkogpacHClone
import Derived.Deep.QuietTactic
import Derived.BigQuiet
namespace Go.Proofs.Ytleacijhpkogpac.HStep
open Go.RowKit Go.Proofs.YtleacijhpkogpacW.PrintWords Go.Proofs.YtleacijhpkogpacW.PrintLast Go.Proofs.YtleacijhpkogpacW.PrintMore Go.Proofs.Ytleacijhpkogpac.PFnHeightsSeenOfAll Go.Proofs.Ytleacijhpkogpac.HImpl
set_option linter.unusedVariables false
set_option linter.unusedSimpArgs false

def stepOk (l : List Int) (a1 a2 : Int) : Prop := good l = true ∧ (0 ≤ a1 ∧ a1 < (l.length : Int)) ∧ 1 - rd l a1 ≤ a2 ∧ a2 ≤ 100 - rd l a1
instance (l : List Int) (a1 a2 : Int) : Decidable (stepOk l a1 a2) := by unfold stepOk; infer_instance
def stepT (l : List Int) (a1 a2 : Int) : Option (List Int) := if stepOk l a1 a2 then some (l.set a1.toNat (rd l a1 + a2)) else none
theorem good_rd {l : List Int} (h : good l = true) (i : Nat) (hi : i < l.length) : 1 ≤ rd l (i : Int) ∧ rd l (i : Int) ≤ 100 := by
  rw [HSpecG.rd_nat l i hi]
  exact good_mem h _ (List.getElem_mem hi)
theorem own_ev (l : List Int) (hl : l.length ≤ 1048576) : spec_l1Own.f l = some l := by
  unfold spec_l1Own.f
  simp only [Option.bind_some, List.length_nil, List.nil_append]
  rw [if_pos (by omega)]
theorem spec_ev (l : List Int) (hl : l.length ≤ 1048576) (a1 a2 : Int) : Ev (fun k => spec_StepUp.f k l a1 a2) ((stepT l a1 a2).getD [], (stepT l a1 a2).isSome) := by
  unfold stepT
  by_cases h : good l = true
  · have hlen := good_len h
    have hw : wrap64 ((l.length : Int) - 1) = (l.length : Int) - 1 := by unfold wrap64; omega
    have hown := own_ev l hl
    by_cases h1 : 0 ≤ a1
    · by_cases h2 : a1 ≤ (l.length : Int) - 1
      · have h2' : a1 < (l.length : Int) := by omega
        have hb : 1 ≤ rd l a1 ∧ rd l a1 ≤ 100 := by
          obtain ⟨i, rfl⟩ := Int.eq_ofNat_of_zero_le h1
          exact good_rd h i (by omega)
        by_cases hc : 1 - rd l a1 ≤ a2 ∧ a2 ≤ 100 - rd l a1
        · have e3 : wrap64 (rd l a1 + a2) = rd l a1 + a2 := by unfold wrap64; omega
          rw [if_pos (show stepOk l a1 a2 from ⟨h, ⟨h1, h2'⟩, hc⟩)]
          refine Ev.bind (HSpecGU.good_ev l hl) ?_
          simp only [h, if_true, spec_l1In.f, ge_iff_le, h1, hw, h2, h2', decide_true, Option.bind_some, e3, hown,
            show (-100 : Int) ≤ a2 by omega, show a2 ≤ 100 by omega, show 1 ≤ rd l a1 + a2 by omega, show rd l a1 + a2 ≤ 100 by omega]
          exact Ev.now _
        · rw [if_neg (fun z => hc z.2.2)]
          refine Ev.bind (HSpecGU.good_ev l hl) ?_
          by_cases c1 : (-100 : Int) ≤ a2
          · by_cases c2 : a2 ≤ 100
            · have e3 : wrap64 (rd l a1 + a2) = rd l a1 + a2 := by unfold wrap64; omega
              by_cases c3 : 1 ≤ rd l a1 + a2
              · have c4 : ¬ rd l a1 + a2 ≤ 100 := by omega
                simp only [h, if_true, spec_l1In.f, ge_iff_le, h1, hw, h2, h2', decide_true, Option.bind_some, e3, c1, c2, c3, c4, decide_false, Bool.false_eq_true, if_false]
                exact Ev.now _
              · simp only [h, if_true, spec_l1In.f, ge_iff_le, h1, hw, h2, h2', decide_true, Option.bind_some, e3, c1, c2, c3, Bool.false_eq_true, if_false]
                exact Ev.now _
            · simp only [h, if_true, spec_l1In.f, ge_iff_le, h1, hw, h2, decide_true, Option.bind_some, c1, c2, decide_false, Bool.false_eq_true, if_false]
              exact Ev.now _
          · simp only [h, if_true, spec_l1In.f, ge_iff_le, h1, hw, h2, decide_true, Option.bind_some, c1, Bool.false_eq_true, if_false]
            exact Ev.now _
      · rw [if_neg (fun z => h2 (by have := z.2.1.2; omega))]
        refine Ev.bind (HSpecGU.good_ev l hl) ?_
        simp only [h, if_true, spec_l1In.f, ge_iff_le, h1, hw, h2, Option.bind_some, decide_false, Bool.false_eq_true, if_false]
        exact Ev.now _
    · rw [if_neg (fun z => h1 z.2.1.1)]
      refine Ev.bind (HSpecGU.good_ev l hl) ?_
      simp only [h, if_true, spec_l1In.f, ge_iff_le, h1, Option.bind_some, Bool.false_eq_true, if_false]
      exact Ev.now _
  · rw [if_neg (fun z => h z.1)]
    refine Ev.bind (HSpecGU.good_ev l hl) ?_
    simp only [h, if_false]
    exact Ev.now _
theorem spec_calls (A0 : Option Addr) (c0 : Nat) (l : List Int) (e0 e1 : Int) (hl : l.length ≤ 1048576) (w : World) (h0 : Kd.C (Kd.int .i64) w A0 l.length l) (hc0 : l.length ≤ c0) :
    Calls Try.prog 38 #[.slice A0 l.length c0, .int .i64 e0, .int .i64 e1] w fun e w' => ∃ v : Value, e = .returned (.tuple #[v, .bool (stepT l e0 e1).isSome]) ∧ Kd.R (Kd.int .i64) 3 w' w.heap.size (fun _ => True) v ((stepT l e0 e1).getD []) ∧ Below w.heap.size w w' := by
  obtain ⟨k, hk⟩ := (spec_ev l hl e0 e1).rounds
  exact spec_StepUp.calls k A0 c0 l e0 e1 _ _ w h0 hc0 hk
theorem in_is (a lo hi : Int) (b : Bool) (hb : decide (lo ≤ a ∧ a ≤ hi) = b) (W : World) : Calls Try.prog 56 #[.int .i64 a, .int .i64 lo, .int .i64 hi] W fun e w' => e = .returned (.bool b) ∧ ∃ m, w' = W.drewN m := by
  refine (PFnHeightsSeenOfAll.impl_in.calls a lo hi b W ?_).mono (fun e w' h => ⟨h.1, by obtain ⟨m, hm⟩ := h.2; exact ⟨m, hm⟩⟩)
  subst hb
  unfold PFnHeightsSeenOfAll.impl_in.f
  by_cases h : lo ≤ a
  · rw [if_pos h]; simp [h]
  · rw [if_neg h]; simp [h]
set_option maxHeartbeats 8000000 in
set_option maxRecDepth 100000 in
theorem impl_calls (A0 : Option Addr) (c0 : Nat) (l : List Int) (e0 e1 : Int) (hl : l.length ≤ 1048576) (w : World) (h0 : Kd.C (Kd.int .i64) w A0 l.length l) (hc0 : l.length ≤ c0) :
    Calls Try.prog 37 #[.slice A0 l.length c0, .int .i64 e0, .int .i64 e1] w fun e w' => ∃ v : Value, e = .returned (.tuple #[v, .bool (stepT l e0 e1).isSome]) ∧ Kd.R (Kd.int .i64) 3 w' w.heap.size (fun _ => True) v ((stepT l e0 e1).getD []) ∧ Below w.heap.size w w' := by
  have HB := Aside0.mk (Below.refl w.heap.size w)
  have HC := Aside0.mk h0
  unfold stepT
  cases hg : good l with
  | false =>
    rw [if_neg (fun z => by have z1 := z.1; rw [hg] at z1; exact absurd z1 (by decide))]
    have HG := Aside0.mk (fun n => show Calls Try.prog 61 #[.slice A0 l.length c0] (w.drewN n) (fun e w' => e = .returned (.bool false) ∧ ∃ m, w' = (w.drewN n).drewN m) from (are_is A0 c0 l false hg _ (Kd.C_drewN h0 n) hc0).mono (fun e w' h => ⟨h.1, by obtain ⟨m, hm⟩ := h.2; exact ⟨m, hm⟩⟩))
    clear h0 hg
    go_enter Try.func37, Try.ntmps37
    go_wp2
    go_quiet ((go_at_call 61; with_reducible exact Calls.quiet_of (HG.out _)))
    go_wp2
    go_ret2
    exact ⟨_, rfl, Kd.R_nil _ _ _ _ _, (by repeat (first | (with_reducible first | exact HB.out | apply below_alloc | apply pw_below_drewN | apply below_drew1) | exact HB.out))⟩
  | true =>
    have HG := Aside0.mk (fun n => show Calls Try.prog 61 #[.slice A0 l.length c0] (w.drewN n) (fun e w' => e = .returned (.bool true) ∧ ∃ m, w' = (w.drewN n).drewN m) from (are_is A0 c0 l true hg _ (Kd.C_drewN h0 n) hc0).mono (fun e w' h => ⟨h.1, by obtain ⟨m, hm⟩ := h.2; exact ⟨m, hm⟩⟩))
    have hlen := good_len hg
    have hw : IntKind.i64.wrap ((l.length : Int) - 1) = (l.length : Int) - 1 := IntWalk.i64_in _ (by omega)
    by_cases h1 : 0 ≤ e0 ∧ e0 ≤ (l.length : Int) - 1
    · have hb : 1 ≤ rd l e0 ∧ rd l e0 ≤ 100 := by
        obtain ⟨i, rfl⟩ := Int.eq_ofNat_of_zero_le h1.1
        exact good_rd hg i (by omega)
      have H1 := Aside0.mk (fun n => in_is e0 0 ((l.length : Int) - 1) true (decide_eq_true h1) (w.drewN n))
      obtain ⟨ad, ead, hx⟩ := Kd.at_int h0 e0 h1.1 (by omega)
      cases ead
      have HCL := Aside0.mk (fun W hC => HClone.clone_calls (some ad) c0 l hl W hC)
      have HL := Aside0.mk hl
      have HLEN := Aside0.mk hlen
      by_cases h2 : 1 - rd l e0 ≤ e1 ∧ e1 ≤ 100 - rd l e0
      · rw [if_pos (show stepOk l e0 e1 from ⟨hg, ⟨h1.1, by omega⟩, h2⟩)]
        have H2 := Aside0.mk (fun n => in_is e1 (1 - rd l e0) (100 - rd l e0) true (decide_eq_true h2) (w.drewN n))
        have HH2 := Aside0.mk h2
        have hrd : (rd l e0) = rd l e0 := rfl
        generalize hy : rd l e0 = y at hx hb H2 HH2 ⊢
        have HY := Aside0.mk hy
        have hw1 : IntKind.i64.wrap (1 - y) = 1 - y := IntWalk.i64_in _ (by omega)
        have hw2 : IntKind.i64.wrap (100 - y) = 100 - y := IntWalk.i64_in _ (by omega)
        have k1 : (0 : Int) ≤ e0 := h1.1
        have k2 : e0 < (l.length : Int) := by omega
        have HBB := Aside0.mk hb
        clear h0 hg h1 h2 hl hlen hy hrd hb
        go_enter Try.func37, Try.ntmps37
        go_wp2
        go_quiet (first | (go_at_call 61; with_reducible exact Calls.quiet_of (HG.out _)) | (go_at_call 56; with_reducible exact Calls.quiet_of (H1.out _)) | (go_at_call 56; with_reducible exact Calls.quiet_of (H2.out _)))
        go_wp2_with fail
        refine (HCL.out _ (Kd.C_below HC.out (by repeat (first | (with_reducible first | exact HB.out | apply below_alloc | apply pw_below_drewN | apply below_drew1) | exact HB.out)))).mono ?_
        rintro e w2 ⟨v2, rfl, ho, hb⟩
        have HO := Aside0.mk (Kd.R_lower ho (below_size (by repeat (first | (with_reducible first | exact HB.out | apply below_alloc | apply pw_below_drewN | apply below_drew1) | exact HB.out))))
        have HBn := Aside0.mk (below_step (by repeat (first | (with_reducible first | exact HB.out | apply below_alloc | apply pw_below_drewN | apply below_drew1) | exact HB.out)) hb)
        clear ho hb HB
        have HB := HBn
        clear HBn
        obtain ⟨g, cap, e, hgb, _, _⟩ := Kd.R_form HO.out (by omega)
        subst e
        obtain ⟨hx2, hf2⟩ := Kd.R_celln 0 HO.out e0 k1 (by omega)
        have hx3 : w2.cell? ⟨g, e0.toNat, none⟩ = some (.int .i64 y) := by rw [← HY.out]; exact hx2
        replace hf2 : w2.frozen? ⟨g, e0.toNat, none⟩ = false := hf2
        clear hx2
        have HP := Aside0.mk (Kd.R_putg HO.out e0 (y + e1))
        have hw3 : IntKind.i64.wrap (y + e1) = y + e1 := IntWalk.i64_in _ (by have := HH2.out; have := HBB.out; omega)
        go_wp2_with fail
        go_ret2
        exact ⟨_, rfl, HP.out.1, below_set HB.out hgb⟩
      · rw [if_neg (fun z => h2 z.2.2)]
        have H2 := Aside0.mk (fun n => in_is e1 (1 - rd l e0) (100 - rd l e0) false (decide_eq_false h2) (w.drewN n))
        generalize hy : rd l e0 = y at hx hb H2
        have hw1 : IntKind.i64.wrap (1 - y) = 1 - y := IntWalk.i64_in _ (by omega)
        have hw2 : IntKind.i64.wrap (100 - y) = 100 - y := IntWalk.i64_in _ (by omega)
        have k1 : (0 : Int) ≤ e0 := h1.1
        have k2 : e0 < (l.length : Int) := by omega
        clear h0 hg h1 h2 hl hlen hy hb
        go_enter Try.func37, Try.ntmps37
        go_wp2
        go_quiet (first | (go_at_call 61; with_reducible exact Calls.quiet_of (HG.out _)) | (go_at_call 56; with_reducible exact Calls.quiet_of (H1.out _)) | (go_at_call 56; with_reducible exact Calls.quiet_of (H2.out _)))
        go_wp2
        go_ret2
        exact ⟨_, rfl, Kd.R_nil _ _ _ _ _, (by repeat (first | (with_reducible first | exact HB.out | apply below_alloc | apply pw_below_drewN | apply below_drew1) | exact HB.out))⟩
    · rw [if_neg (fun z => h1 ⟨z.2.1.1, by have := z.2.1.2; omega⟩)]
      have H1 := Aside0.mk (fun n => in_is e0 0 ((l.length : Int) - 1) false (decide_eq_false h1) (w.drewN n))
      clear h0 hg h1
      go_enter Try.func37, Try.ntmps37
      go_wp2
      go_quiet (first | (go_at_call 61; with_reducible exact Calls.quiet_of (HG.out _)) | (go_at_call 56; with_reducible exact Calls.quiet_of (H1.out _)))
      go_wp2
      go_ret2
      exact ⟨_, rfl, Kd.R_nil _ _ _ _ _, (by repeat (first | (with_reducible first | exact HB.out | apply below_alloc | apply pw_below_drewN | apply below_drew1) | exact HB.out))⟩
end Go.Proofs.Ytleacijhpkogpac.HStep
