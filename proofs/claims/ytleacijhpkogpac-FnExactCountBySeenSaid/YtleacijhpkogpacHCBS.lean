/- In how many orders so many are seen: the walks of spec.CountBySeen and of the law; the program by its printed walk and a plain law. -/
import Derived.Test.YtleacijhpkogpacHCounts
import Derived.Test.YtleacijhpkogpacPFnExactCountBySeenx2
import Derived.Test.YtleacijhpkogpacPFnExactCountBySeenx6
namespace Go.Proofs.Ytleacijhpkogpac.HCBS
open Go.RowKit Go.Proofs.YtleacijhpkogpacW.PrintWords Go.Proofs.YtleacijhpkogpacW.PrintLast Go.Proofs.YtleacijhpkogpacW.PrintMore Go.Proofs.Ytleacijhpkogpac.PFnExactCountBySeen Go.Proofs.Ytleacijhpkogpac.HPlain Go.Proofs.Ytleacijhpkogpac.HSpec
set_option linter.unusedVariables false
set_option linter.unusedSimpArgs false

def askB (a b c : Int) : Bool := decide ((1 ≤ a ∧ a ≤ 15) ∧ (0 ≤ b ∧ b ≤ 15) ∧ (0 ≤ c ∧ c ≤ 15))
theorem asked_calls (a b c : Int) (w : World) : Calls Try.prog 54 #[.int .i64 a, .int .i64 b, .int .i64 c] w fun e w' => e = .returned (.bool (askB a b c)) ∧ Drawn0 w w' :=
  spec_heAsked.calls a b c _ w (by
    unfold spec_heAsked.f spec_l1In.f askB
    by_cases h1 : a ≥ 1 <;> by_cases h2 : a ≤ 15 <;> by_cases h3 : b ≥ 0 <;> by_cases h4 : b ≤ 15 <;> by_cases h5 : c ≥ 0 <;> by_cases h6 : c ≤ 15 <;> simp [h1, h2, h3, h4, h5, h6] <;> omega)
theorem wrap_sum (x y p : Int) (hx : 0 ≤ x) (hy : 0 ≤ y) (hp : 0 ≤ p) (hp2 : p ≤ 20000000000000) (hx2 : x ≤ 1307674368000) (hy2 : y ≤ 1307674368000) : wrap64 (wrap64 (x + y) + wrap64 p) = p + (x + y) := by
  unfold wrap64; omega
/-- The program's own count is the plain one. -/
theorem count_ev : ∀ (n l r : Nat), n ≤ 14 → l ≤ 15 → r ≤ 15 → Ev (fun k => impl_countBySeen.f k ((n + 1 : Nat) : Int) (l : Int) (r : Int)) (seenC n l r : Int) := by
  intro n
  induction n with
  | zero =>
    intro l r hn hl hr
    have fin : ∀ b : Bool, Ev (fun k => impl_countBySeen.j1 k b) (if b = true then 1 else 0) := fun b => by
      refine Ev.step (f := fun _ => some (if b = true then 1 else 0)) (fun k => ?_) (Ev.now _)
      cases b <;> rfl
    by_cases hl0 : l = 0
    · subst hl0
      rw [seenC_zero_l]
      refine Ev.step (f := fun k => impl_countBySeen.j0 k ((0 + 1 : Nat) : Int) ((0 : Nat) : Int) (r : Int) true) (fun k => ?_) ?_
      · rw [impl_countBySeen.f, if_pos (by omega)]
      · exact Ev.step (f := fun _ => some 0) (fun k => by rw [impl_countBySeen.j0, if_pos rfl]) (Ev.now _)
    · by_cases hr0 : r = 0
      · subst hr0
        rw [seenC_zero_r]
        refine Ev.step (f := fun k => impl_countBySeen.j0 k ((0 + 1 : Nat) : Int) (l : Int) ((0 : Nat) : Int) true) (fun k => ?_) ?_
        · rw [impl_countBySeen.f, if_neg (by omega)]; rfl
        · exact Ev.step (f := fun _ => some 0) (fun k => by rw [impl_countBySeen.j0, if_pos rfl]) (Ev.now _)
      · refine Ev.step (f := fun k => impl_countBySeen.j0 k ((0 + 1 : Nat) : Int) (l : Int) (r : Int) false) (fun k => ?_) ?_
        · rw [impl_countBySeen.f, if_neg (by omega), decide_eq_false (by omega)]
        · by_cases h1 : l = 1
          · subst h1
            refine Ev.step (f := fun k => impl_countBySeen.j1 k ((r : Int) == 1)) (fun k => ?_) ?_
            · rw [impl_countBySeen.j0, if_neg (by simp), if_pos (by rfl), if_pos (by rfl)]
            · have := fin ((r : Int) == 1)
              by_cases h2 : r = 1
              · subst h2; exact this
              · have e : ((r : Int) == 1) = false := beq_eq_false_iff_ne.mpr (by omega)
                rw [e] at this ⊢
                rw [seenC, if_neg (by omega)]; exact this
          · refine Ev.step (f := fun k => impl_countBySeen.j1 k false) (fun k => ?_) ?_
            · rw [impl_countBySeen.j0, if_neg (by simp), if_pos (by rfl), if_neg (by omega)]
            · have := fin false
              rw [seenC, if_neg (by omega)]; exact this
  | succ n ih =>
    intro l r hn hl hr
    by_cases hl0 : l = 0
    · subst hl0
      rw [seenC_zero_l]
      refine Ev.step (f := fun k => impl_countBySeen.j0 k ((n + 1 + 1 : Nat) : Int) ((0 : Nat) : Int) (r : Int) true) (fun k => ?_) ?_
      · rw [impl_countBySeen.f, if_pos (by omega)]
      · exact Ev.step (f := fun _ => some 0) (fun k => by rw [impl_countBySeen.j0, if_pos rfl]) (Ev.now _)
    · by_cases hr0 : r = 0
      · subst hr0
        rw [seenC_zero_r]
        refine Ev.step (f := fun k => impl_countBySeen.j0 k ((n + 1 + 1 : Nat) : Int) (l : Int) ((0 : Nat) : Int) true) (fun k => ?_) ?_
        · rw [impl_countBySeen.f, if_neg (by omega)]; rfl
        · exact Ev.step (f := fun _ => some 0) (fun k => by rw [impl_countBySeen.j0, if_pos rfl]) (Ev.now _)
      · refine Ev.step (f := fun k => impl_countBySeen.j0 k ((n + 1 + 1 : Nat) : Int) (l : Int) (r : Int) false) (fun k => ?_) ?_
        · rw [impl_countBySeen.f, if_neg (by omega), decide_eq_false (by omega)]
        · have b1 := seenC_bound n (l - 1) r (by omega)
          have b2 := seenC_bound n l (r - 1) (by omega)
          have b3 := seenC_mul n l r n (by omega) (by omega)
          have b4 := seenC_bound n l r (by omega)
          have hv := seenC_step n l r (by omega) (by omega)
          have i1 := ih (l - 1) r (by omega) (by omega) hr
          have i2 := ih l (r - 1) (by omega) hl (by omega)
          have i3 := ih l r (by omega) hl hr
          have e0 : wrap64 (((n + 1 + 1 : Nat) : Int) - 1) = ((n + 1 : Nat) : Int) := by unfold wrap64; omega
          have e1 : wrap64 ((l : Int) - 1) = ((l - 1 : Nat) : Int) := by unfold wrap64; omega
          have e2 : wrap64 ((r : Int) - 1) = ((r - 1 : Nat) : Int) := by unfold wrap64; omega
          have e3 : wrap64 (((n + 1 + 1 : Nat) : Int) - 2) = (n : Int) := by unfold wrap64; omega
          have b3' : (n : Int) * (seenC n l r : Int) ≤ 20000000000000 := by
            have : ((seenC n l r * n : Nat) : Int) ≤ 20000000000000 := by omega
            rw [Int.natCast_mul] at this
            rwa [Int.mul_comm]
          have b3'' : 0 ≤ (n : Int) * (seenC n l r : Int) := Int.mul_nonneg (by omega) (by omega)
          rw [Int.mul_comm] at hv
          refine Ev.step (f := fun k => (impl_countBySeen.f k ((n + 1 : Nat) : Int) ((l - 1 : Nat) : Int) (r : Int)).bind fun t133 => ((impl_countBySeen.f k ((n + 1 : Nat) : Int) (l : Int) ((r - 1 : Nat) : Int)).bind fun t134 => ((impl_countBySeen.f k ((n + 1 : Nat) : Int) (l : Int) (r : Int)).bind fun t135 => (some (wrap64 ((wrap64 (t133 + t134)) + (wrap64 ((n : Int) * t135)))))))) (fun k => ?_) ?_
          · rw [impl_countBySeen.j0, if_neg (by simp), if_neg (by omega), e0, e1, e2, e3]
          · refine Ev.bind i1 (Ev.bind i2 (Ev.bind i3 ?_))
            have ev : wrap64 (wrap64 ((seenC n (l - 1) r : Int) + (seenC n l (r - 1) : Int)) + wrap64 ((n : Int) * (seenC n l r : Int))) = (seenC (n + 1) l r : Int) :=
              (wrap_sum _ _ _ (by omega) (by omega) b3'' b3' (by omega) (by omega)).trans hv.symm
            rw [ev]
            exact Ev.now _
theorem impl_yes (n l r : Nat) (hn : n ≤ 14) (hl : l ≤ 15) (hr : r ≤ 15) (w : World) :
    Calls Try.prog 9 #[.int .i64 ((n + 1 : Nat) : Int), .int .i64 (l : Int), .int .i64 (r : Int)] w fun e w' => e = .returned (.tuple #[.int .i64 (seenC n l r : Int), .bool true]) ∧ Drawn0 w w' := by
  have h : Ev (fun k => impl_CountBySeen.f k ((n + 1 : Nat) : Int) (l : Int) (r : Int)) ((seenC n l r : Int), true) := by
    unfold impl_CountBySeen.f impl_in.f
    rw [if_pos (by omega), if_pos (by omega), if_pos (by omega), decide_eq_true (show ((n + 1 : Nat) : Int) ≤ 15 by omega), decide_eq_true (show (l : Int) ≤ 15 by omega), decide_eq_true (show (r : Int) ≤ 15 by omega)]
    simp only [Option.bind_some, if_true]
    exact Ev.bind (count_ev n l r hn hl hr) (Ev.now _)
  obtain ⟨k, hk⟩ := h.rounds
  exact impl_CountBySeen.calls k _ _ _ _ _ w hk
theorem impl_no (a b c : Int) (h : askB a b c = false) (w : World) :
    Calls Try.prog 9 #[.int .i64 a, .int .i64 b, .int .i64 c] w fun e w' => e = .returned (.tuple #[.int .i64 0, .bool false]) ∧ Drawn0 w w' := by
  have hh : impl_CountBySeen.f 0 a b c = some (0, false) := by
    unfold askB at h
    have h := of_decide_eq_false h
    unfold impl_CountBySeen.f impl_in.f
    by_cases h1 : 1 ≤ a <;> by_cases h2 : a ≤ 15 <;> by_cases h3 : 0 ≤ b <;> by_cases h4 : b ≤ 15 <;> by_cases h5 : 0 ≤ c <;> by_cases h6 : c ≤ 15 <;> simp [h1, h2, h3, h4, h5, h6] <;> omega
  exact impl_CountBySeen.calls 0 a b c _ _ w hh
set_option maxHeartbeats 4000000 in
set_option maxRecDepth 100000 in
theorem spec_no (a b c : Int) (h : askB a b c = false) (w : World) :
    Calls Try.prog 8 #[.int .i64 a, .int .i64 b, .int .i64 c] w fun e w' => e = .returned (.tuple #[.int .i64 0, .bool false]) ∧ Below w.heap.size w w' := by
  have HB := Aside0.mk (Below.refl w.heap.size w)
  have HA := Aside0.mk (fun W => asked_calls a b c W)
  rw [h] at HA
  clear h
  go_enter Try.func8, Try.ntmps8
  go_wp2_with (go_at_call 54; refine (HA.out _).mono ?_; rintro e w' ⟨rfl, ⟨nd, rfl⟩⟩)
  go_ret2
  exact ⟨rfl, (by repeat (first | (with_reducible first | exact HB.out | apply below_alloc | apply pw_below_drewN | apply below_drew1) | exact HB.out))⟩
set_option maxHeartbeats 4000000 in
set_option maxRecDepth 100000 in
theorem spec_yes (n l r : Nat) (hn : n ≤ 14) (hl : l ≤ 15) (hr : r ≤ 15) (w : World) :
    Calls Try.prog 8 #[.int .i64 ((n + 1 : Nat) : Int), .int .i64 (l : Int), .int .i64 (r : Int)] w fun e w' => e = .returned (.tuple #[.int .i64 (seenC n l r : Int), .bool true]) ∧ Below w.heap.size w w' := by
  have HB := Aside0.mk (Below.refl w.heap.size w)
  have HA := Aside0.mk (fun W => asked_calls ((n + 1 : Nat) : Int) (l : Int) (r : Int) W)
  rw [show askB ((n + 1 : Nat) : Int) (l : Int) (r : Int) = true from decide_eq_true (by omega)] at HA
  have HC := Aside0.mk (fun W => counts_calls n hn W)
  go_enter Try.func8, Try.ntmps8
  go_wp2_with (go_at_call 54; refine (HA.out _).mono ?_; rintro e w' ⟨rfl, ⟨nd, rfl⟩⟩)
  refine (HC.out _).mono ?_
  rintro e w3 ⟨v, rfl, ho, hb⟩
  have HBn := Aside0.mk (below_step (by repeat (first | (with_reducible first | exact HB.out | apply below_alloc | apply pw_below_drewN | apply below_drew1) | exact HB.out)) hb)
  obtain ⟨g, c, e, gb, gl, HG⟩ := Kd.S_form ho (by unfold tabT; rw [prtT_len]; omega)
  cases e
  rw [show (tabT n).length = 16 from prtT_len _ _ _] at ho ⊢
  obtain ⟨va, hca, hra⟩ := tab_get ho l (by omega)
  obtain ⟨Aa, ca, rfl, hla, hCa⟩ := Kd.R_reads hra
  have hlen1 : ((tabT n).getD l []).length = 16 := prtT_row_len _ _ _ _ (by omega)
  obtain ⟨ada, e, hqa⟩ := Kd.at_int hCa (r : Int) (by omega) (by omega)
  cases e
  replace hqa : w3.cell? (ada.add r) = some (.int .i64 (((tabT n).getD l []).getD r 0)) := hqa
  rw [tabT_rd n l r (by omega) (by omega)] at hqa
  rw [hlen1] at hca hla
  clear HB ho hb gb gl HG hra hCa hlen1
  have HB := HBn
  clear HBn
  generalize hq : (seenC n l r : Int) = q at hqa
  have HQ := Aside0.mk hq
  clear hq
  go_wp2_with fail
  go_ret2
  exact ⟨by rw [HQ.out]; rfl, (by repeat (first | (with_reducible first | exact HB.out | apply below_alloc | apply pw_below_drewN | apply below_drew1) | exact HB.out))⟩
set_option maxHeartbeats 4000000 in
set_option maxRecDepth 100000 in
theorem same (a b c x : Int) (o : Bool) (w : World) (hS : ∀ W, Calls Try.prog 8 #[.int .i64 a, .int .i64 b, .int .i64 c] W fun e w' => e = .returned (.tuple #[.int .i64 x, .bool o]) ∧ Below W.heap.size W w')
    (hI : ∀ W, Calls Try.prog 9 #[.int .i64 a, .int .i64 b, .int .i64 c] W fun e w' => e = .returned (.tuple #[.int .i64 x, .bool o]) ∧ Drawn0 W w') :
    Calls Try.prog 3 #[.int .i64 a, .int .i64 b, .int .i64 c] w fun e w' => e = .returned (.bool true) ∧ Below w.heap.size w w' := by
  have HB := Aside0.mk (Below.refl w.heap.size w)
  have HS := Aside0.mk hS
  have HI := Aside0.mk hI
  clear hS hI
  go_enter Try.func3, Try.ntmps3
  go_wp2_with (first | (go_at_call 8; refine (HS.out _).mono ?_; rintro e w3 ⟨rfl, hb⟩; have HBn := Aside0.mk (below_step (by repeat (first | (with_reducible first | exact HB.out | apply below_alloc | apply pw_below_drewN | apply below_drew1) | exact HB.out)) hb); clear hb HB; have HB := HBn; clear HBn) | (go_at_call 9; refine (HI.out _).mono ?_; rintro e w' ⟨rfl, ⟨nd, rfl⟩⟩))
  go_ret
  exact ⟨rfl, (by repeat (first | (with_reducible first | exact HB.out | apply below_alloc | apply pw_below_drewN | apply below_drew1) | exact HB.out))⟩
theorem walk (a b c : Int) (w : World) (_ : (Lit.int .i64 a).wf = true) (_ : (Lit.int .i64 b).wf = true) (_ : (Lit.int .i64 c).wf = true) :
    Calls Try.prog 3 #[.int .i64 a, .int .i64 b, .int .i64 c] w fun e w' => e = .returned (.bool true) ∧ Below w.heap.size w w' := by
  cases h : askB a b c with
  | true =>
    have h2 := of_decide_eq_true h
    obtain ⟨n, hn⟩ := Int.eq_ofNat_of_zero_le (show 0 ≤ a - 1 by omega)
    obtain ⟨l, rfl⟩ := Int.eq_ofNat_of_zero_le (show 0 ≤ b by omega)
    obtain ⟨r, rfl⟩ := Int.eq_ofNat_of_zero_le (show 0 ≤ c by omega)
    obtain rfl : a = ((n + 1 : Nat) : Int) := by omega
    exact same _ _ _ _ _ w (fun W => spec_yes n l r (by omega) (by omega) (by omega) W) (fun W => impl_yes n l r (by omega) (by omega) (by omega) W)
  | false => exact same a b c _ _ w (fun W => spec_no a b c h W) (fun W => impl_no a b c h W)
end Go.Proofs.Ytleacijhpkogpac.HCBS
