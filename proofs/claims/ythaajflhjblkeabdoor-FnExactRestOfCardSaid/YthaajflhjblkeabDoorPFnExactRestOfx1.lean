/- A text of this session for the law FnExactRestOf of the seat YthaajflhjblkeabDoor: the functions that the law uses and their walks. -/
import Derived.Test.YthaajflhjblkeabDoorPFnExactRestOfx0
namespace Go.Proofs.YthaajflhjblkeabDoor.PFnExactRestOf
open Go.RowKit Go.Proofs.YthaajflhjblkeabDoorW.PrintWords Go.Proofs.YthaajflhjblkeabDoorW.PrintLast Go.Proofs.YthaajflhjblkeabDoorW.PrintMore
attribute [local go_sem] max2_int min2_int max_two min_two max_three min_three max_four min_four   -- for this text's walks alone
set_option linter.unusedVariables false
set_option linter.unusedSimpArgs false

/-! ### spec_l1In: function 25 -/
def spec_l1In.f (a0 : Int) (a1 : Int) (a2 : Int) : Option (Bool) := if a0 ≥ a1 then (some (decide (a0 ≤ a2))) else (some false)
set_option maxHeartbeats 8000000 in
set_option maxRecDepth 100000 in
theorem spec_l1In.calls (a0 : Int) (a1 : Int) (a2 : Int) (r : Bool) (w : World) (h : spec_l1In.f a0 a1 a2 = some r) :
    Calls Tryd.prog 25 #[.int .i64 a0, .int .i64 a1, .int .i64 a2] w fun e w' => e = .returned (.bool r) ∧ Drawn0 w w' := by
  have H : (if a0 ≥ a1 then (some (decide (a0 ≤ a2))) else (some false)) = some r := h
  clear h
  by_cases c4 : a0 ≥ a1
  · rw [if_pos c4] at H
    have c4b0 : decide (a1 ≤ a0) = true := decide_eq_true c4
    clear c4
    obtain rfl := Option.some.inj H
    go_enter Tryd.func25, Tryd.ntmps25
    go_wp2
    go_ret
    exact ⟨by first | rfl | (simp; done) | (simp [*]; done), by repeat (first | exact Drawn0.refl _ | apply Drawn0.step)⟩
  · rw [if_neg c4] at H
    have c4b0 : decide (a1 ≤ a0) = false := decide_eq_false c4
    clear c4
    obtain rfl := Option.some.inj H
    go_enter Tryd.func25, Tryd.ntmps25
    go_wp2
    go_ret
    exact ⟨by first | rfl | (simp; done) | (simp [*]; done), by repeat (first | exact Drawn0.refl _ | apply Drawn0.step)⟩

/-! ### spec_rwGood: function 18 -/
def spec_rwGood.l0 : Nat → ByteArray → Int → Option (Bool)
  | 0, _, _ => none
  | k + 1, x0, x3 => if x3 < (x0.size : Int) then (if 0 ≤ x3 then (if (bt x0 x3) = 60 then (spec_rwGood.l0 k x0 (wrap64 (x3 + 1))) else (if (bt x0 x3) = 62 then (spec_rwGood.l0 k x0 (wrap64 (x3 + 1))) else (some false))) else (none)) else (some true)
def spec_rwGood.f (k : Nat) (a0 : ByteArray) : Option (Bool) := (spec_l1In.f (a0.size : Int) 1 60).bind fun t101 => (if t101 = true then (spec_rwGood.l0 k a0 0) else (some false))
theorem spec_rwGood.mono_l : ∀ k, (∀ y0 y1, LeO (spec_rwGood.l0 k y0 y1) (spec_rwGood.l0 (k + 1) y0 y1))
  | 0 => fun _ _ r h => by simp [spec_rwGood.l0] at h
  | k + 1 => by
    have ih0 := spec_rwGood.mono_l k
    · intro y0 y1
      unfold spec_rwGood.l0
      repeat' first
      | (with_reducible exact ih0 _ _)
      | (with_reducible exact LeO.refl _)
      | (with_reducible exact LeO.none _)
      | (with_reducible refine LeO.ite ?_ ?_)
      | (with_reducible refine LeO.bind ?_ (fun _ => ?_))
      | exact ih0 _ _
      | exact LeO.none _
      | refine LeO.ite ?_ ?_
      | refine LeO.bind ?_ (fun _ => ?_)
theorem spec_rwGood.mono : ∀ a0 k, LeO (spec_rwGood.f k a0) (spec_rwGood.f (k + 1) a0) := by
  intro a0 k
  have ih0 := spec_rwGood.mono_l k
  unfold spec_rwGood.f
  repeat' first
      | (with_reducible exact ih0 _ _)
      | (with_reducible exact LeO.refl _)
      | (with_reducible exact LeO.none _)
      | (with_reducible refine LeO.ite ?_ ?_)
      | (with_reducible refine LeO.bind ?_ (fun _ => ?_))
      | exact ih0 _ _
      | exact LeO.none _
      | refine LeO.ite ?_ ?_
      | refine LeO.bind ?_ (fun _ => ?_)
set_option maxHeartbeats 8000000 in
set_option maxRecDepth 100000 in
theorem spec_rwGood.calls (k : Nat) (a0 : ByteArray) (r : Bool) (w : World) (h : spec_rwGood.f k a0 = some r) :
    Calls Tryd.prog 18 #[.string a0] w fun e w' => e = .returned (.bool r) ∧ Drawn0 w w' := by
  have H : ((spec_l1In.f (a0.size : Int) 1 60).bind fun t101 => (if t101 = true then (spec_rwGood.l0 k a0 0) else (some false))) = some r := h
  clear h
  replace H := Option.bind_eq_some_iff.mp H
  obtain ⟨t101, A20, H⟩ := H
  replace H : (if t101 = true then (spec_rwGood.l0 k a0 0) else (some false)) = some r := H
  have A2 := Aside0.mk A20
  clear A20
  by_cases c3 : t101 = true
  · subst c3
    have H1 : (spec_rwGood.l0 k a0 0) = some r := by rw [if_pos rfl] at H; exact H
    clear H
    have H := H1
    clear H1
    have H' := Aside0.mk H
    clear H
    go_enter Tryd.func18, Tryd.ntmps18
    go_wp2_with (first | ((with_reducible refine gate_callee (f := 25) rfl ?_); refine goesL_ (some 6) rfl rfl Tryd.func25 (by kernel_rfl) rfl #[.int .i64 (a0.size : Int), .int .i64 1, .int .i64 60] rfl (by (try simp only [List.map_toArray, List.map_cons, List.map_nil]); first | done | rfl | (simp only [List.length_drop, List.length_take]; rfl)) ?_; (with_reducible refine (spec_l1In.calls (a0.size : Int) 1 60 true _ A2.out).mono ?_); rintro e w' ⟨rfl, ⟨nd, rfl⟩⟩; refine ⟨_, rfl, ?_⟩))
    go_loopg [3] k (fun kq v3 w' => ∃ (x3_1 : Int), v3 = .int .i64 x3_1 ∧ Aside0 (spec_rwGood.l0 kq a0 x3_1 = some r) ∧ Aside0 (kq ≤ k) ∧ Drawn0 w w')
    case atStart => exact ⟨(0), (by first | rfl | (simp; done) | (simp [*]; done)), H', ⟨Nat.le_refl _⟩, by repeat (first | exact Drawn0.refl _ | apply Drawn0.step)⟩
    case round =>
      clear H'
      try clear c1
      try clear c2
      try clear p2
      try clear c3
      obtain ⟨x3_1, rfl, HA, HK1, ⟨m1, rfl⟩⟩ := hrel
      cases gk with
      | zero => exact absurd HA.out (by simp [spec_rwGood.l0])
      | succ k1 =>
        have H := HA.out
        clear HA
        simp only [spec_rwGood.l0] at H
        by_cases c4 : x3_1 < (a0.size : Int)
        · rw [if_pos c4] at H
          have c4b0 : decide (x3_1 < (a0.size : Int)) = true := decide_eq_true c4
          clear c4
          by_cases c5 : 0 ≤ x3_1
          · rw [if_pos c5] at H
            have c5b0 : decide (0 ≤ x3_1) = true := decide_eq_true c5
            clear c5
            by_cases c7 : (bt a0 x3_1) = 60
            · rw [if_pos c7] at H
              have c7b0 : ((bt a0 x3_1) == 60) = true := beq_iff_eq.mpr c7
              have c7b1 : ((bt a0 x3_1) != 60) = false := bne_eq_false_iff_eq.mpr c7
              clear c7
              have H' := Aside0.mk H
              clear H
              have p6 : 0 ≤ (x3_1 : Int) := of_decide_eq_true (by first | (with_reducible assumption) | assumption)
              have q6 : x3_1 < (a0.size : Int) := of_decide_eq_true (by first | (with_reducible assumption) | assumption)
              have hx6 := bt_at a0 x3_1
              replace p6 := eq_true p6
              replace q6 := eq_true q6
              go_wp2
              go_roundg k1
              case measure => have := HK1.out; omega
              case rel => exact ⟨(wrap64 (x3_1 + 1)), (by first | rfl | (simp; done) | (simp [*]; done)), H', ⟨by have := HK1.out; omega⟩, by repeat (first | exact Drawn0.refl _ | apply Drawn0.step)⟩
            · rw [if_neg c7] at H
              have c7b0 : ((bt a0 x3_1) == 60) = false := beq_eq_false_iff_ne.mpr c7
              have c7b1 : ((bt a0 x3_1) != 60) = true := bne_iff_ne.mpr c7
              by_cases c9 : (bt a0 x3_1) = 62
              · rw [if_pos c9] at H
                have c9b0 : ((bt a0 x3_1) == 62) = true := beq_iff_eq.mpr c9
                have c9b1 : ((bt a0 x3_1) != 62) = false := bne_eq_false_iff_eq.mpr c9
                clear c9
                have H' := Aside0.mk H
                clear H
                have p6 : 0 ≤ (x3_1 : Int) := of_decide_eq_true (by first | (with_reducible assumption) | assumption)
                have q6 : x3_1 < (a0.size : Int) := of_decide_eq_true (by first | (with_reducible assumption) | assumption)
                have hx6 := bt_at a0 x3_1
                replace p6 := eq_true p6
                replace q6 := eq_true q6
                have p8 : 0 ≤ (x3_1 : Int) := of_decide_eq_true (by first | (with_reducible assumption) | assumption)
                have q8 : x3_1 < (a0.size : Int) := of_decide_eq_true (by first | (with_reducible assumption) | assumption)
                have hx8 := bt_at a0 x3_1
                replace p8 := eq_true p8
                replace q8 := eq_true q8
                go_wp2
                go_roundg k1
                case measure => have := HK1.out; omega
                case rel => exact ⟨(wrap64 (x3_1 + 1)), (by first | rfl | (simp; done) | (simp [*]; done)), H', ⟨by have := HK1.out; omega⟩, by repeat (first | exact Drawn0.refl _ | apply Drawn0.step)⟩
              · rw [if_neg c9] at H
                have c9b0 : ((bt a0 x3_1) == 62) = false := beq_eq_false_iff_ne.mpr c9
                have c9b1 : ((bt a0 x3_1) != 62) = true := bne_iff_ne.mpr c9
                obtain rfl := Option.some.inj H
                have p6 : 0 ≤ (x3_1 : Int) := of_decide_eq_true (by first | (with_reducible assumption) | assumption)
                have q6 : x3_1 < (a0.size : Int) := of_decide_eq_true (by first | (with_reducible assumption) | assumption)
                have hx6 := bt_at a0 x3_1
                replace p6 := eq_true p6
                replace q6 := eq_true q6
                have p8 : 0 ≤ (x3_1 : Int) := of_decide_eq_true (by first | (with_reducible assumption) | assumption)
                have q8 : x3_1 < (a0.size : Int) := of_decide_eq_true (by first | (with_reducible assumption) | assumption)
                have hx8 := bt_at a0 x3_1
                replace p8 := eq_true p8
                replace q8 := eq_true q8
                go_wp2
                go_ret
                exact ⟨by first | rfl | (simp; done) | (simp [*]; done), by repeat (first | exact Drawn0.refl _ | apply Drawn0.step)⟩
          · rw [if_neg c5] at H
            exact absurd H (by simp)
        · rw [if_neg c4] at H
          have c4b0 : decide (x3_1 < (a0.size : Int)) = false := decide_eq_false c4
          clear c4
          obtain rfl := Option.some.inj H
          go_wp2
          go_ret
          exact ⟨by first | rfl | (simp; done) | (simp [*]; done), by repeat (first | exact Drawn0.refl _ | apply Drawn0.step)⟩
  · replace c3 := Bool.eq_false_iff.mpr c3
    subst c3
    have H1 : (some false) = some r := by rw [if_neg (show ¬ (false = true) by decide)] at H; exact H
    clear H
    have H := H1
    clear H1
    obtain rfl := Option.some.inj H
    go_enter Tryd.func18, Tryd.ntmps18
    go_wp2_with (first | ((with_reducible refine gate_callee (f := 25) rfl ?_); refine goesL_ (some 6) rfl rfl Tryd.func25 (by kernel_rfl) rfl #[.int .i64 (a0.size : Int), .int .i64 1, .int .i64 60] rfl (by (try simp only [List.map_toArray, List.map_cons, List.map_nil]); first | done | rfl | (simp only [List.length_drop, List.length_take]; rfl)) ?_; (with_reducible refine (spec_l1In.calls (a0.size : Int) 1 60 false _ A2.out).mono ?_); rintro e w' ⟨rfl, ⟨nd, rfl⟩⟩; refine ⟨_, rfl, ?_⟩))
    go_ret
    exact ⟨by first | rfl | (simp; done) | (simp [*]; done), by repeat (first | exact Drawn0.refl _ | apply Drawn0.step)⟩

/-! ### spec_rwPairs: function 26 -/
def spec_rwPairs.l0 : Nat → ByteArray → List Int → Int → Option (List Int)
  | 0, _, _, _ => none
  | k + 1, x0, x3, x4 => if (wrap64 (x4 + 1)) < (x0.size : Int) then (if 0 ≤ x4 then (if x4 < (x0.size : Int) then (if (bt x0 x4) = 62 then (if 0 ≤ (wrap64 (x4 + 1)) then (if (bt x0 (wrap64 (x4 + 1))) = 60 then (if x3.length < 17592186044416 then (spec_rwPairs.l0 k x0 (x3 ++ [x4]) (wrap64 (x4 + 1))) else (none)) else (spec_rwPairs.l0 k x0 x3 (wrap64 (x4 + 1)))) else (none)) else (spec_rwPairs.l0 k x0 x3 (wrap64 (x4 + 1)))) else (none)) else (none)) else (some x3)
def spec_rwPairs.f (k : Nat) (a0 : ByteArray) : Option (List Int) := spec_rwPairs.l0 k a0 ([] : List Int) 0
theorem spec_rwPairs.mono_l : ∀ k, (∀ y0 y1 y2, LeO (spec_rwPairs.l0 k y0 y1 y2) (spec_rwPairs.l0 (k + 1) y0 y1 y2))
  | 0 => fun _ _ _ r h => by simp [spec_rwPairs.l0] at h
  | k + 1 => by
    have ih0 := spec_rwPairs.mono_l k
    · intro y0 y1 y2
      unfold spec_rwPairs.l0
      repeat' first
      | (with_reducible exact ih0 _ _ _)
      | (with_reducible exact LeO.refl _)
      | (with_reducible exact LeO.none _)
      | (with_reducible refine LeO.ite ?_ ?_)
      | (with_reducible refine LeO.bind ?_ (fun _ => ?_))
      | exact ih0 _ _ _
      | exact LeO.none _
      | refine LeO.ite ?_ ?_
      | refine LeO.bind ?_ (fun _ => ?_)
theorem spec_rwPairs.mono : ∀ a0 k, LeO (spec_rwPairs.f k a0) (spec_rwPairs.f (k + 1) a0) := by
  intro a0 k
  have ih0 := spec_rwPairs.mono_l k
  unfold spec_rwPairs.f
  repeat' first
      | (with_reducible exact ih0 _ _ _)
      | (with_reducible exact LeO.refl _)
      | (with_reducible exact LeO.none _)
      | (with_reducible refine LeO.ite ?_ ?_)
      | (with_reducible refine LeO.bind ?_ (fun _ => ?_))
      | exact ih0 _ _ _
      | exact LeO.none _
      | refine LeO.ite ?_ ?_
      | refine LeO.bind ?_ (fun _ => ?_)
set_option maxHeartbeats 8000000 in
set_option maxRecDepth 100000 in
theorem spec_rwPairs.calls (k : Nat) (a0 : ByteArray) (r : List Int) (w : World) (h : spec_rwPairs.f k a0 = some r) :
    Calls Tryd.prog 26 #[.string a0] w fun e w' => ∃ v0_ : Value, e = .returned (v0_) ∧ Kd.R (Kd.int .i64) 3 w' w.heap.size (fun _ => True) v0_ r ∧ Below w.heap.size w w' := by
  have HB := Aside0.mk (Below.refl w.heap.size w)
  have H : (spec_rwPairs.l0 k a0 ([] : List Int) 0) = some r := h
  clear h
  have H' := Aside0.mk H
  clear H
  go_enter Tryd.func26, Tryd.ntmps26
  go_wp2
  go_loopg [3, 4] k (fun kq v3 v4 w' => ∃ (x3_1 : List Int) (x4_1 : Int), v4 = .int .i64 x4_1 ∧ Aside0 (spec_rwPairs.l0 kq a0 x3_1 x4_1 = some r) ∧ Aside0 (kq ≤ k) ∧ Aside0 (Kd.R (Kd.int .i64) 3 w' w.heap.size (fun _ => True) v3 x3_1) ∧ Aside0 (Below w.heap.size w w'))
  case atStart => exact ⟨(([] : List Int)), (0), (by first | rfl | (simp; done) | (simp [*]; done)), H', ⟨Nat.le_refl _⟩, ⟨by first | exact Kd.R_nil _ _ _ _ _ | exact Kd.N_nil _ _ _ _ _ | exact Kd.V_nil _ _ _ _ _ | exact Kd.Q_nil _ _ _ _ _ | exact Kd.S_nil _ _ _ _ _⟩, ⟨by repeat (first | (with_reducible first | exact HB.out | apply below_alloc | apply pw_below_drewN | apply below_drew1) | exact HB.out)⟩⟩
  case round =>
    clear H'
    obtain ⟨x3_1, x4_1, rfl, HA, HK1, HO_3, HB⟩ := hrel
    cases gk with
    | zero => exact absurd HA.out (by simp [spec_rwPairs.l0])
    | succ k1 =>
      have H := HA.out
      clear HA
      simp only [spec_rwPairs.l0] at H
      by_cases c2 : (wrap64 (x4_1 + 1)) < (a0.size : Int)
      · rw [if_pos c2] at H
        have c2b0 : decide ((wrap64 (x4_1 + 1)) < (a0.size : Int)) = true := decide_eq_true c2
        clear c2
        by_cases c3 : 0 ≤ x4_1
        · rw [if_pos c3] at H
          have c3b0 : decide (0 ≤ x4_1) = true := decide_eq_true c3
          clear c3
          by_cases c4 : x4_1 < (a0.size : Int)
          · rw [if_pos c4] at H
            have c4b0 : decide (x4_1 < (a0.size : Int)) = true := decide_eq_true c4
            clear c4
            by_cases c6 : (bt a0 x4_1) = 62
            · rw [if_pos c6] at H
              have c6b0 : ((bt a0 x4_1) == 62) = true := beq_iff_eq.mpr c6
              have c6b1 : ((bt a0 x4_1) != 62) = false := bne_eq_false_iff_eq.mpr c6
              clear c6
              obtain ⟨ji7, hji7⟩ : ∃ j_ : Int, (wrap64 (x4_1 + 1)) = j_ := ⟨_, rfl⟩
              replace H : (if 0 ≤ (ji7) then (if (bt a0 (ji7)) = 60 then (if x3_1.length < 17592186044416 then (spec_rwPairs.l0 k1 a0 (x3_1 ++ [x4_1]) ji7) else (none)) else (spec_rwPairs.l0 k1 a0 x3_1 ji7)) else (none)) = some r := by first | (rw [hji7] at H; exact H) | (simp only [hji7] at H ⊢; exact H)
              (try rw [hji7] at c2b0)
              have hji7w : (IntKind.i64.wrap (x4_1 + 1)) = ji7 := (i64_w _).trans hji7
              by_cases c8 : 0 ≤ (ji7)
              · rw [if_pos c8] at H
                have c8b0 : decide (0 ≤ (ji7)) = true := decide_eq_true c8
                clear c8
                by_cases c10 : (bt a0 (ji7)) = 60
                · rw [if_pos c10] at H
                  have c10b0 : ((bt a0 (ji7)) == 60) = true := beq_iff_eq.mpr c10
                  have c10b1 : ((bt a0 (ji7)) != 60) = false := bne_eq_false_iff_eq.mpr c10
                  clear c10
                  by_cases c11 : x3_1.length < 17592186044416
                  · rw [if_pos c11] at H
                    have LMc11 := Aside0.mk c11
                    clear c11
                    obtain ⟨y102, hy102⟩ : ∃ y_ : List Int, y_ = (x3_1 ++ [x4_1]) := ⟨_, rfl⟩
                    replace H : (spec_rwPairs.l0 k1 a0 y102 ji7) = some r := by first | (rw [hy102]; with_reducible exact H) | (have H2_ := (Option.bind_some _ _).symm.trans H; rw [hy102]; with_reducible exact H2_) | (have H2_ := (Option.bind_some _ _).symm.trans H; with_reducible exact H2_) | with_reducible exact H | (rw [hy102]; exact H) | exact H
                    have Ny102 := Aside0.mk hy102
                    clear hy102
                    have H' := Aside0.mk H
                    clear H
                    have p5 : 0 ≤ (x4_1 : Int) := of_decide_eq_true (by first | (with_reducible assumption) | assumption)
                    have q5 : x4_1 < (a0.size : Int) := of_decide_eq_true (by first | (with_reducible assumption) | assumption)
                    have hx5 := bt_at a0 x4_1
                    replace p5 := eq_true p5
                    replace q5 := eq_true q5
                    have p9 : 0 ≤ ((ji7) : Int) := of_decide_eq_true (by first | (with_reducible assumption) | assumption)
                    have q9 : (ji7) < (a0.size : Int) := of_decide_eq_true (by first | (with_reducible assumption) | assumption)
                    have hx9 := bt_at a0 (ji7)
                    replace p9 := eq_true p9
                    replace q9 := eq_true q9
                    go_wp2_with (first | ((with_reducible refine gate_builtin (b := .append) (xs := #[.tmp 23, .tmp 25]) rfl ?_); at_builtin; refine Kd.R_append (Kd.int .i64) (w0 := w) w.heap.size rfl (.tmp 23) (.tmp 25) 34 3 (.int .i64 0) 8 rfl Tryd.underlying34 info3 rfl (by decide) (by omega) u3 x3_1 x4_1 [.int .i64 x4_1] (fun _ => True) (fun _ => False) rfl rfl ?aP (fun _ hk => hk.elim) ?aF ?aO ?aB ?aS ?aL ?_; (case aP => exact rfl); (case aB => exact (by repeat (first | (with_reducible first | exact HB.out | apply below_alloc | apply pw_below_drewN | apply below_drew1) | exact HB.out))); (case aF => exact (fun _ _ => trivial)); (case aO => exact (by (with_reducible repeat (first | apply Kd.R_alloc | apply Kd.R_drewN | apply Kd.R_drew)); exact HO_3.out)); (case aS => exact (below_size (by repeat (first | (with_reducible first | exact HB.out | apply below_alloc | apply pw_below_drewN | apply below_drew1) | exact HB.out)))); (case aL => have := LMc11.out; omega); intro v103 w12 ho hb hg hat; rw [← Ny102.out] at ho; have n0_ := Aside0.mk (hb); have n1_ := Aside0.mk (ho); clear HB; clear HO_3; have HB := n0_; have HO104 := n1_; clear n0_ n1_; clear ho hb hg hat))
                    go_roundg k1
                    case measure => have := HK1.out; omega
                    case rel => exact ⟨(y102), (ji7), (by first | rfl | (simp; done) | (simp only [← hji7] <;> (first | rfl | simp)) | (simp [*]; done)), H', ⟨by have := HK1.out; omega⟩, ⟨by (with_reducible repeat (first | apply Kd.R_alloc | apply Kd.R_drewN | apply Kd.R_drew)); exact HO104.out⟩, ⟨by repeat (first | (with_reducible first | exact HB.out | apply below_alloc | apply pw_below_drewN | apply below_drew1) | exact HB.out)⟩⟩
                  · rw [if_neg c11] at H
                    exact absurd H (by simp)
                · rw [if_neg c10] at H
                  have c10b0 : ((bt a0 (ji7)) == 60) = false := beq_eq_false_iff_ne.mpr c10
                  have c10b1 : ((bt a0 (ji7)) != 60) = true := bne_iff_ne.mpr c10
                  have H' := Aside0.mk H
                  clear H
                  have p5 : 0 ≤ (x4_1 : Int) := of_decide_eq_true (by first | (with_reducible assumption) | assumption)
                  have q5 : x4_1 < (a0.size : Int) := of_decide_eq_true (by first | (with_reducible assumption) | assumption)
                  have hx5 := bt_at a0 x4_1
                  replace p5 := eq_true p5
                  replace q5 := eq_true q5
                  have p9 : 0 ≤ ((ji7) : Int) := of_decide_eq_true (by first | (with_reducible assumption) | assumption)
                  have q9 : (ji7) < (a0.size : Int) := of_decide_eq_true (by first | (with_reducible assumption) | assumption)
                  have hx9 := bt_at a0 (ji7)
                  replace p9 := eq_true p9
                  replace q9 := eq_true q9
                  go_wp2
                  go_roundg k1
                  case measure => have := HK1.out; omega
                  case rel => exact ⟨(x3_1), (ji7), (by first | rfl | (simp; done) | (simp only [← hji7] <;> (first | rfl | simp)) | (simp [*]; done)), H', ⟨by have := HK1.out; omega⟩, ⟨by (with_reducible repeat (first | apply Kd.R_alloc | apply Kd.R_drewN | apply Kd.R_drew)); exact HO_3.out⟩, ⟨by repeat (first | (with_reducible first | exact HB.out | apply below_alloc | apply pw_below_drewN | apply below_drew1) | exact HB.out)⟩⟩
              · rw [if_neg c8] at H
                exact absurd H (by simp)
            · rw [if_neg c6] at H
              have c6b0 : ((bt a0 x4_1) == 62) = false := beq_eq_false_iff_ne.mpr c6
              have c6b1 : ((bt a0 x4_1) != 62) = true := bne_iff_ne.mpr c6
              have H' := Aside0.mk H
              clear H
              have p5 : 0 ≤ (x4_1 : Int) := of_decide_eq_true (by first | (with_reducible assumption) | assumption)
              have q5 : x4_1 < (a0.size : Int) := of_decide_eq_true (by first | (with_reducible assumption) | assumption)
              have hx5 := bt_at a0 x4_1
              replace p5 := eq_true p5
              replace q5 := eq_true q5
              go_wp2
              go_roundg k1
              case measure => have := HK1.out; omega
              case rel => exact ⟨(x3_1), (wrap64 (x4_1 + 1)), (by first | rfl | (simp; done) | (simp [*]; done)), H', ⟨by have := HK1.out; omega⟩, ⟨by (with_reducible repeat (first | apply Kd.R_alloc | apply Kd.R_drewN | apply Kd.R_drew)); exact HO_3.out⟩, ⟨by repeat (first | (with_reducible first | exact HB.out | apply below_alloc | apply pw_below_drewN | apply below_drew1) | exact HB.out)⟩⟩
          · rw [if_neg c4] at H
            exact absurd H (by simp)
        · rw [if_neg c3] at H
          exact absurd H (by simp)
      · rw [if_neg c2] at H
        have c2b0 : decide ((wrap64 (x4_1 + 1)) < (a0.size : Int)) = false := decide_eq_false c2
        clear c2
        obtain rfl := Option.some.inj H
        go_wp2
        go_ret
        exact ⟨_, by first | rfl | (simp [errW_none, errW_some] <;> rfl) | (simp [*, errW_none, errW_some] <;> rfl), by (with_reducible repeat (first | apply Kd.R_alloc | apply Kd.R_drewN | apply Kd.R_drew)); exact HO_3.out, by repeat (first | (with_reducible first | exact HB.out | apply below_alloc | apply pw_below_drewN | apply below_drew1) | exact HB.out)⟩

/-! ### spec_rwTick: function 23 -/
def spec_rwTick.l0 : Nat → ByteArray → List Int → Int → Int → Option (ByteArray)
  | 0, _, _, _, _ => none
  | k + 1, x0, x6, x7, x8 => if x8 < x7 then (if 0 ≤ x8 then (if x8 < (x6.length : Int) then (if 0 ≤ (rd x6 x8) then (if (rd x6 x8) ≤ (x0.size : Int) then (if (x0.extract 0 ((rd x6 x8) : Int).toNat).size + 2 ≤ 9223372036854775807 then (if 0 ≤ (wrap64 ((rd x6 x8) + 2)) then (if (wrap64 ((rd x6 x8) + 2)) ≤ (x0.size : Int) then (if ((x0.extract 0 ((rd x6 x8) : Int).toNat) ++ (⟨#[60, 62]⟩ : ByteArray)).size + (x0.extract ((wrap64 ((rd x6 x8) + 2)) : Int).toNat x0.size).size ≤ 9223372036854775807 then (spec_rwTick.l0 k (((x0.extract 0 ((rd x6 x8) : Int).toNat) ++ (⟨#[60, 62]⟩ : ByteArray)) ++ (x0.extract ((wrap64 ((rd x6 x8) + 2)) : Int).toNat x0.size)) x6 x7 (wrap64 (x8 + 1))) else (none)) else (none)) else (none)) else (none)) else (none)) else (none)) else (none)) else (none)) else (some x0)
def spec_rwTick.f (k : Nat) (a0 : ByteArray) : Option (ByteArray) := (spec_rwPairs.f k a0).bind fun t105 => (spec_rwTick.l0 k a0 t105 (t105.length : Int) 0)
theorem spec_rwTick.mono_l : ∀ k, (∀ y0 y1 y2 y3, LeO (spec_rwTick.l0 k y0 y1 y2 y3) (spec_rwTick.l0 (k + 1) y0 y1 y2 y3))
  | 0 => fun _ _ _ _ r h => by simp [spec_rwTick.l0] at h
  | k + 1 => by
    have ih0 := spec_rwTick.mono_l k
    · intro y0 y1 y2 y3
      unfold spec_rwTick.l0
      repeat' first
      | (with_reducible exact ih0 _ _ _ _)
      | (with_reducible exact spec_rwPairs.mono _ _)
      | (with_reducible exact LeO.refl _)
      | (with_reducible exact LeO.none _)
      | (with_reducible refine LeO.ite ?_ ?_)
      | (with_reducible refine LeO.bind ?_ (fun _ => ?_))
      | exact ih0 _ _ _ _
      | exact spec_rwPairs.mono _ _
      | exact LeO.none _
      | refine LeO.ite ?_ ?_
      | refine LeO.bind ?_ (fun _ => ?_)
theorem spec_rwTick.mono : ∀ a0 k, LeO (spec_rwTick.f k a0) (spec_rwTick.f (k + 1) a0) := by
  intro a0 k
  have ih0 := spec_rwTick.mono_l k
  unfold spec_rwTick.f
  repeat' first
      | (with_reducible exact ih0 _ _ _ _)
      | (with_reducible exact spec_rwPairs.mono _ _)
      | (with_reducible exact LeO.refl _)
      | (with_reducible exact LeO.none _)
      | (with_reducible refine LeO.ite ?_ ?_)
      | (with_reducible refine LeO.bind ?_ (fun _ => ?_))
      | exact ih0 _ _ _ _
      | exact spec_rwPairs.mono _ _
      | exact LeO.none _
      | refine LeO.ite ?_ ?_
      | refine LeO.bind ?_ (fun _ => ?_)
set_option maxHeartbeats 8000000 in
set_option maxRecDepth 100000 in
theorem spec_rwTick.calls (k : Nat) (a0 : ByteArray) (r : ByteArray) (w : World) (h : spec_rwTick.f k a0 = some r) :
    Calls Tryd.prog 23 #[.string a0] w fun e w' => e = .returned (.string r) ∧ Below w.heap.size w w' := by
  have HB := Aside0.mk (Below.refl w.heap.size w)
  have H : ((spec_rwPairs.f k a0).bind fun t105 => (spec_rwTick.l0 k a0 t105 (t105.length : Int) 0)) = some r := h
  clear h
  replace H := Option.bind_eq_some_iff.mp H
  obtain ⟨t105, A20, H⟩ := H
  replace H : (spec_rwTick.l0 k a0 t105 (t105.length : Int) 0) = some r := H
  have A2 := Aside0.mk A20
  clear A20
  have H' := Aside0.mk H
  clear H
  go_enter Tryd.func23, Tryd.ntmps23
  go_wp2_with (first | (go_at_call 26; (with_reducible refine (spec_rwPairs.calls k a0 t105 _ A2.out).mono ?_); rintro e w3 ⟨v106, rfl, ho0, hb⟩; have n0_ := Aside0.mk (Kd.R_lower ho0 (below_size (by repeat (first | (with_reducible first | exact HB.out | apply below_alloc | apply pw_below_drewN | apply below_drew1) | exact HB.out)))); have n1_ := Aside0.mk (below_step (by repeat (first | (with_reducible first | exact HB.out | apply below_alloc | apply pw_below_drewN | apply below_drew1) | exact HB.out)) hb); clear HB; have HO107 := n0_; have HB := n1_; clear n0_ n1_; (try clear hb); (try clear hb2); (try clear hk); (try clear hi); (try clear ho0); obtain ⟨Ao4, co4, eo4⟩ := Kd.R_slice HO107.out; subst eo4))
  repeat (go_quiet (first | (go_at_call 26; (with_reducible refine (spec_rwPairs.calls k a0 t105 _ A2.out).mono ?_); rintro e w3 ⟨v106, rfl, ho0, hb⟩; have n0_ := Aside0.mk (Kd.R_lower ho0 (below_size (by repeat (first | (with_reducible first | exact HB.out | apply below_alloc | apply pw_below_drewN | apply below_drew1) | exact HB.out)))); have n1_ := Aside0.mk (below_step (by repeat (first | (with_reducible first | exact HB.out | apply below_alloc | apply pw_below_drewN | apply below_drew1) | exact HB.out)) hb); clear HB; have HO107 := n0_; have HB := n1_; clear n0_ n1_; (try clear hb); (try clear hb2); (try clear hk); (try clear hi); (try clear ho0); obtain ⟨Ao4, co4, eo4⟩ := Kd.R_slice HO107.out; subst eo4)); try go_wp2_with (first | (go_at_call 26; (with_reducible refine (spec_rwPairs.calls k a0 t105 _ A2.out).mono ?_); rintro e w3 ⟨v106, rfl, ho0, hb⟩; have n0_ := Aside0.mk (Kd.R_lower ho0 (below_size (by repeat (first | (with_reducible first | exact HB.out | apply below_alloc | apply pw_below_drewN | apply below_drew1) | exact HB.out)))); have n1_ := Aside0.mk (below_step (by repeat (first | (with_reducible first | exact HB.out | apply below_alloc | apply pw_below_drewN | apply below_drew1) | exact HB.out)) hb); clear HB; have HO107 := n0_; have HB := n1_; clear n0_ n1_; (try clear hb); (try clear hb2); (try clear hk); (try clear hi); (try clear ho0); obtain ⟨Ao4, co4, eo4⟩ := Kd.R_slice HO107.out; subst eo4)))
  go_loopg [0, 8] k (fun kq v0 v8 w' => ∃ (x0_1 : ByteArray) (x8_1 : Int), v0 = .string x0_1 ∧ v8 = .int .i64 x8_1 ∧ Aside0 (spec_rwTick.l0 kq x0_1 t105 (t105.length : Int) x8_1 = some r) ∧ Aside0 (kq ≤ k) ∧ Aside0 (Kd.R (Kd.int .i64) 3 w' w.heap.size (fun _ => True) (.slice Ao4 t105.length co4) t105) ∧ Aside0 (Below w.heap.size w w'))
  case atStart => exact ⟨(a0), (0), (by first | rfl | (simp; done) | (simp [*]; done)), (by first | rfl | (simp; done) | (simp [*]; done)), H', ⟨Nat.le_refl _⟩, ⟨by (with_reducible repeat (first | apply Kd.R_alloc | apply Kd.R_drewN | apply Kd.R_drew)); exact HO107.out⟩, ⟨by repeat (first | (with_reducible first | exact HB.out | apply below_alloc | apply pw_below_drewN | apply below_drew1) | exact HB.out)⟩⟩
  case round =>
    clear H'
    try clear c2
    try clear p2
    obtain ⟨x0_1, x8_1, rfl, rfl, HA, HK1, HO_6, HB⟩ := hrel
    cases gk with
    | zero => exact absurd HA.out (by simp [spec_rwTick.l0])
    | succ k1 =>
      have H := HA.out
      clear HA
      simp only [spec_rwTick.l0] at H
      by_cases c5 : x8_1 < (t105.length : Int)
      · rw [if_pos c5] at H
        have c5b0 : decide (x8_1 < (t105.length : Int)) = true := decide_eq_true c5
        clear c5
        by_cases c6 : 0 ≤ x8_1
        · rw [if_pos c6] at H
          have c6b0 : decide (0 ≤ x8_1) = true := decide_eq_true c6
          clear c6
          by_cases c7 : x8_1 < (t105.length : Int)
          · rw [if_pos c7] at H
            have c7b0 : decide (x8_1 < (t105.length : Int)) = true := decide_eq_true c7
            clear c7
            by_cases c8 : 0 ≤ (rd t105 x8_1)
            · rw [if_pos c8] at H
              have c8b0 := eq_true c8
              have c8b1 : decide (0 ≤ (rd t105 x8_1)) = true := decide_eq_true c8
              clear c8
              by_cases c9 : (rd t105 x8_1) ≤ (x0_1.size : Int)
              · rw [if_pos c9] at H
                have c9b0 := eq_true c9
                have c9b1 : decide ((rd t105 x8_1) ≤ (x0_1.size : Int)) = true := decide_eq_true c9
                clear c9
                by_cases c10 : (x0_1.extract 0 ((rd t105 x8_1) : Int).toNat).size + 2 ≤ 9223372036854775807
                · rw [if_pos c10] at H
                  have c10b0 := eq_true c10
                  have c10b1 : decide ((x0_1.extract 0 ((rd t105 x8_1) : Int).toNat).size + 2 ≤ 9223372036854775807) = true := decide_eq_true c10
                  (try (have c10b1v := c10b1; simp only [ByteArray.size_extract, ByteArray.size_append, Nat.sub_zero, Nat.min_self, (Nat.min_eq_left (by have hmz_ := of_decide_eq_true c9b1; omega) : min ((rd t105 x8_1) : Int).toNat x0_1.size = ((rd t105 x8_1) : Int).toNat)] at c10b1v))
                  try have c10b2 : (9223372036854775807 < (x0_1.extract 0 ((rd t105 x8_1) : Int).toNat).size + 2) = False := eq_false (Nat.not_lt.2 c10)
                  (try (have c10b2v := c10b2; simp only [ByteArray.size_extract, ByteArray.size_append, Nat.sub_zero, Nat.min_self, (Nat.min_eq_left (by have hmz_ := of_decide_eq_true c9b1; omega) : min ((rd t105 x8_1) : Int).toNat x0_1.size = ((rd t105 x8_1) : Int).toNat)] at c10b2v))
                  obtain ⟨ji11, hji11⟩ : ∃ j_ : Int, (wrap64 ((rd t105 x8_1) + 2)) = j_ := ⟨_, rfl⟩
                  replace H : (if 0 ≤ (ji11) then (if (ji11) ≤ (x0_1.size : Int) then (if ((x0_1.extract 0 ((rd t105 x8_1) : Int).toNat) ++ (⟨#[60, 62]⟩ : ByteArray)).size + (x0_1.extract ((ji11) : Int).toNat x0_1.size).size ≤ 9223372036854775807 then (spec_rwTick.l0 k1 (((x0_1.extract 0 ((rd t105 x8_1) : Int).toNat) ++ (⟨#[60, 62]⟩ : ByteArray)) ++ (x0_1.extract ((ji11) : Int).toNat x0_1.size)) t105 (t105.length : Int) (wrap64 (x8_1 + 1))) else (none)) else (none)) else (none)) = some r := by first | (rw [hji11] at H; exact H) | (simp only [hji11] at H ⊢; exact H)
                  have hji11w : (IntKind.i64.wrap ((rd t105 x8_1) + 2)) = ji11 := (i64_w _).trans hji11
                  by_cases c12 : 0 ≤ (ji11)
                  · rw [if_pos c12] at H
                    have c12b0 := eq_true c12
                    have c12b1 : decide (0 ≤ (ji11)) = true := decide_eq_true c12
                    clear c12
                    by_cases c13 : (ji11) ≤ (x0_1.size : Int)
                    · rw [if_pos c13] at H
                      have c13b0 := eq_true c13
                      have c13b1 : decide ((ji11) ≤ (x0_1.size : Int)) = true := decide_eq_true c13
                      clear c13
                      by_cases c14 : ((x0_1.extract 0 ((rd t105 x8_1) : Int).toNat) ++ (⟨#[60, 62]⟩ : ByteArray)).size + (x0_1.extract ((ji11) : Int).toNat x0_1.size).size ≤ 9223372036854775807
                      · rw [if_pos c14] at H
                        have c14b0 := eq_true c14
                        have c14b1 : decide (((x0_1.extract 0 ((rd t105 x8_1) : Int).toNat) ++ (⟨#[60, 62]⟩ : ByteArray)).size + (x0_1.extract ((ji11) : Int).toNat x0_1.size).size ≤ 9223372036854775807) = true := decide_eq_true c14
                        (try (have c14b1v := c14b1; simp only [ByteArray.size_extract, ByteArray.size_append, Nat.sub_zero, Nat.min_self, (Nat.min_eq_left (by have hmz_ := of_decide_eq_true c9b1; omega) : min ((rd t105 x8_1) : Int).toNat x0_1.size = ((rd t105 x8_1) : Int).toNat), (rfl : (⟨#[60, 62]⟩ : ByteArray).size = 2)] at c14b1v))
                        try have c14b2 : (9223372036854775807 < ((x0_1.extract 0 ((rd t105 x8_1) : Int).toNat) ++ (⟨#[60, 62]⟩ : ByteArray)).size + (x0_1.extract ((ji11) : Int).toNat x0_1.size).size) = False := eq_false (Nat.not_lt.2 c14)
                        (try (have c14b2v := c14b2; simp only [ByteArray.size_extract, ByteArray.size_append, Nat.sub_zero, Nat.min_self, (Nat.min_eq_left (by have hmz_ := of_decide_eq_true c9b1; omega) : min ((rd t105 x8_1) : Int).toNat x0_1.size = ((rd t105 x8_1) : Int).toNat), (rfl : (⟨#[60, 62]⟩ : ByteArray).size = 2)] at c14b2v))
                        have H' := Aside0.mk H
                        clear H
                        have p108 : 0 ≤ (x8_1 : Int) := of_decide_eq_true (by first | (with_reducible assumption) | assumption)
                        have q108 : x8_1 < (t105.length : Int) := of_decide_eq_true (by first | (with_reducible assumption) | assumption)
                        obtain ⟨ad108, e108, hx108_0⟩ := Kd.at_int (Kd.R_reads' HO_6.out).2.2 x8_1 p108 q108
                        cases e108
                        replace p108 := eq_true p108
                        replace q108 := eq_true q108
                        go_wp2
                        repeat (go_quiet (fail); try go_wp2)
                        go_roundg k1
                        case measure => have := HK1.out; omega
                        case rel => exact ⟨(((x0_1.extract 0 ((rd t105 x8_1) : Int).toNat) ++ (⟨#[60, 62]⟩ : ByteArray)) ++ (x0_1.extract ((ji11) : Int).toNat x0_1.size)), (wrap64 (x8_1 + 1)), (by first | rfl | (simp; done) | (simp only [← hji11] <;> (first | rfl | simp)) | (simp [*]; done)), (by first | rfl | (simp; done) | (simp [*]; done)), H', ⟨by have := HK1.out; omega⟩, ⟨by (with_reducible repeat (first | apply Kd.R_alloc | apply Kd.R_drewN | apply Kd.R_drew)); exact HO_6.out⟩, ⟨by repeat (first | (with_reducible first | exact HB.out | apply below_alloc | apply pw_below_drewN | apply below_drew1) | exact HB.out)⟩⟩
                      · rw [if_neg c14] at H
                        exact absurd H (by simp)
                    · rw [if_neg c13] at H
                      exact absurd H (by simp)
                  · rw [if_neg c12] at H
                    exact absurd H (by simp)
                · rw [if_neg c10] at H
                  exact absurd H (by simp)
              · rw [if_neg c9] at H
                exact absurd H (by simp)
            · rw [if_neg c8] at H
              exact absurd H (by simp)
          · rw [if_neg c7] at H
            exact absurd H (by simp)
        · rw [if_neg c6] at H
          exact absurd H (by simp)
      · rw [if_neg c5] at H
        have c5b0 : decide (x8_1 < (t105.length : Int)) = false := decide_eq_false c5
        clear c5
        obtain rfl := Option.some.inj H
        go_wp2
        repeat (go_quiet (fail); try go_wp2)
        go_ret
        exact ⟨by first | rfl | (simp [errW_none, errW_some] <;> rfl) | (simp [*, errW_none, errW_some] <;> rfl), by repeat (first | (with_reducible first | exact HB.out | apply below_alloc | apply pw_below_drewN | apply below_drew1) | exact HB.out)⟩

/-! ### spec_rwRest: function 29 -/
def spec_rwRest.l0 : Nat → ByteArray → Int → Option (ByteArray × Int)
  | 0, _, _ => none
  | k + 1, x0, x4 => (spec_rwPairs.f k x0).bind fun t109 => (if (t109.length : Int) > 0 then ((spec_rwTick.f k x0).bind fun t112 => (spec_rwRest.l0 k t112 (wrap64 (x4 + 1)))) else (some (x0, x4)))
def spec_rwRest.f (k : Nat) (a0 : ByteArray) : Option (ByteArray × Int) := spec_rwRest.l0 k a0 0
theorem spec_rwRest.mono_l : ∀ k, (∀ y0 y1, LeO (spec_rwRest.l0 k y0 y1) (spec_rwRest.l0 (k + 1) y0 y1))
  | 0 => fun _ _ r h => by simp [spec_rwRest.l0] at h
  | k + 1 => by
    have ih0 := spec_rwRest.mono_l k
    · intro y0 y1
      unfold spec_rwRest.l0
      repeat' first
      | (with_reducible exact ih0 _ _)
      | (with_reducible exact spec_rwPairs.mono _ _)
      | (with_reducible exact spec_rwTick.mono _ _)
      | (with_reducible exact LeO.refl _)
      | (with_reducible exact LeO.none _)
      | (with_reducible refine LeO.ite ?_ ?_)
      | (with_reducible refine LeO.bind ?_ (fun _ => ?_))
      | exact ih0 _ _
      | exact spec_rwPairs.mono _ _
      | exact spec_rwTick.mono _ _
      | exact LeO.none _
      | refine LeO.ite ?_ ?_
      | refine LeO.bind ?_ (fun _ => ?_)
theorem spec_rwRest.mono : ∀ a0 k, LeO (spec_rwRest.f k a0) (spec_rwRest.f (k + 1) a0) := by
  intro a0 k
  have ih0 := spec_rwRest.mono_l k
  unfold spec_rwRest.f
  repeat' first
      | (with_reducible exact ih0 _ _)
      | (with_reducible exact spec_rwPairs.mono _ _)
      | (with_reducible exact spec_rwTick.mono _ _)
      | (with_reducible exact LeO.refl _)
      | (with_reducible exact LeO.none _)
      | (with_reducible refine LeO.ite ?_ ?_)
      | (with_reducible refine LeO.bind ?_ (fun _ => ?_))
      | exact ih0 _ _
      | exact spec_rwPairs.mono _ _
      | exact spec_rwTick.mono _ _
      | exact LeO.none _
      | refine LeO.ite ?_ ?_
      | refine LeO.bind ?_ (fun _ => ?_)
set_option maxHeartbeats 8000000 in
set_option maxRecDepth 100000 in
theorem spec_rwRest.calls (k : Nat) (a0 : ByteArray) (r1 : ByteArray) (r2 : Int) (w : World) (h : spec_rwRest.f k a0 = some (r1, r2)) :
    Calls Tryd.prog 29 #[.string a0] w fun e w' => e = .returned (.tuple #[.string r1, .int .i64 r2]) ∧ Below w.heap.size w w' := by
  have HB := Aside0.mk (Below.refl w.heap.size w)
  have H : (spec_rwRest.l0 k a0 0) = some (r1, r2) := h
  clear h
  have H' := Aside0.mk H
  clear H
  go_enter Tryd.func29, Tryd.ntmps29
  go_wp2
  go_loopg [0, 4] k (fun kq v0 v4 w' => ∃ (x0_1 : ByteArray) (x4_1 : Int), v0 = .string x0_1 ∧ v4 = .int .i64 x4_1 ∧ Aside0 (spec_rwRest.l0 kq x0_1 x4_1 = some (r1, r2)) ∧ Aside0 (kq ≤ k) ∧ Aside0 (Below w.heap.size w w'))
  case atStart => exact ⟨(a0), (0), (by first | rfl | (simp; done) | (simp [*]; done)), (by first | rfl | (simp; done) | (simp [*]; done)), H', ⟨Nat.le_refl _⟩, ⟨by repeat (first | (with_reducible first | exact HB.out | apply below_alloc | apply pw_below_drewN | apply below_drew1) | exact HB.out)⟩⟩
  case round =>
    clear H'
    obtain ⟨x0_1, x4_1, rfl, rfl, HA, HK1, HB⟩ := hrel
    cases gk with
    | zero => exact absurd HA.out (by simp [spec_rwRest.l0])
    | succ k1 =>
      have H := HA.out
      clear HA
      simp only [spec_rwRest.l0] at H
      replace H := Option.bind_eq_some_iff.mp H
      obtain ⟨t109, A20, H⟩ := H
      replace H : (if (t109.length : Int) > 0 then ((spec_rwTick.f k1 x0_1).bind fun t112 => (spec_rwRest.l0 k1 t112 (wrap64 (x4_1 + 1)))) else (some (x0_1, x4_1))) = some (r1, r2) := H
      have A2 := Aside0.mk A20
      clear A20
      by_cases c3 : (t109.length : Int) > 0
      · rw [if_pos c3] at H
        have c3b0 : decide (0 < (t109.length : Int)) = true := decide_eq_true c3
        have c3b1 : decide (0 < t109.length) = true := decide_eq_true (by omega)
        clear c3
        replace H := Option.bind_eq_some_iff.mp H
        obtain ⟨t112, A40, H⟩ := H
        replace H : (spec_rwRest.l0 k1 t112 (wrap64 (x4_1 + 1))) = some (r1, r2) := H
        have A4 := Aside0.mk A40
        clear A40
        have H' := Aside0.mk H
        clear H
        go_wp2_with (first | ((with_reducible refine gate_callee (f := 26) rfl ?_); refine goesL_ (some 6) rfl rfl Tryd.func26 (by kernel_rfl) rfl #[.string x0_1] rfl (by (try simp only [List.map_toArray, List.map_cons, List.map_nil]); first | done | rfl | (simp only [List.length_drop, List.length_take]; rfl)) ?_; (with_reducible refine (spec_rwPairs.calls k1 x0_1 t109 _ A2.out).mono ?_); rintro e w5 ⟨v110, rfl, ho0, hb⟩; refine ⟨_, rfl, ?_⟩; have n0_ := Aside0.mk (Kd.R_lower ho0 (below_size (by repeat (first | (with_reducible first | exact HB.out | apply below_alloc | apply pw_below_drewN | apply below_drew1) | exact HB.out)))); have n1_ := Aside0.mk (below_step (by repeat (first | (with_reducible first | exact HB.out | apply below_alloc | apply pw_below_drewN | apply below_drew1) | exact HB.out)) hb); clear HB; have HO111 := n0_; have HB := n1_; clear n0_ n1_; (try clear hb); (try clear hb2); (try clear hk); (try clear hi); (try clear ho0); obtain ⟨Ao6, co6, eo6⟩ := Kd.R_slice HO111.out; subst eo6) | ((with_reducible refine gate_callee (f := 23) rfl ?_); refine goesL_ (some 10) rfl rfl Tryd.func23 (by kernel_rfl) rfl #[.string x0_1] rfl (by (try simp only [List.map_toArray, List.map_cons, List.map_nil]); first | done | rfl | (simp only [List.length_drop, List.length_take]; rfl)) ?_; (with_reducible refine (spec_rwTick.calls k1 x0_1 t112 _ A4.out).mono ?_); rintro e w7 ⟨rfl, hb⟩; refine ⟨_, rfl, ?_⟩; have n0_ := Aside0.mk (Kd.R_below (by (with_reducible repeat (first | apply Kd.R_alloc | apply Kd.R_drewN | apply Kd.R_drew)); exact HO111.out) hb); have n1_ := Aside0.mk (below_step (by repeat (first | (with_reducible first | exact HB.out | apply below_alloc | apply pw_below_drewN | apply below_drew1) | exact HB.out)) hb); clear HO111; clear HB; have HO111 := n0_; have HB := n1_; clear n0_ n1_; (try clear hb); (try clear hb2); (try clear hk); (try clear hi)))
        go_roundg k1
        case measure => have := HK1.out; omega
        case rel => exact ⟨(t112), (wrap64 (x4_1 + 1)), (by first | rfl | (simp; done) | (simp [*]; done)), (by first | rfl | (simp; done) | (simp [*]; done)), H', ⟨by have := HK1.out; omega⟩, ⟨by repeat (first | (with_reducible first | exact HB.out | apply below_alloc | apply pw_below_drewN | apply below_drew1) | exact HB.out)⟩⟩
      · rw [if_neg c3] at H
        have c3b0 : decide (0 < (t109.length : Int)) = false := decide_eq_false c3
        have c3b1 : decide (0 < t109.length) = false := decide_eq_false (by omega)
        clear c3
        simp only [Option.some.injEq, Prod.mk.injEq] at H
        obtain ⟨rfl, rfl⟩ := H
        go_wp2_with (first | ((with_reducible refine gate_callee (f := 26) rfl ?_); refine goesL_ (some 6) rfl rfl Tryd.func26 (by kernel_rfl) rfl #[.string x0_1] rfl (by (try simp only [List.map_toArray, List.map_cons, List.map_nil]); first | done | rfl | (simp only [List.length_drop, List.length_take]; rfl)) ?_; (with_reducible refine (spec_rwPairs.calls k1 x0_1 t109 _ A2.out).mono ?_); rintro e w8 ⟨v110, rfl, ho0, hb⟩; refine ⟨_, rfl, ?_⟩; have n0_ := Aside0.mk (Kd.R_lower ho0 (below_size (by repeat (first | (with_reducible first | exact HB.out | apply below_alloc | apply pw_below_drewN | apply below_drew1) | exact HB.out)))); have n1_ := Aside0.mk (below_step (by repeat (first | (with_reducible first | exact HB.out | apply below_alloc | apply pw_below_drewN | apply below_drew1) | exact HB.out)) hb); clear HB; have HO111 := n0_; have HB := n1_; clear n0_ n1_; (try clear hb); (try clear hb2); (try clear hk); (try clear hi); (try clear ho0); obtain ⟨Ao9, co9, eo9⟩ := Kd.R_slice HO111.out; subst eo9))
        go_ret2
        exact ⟨by first | rfl | (simp [errW_none, errW_some] <;> rfl) | (simp [*, errW_none, errW_some] <;> rfl), by repeat (first | (with_reducible first | exact HB.out | apply below_alloc | apply pw_below_drewN | apply below_drew1) | exact HB.out)⟩

/-! ### spec_RestOf: function 14 -/
def spec_RestOf.f (k : Nat) (a0 : ByteArray) : Option (ByteArray × Bool) := (spec_rwGood.f k a0).bind fun t113 => (if t113 = true then ((spec_rwRest.f k a0).bind fun bt114 => (some (bt114.1, true))) else (some ((⟨#[]⟩ : ByteArray), false)))
theorem spec_RestOf.mono : ∀ a0 k, LeO (spec_RestOf.f k a0) (spec_RestOf.f (k + 1) a0) := by
  intro a0 k
  unfold spec_RestOf.f
  repeat' first
      | (with_reducible exact spec_rwGood.mono _ _)
      | (with_reducible exact spec_rwRest.mono _ _)
      | (with_reducible exact LeO.refl _)
      | (with_reducible exact LeO.none _)
      | (with_reducible refine LeO.ite ?_ ?_)
      | (with_reducible refine LeO.bind ?_ (fun _ => ?_))
      | exact spec_rwGood.mono _ _
      | exact spec_rwRest.mono _ _
      | exact LeO.none _
      | refine LeO.ite ?_ ?_
      | refine LeO.bind ?_ (fun _ => ?_)
set_option maxHeartbeats 8000000 in
set_option maxRecDepth 100000 in
theorem spec_RestOf.calls (k : Nat) (a0 : ByteArray) (r1 : ByteArray) (r2 : Bool) (w : World) (h : spec_RestOf.f k a0 = some (r1, r2)) :
    Calls Tryd.prog 14 #[.string a0] w fun e w' => e = .returned (.tuple #[.string r1, .bool r2]) ∧ Below w.heap.size w w' := by
  have HB := Aside0.mk (Below.refl w.heap.size w)
  have H : ((spec_rwGood.f k a0).bind fun t113 => (if t113 = true then ((spec_rwRest.f k a0).bind fun bt114 => (some (bt114.1, true))) else (some ((⟨#[]⟩ : ByteArray), false)))) = some (r1, r2) := h
  clear h
  replace H := Option.bind_eq_some_iff.mp H
  obtain ⟨t113, A20, H⟩ := H
  replace H : (if t113 = true then ((spec_rwRest.f k a0).bind fun bt114 => (some (bt114.1, true))) else (some ((⟨#[]⟩ : ByteArray), false))) = some (r1, r2) := H
  have A2 := Aside0.mk A20
  clear A20
  by_cases c3 : t113 = true
  · subst c3
    have H1 : ((spec_rwRest.f k a0).bind fun bt114 => (some (bt114.1, true))) = some (r1, r2) := by rw [if_pos rfl] at H; exact H
    clear H
    have H := H1
    clear H1
    replace H := Option.bind_eq_some_iff.mp H
    obtain ⟨⟨t114, t115⟩, A40, H⟩ := H
    replace H : (some (t114, true)) = some (r1, r2) := H
    have A4 := Aside0.mk A40
    clear A40
    simp only [Option.some.injEq, Prod.mk.injEq] at H
    obtain ⟨rfl, rfl⟩ := H
    go_enter Tryd.func14, Tryd.ntmps14
    go_wp2_with (first | ((with_reducible refine gate_callee (f := 18) rfl ?_); refine goesL_ (some 7) rfl rfl Tryd.func18 (by kernel_rfl) rfl #[.string a0] rfl (by (try simp only [List.map_toArray, List.map_cons, List.map_nil]); first | done | rfl | (simp only [List.length_drop, List.length_take]; rfl)) ?_; (with_reducible refine (spec_rwGood.calls k a0 true _ A2.out).mono ?_); rintro e w' ⟨rfl, ⟨nd, rfl⟩⟩; refine ⟨_, rfl, ?_⟩) | ((with_reducible refine gate_callee (f := 29) rfl ?_); refine goesL_ (some 11) rfl rfl Tryd.func29 (by kernel_rfl) rfl #[.string a0] rfl (by (try simp only [List.map_toArray, List.map_cons, List.map_nil]); first | done | rfl | (simp only [List.length_drop, List.length_take]; rfl)) ?_; (with_reducible refine (spec_rwRest.calls k a0 t114 t115 _ A4.out).mono ?_); rintro e w5 ⟨rfl, hb⟩; refine ⟨_, rfl, ?_⟩; have n0_ := Aside0.mk (below_step (by repeat (first | (with_reducible first | exact HB.out | apply below_alloc | apply pw_below_drewN | apply below_drew1) | exact HB.out)) hb); clear HB; have HB := n0_; clear n0_; (try clear hb); (try clear hb2); (try clear hk); (try clear hi)))
    go_ret2
    exact ⟨by first | rfl | (simp [errW_none, errW_some] <;> rfl) | (simp [*, errW_none, errW_some] <;> rfl), by repeat (first | (with_reducible first | exact HB.out | apply below_alloc | apply pw_below_drewN | apply below_drew1) | exact HB.out)⟩
  · replace c3 := Bool.eq_false_iff.mpr c3
    subst c3
    have H1 : (some ((⟨#[]⟩ : ByteArray), false)) = some (r1, r2) := by rw [if_neg (show ¬ (false = true) by decide)] at H; exact H
    clear H
    have H := H1
    clear H1
    simp only [Option.some.injEq, Prod.mk.injEq] at H
    obtain ⟨rfl, rfl⟩ := H
    go_enter Tryd.func14, Tryd.ntmps14
    go_wp2_with (first | ((with_reducible refine gate_callee (f := 18) rfl ?_); refine goesL_ (some 7) rfl rfl Tryd.func18 (by kernel_rfl) rfl #[.string a0] rfl (by (try simp only [List.map_toArray, List.map_cons, List.map_nil]); first | done | rfl | (simp only [List.length_drop, List.length_take]; rfl)) ?_; (with_reducible refine (spec_rwGood.calls k a0 false _ A2.out).mono ?_); rintro e w' ⟨rfl, ⟨nd, rfl⟩⟩; refine ⟨_, rfl, ?_⟩))
    go_ret2
    exact ⟨by first | rfl | (simp [errW_none, errW_some] <;> rfl) | (simp [*, errW_none, errW_some] <;> rfl), by repeat (first | (with_reducible first | exact HB.out | apply below_alloc | apply pw_below_drewN | apply below_drew1) | exact HB.out)⟩

/-! ### impl_in: function 27 -/
def impl_in.f (a0 : Int) (a1 : Int) (a2 : Int) : Option (Bool) := if a1 ≤ a0 then (some (decide (a0 ≤ a2))) else (some false)
set_option maxHeartbeats 8000000 in
set_option maxRecDepth 100000 in
theorem impl_in.calls (a0 : Int) (a1 : Int) (a2 : Int) (r : Bool) (w : World) (h : impl_in.f a0 a1 a2 = some r) :
    Calls Tryd.prog 27 #[.int .i64 a0, .int .i64 a1, .int .i64 a2] w fun e w' => e = .returned (.bool r) ∧ Drawn0 w w' := by
  have H : (if a1 ≤ a0 then (some (decide (a0 ≤ a2))) else (some false)) = some r := h
  clear h
  by_cases c4 : a1 ≤ a0
  · rw [if_pos c4] at H
    have c4b0 : decide (a1 ≤ a0) = true := decide_eq_true c4
    clear c4
    obtain rfl := Option.some.inj H
    go_enter Tryd.func27, Tryd.ntmps27
    go_wp2
    go_ret
    exact ⟨by first | rfl | (simp; done) | (simp [*]; done), by repeat (first | exact Drawn0.refl _ | apply Drawn0.step)⟩
  · rw [if_neg c4] at H
    have c4b0 : decide (a1 ≤ a0) = false := decide_eq_false c4
    clear c4
    obtain rfl := Option.some.inj H
    go_enter Tryd.func27, Tryd.ntmps27
    go_wp2
    go_ret
    exact ⟨by first | rfl | (simp; done) | (simp [*]; done), by repeat (first | exact Drawn0.refl _ | apply Drawn0.step)⟩

/-! ### impl_isRow: function 20 -/
/-- Is a text a row? -/
def rowB (s : ByteArray) : Bool := decide (1 ≤ s.size) && decide (s.size ≤ 60) && s.data.toList.all (fun b => b == 60 || b == 62)
def impl_isRow.f (a0 : ByteArray) : Option (Bool) := some (rowB a0)
theorem dropWhile_nil {p : UInt8 → Bool} : ∀ l : List UInt8, (l.dropWhile p).isEmpty = l.all p
  | [] => rfl
  | a :: t => by
    by_cases h : p a = true
    · rw [List.dropWhile_cons_of_pos h, dropWhile_nil t, List.all_cons, h, Bool.true_and]
    · rw [List.dropWhile_cons_of_neg h, List.all_cons, Bool.eq_false_iff.mpr h]; rfl
theorem trimS_all (l : List UInt8) : (Lib.trimS l [60, 62]).isEmpty = l.all (fun b => b == 60 || b == 62) := by
  have hc : (fun b : UInt8 => List.contains [60, 62] b) = fun b => b == 60 || b == 62 := by
    funext b
    simp only [List.contains, List.elem]
    cases h1 : b == 60 <;> cases h2 : b == 62 <;> rfl
  unfold Lib.trimS Lib.trimLeftS Lib.trimRightS
  rw [hc, dropWhile_nil]
  by_cases h : l.all (fun b => b == 60 || b == 62) = true
  · have h2 : (l.reverse.dropWhile fun b => b == 60 || b == 62).isEmpty = true := by
      rw [dropWhile_nil, List.all_reverse]; exact h
    rw [List.isEmpty_iff] at h2
    rw [h2, h]; rfl
  · have hne : ∃ x ∈ l, (x == 60 || x == 62) = false := by
      have h3 := h
      rw [Bool.not_eq_true, List.all_eq_false] at h3
      obtain ⟨x, hx, hp⟩ := h3
      exact ⟨x, hx, by simpa using hp⟩
    rw [Bool.eq_false_iff.mpr h, List.all_eq_false]
    have hr : ∀ t : List UInt8, (∃ x ∈ t, (x == 60 || x == 62) = false) → ∃ x ∈ t.dropWhile (fun b => b == 60 || b == 62), (x == 60 || x == 62) = false := by
      intro t
      induction t with
      | nil => intro ⟨x, hx, _⟩; cases hx
      | cons a t ih =>
        intro ⟨x, hx, hp⟩
        by_cases ha : (a == 60 || a == 62) = true
        · rw [show (a :: t).dropWhile (fun b => b == 60 || b == 62) = t.dropWhile (fun b => b == 60 || b == 62) from List.dropWhile_cons_of_pos (p := fun b => b == 60 || b == 62) ha]
          rcases List.mem_cons.1 hx with rfl | hx
          · rw [ha] at hp; cases hp
          · exact ih ⟨x, hx, hp⟩
        · rw [show (a :: t).dropWhile (fun b => b == 60 || b == 62) = a :: t from List.dropWhile_cons_of_neg (p := fun b => b == 60 || b == 62) ha]
          exact ⟨x, hx, hp⟩
    obtain ⟨x, hx, hp⟩ := hr l.reverse (by obtain ⟨x, hx, hp⟩ := hne; exact ⟨x, by simpa using hx, hp⟩)
    exact ⟨x, by simpa using hx, by simpa using hp⟩
set_option maxHeartbeats 1600000 in
set_option maxRecDepth 100000 in
theorem impl_isRow.calls (a0 : ByteArray) (r : Bool) (w : World) (h : impl_isRow.f a0 = some r) :
    Calls Tryd.prog 20 #[.string a0] w fun e w' => e = .returned (.bool r) ∧ Below w.heap.size w w' := by
  obtain rfl := Option.some.inj h
  clear h
  by_cases c1 : 1 ≤ a0.size ∧ a0.size ≤ 60
  · have hin := Aside0.mk (fun W => impl_in.calls (a0.size : Int) 1 60 true W (by
      unfold impl_in.f
      rw [if_pos (by omega)]
      simp; omega))
    have hcon := fun W : World => Any.strings_Trim_laid Tryd.lays160 (by kernel_rfl) a0 ⟨#[60, 62]⟩ W (by omega) (by decide) (ascii_of_all (by decide))
    have hT := Aside0.mk (fun W : World => (show Calls Tryd.prog 33 #[.string a0, .string ⟨#[60, 62]⟩] W (fun e w' => e = .returned (.string ⟨(Lib.trimS a0.data.toList [60, 62]).toArray⟩) ∧ Below W.heap.size W w') from hcon W))
    clear hcon
    have hv : Aside0 (rowB a0 = (Lib.trimS a0.data.toList [60, 62]).isEmpty) := ⟨by
      unfold rowB
      rw [decide_eq_true c1.1, decide_eq_true c1.2, trimS_all]; rfl⟩
    generalize Lib.trimS a0.data.toList [60, 62] = l at hT hv
    rw [hv.out]
    clear hv c1
    cases l with
    | nil =>
      go_enter Tryd.func20, Tryd.ntmps20
      go_wp2_with (first | (go_at_call 27; refine (hin.out _).mono ?_; rintro e w' ⟨rfl, ⟨nd, rfl⟩⟩) | (go_at_call 33; refine (hT.out _).mono ?_; rintro e w9 ⟨rfl, hb9⟩))
      go_ret
      exact ⟨by first | rfl | (simp; done), by first | exact hb9 | exact below_then (by repeat (first | exact Below.refl _ _ | apply pw_below_drewN | apply below_drew)) (by simp) hb9⟩
    | cons b l =>
      go_enter Tryd.func20, Tryd.ntmps20
      go_wp2_with (first | (go_at_call 27; refine (hin.out _).mono ?_; rintro e w' ⟨rfl, ⟨nd, rfl⟩⟩) | (go_at_call 33; refine (hT.out _).mono ?_; rintro e w9 ⟨rfl, hb9⟩))
      go_ret
      exact ⟨by first | rfl | (simp; done), by first | exact hb9 | exact below_then (by repeat (first | exact Below.refl _ _ | apply pw_below_drewN | apply below_drew)) (by simp) hb9⟩
  · have hin := Aside0.mk (fun W => impl_in.calls (a0.size : Int) 1 60 false W (by
      unfold impl_in.f
      split
      · simp; omega
      · rfl))
    have hv : Aside0 (rowB a0 = false) := ⟨by
      unfold rowB
      rcases Nat.lt_or_ge a0.size 1 with h | h
      · rw [decide_eq_false (show ¬ 1 ≤ a0.size by omega)]; rfl
      · rw [decide_eq_false (show ¬ a0.size ≤ 60 by omega)]; simp⟩
    rw [hv.out]
    clear hv c1
    go_enter Tryd.func20, Tryd.ntmps20
    go_wp2_with (go_at_call 27; refine (hin.out _).mono ?_; rintro e w' ⟨rfl, ⟨nd, rfl⟩⟩)
    go_ret
    exact ⟨rfl, by repeat (first | exact Below.refl _ _ | apply pw_below_drewN | apply below_drew)⟩

/-! ### impl_tick: function 24 -/
/-- All who face each other turn. -/
def tkB : List UInt8 → List UInt8
  | a :: b :: t => if (a == 62 && b == 60) = true then 60 :: 62 :: tkB t else a :: tkB (b :: t)
  | l => l
theorem prefix_two' (a b : UInt8) (t : List UInt8) : [62, 60].isPrefixOf (a :: b :: t) = (a == 62 && b == 60) := by
  have h1 : ((62 : UInt8) == a) = (a == 62) := BEq.comm
  have h2 : ((60 : UInt8) == b) = (b == 60) := BEq.comm
  simp only [List.isPrefixOf, Bool.and_true, h1, h2]
theorem prefix_one (a : UInt8) : [62, 60].isPrefixOf [a] = false := by simp [List.isPrefixOf]
theorem tk_miss : ∀ l : List UInt8, Lib.index l [62, 60] = -1 → tkB l = l
  | [], _ => rfl
  | [a], _ => rfl
  | a :: b :: t, h => by
    have hge := Lib.index_ge (b :: t) [62, 60]
    rw [Lib.index, prefix_two'] at h
    by_cases c : (a == 62 && b == 60) = true
    · rw [if_pos c] at h; omega
    · rw [if_neg c] at h
      have h2 : Lib.index (b :: t) [62, 60] = -1 := by
        by_cases h3 : Lib.index (b :: t) [62, 60] = -1
        · exact h3
        · rw [if_neg (by simpa using h3)] at h; omega
      rw [tkB, if_neg c, tk_miss (b :: t) h2]
theorem tk_hit : ∀ (l : List UInt8) (i : Nat), Lib.index l [62, 60] = (i : Int) → tkB l = l.take i ++ [60, 62] ++ tkB (l.drop (i + 2)) ∧ i + 2 ≤ l.length
  | [], i, h => by
    simp [Lib.index] at h
    try omega
  | [a], i, h => by
    rw [Lib.index, prefix_one] at h
    simp [Lib.index] at h
    try omega
  | a :: b :: t, i, h => by
    have hge := Lib.index_ge (b :: t) [62, 60]
    rw [Lib.index, prefix_two'] at h
    by_cases c : (a == 62 && b == 60) = true
    · rw [if_pos c] at h
      obtain rfl : i = 0 := by omega
      rw [tkB, if_pos c]
      simp
    · rw [if_neg c] at h
      by_cases h3 : Lib.index (b :: t) [62, 60] = -1
      · rw [if_pos (by simp [h3])] at h; omega
      · rw [if_neg (by simpa using h3)] at h
        obtain ⟨j, rfl⟩ : ∃ j, i = j + 1 := ⟨i - 1, by omega⟩
        have ih := tk_hit (b :: t) j (by omega)
        rw [tkB, if_neg c, ih.1]
        refine ⟨by simp, by have := ih.2; simp at this ⊢; omega⟩
theorem tk_replace : ∀ (f : Nat) (l : List UInt8), l.length < f → Lib.replaceK [62, 60] [60, 62] (Lib.countFrom [62, 60] f l) l = tkB l
  | 0, l, h => by omega
  | f + 1, l, h => by
    have hge := Lib.index_ge l [62, 60]
    by_cases h1 : Lib.index l [62, 60] = -1
    · rw [Lib.countFrom, if_pos (by simp [h1]), Lib.replaceK, tk_miss l h1]
    · obtain ⟨i, hi⟩ : ∃ i : Nat, Lib.index l [62, 60] = (i : Int) := ⟨(Lib.index l [62, 60]).toNat, by omega⟩
      have hh := tk_hit l i hi
      rw [Lib.countFrom, if_neg (by simpa using h1), Nat.add_comm, Lib.replaceK_hit _ _ _ _ i hi, hh.1, hi]
      congr 1
      exact tk_replace f (l.drop (i + 2)) (by rw [List.length_drop]; omega)
theorem tk_all (l : List UInt8) : Lib.replaceAll l [62, 60] [60, 62] = tkB l := by
  unfold Lib.replaceAll Lib.replace
  rw [if_neg (by decide)]
  unfold Lib.replaceNum
  rw [if_pos (Or.inl (by decide))]
  exact tk_replace (l.length + 1) l (by omega)
def impl_tick.f (a0 : ByteArray) : Option (ByteArray) := if a0.size < 1000000 then some ⟨(tkB a0.data.toList).toArray⟩ else none
set_option maxHeartbeats 1600000 in
set_option maxRecDepth 100000 in
theorem impl_tick.calls (a0 : ByteArray) (r : ByteArray) (w : World) (h : impl_tick.f a0 = some r) (hML : ML w) :
    Calls Tryd.prog 24 #[.string a0] w fun e w' => e = .returned (.string r) ∧ Below w.heap.size w w' := by
  unfold impl_tick.f at h
  by_cases c : a0.size < 1000000
  · rw [if_pos c] at h
    obtain rfl := Option.some.inj h
    obtain ⟨⟨m, hm⟩, _⟩ := hML
    have hcnt := Lib.countB_le ⟨#[62, 60]⟩ (by decide) a0.size a0 (Nat.le_refl _)
    have hC := Aside0.mk (show Calls Tryd.prog 36 #[.string a0, .string ⟨#[62, 60]⟩, .string ⟨#[60, 62]⟩] w (fun e w' => e = .returned (.string ⟨(Lib.replaceAll a0.data.toList [62, 60] [60, 62]).toArray⟩) ∧ Below w.heap.size w w') from Any.strings_ReplaceAll Tryd.lays155 Tryd.Builder_Extra_155 a0 ⟨#[62, 60]⟩ ⟨#[60, 62]⟩ m w (by omega) hm (by decide) (by
      have : (⟨#[60, 62]⟩ : ByteArray).size = 2 := rfl
      rw [this]; omega))
    rw [← tk_all]
    generalize (⟨(Lib.replaceAll a0.data.toList [62, 60] [60, 62]).toArray⟩ : ByteArray) = r at hC
    clear c hm hcnt
    go_enter Tryd.func24, Tryd.ntmps24
    go_wp2_with (go_at_call 36; refine hC.out.mono ?_; rintro e w' ⟨rfl, hB⟩)
    go_ret
    exact ⟨rfl, hB⟩
  · rw [if_neg c] at h
    exact absurd h (by simp)

/-! ### impl_isAtRest: function 28 -/
/-- Do two face each other? -/
def hasB : List UInt8 → Bool
  | a :: b :: t => (a == 62 && b == 60) || hasB (b :: t)
  | _ => false
theorem prefix_two (a : UInt8) (l : List UInt8) : [62, 60].isPrefixOf (a :: l) = (a == 62 && (match l with | b :: _ => b == 60 | [] => false)) := by
  have h1 : ((62 : UInt8) == a) = (a == 62) := BEq.comm
  cases l with
  | nil => simp only [List.isPrefixOf, h1]
  | cons b t =>
    have h2 : ((60 : UInt8) == b) = (b == 60) := BEq.comm
    simp only [List.isPrefixOf, Bool.and_true, h1, h2]
theorem index_two : ∀ l : List UInt8, decide (0 ≤ Lib.index l [62, 60]) = hasB l
  | [] => by simp [Lib.index, hasB]
  | [a] => by simp [Lib.index, hasB, prefix_two]
  | a :: b :: t => by
    have ih := index_two (b :: t)
    have hge := Lib.index_ge (b :: t) [62, 60]
    rw [Lib.index, prefix_two]
    simp only [hasB]
    by_cases h : (a == 62 && b == 60) = true
    · rw [if_pos h, h]; simp
    · rw [if_neg h, Bool.eq_false_iff.mpr h, Bool.false_or, ← ih]
      by_cases h2 : Lib.index (b :: t) [62, 60] = -1
      · rw [if_pos (by simp [h2]), h2]
      · rw [if_neg (by simpa using h2)]
        rw [decide_eq_decide]
        omega
def impl_isAtRest.f (a0 : ByteArray) : Option (Bool) := if a0.size < 4294967281 then some (!hasB a0.data.toList) else none
set_option maxHeartbeats 1600000 in
set_option maxRecDepth 100000 in
theorem impl_isAtRest.calls (a0 : ByteArray) (r : Bool) (w : World) (h : impl_isAtRest.f a0 = some r) (hML : ML w) :
    Calls Tryd.prog 28 #[.string a0] w fun e w' => e = .returned (.bool r) ∧ Drawn0 w w' := by
  unfold impl_isAtRest.f at h
  by_cases c : a0.size < 4294967281
  · rw [if_pos c] at h
    obtain rfl := Option.some.inj h
    obtain ⟨⟨m, hm⟩, _⟩ := hML
    have hC := Aside0.mk (show Calls Tryd.prog 37 #[.string a0, .string ⟨#[62, 60]⟩] w (fun e w' => e = .returned (.bool (Lib.contains a0.data.toList [62, 60])) ∧ w' = w) from Any.strings_Contains Tryd.lays144 a0 ⟨#[62, 60]⟩ m w c hm)
    have hv : Aside0 (Lib.contains a0.data.toList [62, 60] = hasB a0.data.toList) := ⟨index_two _⟩
    rw [← hv.out]
    clear hv
    generalize Lib.contains a0.data.toList [62, 60] = b at hC
    clear c hm
    go_enter Tryd.func28, Tryd.ntmps28
    go_wp2_with (go_at_call 37; refine hC.out.mono ?_; rintro e w' ⟨rfl, rfl⟩)
    go_ret
    exact ⟨rfl, Drawn0.refl _⟩
  · rw [if_neg c] at h
    exact absurd h (by simp)

end Go.Proofs.YthaajflhjblkeabDoor.PFnExactRestOf
