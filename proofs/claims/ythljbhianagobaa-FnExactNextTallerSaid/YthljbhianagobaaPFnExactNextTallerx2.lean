/- A text of this session for the law FnExactNextTaller of the seat Ythljbhianagobaa: the functions that the law uses and their walks. -/
import Derived.Test.YthljbhianagobaaPFnExactNextTallerx0
import Derived.Test.YthljbhianagobaaPFnExactNextTallerx1
namespace Go.Proofs.Ythljbhianagobaa.PFnExactNextTaller
open Go.RowKit Go.Proofs.YthljbhianagobaaW.PrintWords Go.Proofs.YthljbhianagobaaW.PrintLast Go.Proofs.YthljbhianagobaaW.PrintMore
attribute [local go_sem] max2_int min2_int max_two min_two max_three min_three max_four min_four   -- for this text's walks alone
set_option linter.unusedVariables false
set_option linter.unusedSimpArgs false

/-! ### spec_NextTaller: function 19 -/
mutual
def spec_NextTaller.l0 : Nat → List Int → List Int → List Int → Int → Int → Option (List Int × Bool)
  | 0, _, _, _, _, _ => none
  | k + 1, x0, x4, x12, x13, x14 => if x14 < x13 then (if 0 ≤ x14 then (if x14 < (x12.length : Int) then (spec_NextTaller.l1 k x0 x4 (rd x12 x14) (-1) (wrap64 (x14 + 1)) x12 x13 x14) else (none)) else (none)) else (some (x4, true))
def spec_NextTaller.l1 : Nat → List Int → List Int → Int → Int → Int → List Int → Int → Int → Option (List Int × Bool)
  | 0, _, _, _, _, _, _, _, _ => none
  | k + 1, x0, x4, x6, x7, x8, x12, x13, x14 => if x8 < (x0.length : Int) then (spec_NextTaller.j2 k x0 x4 x6 x7 x8 x12 x13 x14 (decide (x7 < 0))) else (spec_NextTaller.j2 k x0 x4 x6 x7 x8 x12 x13 x14 false)
def spec_NextTaller.j2 : Nat → List Int → List Int → Int → Int → Int → List Int → Int → Int → Bool → Option (List Int × Bool)
  | 0, _, _, _, _, _, _, _, _, _ => none
  | k + 1, x0, x4, x6, x7, x8, x12, x13, x14, x28 => if x28 = true then (if 0 ≤ x8 then (if x8 < (x0.length : Int) then (if (rd x0 x8) > x6 then (spec_NextTaller.l1 k x0 x4 x6 x8 (wrap64 (x8 + 1)) x12 x13 x14) else (spec_NextTaller.l1 k x0 x4 x6 x7 (wrap64 (x8 + 1)) x12 x13 x14)) else (none)) else (none)) else (if x4.length < 17592186044416 then (spec_NextTaller.l0 k x0 (x4 ++ [x7]) x12 x13 (wrap64 (x14 + 1))) else (none))
end
def spec_NextTaller.f (k : Nat) (l0 : List Int) : Option (List Int × Bool) := (spec_heGood.f k l0).bind fun t114 => (if t114 = true then (spec_NextTaller.l0 k l0 ([] : List Int) l0 (l0.length : Int) 0) else (some (([] : List Int), false)))
theorem spec_NextTaller.mono_l : ∀ k, (∀ y0 y1 y2 y3 y4, LeO (spec_NextTaller.l0 k y0 y1 y2 y3 y4) (spec_NextTaller.l0 (k + 1) y0 y1 y2 y3 y4)) ∧ (∀ y0 y1 y2 y3 y4 y5 y6 y7, LeO (spec_NextTaller.l1 k y0 y1 y2 y3 y4 y5 y6 y7) (spec_NextTaller.l1 (k + 1) y0 y1 y2 y3 y4 y5 y6 y7)) ∧ (∀ y0 y1 y2 y3 y4 y5 y6 y7 y8, LeO (spec_NextTaller.j2 k y0 y1 y2 y3 y4 y5 y6 y7 y8) (spec_NextTaller.j2 (k + 1) y0 y1 y2 y3 y4 y5 y6 y7 y8))
  | 0 => ⟨fun _ _ _ _ _ r h => by simp [spec_NextTaller.l0] at h, fun _ _ _ _ _ _ _ _ r h => by simp [spec_NextTaller.l1] at h, fun _ _ _ _ _ _ _ _ _ r h => by simp [spec_NextTaller.j2] at h⟩
  | k + 1 => by
    obtain ⟨ih0, ih1, ih2⟩ := spec_NextTaller.mono_l k
    refine ⟨?_, ?_, ?_⟩
    · intro y0 y1 y2 y3 y4
      unfold spec_NextTaller.l0
      repeat' first
      | (with_reducible exact ih0 _ _ _ _ _)
      | (with_reducible exact ih1 _ _ _ _ _ _ _ _)
      | (with_reducible exact ih2 _ _ _ _ _ _ _ _ _)
      | (with_reducible exact spec_heGood.mono _ _)
      | (with_reducible exact LeO.refl _)
      | (with_reducible exact LeO.none _)
      | (with_reducible refine LeO.ite ?_ ?_)
      | (with_reducible refine LeO.bind ?_ (fun _ => ?_))
      | exact ih0 _ _ _ _ _
      | exact ih1 _ _ _ _ _ _ _ _
      | exact ih2 _ _ _ _ _ _ _ _ _
      | exact spec_heGood.mono _ _
      | exact LeO.none _
      | refine LeO.ite ?_ ?_
      | refine LeO.bind ?_ (fun _ => ?_)
    · intro y0 y1 y2 y3 y4 y5 y6 y7
      unfold spec_NextTaller.l1
      repeat' first
      | (with_reducible exact ih0 _ _ _ _ _)
      | (with_reducible exact ih1 _ _ _ _ _ _ _ _)
      | (with_reducible exact ih2 _ _ _ _ _ _ _ _ _)
      | (with_reducible exact spec_heGood.mono _ _)
      | (with_reducible exact LeO.refl _)
      | (with_reducible exact LeO.none _)
      | (with_reducible refine LeO.ite ?_ ?_)
      | (with_reducible refine LeO.bind ?_ (fun _ => ?_))
      | exact ih0 _ _ _ _ _
      | exact ih1 _ _ _ _ _ _ _ _
      | exact ih2 _ _ _ _ _ _ _ _ _
      | exact spec_heGood.mono _ _
      | exact LeO.none _
      | refine LeO.ite ?_ ?_
      | refine LeO.bind ?_ (fun _ => ?_)
    · intro y0 y1 y2 y3 y4 y5 y6 y7 y8
      unfold spec_NextTaller.j2
      repeat' first
      | (with_reducible exact ih0 _ _ _ _ _)
      | (with_reducible exact ih1 _ _ _ _ _ _ _ _)
      | (with_reducible exact ih2 _ _ _ _ _ _ _ _ _)
      | (with_reducible exact spec_heGood.mono _ _)
      | (with_reducible exact LeO.refl _)
      | (with_reducible exact LeO.none _)
      | (with_reducible refine LeO.ite ?_ ?_)
      | (with_reducible refine LeO.bind ?_ (fun _ => ?_))
      | exact ih0 _ _ _ _ _
      | exact ih1 _ _ _ _ _ _ _ _
      | exact ih2 _ _ _ _ _ _ _ _ _
      | exact spec_heGood.mono _ _
      | exact LeO.none _
      | refine LeO.ite ?_ ?_
      | refine LeO.bind ?_ (fun _ => ?_)
theorem spec_NextTaller.mono : ∀ a0 k, LeO (spec_NextTaller.f k a0) (spec_NextTaller.f (k + 1) a0) := by
  intro a0 k
  obtain ⟨ih0, ih1, ih2⟩ := spec_NextTaller.mono_l k
  unfold spec_NextTaller.f
  repeat' first
      | (with_reducible exact ih0 _ _ _ _ _)
      | (with_reducible exact ih1 _ _ _ _ _ _ _ _)
      | (with_reducible exact ih2 _ _ _ _ _ _ _ _ _)
      | (with_reducible exact spec_heGood.mono _ _)
      | (with_reducible exact LeO.refl _)
      | (with_reducible exact LeO.none _)
      | (with_reducible refine LeO.ite ?_ ?_)
      | (with_reducible refine LeO.bind ?_ (fun _ => ?_))
      | exact ih0 _ _ _ _ _
      | exact ih1 _ _ _ _ _ _ _ _
      | exact ih2 _ _ _ _ _ _ _ _ _
      | exact spec_heGood.mono _ _
      | exact LeO.none _
      | refine LeO.ite ?_ ?_
      | refine LeO.bind ?_ (fun _ => ?_)
set_option maxHeartbeats 8000000 in
set_option maxRecDepth 100000 in
theorem spec_NextTaller.calls (k : Nat) (A0 : Option Addr) (c0 : Nat) (l0 : List Int) (r1 : List Int) (r2 : Bool) (w : World) (hr0 : Kd.C (Kd.int .i64) w A0 l0.length l0) (hc0 : l0.length ≤ c0) (h : spec_NextTaller.f k l0 = some (r1, r2)) :
    Calls Try.prog 19 #[.slice A0 l0.length c0] w fun e w' => ∃ v0_ : Value, e = .returned (.tuple #[v0_, .bool r2]) ∧ Kd.R (Kd.int .i64) 3 w' w.heap.size (fun _ => True) v0_ r1 ∧ Below w.heap.size w w' := by
  have HR0 := Aside0.mk hr0
  have HC0 := Aside0.mk hc0
  clear hr0 hc0
  have HB := Aside0.mk (Below.refl w.heap.size w)
  have H : ((spec_heGood.f k l0).bind fun t114 => (if t114 = true then (spec_NextTaller.l0 k l0 ([] : List Int) l0 (l0.length : Int) 0) else (some (([] : List Int), false)))) = some (r1, r2) := h
  clear h
  replace H := Option.bind_eq_some_iff.mp H
  obtain ⟨t114, A20, H⟩ := H
  replace H : (if t114 = true then (spec_NextTaller.l0 k l0 ([] : List Int) l0 (l0.length : Int) 0) else (some (([] : List Int), false))) = some (r1, r2) := H
  have A2 := Aside0.mk A20
  clear A20
  by_cases c3 : t114 = true
  · subst c3
    have H1 : (spec_NextTaller.l0 k l0 ([] : List Int) l0 (l0.length : Int) 0) = some (r1, r2) := by rw [if_pos rfl] at H; exact H
    clear H
    have H := H1
    clear H1
    have H' := Aside0.mk H
    clear H
    go_enter Try.func19, Try.ntmps19
    go_wp2_with (first | ((with_reducible refine gate_callee (f := 25) rfl ?_); refine goesL_ (some 10) rfl rfl Try.func25 (by kernel_rfl) rfl #[.slice A0 l0.length c0] rfl (by (try simp only [List.map_toArray, List.map_cons, List.map_nil]); first | done | rfl | (simp only [List.length_drop, List.length_take]; rfl)) ?_; (with_reducible refine (spec_heGood.calls k _ _ l0 true _ ?side1 ?side2 A2.out).mono ?_); (case side1 => repeat (first | exact HR0.out | (with_reducible refine Kd.C_alloc ?_ _) | (with_reducible refine Kd.C_drewN ?_ _) | (with_reducible refine Kd.C_drew ?_))); (case side2 => exact HC0.out); rintro e w' ⟨rfl, ⟨nd, rfl⟩⟩; refine ⟨_, rfl, ?_⟩))
    go_loopg [4, 14] k (fun kq v4 v14 w' => ∃ (x4_1 : List Int) (x14_1 : Int), v14 = .int .i64 x14_1 ∧ Aside0 (spec_NextTaller.l0 kq l0 x4_1 l0 (l0.length : Int) x14_1 = some (r1, r2)) ∧ Aside0 (kq ≤ k) ∧ Aside0 (Kd.R (Kd.int .i64) 3 w' w.heap.size (fun _ => True) v4 x4_1) ∧ Aside0 (Below w.heap.size w w'))
    case atStart => exact ⟨(([] : List Int)), (0), (by first | rfl | (simp; done) | (simp [*]; done)), H', ⟨Nat.le_refl _⟩, ⟨by first | exact Kd.R_nil _ _ _ _ _ | exact Kd.N_nil _ _ _ _ _ | exact Kd.V_nil _ _ _ _ _ | exact Kd.Q_nil _ _ _ _ _ | exact Kd.S_nil _ _ _ _ _⟩, ⟨by repeat (first | (with_reducible first | exact HB.out | apply below_alloc | apply pw_below_drewN | apply below_drew1) | exact HB.out)⟩⟩
    case round =>
      clear H'
      try clear c1
      try clear c2
      try clear p2
      try clear c3
      obtain ⟨x4_1, x14_1, rfl, HA, HK1, HO_4, HB⟩ := hrel
      cases gk with
      | zero => exact absurd HA.out (by simp [spec_NextTaller.l0])
      | succ k1 =>
        have H := HA.out
        clear HA
        simp only [spec_NextTaller.l0] at H
        by_cases c4 : x14_1 < (l0.length : Int)
        · rw [if_pos c4] at H
          have c4b0 : decide (x14_1 < (l0.length : Int)) = true := decide_eq_true c4
          clear c4
          by_cases c5 : 0 ≤ x14_1
          · rw [if_pos c5] at H
            have c5b0 : decide (0 ≤ x14_1) = true := decide_eq_true c5
            clear c5
            by_cases c6 : x14_1 < (l0.length : Int)
            · rw [if_pos c6] at H
              have c6b0 : decide (x14_1 < (l0.length : Int)) = true := decide_eq_true c6
              clear c6
              have H' := Aside0.mk H
              clear H
              have p115 : 0 ≤ (x14_1 : Int) := of_decide_eq_true (by first | (with_reducible assumption) | assumption)
              have q115 : x14_1 < (l0.length : Int) := of_decide_eq_true (by first | (with_reducible assumption) | assumption)
              obtain ⟨ad115, e115, hx115_0⟩ := Kd.at_int HR0.out x14_1 p115 q115
              cases e115
              replace hx115_0 := (HB.out.cell (World.block_lt_of_cell? w _ hx115_0)).trans hx115_0
              replace p115 := eq_true p115
              replace q115 := eq_true q115
              go_wp2
              go_loopg [7, 8] k1 (fun kq v7 v8 w' => ∃ (x7_2 : Int) (x8_2 : Int), v7 = .int .i64 x7_2 ∧ v8 = .int .i64 x8_2 ∧ Aside0 (spec_NextTaller.l1 kq l0 x4_1 (rd l0 x14_1) x7_2 x8_2 l0 (l0.length : Int) x14_1 = some (r1, r2)) ∧ Aside0 (kq ≤ k1) ∧ Aside0 (Kd.R (Kd.int .i64) 3 w' w.heap.size (fun _ => True) u4 x4_1) ∧ Aside0 (Below w.heap.size w w'))
              case atStart => exact ⟨((-1)), (wrap64 (x14_1 + 1)), (by first | rfl | (simp; done) | (simp [*]; done)), (by first | rfl | (simp; done) | (simp [*]; done)), H', ⟨Nat.le_refl _⟩, ⟨by (with_reducible repeat (first | apply Kd.R_alloc | apply Kd.R_drewN | apply Kd.R_drew)); exact HO_4.out⟩, ⟨by repeat (first | (with_reducible first | exact HB.out | apply below_alloc | apply pw_below_drewN | apply below_drew1) | exact HB.out)⟩⟩
              case round =>
                clear H'
                try clear c1
                try clear p1
                try clear q1
                try clear hx1
                try clear c2
                try clear p2
                try clear c3
                try clear c4
                try clear c4b0
                try clear c5
                try clear c5b0
                try clear c6
                try clear c6b0
                try clear p6
                try clear hx115_0
                try clear p115
                try clear p2
                try clear q115
                obtain ⟨x7_2, x8_2, rfl, rfl, HA, HK2, HO_4, HB⟩ := hrel
                cases gk with
                | zero => exact absurd HA.out (by simp [spec_NextTaller.l1])
                | succ k2 =>
                  have H := HA.out
                  clear HA
                  simp only [spec_NextTaller.l1] at H
                  have HC7 := Aside0.mk H
                  clear H
                  go_upto_region 9 with (fail)
                  go_cut [28] (fun v28 wc => ∃ (kq : Nat) (x28_6 : Bool), v28 = .bool x28_6 ∧ Aside0 (spec_NextTaller.j2 kq l0 x4_1 (rd l0 x14_1) x7_2 x8_2 l0 (l0.length : Int) x14_1 x28_6 = some (r1, r2)) ∧ Aside0 (kq ≤ k2) ∧ Aside0 (Kd.R (Kd.int .i64) 3 wc w.heap.size (fun _ => True) u4 x4_1) ∧ Aside0 (Below w.heap.size w wc))
                  case first =>
                    have H := HC7.out
                    clear HC7
                    by_cases c8 : x8_2 < (l0.length : Int)
                    · rw [if_pos c8] at H
                      have c8b0 : decide (x8_2 < (l0.length : Int)) = true := decide_eq_true c8
                      clear c8
                      (first | rw [c8b0] | (simp only [i64_w, i32_w]; rw [c8b0]) | skip)
                      have H' := Aside0.mk H
                      clear H
                      go_wp2
                      go_meet
                      case rel => exact ⟨_, (decide (x7_2 < 0)), (by first | rfl | (simp; done) | (simp [*]; done)), H', ⟨by have := HK1.out; have := HK2.out; first | omega | exact Nat.le_refl _⟩, ⟨by (with_reducible repeat (first | apply Kd.R_alloc | apply Kd.R_drewN | apply Kd.R_drew)); exact HO_4.out⟩, ⟨by repeat (first | (with_reducible first | exact HB.out | apply below_alloc | apply pw_below_drewN | apply below_drew1) | exact HB.out)⟩⟩
                    · rw [if_neg c8] at H
                      have c8b0 : decide (x8_2 < (l0.length : Int)) = false := decide_eq_false c8
                      clear c8
                      (first | rw [c8b0] | (simp only [i64_w, i32_w]; rw [c8b0]) | skip)
                      have H' := Aside0.mk H
                      clear H
                      go_wp2
                      go_meet
                      case rel => exact ⟨_, (false), (by first | rfl | (simp; done) | (simp [*]; done)), H', ⟨by have := HK1.out; have := HK2.out; first | omega | exact Nat.le_refl _⟩, ⟨by (with_reducible repeat (first | apply Kd.R_alloc | apply Kd.R_drewN | apply Kd.R_drew)); exact HO_4.out⟩, ⟨by repeat (first | (with_reducible first | exact HB.out | apply below_alloc | apply pw_below_drewN | apply below_drew1) | exact HB.out)⟩⟩
                  case rest =>
                    clear HC7
                    try clear c1
                    try clear p1
                    try clear q1
                    try clear hx1
                    try clear c2
                    try clear p2
                    try clear c3
                    try clear c4
                    try clear c4b0
                    try clear c5
                    try clear c5b0
                    try clear c6
                    try clear c6b0
                    try clear p6
                    try clear c8
                    try clear c8b0
                    try clear hx115_0
                    try clear p1
                    try clear p115
                    try clear p2
                    try clear p6
                    try clear q1
                    try clear q115
                    obtain ⟨kq, x28_6, rfl, HA, HJ6, HO_4, HB⟩ := hcut
                    cases kq with
                    | zero => exact absurd HA.out (by simp [spec_NextTaller.j2])
                    | succ kj6 =>
                      have H := HA.out
                      clear HA
                      simp only [spec_NextTaller.j2] at H
                      by_cases c9 : x28_6 = true
                      · subst c9
                        have H1 : (if 0 ≤ x8_2 then (if x8_2 < (l0.length : Int) then (if (rd l0 x8_2) > (rd l0 x14_1) then (spec_NextTaller.l1 kj6 l0 x4_1 (rd l0 x14_1) x8_2 (wrap64 (x8_2 + 1)) l0 (l0.length : Int) x14_1) else (spec_NextTaller.l1 kj6 l0 x4_1 (rd l0 x14_1) x7_2 (wrap64 (x8_2 + 1)) l0 (l0.length : Int) x14_1)) else (none)) else (none)) = some (r1, r2) := by rw [if_pos rfl] at H; exact H
                        clear H
                        have H := H1
                        clear H1
                        by_cases c10 : 0 ≤ x8_2
                        · rw [if_pos c10] at H
                          have c10b0 : decide (0 ≤ x8_2) = true := decide_eq_true c10
                          clear c10
                          by_cases c11 : x8_2 < (l0.length : Int)
                          · rw [if_pos c11] at H
                            have c11b0 : decide (x8_2 < (l0.length : Int)) = true := decide_eq_true c11
                            clear c11
                            by_cases c12 : (rd l0 x8_2) > (rd l0 x14_1)
                            · rw [if_pos c12] at H
                              have c12b0 : decide ((rd l0 x14_1) < (rd l0 x8_2)) = true := decide_eq_true c12
                              clear c12
                              have H' := Aside0.mk H
                              clear H
                              have p116 : 0 ≤ (x8_2 : Int) := of_decide_eq_true (by first | (with_reducible assumption) | assumption)
                              have q116 : x8_2 < (l0.length : Int) := of_decide_eq_true (by first | (with_reducible assumption) | assumption)
                              obtain ⟨ad116, e116, hx116_0⟩ := Kd.at_int HR0.out x8_2 p116 q116
                              obtain rfl : ad115 = ad116 := (by injection e116)
                              replace hx116_0 := (HB.out.cell (World.block_lt_of_cell? w _ hx116_0)).trans hx116_0
                              replace p116 := eq_true p116
                              replace q116 := eq_true q116
                              go_wp2
                              go_roundg kj6
                              case measure => have := HK1.out; have := HK2.out; have := HJ6.out; omega
                              case rel => exact ⟨(x8_2), (wrap64 (x8_2 + 1)), (by first | rfl | (simp; done) | (simp [*]; done)), (by first | rfl | (simp; done) | (simp [*]; done)), H', ⟨by have := HK1.out; have := HK2.out; have := HJ6.out; omega⟩, ⟨by (with_reducible repeat (first | apply Kd.R_alloc | apply Kd.R_drewN | apply Kd.R_drew)); exact HO_4.out⟩, ⟨by repeat (first | (with_reducible first | exact HB.out | apply below_alloc | apply pw_below_drewN | apply below_drew1) | exact HB.out)⟩⟩
                            · rw [if_neg c12] at H
                              have c12b0 : decide ((rd l0 x14_1) < (rd l0 x8_2)) = false := decide_eq_false c12
                              clear c12
                              have H' := Aside0.mk H
                              clear H
                              have p116 : 0 ≤ (x8_2 : Int) := of_decide_eq_true (by first | (with_reducible assumption) | assumption)
                              have q116 : x8_2 < (l0.length : Int) := of_decide_eq_true (by first | (with_reducible assumption) | assumption)
                              obtain ⟨ad116, e116, hx116_0⟩ := Kd.at_int HR0.out x8_2 p116 q116
                              obtain rfl : ad115 = ad116 := (by injection e116)
                              replace hx116_0 := (HB.out.cell (World.block_lt_of_cell? w _ hx116_0)).trans hx116_0
                              replace p116 := eq_true p116
                              replace q116 := eq_true q116
                              go_wp2
                              go_roundg kj6
                              case measure => have := HK1.out; have := HK2.out; have := HJ6.out; omega
                              case rel => exact ⟨(x7_2), (wrap64 (x8_2 + 1)), (by first | rfl | (simp; done) | (simp [*]; done)), (by first | rfl | (simp; done) | (simp [*]; done)), H', ⟨by have := HK1.out; have := HK2.out; have := HJ6.out; omega⟩, ⟨by (with_reducible repeat (first | apply Kd.R_alloc | apply Kd.R_drewN | apply Kd.R_drew)); exact HO_4.out⟩, ⟨by repeat (first | (with_reducible first | exact HB.out | apply below_alloc | apply pw_below_drewN | apply below_drew1) | exact HB.out)⟩⟩
                          · rw [if_neg c11] at H
                            exact absurd H (by simp)
                        · rw [if_neg c10] at H
                          exact absurd H (by simp)
                      · replace c9 := Bool.eq_false_iff.mpr c9
                        subst c9
                        have H1 : (if x4_1.length < 17592186044416 then (spec_NextTaller.l0 kj6 l0 (x4_1 ++ [x7_2]) l0 (l0.length : Int) (wrap64 (x14_1 + 1))) else (none)) = some (r1, r2) := by rw [if_neg (show ¬ (false = true) by decide)] at H; exact H
                        clear H
                        have H := H1
                        clear H1
                        by_cases c13 : x4_1.length < 17592186044416
                        · rw [if_pos c13] at H
                          have LMc13 := Aside0.mk c13
                          clear c13
                          obtain ⟨y117, hy117⟩ : ∃ y_ : List Int, y_ = (x4_1 ++ [x7_2]) := ⟨_, rfl⟩
                          replace H : (spec_NextTaller.l0 kj6 l0 y117 l0 (l0.length : Int) (wrap64 (x14_1 + 1))) = some (r1, r2) := by first | (rw [hy117]; with_reducible exact H) | (have H2_ := (Option.bind_some _ _).symm.trans H; rw [hy117]; with_reducible exact H2_) | (have H2_ := (Option.bind_some _ _).symm.trans H; with_reducible exact H2_) | with_reducible exact H | (rw [hy117]; exact H) | exact H
                          have Ny117 := Aside0.mk hy117
                          clear hy117
                          have H' := Aside0.mk H
                          clear H
                          go_wp2_with (first | ((with_reducible refine gate_builtin (b := .append) (xs := #[.tmp 38, .tmp 40]) rfl ?_); at_builtin; refine Kd.R_append (Kd.int .i64) (w0 := w) w.heap.size rfl (.tmp 38) (.tmp 40) 22 3 (.int .i64 0) 8 rfl Try.underlying22 info3 rfl (by decide) (by omega) u4 x4_1 x7_2 [.int .i64 x7_2] (fun _ => True) (fun _ => False) rfl rfl ?aP (fun _ hk => hk.elim) ?aF ?aO ?aB ?aS ?aL ?_; (case aP => exact rfl); (case aB => exact (by repeat (first | (with_reducible first | exact HB.out | apply below_alloc | apply pw_below_drewN | apply below_drew1) | exact HB.out))); (case aF => exact (fun _ _ => trivial)); (case aO => exact (by (with_reducible repeat (first | apply Kd.R_alloc | apply Kd.R_drewN | apply Kd.R_drew)); exact HO_4.out)); (case aS => exact (below_size (by repeat (first | (with_reducible first | exact HB.out | apply below_alloc | apply pw_below_drewN | apply below_drew1) | exact HB.out)))); (case aL => have := LMc13.out; omega); intro v118 w14 ho hb hg hat; rw [← Ny117.out] at ho; have n0_ := Aside0.mk (hb); have n1_ := Aside0.mk (ho); clear HB; clear HO_4; have HB := n0_; have HO119 := n1_; clear n0_ n1_; clear ho hb hg hat))
                          go_roundg kj6
                          case measure => have := HK1.out; have := HK2.out; have := HJ6.out; omega
                          case rel => exact ⟨(y117), (wrap64 (x14_1 + 1)), (by first | rfl | (simp; done) | (simp [*]; done)), H', ⟨by have := HK1.out; have := HK2.out; have := HJ6.out; omega⟩, ⟨by (with_reducible repeat (first | apply Kd.R_alloc | apply Kd.R_drewN | apply Kd.R_drew)); exact HO119.out⟩, ⟨by repeat (first | (with_reducible first | exact HB.out | apply below_alloc | apply pw_below_drewN | apply below_drew1) | exact HB.out)⟩⟩
                        · rw [if_neg c13] at H
                          exact absurd H (by simp)
            · rw [if_neg c6] at H
              exact absurd H (by simp)
          · rw [if_neg c5] at H
            exact absurd H (by simp)
        · rw [if_neg c4] at H
          have c4b0 : decide (x14_1 < (l0.length : Int)) = false := decide_eq_false c4
          clear c4
          simp only [Option.some.injEq, Prod.mk.injEq] at H
          obtain ⟨rfl, rfl⟩ := H
          go_wp2
          go_ret2
          exact ⟨_, by first | rfl | (simp [errW_none, errW_some] <;> rfl) | (simp [*, errW_none, errW_some] <;> rfl), by (with_reducible repeat (first | apply Kd.R_alloc | apply Kd.R_drewN | apply Kd.R_drew)); exact HO_4.out, by repeat (first | (with_reducible first | exact HB.out | apply below_alloc | apply pw_below_drewN | apply below_drew1) | exact HB.out)⟩
  · replace c3 := Bool.eq_false_iff.mpr c3
    subst c3
    have H1 : (some (([] : List Int), false)) = some (r1, r2) := by rw [if_neg (show ¬ (false = true) by decide)] at H; exact H
    clear H
    have H := H1
    clear H1
    simp only [Option.some.injEq, Prod.mk.injEq] at H
    obtain ⟨rfl, rfl⟩ := H
    go_enter Try.func19, Try.ntmps19
    go_wp2_with (first | ((with_reducible refine gate_callee (f := 25) rfl ?_); refine goesL_ (some 10) rfl rfl Try.func25 (by kernel_rfl) rfl #[.slice A0 l0.length c0] rfl (by (try simp only [List.map_toArray, List.map_cons, List.map_nil]); first | done | rfl | (simp only [List.length_drop, List.length_take]; rfl)) ?_; (with_reducible refine (spec_heGood.calls k _ _ l0 false _ ?side1 ?side2 A2.out).mono ?_); (case side1 => repeat (first | exact HR0.out | (with_reducible refine Kd.C_alloc ?_ _) | (with_reducible refine Kd.C_drewN ?_ _) | (with_reducible refine Kd.C_drew ?_))); (case side2 => exact HC0.out); rintro e w' ⟨rfl, ⟨nd, rfl⟩⟩; refine ⟨_, rfl, ?_⟩))
    go_ret2
    exact ⟨_, by first | rfl | (simp [errW_none, errW_some] <;> rfl) | (simp [*, errW_none, errW_some] <;> rfl), by first | exact Kd.R_nil _ _ _ _ _ | exact Kd.N_nil _ _ _ _ _ | exact Kd.V_nil _ _ _ _ _ | exact Kd.Q_nil _ _ _ _ _ | exact Kd.S_nil _ _ _ _ _, by repeat (first | (with_reducible first | exact HB.out | apply below_alloc | apply pw_below_drewN | apply below_drew1) | exact HB.out)⟩

/-! ### impl_in: function 29 -/
def impl_in.f (a0 : Int) (a1 : Int) (a2 : Int) : Option (Bool) := if a1 ≤ a0 then (some (decide (a0 ≤ a2))) else (some false)
set_option maxHeartbeats 8000000 in
set_option maxRecDepth 100000 in
theorem impl_in.calls (a0 : Int) (a1 : Int) (a2 : Int) (r : Bool) (w : World) (h : impl_in.f a0 a1 a2 = some r) :
    Calls Try.prog 29 #[.int .i64 a0, .int .i64 a1, .int .i64 a2] w fun e w' => e = .returned (.bool r) ∧ Drawn0 w w' := by
  have H : (if a1 ≤ a0 then (some (decide (a0 ≤ a2))) else (some false)) = some r := h
  clear h
  by_cases c4 : a1 ≤ a0
  · rw [if_pos c4] at H
    have c4b0 : decide (a1 ≤ a0) = true := decide_eq_true c4
    clear c4
    obtain rfl := Option.some.inj H
    go_enter Try.func29, Try.ntmps29
    go_wp2
    go_ret
    exact ⟨by first | rfl | (simp; done) | (simp [*]; done), by repeat (first | exact Drawn0.refl _ | apply Drawn0.step)⟩
  · rw [if_neg c4] at H
    have c4b0 : decide (a1 ≤ a0) = false := decide_eq_false c4
    clear c4
    obtain rfl := Option.some.inj H
    go_enter Try.func29, Try.ntmps29
    go_wp2
    go_ret
    exact ⟨by first | rfl | (simp; done) | (simp [*]; done), by repeat (first | exact Drawn0.refl _ | apply Drawn0.step)⟩

/-! ### slices_IndexFunc_int_int: function 31 -/
/-- Where the first element stands of which a predicate holds, told from a number on; -1 if there is none. -/
def idxF (p : Int → Bool) : List Int → Int → Int
  | [], _ => -1
  | x :: xs, i => if p x = true then i else idxF p xs (i + 1)
theorem idxF_step (p : Int → Bool) (l : List Int) (i : Int) (h0 : 0 ≤ i) (h1 : i < (l.length : Int)) :
    idxF p (l.drop i.toNat) i = if p (rd l i) = true then i else idxF p (l.drop (i + 1).toNat) (i + 1) := by
  have hlt : i.toNat < l.length := by omega
  have e : (i + 1).toNat = i.toNat + 1 := by omega
  have e2 : rd l i = l[i.toNat] := by simp [rd, List.getD_eq_getElem?_getD, List.getElem?_eq_getElem hlt]
  rw [e, List.drop_eq_getElem_cons hlt, e2]
  rfl
set_option maxHeartbeats 8000000 in
set_option maxRecDepth 100000 in
theorem indexFunc_calls (p : Int → Bool) (g : Nat) (lb : Array Value) (eg : ∀ args w, (callFunc g args).run Try.prog w = .ok (.enter g args) w) (A0 : Option Addr) (c0 : Nat) (l0 : List Int) (w : World)
    (hr0 : Kd.C (Kd.int .i64) w A0 l0.length l0) (hl : l0.length ≤ 4611686018427387904)
    (hp : ∀ (x : Int) (q : Nat), Calls Try.prog g (#[.int .i64 x] ++ lb) (w.drewN q) fun e w' => e = .returned (.bool (p x)) ∧ ∃ q', w' = (w.drewN q).drewN q') :
    Calls Try.prog 31 #[.slice A0 l0.length c0, .func (.func g) #[] lb] w fun e w' => e = .returned (.int .i64 (idxF p l0 0)) ∧ Drawn0 w w' := by
  have HR0 := Aside0.mk hr0
  clear hr0
  have HP := Aside0.mk hp
  clear hp
  go_enter Try.func31, Try.ntmps31
  go_wp2
  go_loopg [5, 8] l0.length (fun kq v5 v8 w' => ∃ (i : Int), 0 ≤ i ∧ i ≤ (l0.length : Int) ∧ (l0.length : Int) - i = (kq : Int) ∧ v8 = .int .i64 i ∧ Aside0 (idxF p (l0.drop i.toNat) i = idxF p l0 0) ∧ Drawn0 w w')
  case atStart => exact ⟨0, by omega, by omega, by omega, rfl, ⟨rfl⟩, Drawn0.refl _⟩
  case round =>
    obtain ⟨i, hi0, hi1, hk, rfl, HA, ⟨m1, rfl⟩⟩ := hrel
    by_cases hlt : i < (l0.length : Int)
    · have hst := Aside0.mk (idxF_step p l0 i hi0 hlt)
      obtain ⟨ad, ead, hx⟩ := Kd.at_int HR0.out i hi0 hlt
      cases ead
      have hcall := Aside0.mk (HP.out (rd l0 i))
      generalize hy : rd l0 i = y at hx hst hcall
      clear hy
      cases hq : p y with
      | true =>
        have hc2 : ∀ q : Nat, Calls Try.prog g (#[.int .i64 y] ++ lb) (w.drewN q) fun e w' => e = .returned (.bool true) ∧ ∃ q', w' = (w.drewN q).drewN q' := by
          intro q; have := hcall.out q; rw [hq] at this; exact this
        have HQ := Aside0.mk hq
        clear hq
        go_wp2_with (go_at_fn g; refine (hc2 _).mono ?_; rintro e w' ⟨rfl, q', rfl⟩)
        go_ret
        refine ⟨?_, by repeat (first | exact Drawn0.refl _ | apply Drawn0.step)⟩
        rw [← HA.out, hst.out, HQ.out]; rfl
      | false =>
        have hc2 : ∀ q : Nat, Calls Try.prog g (#[.int .i64 y] ++ lb) (w.drewN q) fun e w' => e = .returned (.bool false) ∧ ∃ q', w' = (w.drewN q).drewN q' := by
          intro q; have := hcall.out q; rw [hq] at this; exact this
        have HQ := Aside0.mk hq
        clear hq
        go_wp2_with (go_at_fn g; refine (hc2 _).mono ?_; rintro e w' ⟨rfl, q', rfl⟩)
        go_roundg (l0.length - (i + 1).toNat)
        case measure => omega
        case rel => exact ⟨i + 1, by omega, by omega, by omega, by first | rfl | go_num, ⟨by rw [← HA.out, hst.out, HQ.out]; rfl⟩, by repeat (first | exact Drawn0.refl _ | apply Drawn0.step)⟩
    · have e : i = (l0.length : Int) := by omega
      have H2 : Aside0 (idxF p l0 0 = -1) := ⟨by rw [← HA.out, e]; simp [idxF]⟩
      have c4b0 : decide (i < (l0.length : Int)) = false := decide_eq_false hlt
      clear e hlt hk hi1 hi0
      go_wp2
      go_ret
      exact ⟨by rw [H2.out]; first | rfl | (simp; done), by repeat (first | exact Drawn0.refl _ | apply Drawn0.step)⟩

-- NOT PRINTED: function 36 (slices_ContainsFunc_int_int)

/-! ### impl_areHeights: function 26 -/
def impl_areHeights.f (l0 : List Int) : Option (Bool) := some (decide (1 ≤ l0.length) && decide (l0.length ≤ 40) && l0.all (fun h => decide (1 ≤ h) && decide (h ≤ 100)))
theorem idxF_any (p : Int → Bool) : ∀ (l : List Int) (i : Int), 0 ≤ i → decide (0 ≤ idxF p l i) = l.any p
  | [], i, _ => by simp [idxF]
  | x :: xs, i, h => by
    have ih := idxF_any p xs (i + 1) (by omega)
    by_cases hx : p x = true
    · have e : idxF p (x :: xs) i = i := by simp [idxF, hx]
      rw [e]; simp [hx, h]
    · have e : idxF p (x :: xs) i = idxF p xs (i + 1) := by simp [idxF, hx]
      rw [e, ih]; simp [hx]
set_option maxHeartbeats 8000000 in
theorem areHeights_1_calls (x : Int) (w : World) :
    Calls Try.prog 37 #[.int .i64 x] w fun e w' => e = .returned (.bool (!(decide (1 ≤ x) && decide (x ≤ 100)))) ∧ ∃ q', w' = w.drewN q' := by
  have hin := Aside0.mk (impl_in.calls x 1 100 (decide (1 ≤ x) && decide (x ≤ 100)) w (by
    unfold impl_in.f
    by_cases h1 : 1 ≤ x <;> simp [h1]))
  generalize (decide (1 ≤ x) && decide (x ≤ 100)) = b at hin
  go_enter Try.func37, Try.ntmps37
  go_wp2_with (go_at_call 29; refine hin.out.mono ?_; rintro e w' ⟨rfl, ⟨nd, rfl⟩⟩)
  go_ret
  exact ⟨rfl, nd, rfl⟩
set_option maxHeartbeats 8000000 in
set_option maxRecDepth 100000 in
theorem containsFunc_calls (A0 : Option Addr) (c0 : Nat) (l0 : List Int) (w : World) (hr0 : Kd.C (Kd.int .i64) w A0 l0.length l0) (hl : l0.length ≤ 4611686018427387904) :
    Calls Try.prog 36 #[.slice A0 l0.length c0, .func (.func 37) #[] #[]] w fun e w' => e = .returned (.bool (l0.any fun x => !(decide (1 ≤ x) && decide (x ≤ 100)))) ∧ Drawn0 w w' := by
  have eg := Aside0.mk (enters_ (P := Try.prog) Try.func37 (by kernel_rfl) rfl)
  have hI := Aside0.mk (indexFunc_calls (fun x => !(decide (1 ≤ x) && decide (x ≤ 100))) 37 #[] eg.out A0 c0 l0 w hr0 hl (fun x q => areHeights_1_calls x (w.drewN q)))
  have hA := Aside0.mk (idxF_any (fun x => !(decide (1 ≤ x) && decide (x ≤ 100))) l0 0 (by omega))
  generalize (l0.any fun x => !(decide (1 ≤ x) && decide (x ≤ 100))) = b at hA
  generalize idxF (fun x => !(decide (1 ≤ x) && decide (x ≤ 100))) l0 0 = i at hI hA
  have hb : decide (0 ≤ i) = b := hA.out
  clear hA eg
  subst hb
  go_enter Try.func36, Try.ntmps36
  go_wp2_with (go_at_call 31; refine hI.out.mono ?_; rintro e w' ⟨rfl, ⟨nd, rfl⟩⟩)
  go_ret
  exact ⟨rfl, ⟨nd, rfl⟩⟩
set_option maxHeartbeats 8000000 in
set_option maxRecDepth 100000 in
theorem impl_areHeights.calls (A0 : Option Addr) (c0 : Nat) (l0 : List Int) (r : Bool) (w : World) (hr0 : Kd.C (Kd.int .i64) w A0 l0.length l0) (hc0 : l0.length ≤ c0) (h : impl_areHeights.f l0 = some r) :
    Calls Try.prog 26 #[.slice A0 l0.length c0] w fun e w' => e = .returned (.bool r) ∧ Drawn0 w w' := by
  obtain rfl := Option.some.inj h
  clear h
  by_cases c1 : 1 ≤ l0.length ∧ l0.length ≤ 40
  · have hin := Aside0.mk (fun W => impl_in.calls (l0.length : Int) 1 40 true W (by
      unfold impl_in.f
      rw [if_pos (by omega)]
      simp; omega))
    have hC := Aside0.mk (fun n => containsFunc_calls A0 c0 l0 (w.drewN n) (Kd.C_drewN hr0 n) (by omega))
    have hv : Aside0 ((decide (1 ≤ l0.length) && decide (l0.length ≤ 40) && l0.all (fun h => decide (1 ≤ h) && decide (h ≤ 100))) = !(l0.any fun x => !(decide (1 ≤ x) && decide (x ≤ 100)))) := ⟨by
      rw [decide_eq_true c1.1, decide_eq_true c1.2]
      simp [List.not_any_eq_all_not]⟩
    generalize (decide (1 ≤ l0.length) && decide (l0.length ≤ 40) && l0.all (fun h => decide (1 ≤ h) && decide (h ≤ 100))) = r at hv ⊢
    generalize (l0.any fun x => !(decide (1 ≤ x) && decide (x ≤ 100))) = b at hC hv
    have hr := hv.out
    clear hv hr0
    subst hr
    clear c1 hc0
    go_enter Try.func26, Try.ntmps26
    go_wp2_with (first | (go_at_call 29; refine (hin.out _).mono ?_; rintro e w' ⟨rfl, ⟨nd, rfl⟩⟩) | (go_at_call 36; refine (hC.out _).mono ?_; rintro e w' ⟨rfl, ⟨nd2, rfl⟩⟩))
    go_ret
    exact ⟨rfl, by repeat (first | exact Drawn0.refl _ | apply Drawn0.step)⟩
  · have hin := Aside0.mk (fun W => impl_in.calls (l0.length : Int) 1 40 false W (by
      unfold impl_in.f
      split
      · simp; omega
      · rfl))
    have hv : Aside0 ((decide (1 ≤ l0.length) && decide (l0.length ≤ 40) && l0.all (fun h => decide (1 ≤ h) && decide (h ≤ 100))) = false) := ⟨by
      rcases Nat.lt_or_ge l0.length 1 with h | h
      · simp; omega
      · simp; omega⟩
    rw [hv.out]
    clear hv hr0 hc0 c1
    go_enter Try.func26, Try.ntmps26
    go_wp2_with (go_at_call 29; refine (hin.out _).mono ?_; rintro e w' ⟨rfl, ⟨nd, rfl⟩⟩)
    go_ret
    exact ⟨rfl, by repeat (first | exact Drawn0.refl _ | apply Drawn0.step)⟩

/-! ### impl_NextTaller: function 20 -/
/-- The nearest one to the right who is taller than the one at a place; -1 if there is none. -/
def ntAt (l : List Int) (i : Nat) : Int :=
  if 0 ≤ idxF (fun o => decide (rd l (i : Int) < o)) (l.drop i) 0 then wrap64 (idxF (fun o => decide (rd l (i : Int) < o)) (l.drop i) 0 + (i : Int)) else idxF (fun o => decide (rd l (i : Int) < o)) (l.drop i) 0
def ntR (l : List Int) (n : Nat) : List Int := (List.range n).map (ntAt l)
theorem ntR_succ (l : List Int) (n : Nat) : ntR l (n + 1) = ntR l n ++ [ntAt l n] := by simp [ntR, List.range_succ]
theorem ntR_len (l : List Int) (n : Nat) : (ntR l n).length = n := by simp [ntR]
def impl_NextTaller.f (l0 : List Int) : Option (List Int × Bool) := if impl_areHeights.f l0 = some true then some (ntR l0 l0.length, true) else some (([] : List Int), false)
set_option maxHeartbeats 8000000 in
theorem nextTaller_1_calls (B : Nat) (h x : Int) (w : World) (hc : w.cell? ⟨B, 0, none⟩ = some (.int .i64 h)) :
    Calls Try.prog 32 (#[.int .i64 x] ++ #[.pointer (some ⟨B, 0, none⟩)]) w fun e w' => e = .returned (.bool (decide (h < x))) ∧ ∃ q', w' = w.drewN q' := by
  show Calls Try.prog 32 #[.int .i64 x, .pointer (some ⟨B, 0, none⟩)] w _
  go_enter Try.func32, Try.ntmps32
  go_wp2
  go_ret
  exact ⟨rfl, 0, rfl⟩
set_option maxHeartbeats 8000000 in
set_option maxRecDepth 100000 in
theorem nextTaller_index (A0 : Option Addr) (c0 n : Nat) (l : List Int) (hn : l.length = n) (hl : n ≤ 4611686018427387904) (h v : Int) (hv : idxF (fun o => decide (h < o)) l 0 = v) (B : Nat) (w : World) (hc : w.cell? ⟨B, 0, none⟩ = some (.int .i64 h)) (hr : Kd.C (Kd.int .i64) w A0 n l) :
    Calls Try.prog 31 #[.slice A0 n c0, .func (.func 32) #[] #[.pointer (some ⟨B, 0, none⟩)]] w fun e w' => e = .returned (.int .i64 v) ∧ Drawn0 w w' := by
  subst hn hv
  exact indexFunc_calls (fun o => decide (h < o)) 32 #[.pointer (some ⟨B, 0, none⟩)] (enters_ (P := Try.prog) Try.func32 (by kernel_rfl) rfl) A0 c0 l w hr hl
    (fun x q => nextTaller_1_calls B h x (w.drewN q) (by simpa using hc))
set_option maxHeartbeats 1600000 in
set_option maxRecDepth 100000 in
theorem impl_NextTaller.calls (A0 : Option Addr) (c0 : Nat) (l0 : List Int) (r1 : List Int) (r2 : Bool) (w : World) (hr0 : Kd.C (Kd.int .i64) w A0 l0.length l0) (hc0 : l0.length ≤ c0) (h : impl_NextTaller.f l0 = some (r1, r2)) :
    Calls Try.prog 20 #[.slice A0 l0.length c0] w fun e w' => ∃ v0_ : Value, e = .returned (.tuple #[v0_, .bool r2]) ∧ Kd.R (Kd.int .i64) 3 w' w.heap.size (fun _ => True) v0_ r1 ∧ Below w.heap.size w w' := by
  have HR0 := Aside0.mk hr0
  have HC0 := Aside0.mk hc0
  clear hr0 hc0
  have HB := Aside0.mk (Below.refl w.heap.size w)
  unfold impl_NextTaller.f at h
  by_cases hg : impl_areHeights.f l0 = some true
  · rw [if_pos hg] at h
    have A2 := Aside0.mk hg
    have HL : l0.length ≤ 40 := by
      have := Option.some.inj hg
      simp only [Bool.and_eq_true, decide_eq_true_eq] at this
      exact this.1.2
    have HLA := Aside0.mk HL
    clear hg HL
    simp only [Option.some.injEq, Prod.mk.injEq] at h
    obtain ⟨rfl, rfl⟩ := h
    obtain ⟨y112, hy112⟩ : ∃ y_ : List Int, y_ = ([] : List Int) := ⟨_, rfl⟩
    have Ny112 := Aside0.mk hy112
    have N0 : Aside0 (y112 = ntR l0 (0 : Int).toNat) := ⟨by rw [hy112]; rfl⟩
    clear hy112
    generalize hrr : ntR l0 l0.length = rr
    have HRR := Aside0.mk hrr
    clear hrr
    go_enter Try.func20, Try.ntmps20
    go_wp2_with (first | (go_at_call 26; (with_reducible refine (impl_areHeights.calls _ _ l0 true _ ?side1 ?side2 A2.out).mono ?_); (case side1 => exact HR0.out); (case side2 => exact HC0.out); rintro e w' ⟨rfl, ⟨nd, rfl⟩⟩) | ((with_reducible refine gate_dst (N := 11) rfl ?_); refine Kd.R_lit (Kd.int .i64) _ 3 ?hg (N := 11) ?hd (xs := ([] : List Int)) (inner := []) (ok := fun _ => True) (okp := fun _ => True) ?hr ?hp (fun _ hk => hk) trivial (Below.refl _ _) (Nat.le_refl _) (by simp) ?_; (case hd => rfl); (case hg => rfl); (case hr => first | (go_simp; done) | (go_simp; rfl)); (case hp => exact (Reps.none _ _)); intro v113 w3 ho4 hb hg_ hnew_; clear hg_ hnew_; (first | rw [← Ny112.out] at ho4 | (simp only [Int.reduceToNat] at ho4; rw [← Ny112.out] at ho4)); have n0_ := Aside0.mk (Kd.R_lower ho4 (below_size (by repeat (first | (with_reducible first | exact HB.out | apply below_alloc | apply pw_below_drewN | apply below_drew1) | exact HB.out)))); have n1_ := Aside0.mk (below_step (by repeat (first | (with_reducible first | exact HB.out | apply below_alloc | apply pw_below_drewN | apply below_drew1) | exact HB.out)) hb); clear HB; have HO114 := n0_; have HB := n1_; clear n0_ n1_; clear hb ho4))
    go_loopg [4, 14] l0.length (fun kq v4 v14 w' => ∃ (x4 : List Int) (i : Int), v14 = .int .i64 i ∧ Aside0 (0 ≤ i ∧ i ≤ (l0.length : Int) ∧ (l0.length : Int) - i = (kq : Int)) ∧ Aside0 (x4 = ntR l0 i.toNat) ∧ Aside0 (Kd.R (Kd.int .i64) 3 w' w.heap.size (fun _ => True) v4 x4) ∧ Aside0 (Below w.heap.size w w'))
    case atStart => exact ⟨y112, 0, rfl, ⟨by omega, by omega, by omega⟩, N0, ⟨by (with_reducible repeat (first | apply Kd.R_alloc | apply Kd.R_drewN | apply Kd.R_drew)); exact HO114.out⟩, ⟨by repeat (first | (with_reducible first | exact HB.out | apply below_alloc | apply pw_below_drewN | apply below_drew1) | exact HB.out)⟩⟩
    case round =>
      obtain ⟨x4, i, rfl, HI, HX, HO_4, HB⟩ := hrel
      by_cases hlt : i < (l0.length : Int)
      · have c4b0 : decide (i < (l0.length : Int)) = true := decide_eq_true hlt
        have p117 : 0 ≤ (i : Int) := HI.out.1
        have q117 : i < (l0.length : Int) := hlt
        have HLT := Aside0.mk hlt
        clear hlt
        obtain ⟨ad117, e117, hx117_0⟩ := Kd.at_int HR0.out i p117 q117
        cases e117
        obtain ⟨i09, hi09, _, hsz9, _⟩ := info_parts info3
        obtain ⟨A9, hcut9, hA9, hC9⟩ := print_drop_of (P := Try.prog) (Value.int .i64) 0 22 3 .i64 Try.underlying22 hi09 hsz9 (some ad117) c0 l0 i HI.out.1 (Int.le_of_lt HLT.out) HC0.out
        have HR118 := Aside0.mk (Kd.C_of_reads (h1 := fun _ => rfl) (hA9 _ (Kd.reads_of_C HR0.out)))
        have hdl : (l0.drop i.toNat).length = l0.length - i.toNat := List.length_drop
        have HR119 := Aside0.mk (show Kd.C (Kd.int .i64) w A9 (l0.length - i.toNat) (l0.drop i.toNat) from by have h9 := HR118.out; rw [hdl] at h9; exact h9)
        rw [hdl] at hcut9
        clear hdl HR118
        clear hA9 hC9 hi09 hsz9
        replace hx117_0 := (HB.out.cell (World.block_lt_of_cell? w _ hx117_0)).trans hx117_0
        replace p117 := eq_true p117
        replace q117 := eq_true q117
        obtain ⟨hh, hhh⟩ : ∃ hh : Int, rd l0 i = hh := ⟨_, rfl⟩
        rw [hhh] at hx117_0
        have HH := Aside0.mk hhh
        clear hhh
        obtain ⟨jv, hjv⟩ : ∃ jv : Int, idxF (fun o => decide (hh < o)) (l0.drop i.toNat) 0 = jv := ⟨_, rfl⟩
        have hI := Aside0.mk (fun (B : Nat) (W : World) (hc : W.cell? ⟨B, 0, none⟩ = some (.int .i64 hh)) (hr : Kd.C (Kd.int .i64) W A9 (l0.length - i.toNat) (l0.drop i.toNat)) => nextTaller_index A9 (c0 - i.toNat) (l0.length - i.toNat) (l0.drop i.toNat) List.length_drop (by have := HLA.out; omega) hh jv hjv B W hc hr)
        have HJV := Aside0.mk hjv
        clear hjv
        have LM : Aside0 (x4.length < 17592186044416) := ⟨by rw [HX.out, ntR_len]; have := HI.out; have := HLA.out; omega⟩
        have hn1 : Aside0 (i.toNat + 1 = (i + 1).toNat) := ⟨by have := HI.out; omega⟩
        have hi1 : Aside0 (((i.toNat : Nat) : Int) = i) := ⟨by have := HI.out; omega⟩
        by_cases hj : 0 ≤ jv
        · have hjb : decide (0 ≤ jv) = true := decide_eq_true hj
          obtain ⟨kv, hkv⟩ : ∃ kv : Int, wrap64 (jv + i) = kv := ⟨_, rfl⟩
          have hkvw : IntKind.i64.wrap (jv + i) = kv := (i64_w _).trans hkv
          have NX : Aside0 (x4 ++ [kv] = ntR l0 (i + 1).toNat) := ⟨by
            rw [← hn1.out, ntR_succ, HX.out, ← hkv]
            congr 2
            unfold ntAt
            rw [hi1.out, HH.out, HJV.out, if_pos hj]⟩
          clear hj hkv
          go_wp2_with (first | (go_at_call 31; refine (hI.out _ _ ?s1 ?s2).mono ?_; (case s1 => first | (go_simp; done) | simp); (case s2 => repeat (first | exact (Kd.C_below HR119.out HB.out) | (with_reducible refine Kd.C_alloc ?_ _) | (with_reducible refine Kd.C_drewN ?_ _) | (with_reducible refine Kd.C_drew ?_))); rintro e w9 ⟨rfl, ⟨nd, hw9⟩⟩; have n0_ := Aside0.mk (show Kd.R (Kd.int .i64) 3 w9 w.heap.size (fun _ => True) u4 x4 from by rw [hw9]; (with_reducible repeat (first | apply Kd.R_alloc | apply Kd.R_drewN | apply Kd.R_drew)); exact HO_4.out); have n1_ := Aside0.mk (show Below w.heap.size w w9 from by rw [hw9]; repeat (first | (with_reducible first | exact HB.out | apply below_alloc | apply pw_below_drewN | apply below_drew1) | exact HB.out)); clear HO_4 HB hw9; have HO_4 := n0_; have HB := n1_; clear n0_ n1_) | ((with_reducible refine gate_builtin (b := .append) (xs := #[.tmp 29, .tmp 31]) rfl ?_); at_builtin; refine Kd.R_append (Kd.int .i64) (w0 := w) w.heap.size rfl (.tmp 29) (.tmp 31) 22 3 (.int .i64 0) 8 rfl Try.underlying22 info3 rfl (by decide) (by omega) u4 x4 kv [.int .i64 kv] (fun _ => True) (fun _ => False) rfl rfl ?aP (fun _ hk => hk.elim) ?aF ?aO ?aB ?aS ?aL ?_; (case aP => exact rfl); (case aB => exact (by repeat (first | (with_reducible first | exact HB.out | apply below_alloc | apply pw_below_drewN | apply below_drew1) | exact HB.out))); (case aF => exact (fun _ _ => trivial)); (case aO => exact (by (with_reducible repeat (first | apply Kd.R_alloc | apply Kd.R_drewN | apply Kd.R_drew)); exact HO_4.out)); (case aS => exact (below_size (by repeat (first | (with_reducible first | exact HB.out | apply below_alloc | apply pw_below_drewN | apply below_drew1) | exact HB.out)))); (case aL => have := LM.out; omega); intro v127 w16 ho hb hg hat; rw [NX.out] at ho; have n0_ := Aside0.mk (hb); have n1_ := Aside0.mk (ho); clear HB; clear HO_4; have HB := n0_; have HO128 := n1_; clear n0_ n1_; clear ho hb hg hat))
          go_roundg (l0.length - (i + 1).toNat)
          case measure => have := HI.out; have := HLT.out; omega
          case rel => exact ⟨_, (wrap64 (i + 1)), (by first | rfl | (simp; done) | (simp [*]; done)), ⟨by have := HI.out; have := HLT.out; have := HLA.out; rw [show wrap64 (i + 1) = i + 1 by unfold wrap64; omega]; omega⟩, ⟨by have := HI.out; have := HLT.out; have := HLA.out; rw [show wrap64 (i + 1) = i + 1 by unfold wrap64; omega]⟩, ⟨by (with_reducible repeat (first | apply Kd.R_alloc | apply Kd.R_drewN | apply Kd.R_drew)); exact HO128.out⟩, ⟨by repeat (first | (with_reducible first | exact HB.out | apply below_alloc | apply pw_below_drewN | apply below_drew1) | exact HB.out)⟩⟩
        · have hjb : decide (0 ≤ jv) = false := decide_eq_false hj
          have NX : Aside0 (x4 ++ [jv] = ntR l0 (i + 1).toNat) := ⟨by
            rw [← hn1.out, ntR_succ, HX.out]
            congr 2
            unfold ntAt
            rw [hi1.out, HH.out, HJV.out, if_neg hj]⟩
          clear hj
          go_wp2_with (first | (go_at_call 31; refine (hI.out _ _ ?s1 ?s2).mono ?_; (case s1 => first | (go_simp; done) | simp); (case s2 => repeat (first | exact (Kd.C_below HR119.out HB.out) | (with_reducible refine Kd.C_alloc ?_ _) | (with_reducible refine Kd.C_drewN ?_ _) | (with_reducible refine Kd.C_drew ?_))); rintro e w9 ⟨rfl, ⟨nd, hw9⟩⟩; have n0_ := Aside0.mk (show Kd.R (Kd.int .i64) 3 w9 w.heap.size (fun _ => True) u4 x4 from by rw [hw9]; (with_reducible repeat (first | apply Kd.R_alloc | apply Kd.R_drewN | apply Kd.R_drew)); exact HO_4.out); have n1_ := Aside0.mk (show Below w.heap.size w w9 from by rw [hw9]; repeat (first | (with_reducible first | exact HB.out | apply below_alloc | apply pw_below_drewN | apply below_drew1) | exact HB.out)); clear HO_4 HB hw9; have HO_4 := n0_; have HB := n1_; clear n0_ n1_) | ((with_reducible refine gate_builtin (b := .append) (xs := #[.tmp 29, .tmp 31]) rfl ?_); at_builtin; refine Kd.R_append (Kd.int .i64) (w0 := w) w.heap.size rfl (.tmp 29) (.tmp 31) 22 3 (.int .i64 0) 8 rfl Try.underlying22 info3 rfl (by decide) (by omega) u4 x4 jv [.int .i64 jv] (fun _ => True) (fun _ => False) rfl rfl ?aP (fun _ hk => hk.elim) ?aF ?aO ?aB ?aS ?aL ?_; (case aP => exact rfl); (case aB => exact (by repeat (first | (with_reducible first | exact HB.out | apply below_alloc | apply pw_below_drewN | apply below_drew1) | exact HB.out))); (case aF => exact (fun _ _ => trivial)); (case aO => exact (by (with_reducible repeat (first | apply Kd.R_alloc | apply Kd.R_drewN | apply Kd.R_drew)); exact HO_4.out)); (case aS => exact (below_size (by repeat (first | (with_reducible first | exact HB.out | apply below_alloc | apply pw_below_drewN | apply below_drew1) | exact HB.out)))); (case aL => have := LM.out; omega); intro v127 w16 ho hb hg hat; rw [NX.out] at ho; have n0_ := Aside0.mk (hb); have n1_ := Aside0.mk (ho); clear HB; clear HO_4; have HB := n0_; have HO128 := n1_; clear n0_ n1_; clear ho hb hg hat))
          go_roundg (l0.length - (i + 1).toNat)
          case measure => have := HI.out; have := HLT.out; omega
          case rel => exact ⟨_, (wrap64 (i + 1)), (by first | rfl | (simp; done) | (simp [*]; done)), ⟨by have := HI.out; have := HLT.out; have := HLA.out; rw [show wrap64 (i + 1) = i + 1 by unfold wrap64; omega]; omega⟩, ⟨by have := HI.out; have := HLT.out; have := HLA.out; rw [show wrap64 (i + 1) = i + 1 by unfold wrap64; omega]⟩, ⟨by (with_reducible repeat (first | apply Kd.R_alloc | apply Kd.R_drewN | apply Kd.R_drew)); exact HO128.out⟩, ⟨by repeat (first | (with_reducible first | exact HB.out | apply below_alloc | apply pw_below_drewN | apply below_drew1) | exact HB.out)⟩⟩
      · have c4b0 : decide (i < (l0.length : Int)) = false := decide_eq_false hlt
        have e : i.toNat = l0.length := by have := HI.out; omega
        have NX : Aside0 (x4 = rr) := ⟨by rw [HX.out, e, HRR.out]⟩
        clear hlt e
        go_wp2
        go_ret2
        exact ⟨_, rfl, by rw [← NX.out]; exact HO_4.out, HB.out⟩
  · rw [if_neg hg] at h
    have A2 : Aside0 (impl_areHeights.f l0 = some false) := ⟨by
      unfold impl_areHeights.f at hg ⊢
      cases hb : (decide (1 ≤ l0.length) && decide (l0.length ≤ 40) && l0.all (fun h => decide (1 ≤ h) && decide (h ≤ 100))) with
      | true => rw [hb] at hg; exact absurd rfl hg
      | false => rfl⟩
    clear hg
    simp only [Option.some.injEq, Prod.mk.injEq] at h
    obtain ⟨rfl, rfl⟩ := h
    go_enter Try.func20, Try.ntmps20
    go_wp2_with (first | (go_at_call 26; (with_reducible refine (impl_areHeights.calls _ _ l0 false _ ?side1 ?side2 A2.out).mono ?_); (case side1 => exact HR0.out); (case side2 => exact HC0.out); rintro e w' ⟨rfl, ⟨nd, rfl⟩⟩))
    go_ret2
    exact ⟨_, rfl, Kd.R_nil _ _ _ _ _, by repeat (first | (with_reducible first | exact HB.out | apply below_alloc | apply pw_below_drewN | apply below_drew1) | exact HB.out)⟩

end Go.Proofs.Ythljbhianagobaa.PFnExactNextTaller
