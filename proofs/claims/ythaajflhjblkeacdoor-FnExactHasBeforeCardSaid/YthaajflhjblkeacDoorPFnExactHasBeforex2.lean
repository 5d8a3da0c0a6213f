/- A text of this session for the law FnExactHasBefore of the seat YthaajflhjblkeacDoor: the functions that the law uses and their walks. -/
import Derived.Test.YthaajflhjblkeacDoorPFnExactHasBeforex0
import Derived.Test.YthaajflhjblkeacDoorPFnExactHasBeforex1
namespace Go.Proofs.YthaajflhjblkeacDoor.PFnExactHasBefore
open Go.RowKit Go.Proofs.YthaajflhjblkeacDoorW.PrintWords Go.Proofs.YthaajflhjblkeacDoorW.PrintLast Go.Proofs.YthaajflhjblkeacDoorW.PrintMore
attribute [local go_sem] max2_int min2_int max_two min_two max_three min_three max_four min_four   -- for this text's walks alone
set_option linter.unusedVariables false
set_option linter.unusedSimpArgs false

/-! ### impl_isRow: function 27 -/
/-- Is a text a row? -/
def rowB (s : ByteArray) : Bool := decide (1 ≤ s.size) && decide (s.size ≤ 60) && s.data.toList.all (fun b => b == 60 || b == 62)
def impl_isRow.f (a0 : ByteArray) : Option (Bool) := some (rowB a0)
theorem dropWhile_nil {p : UInt8 → Bool} : ∀ l : List UInt8, (l.dropWhile p).isEmpty = l.all p
  | [] => rfl
  | a :: t => by
    by_cases h : p a = true
    · rw [List.dropWhile_cons_of_pos h, dropWhile_nil t, List.all_cons, h, Bool.true_and]
    · rw [List.dropWhile_cons_of_neg h, List.all_cons, Bool.eq_false_iff.mpr h]; rfl
theorem trimS_all (l : List UInt8) : (Lib.trimS l [60, 62]).isEmpty = l.all (fun b => b == 60 || b == 62) := by
  have hc : (fun b : UInt8 => List.contains [60, 62] b) = fun b => b == 60 || b == 62 := by
    funext b
    simp only [List.contains, List.elem]
    cases h1 : b == 60 <;> cases h2 : b == 62 <;> rfl
  unfold Lib.trimS Lib.trimLeftS Lib.trimRightS
  rw [hc, dropWhile_nil]
  by_cases h : l.all (fun b => b == 60 || b == 62) = true
  · have h2 : (l.reverse.dropWhile fun b => b == 60 || b == 62).isEmpty = true := by
      rw [dropWhile_nil, List.all_reverse]; exact h
    rw [List.isEmpty_iff] at h2
    rw [h2, h]; rfl
  · have hne : ∃ x ∈ l, (x == 60 || x == 62) = false := by
      have h3 := h
      rw [Bool.not_eq_true, List.all_eq_false] at h3
      obtain ⟨x, hx, hp⟩ := h3
      exact ⟨x, hx, by simpa using hp⟩
    rw [Bool.eq_false_iff.mpr h, List.all_eq_false]
    have hr : ∀ t : List UInt8, (∃ x ∈ t, (x == 60 || x == 62) = false) → ∃ x ∈ t.dropWhile (fun b => b == 60 || b == 62), (x == 60 || x == 62) = false := by
      intro t
      induction t with
      | nil => intro ⟨x, hx, _⟩; cases hx
      | cons a t ih =>
        intro ⟨x, hx, hp⟩
        by_cases ha : (a == 60 || a == 62) = true
        · rw [show (a :: t).dropWhile (fun b => b == 60 || b == 62) = t.dropWhile (fun b => b == 60 || b == 62) from List.dropWhile_cons_of_pos (p := fun b => b == 60 || b == 62) ha]
          rcases List.mem_cons.1 hx with rfl | hx
          · rw [ha] at hp; cases hp
          · exact ih ⟨x, hx, hp⟩
        · rw [show (a :: t).dropWhile (fun b => b == 60 || b == 62) = a :: t from List.dropWhile_cons_of_neg (p := fun b => b == 60 || b == 62) ha]
          exact ⟨x, hx, hp⟩
    obtain ⟨x, hx, hp⟩ := hr l.reverse (by obtain ⟨x, hx, hp⟩ := hne; exact ⟨x, by simpa using hx, hp⟩)
    exact ⟨x, by simpa using hx, by simpa using hp⟩
set_option maxHeartbeats 1600000 in
set_option maxRecDepth 100000 in
theorem impl_isRow.calls (a0 : ByteArray) (r : Bool) (w : World) (h : impl_isRow.f a0 = some r) :
    Calls Tryd.prog 27 #[.string a0] w fun e w' => e = .returned (.bool r) ∧ Below w.heap.size w w' := by
  obtain rfl := Option.some.inj h
  clear h
  by_cases c1 : 1 ≤ a0.size ∧ a0.size ≤ 60
  · have hin := Aside0.mk (fun W => impl_in.calls (a0.size : Int) 1 60 true W (by
      unfold impl_in.f
      rw [if_pos (by omega)]
      simp; omega))
    have hcon := fun W : World => Any.strings_Trim_laid Tryd.lays160 (by kernel_rfl) a0 ⟨#[60, 62]⟩ W (by omega) (by decide) (ascii_of_all (by decide))
    have hT := Aside0.mk (fun W : World => (show Calls Tryd.prog 42 #[.string a0, .string ⟨#[60, 62]⟩] W (fun e w' => e = .returned (.string ⟨(Lib.trimS a0.data.toList [60, 62]).toArray⟩) ∧ Below W.heap.size W w') from hcon W))
    clear hcon
    have hv : Aside0 (rowB a0 = (Lib.trimS a0.data.toList [60, 62]).isEmpty) := ⟨by
      unfold rowB
      rw [decide_eq_true c1.1, decide_eq_true c1.2, trimS_all]; rfl⟩
    generalize Lib.trimS a0.data.toList [60, 62] = l at hT hv
    rw [hv.out]
    clear hv c1
    cases l with
    | nil =>
      go_enter Tryd.func27, Tryd.ntmps27
      go_wp2_with (first | (go_at_call 41; refine (hin.out _).mono ?_; rintro e w' ⟨rfl, ⟨nd, rfl⟩⟩) | (go_at_call 42; refine (hT.out _).mono ?_; rintro e w9 ⟨rfl, hb9⟩))
      go_ret
      exact ⟨by first | rfl | (simp; done), by first | exact hb9 | exact below_then (by repeat (first | exact Below.refl _ _ | apply pw_below_drewN | apply below_drew)) (by simp) hb9⟩
    | cons b l =>
      go_enter Tryd.func27, Tryd.ntmps27
      go_wp2_with (first | (go_at_call 41; refine (hin.out _).mono ?_; rintro e w' ⟨rfl, ⟨nd, rfl⟩⟩) | (go_at_call 42; refine (hT.out _).mono ?_; rintro e w9 ⟨rfl, hb9⟩))
      go_ret
      exact ⟨by first | rfl | (simp; done), by first | exact hb9 | exact below_then (by repeat (first | exact Below.refl _ _ | apply pw_below_drewN | apply below_drew)) (by simp) hb9⟩
  · have hin := Aside0.mk (fun W => impl_in.calls (a0.size : Int) 1 60 false W (by
      unfold impl_in.f
      split
      · simp; omega
      · rfl))
    have hv : Aside0 (rowB a0 = false) := ⟨by
      unfold rowB
      rcases Nat.lt_or_ge a0.size 1 with h | h
      · rw [decide_eq_false (show ¬ 1 ≤ a0.size by omega)]; rfl
      · rw [decide_eq_false (show ¬ a0.size ≤ 60 by omega)]; simp⟩
    rw [hv.out]
    clear hv c1
    go_enter Tryd.func27, Tryd.ntmps27
    go_wp2_with (go_at_call 41; refine (hin.out _).mono ?_; rintro e w' ⟨rfl, ⟨nd, rfl⟩⟩)
    go_ret
    exact ⟨rfl, by repeat (first | exact Below.refl _ _ | apply pw_below_drewN | apply below_drew)⟩

/-! ### impl_isTraced: function 34 -/
def impl_isTraced.f (a0 : Int) : Option (Bool) := (impl_in.f a0 1 12).bind fun t120 => (some t120)
set_option maxHeartbeats 8000000 in
set_option maxRecDepth 100000 in
theorem impl_isTraced.calls (a0 : Int) (r : Bool) (w : World) (h : impl_isTraced.f a0 = some r) :
    Calls Tryd.prog 34 #[.int .i64 a0] w fun e w' => e = .returned (.bool r) ∧ Drawn0 w w' := by
  have H : ((impl_in.f a0 1 12).bind fun t120 => (some t120)) = some r := h
  clear h
  replace H := Option.bind_eq_some_iff.mp H
  obtain ⟨t120, A20, H⟩ := H
  replace H : (some t120) = some r := H
  have A2 := Aside0.mk A20
  clear A20
  obtain rfl := Option.some.inj H
  go_enter Tryd.func34, Tryd.ntmps34
  go_wp2_with (first | ((with_reducible refine gate_callee (f := 41) rfl ?_); refine goesL_ (some 4) rfl rfl Tryd.func41 (by kernel_rfl) rfl #[.int .i64 a0, .int .i64 1, .int .i64 12] rfl (by (try simp only [List.map_toArray, List.map_cons, List.map_nil]); first | done | rfl | (simp only [List.length_drop, List.length_take]; rfl)) ?_; (with_reducible refine (impl_in.calls a0 1 12 t120 _ A2.out).mono ?_); rintro e w' ⟨rfl, ⟨nd, rfl⟩⟩; refine ⟨_, rfl, ?_⟩))
  go_ret
  exact ⟨by first | rfl | (simp; done) | (simp [*]; done), by repeat (first | exact Drawn0.refl _ | apply Drawn0.step)⟩

/-! ### impl_rowOf: function 35 -/
def impl_rowOf.l0 : Nat → Int → Int → List Int → Int → Int → Option (ByteArray)
  | 0, _, _, _, _, _ => none
  | k + 1, x0, x1, x5, x10, x11 => if x11 < x10 then (if 0 ≤ x11 then (if x11 < (x5.length : Int) then ((some (x5.set (x11 : Int).toNat 60 : List Int)).bind fun y124 => (if 0 ≤ (wrap64 ((wrap64 (x0 - 1)) - x11)) then (if (Go.bits .and .i64 (shr .i64 x1 (wrap64 ((wrap64 (x0 - 1)) - x11))) 1) = 1 then (impl_rowOf.l0 k x0 x1 (y124.set (x11 : Int).toNat 62) x10 (wrap64 (x11 + 1))) else (impl_rowOf.l0 k x0 x1 y124 x10 (wrap64 (x11 + 1)))) else (none))) else (none)) else (none)) else (some (strOfNums x5))
def impl_rowOf.f (k : Nat) (a0 : Int) (a1 : Int) : Option (ByteArray) := if 0 ≤ a0 then (if (a0 : Int).toNat ≤ 281474976710656 then ((some (List.replicate (a0 : Int).toNat 0 : List Int)).bind fun y121 => (impl_rowOf.l0 k a0 a1 y121 (y121.length : Int) 0)) else (none)) else (none)
theorem impl_rowOf.mono_l : ∀ k, (∀ y0 y1 y2 y3 y4, LeO (impl_rowOf.l0 k y0 y1 y2 y3 y4) (impl_rowOf.l0 (k + 1) y0 y1 y2 y3 y4))
  | 0 => fun _ _ _ _ _ r h => by simp [impl_rowOf.l0] at h
  | k + 1 => by
    have ih0 := impl_rowOf.mono_l k
    · intro y0 y1 y2 y3 y4
      unfold impl_rowOf.l0
      repeat' first
      | (with_reducible exact ih0 _ _ _ _ _)
      | (with_reducible exact LeO.refl _)
      | (with_reducible exact LeO.none _)
      | (with_reducible refine LeO.ite ?_ ?_)
      | (with_reducible refine LeO.bind ?_ (fun _ => ?_))
      | exact ih0 _ _ _ _ _
      | exact LeO.none _
      | refine LeO.ite ?_ ?_
      | refine LeO.bind ?_ (fun _ => ?_)
theorem impl_rowOf.mono : ∀ a0 a1 k, LeO (impl_rowOf.f k a0 a1) (impl_rowOf.f (k + 1) a0 a1) := by
  intro a0 a1 k
  have ih0 := impl_rowOf.mono_l k
  unfold impl_rowOf.f
  repeat' first
      | (with_reducible exact ih0 _ _ _ _ _)
      | (with_reducible exact LeO.refl _)
      | (with_reducible exact LeO.none _)
      | (with_reducible refine LeO.ite ?_ ?_)
      | (with_reducible refine LeO.bind ?_ (fun _ => ?_))
      | exact ih0 _ _ _ _ _
      | exact LeO.none _
      | refine LeO.ite ?_ ?_
      | refine LeO.bind ?_ (fun _ => ?_)
set_option maxHeartbeats 8000000 in
set_option maxRecDepth 100000 in
theorem impl_rowOf.calls (k : Nat) (a0 : Int) (a1 : Int) (r : ByteArray) (w : World) (h : impl_rowOf.f k a0 a1 = some r) :
    Calls Tryd.prog 35 #[.int .i64 a0, .int .i64 a1] w fun e w' => e = .returned (.string r) ∧ Below w.heap.size w w' := by
  have HB := Aside0.mk (Below.refl w.heap.size w)
  have H : (if 0 ≤ a0 then (if (a0 : Int).toNat ≤ 281474976710656 then ((some (List.replicate (a0 : Int).toNat 0 : List Int)).bind fun y121 => (impl_rowOf.l0 k a0 a1 y121 (y121.length : Int) 0)) else (none)) else (none)) = some r := h
  clear h
  by_cases c3 : 0 ≤ a0
  · rw [if_pos c3] at H
    have c3b0 := eq_true c3
    have c3b1 : decide (0 ≤ a0) = true := decide_eq_true c3
    clear c3
    by_cases c4 : (a0 : Int).toNat ≤ 281474976710656
    · rw [if_pos c4] at H
      have c4b0 := eq_true c4
      have c4b1 : decide ((a0 : Int).toNat ≤ 281474976710656) = true := decide_eq_true c4
      clear c4
      obtain ⟨y121, hy121⟩ : ∃ y_ : List Int, y_ = (List.replicate (a0 : Int).toNat 0) := ⟨_, rfl⟩
      replace H : (impl_rowOf.l0 k a0 a1 y121 (y121.length : Int) 0) = some r := by first | (rw [hy121]; with_reducible exact H) | (have H2_ := (Option.bind_some _ _).symm.trans H; rw [hy121]; with_reducible exact H2_) | (have H2_ := (Option.bind_some _ _).symm.trans H; with_reducible exact H2_) | with_reducible exact H | (rw [hy121]; exact H) | exact H
      have Ny121 := Aside0.mk hy121
      clear hy121
      have H' := Aside0.mk H
      clear H
      go_enter Tryd.func35, Tryd.ntmps35
      go_wp2_with (first | ((with_reducible refine gate_dst (N := 8) rfl ?_); refine Kd.R_make (Kd.int .u8) _ 5 rfl (N := 8) rfl 49 _ _ rfl a0 rfl rfl Tryd.underlying49 (.int .u8 0) 1 info5 rfl (by decide) (by omega) 0 (ok := fun _ => True) (okp := fun _ => True) rfl (fun _ hk => hk) trivial (of_decide_eq_true (by first | (with_reducible assumption) | assumption)) (Nat.le_trans (Nat.mul_le_mul_right _ (of_decide_eq_true (by first | (with_reducible assumption) | assumption) : a0.toNat ≤ 281474976710656)) (by omega)) (Below.refl _ _) (Nat.le_refl _) ?_; intro v122 w5 ho6 hb hg_ hnew_; clear hg_ hnew_; (first | rw [← Ny121.out] at ho6 | (simp only [Int.reduceToNat] at ho6; rw [← Ny121.out] at ho6)); have n0_ := Aside0.mk (Kd.R_lower ho6 (below_size (by repeat (first | (with_reducible first | exact HB.out | apply below_alloc | apply pw_below_drewN | apply below_drew1) | exact HB.out)))); have n1_ := Aside0.mk (below_step (by repeat (first | (with_reducible first | exact HB.out | apply below_alloc | apply pw_below_drewN | apply below_drew1) | exact HB.out)) hb); clear HB; have HO123 := n0_; have HB := n1_; clear n0_ n1_; clear hb ho6; obtain ⟨Ao7, co7, eo7⟩ := Kd.R_slice HO123.out; subst eo7))
      go_loopg [11] k (fun kq v11 w' => ∃ (x5_1 : List Int) (x11_1 : Int), v11 = .int .i64 x11_1 ∧ Aside0 (impl_rowOf.l0 kq a0 a1 x5_1 (y121.length : Int) x11_1 = some r) ∧ Aside0 (kq ≤ k) ∧ Aside0 (Kd.R (Kd.int .u8) 5 w' w.heap.size (fun _ => True) (.slice Ao7 y121.length co7) x5_1) ∧ Aside0 (Below w.heap.size w w'))
      case atStart => exact ⟨(y121), (0), (by first | rfl | (simp; done) | (simp [*]; done)), H', ⟨Nat.le_refl _⟩, ⟨by (with_reducible repeat (first | apply Kd.R_alloc | apply Kd.R_drewN | apply Kd.R_drew)); exact HO123.out⟩, ⟨by repeat (first | (with_reducible first | exact HB.out | apply below_alloc | apply pw_below_drewN | apply below_drew1) | exact HB.out)⟩⟩
      case round =>
        clear H'
        try clear p2
        try clear c3
        try clear c3b0
        try clear c3b1
        try clear c4
        try clear c4b0
        try clear c4b1
        obtain ⟨x5_1, x11_1, rfl, HA, HK1, HO_5, HB⟩ := hrel
        have hl5_1 := (Kd.R_reads' HO_5.out).1
        rw [hl5_1] at HO_5
        (try simp only [hl5_1])
        cases gk with
        | zero => exact absurd HA.out (by simp [impl_rowOf.l0])
        | succ k1 =>
          have H := HA.out
          clear HA
          simp only [impl_rowOf.l0] at H
          by_cases c8 : x11_1 < (y121.length : Int)
          · rw [if_pos c8] at H
            have c8b0 : decide (x11_1 < (y121.length : Int)) = true := decide_eq_true c8
            (try (have c8b0y5_1 := c8b0; rw [hl5_1] at c8b0y5_1))
            clear c8
            by_cases c9 : 0 ≤ x11_1
            · rw [if_pos c9] at H
              have c9b0 : decide (0 ≤ x11_1) = true := decide_eq_true c9
              clear c9
              by_cases c10 : x11_1 < (x5_1.length : Int)
              · rw [if_pos c10] at H
                have c10b0 : decide (x11_1 < (x5_1.length : Int)) = true := decide_eq_true c10
                (try (have c10b0y5_1 := c10b0; rw [hl5_1] at c10b0y5_1))
                clear c10
                obtain ⟨y124, hy124⟩ : ∃ y_ : List Int, y_ = (x5_1.set (x11_1 : Int).toNat 60) := ⟨_, rfl⟩
                replace H : (if 0 ≤ (wrap64 ((wrap64 (a0 - 1)) - x11_1)) then (if (Go.bits .and .i64 (shr .i64 a1 (wrap64 ((wrap64 (a0 - 1)) - x11_1))) 1) = 1 then (impl_rowOf.l0 k1 a0 a1 (y124.set (x11_1 : Int).toNat 62) (y121.length : Int) (wrap64 (x11_1 + 1))) else (impl_rowOf.l0 k1 a0 a1 y124 (y121.length : Int) (wrap64 (x11_1 + 1)))) else (none)) = some r := by first | (rw [hy124]; with_reducible exact H) | (have H2_ := (Option.bind_some _ _).symm.trans H; rw [hy124]; with_reducible exact H2_) | (have H2_ := (Option.bind_some _ _).symm.trans H; with_reducible exact H2_) | with_reducible exact H | (rw [hy124]; exact H) | exact H
                have Ny124 := Aside0.mk hy124
                clear hy124
                obtain ⟨ji12, hji12⟩ : ∃ j_ : Int, (wrap64 ((wrap64 (a0 - 1)) - x11_1)) = j_ := ⟨_, rfl⟩
                replace H : (if 0 ≤ (ji12) then (if (Go.bits .and .i64 (shr .i64 a1 (ji12)) 1) = 1 then (impl_rowOf.l0 k1 a0 a1 (y124.set (x11_1 : Int).toNat 62) (y121.length : Int) (wrap64 (x11_1 + 1))) else (impl_rowOf.l0 k1 a0 a1 y124 (y121.length : Int) (wrap64 (x11_1 + 1)))) else (none)) = some r := by first | (rw [hji12] at H; exact H) | (simp only [hji12] at H ⊢; exact H)
                have hji12w : (IntKind.i64.wrap ((wrap64 (a0 - 1)) - x11_1)) = ji12 := (i64_w _).trans hji12
                by_cases c13 : 0 ≤ (ji12)
                · rw [if_pos c13] at H
                  have c13b0 := eq_true c13
                  have c13b1 : decide (0 ≤ (ji12)) = true := decide_eq_true c13
                  clear c13
                  obtain ⟨ji14, hji14⟩ : ∃ j_ : Int, (shr .i64 a1 (ji12)) = j_ := ⟨_, rfl⟩
                  replace H : (if (Go.bits .and .i64 (ji14) 1) = 1 then (impl_rowOf.l0 k1 a0 a1 (y124.set (x11_1 : Int).toNat 62) (y121.length : Int) (wrap64 (x11_1 + 1))) else (impl_rowOf.l0 k1 a0 a1 y124 (y121.length : Int) (wrap64 (x11_1 + 1)))) = some r := by first | (rw [hji14] at H; exact H) | (simp only [hji14] at H ⊢; exact H)
                  have hji14_ : (a1 / 2 ^ min (ji12).toNat 64) = ji14 := hji14
                  have hji14z : (ji12) ≤ 64 → (a1 / 2 ^ (ji12).toNat) = ji14 := shr_small hji14
                  by_cases c15 : (Go.bits .and .i64 (ji14) 1) = 1
                  · rw [if_pos c15] at H
                    have c15b0 : ((Go.bits .and .i64 (ji14) 1) == 1) = true := beq_iff_eq.mpr c15
                    have c15b1 : ((Go.bits .and .i64 (ji14) 1) != 1) = false := bne_eq_false_iff_eq.mpr c15
                    clear c15
                    obtain ⟨y125, hy125⟩ : ∃ y_ : List Int, y_ = (y124.set (x11_1 : Int).toNat 62) := ⟨_, rfl⟩
                    replace H : (impl_rowOf.l0 k1 a0 a1 y125 (y121.length : Int) (wrap64 (x11_1 + 1))) = some r := by first | (rw [hy125]; with_reducible exact H) | (have H2_ := (Option.bind_some _ _).symm.trans H; rw [hy125]; with_reducible exact H2_) | (have H2_ := (Option.bind_some _ _).symm.trans H; with_reducible exact H2_) | with_reducible exact H | (rw [hy125]; exact H) | exact H
                    have Ny125 := Aside0.mk hy125
                    clear hy125
                    have H' := Aside0.mk H
                    clear H
                    have p11 : 0 ≤ (x11_1 : Int) := of_decide_eq_true (by first | (with_reducible assumption) | assumption)
                    have q11 : (x11_1 : Int) < ((x5_1.length : Int) : Int) := of_decide_eq_true (by first | (with_reducible assumption) | assumption)
                    obtain ⟨go11, co11, eo11, gb11, gl11, cl11, HG11⟩ := Kd.R_form HO_5.out (by omega)
                    (first | cases eo11 | (injection eo11 with ea_ en_ ec_; (first | subst ea_ | (injection ea_ with ea_; subst ea_)); subst ec_; clear en_))
                    have GB11 := Aside0.mk gb11
                    have GG11 := Aside0.mk HG11
                    clear gb11 gl11 HG11
                    obtain ⟨hx11_0, hf11_0⟩ := Kd.R_celln 0 HO_5.out (x11_1 : Int) p11 q11
                    replace p11 := eq_true p11
                    replace q11 := eq_true q11
                    have HP17 := Kd.R_putg HO_5.out (x11_1 : Int) 60
                    go_wp2_with (first | ((with_reducible refine gate_store (t := 5) (p := 16) rfl ?_); refine store_event (t := 5) (p := 16) (v := ?vo_w18) (w1 := (wr.setCell ⟨go11, (x11_1 : Int).toNat, none⟩ (.int .u8 60))) ?hg ?ho ?hn ?hr ?_; (case ho => rfl); (case hg => rfl); (case hn => rfl); (case hr => first | (go_simp; done) | (go_simp; rfl)); intro w18 hw; have hg : wr.grownBy w18 (some go11) := (by rw [hw]; exact HP17.2); have hp_ : Kd.R (Kd.int .u8) 5 w18 w.heap.size (fun _ => True) (.slice (some ⟨go11, 0, none⟩) x5_1.length co7) y124 := (by rw [hw, Ny124.out]; exact HP17.1); clear HP17; have n0_ := Aside0.mk (hp_); have n1_ := Aside0.mk ((by rw [hw]; exact below_set (HB.out) GB11.out : Below w.heap.size w w18)); clear HO_5; clear HB; have HO_5 := n0_; have HB := n1_; clear n0_ n1_; clear hg hw hp_; have p16 : 0 ≤ (x11_1 : Int) := of_decide_eq_true (by first | (with_reducible assumption) | assumption); have q16 : (x11_1 : Int) < ((x5_1.length : Int) : Int) := of_decide_eq_true (by first | (with_reducible assumption) | assumption); obtain ⟨hx16_0, hf16_0⟩ := Kd.R_celln 0 HO_5.out (x11_1 : Int) p16 q16; replace p16 := eq_true p16; replace q16 := eq_true q16; obtain ⟨hy19_, hz19_⟩ := Kd.R_celln 0 HO_5.out (x11_1 : Int) (of_decide_eq_true (by first | (with_reducible assumption) | assumption)) (of_decide_eq_true (by first | (with_reducible assumption) | assumption)); have HP19 := Kd.R_putg HO_5.out (x11_1 : Int) 62) | ((with_reducible refine gate_store (t := 5) (p := 27) rfl ?_); refine store_event (t := 5) (p := 27) (v := ?vo_w20) (w1 := (w18.setCell ⟨go11, (x11_1 : Int).toNat, none⟩ (.int .u8 62))) ?hg ?ho ?hn ?hr ?_; (case ho => rfl); (case hg => rfl); (case hn => rfl); (case hr => first | (go_simp; done) | (go_simp; rfl)); intro w20 hw; have hg : w18.grownBy w20 (some go11) := (by rw [hw]; exact HP19.2); have hp_ : Kd.R (Kd.int .u8) 5 w20 w.heap.size (fun _ => True) (.slice (some ⟨go11, 0, none⟩) x5_1.length co7) y125 := (by rw [hw, Ny125.out]; exact HP19.1); clear HP19; have n0_ := Aside0.mk (hp_); have n1_ := Aside0.mk ((by rw [hw]; exact below_set (HB.out) GB11.out : Below w.heap.size w w20)); clear HO_5; clear HB; have HO_5 := n0_; have HB := n1_; clear n0_ n1_; clear hg hw hp_))
                    (try simp only [← hl5_1])
                    go_roundg k1
                    case measure => have := HK1.out; omega
                    case rel => exact ⟨(y125), (wrap64 (x11_1 + 1)), (by first | rfl | (simp; done) | (simp [*]; done)), H', ⟨by have := HK1.out; omega⟩, ⟨by (try simp only [hl5_1]); (with_reducible repeat (first | apply Kd.R_alloc | apply Kd.R_drewN | apply Kd.R_drew)); exact HO_5.out⟩, ⟨by repeat (first | (with_reducible first | exact HB.out | apply below_alloc | apply pw_below_drewN | apply below_drew1) | exact HB.out)⟩⟩
                  · rw [if_neg c15] at H
                    have c15b0 : ((Go.bits .and .i64 (ji14) 1) == 1) = false := beq_eq_false_iff_ne.mpr c15
                    have c15b1 : ((Go.bits .and .i64 (ji14) 1) != 1) = true := bne_iff_ne.mpr c15
                    have H' := Aside0.mk H
                    clear H
                    have p11 : 0 ≤ (x11_1 : Int) := of_decide_eq_true (by first | (with_reducible assumption) | assumption)
                    have q11 : (x11_1 : Int) < ((x5_1.length : Int) : Int) := of_decide_eq_true (by first | (with_reducible assumption) | assumption)
                    obtain ⟨go11, co11, eo11, gb11, gl11, cl11, HG11⟩ := Kd.R_form HO_5.out (by omega)
                    (first | cases eo11 | (injection eo11 with ea_ en_ ec_; (first | subst ea_ | (injection ea_ with ea_; subst ea_)); subst ec_; clear en_))
                    have GB11 := Aside0.mk gb11
                    have GG11 := Aside0.mk HG11
                    clear gb11 gl11 HG11
                    obtain ⟨hx11_0, hf11_0⟩ := Kd.R_celln 0 HO_5.out (x11_1 : Int) p11 q11
                    replace p11 := eq_true p11
                    replace q11 := eq_true q11
                    have HP21 := Kd.R_putg HO_5.out (x11_1 : Int) 60
                    go_wp2_with (first | ((with_reducible refine gate_store (t := 5) (p := 16) rfl ?_); refine store_event (t := 5) (p := 16) (v := ?vo_w22) (w1 := (wr.setCell ⟨go11, (x11_1 : Int).toNat, none⟩ (.int .u8 60))) ?hg ?ho ?hn ?hr ?_; (case ho => rfl); (case hg => rfl); (case hn => rfl); (case hr => first | (go_simp; done) | (go_simp; rfl)); intro w22 hw; have hg : wr.grownBy w22 (some go11) := (by rw [hw]; exact HP21.2); have hp_ : Kd.R (Kd.int .u8) 5 w22 w.heap.size (fun _ => True) (.slice (some ⟨go11, 0, none⟩) x5_1.length co7) y124 := (by rw [hw, Ny124.out]; exact HP21.1); clear HP21; have n0_ := Aside0.mk (hp_); have n1_ := Aside0.mk ((by rw [hw]; exact below_set (HB.out) GB11.out : Below w.heap.size w w22)); clear HO_5; clear HB; have HO_5 := n0_; have HB := n1_; clear n0_ n1_; clear hg hw hp_))
                    (try simp only [← hl5_1])
                    go_roundg k1
                    case measure => have := HK1.out; omega
                    case rel => exact ⟨(y124), (wrap64 (x11_1 + 1)), (by first | rfl | (simp; done) | (simp [*]; done)), H', ⟨by have := HK1.out; omega⟩, ⟨by (try simp only [hl5_1]); (with_reducible repeat (first | apply Kd.R_alloc | apply Kd.R_drewN | apply Kd.R_drew)); exact HO_5.out⟩, ⟨by repeat (first | (with_reducible first | exact HB.out | apply below_alloc | apply pw_below_drewN | apply below_drew1) | exact HB.out)⟩⟩
                · rw [if_neg c13] at H
                  exact absurd H (by simp)
              · rw [if_neg c10] at H
                exact absurd H (by simp)
            · rw [if_neg c9] at H
              exact absurd H (by simp)
          · rw [if_neg c8] at H
            have c8b0 : decide (x11_1 < (y121.length : Int)) = false := decide_eq_false c8
            (try (have c8b0y5_1 := c8b0; rw [hl5_1] at c8b0y5_1))
            clear c8
            obtain rfl := Option.some.inj H
            have hcv23 := own_string (P := Tryd.prog) Tryd.underlying49 Tryd.underlying5 Tryd.underlying9 (Kd.own_of_R HO_5.out)
            go_wp2
            go_ret
            exact ⟨by first | rfl | (simp [errW_none, errW_some] <;> rfl) | (simp [*, errW_none, errW_some] <;> rfl), by repeat (first | (with_reducible first | exact HB.out | apply below_alloc | apply pw_below_drewN | apply below_drew1) | exact HB.out)⟩
    · rw [if_neg c4] at H
      exact absurd H (by simp)
  · rw [if_neg c3] at H
    exact absurd H (by simp)

/-! ### impl_tick: function 36 -/
/-- All who face each other turn. -/
def tkB : List UInt8 → List UInt8
  | a :: b :: t => if (a == 62 && b == 60) = true then 60 :: 62 :: tkB t else a :: tkB (b :: t)
  | l => l
theorem prefix_two' (a b : UInt8) (t : List UInt8) : [62, 60].isPrefixOf (a :: b :: t) = (a == 62 && b == 60) := by
  have h1 : ((62 : UInt8) == a) = (a == 62) := BEq.comm
  have h2 : ((60 : UInt8) == b) = (b == 60) := BEq.comm
  simp only [List.isPrefixOf, Bool.and_true, h1, h2]
theorem prefix_one (a : UInt8) : [62, 60].isPrefixOf [a] = false := by simp [List.isPrefixOf]
theorem tk_miss : ∀ l : List UInt8, Lib.index l [62, 60] = -1 → tkB l = l
  | [], _ => rfl
  | [a], _ => rfl
  | a :: b :: t, h => by
    have hge := Lib.index_ge (b :: t) [62, 60]
    rw [Lib.index, prefix_two'] at h
    by_cases c : (a == 62 && b == 60) = true
    · rw [if_pos c] at h; omega
    · rw [if_neg c] at h
      have h2 : Lib.index (b :: t) [62, 60] = -1 := by
        by_cases h3 : Lib.index (b :: t) [62, 60] = -1
        · exact h3
        · rw [if_neg (by simpa using h3)] at h; omega
      rw [tkB, if_neg c, tk_miss (b :: t) h2]
theorem tk_hit : ∀ (l : List UInt8) (i : Nat), Lib.index l [62, 60] = (i : Int) → tkB l = l.take i ++ [60, 62] ++ tkB (l.drop (i + 2)) ∧ i + 2 ≤ l.length
  | [], i, h => by
    simp [Lib.index] at h
    try omega
  | [a], i, h => by
    rw [Lib.index, prefix_one] at h
    simp [Lib.index] at h
    try omega
  | a :: b :: t, i, h => by
    have hge := Lib.index_ge (b :: t) [62, 60]
    rw [Lib.index, prefix_two'] at h
    by_cases c : (a == 62 && b == 60) = true
    · rw [if_pos c] at h
      obtain rfl : i = 0 := by omega
      rw [tkB, if_pos c]
      simp
    · rw [if_neg c] at h
      by_cases h3 : Lib.index (b :: t) [62, 60] = -1
      · rw [if_pos (by simp [h3])] at h; omega
      · rw [if_neg (by simpa using h3)] at h
        obtain ⟨j, rfl⟩ : ∃ j, i = j + 1 := ⟨i - 1, by omega⟩
        have ih := tk_hit (b :: t) j (by omega)
        rw [tkB, if_neg c, ih.1]
        refine ⟨by simp, by have := ih.2; simp at this ⊢; omega⟩
theorem tk_replace : ∀ (f : Nat) (l : List UInt8), l.length < f → Lib.replaceK [62, 60] [60, 62] (Lib.countFrom [62, 60] f l) l = tkB l
  | 0, l, h => by omega
  | f + 1, l, h => by
    have hge := Lib.index_ge l [62, 60]
    by_cases h1 : Lib.index l [62, 60] = -1
    · rw [Lib.countFrom, if_pos (by simp [h1]), Lib.replaceK, tk_miss l h1]
    · obtain ⟨i, hi⟩ : ∃ i : Nat, Lib.index l [62, 60] = (i : Int) := ⟨(Lib.index l [62, 60]).toNat, by omega⟩
      have hh := tk_hit l i hi
      rw [Lib.countFrom, if_neg (by simpa using h1), Nat.add_comm, Lib.replaceK_hit _ _ _ _ i hi, hh.1, hi]
      congr 1
      exact tk_replace f (l.drop (i + 2)) (by rw [List.length_drop]; omega)
theorem tk_all (l : List UInt8) : Lib.replaceAll l [62, 60] [60, 62] = tkB l := by
  unfold Lib.replaceAll Lib.replace
  rw [if_neg (by decide)]
  unfold Lib.replaceNum
  rw [if_pos (Or.inl (by decide))]
  exact tk_replace (l.length + 1) l (by omega)
def impl_tick.f (a0 : ByteArray) : Option (ByteArray) := if a0.size < 1000000 then some ⟨(tkB a0.data.toList).toArray⟩ else none
set_option maxHeartbeats 1600000 in
set_option maxRecDepth 100000 in
theorem impl_tick.calls (a0 : ByteArray) (r : ByteArray) (w : World) (h : impl_tick.f a0 = some r) (hML : ML w) :
    Calls Tryd.prog 36 #[.string a0] w fun e w' => e = .returned (.string r) ∧ Below w.heap.size w w' := by
  unfold impl_tick.f at h
  by_cases c : a0.size < 1000000
  · rw [if_pos c] at h
    obtain rfl := Option.some.inj h
    obtain ⟨⟨m, hm⟩, _⟩ := hML
    have hcnt := Lib.countB_le ⟨#[62, 60]⟩ (by decide) a0.size a0 (Nat.le_refl _)
    have hC := Aside0.mk (show Calls Tryd.prog 45 #[.string a0, .string ⟨#[62, 60]⟩, .string ⟨#[60, 62]⟩] w (fun e w' => e = .returned (.string ⟨(Lib.replaceAll a0.data.toList [62, 60] [60, 62]).toArray⟩) ∧ Below w.heap.size w w') from Any.strings_ReplaceAll Tryd.lays155 Tryd.Builder_Extra_155 a0 ⟨#[62, 60]⟩ ⟨#[60, 62]⟩ m w (by omega) hm (by decide) (by
      have : (⟨#[60, 62]⟩ : ByteArray).size = 2 := rfl
      rw [this]; omega))
    rw [← tk_all]
    generalize (⟨(Lib.replaceAll a0.data.toList [62, 60] [60, 62]).toArray⟩ : ByteArray) = r at hC
    clear c hm hcnt
    go_enter Tryd.func36, Tryd.ntmps36
    go_wp2_with (go_at_call 45; refine hC.out.mono ?_; rintro e w' ⟨rfl, hB⟩)
    go_ret
    exact ⟨rfl, hB⟩
  · rw [if_neg c] at h
    exact absurd h (by simp)

/-! ### impl_RowsBefore: function 16 -/
mutual
def impl_RowsBefore.j0 : Nat → ByteArray → Bool → Option (List ByteArray × Bool)
  | 0, _, _ => none
  | k + 1, x0, x15 => if x15 = true then (some (([] : List ByteArray), false)) else (impl_RowsBefore.l0 k x0 (([] : List ByteArray)) (shl .i64 1 (x0.size : Int)) 0)
def impl_RowsBefore.l0 : Nat → ByteArray → List ByteArray → Int → Int → Option (List ByteArray × Bool)
  | 0, _, _, _, _ => none
  | k + 1, x0, x4, x19, x20 => if x20 < x19 then ((impl_rowOf.f k (x0.size : Int) x20).bind fun t131 => ((impl_tick.f t131).bind fun t132 => (if t132.toList = x0.toList then (if x4.length < 8796093022208 then (impl_RowsBefore.l0 k x0 (x4 ++ [t131]) x19 (wrap64 (x20 + 1))) else (none)) else (impl_RowsBefore.l0 k x0 x4 x19 (wrap64 (x20 + 1)))))) else (some (x4, true))
end
def impl_RowsBefore.f (k : Nat) (a0 : ByteArray) : Option (List ByteArray × Bool) := (impl_isRow.f a0).bind fun t126 => (if t126 = true then ((impl_isTraced.f (a0.size : Int)).bind fun t127 => (impl_RowsBefore.j0 k a0 (!t127))) else (impl_RowsBefore.j0 k a0 true))
theorem impl_RowsBefore.mono_l : ∀ k, (∀ y0 y1, LeO (impl_RowsBefore.j0 k y0 y1) (impl_RowsBefore.j0 (k + 1) y0 y1)) ∧ (∀ y0 y1 y2 y3, LeO (impl_RowsBefore.l0 k y0 y1 y2 y3) (impl_RowsBefore.l0 (k + 1) y0 y1 y2 y3))
  | 0 => ⟨fun _ _ r h => by simp [impl_RowsBefore.j0] at h, fun _ _ _ _ r h => by simp [impl_RowsBefore.l0] at h⟩
  | k + 1 => by
    obtain ⟨ih0, ih1⟩ := impl_RowsBefore.mono_l k
    refine ⟨?_, ?_⟩
    · intro y0 y1
      unfold impl_RowsBefore.j0
      repeat' first
      | (with_reducible exact ih0 _ _)
      | (with_reducible exact ih1 _ _ _ _)
      | (with_reducible exact impl_rowOf.mono _ _ _)
      | (with_reducible exact LeO.refl _)
      | (with_reducible exact LeO.none _)
      | (with_reducible refine LeO.ite ?_ ?_)
      | (with_reducible refine LeO.bind ?_ (fun _ => ?_))
      | exact ih0 _ _
      | exact ih1 _ _ _ _
      | exact impl_rowOf.mono _ _ _
      | exact LeO.none _
      | refine LeO.ite ?_ ?_
      | refine LeO.bind ?_ (fun _ => ?_)
    · intro y0 y1 y2 y3
      unfold impl_RowsBefore.l0
      repeat' first
      | (with_reducible exact ih0 _ _)
      | (with_reducible exact ih1 _ _ _ _)
      | (with_reducible exact impl_rowOf.mono _ _ _)
      | (with_reducible exact LeO.refl _)
      | (with_reducible exact LeO.none _)
      | (with_reducible refine LeO.ite ?_ ?_)
      | (with_reducible refine LeO.bind ?_ (fun _ => ?_))
      | exact ih0 _ _
      | exact ih1 _ _ _ _
      | exact impl_rowOf.mono _ _ _
      | exact LeO.none _
      | refine LeO.ite ?_ ?_
      | refine LeO.bind ?_ (fun _ => ?_)
theorem impl_RowsBefore.mono : ∀ a0 k, LeO (impl_RowsBefore.f k a0) (impl_RowsBefore.f (k + 1) a0) := by
  intro a0 k
  obtain ⟨ih0, ih1⟩ := impl_RowsBefore.mono_l k
  unfold impl_RowsBefore.f
  repeat' first
      | (with_reducible exact ih0 _ _)
      | (with_reducible exact ih1 _ _ _ _)
      | (with_reducible exact impl_rowOf.mono _ _ _)
      | (with_reducible exact LeO.refl _)
      | (with_reducible exact LeO.none _)
      | (with_reducible refine LeO.ite ?_ ?_)
      | (with_reducible refine LeO.bind ?_ (fun _ => ?_))
      | exact ih0 _ _
      | exact ih1 _ _ _ _
      | exact impl_rowOf.mono _ _ _
      | exact LeO.none _
      | refine LeO.ite ?_ ?_
      | refine LeO.bind ?_ (fun _ => ?_)
set_option maxHeartbeats 8000000 in
set_option maxRecDepth 100000 in
theorem impl_RowsBefore.calls (k : Nat) (a0 : ByteArray) (r1 : List ByteArray) (r2 : Bool) (w : World) (h : impl_RowsBefore.f k a0 = some (r1, r2)) (hML : ML w) :
    Calls Tryd.prog 16 #[.string a0] w fun e w' => ∃ v0_ : Value, e = .returned (.tuple #[v0_, .bool r2]) ∧ Kd.R Kd.string 9 w' w.heap.size (fun _ => True) v0_ r1 ∧ Below w.heap.size w w' := by
  have HML := Aside0.mk hML
  clear hML
  have HB := Aside0.mk (Below.refl w.heap.size w)
  have H : ((impl_isRow.f a0).bind fun t126 => (if t126 = true then ((impl_isTraced.f (a0.size : Int)).bind fun t127 => (impl_RowsBefore.j0 k a0 (!t127))) else (impl_RowsBefore.j0 k a0 true))) = some (r1, r2) := h
  clear h
  have HC2 := Aside0.mk H
  clear H
  go_enter Tryd.func16, Tryd.ntmps16
  go_upto_region 1 with (fail)
  go_cut [15] (fun v15 wc => ∃ (kq : Nat) (x15_1 : Bool), v15 = .bool x15_1 ∧ Aside0 (impl_RowsBefore.j0 kq a0 x15_1 = some (r1, r2)) ∧ Aside0 (kq ≤ k) ∧ Aside0 (Below w.heap.size w wc))
  case first =>
    have H := HC2.out
    clear HC2
    replace H := Option.bind_eq_some_iff.mp H
    obtain ⟨t126, A30, H⟩ := H
    replace H : (if t126 = true then ((impl_isTraced.f (a0.size : Int)).bind fun t127 => (impl_RowsBefore.j0 k a0 (!t127))) else (impl_RowsBefore.j0 k a0 true)) = some (r1, r2) := H
    have A3 := Aside0.mk A30
    clear A30
    by_cases c4 : t126 = true
    · subst c4
      have H1 : ((impl_isTraced.f (a0.size : Int)).bind fun t127 => (impl_RowsBefore.j0 k a0 (!t127))) = some (r1, r2) := by rw [if_pos rfl] at H; exact H
      clear H
      have H := H1
      clear H1
      replace H := Option.bind_eq_some_iff.mp H
      obtain ⟨t127, A50, H⟩ := H
      replace H : (impl_RowsBefore.j0 k a0 (!t127)) = some (r1, r2) := H
      have A5 := Aside0.mk A50
      clear A50
      have H' := Aside0.mk H
      clear H
      go_wp2_with (first | ((with_reducible refine gate_callee (f := 27) rfl ?_); refine goesL_ (some 8) rfl rfl Tryd.func27 (by kernel_rfl) rfl #[.string a0] rfl (by (try simp only [List.map_toArray, List.map_cons, List.map_nil]); first | done | rfl | (simp only [List.length_drop, List.length_take]; rfl)) ?_; (with_reducible refine (impl_isRow.calls a0 true _ A3.out).mono ?_); rintro e w6 ⟨rfl, hb⟩; refine ⟨_, rfl, ?_⟩; have n0_ := Aside0.mk (below_step (by repeat (first | (with_reducible first | exact HB.out | apply below_alloc | apply pw_below_drewN | apply below_drew1) | exact HB.out)) hb); clear HB; have HB := n0_; clear n0_; (try clear hb); (try clear hb2); (try clear hk); (try clear hi)) | (go_at_call 34; (with_reducible refine (impl_isTraced.calls (a0.size : Int) t127 _ A5.out).mono ?_); rintro e w' ⟨rfl, ⟨nd, rfl⟩⟩))
      go_meet
      case rel => exact ⟨_, (!t127), (by first | rfl | (simp; done) | (simp [*]; done)), H', ⟨by first | omega | exact Nat.le_refl _⟩, ⟨by repeat (first | (with_reducible first | exact HB.out | apply below_alloc | apply pw_below_drewN | apply below_drew1) | exact HB.out)⟩⟩
    · replace c4 := Bool.eq_false_iff.mpr c4
      subst c4
      have H1 : (impl_RowsBefore.j0 k a0 true) = some (r1, r2) := by rw [if_neg (show ¬ (false = true) by decide)] at H; exact H
      clear H
      have H := H1
      clear H1
      have H' := Aside0.mk H
      clear H
      go_wp2_with (first | ((with_reducible refine gate_callee (f := 27) rfl ?_); refine goesL_ (some 8) rfl rfl Tryd.func27 (by kernel_rfl) rfl #[.string a0] rfl (by (try simp only [List.map_toArray, List.map_cons, List.map_nil]); first | done | rfl | (simp only [List.length_drop, List.length_take]; rfl)) ?_; (with_reducible refine (impl_isRow.calls a0 false _ A3.out).mono ?_); rintro e w7 ⟨rfl, hb⟩; refine ⟨_, rfl, ?_⟩; have n0_ := Aside0.mk (below_step (by repeat (first | (with_reducible first | exact HB.out | apply below_alloc | apply pw_below_drewN | apply below_drew1) | exact HB.out)) hb); clear HB; have HB := n0_; clear n0_; (try clear hb); (try clear hb2); (try clear hk); (try clear hi)))
      go_meet
      case rel => exact ⟨_, (true), (by first | rfl | (simp; done) | (simp [*]; done)), H', ⟨by first | omega | exact Nat.le_refl _⟩, ⟨by repeat (first | (with_reducible first | exact HB.out | apply below_alloc | apply pw_below_drewN | apply below_drew1) | exact HB.out)⟩⟩
  case rest =>
    clear HC2
    try clear c1
    try clear c2
    try clear p2
    try clear c4
    obtain ⟨kq, x15_1, rfl, HA, HJ1, HB⟩ := hcut
    cases kq with
    | zero => exact absurd HA.out (by simp [impl_RowsBefore.j0])
    | succ kj1 =>
      have H := HA.out
      clear HA
      simp only [impl_RowsBefore.j0] at H
      by_cases c8 : x15_1 = true
      · subst c8
        have H1 : (some (([] : List ByteArray), false)) = some (r1, r2) := by rw [if_pos rfl] at H; exact H
        clear H
        have H := H1
        clear H1
        simp only [Option.some.injEq, Prod.mk.injEq] at H
        obtain ⟨rfl, rfl⟩ := H
        go_wp2
        go_ret2
        exact ⟨_, by first | rfl | (simp [errW_none, errW_some] <;> rfl) | (simp [*, errW_none, errW_some] <;> rfl), by first | exact Kd.R_nil _ _ _ _ _ | exact Kd.N_nil _ _ _ _ _ | exact Kd.V_nil _ _ _ _ _ | exact Kd.Q_nil _ _ _ _ _ | exact Kd.S_nil _ _ _ _ _, by repeat (first | (with_reducible first | exact HB.out | apply below_alloc | apply pw_below_drewN | apply below_drew1) | exact HB.out)⟩
      · replace c8 := Bool.eq_false_iff.mpr c8
        subst c8
        have H1 : (impl_RowsBefore.l0 kj1 a0 (([] : List ByteArray)) (shl .i64 1 (a0.size : Int)) 0) = some (r1, r2) := by rw [if_neg (show ¬ (false = true) by decide)] at H; exact H
        clear H
        have H := H1
        clear H1
        obtain ⟨y128, hy128⟩ : ∃ y_ : List ByteArray, y_ = (([] : List ByteArray)) := ⟨_, rfl⟩
        replace H : (impl_RowsBefore.l0 kj1 a0 y128 (shl .i64 1 (a0.size : Int)) 0) = some (r1, r2) := by first | (rw [hy128]; with_reducible exact H) | (have H2_ := (Option.bind_some _ _).symm.trans H; rw [hy128]; with_reducible exact H2_) | (have H2_ := (Option.bind_some _ _).symm.trans H; with_reducible exact H2_) | with_reducible exact H | (rw [hy128]; exact H) | exact H
        have Ny128 := Aside0.mk hy128
        clear hy128
        obtain ⟨ji9, hji9⟩ : ∃ j_ : Int, (shl .i64 1 (a0.size : Int)) = j_ := ⟨_, rfl⟩
        replace H : (impl_RowsBefore.l0 kj1 a0 y128 ji9 0) = some (r1, r2) := by first | (rw [hji9] at H; exact H) | (simp only [hji9] at H ⊢; exact H)
        have hji9_ : (IntKind.i64.wrap (1 * 2 ^ min (a0.size : Int).toNat 64)) = ji9 := hji9
        have hji9z : (a0.size : Int) ≤ 64 → (IntKind.i64.wrap (1 * 2 ^ (a0.size : Int).toNat)) = ji9 := shl_small hji9
        have hji9u : (IntKind.i64.wrap (2 ^ min (a0.size : Int).toNat 64)) = ji9 := by have h_ := hji9_; rw [Int.one_mul] at h_; exact h_
        have hji9v : (a0.size : Int) ≤ 64 → (IntKind.i64.wrap (2 ^ (a0.size : Int).toNat)) = ji9 := fun hle_ => by have h_ := hji9z hle_; rw [Int.one_mul] at h_; exact h_
        have hji9y : (wrap64 (1 * 2 ^ min (a0.size : Int).toNat 64)) = ji9 := (i64_w _).symm.trans hji9_
        have hji9s := Aside0.mk (show wrap64 (2 ^ min a0.size 64) = ji9 by have h_ := hji9y; rw [Int.one_mul] at h_; exact h_)
        have hji9x : (a0.size : Int) ≤ 64 → (wrap64 (1 * 2 ^ (a0.size : Int).toNat)) = ji9 := fun h_ => (i64_w _).symm.trans (hji9z h_)
        have H' := Aside0.mk H
        clear H
        go_wp2_with (first | ((with_reducible refine gate_dst (N := 16) rfl ?_); (try (refine gate_guard (by rfl) ?_; dsimp only)); refine Kd.R_lit Kd.string _ 9 ?hg (N := 16) ?hd (xs := ([] : List ByteArray)) (inner := []) (ok := fun _ => True) (okp := fun _ => True) ?hr ?hp (fun _ hk => hk) trivial (Below.refl _ _) (Nat.le_refl _) (by simp) ?_; (case hd => rfl); (case hg => rfl); (case hr => first | (go_simp; done) | (go_simp; rfl)); (case hp => exact (Reps.none _ _)); intro v129 w10 ho11 hb hg_ hnew_; clear hg_ hnew_; (first | rw [← Ny128.out] at ho11 | (simp only [Int.reduceToNat] at ho11; rw [← Ny128.out] at ho11)); have n0_ := Aside0.mk (Kd.R_lower ho11 (below_size (by repeat (first | (with_reducible first | exact HB.out | apply below_alloc | apply pw_below_drewN | apply below_drew1) | exact HB.out)))); have n1_ := Aside0.mk (below_step (by repeat (first | (with_reducible first | exact HB.out | apply below_alloc | apply pw_below_drewN | apply below_drew1) | exact HB.out)) hb); clear HB; have HO130 := n0_; have HB := n1_; clear n0_ n1_; clear hb ho11))
        go_loopg [4, 20] kj1 (fun kq v4 v20 w' => ∃ (x4_2 : List ByteArray) (x20_2 : Int), v20 = .int .i64 x20_2 ∧ Aside0 (impl_RowsBefore.l0 kq a0 x4_2 ji9 x20_2 = some (r1, r2)) ∧ Aside0 (kq ≤ kj1) ∧ Aside0 (Kd.R Kd.string 9 w' w.heap.size (fun _ => True) v4 x4_2) ∧ Aside0 (Below w.heap.size w w'))
        case atStart => exact ⟨(y128), (0), (by first | rfl | (simp; done) | (simp [*]; done)), H', ⟨Nat.le_refl _⟩, ⟨by (with_reducible repeat (first | apply Kd.R_alloc | apply Kd.R_drewN | apply Kd.R_drew)); exact HO130.out⟩, ⟨by repeat (first | (with_reducible first | exact HB.out | apply below_alloc | apply pw_below_drewN | apply below_drew1) | exact HB.out)⟩⟩
        case round =>
          clear H'
          try clear c1
          try clear c2
          try clear p2
          try clear c4
          try clear p6
          try clear c8
          try clear p2
          obtain ⟨x4_2, x20_2, rfl, HA, HK2, HO_4, HB⟩ := hrel
          cases gk with
          | zero => exact absurd HA.out (by simp [impl_RowsBefore.l0])
          | succ k2 =>
            have H := HA.out
            clear HA
            simp only [impl_RowsBefore.l0] at H
            by_cases c12 : x20_2 < ji9
            · rw [if_pos c12] at H
              have c12b0 : decide (x20_2 < ji9) = true := decide_eq_true c12
              (try have c12b0s : decide (x20_2 < wrap64 (2 ^ min a0.size 64)) = true := by rw [hji9s.out]; exact c12b0)
              clear c12
              replace H := Option.bind_eq_some_iff.mp H
              obtain ⟨t131, A130, H⟩ := H
              replace H : ((impl_tick.f t131).bind fun t132 => (if t132.toList = a0.toList then (if x4_2.length < 8796093022208 then (impl_RowsBefore.l0 k2 a0 (x4_2 ++ [t131]) ji9 (wrap64 (x20_2 + 1))) else (none)) else (impl_RowsBefore.l0 k2 a0 x4_2 ji9 (wrap64 (x20_2 + 1))))) = some (r1, r2) := H
              have A13 := Aside0.mk A130
              clear A130
              replace H := Option.bind_eq_some_iff.mp H
              obtain ⟨t132, A140, H⟩ := H
              replace H : (if t132.toList = a0.toList then (if x4_2.length < 8796093022208 then (impl_RowsBefore.l0 k2 a0 (x4_2 ++ [t131]) ji9 (wrap64 (x20_2 + 1))) else (none)) else (impl_RowsBefore.l0 k2 a0 x4_2 ji9 (wrap64 (x20_2 + 1)))) = some (r1, r2) := H
              have A14 := Aside0.mk A140
              clear A140
              by_cases c15 : t132.toList = a0.toList
              · rw [if_pos c15] at H
                have c15b0 : (t132.toList == a0.toList) = true := beq_iff_eq.mpr c15
                have c15b1 : (t132.toList != a0.toList) = false := bne_eq_false_iff_eq.mpr c15
                clear c15
                by_cases c16 : x4_2.length < 8796093022208
                · rw [if_pos c16] at H
                  have LMc16 := Aside0.mk c16
                  clear c16
                  obtain ⟨y133, hy133⟩ : ∃ y_ : List ByteArray, y_ = (x4_2 ++ [t131]) := ⟨_, rfl⟩
                  replace H : (impl_RowsBefore.l0 k2 a0 y133 ji9 (wrap64 (x20_2 + 1))) = some (r1, r2) := by first | (rw [hy133]; with_reducible exact H) | (have H2_ := (Option.bind_some _ _).symm.trans H; rw [hy133]; with_reducible exact H2_) | (have H2_ := (Option.bind_some _ _).symm.trans H; with_reducible exact H2_) | with_reducible exact H | (rw [hy133]; exact H) | exact H
                  have Ny133 := Aside0.mk hy133
                  clear hy133
                  have H' := Aside0.mk H
                  clear H
                  go_wp2_with (first | ((with_reducible refine gate_callee (f := 35) rfl ?_); refine goesL_ (some 26) rfl rfl Tryd.func35 (by kernel_rfl) rfl #[.int .i64 (a0.size : Int), .int .i64 x20_2] rfl (by (try simp only [List.map_toArray, List.map_cons, List.map_nil]); first | done | rfl | (simp only [List.length_drop, List.length_take]; rfl)) ?_; (with_reducible refine (impl_rowOf.calls k2 (a0.size : Int) x20_2 t131 _ A13.out).mono ?_); rintro e w17 ⟨rfl, hb⟩; refine ⟨_, rfl, ?_⟩; have n0_ := Aside0.mk (Kd.R_below (by (with_reducible repeat (first | apply Kd.R_alloc | apply Kd.R_drewN | apply Kd.R_drew)); exact HO_4.out) hb); have n1_ := Aside0.mk (below_step (by repeat (first | (with_reducible first | exact HB.out | apply below_alloc | apply pw_below_drewN | apply below_drew1) | exact HB.out)) hb); clear HO_4; clear HB; have HO_4 := n0_; have HB := n1_; clear n0_ n1_; (try clear hb); (try clear hb2); (try clear hk); (try clear hi)) | ((with_reducible refine gate_callee (f := 36) rfl ?_); refine goesL_ (some 28) rfl rfl Tryd.func36 (by kernel_rfl) rfl #[.string t131] rfl (by (try simp only [List.map_toArray, List.map_cons, List.map_nil]); first | done | rfl | (simp only [List.length_drop, List.length_take]; rfl)) ?_; (with_reducible refine (impl_tick.calls t131 t132 _ A14.out ?sml).mono ?_); (case sml => first | exact HML.out | exact ML.of_below HML.out HB.out | (refine ML.of_below HML.out ?_; repeat (first | (with_reducible first | exact HB.out | apply below_alloc | apply pw_below_drewN | apply below_drew1) | exact HB.out)) | (repeat (first | exact HML.out | (with_reducible refine ML.drewN ?_ _) | (with_reducible refine ML.drew ?_) | (with_reducible refine ML.alloc ?_ _)))); rintro e w18 ⟨rfl, hb⟩; refine ⟨_, rfl, ?_⟩; have n0_ := Aside0.mk (Kd.R_below (by (with_reducible repeat (first | apply Kd.R_alloc | apply Kd.R_drewN | apply Kd.R_drew)); exact HO_4.out) hb); have n1_ := Aside0.mk (below_step (by repeat (first | (with_reducible first | exact HB.out | apply below_alloc | apply pw_below_drewN | apply below_drew1) | exact HB.out)) hb); clear HO_4; clear HB; have HO_4 := n0_; have HB := n1_; clear n0_ n1_; (try clear hb); (try clear hb2); (try clear hk); (try clear hi)) | ((with_reducible refine gate_builtin (b := .append) (xs := #[.tmp 31, .tmp 33]) rfl ?_); (try (refine gate_guard (by rfl) ?_; dsimp only)); at_builtin; refine Kd.R_append Kd.string (w0 := w) w.heap.size rfl (.tmp 31) (.tmp 33) 30 9 (.string ⟨#[]⟩) 16 rfl Tryd.underlying30 info9 rfl (by decide) (by omega) u4 x4_2 t131 [.string t131] (fun _ => True) (fun _ => False) rfl rfl ?aP (fun _ hk => hk.elim) ?aF ?aO ?aB ?aS ?aL ?_; (case aP => exact rfl); (case aB => exact (by repeat (first | (with_reducible first | exact HB.out | apply below_alloc | apply pw_below_drewN | apply below_drew1) | exact HB.out))); (case aF => exact (fun _ _ => trivial)); (case aO => exact (by (with_reducible repeat (first | apply Kd.R_alloc | apply Kd.R_drewN | apply Kd.R_drew)); exact HO_4.out)); (case aS => exact (below_size (by repeat (first | (with_reducible first | exact HB.out | apply below_alloc | apply pw_below_drewN | apply below_drew1) | exact HB.out)))); (case aL => have := LMc16.out; omega); intro v134 w19 ho hb hg hat; rw [← Ny133.out] at ho; have n0_ := Aside0.mk (hb); have n1_ := Aside0.mk (ho); clear HB; clear HO_4; have HB := n0_; have HO135 := n1_; clear n0_ n1_; clear ho hb hg hat))
                  go_roundg k2
                  case measure => have := HJ1.out; have := HK2.out; omega
                  case rel => exact ⟨(y133), (wrap64 (x20_2 + 1)), (by first | rfl | (simp; done) | (simp [*]; done)), H', ⟨by have := HJ1.out; have := HK2.out; omega⟩, ⟨by (with_reducible repeat (first | apply Kd.R_alloc | apply Kd.R_drewN | apply Kd.R_drew)); exact HO135.out⟩, ⟨by repeat (first | (with_reducible first | exact HB.out | apply below_alloc | apply pw_below_drewN | apply below_drew1) | exact HB.out)⟩⟩
                · rw [if_neg c16] at H
                  exact absurd H (by simp)
              · rw [if_neg c15] at H
                have c15b0 : (t132.toList == a0.toList) = false := beq_eq_false_iff_ne.mpr c15
                have c15b1 : (t132.toList != a0.toList) = true := bne_iff_ne.mpr c15
                have H' := Aside0.mk H
                clear H
                go_wp2_with (first | ((with_reducible refine gate_callee (f := 35) rfl ?_); refine goesL_ (some 26) rfl rfl Tryd.func35 (by kernel_rfl) rfl #[.int .i64 (a0.size : Int), .int .i64 x20_2] rfl (by (try simp only [List.map_toArray, List.map_cons, List.map_nil]); first | done | rfl | (simp only [List.length_drop, List.length_take]; rfl)) ?_; (with_reducible refine (impl_rowOf.calls k2 (a0.size : Int) x20_2 t131 _ A13.out).mono ?_); rintro e w20 ⟨rfl, hb⟩; refine ⟨_, rfl, ?_⟩; have n0_ := Aside0.mk (Kd.R_below (by (with_reducible repeat (first | apply Kd.R_alloc | apply Kd.R_drewN | apply Kd.R_drew)); exact HO_4.out) hb); have n1_ := Aside0.mk (below_step (by repeat (first | (with_reducible first | exact HB.out | apply below_alloc | apply pw_below_drewN | apply below_drew1) | exact HB.out)) hb); clear HO_4; clear HB; have HO_4 := n0_; have HB := n1_; clear n0_ n1_; (try clear hb); (try clear hb2); (try clear hk); (try clear hi)) | ((with_reducible refine gate_callee (f := 36) rfl ?_); refine goesL_ (some 28) rfl rfl Tryd.func36 (by kernel_rfl) rfl #[.string t131] rfl (by (try simp only [List.map_toArray, List.map_cons, List.map_nil]); first | done | rfl | (simp only [List.length_drop, List.length_take]; rfl)) ?_; (with_reducible refine (impl_tick.calls t131 t132 _ A14.out ?sml).mono ?_); (case sml => first | exact HML.out | exact ML.of_below HML.out HB.out | (refine ML.of_below HML.out ?_; repeat (first | (with_reducible first | exact HB.out | apply below_alloc | apply pw_below_drewN | apply below_drew1) | exact HB.out)) | (repeat (first | exact HML.out | (with_reducible refine ML.drewN ?_ _) | (with_reducible refine ML.drew ?_) | (with_reducible refine ML.alloc ?_ _)))); rintro e w21 ⟨rfl, hb⟩; refine ⟨_, rfl, ?_⟩; have n0_ := Aside0.mk (Kd.R_below (by (with_reducible repeat (first | apply Kd.R_alloc | apply Kd.R_drewN | apply Kd.R_drew)); exact HO_4.out) hb); have n1_ := Aside0.mk (below_step (by repeat (first | (with_reducible first | exact HB.out | apply below_alloc | apply pw_below_drewN | apply below_drew1) | exact HB.out)) hb); clear HO_4; clear HB; have HO_4 := n0_; have HB := n1_; clear n0_ n1_; (try clear hb); (try clear hb2); (try clear hk); (try clear hi)))
                go_roundg k2
                case measure => have := HJ1.out; have := HK2.out; omega
                case rel => exact ⟨(x4_2), (wrap64 (x20_2 + 1)), (by first | rfl | (simp; done) | (simp [*]; done)), H', ⟨by have := HJ1.out; have := HK2.out; omega⟩, ⟨by (with_reducible repeat (first | apply Kd.R_alloc | apply Kd.R_drewN | apply Kd.R_drew)); exact HO_4.out⟩, ⟨by repeat (first | (with_reducible first | exact HB.out | apply below_alloc | apply pw_below_drewN | apply below_drew1) | exact HB.out)⟩⟩
            · rw [if_neg c12] at H
              have c12b0 : decide (x20_2 < ji9) = false := decide_eq_false c12
              (try have c12b0s : decide (x20_2 < wrap64 (2 ^ min a0.size 64)) = false := by rw [hji9s.out]; exact c12b0)
              clear c12
              simp only [Option.some.injEq, Prod.mk.injEq] at H
              obtain ⟨rfl, rfl⟩ := H
              go_wp2
              go_ret2
              exact ⟨_, by first | rfl | (simp [errW_none, errW_some] <;> rfl) | (simp only [← hji9]; first | rfl | (simp [errW_none, errW_some] <;> rfl)) | (simp [*, errW_none, errW_some] <;> rfl), by (with_reducible repeat (first | apply Kd.R_alloc | apply Kd.R_drewN | apply Kd.R_drew)); exact HO_4.out, by repeat (first | (with_reducible first | exact HB.out | apply below_alloc | apply pw_below_drewN | apply below_drew1) | exact HB.out)⟩

/-! ### impl_HasBefore: function 21 -/
def impl_HasBefore.f (k : Nat) (a0 : ByteArray) : Option (Bool × Bool) := (impl_RowsBefore.f k a0).bind fun bt136 => (some (decide ((bt136.1.length : Int) > 0), bt136.2))
theorem impl_HasBefore.mono : ∀ a0 k, LeO (impl_HasBefore.f k a0) (impl_HasBefore.f (k + 1) a0) := by
  intro a0 k
  unfold impl_HasBefore.f
  repeat' first
      | (with_reducible exact impl_RowsBefore.mono _ _)
      | (with_reducible exact LeO.refl _)
      | (with_reducible exact LeO.none _)
      | (with_reducible refine LeO.ite ?_ ?_)
      | (with_reducible refine LeO.bind ?_ (fun _ => ?_))
      | exact impl_RowsBefore.mono _ _
      | exact LeO.none _
      | refine LeO.ite ?_ ?_
      | refine LeO.bind ?_ (fun _ => ?_)
set_option maxHeartbeats 8000000 in
set_option maxRecDepth 100000 in
theorem impl_HasBefore.calls (k : Nat) (a0 : ByteArray) (r1 : Bool) (r2 : Bool) (w : World) (h : impl_HasBefore.f k a0 = some (r1, r2)) (hML : ML w) :
    Calls Tryd.prog 21 #[.string a0] w fun e w' => e = .returned (.tuple #[.bool r1, .bool r2]) ∧ Below w.heap.size w w' := by
  have HML := Aside0.mk hML
  clear hML
  have HB := Aside0.mk (Below.refl w.heap.size w)
  have H : ((impl_RowsBefore.f k a0).bind fun bt136 => (some (decide ((bt136.1.length : Int) > 0), bt136.2))) = some (r1, r2) := h
  clear h
  replace H := Option.bind_eq_some_iff.mp H
  obtain ⟨⟨t136, t137⟩, A20, H⟩ := H
  replace H : (some (decide ((t136.length : Int) > 0), t137)) = some (r1, r2) := H
  have A2 := Aside0.mk A20
  clear A20
  simp only [Option.some.injEq, Prod.mk.injEq] at H
  obtain ⟨rfl, rfl⟩ := H
  go_enter Tryd.func21, Tryd.ntmps21
  go_wp2_with (first | ((with_reducible refine gate_callee (f := 16) rfl ?_); refine goesL_ (some 8) rfl rfl Tryd.func16 (by kernel_rfl) rfl #[.string a0] rfl (by (try simp only [List.map_toArray, List.map_cons, List.map_nil]); first | done | rfl | (simp only [List.length_drop, List.length_take]; rfl)) ?_; (with_reducible refine (impl_RowsBefore.calls k a0 t136 t137 _ A2.out ?sml).mono ?_); (case sml => first | exact HML.out | exact ML.of_below HML.out HB.out | (refine ML.of_below HML.out ?_; repeat (first | (with_reducible first | exact HB.out | apply below_alloc | apply pw_below_drewN | apply below_drew1) | exact HB.out)) | (repeat (first | exact HML.out | (with_reducible refine ML.drewN ?_ _) | (with_reducible refine ML.drew ?_) | (with_reducible refine ML.alloc ?_ _)))); rintro e w3 ⟨v138, rfl, ho0, hb⟩; refine ⟨_, rfl, ?_⟩; have n0_ := Aside0.mk (Kd.R_lower ho0 (below_size (by repeat (first | (with_reducible first | exact HB.out | apply below_alloc | apply pw_below_drewN | apply below_drew1) | exact HB.out)))); have n1_ := Aside0.mk (below_step (by repeat (first | (with_reducible first | exact HB.out | apply below_alloc | apply pw_below_drewN | apply below_drew1) | exact HB.out)) hb); clear HB; have HO139 := n0_; have HB := n1_; clear n0_ n1_; (try clear hb); (try clear hb2); (try clear hk); (try clear hi); (try clear ho0); obtain ⟨Ao4, co4, eo4⟩ := Kd.R_slice HO139.out; subst eo4))
  go_ret2
  exact ⟨by first | rfl | (simp [errW_none, errW_some] <;> rfl) | (simp [*, errW_none, errW_some] <;> rfl), by repeat (first | (with_reducible first | exact HB.out | apply below_alloc | apply pw_below_drewN | apply below_drew1) | exact HB.out)⟩

/-! ### laws_FnExactHasBefore: function 6 -/
def laws_FnExactHasBefore.f (k : Nat) (a0 : ByteArray) : Option (Bool) := if (a0.size : Int) > 1048576 then (some true) else ((spec_HasBefore.f k a0).bind fun bt140 => ((impl_HasBefore.f k a0).bind fun bt142 => (if (bt142.1 != bt140.1) = true then (some false) else (if (bt142.2 != bt140.2) = true then (some false) else (some true)))))
theorem laws_FnExactHasBefore.mono : ∀ a0 k, LeO (laws_FnExactHasBefore.f k a0) (laws_FnExactHasBefore.f (k + 1) a0) := by
  intro a0 k
  unfold laws_FnExactHasBefore.f
  repeat' first
      | (with_reducible exact impl_HasBefore.mono _ _)
      | (with_reducible exact spec_HasBefore.mono _ _)
      | (with_reducible exact LeO.refl _)
      | (with_reducible exact LeO.none _)
      | (with_reducible refine LeO.ite ?_ ?_)
      | (with_reducible refine LeO.bind ?_ (fun _ => ?_))
      | exact impl_HasBefore.mono _ _
      | exact spec_HasBefore.mono _ _
      | exact LeO.none _
      | refine LeO.ite ?_ ?_
      | refine LeO.bind ?_ (fun _ => ?_)
set_option maxHeartbeats 8000000 in
set_option maxRecDepth 100000 in
theorem laws_FnExactHasBefore.calls (k : Nat) (a0 : ByteArray) (r : Bool) (w : World) (h : laws_FnExactHasBefore.f k a0 = some r) (hML : ML w) :
    Calls Tryd.prog 6 #[.string a0] w fun e w' => e = .returned (.bool r) ∧ Below w.heap.size w w' := by
  have HML := Aside0.mk hML
  clear hML
  have HB := Aside0.mk (Below.refl w.heap.size w)
  have H : (if (a0.size : Int) > 1048576 then (some true) else ((spec_HasBefore.f k a0).bind fun bt140 => ((impl_HasBefore.f k a0).bind fun bt142 => (if (bt142.1 != bt140.1) = true then (some false) else (if (bt142.2 != bt140.2) = true then (some false) else (some true)))))) = some r := h
  clear h
  by_cases c2 : (a0.size : Int) > 1048576
  · rw [if_pos c2] at H
    have c2b0 : decide (1048576 < (a0.size : Int)) = true := decide_eq_true c2
    have c2b1 : decide (1048576 < a0.size) = true := decide_eq_true (by omega)
    clear c2
    obtain rfl := Option.some.inj H
    go_enter Tryd.func6, Tryd.ntmps6
    go_wp2
    go_ret
    exact ⟨by first | rfl | (simp [errW_none, errW_some] <;> rfl) | (simp [*, errW_none, errW_some] <;> rfl), by repeat (first | (with_reducible first | exact HB.out | apply below_alloc | apply pw_below_drewN | apply below_drew1) | exact HB.out)⟩
  · rw [if_neg c2] at H
    have c2b0 : decide (1048576 < (a0.size : Int)) = false := decide_eq_false c2
    have c2b1 : decide (1048576 < a0.size) = false := decide_eq_false (by omega)
    clear c2
    replace H := Option.bind_eq_some_iff.mp H
    obtain ⟨⟨t140, t141⟩, A30, H⟩ := H
    replace H : ((impl_HasBefore.f k a0).bind fun bt142 => (if (bt142.1 != t140) = true then (some false) else (if (bt142.2 != t141) = true then (some false) else (some true)))) = some r := H
    have A3 := Aside0.mk A30
    clear A30
    replace H := Option.bind_eq_some_iff.mp H
    obtain ⟨⟨t142, t143⟩, A40, H⟩ := H
    replace H : (if (t142 != t140) = true then (some false) else (if (t143 != t141) = true then (some false) else (some true))) = some r := H
    have A4 := Aside0.mk A40
    clear A40
    by_cases c5 : (t142 != t140) = true
    · rw [if_pos c5] at H
      have c5b0 : (t142 != t140) = true := c5
      (try (have c5b1 : decide (t142 = t140) = false := by simpa using c5))
      (try (have c5b2 : (t142 == t140) = false := by simpa using c5))
      (try (have c5b3 : ¬ (t142 = t140) := by simpa using c5))
      clear c5
      obtain rfl := Option.some.inj H
      go_enter Tryd.func6, Tryd.ntmps6
      go_wp2_with (first | ((with_reducible refine gate_callee (f := 20) rfl ?_); refine goesL_ (some 12) rfl rfl Tryd.func20 (by kernel_rfl) rfl #[.string a0] rfl (by (try simp only [List.map_toArray, List.map_cons, List.map_nil]); first | done | rfl | (simp only [List.length_drop, List.length_take]; rfl)) ?_; (with_reducible refine (spec_HasBefore.calls k a0 t140 t141 _ A3.out).mono ?_); rintro e w6 ⟨rfl, hb⟩; refine ⟨_, rfl, ?_⟩; have n0_ := Aside0.mk (below_step (by repeat (first | (with_reducible first | exact HB.out | apply below_alloc | apply pw_below_drewN | apply below_drew1) | exact HB.out)) hb); clear HB; have HB := n0_; clear n0_; (try clear hb); (try clear hb2); (try clear hk); (try clear hi)) | ((with_reducible refine gate_callee (f := 21) rfl ?_); refine goesL_ (some 17) rfl rfl Tryd.func21 (by kernel_rfl) rfl #[.string a0] rfl (by (try simp only [List.map_toArray, List.map_cons, List.map_nil]); first | done | rfl | (simp only [List.length_drop, List.length_take]; rfl)) ?_; (with_reducible refine (impl_HasBefore.calls k a0 t142 t143 _ A4.out ?sml).mono ?_); (case sml => first | exact HML.out | exact ML.of_below HML.out HB.out | (refine ML.of_below HML.out ?_; repeat (first | (with_reducible first | exact HB.out | apply below_alloc | apply pw_below_drewN | apply below_drew1) | exact HB.out)) | (repeat (first | exact HML.out | (with_reducible refine ML.drewN ?_ _) | (with_reducible refine ML.drew ?_) | (with_reducible refine ML.alloc ?_ _)))); rintro e w7 ⟨rfl, hb⟩; refine ⟨_, rfl, ?_⟩; have n0_ := Aside0.mk (below_step (by repeat (first | (with_reducible first | exact HB.out | apply below_alloc | apply pw_below_drewN | apply below_drew1) | exact HB.out)) hb); clear HB; have HB := n0_; clear n0_; (try clear hb); (try clear hb2); (try clear hk); (try clear hi)))
      go_ret
      exact ⟨by first | rfl | (simp [errW_none, errW_some] <;> rfl) | (simp [*, errW_none, errW_some] <;> rfl), by repeat (first | (with_reducible first | exact HB.out | apply below_alloc | apply pw_below_drewN | apply below_drew1) | exact HB.out)⟩
    · rw [if_neg c5] at H
      have c5b0 : (t142 != t140) = false := by simpa using c5
      (try (have c5b1 : decide (t142 = t140) = true := by simpa using c5))
      (try (have c5b2 : (t142 == t140) = true := by simpa using c5))
      clear c5
      by_cases c8 : (t143 != t141) = true
      · rw [if_pos c8] at H
        have c8b0 : (t143 != t141) = true := c8
        (try (have c8b1 : decide (t143 = t141) = false := by simpa using c8))
        (try (have c8b2 : (t143 == t141) = false := by simpa using c8))
        (try (have c8b3 : ¬ (t143 = t141) := by simpa using c8))
        clear c8
        obtain rfl := Option.some.inj H
        go_enter Tryd.func6, Tryd.ntmps6
        go_wp2_with (first | ((with_reducible refine gate_callee (f := 20) rfl ?_); refine goesL_ (some 12) rfl rfl Tryd.func20 (by kernel_rfl) rfl #[.string a0] rfl (by (try simp only [List.map_toArray, List.map_cons, List.map_nil]); first | done | rfl | (simp only [List.length_drop, List.length_take]; rfl)) ?_; (with_reducible refine (spec_HasBefore.calls k a0 t140 t141 _ A3.out).mono ?_); rintro e w9 ⟨rfl, hb⟩; refine ⟨_, rfl, ?_⟩; have n0_ := Aside0.mk (below_step (by repeat (first | (with_reducible first | exact HB.out | apply below_alloc | apply pw_below_drewN | apply below_drew1) | exact HB.out)) hb); clear HB; have HB := n0_; clear n0_; (try clear hb); (try clear hb2); (try clear hk); (try clear hi)) | ((with_reducible refine gate_callee (f := 21) rfl ?_); refine goesL_ (some 17) rfl rfl Tryd.func21 (by kernel_rfl) rfl #[.string a0] rfl (by (try simp only [List.map_toArray, List.map_cons, List.map_nil]); first | done | rfl | (simp only [List.length_drop, List.length_take]; rfl)) ?_; (with_reducible refine (impl_HasBefore.calls k a0 t142 t143 _ A4.out ?sml).mono ?_); (case sml => first | exact HML.out | exact ML.of_below HML.out HB.out | (refine ML.of_below HML.out ?_; repeat (first | (with_reducible first | exact HB.out | apply below_alloc | apply pw_below_drewN | apply below_drew1) | exact HB.out)) | (repeat (first | exact HML.out | (with_reducible refine ML.drewN ?_ _) | (with_reducible refine ML.drew ?_) | (with_reducible refine ML.alloc ?_ _)))); rintro e w10 ⟨rfl, hb⟩; refine ⟨_, rfl, ?_⟩; have n0_ := Aside0.mk (below_step (by repeat (first | (with_reducible first | exact HB.out | apply below_alloc | apply pw_below_drewN | apply below_drew1) | exact HB.out)) hb); clear HB; have HB := n0_; clear n0_; (try clear hb); (try clear hb2); (try clear hk); (try clear hi)))
        go_ret
        exact ⟨by first | rfl | (simp [errW_none, errW_some] <;> rfl) | (simp [*, errW_none, errW_some] <;> rfl), by repeat (first | (with_reducible first | exact HB.out | apply below_alloc | apply pw_below_drewN | apply below_drew1) | exact HB.out)⟩
      · rw [if_neg c8] at H
        have c8b0 : (t143 != t141) = false := by simpa using c8
        (try (have c8b1 : decide (t143 = t141) = true := by simpa using c8))
        (try (have c8b2 : (t143 == t141) = true := by simpa using c8))
        clear c8
        obtain rfl := Option.some.inj H
        go_enter Tryd.func6, Tryd.ntmps6
        go_wp2_with (first | ((with_reducible refine gate_callee (f := 20) rfl ?_); refine goesL_ (some 12) rfl rfl Tryd.func20 (by kernel_rfl) rfl #[.string a0] rfl (by (try simp only [List.map_toArray, List.map_cons, List.map_nil]); first | done | rfl | (simp only [List.length_drop, List.length_take]; rfl)) ?_; (with_reducible refine (spec_HasBefore.calls k a0 t140 t141 _ A3.out).mono ?_); rintro e w11 ⟨rfl, hb⟩; refine ⟨_, rfl, ?_⟩; have n0_ := Aside0.mk (below_step (by repeat (first | (with_reducible first | exact HB.out | apply below_alloc | apply pw_below_drewN | apply below_drew1) | exact HB.out)) hb); clear HB; have HB := n0_; clear n0_; (try clear hb); (try clear hb2); (try clear hk); (try clear hi)) | ((with_reducible refine gate_callee (f := 21) rfl ?_); refine goesL_ (some 17) rfl rfl Tryd.func21 (by kernel_rfl) rfl #[.string a0] rfl (by (try simp only [List.map_toArray, List.map_cons, List.map_nil]); first | done | rfl | (simp only [List.length_drop, List.length_take]; rfl)) ?_; (with_reducible refine (impl_HasBefore.calls k a0 t142 t143 _ A4.out ?sml).mono ?_); (case sml => first | exact HML.out | exact ML.of_below HML.out HB.out | (refine ML.of_below HML.out ?_; repeat (first | (with_reducible first | exact HB.out | apply below_alloc | apply pw_below_drewN | apply below_drew1) | exact HB.out)) | (repeat (first | exact HML.out | (with_reducible refine ML.drewN ?_ _) | (with_reducible refine ML.drew ?_) | (with_reducible refine ML.alloc ?_ _)))); rintro e w12 ⟨rfl, hb⟩; refine ⟨_, rfl, ?_⟩; have n0_ := Aside0.mk (below_step (by repeat (first | (with_reducible first | exact HB.out | apply below_alloc | apply pw_below_drewN | apply below_drew1) | exact HB.out)) hb); clear HB; have HB := n0_; clear n0_; (try clear hb); (try clear hb2); (try clear hk); (try clear hi)))
        go_ret
        exact ⟨by first | rfl | (simp [errW_none, errW_some] <;> rfl) | (simp [*, errW_none, errW_some] <;> rfl), by repeat (first | (with_reducible first | exact HB.out | apply below_alloc | apply pw_below_drewN | apply below_drew1) | exact HB.out)⟩

/-- THE ONE PURE STATEMENT of laws_FnExactHasBefore: yours. -/
def laws_FnExactHasBefore.Pure : Prop := ∀ (a0 : ByteArray), a0.size ≤ 140737488351232 → ∃ k, laws_FnExactHasBefore.f k a0 = some true
theorem laws_FnExactHasBefore.walk (P : laws_FnExactHasBefore.Pure) (a0 : ByteArray) (w : World) (w0 : a0.size ≤ 140737488351232) (hML : ML w) :
    Calls Tryd.prog 6 #[.string a0] w fun e w' => e = .returned (.bool true) ∧ Below w.heap.size w w' := by
  obtain ⟨k, h⟩ := P a0 w0
  refine (laws_FnExactHasBefore.calls k a0 true w h hML).mono ?_
  rintro e w' ⟨rfl, hd⟩
  exact ⟨rfl, hd⟩

end Go.Proofs.YthaajflhjblkeacDoor.PFnExactHasBefore
