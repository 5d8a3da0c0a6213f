/- A text of this session for the law FnExactRowAfter of the seat YthaajflhjblkeabDoor: the functions that the law uses and their walks. -/
import Derived.Test.YthaajflhjblkeabDoorPFnExactRowAfterx0
import Derived.Test.YthaajflhjblkeabDoorPFnExactRowAfterx1
namespace Go.Proofs.YthaajflhjblkeabDoor.PFnExactRowAfter
open Go.RowKit Go.Proofs.YthaajflhjblkeabDoorW.PrintWords Go.Proofs.YthaajflhjblkeabDoorW.PrintLast Go.Proofs.YthaajflhjblkeabDoorW.PrintMore
attribute [local go_sem] max2_int min2_int max_two min_two max_three min_three max_four min_four   -- for this text's walks alone
set_option linter.unusedVariables false
set_option linter.unusedSimpArgs false

/-! ### impl_tick: function 24 -/
/-- All who face each other turn. -/
def tkB : List UInt8 → List UInt8
  | a :: b :: t => if (a == 62 && b == 60) = true then 60 :: 62 :: tkB t else a :: tkB (b :: t)
  | l => l
theorem prefix_two' (a b : UInt8) (t : List UInt8) : [62, 60].isPrefixOf (a :: b :: t) = (a == 62 && b == 60) := by
  have h1 : ((62 : UInt8) == a) = (a == 62) := BEq.comm
  have h2 : ((60 : UInt8) == b) = (b == 60) := BEq.comm
  simp only [List.isPrefixOf, Bool.and_true, h1, h2]
theorem prefix_one (a : UInt8) : [62, 60].isPrefixOf [a] = false := by simp [List.isPrefixOf]
theorem tk_miss : ∀ l : List UInt8, Lib.index l [62, 60] = -1 → tkB l = l
  | [], _ => rfl
  | [a], _ => rfl
  | a :: b :: t, h => by
    have hge := Lib.index_ge (b :: t) [62, 60]
    rw [Lib.index, prefix_two'] at h
    by_cases c : (a == 62 && b == 60) = true
    · rw [if_pos c] at h; omega
    · rw [if_neg c] at h
      have h2 : Lib.index (b :: t) [62, 60] = -1 := by
        by_cases h3 : Lib.index (b :: t) [62, 60] = -1
        · exact h3
        · rw [if_neg (by simpa using h3)] at h; omega
      rw [tkB, if_neg c, tk_miss (b :: t) h2]
theorem tk_hit : ∀ (l : List UInt8) (i : Nat), Lib.index l [62, 60] = (i : Int) → tkB l = l.take i ++ [60, 62] ++ tkB (l.drop (i + 2)) ∧ i + 2 ≤ l.length
  | [], i, h => by
    simp [Lib.index] at h
    try omega
  | [a], i, h => by
    rw [Lib.index, prefix_one] at h
    simp [Lib.index] at h
    try omega
  | a :: b :: t, i, h => by
    have hge := Lib.index_ge (b :: t) [62, 60]
    rw [Lib.index, prefix_two'] at h
    by_cases c : (a == 62 && b == 60) = true
    · rw [if_pos c] at h
      obtain rfl : i = 0 := by omega
      rw [tkB, if_pos c]
      simp
    · rw [if_neg c] at h
      by_cases h3 : Lib.index (b :: t) [62, 60] = -1
      · rw [if_pos (by simp [h3])] at h; omega
      · rw [if_neg (by simpa using h3)] at h
        obtain ⟨j, rfl⟩ : ∃ j, i = j + 1 := ⟨i - 1, by omega⟩
        have ih := tk_hit (b :: t) j (by omega)
        rw [tkB, if_neg c, ih.1]
        refine ⟨by simp, by have := ih.2; simp at this ⊢; omega⟩
theorem tk_replace : ∀ (f : Nat) (l : List UInt8), l.length < f → Lib.replaceK [62, 60] [60, 62] (Lib.countFrom [62, 60] f l) l = tkB l
  | 0, l, h => by omega
  | f + 1, l, h => by
    have hge := Lib.index_ge l [62, 60]
    by_cases h1 : Lib.index l [62, 60] = -1
    · rw [Lib.countFrom, if_pos (by simp [h1]), Lib.replaceK, tk_miss l h1]
    · obtain ⟨i, hi⟩ : ∃ i : Nat, Lib.index l [62, 60] = (i : Int) := ⟨(Lib.index l [62, 60]).toNat, by omega⟩
      have hh := tk_hit l i hi
      rw [Lib.countFrom, if_neg (by simpa using h1), Nat.add_comm, Lib.replaceK_hit _ _ _ _ i hi, hh.1, hi]
      congr 1
      exact tk_replace f (l.drop (i + 2)) (by rw [List.length_drop]; omega)
theorem tk_all (l : List UInt8) : Lib.replaceAll l [62, 60] [60, 62] = tkB l := by
  unfold Lib.replaceAll Lib.replace
  rw [if_neg (by decide)]
  unfold Lib.replaceNum
  rw [if_pos (Or.inl (by decide))]
  exact tk_replace (l.length + 1) l (by omega)
def impl_tick.f (a0 : ByteArray) : Option (ByteArray) := if a0.size < 1000000 then some ⟨(tkB a0.data.toList).toArray⟩ else none
set_option maxHeartbeats 1600000 in
set_option maxRecDepth 100000 in
theorem impl_tick.calls (a0 : ByteArray) (r : ByteArray) (w : World) (h : impl_tick.f a0 = some r) (hML : ML w) :
    Calls Tryd.prog 24 #[.string a0] w fun e w' => e = .returned (.string r) ∧ Below w.heap.size w w' := by
  unfold impl_tick.f at h
  by_cases c : a0.size < 1000000
  · rw [if_pos c] at h
    obtain rfl := Option.some.inj h
    obtain ⟨⟨m, hm⟩, _⟩ := hML
    have hcnt := Lib.countB_le ⟨#[62, 60]⟩ (by decide) a0.size a0 (Nat.le_refl _)
    have hC := Aside0.mk (show Calls Tryd.prog 36 #[.string a0, .string ⟨#[62, 60]⟩, .string ⟨#[60, 62]⟩] w (fun e w' => e = .returned (.string ⟨(Lib.replaceAll a0.data.toList [62, 60] [60, 62]).toArray⟩) ∧ Below w.heap.size w w') from Any.strings_ReplaceAll Tryd.lays155 Tryd.Builder_Extra_155 a0 ⟨#[62, 60]⟩ ⟨#[60, 62]⟩ m w (by omega) hm (by decide) (by
      have : (⟨#[60, 62]⟩ : ByteArray).size = 2 := rfl
      rw [this]; omega))
    rw [← tk_all]
    generalize (⟨(Lib.replaceAll a0.data.toList [62, 60] [60, 62]).toArray⟩ : ByteArray) = r at hC
    clear c hm hcnt
    go_enter Tryd.func24, Tryd.ntmps24
    go_wp2_with (go_at_call 36; refine hC.out.mono ?_; rintro e w' ⟨rfl, hB⟩)
    go_ret
    exact ⟨rfl, hB⟩
  · rw [if_neg c] at h
    exact absurd h (by simp)

/-! ### impl_isAtRest: function 28 -/
/-- Do two face each other? -/
def hasB : List UInt8 → Bool
  | a :: b :: t => (a == 62 && b == 60) || hasB (b :: t)
  | _ => false
theorem prefix_two (a : UInt8) (l : List UInt8) : [62, 60].isPrefixOf (a :: l) = (a == 62 && (match l with | b :: _ => b == 60 | [] => false)) := by
  have h1 : ((62 : UInt8) == a) = (a == 62) := BEq.comm
  cases l with
  | nil => simp only [List.isPrefixOf, h1]
  | cons b t =>
    have h2 : ((60 : UInt8) == b) = (b == 60) := BEq.comm
    simp only [List.isPrefixOf, Bool.and_true, h1, h2]
theorem index_two : ∀ l : List UInt8, decide (0 ≤ Lib.index l [62, 60]) = hasB l
  | [] => by simp [Lib.index, hasB]
  | [a] => by simp [Lib.index, hasB, prefix_two]
  | a :: b :: t => by
    have ih := index_two (b :: t)
    have hge := Lib.index_ge (b :: t) [62, 60]
    rw [Lib.index, prefix_two]
    simp only [hasB]
    by_cases h : (a == 62 && b == 60) = true
    · rw [if_pos h, h]; simp
    · rw [if_neg h, Bool.eq_false_iff.mpr h, Bool.false_or, ← ih]
      by_cases h2 : Lib.index (b :: t) [62, 60] = -1
      · rw [if_pos (by simp [h2]), h2]
      · rw [if_neg (by simpa using h2)]
        rw [decide_eq_decide]
        omega
def impl_isAtRest.f (a0 : ByteArray) : Option (Bool) := if a0.size < 4294967281 then some (!hasB a0.data.toList) else none
set_option maxHeartbeats 1600000 in
set_option maxRecDepth 100000 in
theorem impl_isAtRest.calls (a0 : ByteArray) (r : Bool) (w : World) (h : impl_isAtRest.f a0 = some r) (hML : ML w) :
    Calls Tryd.prog 28 #[.string a0] w fun e w' => e = .returned (.bool r) ∧ Drawn0 w w' := by
  unfold impl_isAtRest.f at h
  by_cases c : a0.size < 4294967281
  · rw [if_pos c] at h
    obtain rfl := Option.some.inj h
    obtain ⟨⟨m, hm⟩, _⟩ := hML
    have hC := Aside0.mk (show Calls Tryd.prog 37 #[.string a0, .string ⟨#[62, 60]⟩] w (fun e w' => e = .returned (.bool (Lib.contains a0.data.toList [62, 60])) ∧ w' = w) from Any.strings_Contains Tryd.lays144 a0 ⟨#[62, 60]⟩ m w c hm)
    have hv : Aside0 (Lib.contains a0.data.toList [62, 60] = hasB a0.data.toList) := ⟨index_two _⟩
    rw [← hv.out]
    clear hv
    generalize Lib.contains a0.data.toList [62, 60] = b at hC
    clear c hm
    go_enter Tryd.func28, Tryd.ntmps28
    go_wp2_with (go_at_call 37; refine hC.out.mono ?_; rintro e w' ⟨rfl, rfl⟩)
    go_ret
    exact ⟨rfl, Drawn0.refl _⟩
  · rw [if_neg c] at h
    exact absurd h (by simp)

/-! ### impl_RowAfter: function 13 -/
mutual
def impl_RowAfter.j0 : Nat → ByteArray → Int → Bool → Option (ByteArray × Bool)
  | 0, _, _, _ => none
  | k + 1, x0, x1, x13 => if x13 = true then (some ((⟨#[]⟩ : ByteArray), false)) else (impl_RowAfter.l0 k x0 x1)
def impl_RowAfter.l0 : Nat → ByteArray → Int → Option (ByteArray × Bool)
  | 0, _, _ => none
  | k + 1, x0, x1 => if x1 > 0 then ((impl_isAtRest.f x0).bind fun t117 => (if t117 = true then (some (x0, true)) else ((impl_tick.f x0).bind fun t118 => (impl_RowAfter.l0 k t118 (wrap64 (x1 - 1)))))) else (some (x0, true))
end
def impl_RowAfter.f (k : Nat) (a0 : ByteArray) (a1 : Int) : Option (ByteArray × Bool) := (impl_isRow.f a0).bind fun t115 => (if t115 = true then ((impl_in.f a1 0 1000000).bind fun t116 => (impl_RowAfter.j0 k a0 a1 (!t116))) else (impl_RowAfter.j0 k a0 a1 true))
theorem impl_RowAfter.mono_l : ∀ k, (∀ y0 y1 y2, LeO (impl_RowAfter.j0 k y0 y1 y2) (impl_RowAfter.j0 (k + 1) y0 y1 y2)) ∧ (∀ y0 y1, LeO (impl_RowAfter.l0 k y0 y1) (impl_RowAfter.l0 (k + 1) y0 y1))
  | 0 => ⟨fun _ _ _ r h => by simp [impl_RowAfter.j0] at h, fun _ _ r h => by simp [impl_RowAfter.l0] at h⟩
  | k + 1 => by
    obtain ⟨ih0, ih1⟩ := impl_RowAfter.mono_l k
    refine ⟨?_, ?_⟩
    · intro y0 y1 y2
      unfold impl_RowAfter.j0
      repeat' first
      | (with_reducible exact ih0 _ _ _)
      | (with_reducible exact ih1 _ _)
      | (with_reducible exact LeO.refl _)
      | (with_reducible exact LeO.none _)
      | (with_reducible refine LeO.ite ?_ ?_)
      | (with_reducible refine LeO.bind ?_ (fun _ => ?_))
      | exact ih0 _ _ _
      | exact ih1 _ _
      | exact LeO.none _
      | refine LeO.ite ?_ ?_
      | refine LeO.bind ?_ (fun _ => ?_)
    · intro y0 y1
      unfold impl_RowAfter.l0
      repeat' first
      | (with_reducible exact ih0 _ _ _)
      | (with_reducible exact ih1 _ _)
      | (with_reducible exact LeO.refl _)
      | (with_reducible exact LeO.none _)
      | (with_reducible refine LeO.ite ?_ ?_)
      | (with_reducible refine LeO.bind ?_ (fun _ => ?_))
      | exact ih0 _ _ _
      | exact ih1 _ _
      | exact LeO.none _
      | refine LeO.ite ?_ ?_
      | refine LeO.bind ?_ (fun _ => ?_)
theorem impl_RowAfter.mono : ∀ a0 a1 k, LeO (impl_RowAfter.f k a0 a1) (impl_RowAfter.f (k + 1) a0 a1) := by
  intro a0 a1 k
  obtain ⟨ih0, ih1⟩ := impl_RowAfter.mono_l k
  unfold impl_RowAfter.f
  repeat' first
      | (with_reducible exact ih0 _ _ _)
      | (with_reducible exact ih1 _ _)
      | (with_reducible exact LeO.refl _)
      | (with_reducible exact LeO.none _)
      | (with_reducible refine LeO.ite ?_ ?_)
      | (with_reducible refine LeO.bind ?_ (fun _ => ?_))
      | exact ih0 _ _ _
      | exact ih1 _ _
      | exact LeO.none _
      | refine LeO.ite ?_ ?_
      | refine LeO.bind ?_ (fun _ => ?_)
set_option maxHeartbeats 8000000 in
set_option maxRecDepth 100000 in
theorem impl_RowAfter.calls (k : Nat) (a0 : ByteArray) (a1 : Int) (r1 : ByteArray) (r2 : Bool) (w : World) (h : impl_RowAfter.f k a0 a1 = some (r1, r2)) (hML : ML w) :
    Calls Tryd.prog 13 #[.string a0, .int .i64 a1] w fun e w' => e = .returned (.tuple #[.string r1, .bool r2]) ∧ Below w.heap.size w w' := by
  have HML := Aside0.mk hML
  clear hML
  have HB := Aside0.mk (Below.refl w.heap.size w)
  have H : ((impl_isRow.f a0).bind fun t115 => (if t115 = true then ((impl_in.f a1 0 1000000).bind fun t116 => (impl_RowAfter.j0 k a0 a1 (!t116))) else (impl_RowAfter.j0 k a0 a1 true))) = some (r1, r2) := h
  clear h
  have HC3 := Aside0.mk H
  clear H
  go_enter Tryd.func13, Tryd.ntmps13
  go_upto_region 1 with (fail)
  go_cut [13] (fun v13 wc => ∃ (kq : Nat) (x13_2 : Bool), v13 = .bool x13_2 ∧ Aside0 (impl_RowAfter.j0 kq a0 a1 x13_2 = some (r1, r2)) ∧ Aside0 (kq ≤ k) ∧ Aside0 (Below w.heap.size w wc))
  case first =>
    have H := HC3.out
    clear HC3
    replace H := Option.bind_eq_some_iff.mp H
    obtain ⟨t115, A40, H⟩ := H
    replace H : (if t115 = true then ((impl_in.f a1 0 1000000).bind fun t116 => (impl_RowAfter.j0 k a0 a1 (!t116))) else (impl_RowAfter.j0 k a0 a1 true)) = some (r1, r2) := H
    have A4 := Aside0.mk A40
    clear A40
    by_cases c5 : t115 = true
    · subst c5
      have H1 : ((impl_in.f a1 0 1000000).bind fun t116 => (impl_RowAfter.j0 k a0 a1 (!t116))) = some (r1, r2) := by rw [if_pos rfl] at H; exact H
      clear H
      have H := H1
      clear H1
      replace H := Option.bind_eq_some_iff.mp H
      obtain ⟨t116, A60, H⟩ := H
      replace H : (impl_RowAfter.j0 k a0 a1 (!t116)) = some (r1, r2) := H
      have A6 := Aside0.mk A60
      clear A60
      have H' := Aside0.mk H
      clear H
      go_wp2_with (first | ((with_reducible refine gate_callee (f := 20) rfl ?_); refine goesL_ (some 7) rfl rfl Tryd.func20 (by kernel_rfl) rfl #[.string a0] rfl (by (try simp only [List.map_toArray, List.map_cons, List.map_nil]); first | done | rfl | (simp only [List.length_drop, List.length_take]; rfl)) ?_; (with_reducible refine (impl_isRow.calls a0 true _ A4.out).mono ?_); rintro e w7 ⟨rfl, hb⟩; refine ⟨_, rfl, ?_⟩; have n0_ := Aside0.mk (below_step (by repeat (first | (with_reducible first | exact HB.out | apply below_alloc | apply pw_below_drewN | apply below_drew1) | exact HB.out)) hb); clear HB; have HB := n0_; clear n0_; (try clear hb); (try clear hb2); (try clear hk); (try clear hi)) | (go_at_call 27; (with_reducible refine (impl_in.calls a1 0 1000000 t116 _ A6.out).mono ?_); rintro e w' ⟨rfl, ⟨nd, rfl⟩⟩))
      go_meet
      case rel => exact ⟨_, (!t116), (by first | rfl | (simp; done) | (simp [*]; done)), H', ⟨by first | omega | exact Nat.le_refl _⟩, ⟨by repeat (first | (with_reducible first | exact HB.out | apply below_alloc | apply pw_below_drewN | apply below_drew1) | exact HB.out)⟩⟩
    · replace c5 := Bool.eq_false_iff.mpr c5
      subst c5
      have H1 : (impl_RowAfter.j0 k a0 a1 true) = some (r1, r2) := by rw [if_neg (show ¬ (false = true) by decide)] at H; exact H
      clear H
      have H := H1
      clear H1
      have H' := Aside0.mk H
      clear H
      go_wp2_with (first | ((with_reducible refine gate_callee (f := 20) rfl ?_); refine goesL_ (some 7) rfl rfl Tryd.func20 (by kernel_rfl) rfl #[.string a0] rfl (by (try simp only [List.map_toArray, List.map_cons, List.map_nil]); first | done | rfl | (simp only [List.length_drop, List.length_take]; rfl)) ?_; (with_reducible refine (impl_isRow.calls a0 false _ A4.out).mono ?_); rintro e w8 ⟨rfl, hb⟩; refine ⟨_, rfl, ?_⟩; have n0_ := Aside0.mk (below_step (by repeat (first | (with_reducible first | exact HB.out | apply below_alloc | apply pw_below_drewN | apply below_drew1) | exact HB.out)) hb); clear HB; have HB := n0_; clear n0_; (try clear hb); (try clear hb2); (try clear hk); (try clear hi)))
      go_meet
      case rel => exact ⟨_, (true), (by first | rfl | (simp; done) | (simp [*]; done)), H', ⟨by first | omega | exact Nat.le_refl _⟩, ⟨by repeat (first | (with_reducible first | exact HB.out | apply below_alloc | apply pw_below_drewN | apply below_drew1) | exact HB.out)⟩⟩
  case rest =>
    clear HC3
    try clear c1
    try clear c2
    try clear p2
    try clear c5
    obtain ⟨kq, x13_2, rfl, HA, HJ2, HB⟩ := hcut
    cases kq with
    | zero => exact absurd HA.out (by simp [impl_RowAfter.j0])
    | succ kj2 =>
      have H := HA.out
      clear HA
      simp only [impl_RowAfter.j0] at H
      by_cases c9 : x13_2 = true
      · subst c9
        have H1 : (some ((⟨#[]⟩ : ByteArray), false)) = some (r1, r2) := by rw [if_pos rfl] at H; exact H
        clear H
        have H := H1
        clear H1
        simp only [Option.some.injEq, Prod.mk.injEq] at H
        obtain ⟨rfl, rfl⟩ := H
        go_wp2
        go_ret2
        exact ⟨by first | rfl | (simp [errW_none, errW_some] <;> rfl) | (simp [*, errW_none, errW_some] <;> rfl), by repeat (first | (with_reducible first | exact HB.out | apply below_alloc | apply pw_below_drewN | apply below_drew1) | exact HB.out)⟩
      · replace c9 := Bool.eq_false_iff.mpr c9
        subst c9
        have H1 : (impl_RowAfter.l0 kj2 a0 a1) = some (r1, r2) := by rw [if_neg (show ¬ (false = true) by decide)] at H; exact H
        clear H
        have H := H1
        clear H1
        have H' := Aside0.mk H
        clear H
        go_wp2
        go_loopg [0, 1] kj2 (fun kq v0 v1 w' => ∃ (x0_2 : ByteArray) (x1_2 : Int), v0 = .string x0_2 ∧ v1 = .int .i64 x1_2 ∧ Aside0 (impl_RowAfter.l0 kq x0_2 x1_2 = some (r1, r2)) ∧ Aside0 (kq ≤ kj2) ∧ Aside0 (Below w.heap.size w w'))
        case atStart => exact ⟨(a0), (a1), (by first | rfl | (simp; done) | (simp [*]; done)), (by first | rfl | (simp; done) | (simp [*]; done)), H', ⟨Nat.le_refl _⟩, ⟨by repeat (first | (with_reducible first | exact HB.out | apply below_alloc | apply pw_below_drewN | apply below_drew1) | exact HB.out)⟩⟩
        case round =>
          clear H'
          try clear c1
          try clear c2
          try clear p2
          try clear c5
          try clear c9
          try clear p2
          obtain ⟨x0_2, x1_2, rfl, rfl, HA, HK2, HB⟩ := hrel
          cases gk with
          | zero => exact absurd HA.out (by simp [impl_RowAfter.l0])
          | succ k2 =>
            have H := HA.out
            clear HA
            simp only [impl_RowAfter.l0] at H
            by_cases c10 : x1_2 > 0
            · rw [if_pos c10] at H
              have c10b0 : decide (0 < x1_2) = true := decide_eq_true c10
              clear c10
              replace H := Option.bind_eq_some_iff.mp H
              obtain ⟨t117, A110, H⟩ := H
              replace H : (if t117 = true then (some (x0_2, true)) else ((impl_tick.f x0_2).bind fun t118 => (impl_RowAfter.l0 k2 t118 (wrap64 (x1_2 - 1))))) = some (r1, r2) := H
              have A11 := Aside0.mk A110
              clear A110
              by_cases c12 : t117 = true
              · subst c12
                have H1 : (some (x0_2, true)) = some (r1, r2) := by rw [if_pos rfl] at H; exact H
                clear H
                have H := H1
                clear H1
                simp only [Option.some.injEq, Prod.mk.injEq] at H
                obtain ⟨rfl, rfl⟩ := H
                go_wp2_with (first | (go_at_call 28; (with_reducible refine (impl_isAtRest.calls x0_2 true _ A11.out ?sml).mono ?_); (case sml => first | exact HML.out | exact ML.of_below HML.out HB.out | (refine ML.of_below HML.out ?_; repeat (first | (with_reducible first | exact HB.out | apply below_alloc | apply pw_below_drewN | apply below_drew1) | exact HB.out)) | (repeat (first | exact HML.out | (with_reducible refine ML.drewN ?_ _) | (with_reducible refine ML.drew ?_) | (with_reducible refine ML.alloc ?_ _)))); rintro e w' ⟨rfl, ⟨nd, rfl⟩⟩))
                go_ret2
                exact ⟨by first | rfl | (simp [errW_none, errW_some] <;> rfl) | (simp [*, errW_none, errW_some] <;> rfl), by repeat (first | (with_reducible first | exact HB.out | apply below_alloc | apply pw_below_drewN | apply below_drew1) | exact HB.out)⟩
              · replace c12 := Bool.eq_false_iff.mpr c12
                subst c12
                have H1 : ((impl_tick.f x0_2).bind fun t118 => (impl_RowAfter.l0 k2 t118 (wrap64 (x1_2 - 1)))) = some (r1, r2) := by rw [if_neg (show ¬ (false = true) by decide)] at H; exact H
                clear H
                have H := H1
                clear H1
                replace H := Option.bind_eq_some_iff.mp H
                obtain ⟨t118, A130, H⟩ := H
                replace H : (impl_RowAfter.l0 k2 t118 (wrap64 (x1_2 - 1))) = some (r1, r2) := H
                have A13 := Aside0.mk A130
                clear A130
                have H' := Aside0.mk H
                clear H
                go_wp2_with (first | (go_at_call 28; (with_reducible refine (impl_isAtRest.calls x0_2 false _ A11.out ?sml).mono ?_); (case sml => first | exact HML.out | exact ML.of_below HML.out HB.out | (refine ML.of_below HML.out ?_; repeat (first | (with_reducible first | exact HB.out | apply below_alloc | apply pw_below_drewN | apply below_drew1) | exact HB.out)) | (repeat (first | exact HML.out | (with_reducible refine ML.drewN ?_ _) | (with_reducible refine ML.drew ?_) | (with_reducible refine ML.alloc ?_ _)))); rintro e w' ⟨rfl, ⟨nd, rfl⟩⟩) | ((with_reducible refine gate_callee (f := 24) rfl ?_); refine goesL_ (some 24) rfl rfl Tryd.func24 (by kernel_rfl) rfl #[.string x0_2] rfl (by (try simp only [List.map_toArray, List.map_cons, List.map_nil]); first | done | rfl | (simp only [List.length_drop, List.length_take]; rfl)) ?_; (with_reducible refine (impl_tick.calls x0_2 t118 _ A13.out ?sml).mono ?_); (case sml => first | exact HML.out | exact ML.of_below HML.out HB.out | (refine ML.of_below HML.out ?_; repeat (first | (with_reducible first | exact HB.out | apply below_alloc | apply pw_below_drewN | apply below_drew1) | exact HB.out)) | (repeat (first | exact HML.out | (with_reducible refine ML.drewN ?_ _) | (with_reducible refine ML.drew ?_) | (with_reducible refine ML.alloc ?_ _)))); rintro e w14 ⟨rfl, hb⟩; refine ⟨_, rfl, ?_⟩; have n0_ := Aside0.mk (below_step (by repeat (first | (with_reducible first | exact HB.out | apply below_alloc | apply pw_below_drewN | apply below_drew1) | exact HB.out)) hb); clear HB; have HB := n0_; clear n0_; (try clear hb); (try clear hb2); (try clear hk); (try clear hi)))
                go_roundg k2
                case measure => have := HJ2.out; have := HK2.out; omega
                case rel => exact ⟨(t118), (wrap64 (x1_2 - 1)), (by first | rfl | (simp; done) | (simp [*]; done)), (by first | rfl | (simp; done) | (simp [*]; done)), H', ⟨by have := HJ2.out; have := HK2.out; omega⟩, ⟨by repeat (first | (with_reducible first | exact HB.out | apply below_alloc | apply pw_below_drewN | apply below_drew1) | exact HB.out)⟩⟩
            · rw [if_neg c10] at H
              have c10b0 : decide (0 < x1_2) = false := decide_eq_false c10
              clear c10
              simp only [Option.some.injEq, Prod.mk.injEq] at H
              obtain ⟨rfl, rfl⟩ := H
              go_wp2
              go_ret2
              exact ⟨by first | rfl | (simp [errW_none, errW_some] <;> rfl) | (simp [*, errW_none, errW_some] <;> rfl), by repeat (first | (with_reducible first | exact HB.out | apply below_alloc | apply pw_below_drewN | apply below_drew1) | exact HB.out)⟩

/-! ### laws_FnExactRowAfter: function 5 -/
def laws_FnExactRowAfter.f (k : Nat) (a0 : ByteArray) (a1 : Int) : Option (Bool) := if (a0.size : Int) > 1048576 then (some true) else ((spec_RowAfter.f k a0 a1).bind fun bt119 => ((impl_RowAfter.f k a0 a1).bind fun bt121 => (if bt121.1.toList = bt119.1.toList then (if (bt121.2 != bt119.2) = true then (some false) else (some true)) else (some false))))
theorem laws_FnExactRowAfter.mono : ∀ a0 a1 k, LeO (laws_FnExactRowAfter.f k a0 a1) (laws_FnExactRowAfter.f (k + 1) a0 a1) := by
  intro a0 a1 k
  unfold laws_FnExactRowAfter.f
  repeat' first
      | (with_reducible exact impl_RowAfter.mono _ _ _)
      | (with_reducible exact spec_RowAfter.mono _ _ _)
      | (with_reducible exact LeO.refl _)
      | (with_reducible exact LeO.none _)
      | (with_reducible refine LeO.ite ?_ ?_)
      | (with_reducible refine LeO.bind ?_ (fun _ => ?_))
      | exact impl_RowAfter.mono _ _ _
      | exact spec_RowAfter.mono _ _ _
      | exact LeO.none _
      | refine LeO.ite ?_ ?_
      | refine LeO.bind ?_ (fun _ => ?_)
set_option maxHeartbeats 8000000 in
set_option maxRecDepth 100000 in
theorem laws_FnExactRowAfter.calls (k : Nat) (a0 : ByteArray) (a1 : Int) (r : Bool) (w : World) (h : laws_FnExactRowAfter.f k a0 a1 = some r) (hML : ML w) :
    Calls Tryd.prog 5 #[.string a0, .int .i64 a1] w fun e w' => e = .returned (.bool r) ∧ Below w.heap.size w w' := by
  have HML := Aside0.mk hML
  clear hML
  have HB := Aside0.mk (Below.refl w.heap.size w)
  have H : (if (a0.size : Int) > 1048576 then (some true) else ((spec_RowAfter.f k a0 a1).bind fun bt119 => ((impl_RowAfter.f k a0 a1).bind fun bt121 => (if bt121.1.toList = bt119.1.toList then (if (bt121.2 != bt119.2) = true then (some false) else (some true)) else (some false))))) = some r := h
  clear h
  by_cases c3 : (a0.size : Int) > 1048576
  · rw [if_pos c3] at H
    have c3b0 : decide (1048576 < (a0.size : Int)) = true := decide_eq_true c3
    have c3b1 : decide (1048576 < a0.size) = true := decide_eq_true (by omega)
    clear c3
    obtain rfl := Option.some.inj H
    go_enter Tryd.func5, Tryd.ntmps5
    go_wp2
    go_ret
    exact ⟨by first | rfl | (simp [errW_none, errW_some] <;> rfl) | (simp [*, errW_none, errW_some] <;> rfl), by repeat (first | (with_reducible first | exact HB.out | apply below_alloc | apply pw_below_drewN | apply below_drew1) | exact HB.out)⟩
  · rw [if_neg c3] at H
    have c3b0 : decide (1048576 < (a0.size : Int)) = false := decide_eq_false c3
    have c3b1 : decide (1048576 < a0.size) = false := decide_eq_false (by omega)
    clear c3
    replace H := Option.bind_eq_some_iff.mp H
    obtain ⟨⟨t119, t120⟩, A40, H⟩ := H
    replace H : ((impl_RowAfter.f k a0 a1).bind fun bt121 => (if bt121.1.toList = t119.toList then (if (bt121.2 != t120) = true then (some false) else (some true)) else (some false))) = some r := H
    have A4 := Aside0.mk A40
    clear A40
    replace H := Option.bind_eq_some_iff.mp H
    obtain ⟨⟨t121, t122⟩, A50, H⟩ := H
    replace H : (if t121.toList = t119.toList then (if (t122 != t120) = true then (some false) else (some true)) else (some false)) = some r := H
    have A5 := Aside0.mk A50
    clear A50
    by_cases c6 : t121.toList = t119.toList
    · rw [if_pos c6] at H
      have c6b0 : (t121.toList == t119.toList) = true := beq_iff_eq.mpr c6
      have c6b1 : (t121.toList != t119.toList) = false := bne_eq_false_iff_eq.mpr c6
      clear c6
      by_cases c7 : (t122 != t120) = true
      · rw [if_pos c7] at H
        have c7b0 : (t122 != t120) = true := c7
        (try (have c7b1 : decide (t122 = t120) = false := by simpa using c7))
        (try (have c7b2 : (t122 == t120) = false := by simpa using c7))
        (try (have c7b3 : ¬ (t122 = t120) := by simpa using c7))
        clear c7
        obtain rfl := Option.some.inj H
        go_enter Tryd.func5, Tryd.ntmps5
        go_wp2_with (first | ((with_reducible refine gate_callee (f := 12) rfl ?_); refine goesL_ (some 15) rfl rfl Tryd.func12 (by kernel_rfl) rfl #[.string a0, .int .i64 a1] rfl (by (try simp only [List.map_toArray, List.map_cons, List.map_nil]); first | done | rfl | (simp only [List.length_drop, List.length_take]; rfl)) ?_; (with_reducible refine (spec_RowAfter.calls k a0 a1 t119 t120 _ A4.out).mono ?_); rintro e w8 ⟨rfl, hb⟩; refine ⟨_, rfl, ?_⟩; have n0_ := Aside0.mk (below_step (by repeat (first | (with_reducible first | exact HB.out | apply below_alloc | apply pw_below_drewN | apply below_drew1) | exact HB.out)) hb); clear HB; have HB := n0_; clear n0_; (try clear hb); (try clear hb2); (try clear hk); (try clear hi)) | ((with_reducible refine gate_callee (f := 13) rfl ?_); refine goesL_ (some 21) rfl rfl Tryd.func13 (by kernel_rfl) rfl #[.string a0, .int .i64 a1] rfl (by (try simp only [List.map_toArray, List.map_cons, List.map_nil]); first | done | rfl | (simp only [List.length_drop, List.length_take]; rfl)) ?_; (with_reducible refine (impl_RowAfter.calls k a0 a1 t121 t122 _ A5.out ?sml).mono ?_); (case sml => first | exact HML.out | exact ML.of_below HML.out HB.out | (refine ML.of_below HML.out ?_; repeat (first | (with_reducible first | exact HB.out | apply below_alloc | apply pw_below_drewN | apply below_drew1) | exact HB.out)) | (repeat (first | exact HML.out | (with_reducible refine ML.drewN ?_ _) | (with_reducible refine ML.drew ?_) | (with_reducible refine ML.alloc ?_ _)))); rintro e w9 ⟨rfl, hb⟩; refine ⟨_, rfl, ?_⟩; have n0_ := Aside0.mk (below_step (by repeat (first | (with_reducible first | exact HB.out | apply below_alloc | apply pw_below_drewN | apply below_drew1) | exact HB.out)) hb); clear HB; have HB := n0_; clear n0_; (try clear hb); (try clear hb2); (try clear hk); (try clear hi)))
        go_ret
        exact ⟨by first | rfl | (simp [errW_none, errW_some] <;> rfl) | (simp [*, errW_none, errW_some] <;> rfl), by repeat (first | (with_reducible first | exact HB.out | apply below_alloc | apply pw_below_drewN | apply below_drew1) | exact HB.out)⟩
      · rw [if_neg c7] at H
        have c7b0 : (t122 != t120) = false := by simpa using c7
        (try (have c7b1 : decide (t122 = t120) = true := by simpa using c7))
        (try (have c7b2 : (t122 == t120) = true := by simpa using c7))
        clear c7
        obtain rfl := Option.some.inj H
        go_enter Tryd.func5, Tryd.ntmps5
        go_wp2_with (first | ((with_reducible refine gate_callee (f := 12) rfl ?_); refine goesL_ (some 15) rfl rfl Tryd.func12 (by kernel_rfl) rfl #[.string a0, .int .i64 a1] rfl (by (try simp only [List.map_toArray, List.map_cons, List.map_nil]); first | done | rfl | (simp only [List.length_drop, List.length_take]; rfl)) ?_; (with_reducible refine (spec_RowAfter.calls k a0 a1 t119 t120 _ A4.out).mono ?_); rintro e w10 ⟨rfl, hb⟩; refine ⟨_, rfl, ?_⟩; have n0_ := Aside0.mk (below_step (by repeat (first | (with_reducible first | exact HB.out | apply below_alloc | apply pw_below_drewN | apply below_drew1) | exact HB.out)) hb); clear HB; have HB := n0_; clear n0_; (try clear hb); (try clear hb2); (try clear hk); (try clear hi)) | ((with_reducible refine gate_callee (f := 13) rfl ?_); refine goesL_ (some 21) rfl rfl Tryd.func13 (by kernel_rfl) rfl #[.string a0, .int .i64 a1] rfl (by (try simp only [List.map_toArray, List.map_cons, List.map_nil]); first | done | rfl | (simp only [List.length_drop, List.length_take]; rfl)) ?_; (with_reducible refine (impl_RowAfter.calls k a0 a1 t121 t122 _ A5.out ?sml).mono ?_); (case sml => first | exact HML.out | exact ML.of_below HML.out HB.out | (refine ML.of_below HML.out ?_; repeat (first | (with_reducible first | exact HB.out | apply below_alloc | apply pw_below_drewN | apply below_drew1) | exact HB.out)) | (repeat (first | exact HML.out | (with_reducible refine ML.drewN ?_ _) | (with_reducible refine ML.drew ?_) | (with_reducible refine ML.alloc ?_ _)))); rintro e w11 ⟨rfl, hb⟩; refine ⟨_, rfl, ?_⟩; have n0_ := Aside0.mk (below_step (by repeat (first | (with_reducible first | exact HB.out | apply below_alloc | apply pw_below_drewN | apply below_drew1) | exact HB.out)) hb); clear HB; have HB := n0_; clear n0_; (try clear hb); (try clear hb2); (try clear hk); (try clear hi)))
        go_ret
        exact ⟨by first | rfl | (simp [errW_none, errW_some] <;> rfl) | (simp [*, errW_none, errW_some] <;> rfl), by repeat (first | (with_reducible first | exact HB.out | apply below_alloc | apply pw_below_drewN | apply below_drew1) | exact HB.out)⟩
    · rw [if_neg c6] at H
      have c6b0 : (t121.toList == t119.toList) = false := beq_eq_false_iff_ne.mpr c6
      have c6b1 : (t121.toList != t119.toList) = true := bne_iff_ne.mpr c6
      obtain rfl := Option.some.inj H
      go_enter Tryd.func5, Tryd.ntmps5
      go_wp2_with (first | ((with_reducible refine gate_callee (f := 12) rfl ?_); refine goesL_ (some 15) rfl rfl Tryd.func12 (by kernel_rfl) rfl #[.string a0, .int .i64 a1] rfl (by (try simp only [List.map_toArray, List.map_cons, List.map_nil]); first | done | rfl | (simp only [List.length_drop, List.length_take]; rfl)) ?_; (with_reducible refine (spec_RowAfter.calls k a0 a1 t119 t120 _ A4.out).mono ?_); rintro e w12 ⟨rfl, hb⟩; refine ⟨_, rfl, ?_⟩; have n0_ := Aside0.mk (below_step (by repeat (first | (with_reducible first | exact HB.out | apply below_alloc | apply pw_below_drewN | apply below_drew1) | exact HB.out)) hb); clear HB; have HB := n0_; clear n0_; (try clear hb); (try clear hb2); (try clear hk); (try clear hi)) | ((with_reducible refine gate_callee (f := 13) rfl ?_); refine goesL_ (some 21) rfl rfl Tryd.func13 (by kernel_rfl) rfl #[.string a0, .int .i64 a1] rfl (by (try simp only [List.map_toArray, List.map_cons, List.map_nil]); first | done | rfl | (simp only [List.length_drop, List.length_take]; rfl)) ?_; (with_reducible refine (impl_RowAfter.calls k a0 a1 t121 t122 _ A5.out ?sml).mono ?_); (case sml => first | exact HML.out | exact ML.of_below HML.out HB.out | (refine ML.of_below HML.out ?_; repeat (first | (with_reducible first | exact HB.out | apply below_alloc | apply pw_below_drewN | apply below_drew1) | exact HB.out)) | (repeat (first | exact HML.out | (with_reducible refine ML.drewN ?_ _) | (with_reducible refine ML.drew ?_) | (with_reducible refine ML.alloc ?_ _)))); rintro e w13 ⟨rfl, hb⟩; refine ⟨_, rfl, ?_⟩; have n0_ := Aside0.mk (below_step (by repeat (first | (with_reducible first | exact HB.out | apply below_alloc | apply pw_below_drewN | apply below_drew1) | exact HB.out)) hb); clear HB; have HB := n0_; clear n0_; (try clear hb); (try clear hb2); (try clear hk); (try clear hi)))
      go_ret
      exact ⟨by first | rfl | (simp [errW_none, errW_some] <;> rfl) | (simp [*, errW_none, errW_some] <;> rfl), by repeat (first | (with_reducible first | exact HB.out | apply below_alloc | apply pw_below_drewN | apply below_drew1) | exact HB.out)⟩

/-- THE ONE PURE STATEMENT of laws_FnExactRowAfter: yours. -/
def laws_FnExactRowAfter.Pure : Prop := ∀ (a0 : ByteArray) (a1 : Int), a0.size ≤ 140737488351232 → (Lit.int .i64 a1).wf = true → ∃ k, laws_FnExactRowAfter.f k a0 a1 = some true
theorem laws_FnExactRowAfter.walk (P : laws_FnExactRowAfter.Pure) (a0 : ByteArray) (a1 : Int) (w : World) (w0 : a0.size ≤ 140737488351232) (w1 : (Lit.int .i64 a1).wf = true) (hML : ML w) :
    Calls Tryd.prog 5 #[.string a0, .int .i64 a1] w fun e w' => e = .returned (.bool true) ∧ Below w.heap.size w w' := by
  obtain ⟨k, h⟩ := P a0 a1 w0 w1
  refine (laws_FnExactRowAfter.calls k a0 a1 true w h hML).mono ?_
  rintro e w' ⟨rfl, hd⟩
  exact ⟨rfl, hd⟩

end Go.Proofs.YthaajflhjblkeabDoor.PFnExactRowAfter
