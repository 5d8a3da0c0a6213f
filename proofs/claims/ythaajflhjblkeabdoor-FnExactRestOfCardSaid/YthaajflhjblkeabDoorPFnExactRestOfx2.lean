/- A text of this session for the law FnExactRestOf of the seat YthaajflhjblkeabDoor: the functions that the law uses and their walks. -/
import Derived.Test.YthaajflhjblkeabDoorPFnExactRestOfx0
import Derived.Test.YthaajflhjblkeabDoorPFnExactRestOfx1
namespace Go.Proofs.YthaajflhjblkeabDoor.PFnExactRestOf
open Go.RowKit Go.Proofs.YthaajflhjblkeabDoorW.PrintWords Go.Proofs.YthaajflhjblkeabDoorW.PrintLast Go.Proofs.YthaajflhjblkeabDoorW.PrintMore
attribute [local go_sem] max2_int min2_int max_two min_two max_three min_three max_four min_four   -- for this text's walks alone
set_option linter.unusedVariables false
set_option linter.unusedSimpArgs false

/-! ### impl_history: function 30 -/
/-- How often a soldier who looks right stands ahead of one who looks left. -/
def n60 (l : List UInt8) : Nat := (l.filter (fun b => b == 60)).length
def invB : List UInt8 → Nat
  | [] => 0
  | a :: t => (if a = 62 then n60 t else 0) + invB t
theorem n60_tk : ∀ l : List UInt8, n60 (tkB l) = n60 l
  | [] => rfl
  | [_] => rfl
  | a :: b :: t => by
    rw [tkB]
    split
    · rename_i h
      simp only [Bool.and_eq_true, beq_iff_eq] at h
      obtain ⟨rfl, rfl⟩ := h
      have := n60_tk t
      simp only [n60] at this ⊢
      simp [this]
    · have := n60_tk (b :: t)
      simp only [n60, List.filter_cons] at this ⊢
      split <;> simp_all
theorem inv_tk : ∀ l : List UInt8, invB (tkB l) ≤ invB l ∧ (hasB l = true → invB (tkB l) < invB l)
  | [] => ⟨Nat.le_refl _, fun h => by simp [hasB] at h⟩
  | [_] => ⟨Nat.le_refl _, fun h => by simp [hasB] at h⟩
  | a :: b :: t => by
    rw [tkB]
    split
    · rename_i h
      simp only [Bool.and_eq_true, beq_iff_eq] at h
      obtain ⟨rfl, rfl⟩ := h
      have ih := inv_tk t
      have hn := n60_tk t
      have e1 : invB (60 :: 62 :: tkB t) = n60 (tkB t) + invB (tkB t) := by simp [invB]
      have e2 : invB (62 :: 60 :: t) = n60 t + 1 + invB t := by simp [invB, n60]
      have h1 := ih.1
      rw [e1, e2, hn]
      exact ⟨by omega, fun _ => by omega⟩
    · rename_i h
      have ih := inv_tk (b :: t)
      have hn := n60_tk (b :: t)
      have hh : hasB (a :: b :: t) = hasB (b :: t) := by rw [hasB, Bool.eq_false_iff.mpr h, Bool.false_or]
      rw [hh, invB, show invB (a :: b :: t) = (if a = 62 then n60 (b :: t) else 0) + invB (b :: t) from rfl, hn]
      exact ⟨by have := ih.1; omega, fun h2 => by have := ih.2 h2; omega⟩
theorem tkB_length : ∀ l : List UInt8, (tkB l).length = l.length
  | [] => rfl
  | [_] => rfl
  | a :: b :: t => by
    rw [tkB]
    split
    · simp [tkB_length t]
    · simp [tkB_length (b :: t)]
/-- The row at rest, and the rows ahead of it. -/
def histL (l : List UInt8) : List UInt8 × List (List UInt8) :=
  if h : hasB l = true then ((histL (tkB l)).1, l :: (histL (tkB l)).2) else (l, [])
termination_by invB l
decreasing_by all_goals exact (inv_tk l).2 h
theorem histL_step {l : List UInt8} (h : hasB l = true) : histL l = ((histL (tkB l)).1, l :: (histL (tkB l)).2) := by
  rw [histL, dif_pos h]
theorem histL_rest {l : List UInt8} (h : hasB l = false) : histL l = (l, []) := by
  rw [histL, dif_neg (by rw [h]; simp)]
set_option maxHeartbeats 1600000 in
set_option maxRecDepth 100000 in
theorem history_calls {σ : Type} (g : Nat) (lb : Array Value) (eg : ∀ args w, (callFunc g args).run Tryd.prog w = .ok (.enter g args) w) (step : List UInt8 → σ → σ) (I : σ → World → Prop)
    (hML : ∀ s w, I s w → ML w) (hup : ∀ s w W, I s w → Below w.heap.size w W → I s W) (N : Nat) (hN : N < 1000000)
    (hstep : ∀ (l : List UInt8) s w, l.length = N → I s w → Calls Tryd.prog g (#[.string ⟨l.toArray⟩] ++ lb) w fun e w' => e = .returned (.tuple #[]) ∧ I (step l s) w')
    (l : List UInt8) (hl : l.length = N) (s : σ) (w : World) (hI : I s w) :
    Calls Tryd.prog 30 #[.string ⟨l.toArray⟩, .func (.func g) #[] lb] w fun e w' => e = .returned (.string ⟨(histL l).1.toArray⟩) ∧ I ((histL l).2.foldl (fun s l => step l s) s) w' := by
  have HI0 := Aside0.mk hI
  have HML := Aside0.mk hML
  have HUP := Aside0.mk hup
  have HST := Aside0.mk hstep
  have HL := Aside0.mk hl
  have HN := Aside0.mk hN
  clear hI hML hup hstep hl hN
  go_enter Tryd.func30, Tryd.ntmps30
  go_wp2
  go_loopg [0] (invB l) (fun kq v0 w' => ∃ (l1 : List UInt8) (s1 : σ), v0 = .string ⟨l1.toArray⟩ ∧ Aside0 (invB l1 = kq) ∧ Aside0 (l1.length = N) ∧ Aside0 ((histL l1).1 = (histL l).1 ∧ (histL l1).2.foldl (fun s l => step l s) s1 = (histL l).2.foldl (fun s l => step l s) s) ∧ Aside0 (I s1 w'))
  case atStart => exact ⟨l, s, rfl, ⟨rfl⟩, HL, ⟨⟨rfl, rfl⟩⟩, ⟨HUP.out _ _ _ HI0.out (by repeat (first | exact Below.refl _ _ | apply pw_below_drewN | apply below_drew))⟩⟩
  case round =>
    obtain ⟨l1, s1, rfl, HK, HL1, HH, HI⟩ := hrel
    have hsz : (⟨l1.toArray⟩ : ByteArray).size = l1.length := rfl
    have hbig : (⟨l1.toArray⟩ : ByteArray).size < 1000000 := by rw [hsz, HL1.out]; exact HN.out
    cases c : hasB l1 with
    | true =>
      have hd := Aside0.mk (inv_tk l1)
      have hh := Aside0.mk (histL_step c)
      have hr := Aside0.mk (fun W (h : Below wr.heap.size wr W) => impl_isAtRest.calls ⟨l1.toArray⟩ false W (by unfold impl_isAtRest.f; rw [if_pos (by omega)]; exact congrArg (fun b => some (!b)) c) (HML.out _ _ (HUP.out _ _ _ HI.out h)))
      have hs := Aside0.mk (fun W (h : Below wr.heap.size wr W) => HST.out l1 s1 W HL1.out (HUP.out _ _ _ HI.out h))
      have ht := Aside0.mk (fun s2 W (h : I s2 W) => impl_tick.calls ⟨l1.toArray⟩ ⟨(tkB l1).toArray⟩ W (by unfold impl_tick.f; rw [if_pos hbig]) (HML.out _ _ h))
      have HC := Aside0.mk c
      clear c hsz hbig
      generalize hy : (⟨(tkB l1).toArray⟩ : ByteArray) = y at ht
      have HY := Aside0.mk hy
      clear hy
      generalize (⟨l1.toArray⟩ : ByteArray) = x at hr hs ht ⊢
      go_wp2_with (first
        | (go_at_call 28; refine (hr.out _ (by repeat (first | exact Below.refl _ _ | apply pw_below_drewN | apply below_drew))).mono ?_; rintro e w' ⟨rfl, ⟨nd, rfl⟩⟩)
        | (go_at_call 24; refine (ht.out _ _ (HUP.out _ _ _ HI3.out (by repeat (first | exact Below.refl _ _ | apply pw_below_drewN | apply below_drew)))).mono ?_; rintro e w4 ⟨rfl, hb⟩; have HB4 := Aside0.mk hb; clear hb)
        | (go_at_fn g; refine (hs.out _ (by repeat (first | exact Below.refl _ _ | apply pw_below_drewN | apply below_drew))).mono ?_; rintro e w3 ⟨rfl, hi3⟩; have HI3 := Aside0.mk hi3; clear hi3))
      go_roundg (invB (tkB l1))
      case measure => have h1 := hd.out.2 HC.out; have h2 := HK.out; omega
      case rel => exact ⟨tkB l1, step l1 s1, by rw [HY.out], ⟨rfl⟩, ⟨by rw [tkB_length]; exact HL1.out⟩, ⟨by have h1 := HH.out; rw [hh.out] at h1; exact h1⟩, ⟨HUP.out _ _ _ (HUP.out _ _ _ (HUP.out _ _ _ HI3.out (by repeat (first | exact Below.refl _ _ | apply pw_below_drewN | apply below_drew))) HB4.out) (by repeat (first | exact Below.refl _ _ | apply pw_below_drewN | apply below_drew))⟩⟩
    | false =>
      have hh := Aside0.mk (histL_rest c)
      have hr := Aside0.mk (fun W (h : Below wr.heap.size wr W) => impl_isAtRest.calls ⟨l1.toArray⟩ true W (by unfold impl_isAtRest.f; rw [if_pos (by omega)]; exact congrArg (fun b => some (!b)) c) (HML.out _ _ (HUP.out _ _ _ HI.out h)))
      clear c hsz hbig
      generalize hx : (⟨l1.toArray⟩ : ByteArray) = x at hr ⊢
      have HX := Aside0.mk hx
      clear hx
      go_wp2_with (go_at_call 28; refine (hr.out _ (by repeat (first | exact Below.refl _ _ | apply pw_below_drewN | apply below_drew))).mono ?_; rintro e w' ⟨rfl, ⟨nd, rfl⟩⟩)
      go_ret
      have h1 := HH.out
      rw [hh.out] at h1
      refine ⟨by rw [← HX.out, ← h1.1]; try rfl, ?_⟩
      rw [← h1.2]
      exact HUP.out _ _ _ HI.out (by repeat (first | exact Below.refl _ _ | apply pw_below_drewN | apply below_drew))

/-! ### impl_RestOf: function 15 -/
def impl_RestOf.f (a0 : ByteArray) : Option (ByteArray × Bool) := if rowB a0 = true then some (⟨(histL a0.data.toList).1.toArray⟩, true) else some (⟨#[]⟩, false)
set_option maxHeartbeats 1600000 in
theorem RestOf_1_calls (x : ByteArray) (W : World) :
    Calls Tryd.prog 31 #[.string x] W fun e w' => e = .returned (.tuple #[]) ∧ w' = W := by
  go_enter Tryd.func31, Tryd.ntmps31
  go_wp2
  first | go_end0 | go_ret
  exact ⟨by first | rfl | simp, rfl⟩
theorem rowB_size {s : ByteArray} (h : rowB s = true) : s.size ≤ 60 := by
  unfold rowB at h
  simp only [Bool.and_eq_true, decide_eq_true_eq] at h
  exact h.1.2
set_option maxHeartbeats 1600000 in
set_option maxRecDepth 100000 in
theorem impl_RestOf.calls (a0 : ByteArray) (r1 : ByteArray) (r2 : Bool) (w : World) (h : impl_RestOf.f a0 = some (r1, r2)) (hML : ML w) :
    Calls Tryd.prog 15 #[.string a0] w fun e w' => e = .returned (.tuple #[.string r1, .bool r2]) ∧ Below w.heap.size w w' := by
  unfold impl_RestOf.f at h
  cases c : rowB a0 with
  | true =>
    rw [if_pos c] at h
    obtain ⟨rfl, rfl⟩ := Prod.mk.inj (Option.some.inj h)
    have hr := Aside0.mk (fun W => impl_isRow.calls a0 true W (by unfold impl_isRow.f; rw [c]))
    have hN : a0.data.toList.length < 1000000 := by rw [Array.length_toList]; have := rowB_size c; exact Nat.lt_of_le_of_lt this (by decide)
    have hH := Aside0.mk (fun W (hi : Below w.heap.size w W) => (show Calls Tryd.prog 30 #[.string a0, .func (.func 31) #[] #[]] W (fun e w' => e = .returned (.string ⟨(histL a0.data.toList).1.toArray⟩) ∧ Below w.heap.size w w') from
      history_calls 31 #[] (enters_ (P := Tryd.prog) Tryd.func31 (by kernel_rfl) rfl) (fun _ (s : Unit) => s) (fun _ W => Below w.heap.size w W)
        (fun s W hi => hML.of_below hi) (fun s W W' hi hb => below_then hi hi.size hb) a0.data.toList.length hN (fun l s W _ hi => (RestOf_1_calls ⟨l.toArray⟩ W).mono fun e w' ⟨h1, h2⟩ => ⟨h1, by rw [h2]; exact hi⟩) a0.data.toList rfl () W hi))
    generalize (⟨(histL a0.data.toList).1.toArray⟩ : ByteArray) = y at hH
    clear c hN h
    go_enter Tryd.func15, Tryd.ntmps15
    go_wp2_with (first
      | (go_at_call 20; refine (hr.out _).mono ?_; rintro e w1 ⟨rfl, hb⟩; have HB1 := Aside0.mk hb; clear hb)
      | (go_at_call 30; refine (hH.out _ (by repeat (first | exact HB1.out | exact below_then (by repeat (first | exact Below.refl _ _ | apply pw_below_drewN | apply below_drew)) (by simp) HB1.out | apply pw_below_drewN | apply below_drew))).mono ?_; rintro e w2 ⟨rfl, hb⟩; have HB2 := Aside0.mk hb; clear hb))
    go_ret2
    exact ⟨by first | rfl | simp, by repeat (first | exact HB2.out | apply pw_below_drewN | apply below_drew)⟩
  | false =>
    rw [if_neg (by rw [c]; simp)] at h
    obtain ⟨rfl, rfl⟩ := Prod.mk.inj (Option.some.inj h)
    have hr := Aside0.mk (fun W => impl_isRow.calls a0 false W (by unfold impl_isRow.f; rw [c]))
    clear c h
    go_enter Tryd.func15, Tryd.ntmps15
    go_wp2_with (go_at_call 20; refine (hr.out _).mono ?_; rintro e w1 ⟨rfl, hb⟩; have HB1 := Aside0.mk hb; clear hb)
    go_ret2
    exact ⟨by first | rfl | simp, by repeat (first | exact HB1.out | exact below_then (by repeat (first | exact Below.refl _ _ | apply pw_below_drewN | apply below_drew)) (by simp) HB1.out | apply pw_below_drewN | apply below_drew)⟩

/-! ### laws_FnExactRestOf: function 6 -/
def laws_FnExactRestOf.f (k : Nat) (a0 : ByteArray) : Option (Bool) := if (a0.size : Int) > 1048576 then (some true) else ((spec_RestOf.f k a0).bind fun bt116 => ((impl_RestOf.f a0).bind fun bt118 => (if bt118.1.toList = bt116.1.toList then (if (bt118.2 != bt116.2) = true then (some false) else (some true)) else (some false))))
theorem laws_FnExactRestOf.mono : ∀ a0 k, LeO (laws_FnExactRestOf.f k a0) (laws_FnExactRestOf.f (k + 1) a0) := by
  intro a0 k
  unfold laws_FnExactRestOf.f
  repeat' first
      | (with_reducible exact spec_RestOf.mono _ _)
      | (with_reducible exact LeO.refl _)
      | (with_reducible exact LeO.none _)
      | (with_reducible refine LeO.ite ?_ ?_)
      | (with_reducible refine LeO.bind ?_ (fun _ => ?_))
      | exact spec_RestOf.mono _ _
      | exact LeO.none _
      | refine LeO.ite ?_ ?_
      | refine LeO.bind ?_ (fun _ => ?_)
set_option maxHeartbeats 8000000 in
set_option maxRecDepth 100000 in
theorem laws_FnExactRestOf.calls (k : Nat) (a0 : ByteArray) (r : Bool) (w : World) (h : laws_FnExactRestOf.f k a0 = some r) (hML : ML w) :
    Calls Tryd.prog 6 #[.string a0] w fun e w' => e = .returned (.bool r) ∧ Below w.heap.size w w' := by
  have HML := Aside0.mk hML
  clear hML
  have HB := Aside0.mk (Below.refl w.heap.size w)
  have H : (if (a0.size : Int) > 1048576 then (some true) else ((spec_RestOf.f k a0).bind fun bt116 => ((impl_RestOf.f a0).bind fun bt118 => (if bt118.1.toList = bt116.1.toList then (if (bt118.2 != bt116.2) = true then (some false) else (some true)) else (some false))))) = some r := h
  clear h
  by_cases c2 : (a0.size : Int) > 1048576
  · rw [if_pos c2] at H
    have c2b0 : decide (1048576 < (a0.size : Int)) = true := decide_eq_true c2
    have c2b1 : decide (1048576 < a0.size) = true := decide_eq_true (by omega)
    clear c2
    obtain rfl := Option.some.inj H
    go_enter Tryd.func6, Tryd.ntmps6
    go_wp2
    go_ret
    exact ⟨by first | rfl | (simp [errW_none, errW_some] <;> rfl) | (simp [*, errW_none, errW_some] <;> rfl), by repeat (first | (with_reducible first | exact HB.out | apply below_alloc | apply pw_below_drewN | apply below_drew1) | exact HB.out)⟩
  · rw [if_neg c2] at H
    have c2b0 : decide (1048576 < (a0.size : Int)) = false := decide_eq_false c2
    have c2b1 : decide (1048576 < a0.size) = false := decide_eq_false (by omega)
    clear c2
    replace H := Option.bind_eq_some_iff.mp H
    obtain ⟨⟨t116, t117⟩, A30, H⟩ := H
    replace H : ((impl_RestOf.f a0).bind fun bt118 => (if bt118.1.toList = t116.toList then (if (bt118.2 != t117) = true then (some false) else (some true)) else (some false))) = some r := H
    have A3 := Aside0.mk A30
    clear A30
    replace H := Option.bind_eq_some_iff.mp H
    obtain ⟨⟨t118, t119⟩, A40, H⟩ := H
    replace H : (if t118.toList = t116.toList then (if (t119 != t117) = true then (some false) else (some true)) else (some false)) = some r := H
    have A4 := Aside0.mk A40
    clear A40
    by_cases c5 : t118.toList = t116.toList
    · rw [if_pos c5] at H
      have c5b0 : (t118.toList == t116.toList) = true := beq_iff_eq.mpr c5
      have c5b1 : (t118.toList != t116.toList) = false := bne_eq_false_iff_eq.mpr c5
      clear c5
      by_cases c6 : (t119 != t117) = true
      · rw [if_pos c6] at H
        have c6b0 : (t119 != t117) = true := c6
        (try (have c6b1 : decide (t119 = t117) = false := by simpa using c6))
        (try (have c6b2 : (t119 == t117) = false := by simpa using c6))
        (try (have c6b3 : ¬ (t119 = t117) := by simpa using c6))
        clear c6
        obtain rfl := Option.some.inj H
        go_enter Tryd.func6, Tryd.ntmps6
        go_wp2_with (first | ((with_reducible refine gate_callee (f := 14) rfl ?_); refine goesL_ (some 12) rfl rfl Tryd.func14 (by kernel_rfl) rfl #[.string a0] rfl (by (try simp only [List.map_toArray, List.map_cons, List.map_nil]); first | done | rfl | (simp only [List.length_drop, List.length_take]; rfl)) ?_; (with_reducible refine (spec_RestOf.calls k a0 t116 t117 _ A3.out).mono ?_); rintro e w7 ⟨rfl, hb⟩; refine ⟨_, rfl, ?_⟩; have n0_ := Aside0.mk (below_step (by repeat (first | (with_reducible first | exact HB.out | apply below_alloc | apply pw_below_drewN | apply below_drew1) | exact HB.out)) hb); clear HB; have HB := n0_; clear n0_; (try clear hb); (try clear hb2); (try clear hk); (try clear hi)) | ((with_reducible refine gate_callee (f := 15) rfl ?_); refine goesL_ (some 17) rfl rfl Tryd.func15 (by kernel_rfl) rfl #[.string a0] rfl (by (try simp only [List.map_toArray, List.map_cons, List.map_nil]); first | done | rfl | (simp only [List.length_drop, List.length_take]; rfl)) ?_; (with_reducible refine (impl_RestOf.calls a0 t118 t119 _ A4.out ?sml).mono ?_); (case sml => first | exact HML.out | exact ML.of_below HML.out HB.out | (refine ML.of_below HML.out ?_; repeat (first | (with_reducible first | exact HB.out | apply below_alloc | apply pw_below_drewN | apply below_drew1) | exact HB.out)) | (repeat (first | exact HML.out | (with_reducible refine ML.drewN ?_ _) | (with_reducible refine ML.drew ?_) | (with_reducible refine ML.alloc ?_ _)))); rintro e w8 ⟨rfl, hb⟩; refine ⟨_, rfl, ?_⟩; have n0_ := Aside0.mk (below_step (by repeat (first | (with_reducible first | exact HB.out | apply below_alloc | apply pw_below_drewN | apply below_drew1) | exact HB.out)) hb); clear HB; have HB := n0_; clear n0_; (try clear hb); (try clear hb2); (try clear hk); (try clear hi)))
        go_ret
        exact ⟨by first | rfl | (simp [errW_none, errW_some] <;> rfl) | (simp [*, errW_none, errW_some] <;> rfl), by repeat (first | (with_reducible first | exact HB.out | apply below_alloc | apply pw_below_drewN | apply below_drew1) | exact HB.out)⟩
      · rw [if_neg c6] at H
        have c6b0 : (t119 != t117) = false := by simpa using c6
        (try (have c6b1 : decide (t119 = t117) = true := by simpa using c6))
        (try (have c6b2 : (t119 == t117) = true := by simpa using c6))
        clear c6
        obtain rfl := Option.some.inj H
        go_enter Tryd.func6, Tryd.ntmps6
        go_wp2_with (first | ((with_reducible refine gate_callee (f := 14) rfl ?_); refine goesL_ (some 12) rfl rfl Tryd.func14 (by kernel_rfl) rfl #[.string a0] rfl (by (try simp only [List.map_toArray, List.map_cons, List.map_nil]); first | done | rfl | (simp only [List.length_drop, List.length_take]; rfl)) ?_; (with_reducible refine (spec_RestOf.calls k a0 t116 t117 _ A3.out).mono ?_); rintro e w9 ⟨rfl, hb⟩; refine ⟨_, rfl, ?_⟩; have n0_ := Aside0.mk (below_step (by repeat (first | (with_reducible first | exact HB.out | apply below_alloc | apply pw_below_drewN | apply below_drew1) | exact HB.out)) hb); clear HB; have HB := n0_; clear n0_; (try clear hb); (try clear hb2); (try clear hk); (try clear hi)) | ((with_reducible refine gate_callee (f := 15) rfl ?_); refine goesL_ (some 17) rfl rfl Tryd.func15 (by kernel_rfl) rfl #[.string a0] rfl (by (try simp only [List.map_toArray, List.map_cons, List.map_nil]); first | done | rfl | (simp only [List.length_drop, List.length_take]; rfl)) ?_; (with_reducible refine (impl_RestOf.calls a0 t118 t119 _ A4.out ?sml).mono ?_); (case sml => first | exact HML.out | exact ML.of_below HML.out HB.out | (refine ML.of_below HML.out ?_; repeat (first | (with_reducible first | exact HB.out | apply below_alloc | apply pw_below_drewN | apply below_drew1) | exact HB.out)) | (repeat (first | exact HML.out | (with_reducible refine ML.drewN ?_ _) | (with_reducible refine ML.drew ?_) | (with_reducible refine ML.alloc ?_ _)))); rintro e w10 ⟨rfl, hb⟩; refine ⟨_, rfl, ?_⟩; have n0_ := Aside0.mk (below_step (by repeat (first | (with_reducible first | exact HB.out | apply below_alloc | apply pw_below_drewN | apply below_drew1) | exact HB.out)) hb); clear HB; have HB := n0_; clear n0_; (try clear hb); (try clear hb2); (try clear hk); (try clear hi)))
        go_ret
        exact ⟨by first | rfl | (simp [errW_none, errW_some] <;> rfl) | (simp [*, errW_none, errW_some] <;> rfl), by repeat (first | (with_reducible first | exact HB.out | apply below_alloc | apply pw_below_drewN | apply below_drew1) | exact HB.out)⟩
    · rw [if_neg c5] at H
      have c5b0 : (t118.toList == t116.toList) = false := beq_eq_false_iff_ne.mpr c5
      have c5b1 : (t118.toList != t116.toList) = true := bne_iff_ne.mpr c5
      obtain rfl := Option.some.inj H
      go_enter Tryd.func6, Tryd.ntmps6
      go_wp2_with (first | ((with_reducible refine gate_callee (f := 14) rfl ?_); refine goesL_ (some 12) rfl rfl Tryd.func14 (by kernel_rfl) rfl #[.string a0] rfl (by (try simp only [List.map_toArray, List.map_cons, List.map_nil]); first | done | rfl | (simp only [List.length_drop, List.length_take]; rfl)) ?_; (with_reducible refine (spec_RestOf.calls k a0 t116 t117 _ A3.out).mono ?_); rintro e w11 ⟨rfl, hb⟩; refine ⟨_, rfl, ?_⟩; have n0_ := Aside0.mk (below_step (by repeat (first | (with_reducible first | exact HB.out | apply below_alloc | apply pw_below_drewN | apply below_drew1) | exact HB.out)) hb); clear HB; have HB := n0_; clear n0_; (try clear hb); (try clear hb2); (try clear hk); (try clear hi)) | ((with_reducible refine gate_callee (f := 15) rfl ?_); refine goesL_ (some 17) rfl rfl Tryd.func15 (by kernel_rfl) rfl #[.string a0] rfl (by (try simp only [List.map_toArray, List.map_cons, List.map_nil]); first | done | rfl | (simp only [List.length_drop, List.length_take]; rfl)) ?_; (with_reducible refine (impl_RestOf.calls a0 t118 t119 _ A4.out ?sml).mono ?_); (case sml => first | exact HML.out | exact ML.of_below HML.out HB.out | (refine ML.of_below HML.out ?_; repeat (first | (with_reducible first | exact HB.out | apply below_alloc | apply pw_below_drewN | apply below_drew1) | exact HB.out)) | (repeat (first | exact HML.out | (with_reducible refine ML.drewN ?_ _) | (with_reducible refine ML.drew ?_) | (with_reducible refine ML.alloc ?_ _)))); rintro e w12 ⟨rfl, hb⟩; refine ⟨_, rfl, ?_⟩; have n0_ := Aside0.mk (below_step (by repeat (first | (with_reducible first | exact HB.out | apply below_alloc | apply pw_below_drewN | apply below_drew1) | exact HB.out)) hb); clear HB; have HB := n0_; clear n0_; (try clear hb); (try clear hb2); (try clear hk); (try clear hi)))
      go_ret
      exact ⟨by first | rfl | (simp [errW_none, errW_some] <;> rfl) | (simp [*, errW_none, errW_some] <;> rfl), by repeat (first | (with_reducible first | exact HB.out | apply below_alloc | apply pw_below_drewN | apply below_drew1) | exact HB.out)⟩

/-- THE ONE PURE STATEMENT of laws_FnExactRestOf: yours. -/
def laws_FnExactRestOf.Pure : Prop := ∀ (a0 : ByteArray), a0.size ≤ 140737488351232 → ∃ k, laws_FnExactRestOf.f k a0 = some true
theorem laws_FnExactRestOf.walk (P : laws_FnExactRestOf.Pure) (a0 : ByteArray) (w : World) (w0 : a0.size ≤ 140737488351232) (hML : ML w) :
    Calls Tryd.prog 6 #[.string a0] w fun e w' => e = .returned (.bool true) ∧ Below w.heap.size w w' := by
  obtain ⟨k, h⟩ := P a0 w0
  refine (laws_FnExactRestOf.calls k a0 true w h hML).mono ?_
  rintro e w' ⟨rfl, hd⟩
  exact ⟨rfl, hd⟩

end Go.Proofs.YthaajflhjblkeabDoor.PFnExactRestOf
