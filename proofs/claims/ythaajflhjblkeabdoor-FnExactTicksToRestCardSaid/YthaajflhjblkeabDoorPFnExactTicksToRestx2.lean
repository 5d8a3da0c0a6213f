/- A text of this session for the law FnExactTicksToRest of the seat YthaajflhjblkeabDoor: the functions that the law uses and their walks. -/
import Derived.Test.YthaajflhjblkeabDoorPFnExactTicksToRestx0
import Derived.Test.YthaajflhjblkeabDoorPFnExactTicksToRestx1
namespace Go.Proofs.YthaajflhjblkeabDoor.PFnExactTicksToRest
open Go.RowKit Go.Proofs.YthaajflhjblkeabDoorW.PrintWords Go.Proofs.YthaajflhjblkeabDoorW.PrintLast Go.Proofs.YthaajflhjblkeabDoorW.PrintMore
attribute [local go_sem] max2_int min2_int max_two min_two max_three min_three max_four min_four   -- for this text's walks alone
set_option linter.unusedVariables false
set_option linter.unusedSimpArgs false

/-! ### impl_history: function 30 -/
/-- How often a soldier who looks right stands ahead of one who looks left. -/
def n60 (l : List UInt8) : Nat := (l.filter (fun b => b == 60)).length
def invB : List UInt8 → Nat
  | [] => 0
  | a :: t => (if a = 62 then n60 t else 0) + invB t
theorem n60_tk : ∀ l : List UInt8, n60 (tkB l) = n60 l
  | [] => rfl
  | [_] => rfl
  | a :: b :: t => by
    rw [tkB]
    split
    · rename_i h
      simp only [Bool.and_eq_true, beq_iff_eq] at h
      obtain ⟨rfl, rfl⟩ := h
      have := n60_tk t
      simp only [n60] at this ⊢
      simp [this]
    · have := n60_tk (b :: t)
      simp only [n60, List.filter_cons] at this ⊢
      split <;> simp_all
theorem inv_tk : ∀ l : List UInt8, invB (tkB l) ≤ invB l ∧ (hasB l = true → invB (tkB l) < invB l)
  | [] => ⟨Nat.le_refl _, fun h => by simp [hasB] at h⟩
  | [_] => ⟨Nat.le_refl _, fun h => by simp [hasB] at h⟩
  | a :: b :: t => by
    rw [tkB]
    split
    · rename_i h
      simp only [Bool.and_eq_true, beq_iff_eq] at h
      obtain ⟨rfl, rfl⟩ := h
      have ih := inv_tk t
      have hn := n60_tk t
      have e1 : invB (60 :: 62 :: tkB t) = n60 (tkB t) + invB (tkB t) := by simp [invB]
      have e2 : invB (62 :: 60 :: t) = n60 t + 1 + invB t := by simp [invB, n60]
      have h1 := ih.1
      rw [e1, e2, hn]
      exact ⟨by omega, fun _ => by omega⟩
    · rename_i h
      have ih := inv_tk (b :: t)
      have hn := n60_tk (b :: t)
      have hh : hasB (a :: b :: t) = hasB (b :: t) := by rw [hasB, Bool.eq_false_iff.mpr h, Bool.false_or]
      rw [hh, invB, show invB (a :: b :: t) = (if a = 62 then n60 (b :: t) else 0) + invB (b :: t) from rfl, hn]
      exact ⟨by have := ih.1; omega, fun h2 => by have := ih.2 h2; omega⟩
theorem tkB_length : ∀ l : List UInt8, (tkB l).length = l.length
  | [] => rfl
  | [_] => rfl
  | a :: b :: t => by
    rw [tkB]
    split
    · simp [tkB_length t]
    · simp [tkB_length (b :: t)]
/-- The row at rest, and the rows ahead of it. -/
def histL (l : List UInt8) : List UInt8 × List (List UInt8) :=
  if h : hasB l = true then ((histL (tkB l)).1, l :: (histL (tkB l)).2) else (l, [])
termination_by invB l
decreasing_by all_goals exact (inv_tk l).2 h
theorem histL_step {l : List UInt8} (h : hasB l = true) : histL l = ((histL (tkB l)).1, l :: (histL (tkB l)).2) := by
  rw [histL, dif_pos h]
theorem histL_rest {l : List UInt8} (h : hasB l = false) : histL l = (l, []) := by
  rw [histL, dif_neg (by rw [h]; simp)]
set_option maxHeartbeats 1600000 in
set_option maxRecDepth 100000 in
theorem history_calls {σ : Type} (g : Nat) (lb : Array Value) (eg : ∀ args w, (callFunc g args).run Tryd.prog w = .ok (.enter g args) w) (step : List UInt8 → σ → σ) (I : σ → World → Prop)
    (hML : ∀ s w, I s w → ML w) (hup : ∀ s w W, I s w → Below w.heap.size w W → I s W) (N : Nat) (hN : N < 1000000)
    (hstep : ∀ (l : List UInt8) s w, l.length = N → I s w → Calls Tryd.prog g (#[.string ⟨l.toArray⟩] ++ lb) w fun e w' => e = .returned (.tuple #[]) ∧ I (step l s) w')
    (l : List UInt8) (hl : l.length = N) (s : σ) (w : World) (hI : I s w) :
    Calls Tryd.prog 30 #[.string ⟨l.toArray⟩, .func (.func g) #[] lb] w fun e w' => e = .returned (.string ⟨(histL l).1.toArray⟩) ∧ I ((histL l).2.foldl (fun s l => step l s) s) w' := by
  have HI0 := Aside0.mk hI
  have HML := Aside0.mk hML
  have HUP := Aside0.mk hup
  have HST := Aside0.mk hstep
  have HL := Aside0.mk hl
  have HN := Aside0.mk hN
  clear hI hML hup hstep hl hN
  go_enter Tryd.func30, Tryd.ntmps30
  go_wp2
  go_loopg [0] (invB l) (fun kq v0 w' => ∃ (l1 : List UInt8) (s1 : σ), v0 = .string ⟨l1.toArray⟩ ∧ Aside0 (invB l1 = kq) ∧ Aside0 (l1.length = N) ∧ Aside0 ((histL l1).1 = (histL l).1 ∧ (histL l1).2.foldl (fun s l => step l s) s1 = (histL l).2.foldl (fun s l => step l s) s) ∧ Aside0 (I s1 w'))
  case atStart => exact ⟨l, s, rfl, ⟨rfl⟩, HL, ⟨⟨rfl, rfl⟩⟩, ⟨HUP.out _ _ _ HI0.out (by repeat (first | exact Below.refl _ _ | apply pw_below_drewN | apply below_drew))⟩⟩
  case round =>
    obtain ⟨l1, s1, rfl, HK, HL1, HH, HI⟩ := hrel
    have hsz : (⟨l1.toArray⟩ : ByteArray).size = l1.length := rfl
    have hbig : (⟨l1.toArray⟩ : ByteArray).size < 1000000 := by rw [hsz, HL1.out]; exact HN.out
    cases c : hasB l1 with
    | true =>
      have hd := Aside0.mk (inv_tk l1)
      have hh := Aside0.mk (histL_step c)
      have hr := Aside0.mk (fun W (h : Below wr.heap.size wr W) => impl_isAtRest.calls ⟨l1.toArray⟩ false W (by unfold impl_isAtRest.f; rw [if_pos (by omega)]; exact congrArg (fun b => some (!b)) c) (HML.out _ _ (HUP.out _ _ _ HI.out h)))
      have hs := Aside0.mk (fun W (h : Below wr.heap.size wr W) => HST.out l1 s1 W HL1.out (HUP.out _ _ _ HI.out h))
      have ht := Aside0.mk (fun s2 W (h : I s2 W) => impl_tick.calls ⟨l1.toArray⟩ ⟨(tkB l1).toArray⟩ W (by unfold impl_tick.f; rw [if_pos hbig]) (HML.out _ _ h))
      have HC := Aside0.mk c
      clear c hsz hbig
      generalize hy : (⟨(tkB l1).toArray⟩ : ByteArray) = y at ht
      have HY := Aside0.mk hy
      clear hy
      generalize (⟨l1.toArray⟩ : ByteArray) = x at hr hs ht ⊢
      go_wp2_with (first
        | (go_at_call 28; refine (hr.out _ (by repeat (first | exact Below.refl _ _ | apply pw_below_drewN | apply below_drew))).mono ?_; rintro e w' ⟨rfl, ⟨nd, rfl⟩⟩)
        | (go_at_call 24; refine (ht.out _ _ (HUP.out _ _ _ HI3.out (by repeat (first | exact Below.refl _ _ | apply pw_below_drewN | apply below_drew)))).mono ?_; rintro e w4 ⟨rfl, hb⟩; have HB4 := Aside0.mk hb; clear hb)
        | (go_at_fn g; refine (hs.out _ (by repeat (first | exact Below.refl _ _ | apply pw_below_drewN | apply below_drew))).mono ?_; rintro e w3 ⟨rfl, hi3⟩; have HI3 := Aside0.mk hi3; clear hi3))
      go_roundg (invB (tkB l1))
      case measure => have h1 := hd.out.2 HC.out; have h2 := HK.out; omega
      case rel => exact ⟨tkB l1, step l1 s1, by rw [HY.out], ⟨rfl⟩, ⟨by rw [tkB_length]; exact HL1.out⟩, ⟨by have h1 := HH.out; rw [hh.out] at h1; exact h1⟩, ⟨HUP.out _ _ _ (HUP.out _ _ _ (HUP.out _ _ _ HI3.out (by repeat (first | exact Below.refl _ _ | apply pw_below_drewN | apply below_drew))) HB4.out) (by repeat (first | exact Below.refl _ _ | apply pw_below_drewN | apply below_drew))⟩⟩
    | false =>
      have hh := Aside0.mk (histL_rest c)
      have hr := Aside0.mk (fun W (h : Below wr.heap.size wr W) => impl_isAtRest.calls ⟨l1.toArray⟩ true W (by unfold impl_isAtRest.f; rw [if_pos (by omega)]; exact congrArg (fun b => some (!b)) c) (HML.out _ _ (HUP.out _ _ _ HI.out h)))
      clear c hsz hbig
      generalize hx : (⟨l1.toArray⟩ : ByteArray) = x at hr ⊢
      have HX := Aside0.mk hx
      clear hx
      go_wp2_with (go_at_call 28; refine (hr.out _ (by repeat (first | exact Below.refl _ _ | apply pw_below_drewN | apply below_drew))).mono ?_; rintro e w' ⟨rfl, ⟨nd, rfl⟩⟩)
      go_ret
      have h1 := HH.out
      rw [hh.out] at h1
      refine ⟨by rw [← HX.out, ← h1.1]; try rfl, ?_⟩
      rw [← h1.2]
      exact HUP.out _ _ _ HI.out (by repeat (first | exact Below.refl _ _ | apply pw_below_drewN | apply below_drew))

/-! ### impl_ticksToRest: function 32 -/
/-- What a variable that is captured holds, behind a world. -/
structure CellIs (w : World) (v : Value) (W : World) : Prop where
  cell : W.cell? ⟨w.heap.size, 0, none⟩ = some v
  free : W.frozen? ⟨w.heap.size, 0, none⟩ = false
  below : Below w.heap.size w W
theorem CellIs.up {w : World} {v : Value} {W W' : World} (h : CellIs w v W) (hb : Below W.heap.size W W') : CellIs w v W' := by
  have hlt := World.block_lt_of_cell? W _ h.cell
  exact ⟨(hb.cell hlt).trans h.cell, (World.frozen?_of_block (hb.block _ hlt)).trans h.free, below_then h.below h.below.size hb⟩
def impl_ticksToRest.f (a0 : ByteArray) : Option (Int) := if a0.size < 1000000 then some ((histL a0.data.toList).2.foldl (fun s _ => wrap64 (s + 1)) 0) else none
set_option maxHeartbeats 1600000 in
theorem ticksToRest_1_calls (x : ByteArray) (s : Int) (w W : World) (h : CellIs w (.int .i64 s) W) :
    Calls Tryd.prog 38 #[.string x, .pointer (some ⟨w.heap.size, 0, none⟩)] W fun e w' => e = .returned (.tuple #[]) ∧ CellIs w (.int .i64 (wrap64 (s + 1))) w' := by
  have hc := h.cell
  have hf := h.free
  have HB := Aside0.mk h.below
  clear h
  generalize hB : w.heap.size = B at hc hf ⊢
  go_enter Tryd.func38, Tryd.ntmps38
  go_wp2
  first | go_end0 | go_ret
  subst hB
  refine ⟨by first | rfl | simp, ?_, ?_, ?_⟩
  · rw [World.cell?_setCell_same _ _ _ hc]
  · exact (World.frozen?_setCell _ _ _ _).trans hf
  · exact HB.out.setCell (Nat.le_refl _) _
set_option maxHeartbeats 1600000 in
set_option maxRecDepth 100000 in
theorem impl_ticksToRest.calls (a0 : ByteArray) (r : Int) (w : World) (h : impl_ticksToRest.f a0 = some r) (hML : ML w) :
    Calls Tryd.prog 32 #[.string a0] w fun e w' => e = .returned (.int .i64 r) ∧ Below w.heap.size w w' := by
  unfold impl_ticksToRest.f at h
  by_cases c : a0.size < 1000000
  · rw [if_pos c] at h
    obtain rfl := Option.some.inj h
    have hN : a0.data.toList.length < 1000000 := by rw [Array.length_toList]; exact c
    have hH := Aside0.mk (fun W (hi : CellIs w (.int .i64 0) W) => (show Calls Tryd.prog 30 #[.string a0, .func (.func 38) #[] #[.pointer (some ⟨w.heap.size, 0, none⟩)]] W (fun e w' => e = .returned (.string ⟨(histL a0.data.toList).1.toArray⟩) ∧ CellIs w (.int .i64 ((histL a0.data.toList).2.foldl (fun s _ => wrap64 (s + 1)) 0)) w') from
      history_calls 38 #[.pointer (some ⟨w.heap.size, 0, none⟩)] (enters_ (P := Tryd.prog) Tryd.func38 (by kernel_rfl) rfl) (fun _ s => wrap64 (s + 1)) (fun s W => CellIs w (.int .i64 s) W)
        (fun s W hi => hML.of_below hi.below) (fun s W W' hi hb => hi.up hb) a0.data.toList.length hN (fun l s W _ hi => ticksToRest_1_calls ⟨l.toArray⟩ s w W hi) a0.data.toList rfl 0 W hi))
    generalize (histL a0.data.toList).2.foldl (fun s _ => wrap64 (s + 1)) 0 = r at hH
    generalize (⟨(histL a0.data.toList).1.toArray⟩ : ByteArray) = y at hH
    clear c hN
    have hmf : ∀ (fn : Fn) (first cap : Array Value) (w : World), (Instr.makeFunc fn first cap).run Tryd.prog w = .ok (.func fn first cap) w := fun _ _ _ _ => rfl
    go_enter Tryd.func32, Tryd.ntmps32
    go_wp2_with (go_at_call 30; refine (hH.out _ ⟨by simp, by simp, by first | exact ((Below.refl _ _).alloc (Nat.le_refl _) _) | repeat (first | exact Below.refl _ _ | apply below_alloc | apply pw_below_drewN | apply below_drew)⟩).mono ?_; rintro e w' ⟨rfl, hi⟩; have HI := Aside0.mk hi; have hcell := hi.cell; clear hi)
    go_ret
    exact ⟨by first | rfl | simp, by first | exact HI.out.below | (repeat (first | exact HI.out.below | apply pw_below_drewN | apply below_drew))⟩
  · rw [if_neg c] at h
    exact absurd h (by simp)

/-! ### impl_TicksToRest: function 17 -/
def impl_TicksToRest.f (a0 : ByteArray) : Option (Int × Bool) := (impl_isRow.f a0).bind fun t116 => (if t116 = true then ((impl_ticksToRest.f a0).bind fun t117 => (some (t117, true))) else (some (0, false)))
set_option maxHeartbeats 8000000 in
set_option maxRecDepth 100000 in
theorem impl_TicksToRest.calls (a0 : ByteArray) (r1 : Int) (r2 : Bool) (w : World) (h : impl_TicksToRest.f a0 = some (r1, r2)) (hML : ML w) :
    Calls Tryd.prog 17 #[.string a0] w fun e w' => e = .returned (.tuple #[.int .i64 r1, .bool r2]) ∧ Below w.heap.size w w' := by
  have HML := Aside0.mk hML
  clear hML
  have HB := Aside0.mk (Below.refl w.heap.size w)
  have H : ((impl_isRow.f a0).bind fun t116 => (if t116 = true then ((impl_ticksToRest.f a0).bind fun t117 => (some (t117, true))) else (some (0, false)))) = some (r1, r2) := h
  clear h
  replace H := Option.bind_eq_some_iff.mp H
  obtain ⟨t116, A20, H⟩ := H
  replace H : (if t116 = true then ((impl_ticksToRest.f a0).bind fun t117 => (some (t117, true))) else (some (0, false))) = some (r1, r2) := H
  have A2 := Aside0.mk A20
  clear A20
  by_cases c3 : t116 = true
  · subst c3
    have H1 : ((impl_ticksToRest.f a0).bind fun t117 => (some (t117, true))) = some (r1, r2) := by rw [if_pos rfl] at H; exact H
    clear H
    have H := H1
    clear H1
    replace H := Option.bind_eq_some_iff.mp H
    obtain ⟨t117, A40, H⟩ := H
    replace H : (some (t117, true)) = some (r1, r2) := H
    have A4 := Aside0.mk A40
    clear A40
    simp only [Option.some.injEq, Prod.mk.injEq] at H
    obtain ⟨rfl, rfl⟩ := H
    go_enter Tryd.func17, Tryd.ntmps17
    go_wp2_with (first | ((with_reducible refine gate_callee (f := 20) rfl ?_); refine goesL_ (some 5) rfl rfl Tryd.func20 (by kernel_rfl) rfl #[.string a0] rfl (by (try simp only [List.map_toArray, List.map_cons, List.map_nil]); first | done | rfl | (simp only [List.length_drop, List.length_take]; rfl)) ?_; (with_reducible refine (impl_isRow.calls a0 true _ A2.out).mono ?_); rintro e w5 ⟨rfl, hb⟩; refine ⟨_, rfl, ?_⟩; have n0_ := Aside0.mk (below_step (by repeat (first | (with_reducible first | exact HB.out | apply below_alloc | apply pw_below_drewN | apply below_drew1) | exact HB.out)) hb); clear HB; have HB := n0_; clear n0_; (try clear hb); (try clear hb2); (try clear hk); (try clear hi)) | ((with_reducible refine gate_callee (f := 32) rfl ?_); refine goesL_ (some 8) rfl rfl Tryd.func32 (by kernel_rfl) rfl #[.string a0] rfl (by (try simp only [List.map_toArray, List.map_cons, List.map_nil]); first | done | rfl | (simp only [List.length_drop, List.length_take]; rfl)) ?_; (with_reducible refine (impl_ticksToRest.calls a0 t117 _ A4.out ?sml).mono ?_); (case sml => first | exact HML.out | exact ML.of_below HML.out HB.out | (refine ML.of_below HML.out ?_; repeat (first | (with_reducible first | exact HB.out | apply below_alloc | apply pw_below_drewN | apply below_drew1) | exact HB.out)) | (repeat (first | exact HML.out | (with_reducible refine ML.drewN ?_ _) | (with_reducible refine ML.drew ?_) | (with_reducible refine ML.alloc ?_ _)))); rintro e w6 ⟨rfl, hb⟩; refine ⟨_, rfl, ?_⟩; have n0_ := Aside0.mk (below_step (by repeat (first | (with_reducible first | exact HB.out | apply below_alloc | apply pw_below_drewN | apply below_drew1) | exact HB.out)) hb); clear HB; have HB := n0_; clear n0_; (try clear hb); (try clear hb2); (try clear hk); (try clear hi)))
    go_ret2
    exact ⟨by first | rfl | (simp [errW_none, errW_some] <;> rfl) | (simp [*, errW_none, errW_some] <;> rfl), by repeat (first | (with_reducible first | exact HB.out | apply below_alloc | apply pw_below_drewN | apply below_drew1) | exact HB.out)⟩
  · replace c3 := Bool.eq_false_iff.mpr c3
    subst c3
    have H1 : (some (0, false)) = some (r1, r2) := by rw [if_neg (show ¬ (false = true) by decide)] at H; exact H
    clear H
    have H := H1
    clear H1
    simp only [Option.some.injEq, Prod.mk.injEq] at H
    obtain ⟨rfl, rfl⟩ := H
    go_enter Tryd.func17, Tryd.ntmps17
    go_wp2_with (first | ((with_reducible refine gate_callee (f := 20) rfl ?_); refine goesL_ (some 5) rfl rfl Tryd.func20 (by kernel_rfl) rfl #[.string a0] rfl (by (try simp only [List.map_toArray, List.map_cons, List.map_nil]); first | done | rfl | (simp only [List.length_drop, List.length_take]; rfl)) ?_; (with_reducible refine (impl_isRow.calls a0 false _ A2.out).mono ?_); rintro e w7 ⟨rfl, hb⟩; refine ⟨_, rfl, ?_⟩; have n0_ := Aside0.mk (below_step (by repeat (first | (with_reducible first | exact HB.out | apply below_alloc | apply pw_below_drewN | apply below_drew1) | exact HB.out)) hb); clear HB; have HB := n0_; clear n0_; (try clear hb); (try clear hb2); (try clear hk); (try clear hi)))
    go_ret2
    exact ⟨by first | rfl | (simp [errW_none, errW_some] <;> rfl) | (simp [*, errW_none, errW_some] <;> rfl), by repeat (first | (with_reducible first | exact HB.out | apply below_alloc | apply pw_below_drewN | apply below_drew1) | exact HB.out)⟩

/-! ### laws_FnExactTicksToRest: function 7 -/
def laws_FnExactTicksToRest.f (k : Nat) (a0 : ByteArray) : Option (Bool) := if (a0.size : Int) > 1048576 then (some true) else ((spec_TicksToRest.f k a0).bind fun bt118 => ((impl_TicksToRest.f a0).bind fun bt120 => (if bt120.1 = bt118.1 then (if (bt120.2 != bt118.2) = true then (some false) else (some true)) else (some false))))
theorem laws_FnExactTicksToRest.mono : ∀ a0 k, LeO (laws_FnExactTicksToRest.f k a0) (laws_FnExactTicksToRest.f (k + 1) a0) := by
  intro a0 k
  unfold laws_FnExactTicksToRest.f
  repeat' first
      | (with_reducible exact spec_TicksToRest.mono _ _)
      | (with_reducible exact LeO.refl _)
      | (with_reducible exact LeO.none _)
      | (with_reducible refine LeO.ite ?_ ?_)
      | (with_reducible refine LeO.bind ?_ (fun _ => ?_))
      | exact spec_TicksToRest.mono _ _
      | exact LeO.none _
      | refine LeO.ite ?_ ?_
      | refine LeO.bind ?_ (fun _ => ?_)
set_option maxHeartbeats 8000000 in
set_option maxRecDepth 100000 in
theorem laws_FnExactTicksToRest.calls (k : Nat) (a0 : ByteArray) (r : Bool) (w : World) (h : laws_FnExactTicksToRest.f k a0 = some r) (hML : ML w) :
    Calls Tryd.prog 7 #[.string a0] w fun e w' => e = .returned (.bool r) ∧ Below w.heap.size w w' := by
  have HML := Aside0.mk hML
  clear hML
  have HB := Aside0.mk (Below.refl w.heap.size w)
  have H : (if (a0.size : Int) > 1048576 then (some true) else ((spec_TicksToRest.f k a0).bind fun bt118 => ((impl_TicksToRest.f a0).bind fun bt120 => (if bt120.1 = bt118.1 then (if (bt120.2 != bt118.2) = true then (some false) else (some true)) else (some false))))) = some r := h
  clear h
  by_cases c2 : (a0.size : Int) > 1048576
  · rw [if_pos c2] at H
    have c2b0 : decide (1048576 < (a0.size : Int)) = true := decide_eq_true c2
    have c2b1 : decide (1048576 < a0.size) = true := decide_eq_true (by omega)
    clear c2
    obtain rfl := Option.some.inj H
    go_enter Tryd.func7, Tryd.ntmps7
    go_wp2
    go_ret
    exact ⟨by first | rfl | (simp [errW_none, errW_some] <;> rfl) | (simp [*, errW_none, errW_some] <;> rfl), by repeat (first | (with_reducible first | exact HB.out | apply below_alloc | apply pw_below_drewN | apply below_drew1) | exact HB.out)⟩
  · rw [if_neg c2] at H
    have c2b0 : decide (1048576 < (a0.size : Int)) = false := decide_eq_false c2
    have c2b1 : decide (1048576 < a0.size) = false := decide_eq_false (by omega)
    clear c2
    replace H := Option.bind_eq_some_iff.mp H
    obtain ⟨⟨t118, t119⟩, A30, H⟩ := H
    replace H : ((impl_TicksToRest.f a0).bind fun bt120 => (if bt120.1 = t118 then (if (bt120.2 != t119) = true then (some false) else (some true)) else (some false))) = some r := H
    have A3 := Aside0.mk A30
    clear A30
    replace H := Option.bind_eq_some_iff.mp H
    obtain ⟨⟨t120, t121⟩, A40, H⟩ := H
    replace H : (if t120 = t118 then (if (t121 != t119) = true then (some false) else (some true)) else (some false)) = some r := H
    have A4 := Aside0.mk A40
    clear A40
    by_cases c5 : t120 = t118
    · rw [if_pos c5] at H
      have c5b0 : (t120 == t118) = true := beq_iff_eq.mpr c5
      have c5b1 : (t120 != t118) = false := bne_eq_false_iff_eq.mpr c5
      clear c5
      by_cases c6 : (t121 != t119) = true
      · rw [if_pos c6] at H
        have c6b0 : (t121 != t119) = true := c6
        (try (have c6b1 : decide (t121 = t119) = false := by simpa using c6))
        (try (have c6b2 : (t121 == t119) = false := by simpa using c6))
        (try (have c6b3 : ¬ (t121 = t119) := by simpa using c6))
        clear c6
        obtain rfl := Option.some.inj H
        go_enter Tryd.func7, Tryd.ntmps7
        go_wp2_with (first | ((with_reducible refine gate_callee (f := 16) rfl ?_); refine goesL_ (some 12) rfl rfl Tryd.func16 (by kernel_rfl) rfl #[.string a0] rfl (by (try simp only [List.map_toArray, List.map_cons, List.map_nil]); first | done | rfl | (simp only [List.length_drop, List.length_take]; rfl)) ?_; (with_reducible refine (spec_TicksToRest.calls k a0 t118 t119 _ A3.out).mono ?_); rintro e w7 ⟨rfl, hb⟩; refine ⟨_, rfl, ?_⟩; have n0_ := Aside0.mk (below_step (by repeat (first | (with_reducible first | exact HB.out | apply below_alloc | apply pw_below_drewN | apply below_drew1) | exact HB.out)) hb); clear HB; have HB := n0_; clear n0_; (try clear hb); (try clear hb2); (try clear hk); (try clear hi)) | ((with_reducible refine gate_callee (f := 17) rfl ?_); refine goesL_ (some 17) rfl rfl Tryd.func17 (by kernel_rfl) rfl #[.string a0] rfl (by (try simp only [List.map_toArray, List.map_cons, List.map_nil]); first | done | rfl | (simp only [List.length_drop, List.length_take]; rfl)) ?_; (with_reducible refine (impl_TicksToRest.calls a0 t120 t121 _ A4.out ?sml).mono ?_); (case sml => first | exact HML.out | exact ML.of_below HML.out HB.out | (refine ML.of_below HML.out ?_; repeat (first | (with_reducible first | exact HB.out | apply below_alloc | apply pw_below_drewN | apply below_drew1) | exact HB.out)) | (repeat (first | exact HML.out | (with_reducible refine ML.drewN ?_ _) | (with_reducible refine ML.drew ?_) | (with_reducible refine ML.alloc ?_ _)))); rintro e w8 ⟨rfl, hb⟩; refine ⟨_, rfl, ?_⟩; have n0_ := Aside0.mk (below_step (by repeat (first | (with_reducible first | exact HB.out | apply below_alloc | apply pw_below_drewN | apply below_drew1) | exact HB.out)) hb); clear HB; have HB := n0_; clear n0_; (try clear hb); (try clear hb2); (try clear hk); (try clear hi)))
        go_ret
        exact ⟨by first | rfl | (simp [errW_none, errW_some] <;> rfl) | (simp [*, errW_none, errW_some] <;> rfl), by repeat (first | (with_reducible first | exact HB.out | apply below_alloc | apply pw_below_drewN | apply below_drew1) | exact HB.out)⟩
      · rw [if_neg c6] at H
        have c6b0 : (t121 != t119) = false := by simpa using c6
        (try (have c6b1 : decide (t121 = t119) = true := by simpa using c6))
        (try (have c6b2 : (t121 == t119) = true := by simpa using c6))
        clear c6
        obtain rfl := Option.some.inj H
        go_enter Tryd.func7, Tryd.ntmps7
        go_wp2_with (first | ((with_reducible refine gate_callee (f := 16) rfl ?_); refine goesL_ (some 12) rfl rfl Tryd.func16 (by kernel_rfl) rfl #[.string a0] rfl (by (try simp only [List.map_toArray, List.map_cons, List.map_nil]); first | done | rfl | (simp only [List.length_drop, List.length_take]; rfl)) ?_; (with_reducible refine (spec_TicksToRest.calls k a0 t118 t119 _ A3.out).mono ?_); rintro e w9 ⟨rfl, hb⟩; refine ⟨_, rfl, ?_⟩; have n0_ := Aside0.mk (below_step (by repeat (first | (with_reducible first | exact HB.out | apply below_alloc | apply pw_below_drewN | apply below_drew1) | exact HB.out)) hb); clear HB; have HB := n0_; clear n0_; (try clear hb); (try clear hb2); (try clear hk); (try clear hi)) | ((with_reducible refine gate_callee (f := 17) rfl ?_); refine goesL_ (some 17) rfl rfl Tryd.func17 (by kernel_rfl) rfl #[.string a0] rfl (by (try simp only [List.map_toArray, List.map_cons, List.map_nil]); first | done | rfl | (simp only [List.length_drop, List.length_take]; rfl)) ?_; (with_reducible refine (impl_TicksToRest.calls a0 t120 t121 _ A4.out ?sml).mono ?_); (case sml => first | exact HML.out | exact ML.of_below HML.out HB.out | (refine ML.of_below HML.out ?_; repeat (first | (with_reducible first | exact HB.out | apply below_alloc | apply pw_below_drewN | apply below_drew1) | exact HB.out)) | (repeat (first | exact HML.out | (with_reducible refine ML.drewN ?_ _) | (with_reducible refine ML.drew ?_) | (with_reducible refine ML.alloc ?_ _)))); rintro e w10 ⟨rfl, hb⟩; refine ⟨_, rfl, ?_⟩; have n0_ := Aside0.mk (below_step (by repeat (first | (with_reducible first | exact HB.out | apply below_alloc | apply pw_below_drewN | apply below_drew1) | exact HB.out)) hb); clear HB; have HB := n0_; clear n0_; (try clear hb); (try clear hb2); (try clear hk); (try clear hi)))
        go_ret
        exact ⟨by first | rfl | (simp [errW_none, errW_some] <;> rfl) | (simp [*, errW_none, errW_some] <;> rfl), by repeat (first | (with_reducible first | exact HB.out | apply below_alloc | apply pw_below_drewN | apply below_drew1) | exact HB.out)⟩
    · rw [if_neg c5] at H
      have c5b0 : (t120 == t118) = false := beq_eq_false_iff_ne.mpr c5
      have c5b1 : (t120 != t118) = true := bne_iff_ne.mpr c5
      obtain rfl := Option.some.inj H
      go_enter Tryd.func7, Tryd.ntmps7
      go_wp2_with (first | ((with_reducible refine gate_callee (f := 16) rfl ?_); refine goesL_ (some 12) rfl rfl Tryd.func16 (by kernel_rfl) rfl #[.string a0] rfl (by (try simp only [List.map_toArray, List.map_cons, List.map_nil]); first | done | rfl | (simp only [List.length_drop, List.length_take]; rfl)) ?_; (with_reducible refine (spec_TicksToRest.calls k a0 t118 t119 _ A3.out).mono ?_); rintro e w11 ⟨rfl, hb⟩; refine ⟨_, rfl, ?_⟩; have n0_ := Aside0.mk (below_step (by repeat (first | (with_reducible first | exact HB.out | apply below_alloc | apply pw_below_drewN | apply below_drew1) | exact HB.out)) hb); clear HB; have HB := n0_; clear n0_; (try clear hb); (try clear hb2); (try clear hk); (try clear hi)) | ((with_reducible refine gate_callee (f := 17) rfl ?_); refine goesL_ (some 17) rfl rfl Tryd.func17 (by kernel_rfl) rfl #[.string a0] rfl (by (try simp only [List.map_toArray, List.map_cons, List.map_nil]); first | done | rfl | (simp only [List.length_drop, List.length_take]; rfl)) ?_; (with_reducible refine (impl_TicksToRest.calls a0 t120 t121 _ A4.out ?sml).mono ?_); (case sml => first | exact HML.out | exact ML.of_below HML.out HB.out | (refine ML.of_below HML.out ?_; repeat (first | (with_reducible first | exact HB.out | apply below_alloc | apply pw_below_drewN | apply below_drew1) | exact HB.out)) | (repeat (first | exact HML.out | (with_reducible refine ML.drewN ?_ _) | (with_reducible refine ML.drew ?_) | (with_reducible refine ML.alloc ?_ _)))); rintro e w12 ⟨rfl, hb⟩; refine ⟨_, rfl, ?_⟩; have n0_ := Aside0.mk (below_step (by repeat (first | (with_reducible first | exact HB.out | apply below_alloc | apply pw_below_drewN | apply below_drew1) | exact HB.out)) hb); clear HB; have HB := n0_; clear n0_; (try clear hb); (try clear hb2); (try clear hk); (try clear hi)))
      go_ret
      exact ⟨by first | rfl | (simp [errW_none, errW_some] <;> rfl) | (simp [*, errW_none, errW_some] <;> rfl), by repeat (first | (with_reducible first | exact HB.out | apply below_alloc | apply pw_below_drewN | apply below_drew1) | exact HB.out)⟩

/-- THE ONE PURE STATEMENT of laws_FnExactTicksToRest: yours. -/
def laws_FnExactTicksToRest.Pure : Prop := ∀ (a0 : ByteArray), a0.size ≤ 140737488351232 → ∃ k, laws_FnExactTicksToRest.f k a0 = some true
theorem laws_FnExactTicksToRest.walk (P : laws_FnExactTicksToRest.Pure) (a0 : ByteArray) (w : World) (w0 : a0.size ≤ 140737488351232) (hML : ML w) :
    Calls Tryd.prog 7 #[.string a0] w fun e w' => e = .returned (.bool true) ∧ Below w.heap.size w w' := by
  obtain ⟨k, h⟩ := P a0 w0
  refine (laws_FnExactTicksToRest.calls k a0 true w h hML).mono ?_
  rintro e w' ⟨rfl, hd⟩
  exact ⟨rfl, hd⟩

end Go.Proofs.YthaajflhjblkeabDoor.PFnExactTicksToRest
