/- The row in which each looks to the other side, as the program makes it: the walk of impl.turned over strings.Map's contract. -/
import Derived.Test.YtleacijhpkogpabDoorMl
import Derived.Test.YtleacijhpkogpabDoorRPlain
import Derived.Test.YtleacijhpkogpabDoorPFnRowsRestOfAllx0
import Derived.WalkSpells
import Derived.Shelf.Abstract
import Derived.Lib.SliceRun
namespace Go.Proofs.YtleacijhpkogpabDoor.RImpl
open Go.RowKit Go.Proofs.YtleacijhpkogpabDoorW.PrintWords Go.Proofs.YtleacijhpkogpabDoorW.PrintLast Go.Proofs.YtleacijhpkogpabDoorW.PrintMore Go.Shelf Go.Proofs.YtleacijhpkogpabDoor.RPlain
set_option linter.unusedVariables false
set_option linter.unusedSimpArgs false

set_option maxHeartbeats 1600000 in
theorem turned_1_calls (x : Nat) (hx : x ≤ 1114111) (w : World) :
    Calls Tryd.prog 86 #[.int .i32 (x : Int)] w fun e w' => e = .returned (.int .i32 (122 - (x : Int))) ∧ Below w.heap.size w w' := by
  have hw : Aside0 (wrap32 (122 - (x : Int)) = 122 - (x : Int)) := ⟨by
    unfold wrap32; omega⟩
  generalize hv : (122 - (x : Int)) = v at hw ⊢
  generalize (x : Int) = y at hv
  clear hx
  go_enter Tryd.func86, Tryd.ntmps86
  go_wp2
  go_ret
  refine ⟨?_, by repeat (first | exact Below.refl _ _ | apply pw_below_drewN | apply below_drew)⟩
  first | rfl | (simp only [hv, hw.out]; done) | (simp [hv]; exact hw.out) | exact hw.out
set_option maxHeartbeats 1600000 in
set_option maxRecDepth 100000 in
theorem turned_calls (l : List UInt8) (hl : l.length < 1000000) (ha : l.all (fun b => b == 60 || b == 62) = true) (w : World) (hML : ML w) :
    Calls Tryd.prog 60 #[.string (bs l)] w fun e w' => e = .returned (.string (bs (l.map otherB))) ∧ Below w.heap.size w w' := by
  obtain ⟨_, hT⟩ := hML
  have hz : (bs l).size = l.length := rfl
  have hC := Aside0.mk (show Calls Tryd.prog 85 #[.func (.func 86) #[] #[], .string (bs l)] w (fun e w' => e = .returned (.string ⟨(Lib.mapD (fun x => 122 - x) l).toArray⟩) ∧ Below w.heap.size w w') from
    Any.strings_Map_grows Tryd.lays230 Tryd.Builder_Extra_230 86 #[] (enters_ (P := Tryd.prog) Tryd.func86 (by kernel_rfl) rfl) (fun x => 122 - x) (bs l) w (by omega)
      (fun W x hx _ => turned_1_calls x hx W) (fun x hx => by omega) hT)
  have hv : Aside0 ((⟨(Lib.mapD (fun x => 122 - x) l).toArray⟩ : ByteArray) = bs (l.map otherB)) := ⟨by rw [mapD_other l ha]; rfl⟩
  rw [hv.out] at hC
  clear hv hT hl ha hz
  generalize bs (l.map otherB) = r at hC ⊢
  generalize bs l = x at hC ⊢
  go_enter Tryd.func60, Tryd.ntmps60
  go_wp2_with (go_at_call 85; refine hC.out.mono ?_; rintro e w' ⟨rfl, hB⟩)
  go_ret
  exact ⟨rfl, hB⟩
end Go.Proofs.YtleacijhpkogpabDoor.RImpl
/- How the program ticks a row and brings it to rest: the walks of impl.isAtRest, tick, history, ticksToRest over the library's contracts. -/
namespace Go.Proofs.YtleacijhpkogpabDoor.RImpl
open Go.RowKit Go.Proofs.YtleacijhpkogpabDoorW.PrintWords Go.Proofs.YtleacijhpkogpabDoorW.PrintLast Go.Proofs.YtleacijhpkogpabDoorW.PrintMore Go.Shelf Go.Proofs.YtleacijhpkogpabDoor.RPlain
set_option linter.unusedVariables false
set_option linter.unusedSimpArgs false

set_option maxHeartbeats 1600000 in
set_option maxRecDepth 100000 in
theorem atRest_calls (l : List UInt8) (hl : l.length < 1000000) (w : World) (hML : ML w) :
    Calls Tryd.prog 73 #[.string (bs l)] w fun e w' => e = .returned (.bool (!hasB l)) ∧ Drawn0 w w' := by
  obtain ⟨⟨m, hm⟩, _⟩ := hML
  have hC := Aside0.mk (show Calls Tryd.prog 88 #[.string (bs l), .string ⟨#[62, 60]⟩] w (fun e w' => e = .returned (.bool (Lib.contains l [62, 60])) ∧ w' = w) from Any.strings_Contains Tryd.lays144 (bs l) ⟨#[62, 60]⟩ m w (by rw [bs_size]; omega) hm)
  have hv : Aside0 (Lib.contains l [62, 60] = hasB l) := ⟨index_two _⟩
  rw [← hv.out]
  clear hv
  generalize Lib.contains l [62, 60] = b at hC
  generalize bs l = x at hC ⊢
  clear hl hm
  go_enter Tryd.func73, Tryd.ntmps73
  go_wp2_with (go_at_call 88; refine hC.out.mono ?_; rintro e w' ⟨rfl, rfl⟩)
  go_ret
  exact ⟨rfl, Drawn0.refl _⟩
theorem rest_is (l : List UInt8) (b : Bool) (h : hasB l = b) (hl : l.length < 1000000) (w : World) (hML : ML w) :
    Calls Tryd.prog 73 #[.string ⟨l.toArray⟩] w fun e w' => e = .returned (.bool (!b)) ∧ Drawn0 w w' := by
  subst h
  exact atRest_calls l hl w hML
set_option maxHeartbeats 1600000 in
set_option maxRecDepth 100000 in
theorem itick_calls (l : List UInt8) (hl : l.length < 1000000) (w : World) (hML : ML w) :
    Calls Tryd.prog 70 #[.string (bs l)] w fun e w' => e = .returned (.string (bs (tkB l))) ∧ Below w.heap.size w w' := by
  obtain ⟨⟨m, hm⟩, _⟩ := hML
  have hcnt := Lib.countB_le ⟨#[62, 60]⟩ (by decide) (bs l).size (bs l) (Nat.le_refl _)
  have hz : (bs l).size = l.length := rfl
  have hC := Aside0.mk (show Calls Tryd.prog 87 #[.string (bs l), .string ⟨#[62, 60]⟩, .string ⟨#[60, 62]⟩] w (fun e w' => e = .returned (.string ⟨(Lib.replaceAll l [62, 60] [60, 62]).toArray⟩) ∧ Below w.heap.size w w') from Any.strings_ReplaceAll Tryd.lays155 Tryd.Builder_Extra_155 (bs l) ⟨#[62, 60]⟩ ⟨#[60, 62]⟩ m w (by omega) hm (by decide) (by
    have : (⟨#[60, 62]⟩ : ByteArray).size = 2 := rfl
    rw [this]; omega))
  have hv : Aside0 ((⟨(Lib.replaceAll l [62, 60] [60, 62]).toArray⟩ : ByteArray) = bs (tkB l)) := ⟨by rw [tk_all]; rfl⟩
  rw [hv.out] at hC
  clear hv hm hcnt hz
  generalize bs (tkB l) = r at hC ⊢
  generalize bs l = x at hC ⊢
  go_enter Tryd.func70, Tryd.ntmps70
  go_wp2_with (go_at_call 87; refine hC.out.mono ?_; rintro e w' ⟨rfl, hB⟩)
  go_ret
  exact ⟨rfl, hB⟩
set_option maxHeartbeats 1600000 in
set_option maxRecDepth 100000 in
theorem history_calls {σ : Type} (g : Nat) (lb : Array Value) (eg : ∀ args w, (callFunc g args).run Tryd.prog w = .ok (.enter g args) w) (step : List UInt8 → σ → σ) (I : σ → World → Prop)
    (hML : ∀ s w, I s w → ML w) (hup : ∀ s w W, I s w → Below w.heap.size w W → I s W) (N : Nat) (hN : N < 1000000)
    (hstep : ∀ (l : List UInt8) s w, l.length = N → I s w → Calls Tryd.prog g (#[.string ⟨l.toArray⟩] ++ lb) w fun e w' => e = .returned (.tuple #[]) ∧ I (step l s) w')
    (l : List UInt8) (hl : l.length = N) (s : σ) (w : World) (hI : I s w) :
    Calls Tryd.prog 64 #[.string ⟨l.toArray⟩, .func (.func g) #[] lb] w fun e w' => e = .returned (.string ⟨(histL l).1.toArray⟩) ∧ I ((histL l).2.foldl (fun s l => step l s) s) w' := by
  have HI0 := Aside0.mk hI
  have HML := Aside0.mk hML
  have HUP := Aside0.mk hup
  have HST := Aside0.mk hstep
  have HL := Aside0.mk hl
  have HN := Aside0.mk hN
  clear hI hML hup hstep hl hN
  go_enter Tryd.func64, Tryd.ntmps64
  go_wp2
  go_loopg [0] (invB l) (fun kq v0 w' => ∃ (l1 : List UInt8) (s1 : σ), v0 = .string ⟨l1.toArray⟩ ∧ Aside0 (invB l1 = kq) ∧ Aside0 (l1.length = N) ∧ Aside0 ((histL l1).1 = (histL l).1 ∧ (histL l1).2.foldl (fun s l => step l s) s1 = (histL l).2.foldl (fun s l => step l s) s) ∧ Aside0 (I s1 w'))
  case atStart => exact ⟨l, s, rfl, ⟨rfl⟩, HL, ⟨⟨rfl, rfl⟩⟩, ⟨HUP.out _ _ _ HI0.out (by repeat (first | exact Below.refl _ _ | apply pw_below_drewN | apply below_drew))⟩⟩
  case round =>
    obtain ⟨l1, s1, rfl, HK, HL1, HH, HI⟩ := hrel
    have hbig : l1.length < 1000000 := by rw [HL1.out]; exact HN.out
    cases c : hasB l1 with
    | true =>
      have hd := Aside0.mk (inv_tk l1)
      have hh := Aside0.mk (histL_step c)
      have hr := Aside0.mk (fun W (h : Below wr.heap.size wr W) => rest_is l1 true c hbig W (HML.out _ _ (HUP.out _ _ _ HI.out h)))
      have hs := Aside0.mk (fun W (h : Below wr.heap.size wr W) => HST.out l1 s1 W HL1.out (HUP.out _ _ _ HI.out h))
      have ht := Aside0.mk (fun s2 W (h : I s2 W) => itick_calls l1 hbig W (HML.out _ _ h))
      change Aside0 (∀ s2 W, I s2 W → Calls Tryd.prog 70 #[.string ⟨l1.toArray⟩] W fun e w' => e = .returned (.string ⟨(tkB l1).toArray⟩) ∧ Below W.heap.size W w') at ht
      have HC := Aside0.mk c
      clear c hbig
      generalize hy : (⟨(tkB l1).toArray⟩ : ByteArray) = y at ht
      have HY := Aside0.mk hy
      clear hy
      generalize (⟨l1.toArray⟩ : ByteArray) = x at hr hs ht ⊢
      go_wp2_with (first
        | (go_at_call 73; refine (hr.out _ (by repeat (first | exact Below.refl _ _ | apply pw_below_drewN | apply below_drew))).mono ?_; rintro e w' ⟨rfl, ⟨nd, rfl⟩⟩)
        | (go_at_call 70; refine (ht.out _ _ (HUP.out _ _ _ HI3.out (by repeat (first | exact Below.refl _ _ | apply pw_below_drewN | apply below_drew)))).mono ?_; rintro e w4 ⟨rfl, hb⟩; have HB4 := Aside0.mk hb; clear hb)
        | (go_at_fn g; refine (hs.out _ (by repeat (first | exact Below.refl _ _ | apply pw_below_drewN | apply below_drew))).mono ?_; rintro e w3 ⟨rfl, hi3⟩; have HI3 := Aside0.mk hi3; clear hi3))
      go_roundg (invB (tkB l1))
      case measure => have h1 := hd.out.2 HC.out; have h2 := HK.out; omega
      case rel => exact ⟨tkB l1, step l1 s1, by rw [HY.out], ⟨rfl⟩, ⟨by rw [tkB_len]; exact HL1.out⟩, ⟨by have h1 := HH.out; rw [hh.out] at h1; exact h1⟩, ⟨HUP.out _ _ _ (HUP.out _ _ _ (HUP.out _ _ _ HI3.out (by repeat (first | exact Below.refl _ _ | apply pw_below_drewN | apply below_drew))) HB4.out) (by repeat (first | exact Below.refl _ _ | apply pw_below_drewN | apply below_drew))⟩⟩
    | false =>
      have hh := Aside0.mk (histL_rest c)
      have hr := Aside0.mk (fun W (h : Below wr.heap.size wr W) => rest_is l1 false c hbig W (HML.out _ _ (HUP.out _ _ _ HI.out h)))
      clear c hbig
      generalize hx : (⟨l1.toArray⟩ : ByteArray) = x at hr ⊢
      have HX := Aside0.mk hx
      clear hx
      go_wp2_with (go_at_call 73; refine (hr.out _ (by repeat (first | exact Below.refl _ _ | apply pw_below_drewN | apply below_drew))).mono ?_; rintro e w' ⟨rfl, ⟨nd, rfl⟩⟩)
      go_ret
      have h1 := HH.out
      rw [hh.out] at h1
      refine ⟨by rw [← HX.out, ← h1.1]; try rfl, ?_⟩
      rw [← h1.2]
      exact HUP.out _ _ _ HI.out (by repeat (first | exact Below.refl _ _ | apply pw_below_drewN | apply below_drew))

end Go.Proofs.YtleacijhpkogpabDoor.RImpl
/- How many ticks a row needs, as the program counts them: the walk of impl.ticksToRest and its closure. -/
namespace Go.Proofs.YtleacijhpkogpabDoor.RImpl
open Go.RowKit Go.Proofs.YtleacijhpkogpabDoorW.PrintWords Go.Proofs.YtleacijhpkogpabDoorW.PrintLast Go.Proofs.YtleacijhpkogpabDoorW.PrintMore Go.Shelf Go.Proofs.YtleacijhpkogpabDoor.RPlain
set_option linter.unusedVariables false
set_option linter.unusedSimpArgs false

/-- What a variable that is captured holds, behind a world. -/
structure CellIs (w : World) (v : Value) (W : World) : Prop where
  cell : W.cell? ⟨w.heap.size, 0, none⟩ = some v
  free : W.frozen? ⟨w.heap.size, 0, none⟩ = false
  below : Below w.heap.size w W
theorem CellIs.up {w : World} {v : Value} {W W' : World} (h : CellIs w v W) (hb : Below W.heap.size W W') : CellIs w v W' := by
  have hlt := World.block_lt_of_cell? W _ h.cell
  exact ⟨(hb.cell hlt).trans h.cell, (World.frozen?_of_block (hb.block _ hlt)).trans h.free, below_then h.below h.below.size hb⟩
set_option maxHeartbeats 1600000 in
theorem ticksToRest_1_calls (x : ByteArray) (s : Int) (w W : World) (h : CellIs w (.int .i64 s) W) :
    Calls Tryd.prog 89 #[.string x, .pointer (some ⟨w.heap.size, 0, none⟩)] W fun e w' => e = .returned (.tuple #[]) ∧ CellIs w (.int .i64 (wrap64 (s + 1))) w' := by
  have hc := h.cell
  have hf := h.free
  have HB := Aside0.mk h.below
  clear h
  generalize hB : w.heap.size = B at hc hf ⊢
  go_enter Tryd.func89, Tryd.ntmps89
  go_wp2
  first | go_end0 | go_ret
  subst hB
  refine ⟨by first | rfl | simp, ?_, ?_, ?_⟩
  · rw [World.cell?_setCell_same _ _ _ hc]
  · exact (World.frozen?_setCell _ _ _ _).trans hf
  · exact HB.out.setCell (Nat.le_refl _) _
set_option maxHeartbeats 1600000 in
set_option maxRecDepth 100000 in
theorem ticks_calls (l : List UInt8) (hl : l.length ≤ 1000) (w : World) (hML : ML w) :
    Calls Tryd.prog 82 #[.string (bs l)] w fun e w' => e = .returned (.int .i64 ((histL l).2.length : Int)) ∧ Below w.heap.size w w' := by
  have hH := Aside0.mk (fun W (hi : CellIs w (.int .i64 0) W) => (show Calls Tryd.prog 64 #[.string (bs l), .func (.func 89) #[] #[.pointer (some ⟨w.heap.size, 0, none⟩)]] W (fun e w' => e = .returned (.string ⟨(histL l).1.toArray⟩) ∧ CellIs w (.int .i64 ((histL l).2.foldl (fun s _ => wrap64 (s + 1)) 0)) w') from
    history_calls 89 #[.pointer (some ⟨w.heap.size, 0, none⟩)] (enters_ (P := Tryd.prog) Tryd.func89 (by kernel_rfl) rfl) (fun _ s => wrap64 (s + 1)) (fun s W => CellIs w (.int .i64 s) W)
      (fun s W hi => hML.of_below hi.below) (fun s W W' hi hb => hi.up hb) l.length (by omega) (fun l s W _ hi => ticksToRest_1_calls ⟨l.toArray⟩ s w W hi) l rfl 0 W hi))
  rw [fold_one _ 0 (by omega) (by have := hist_bound l hl; omega), Int.zero_add] at hH
  generalize ((histL l).2.length : Int) = r at hH ⊢
  generalize (⟨(histL l).1.toArray⟩ : ByteArray) = y at hH
  generalize bs l = x at hH ⊢
  clear hl
  have hmf : ∀ (fn : Fn) (first cap : Array Value) (w : World), (Instr.makeFunc fn first cap).run Tryd.prog w = .ok (.func fn first cap) w := fun _ _ _ _ => rfl
  go_enter Tryd.func82, Tryd.ntmps82
  go_wp2_with (go_at_call 64; refine (hH.out _ ⟨by simp, by simp, by first | exact ((Below.refl _ _).alloc (Nat.le_refl _) _) | repeat (first | exact Below.refl _ _ | apply below_alloc | apply pw_below_drewN | apply below_drew)⟩).mono ?_; rintro e w' ⟨rfl, hi⟩; have HI := Aside0.mk hi; have hcell := hi.cell; clear hi)
  go_ret
  exact ⟨by first | rfl | simp, by first | exact HI.out.below | (repeat (first | exact HI.out.below | apply pw_below_drewN | apply below_drew))⟩
end Go.Proofs.YtleacijhpkogpabDoor.RImpl
