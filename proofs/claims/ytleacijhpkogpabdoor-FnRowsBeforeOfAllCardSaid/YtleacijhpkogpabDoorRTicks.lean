/- How many ticks a row needs, as the program counts them: the walk of impl.ticksToRest and its closure. -/
import Derived.Test.YtleacijhpkogpabDoorRImpl
namespace Go.Proofs.YtleacijhpkogpabDoor.RImpl
open Go.RowKit Go.Proofs.YtleacijhpkogpabDoorW.PrintWords Go.Proofs.YtleacijhpkogpabDoorW.PrintLast Go.Proofs.YtleacijhpkogpabDoorW.PrintMore Go.Shelf Go.Proofs.YtleacijhpkogpabDoor.RPlain
set_option linter.unusedVariables false
set_option linter.unusedSimpArgs false

/-- What a variable that is captured holds, behind a world. -/
structure CellIs (w : World) (v : Value) (W : World) : Prop where
  cell : W.cell? ⟨w.heap.size, 0, none⟩ = some v
  free : W.frozen? ⟨w.heap.size, 0, none⟩ = false
  below : Below w.heap.size w W
theorem CellIs.up {w : World} {v : Value} {W W' : World} (h : CellIs w v W) (hb : Below W.heap.size W W') : CellIs w v W' := by
  have hlt := World.block_lt_of_cell? W _ h.cell
  exact ⟨(hb.cell hlt).trans h.cell, (World.frozen?_of_block (hb.block _ hlt)).trans h.free, below_then h.below h.below.size hb⟩
set_option maxHeartbeats 1600000 in
theorem ticksToRest_1_calls (x : ByteArray) (s : Int) (w W : World) (h : CellIs w (.int .i64 s) W) :
    Calls Tryd.prog 89 #[.string x, .pointer (some ⟨w.heap.size, 0, none⟩)] W fun e w' => e = .returned (.tuple #[]) ∧ CellIs w (.int .i64 (wrap64 (s + 1))) w' := by
  have hc := h.cell
  have hf := h.free
  have HB := Aside0.mk h.below
  clear h
  generalize hB : w.heap.size = B at hc hf ⊢
  go_enter Tryd.func89, Tryd.ntmps89
  go_wp2
  first | go_end0 | go_ret
  subst hB
  refine ⟨by first | rfl | simp, ?_, ?_, ?_⟩
  · rw [World.cell?_setCell_same _ _ _ hc]
  · exact (World.frozen?_setCell _ _ _ _).trans hf
  · exact HB.out.setCell (Nat.le_refl _) _
set_option maxHeartbeats 1600000 in
set_option maxRecDepth 100000 in
theorem ticks_calls (l : List UInt8) (hl : l.length ≤ 1000) (w : World) (hML : ML w) :
    Calls Tryd.prog 82 #[.string (bs l)] w fun e w' => e = .returned (.int .i64 ((histL l).2.length : Int)) ∧ Below w.heap.size w w' := by
  have hH := Aside0.mk (fun W (hi : CellIs w (.int .i64 0) W) => (show Calls Tryd.prog 64 #[.string (bs l), .func (.func 89) #[] #[.pointer (some ⟨w.heap.size, 0, none⟩)]] W (fun e w' => e = .returned (.string ⟨(histL l).1.toArray⟩) ∧ CellIs w (.int .i64 ((histL l).2.foldl (fun s _ => wrap64 (s + 1)) 0)) w') from
    history_calls 89 #[.pointer (some ⟨w.heap.size, 0, none⟩)] (enters_ (P := Tryd.prog) Tryd.func89 (by kernel_rfl) rfl) (fun _ s => wrap64 (s + 1)) (fun s W => CellIs w (.int .i64 s) W)
      (fun s W hi => hML.of_below hi.below) (fun s W W' hi hb => hi.up hb) l.length (by omega) (fun l s W _ hi => ticksToRest_1_calls ⟨l.toArray⟩ s w W hi) l rfl 0 W hi))
  rw [fold_one _ 0 (by omega) (by have := hist_bound l hl; omega), Int.zero_add] at hH
  generalize ((histL l).2.length : Int) = r at hH ⊢
  generalize (⟨(histL l).1.toArray⟩ : ByteArray) = y at hH
  generalize bs l = x at hH ⊢
  clear hl
  have hmf : ∀ (fn : Fn) (first cap : Array Value) (w : World), (Instr.makeFunc fn first cap).run Tryd.prog w = .ok (.func fn first cap) w := fun _ _ _ _ => rfl
  go_enter Tryd.func82, Tryd.ntmps82
  go_wp2_with (go_at_call 64; refine (hH.out _ ⟨by simp, by simp, by first | exact ((Below.refl _ _).alloc (Nat.le_refl _) _) | repeat (first | exact Below.refl _ _ | apply below_alloc | apply pw_below_drewN | apply below_drew)⟩).mono ?_; rintro e w' ⟨rfl, hi⟩; have HI := Aside0.mk hi; have hcell := hi.cell; clear hi)
  go_ret
  exact ⟨by first | rfl | simp, by first | exact HI.out.below | (repeat (first | exact HI.out.below | apply pw_below_drewN | apply below_drew))⟩
end Go.Proofs.YtleacijhpkogpabDoor.RImpl
