/- What the seat's rows lay (two tables of unicode/utf8), and what the library's contracts ask of the world; the witness world. -/
import Derived.Test.YtleacijhpkogpabDoorTie
import Derived.Test.YtleacijhpkogpabDoorCards
import Derived.Test.YtleacijhpkogpabDoorShelf
import Derived.Shelf.Strings.SlTrimAscii
import Derived.Shelf.Strings.Search3
import Derived.Shelf.Strings.Replace
import Derived.Shelf.Strings.MapGrows
import Derived.Lib.TrimAscii
import Derived.Lib.MapLaws
import Derived.Lib.LaidIn
import Derived.Lib.LaidU8
import Derived.Deep.DeepHandedRow
import Derived.Deep.DeepWitnessRowRef
import Derived.ProofKit
namespace Go.Proofs.YtleacijhpkogpabDoor
open Go.Shelf Go.RowKit

/-- The library's variables: internal/bytealg.MaxLen holds some number; unicode/utf8's two tables hold what they are laid. -/
def ML (w : World) : Prop := (∃ m : Int, w.cell? ⟨2, 0, none⟩ = some (.int .i64 m)) ∧ Lib.Utf8Tabs 0 1 w
theorem ML.of_below {w W : World} (h : ML w) (hb : Below w.heap.size w W) : ML W := by
  obtain ⟨⟨m, hm⟩, ht⟩ := h
  have go : ∀ a v, w.cell? a = some v → W.cell? a = some v := fun a v hc => (hb.cell (World.block_lt_of_cell? w _ hc)).trans hc
  exact ⟨⟨m, go _ _ hm⟩, fun c hc => go _ _ (ht.1 c hc), fun i hi => ⟨go _ _ (ht.2 i hi).1, go _ _ (ht.2 i hi).2⟩⟩
theorem ML.drewN {w : World} (h : ML w) (n : Nat) : ML (w.drewN n) := h
theorem ML.drew {w : World} (h : ML w) : ML w.drew := h
theorem ML.alloc {w : World} (h : ML w) (o : Obj) : ML (w.alloc o) := h.of_below ((Below.refl _ _).alloc (Nat.le_refl _) o)

/-- A world for the witness: the settled one, the two tables holding what their text lays. -/
noncomputable def laidWorld (os : Os) : World :=
  let w0 := World.holding Tryd.prog os ⟨#[], #[], []⟩
  let put (h : Array Obj) (g : Nat) (cs : Array Value) : Array Obj := h.modify g fun
    | .cells _ t frozen => .cells cs t frozen
    | o => o
  let h1 := put w0.heap 0 (Lib.firstTab.map fun z => Value.int .u8 z).toArray
  let h2 := put h1 1 ((List.range 16).flatMap fun i => [Value.int .u8 (Lib.accLo i), Value.int .u8 (Lib.accHi i)]).toArray
  { w0 with heap := h2 }
set_option maxRecDepth 100000 in
theorem laid_met (os : Os) (args : Array Value) : laidMet Tryd.prog [("unicode/utf8.acceptRanges", Rows.laid_unicode_utf8_acceptRanges), ("unicode/utf8.first", Rows.laid_unicode_utf8_first)] ((laidWorld os).forCall (fun _ _ => 0) ⟨#[], args, []⟩).memory :=
  (LaidIn.of_run (l := [("unicode/utf8.acceptRanges", Rows.laid_unicode_utf8_acceptRanges), ("unicode/utf8.first", Rows.laid_unicode_utf8_first)]) [1, 0] 8 (by kernel_rfl) (by kernel_rfl) (by kernel_rfl) (by kernel_rfl)).met
theorem accept_eq : (Rows.laid_unicode_utf8_acceptRanges : DataW Unit) = Lib.acceptData := by kernel_rfl
theorem first_eq : (Rows.laid_unicode_utf8_first : DataW Unit) = Lib.firstData := by kernel_rfl
/-- What a row's world gives. -/
theorem ml_of {W : World} (hsh : W.ShapedOpen Tryd.prog) (hL : laidMet Tryd.prog [("unicode/utf8.acceptRanges", Rows.laid_unicode_utf8_acceptRanges), ("unicode/utf8.first", Rows.laid_unicode_utf8_first)] W) : ML W := by
  refine ⟨Tryd.laysM144.s1_3 W hsh, ?_⟩
  have h3 := Lib.laidMet.reads hL (.tail _ (.head _))
  have h4 := Lib.laidMet.reads hL (.head _)
  rw [first_eq] at h3
  rw [accept_eq] at h4
  exact utf8Tabs_of_reads Tryd.lays260 ⟨by kernel_rfl, by kernel_rfl, by kernel_rfl, by kernel_rfl, by kernel_rfl, by kernel_rfl, by kernel_rfl⟩ h3 h4
theorem own : ownKnob Tryd.prog.godebug = none := by kernel_rfl
end Go.Proofs.YtleacijhpkogpabDoor
