/- Plain laws of rows, continued: the other side. -/
import Derived.Test.YtfkbacdaoeecdacDoorRPlain
import Derived.Shelf.Strings.MapGrows
import Derived.Lib.TrimAscii
import Derived.Lib.MapLaws
namespace Go.Proofs.YtfkbacdaoeecdacDoor.RPlain
open Go.RowKit
set_option linter.unusedVariables false
set_option linter.unusedSimpArgs false

/-- The other side, sign by sign. -/
def otherB (b : UInt8) : UInt8 := if b = 60 then 62 else 60
theorem mapD_other : ∀ l : List UInt8, l.all (fun b => b == 60 || b == 62) = true → Lib.mapD (fun x => 122 - x) l = l.map otherB
  | [], _ => rfl
  | a :: t, h => by
    rw [List.all_cons, Bool.and_eq_true] at h
    have ha : a = 60 ∨ a = 62 := by simpa using h.1
    have hd : Lib.decodeL (a :: t) = (a.toNat, 1) := Lib.decodeL_ascii a t (by rcases ha with rfl | rfl <;> decide)
    rw [Lib.mapD_step _ _ (by simp), hd]
    simp only [List.drop_succ_cons, List.drop_zero]
    rw [mapD_other t h.2, List.map_cons]
    rcases ha with rfl | rfl <;> rfl
theorem other_all : ∀ l : List UInt8, l.all (fun b => b == 60 || b == 62) = true → (l.map otherB).all (fun b => b == 60 || b == 62) = true
  | [], _ => rfl
  | a :: t, h => by
    rw [List.all_cons, Bool.and_eq_true] at h
    rw [List.map_cons, List.all_cons, other_all t h.2, Bool.and_true]
    unfold otherB
    split <;> decide
theorem bs_snoc (l : List UInt8) (c : UInt8) : bs l ++ (⟨#[c]⟩ : ByteArray) = bs (l ++ [c]) := by
  apply ByteArray.ext
  rw [ByteArray.data_append]
  simp [bs]
end Go.Proofs.YtfkbacdaoeecdacDoor.RPlain
