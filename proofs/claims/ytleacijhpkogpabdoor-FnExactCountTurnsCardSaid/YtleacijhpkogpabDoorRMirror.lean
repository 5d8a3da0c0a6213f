/- The row as it is seen from behind: the walks of impl.MirrorRow and of the law; the reference by its printed walk. -/
import Derived.Test.YtleacijhpkogpabDoorRTurned
import Derived.Test.YtleacijhpkogpabDoorRIsRow
import Derived.Test.YtleacijhpkogpabDoorRGood
import Derived.Test.YtleacijhpkogpabDoorRev
import Derived.Test.YtleacijhpkogpabDoorPFnRowsRestOfAllx4
import Derived.Sort.WalkB12
import Derived.Lib.OwnBridge
namespace Go.Proofs.YtleacijhpkogpabDoor.RMirror
open Go.RowKit Go.Proofs.YtleacijhpkogpabDoorW.PrintWords Go.Proofs.YtleacijhpkogpabDoorW.PrintLast Go.Proofs.YtleacijhpkogpabDoorW.PrintMore Go.Shelf Go.Sort Go.Proofs.YtleacijhpkogpabDoor.PFnRowsRestOfAll Go.Proofs.YtleacijhpkogpabDoor.RPlain
set_option linter.unusedVariables false
set_option linter.unusedSimpArgs false

/-- The mirrored row. -/
def mirL (l : List UInt8) : List UInt8 := (l.map otherB).reverse
theorem mirror_loop (s : ByteArray) (hs : s.size ≤ 1048576) : ∀ (m : Nat) (acc : List UInt8), m ≤ s.size → acc.length + m = s.size →
    Ev (fun k => spec_MirrorRow.l0 k s (bs acc) ((m : Int) - 1)) (bs (acc ++ ((s.data.toList.take m).map otherB).reverse), true) := by
  have hz := sz s
  intro m
  induction m with
  | zero =>
    intro acc hm ha
    refine Ev.step (f := fun _ => some (bs acc, true)) (fun k => ?_) ?_
    · simp only [spec_MirrorRow.l0]
      rw [if_neg (by omega)]
    · simp only [List.take_zero, List.map_nil, List.reverse_nil, List.append_nil]
      exact Ev.now _
  | succ m ih =>
    intro acc hm ha
    have hlt : m < s.data.toList.length := by omega
    have hr := ih (acc ++ [otherB s.data.toList[m]]) (by omega) (by simp; omega)
    rw [List.append_assoc] at hr
    have e : ((s.data.toList.take (m + 1)).map otherB).reverse = [otherB s.data.toList[m]] ++ ((s.data.toList.take m).map otherB).reverse := by
      rw [List.take_succ_eq_append_getElem hlt, List.map_append, List.reverse_append]; rfl
    rw [e]
    have hsz : (bs acc).size + 1 ≤ 9223372036854775807 := by
      have : (bs acc).size = acc.length := rfl
      omega
    have ew : wrap64 ((m : Int) - 1) = (m : Int) - 1 := by unfold wrap64; omega
    refine Ev.step (f := fun k => spec_MirrorRow.l0 k s (bs (acc ++ [otherB s.data.toList[m]])) ((m : Int) - 1)) (fun k => ?_) hr
    simp only [spec_MirrorRow.l0, spec_rwOther.f]
    rw [show (((m + 1 : Nat) : Int) - 1) = (m : Int) by omega, if_pos (by omega), if_pos (by omega), if_pos (by omega), ew]
    by_cases c : s.data.toList[m] = 60
    · rw [if_pos ((RGood.bt_60 s m hlt).2 c), Option.bind_some, if_pos (show (bs acc).size + (⟨#[62]⟩ : ByteArray).size ≤ 9223372036854775807 from hsz), bs_snoc, otherB, if_pos c]
    · rw [if_neg (fun e => c ((RGood.bt_60 s m hlt).1 e)), Option.bind_some, if_pos (show (bs acc).size + (⟨#[60]⟩ : ByteArray).size ≤ 9223372036854775807 from hsz), bs_snoc, otherB, if_neg c]
theorem spec_yes (l : List UInt8) (h : rowB (bs l) = true) (w : World) :
    Calls Tryd.prog 8 #[.string (bs l)] w fun e w' => e = .returned (.tuple #[.string (bs (mirL l)), .bool true]) ∧ Drawn0 w w' := by
  have h60 := rowB_len h
  have hz : (bs l).size = l.length := rfl
  have h1 := mirror_loop (bs l) (by omega) (bs l).size [] (Nat.le_refl _) (by simp)
  rw [show (bs l).data.toList = l from rfl, List.take_of_length_le (by omega), List.nil_append] at h1
  have h2 : Ev (fun k => spec_MirrorRow.f k (bs l)) (bs (mirL l), true) := by
    refine Ev.bind (RGood.good_ev (bs l)) ?_
    simp only [h, if_true]
    rw [show wrap64 (((bs l).size : Int) - 1) = ((bs l).size : Int) - 1 by unfold wrap64; omega]
    exact h1
  obtain ⟨k, hk⟩ := h2.rounds
  exact spec_MirrorRow.calls k _ _ _ w hk
theorem spec_no (s : ByteArray) (h : rowB s = false) (w : World) :
    Calls Tryd.prog 8 #[.string s] w fun e w' => e = .returned (.tuple #[.string ⟨#[]⟩, .bool false]) ∧ Drawn0 w w' := by
  have h2 : Ev (fun k => spec_MirrorRow.f k s) ((⟨#[]⟩ : ByteArray), false) := by
    refine Ev.bind (RGood.good_ev s) ?_
    simp only [h]
    exact Ev.now _
  obtain ⟨k, hk⟩ := h2.rounds
  exact spec_MirrorRow.calls k _ _ _ w hk
/-! ### the program -/
def encB (b : UInt8) : Value := .int .u8 (b.toNat : Int)
theorem holds_bytes (W : World) (e : TypeId) (l : List UInt8) : Sort.Holds encB (Lib.bytesWorld W e (bs l)) W.heap.size 0 l.toArray := by
  intro j hj
  have hj' : j < (bs l).size := hj
  rw [Nat.zero_add]
  refine ⟨?_, ?_⟩
  · rw [Lib.bytesWorld_cell W e (bs l) j hj']
    have hl : j < l.length := hj
    simp [encB, bs, List.getD_eq_getElem?_getD, List.getElem?_eq_getElem hl, hl]
  · have hc : j < (Lib.bytesCells W e (bs l)).size := by
      have : (bs l).data.size = (bs l).size := rfl
      simp [Lib.bytesCells]; omega
    simp [World.frozen?, Lib.bytesWorld_at_new]
    omega
theorem str_map (m : List UInt8) : strOfNums (m.map fun b => (b.toNat : Int)) = bs m := by
  unfold strOfNums bs
  rw [List.map_map]
  congr 2
  exact (List.map_congr_left (fun b _ => by simp)).trans (List.map_id m)
set_option maxHeartbeats 4000000 in
set_option maxRecDepth 100000 in
theorem impl_no (s : ByteArray) (h : rowB s = false) (w : World) :
    Calls Tryd.prog 9 #[.string s] w fun e w' => e = .returned (.tuple #[.string ⟨#[]⟩, .bool false]) ∧ Below w.heap.size w w' := by
  have HI := Aside0.mk (fun W => RImpl.isRow_no s h W)
  clear h
  have HB := Aside0.mk (Below.refl w.heap.size w)
  go_enter Tryd.func9, Tryd.ntmps9
  go_wp2_with (go_at_call 59; refine (HI.out _).mono ?_; rintro e w3 ⟨rfl, hb⟩; have HBn := Aside0.mk (below_step (by repeat (first | (with_reducible first | exact HB.out | apply below_alloc | apply pw_below_drewN | apply below_drew1) | exact HB.out)) hb); clear hb HB; have HB := HBn; clear HBn)
  go_ret2
  exact ⟨rfl, (by repeat (first | (with_reducible first | exact HB.out | apply below_alloc | apply pw_below_drewN | apply below_drew1) | exact HB.out))⟩
set_option maxHeartbeats 4000000 in
set_option maxRecDepth 100000 in
theorem impl_yes (l : List UInt8) (h : rowB (bs l) = true) (w : World) (hML : ML w) :
    Calls Tryd.prog 9 #[.string (bs l)] w fun e w' => e = .returned (.tuple #[.string (bs (mirL l)), .bool true]) ∧ Below w.heap.size w w' := by
  have h60 := rowB_len h
  have hz : (bs l).size = l.length := rfl
  have HI := Aside0.mk (fun W => RImpl.isRow_yes l h W)
  have HT := Aside0.mk (fun W (hb : Below w.heap.size w W) => RImpl.turned_calls l (by omega) (rowB_all h) W (hML.of_below hb))
  have hlt : (bs (l.map otherB)).size ≤ 60 := by rw [bs_size, List.length_map]; omega
  clear h60 h hML hz
  have HB := Aside0.mk (Below.refl w.heap.size w)
  have HM : Aside0 (mirL l = (l.map otherB).reverse) := ⟨rfl⟩
  generalize mirL l = m at *
  generalize l.map otherB = t at *
  generalize hs : bs l = s at *
  clear hs
  have kb := fun W => print_bytes (P := Tryd.prog) 9 50 5 Tryd.underlying9 Tryd.underlying50 Tryd.underlying5 (bs t) W
  go_enter Tryd.func9, Tryd.ntmps9
  go_wp2_with (first | (go_at_call 59; refine (HI.out _).mono ?_; rintro e w3 ⟨rfl, hb⟩; have HBn := Aside0.mk (below_step (by repeat (first | (with_reducible first | exact HB.out | apply below_alloc | apply pw_below_drewN | apply below_drew1) | exact HB.out)) hb); clear hb HB; have HB := HBn; clear HBn) | (go_at_call 60; refine (HT.out _ (by repeat (first | (with_reducible first | exact HB.out | apply below_alloc | apply pw_below_drewN | apply below_drew1) | exact HB.out))).mono ?_; rintro e w4 ⟨rfl, hb⟩; have HBn := Aside0.mk (below_step (by repeat (first | (with_reducible first | exact HB.out | apply below_alloc | apply pw_below_drewN | apply below_drew1) | exact HB.out)) hb); clear hb HB; have HB := HBn; clear HBn))
  have hh := holds_bytes w4 5 t
  have hsz2 : w4.heap.size < (Lib.bytesWorld w4 5 (bs t)).heap.size := by rw [Lib.bytesWorld_size]; omega
  have HB5 := Aside0.mk (bytes_below HB.out HB.out.size 5 (bs t))
  have hg := HB.out.size
  refine (AnyE.slices_Reverse Tryd.laysRev encB (fun _ => rfl) w4.heap.size 0 _ t (Lib.bytesWorld w4 5 (bs t)) hh (by rw [bs_size] at hlt; omega)).mono ?_
  rintro e w6 ⟨rfl, q, rfl⟩
  have HB6 := Aside0.mk (Lib.below_putRow (enc := encB) (q := q) (d := t.reverse.toArray) HB5.out hg)
  rw [← HM.out] at HB6 ⊢
  have hml : m.length = t.length := by rw [HM.out, List.length_reverse]
  have hh2 := holds_putRow encB (Sort.ahead (Lib.bytesWorld w4 5 (bs t)) q) w4.heap.size 0 t.toArray m.toArray (holds_ahead encB _ q _ 0 _ hh) (by simpa using hml)
  generalize putRow encB (Sort.ahead (Lib.bytesWorld w4 5 (bs t)) q) w4.heap.size 0 m.toArray = w7 at *
  have hcv := run_convert_bytes_arg (P := Tryd.prog) (w := w7) 50 5 Tryd.underlying50 Tryd.underlying5 w4.heap.size 0 (bs t).size (grownCap w4 (bs t).size 0 5) (m.map fun b => (b.toNat : Int)) (by rw [List.length_map, hml]; rfl) (fun i hi => by
    have hi2 : i < m.length := by rw [bs_size] at hi; omega
    have := (hh2 i (by simpa using hi2)).1
    rw [this]
    simp [encB, List.getD_eq_getElem?_getD, List.getElem?_eq_getElem hi2, hi2]) 9 Tryd.underlying9
  rw [str_map] at hcv
  clear hh hh2 hsz2 hg hml HB HB5 kb
  have HB := HB6
  clear HB6
  go_wp2
  go_ret2
  exact ⟨rfl, (by repeat (first | (with_reducible first | exact HB.out | apply below_alloc | apply pw_below_drewN | apply below_drew1) | exact HB.out))⟩
end Go.Proofs.YtleacijhpkogpabDoor.RMirror
