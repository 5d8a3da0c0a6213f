/- The number of a row: the walks of impl.NumberOfRow, spec.NumberOfRow. -/
import Derived.Test.YtfkbacdaoeecdacDoorRTops
namespace Go.Proofs.YtfkbacdaoeecdacDoor.RNum
open Go.RowKit Go.Proofs.YtfkbacdaoeecdacDoorW.PrintWords Go.Proofs.YtfkbacdaoeecdacDoorW.PrintLast Go.Proofs.YtfkbacdaoeecdacDoorW.PrintMore Go.Shelf Go.Proofs.YtfkbacdaoeecdacDoor.RPlain
set_option linter.unusedVariables false
set_option linter.unusedSimpArgs false

theorem num_take (l : List UInt8) (i : Nat) (h : i < l.length) : numL (l.take (i + 1)) = 2 * numL (l.take i) + bitB l[i] := by
  rw [List.take_succ_eq_append_getElem h, num_snoc]
theorem num_lt60 (l : List UInt8) (h : l.length ≤ 59) : numL l < 576460752303423488 :=
  Nat.lt_of_lt_of_le (num_lt l.length l rfl) (Nat.le_trans (Nat.pow_le_pow_right (by decide) h) (by decide))
set_option maxHeartbeats 4000000 in
set_option maxRecDepth 100000 in
theorem impl_no (s : ByteArray) (h : rowB s = false) (w : World) :
    Calls Tryd.prog 12 #[.string s] w fun e w' => e = .returned (.tuple #[.int .i64 0, .bool false]) ∧ Below w.heap.size w w' := by
  have HI := Aside0.mk (fun W => RImpl.isRow_no s h W)
  clear h
  have HB := Aside0.mk (Below.refl w.heap.size w)
  go_enter Tryd.func12, Tryd.ntmps12
  go_wp2_with (go_at_call 25; refine (HI.out _).mono ?_; rintro e w3 ⟨rfl, hb⟩; have HBn := Aside0.mk (below_step (by repeat (first | (with_reducible first | exact HB.out | apply below_alloc | apply pw_below_drewN | apply below_drew1) | exact HB.out)) hb); clear hb HB; have HB := HBn; clear HBn)
  go_ret2
  exact ⟨rfl, (by repeat (first | (with_reducible first | exact HB.out | apply below_alloc | apply pw_below_drewN | apply below_drew1) | exact HB.out))⟩
set_option maxHeartbeats 4000000 in
set_option maxRecDepth 100000 in
theorem spec_no (s : ByteArray) (h : rowB s = false) (w : World) :
    Calls Tryd.prog 11 #[.string s] w fun e w' => e = .returned (.tuple #[.int .i64 0, .bool false]) ∧ Below w.heap.size w w' := by
  have HG := Aside0.mk (fun W => RTops.good_no s h W)
  clear h
  have HB := Aside0.mk (Below.refl w.heap.size w)
  go_enter Tryd.func11, Tryd.ntmps11
  go_wp2_with (go_at_call 24; refine (HG.out _).mono ?_; rintro e w' ⟨rfl, ⟨nd, rfl⟩⟩)
  go_ret2
  exact ⟨rfl, (by repeat (first | (with_reducible first | exact HB.out | apply below_alloc | apply pw_below_drewN | apply below_drew1) | exact HB.out))⟩
set_option maxHeartbeats 4000000 in
set_option maxRecDepth 100000 in
theorem impl_yes (l : List UInt8) (h : rowB (bs l) = true) (w : World) :
    Calls Tryd.prog 12 #[.string (bs l)] w fun e w' => e = .returned (.tuple #[.int .i64 (numL l : Int), .bool true]) ∧ Below w.heap.size w w' := by
  have h60 := rowB_len h
  have hz : (bs l).size = l.length := rfl
  have HI := Aside0.mk (fun W => RImpl.isRow_yes l h W)
  have HS := Aside0.mk hz
  rw [hz] at h60
  obtain ⟨h1, h2⟩ := h60
  clear h hz
  have HB := Aside0.mk (Below.refl w.heap.size w)
  go_enter Tryd.func12, Tryd.ntmps12
  go_wp2_with (go_at_call 25; refine (HI.out _).mono ?_; rintro e w3 ⟨rfl, hb⟩; have HBn := Aside0.mk (below_step (by repeat (first | (with_reducible first | exact HB.out | apply below_alloc | apply pw_below_drewN | apply below_drew1) | exact HB.out)) hb); clear hb HB; have HB := HBn; clear HBn)
  go_loopg [4, 11] l.length (fun kq v4 v11 w' => ∃ (i : Nat), v4 = .int .i64 (numL (l.take i) : Int) ∧ v11 = .int .i64 (i : Int) ∧ Aside0 (kq + i = l.length) ∧ Aside0 (Below w.heap.size w w'))
  case atStart => exact ⟨0, rfl, rfl, ⟨by omega⟩, ⟨(by repeat (first | (with_reducible first | exact HB.out | apply below_alloc | apply pw_below_drewN | apply below_drew1) | exact HB.out))⟩⟩
  case round =>
    clear HB HI
    obtain ⟨i, rfl, rfl, HK, HB⟩ := hrel
    have hk := HK.out
    by_cases hi : i < l.length
    · have HN := Aside0.mk (num_take l i hi)
      have hlt := num_lt60 (l.take i) (by rw [List.length_take]; omega)
      generalize numL (l.take i) = n at *
      have hi2 : i < (bs l).size := by rw [HS.out]; exact hi
      by_cases c : l[i] = 62
      · have hcb : ((bs l)[i]'hi2).toNat = 62 := by rw [show (bs l)[i]'hi2 = l[i] from rfl, c]; rfl
        have HN2 : Aside0 (numL (l.take (i + 1)) = 2 * n + 1) := ⟨by rw [HN.out, show bitB l[i] = 1 by unfold bitB; exact if_pos c]⟩
        clear HN c
        go_wp2
        go_roundg (l.length - (i + 1))
        case measure => omega
        case rel => exact ⟨i + 1, by rw [HN2.out]; first | rfl | (congr 1; omega) | (simp; omega), by first | rfl | simp, ⟨by omega⟩, ⟨(by repeat (first | (with_reducible first | exact HB.out | apply below_alloc | apply pw_below_drewN | apply below_drew1) | exact HB.out))⟩⟩
      · have hcb : ¬ ((bs l)[i]'hi2).toNat = 62 := fun e => c (by rw [show (bs l)[i]'hi2 = l[i] from rfl] at e; exact UInt8.toNat_inj.1 e)
        have HN2 : Aside0 (numL (l.take (i + 1)) = 2 * n) := ⟨by rw [HN.out, show bitB l[i] = 0 by unfold bitB; exact if_neg c, Nat.add_zero]⟩
        clear HN c
        go_wp2
        go_roundg (l.length - (i + 1))
        case measure => omega
        case rel => exact ⟨i + 1, by rw [HN2.out]; first | rfl | (congr 1; omega) | (simp; omega), by first | rfl | simp, ⟨by omega⟩, ⟨(by repeat (first | (with_reducible first | exact HB.out | apply below_alloc | apply pw_below_drewN | apply below_drew1) | exact HB.out))⟩⟩
    · have HIL : Aside0 (i = l.length) := ⟨by omega⟩
      have hnb : ¬ i < (bs l).size := by rw [HS.out]; exact hi
      go_wp2
      go_ret2
      refine ⟨?_, (by repeat (first | (with_reducible first | exact HB.out | apply below_alloc | apply pw_below_drewN | apply below_drew1) | exact HB.out))⟩
      rw [HIL.out, List.take_length]; rfl
set_option maxHeartbeats 4000000 in
set_option maxRecDepth 100000 in
theorem spec_yes (l : List UInt8) (h : rowB (bs l) = true) (w : World) :
    Calls Tryd.prog 11 #[.string (bs l)] w fun e w' => e = .returned (.tuple #[.int .i64 (numL l : Int), .bool true]) ∧ Below w.heap.size w w' := by
  have h60 := rowB_len h
  have hz : (bs l).size = l.length := rfl
  have HG := Aside0.mk (fun W => RTops.good_yes l h W)
  have HS := Aside0.mk hz
  rw [hz] at h60
  obtain ⟨h1, h2⟩ := h60
  clear h hz
  have HB := Aside0.mk (Below.refl w.heap.size w)
  go_enter Tryd.func11, Tryd.ntmps11
  go_wp2_with (go_at_call 24; refine (HG.out _).mono ?_; rintro e w' ⟨rfl, ⟨nd, rfl⟩⟩)
  go_loopg [4, 5] l.length (fun kq v4 v5 w' => ∃ (i : Nat), v4 = .int .i64 (numL (l.take i) : Int) ∧ v5 = .int .i64 (i : Int) ∧ Aside0 (kq + i = l.length) ∧ Aside0 (Below w.heap.size w w'))
  case atStart => exact ⟨0, rfl, rfl, ⟨by omega⟩, ⟨(by repeat (first | (with_reducible first | exact HB.out | apply below_alloc | apply pw_below_drewN | apply below_drew1) | exact HB.out))⟩⟩
  case round =>
    clear HB HG
    obtain ⟨i, rfl, rfl, HK, HB⟩ := hrel
    have hk := HK.out
    by_cases hi : i < l.length
    · have HN := Aside0.mk (num_take l i hi)
      have hlt := num_lt60 (l.take i) (by rw [List.length_take]; omega)
      generalize numL (l.take i) = n at *
      have hi2 : i < (bs l).size := by rw [HS.out]; exact hi
      by_cases c : l[i] = 62
      · have hcb : ((bs l)[i]'hi2).toNat = 62 := by rw [show (bs l)[i]'hi2 = l[i] from rfl, c]; rfl
        have HN2 : Aside0 (numL (l.take (i + 1)) = 2 * n + 1) := ⟨by rw [HN.out, show bitB l[i] = 1 by unfold bitB; exact if_pos c]⟩
        clear HN c
        go_wp2
        go_roundg (l.length - (i + 1))
        case measure => omega
        case rel => exact ⟨i + 1, by rw [HN2.out]; first | rfl | (congr 1; omega) | (simp; omega), by first | rfl | simp, ⟨by omega⟩, ⟨(by repeat (first | (with_reducible first | exact HB.out | apply below_alloc | apply pw_below_drewN | apply below_drew1) | exact HB.out))⟩⟩
      · have hcb : ¬ ((bs l)[i]'hi2).toNat = 62 := fun e => c (by rw [show (bs l)[i]'hi2 = l[i] from rfl] at e; exact UInt8.toNat_inj.1 e)
        have HN2 : Aside0 (numL (l.take (i + 1)) = 2 * n) := ⟨by rw [HN.out, show bitB l[i] = 0 by unfold bitB; exact if_neg c, Nat.add_zero]⟩
        clear HN c
        go_wp2
        go_roundg (l.length - (i + 1))
        case measure => omega
        case rel => exact ⟨i + 1, by rw [HN2.out]; first | rfl | (congr 1; omega) | (simp; omega), by first | rfl | simp, ⟨by omega⟩, ⟨(by repeat (first | (with_reducible first | exact HB.out | apply below_alloc | apply pw_below_drewN | apply below_drew1) | exact HB.out))⟩⟩
    · have HIL : Aside0 (i = l.length) := ⟨by omega⟩
      have hnb : ¬ i < (bs l).size := by rw [HS.out]; exact hi
      go_wp2
      go_ret2
      refine ⟨?_, (by repeat (first | (with_reducible first | exact HB.out | apply below_alloc | apply pw_below_drewN | apply below_drew1) | exact HB.out))⟩
      rw [HIL.out, List.take_length]; rfl
end Go.Proofs.YtfkbacdaoeecdacDoor.RNum
