/- How many pairs turn until a row is at rest: the walks of impl.CountTurns and its closure, of spec.CountTurns and of the law. -/
import Derived.Test.YtleacijhpkogpabDoorRTicks
import Derived.Test.YtleacijhpkogpabDoorRIsRow
import Derived.Test.YtleacijhpkogpabDoorRFacing
import Derived.Test.YtleacijhpkogpabDoorRRest
import Derived.Deep.RegionWith
namespace Go.Proofs.YtleacijhpkogpabDoor.RTurns
open Go.RowKit Go.Proofs.YtleacijhpkogpabDoorW.PrintWords Go.Proofs.YtleacijhpkogpabDoorW.PrintLast Go.Proofs.YtleacijhpkogpabDoorW.PrintMore Go.Shelf Go.Proofs.YtleacijhpkogpabDoor.RPlain Go.Proofs.YtleacijhpkogpabDoor.RImpl
set_option linter.unusedVariables false
set_option linter.unusedSimpArgs false

def addT (l : List UInt8) (s : Int) : Int := wrap64 (s + ((prs 0 l).length : Int))
def trnL (l : List UInt8) (s : Int) : Int := (histL l).2.foldl (fun s l => addT l s) s
theorem trn_step {l : List UInt8} (h : hasB l = true) (s : Int) : trnL l s = trnL (tkB l) (addT l s) := by
  unfold trnL; rw [histL_step h]; rfl
theorem trn_rest {l : List UInt8} (h : hasB l = false) (s : Int) : trnL l s = s := by
  unfold trnL; rw [histL_rest h]; rfl
set_option maxHeartbeats 4000000 in
set_option maxRecDepth 100000 in
theorem turns_1_calls (l : List UInt8) (hl : 1 ≤ l.length ∧ l.length ≤ 1048576) (s : Int) (w W : World) (h : CellIs w (.int .i64 s) W) :
    Calls Tryd.prog 65 #[.string (bs l), .pointer (some ⟨w.heap.size, 0, none⟩)] W fun e w' => e = .returned (.tuple #[]) ∧ CellIs w (.int .i64 (addT l s)) w' := by
  have hc := h.cell
  have hf := h.free
  have HB := Aside0.mk h.below
  have HF := Aside0.mk (fun V => facing_calls l hl V)
  have HA : Aside0 (addT l s = wrap64 (s + ((prs 0 l).length : Int))) := ⟨rfl⟩
  have hw0 : w.heap.size < W.heap.size := World.block_lt_of_cell? W _ hc
  clear h hl
  generalize addT l s = r at *
  generalize prs 0 l = ps at *
  generalize bs l = x at *
  generalize hB : w.heap.size = B at hc hf hw0 ⊢
  have HBB := Aside0.mk hB
  have HW := Aside0.mk hw0
  clear hB hw0
  go_enter Tryd.func65, Tryd.ntmps65
  go_wp2
  go_region_with (go_at_call 66; refine (HF.out _).mono ?_; rintro e w3 ⟨v, rfl, ho, hb⟩; obtain ⟨A, c, rfl, hlc, hC⟩ := Kd.R_reads ho; have hc3 := (hb.cell (p := ⟨B, 0, none⟩) HW.out).trans hc; have hf3 := (hb.frozen (p := ⟨B, 0, none⟩) HW.out).trans hf; have HB3 := Aside0.mk hb; clear ho hC hb)
  all_goals
    go_wp2
    first | go_end0 | go_ret
    obtain rfl := HBB.out
    rw [HA.out, i64_w]
    refine ⟨by first | rfl | simp, ⟨?_, ?_, ?_⟩⟩
    · rw [World.cell?_setCell_same _ _ _ hc3]
    · exact (World.frozen?_setCell _ _ _ _).trans hf3
    · exact (below_then (below_drew HB.out) HB.out.size HB3.out).setCell (Nat.le_refl _) _
theorem good_yes (l : List UInt8) (h : rowB (bs l) = true) (w : World) :
    Calls Tryd.prog 57 #[.string (bs l)] w fun e w' => e = .returned (.bool true) ∧ Drawn0 w w' := by
  have := RGood.good_calls (bs l) w
  rwa [h] at this
theorem good_no (s : ByteArray) (h : rowB s = false) (w : World) :
    Calls Tryd.prog 57 #[.string s] w fun e w' => e = .returned (.bool false) ∧ Drawn0 w w' := by
  have := RGood.good_calls s w
  rwa [h] at this
set_option maxHeartbeats 4000000 in
set_option maxRecDepth 100000 in
theorem impl_no (s : ByteArray) (h : rowB s = false) (w : World) :
    Calls Tryd.prog 11 #[.string s] w fun e w' => e = .returned (.tuple #[.int .i64 0, .bool false]) ∧ Below w.heap.size w w' := by
  have HI := Aside0.mk (fun W => isRow_no s h W)
  clear h
  have HB := Aside0.mk (Below.refl w.heap.size w)
  go_enter Tryd.func11, Tryd.ntmps11
  go_wp2_with (go_at_call 59; refine (HI.out _).mono ?_; rintro e w3 ⟨rfl, hb⟩; have HBn := Aside0.mk (below_step (by repeat (first | (with_reducible first | exact HB.out | apply below_alloc | apply pw_below_drewN | apply below_drew1) | exact HB.out)) hb); clear hb HB; have HB := HBn; clear HBn)
  go_ret2
  exact ⟨rfl, (by repeat (first | (with_reducible first | exact HB.out | apply below_alloc | apply pw_below_drewN | apply below_drew1) | exact HB.out))⟩
set_option maxHeartbeats 4000000 in
set_option maxRecDepth 100000 in
theorem spec_no (s : ByteArray) (h : rowB s = false) (w : World) :
    Calls Tryd.prog 10 #[.string s] w fun e w' => e = .returned (.tuple #[.int .i64 0, .bool false]) ∧ Below w.heap.size w w' := by
  have HG := Aside0.mk (fun W => good_no s h W)
  clear h
  have HB := Aside0.mk (Below.refl w.heap.size w)
  go_enter Tryd.func10, Tryd.ntmps10
  go_wp2_with (go_at_call 57; refine (HG.out _).mono ?_; rintro e w' ⟨rfl, ⟨nd, rfl⟩⟩)
  go_ret2
  exact ⟨rfl, (by repeat (first | (with_reducible first | exact HB.out | apply below_alloc | apply pw_below_drewN | apply below_drew1) | exact HB.out))⟩
set_option maxHeartbeats 4000000 in
set_option maxRecDepth 100000 in
theorem impl_yes (l : List UInt8) (h : rowB (bs l) = true) (w : World) (hML : ML w) :
    Calls Tryd.prog 11 #[.string (bs l)] w fun e w' => e = .returned (.tuple #[.int .i64 (trnL l 0), .bool true]) ∧ Below w.heap.size w w' := by
  have h60 := rowB_len h
  have hz : (bs l).size = l.length := rfl
  have HI := Aside0.mk (fun W => isRow_yes l h W)
  have HH := Aside0.mk (fun w1 (hb1 : Below w.heap.size w w1) W (hi : CellIs w1 (.int .i64 0) W) => (show Calls Tryd.prog 64 #[.string (bs l), .func (.func 65) #[] #[.pointer (some ⟨w1.heap.size, 0, none⟩)]] W (fun e w' => e = .returned (.string ⟨(histL l).1.toArray⟩) ∧ CellIs w1 (.int .i64 (trnL l 0)) w') from
    history_calls 65 #[.pointer (some ⟨w1.heap.size, 0, none⟩)] (enters_ (P := Tryd.prog) Tryd.func65 (by kernel_rfl) rfl) addT (fun s W => CellIs w1 (.int .i64 s) W)
      (fun s W hi => (hML.of_below hb1).of_below hi.below) (fun s W W' hi hb => hi.up hb) l.length (by omega) (fun l' s W hl' hi => turns_1_calls l' (by omega) s w1 W hi) l rfl 0 W hi))
  clear h60 h hML hz
  have HB := Aside0.mk (Below.refl w.heap.size w)
  generalize trnL l 0 = r at *
  generalize (⟨(histL l).1.toArray⟩ : ByteArray) = y at *
  generalize bs l = x at *
  have hmf : ∀ (fn : Fn) (first cap : Array Value) (w : World), (Instr.makeFunc fn first cap).run Tryd.prog w = .ok (.func fn first cap) w := fun _ _ _ _ => rfl
  go_enter Tryd.func11, Tryd.ntmps11
  go_wp2_with (first | (go_at_call 59; refine (HI.out _).mono ?_; rintro e w3 ⟨rfl, hb⟩; have HBn := Aside0.mk (below_step (by repeat (first | (with_reducible first | exact HB.out | apply below_alloc | apply pw_below_drewN | apply below_drew1) | exact HB.out)) hb); clear hb HB; have HB := HBn; clear HBn) | (go_at_call 64; refine (HH.out w3 HB.out _ ⟨by simp, by simp, by first | exact ((Below.refl _ _).alloc (Nat.le_refl _) _) | repeat (first | exact Below.refl _ _ | apply below_alloc | apply pw_below_drewN | apply below_drew)⟩).mono ?_; rintro e w5 ⟨rfl, hi⟩; have HI5 := Aside0.mk hi; have hcell := hi.cell; clear hi))
  go_ret2
  exact ⟨by first | rfl | simp, below_step HB.out HI5.out.below⟩
set_option maxHeartbeats 4000000 in
set_option maxRecDepth 100000 in
theorem spec_yes (l : List UInt8) (h : rowB (bs l) = true) (w : World) :
    Calls Tryd.prog 10 #[.string (bs l)] w fun e w' => e = .returned (.tuple #[.int .i64 (trnL l 0), .bool true]) ∧ Below w.heap.size w w' := by
  have h60 := rowB_len h
  have hz : (bs l).size = l.length := rfl
  have HG := Aside0.mk (fun W => good_yes l h W)
  have HL0 : Aside0 (l.length ≤ 60) := ⟨by omega⟩
  have HB := Aside0.mk (Below.refl w.heap.size w)
  have HB0 := Aside0.mk (rfl : bs l = bs l)
  clear h60 h hz
  go_enter Tryd.func10, Tryd.ntmps10
  go_wp2_with (go_at_call 57; refine (HG.out _).mono ?_; rintro e w' ⟨rfl, ⟨nd, rfl⟩⟩)
  go_loopg [0, 4] (invB l) (fun kq v0 v4 w' => ∃ (l1 : List UInt8) (n : Int), v0 = .string (bs l1) ∧ v4 = .int .i64 n ∧ Aside0 (invB l1 = kq) ∧ Aside0 (l1.length ≤ 60) ∧ Aside0 (trnL l1 n = trnL l 0) ∧ Aside0 (Below w.heap.size w w'))
  case atStart => exact ⟨l, 0, rfl, rfl, ⟨rfl⟩, HL0, ⟨rfl⟩, ⟨(by repeat (first | (with_reducible first | exact HB.out | apply below_alloc | apply pw_below_drewN | apply below_drew1) | exact HB.out))⟩⟩
  case round =>
    clear HB HL0 HG HB0
    obtain ⟨l1, n, rfl, rfl, HK, HL, H1, HB⟩ := hrel
    have HP := Aside0.mk (fun W => RSpec.pairs_calls (bs l1) (by have := HL.out; rw [bs_size]; omega) W)
    have HT := Aside0.mk (fun W => RSpec.tick_calls (bs l1) (by have := HL.out; rw [bs_size]; omega) W)
    cases c : hasB l1 with
    | true =>
      have hps := prs_pos 0 l1 c
      have HI := Aside0.mk ((inv_tk l1).2 c)
      have HS := Aside0.mk (trn_step c n)
      have HAD : Aside0 (addT l1 n = wrap64 (n + ((prs 0 l1).length : Int))) := ⟨rfl⟩
      have HTL := Aside0.mk (tkB_len l1)
      clear c
      change Aside0 (∀ W : World, Calls Tryd.prog 62 #[.string (bs l1)] W fun e w' => ∃ v : Value, e = .returned v ∧ Kd.R (Kd.int .i64) 3 w' W.heap.size (fun _ => True) v (prs 0 l1) ∧ Below W.heap.size W w') at HP
      change Aside0 (∀ W : World, Calls Tryd.prog 63 #[.string (bs l1)] W fun e w' => e = .returned (.string (bs (tkB l1))) ∧ Below W.heap.size W w') at HT
      generalize prs 0 l1 = ps at *
      generalize hb1 : bs l1 = b1 at HP HT ⊢
      have HB1 := Aside0.mk hb1
      clear hb1
      go_wp2_with (first | (go_at_call 62; refine (HP.out _).mono ?_; rintro e w3 ⟨v, rfl, ho, hb⟩; obtain ⟨A, cc, rfl, hlc, hC⟩ := Kd.R_reads ho; have HBn := Aside0.mk (below_step (by repeat (first | (with_reducible first | exact HB.out | apply below_alloc | apply pw_below_drewN | apply below_drew1) | exact HB.out)) hb); clear ho hb hC HB; have HB := HBn; clear HBn) | (go_at_call 63; refine (HT.out _).mono ?_; rintro e w4 ⟨rfl, hb⟩; have HBn := Aside0.mk (below_step (by repeat (first | (with_reducible first | exact HB.out | apply below_alloc | apply pw_below_drewN | apply below_drew1) | exact HB.out)) hb); clear hb HB; have HB := HBn; clear HBn))
      go_roundg (invB (tkB l1))
      case measure => have := HI.out; have := HK.out; omega
      case rel => exact ⟨tkB l1, addT l1 n, rfl, by rw [HAD.out], ⟨rfl⟩, ⟨by rw [HTL.out]; exact HL.out⟩, ⟨by rw [← HS.out]; exact H1.out⟩, ⟨(by repeat (first | (with_reducible first | exact HB.out | apply below_alloc | apply pw_below_drewN | apply below_drew1) | exact HB.out))⟩⟩
    | false =>
      have hps := prs_none 0 l1 c
      have HS := Aside0.mk (trn_rest c n)
      clear c HT
      change Aside0 (∀ W : World, Calls Tryd.prog 62 #[.string (bs l1)] W fun e w' => ∃ v : Value, e = .returned v ∧ Kd.R (Kd.int .i64) 3 w' W.heap.size (fun _ => True) v (prs 0 l1) ∧ Below W.heap.size W w') at HP
      rw [hps] at HP
      clear hps
      generalize hb1 : bs l1 = b1 at HP ⊢
      clear hb1
      go_wp2_with (go_at_call 62; refine (HP.out _).mono ?_; rintro e w3 ⟨v, rfl, ho, hb⟩; obtain ⟨A, cc, rfl, hlc, hC⟩ := Kd.R_reads ho; have HBn := Aside0.mk (below_step (by repeat (first | (with_reducible first | exact HB.out | apply below_alloc | apply pw_below_drewN | apply below_drew1) | exact HB.out)) hb); clear ho hb hC HB; have HB := HBn; clear HBn)
      go_ret2
      exact ⟨by rw [← H1.out, HS.out]; rfl, (by repeat (first | (with_reducible first | exact HB.out | apply below_alloc | apply pw_below_drewN | apply below_drew1) | exact HB.out))⟩
end Go.Proofs.YtleacijhpkogpabDoor.RTurns
