/- The row as it is seen from behind: the walks of impl.MirrorRow and of the law; the reference by its printed walk. -/
import Derived.Test.YtleacijhpkogpabDoorRImpl
import Derived.Test.YtleacijhpkogpabDoorRIsRow
import Derived.Test.YtleacijhpkogpabDoorRev
import Derived.Test.YtleacijhpkogpabDoorPFnRowsRestOfAllx4
import Derived.Sort.WalkB12
import Derived.Lib.OwnBridge
import Derived.Test.YtleacijhpkogpabDoorRRest
import Derived.Deep.RegionWith
namespace Go.Proofs.YtleacijhpkogpabDoor.RMirror
open Go.RowKit Go.Proofs.YtleacijhpkogpabDoorW.PrintWords Go.Proofs.YtleacijhpkogpabDoorW.PrintLast Go.Proofs.YtleacijhpkogpabDoorW.PrintMore Go.Shelf Go.Sort Go.Proofs.YtleacijhpkogpabDoor.PFnRowsRestOfAll Go.Proofs.YtleacijhpkogpabDoor.RPlain
set_option linter.unusedVariables false
set_option linter.unusedSimpArgs false

/-- The mirrored row. -/
def mirL (l : List UInt8) : List UInt8 := (l.map otherB).reverse
theorem mirror_loop (s : ByteArray) (hs : s.size ≤ 1048576) : ∀ (m : Nat) (acc : List UInt8), m ≤ s.size → acc.length + m = s.size →
    Ev (fun k => spec_MirrorRow.l0 k s (bs acc) ((m : Int) - 1)) (bs (acc ++ ((s.data.toList.take m).map otherB).reverse), true) := by
  have hz := sz s
  intro m
  induction m with
  | zero =>
    intro acc hm ha
    refine Ev.step (f := fun _ => some (bs acc, true)) (fun k => ?_) ?_
    · simp only [spec_MirrorRow.l0]
      rw [if_neg (by omega)]
    · simp only [List.take_zero, List.map_nil, List.reverse_nil, List.append_nil]
      exact Ev.now _
  | succ m ih =>
    intro acc hm ha
    have hlt : m < s.data.toList.length := by omega
    have hr := ih (acc ++ [otherB s.data.toList[m]]) (by omega) (by simp; omega)
    rw [List.append_assoc] at hr
    have e : ((s.data.toList.take (m + 1)).map otherB).reverse = [otherB s.data.toList[m]] ++ ((s.data.toList.take m).map otherB).reverse := by
      rw [List.take_succ_eq_append_getElem hlt, List.map_append, List.reverse_append]; rfl
    rw [e]
    have hsz : (bs acc).size + 1 ≤ 9223372036854775807 := by
      have : (bs acc).size = acc.length := rfl
      omega
    have ew : wrap64 ((m : Int) - 1) = (m : Int) - 1 := by unfold wrap64; omega
    refine Ev.step (f := fun k => spec_MirrorRow.l0 k s (bs (acc ++ [otherB s.data.toList[m]])) ((m : Int) - 1)) (fun k => ?_) hr
    simp only [spec_MirrorRow.l0, spec_rwOther.f]
    rw [show (((m + 1 : Nat) : Int) - 1) = (m : Int) by omega, if_pos (by omega), if_pos (by omega), if_pos (by omega), ew]
    by_cases c : s.data.toList[m] = 60
    · rw [if_pos ((RGood.bt_60 s m hlt).2 c), Option.bind_some, if_pos (show (bs acc).size + (⟨#[62]⟩ : ByteArray).size ≤ 9223372036854775807 from hsz), bs_snoc, otherB, if_pos c]
    · rw [if_neg (fun e => c ((RGood.bt_60 s m hlt).1 e)), Option.bind_some, if_pos (show (bs acc).size + (⟨#[60]⟩ : ByteArray).size ≤ 9223372036854775807 from hsz), bs_snoc, otherB, if_neg c]
theorem spec_yes (l : List UInt8) (h : rowB (bs l) = true) (w : World) :
    Calls Tryd.prog 8 #[.string (bs l)] w fun e w' => e = .returned (.tuple #[.string (bs (mirL l)), .bool true]) ∧ Drawn0 w w' := by
  have h60 := rowB_len h
  have hz : (bs l).size = l.length := rfl
  have h1 := mirror_loop (bs l) (by omega) (bs l).size [] (Nat.le_refl _) (by simp)
  rw [show (bs l).data.toList = l from rfl, List.take_of_length_le (by omega), List.nil_append] at h1
  have h2 : Ev (fun k => spec_MirrorRow.f k (bs l)) (bs (mirL l), true) := by
    refine Ev.bind (RGood.good_ev (bs l)) ?_
    simp only [h, if_true]
    rw [show wrap64 (((bs l).size : Int) - 1) = ((bs l).size : Int) - 1 by unfold wrap64; omega]
    exact h1
  obtain ⟨k, hk⟩ := h2.rounds
  exact spec_MirrorRow.calls k _ _ _ w hk
theorem spec_no (s : ByteArray) (h : rowB s = false) (w : World) :
    Calls Tryd.prog 8 #[.string s] w fun e w' => e = .returned (.tuple #[.string ⟨#[]⟩, .bool false]) ∧ Drawn0 w w' := by
  have h2 : Ev (fun k => spec_MirrorRow.f k s) ((⟨#[]⟩ : ByteArray), false) := by
    refine Ev.bind (RGood.good_ev s) ?_
    simp only [h]
    exact Ev.now _
  obtain ⟨k, hk⟩ := h2.rounds
  exact spec_MirrorRow.calls k _ _ _ w hk
/-! ### the program -/
def encB (b : UInt8) : Value := .int .u8 (b.toNat : Int)
theorem holds_bytes (W : World) (e : TypeId) (l : List UInt8) : Sort.Holds encB (Lib.bytesWorld W e (bs l)) W.heap.size 0 l.toArray := by
  intro j hj
  have hj' : j < (bs l).size := hj
  rw [Nat.zero_add]
  refine ⟨?_, ?_⟩
  · rw [Lib.bytesWorld_cell W e (bs l) j hj']
    have hl : j < l.length := hj
    simp [encB, bs, List.getD_eq_getElem?_getD, List.getElem?_eq_getElem hl, hl]
  · have hc : j < (Lib.bytesCells W e (bs l)).size := by
      have : (bs l).data.size = (bs l).size := rfl
      simp [Lib.bytesCells]; omega
    simp [World.frozen?, Lib.bytesWorld_at_new]
    omega
theorem str_map (m : List UInt8) : strOfNums (m.map fun b => (b.toNat : Int)) = bs m := by
  unfold strOfNums bs
  rw [List.map_map]
  congr 2
  exact (List.map_congr_left (fun b _ => by simp)).trans (List.map_id m)
set_option maxHeartbeats 4000000 in
set_option maxRecDepth 100000 in
theorem impl_no (s : ByteArray) (h : rowB s = false) (w : World) :
    Calls Tryd.prog 9 #[.string s] w fun e w' => e = .returned (.tuple #[.string ⟨#[]⟩, .bool false]) ∧ Below w.heap.size w w' := by
  have HI := Aside0.mk (fun W => RImpl.isRow_no s h W)
  clear h
  have HB := Aside0.mk (Below.refl w.heap.size w)
  go_enter Tryd.func9, Tryd.ntmps9
  go_wp2_with (go_at_call 59; refine (HI.out _).mono ?_; rintro e w3 ⟨rfl, hb⟩; have HBn := Aside0.mk (below_step (by repeat (first | (with_reducible first | exact HB.out | apply below_alloc | apply pw_below_drewN | apply below_drew1) | exact HB.out)) hb); clear hb HB; have HB := HBn; clear HBn)
  go_ret2
  exact ⟨rfl, (by repeat (first | (with_reducible first | exact HB.out | apply below_alloc | apply pw_below_drewN | apply below_drew1) | exact HB.out))⟩
set_option maxHeartbeats 4000000 in
set_option maxRecDepth 100000 in
theorem impl_yes (l : List UInt8) (h : rowB (bs l) = true) (w : World) (hML : ML w) :
    Calls Tryd.prog 9 #[.string (bs l)] w fun e w' => e = .returned (.tuple #[.string (bs (mirL l)), .bool true]) ∧ Below w.heap.size w w' := by
  have h60 := rowB_len h
  have hz : (bs l).size = l.length := rfl
  have HI := Aside0.mk (fun W => RImpl.isRow_yes l h W)
  have HT := Aside0.mk (fun W (hb : Below w.heap.size w W) => RImpl.turned_calls l (by omega) (rowB_all h) W (hML.of_below hb))
  have hlt : (bs (l.map otherB)).size ≤ 60 := by rw [bs_size, List.length_map]; omega
  clear h60 h hML hz
  have HB := Aside0.mk (Below.refl w.heap.size w)
  have HM : Aside0 (mirL l = (l.map otherB).reverse) := ⟨rfl⟩
  generalize mirL l = m at *
  generalize l.map otherB = t at *
  generalize hs : bs l = s at *
  clear hs
  have kb := fun W => print_bytes (P := Tryd.prog) 9 50 5 Tryd.underlying9 Tryd.underlying50 Tryd.underlying5 (bs t) W
  go_enter Tryd.func9, Tryd.ntmps9
  go_wp2_with (first | (go_at_call 59; refine (HI.out _).mono ?_; rintro e w3 ⟨rfl, hb⟩; have HBn := Aside0.mk (below_step (by repeat (first | (with_reducible first | exact HB.out | apply below_alloc | apply pw_below_drewN | apply below_drew1) | exact HB.out)) hb); clear hb HB; have HB := HBn; clear HBn) | (go_at_call 60; refine (HT.out _ (by repeat (first | (with_reducible first | exact HB.out | apply below_alloc | apply pw_below_drewN | apply below_drew1) | exact HB.out))).mono ?_; rintro e w4 ⟨rfl, hb⟩; have HBn := Aside0.mk (below_step (by repeat (first | (with_reducible first | exact HB.out | apply below_alloc | apply pw_below_drewN | apply below_drew1) | exact HB.out)) hb); clear hb HB; have HB := HBn; clear HBn))
  have hh := holds_bytes w4 5 t
  have hsz2 : w4.heap.size < (Lib.bytesWorld w4 5 (bs t)).heap.size := by rw [Lib.bytesWorld_size]; omega
  have HB5 := Aside0.mk (bytes_below HB.out HB.out.size 5 (bs t))
  have hg := HB.out.size
  refine (AnyE.slices_Reverse Tryd.laysRev encB (fun _ => rfl) w4.heap.size 0 _ t (Lib.bytesWorld w4 5 (bs t)) hh (by rw [bs_size] at hlt; omega)).mono ?_
  rintro e w6 ⟨rfl, q, rfl⟩
  have HB6 := Aside0.mk (Lib.below_putRow (enc := encB) (q := q) (d := t.reverse.toArray) HB5.out hg)
  rw [← HM.out] at HB6 ⊢
  have hml : m.length = t.length := by rw [HM.out, List.length_reverse]
  have hh2 := holds_putRow encB (Sort.ahead (Lib.bytesWorld w4 5 (bs t)) q) w4.heap.size 0 t.toArray m.toArray (holds_ahead encB _ q _ 0 _ hh) (by simpa using hml)
  generalize putRow encB (Sort.ahead (Lib.bytesWorld w4 5 (bs t)) q) w4.heap.size 0 m.toArray = w7 at *
  have hcv := run_convert_bytes_arg (P := Tryd.prog) (w := w7) 50 5 Tryd.underlying50 Tryd.underlying5 w4.heap.size 0 (bs t).size (grownCap w4 (bs t).size 0 5) (m.map fun b => (b.toNat : Int)) (by rw [List.length_map, hml]; rfl) (fun i hi => by
    have hi2 : i < m.length := by rw [bs_size] at hi; omega
    have := (hh2 i (by simpa using hi2)).1
    rw [this]
    simp [encB, List.getD_eq_getElem?_getD, List.getElem?_eq_getElem hi2, hi2]) 9 Tryd.underlying9
  rw [str_map] at hcv
  clear hh hh2 hsz2 hg hml HB HB5 kb
  have HB := HB6
  clear HB6
  go_wp2
  go_ret2
  exact ⟨rfl, (by repeat (first | (with_reducible first | exact HB.out | apply below_alloc | apply pw_below_drewN | apply below_drew1) | exact HB.out))⟩
end Go.Proofs.YtleacijhpkogpabDoor.RMirror
/- How many pairs turn until a row is at rest: the walks of impl.CountTurns and its closure, of spec.CountTurns and of the law. -/
namespace Go.Proofs.YtleacijhpkogpabDoor.RTurns
open Go.RowKit Go.Proofs.YtleacijhpkogpabDoorW.PrintWords Go.Proofs.YtleacijhpkogpabDoorW.PrintLast Go.Proofs.YtleacijhpkogpabDoorW.PrintMore Go.Shelf Go.Proofs.YtleacijhpkogpabDoor.RPlain Go.Proofs.YtleacijhpkogpabDoor.RImpl
set_option linter.unusedVariables false
set_option linter.unusedSimpArgs false

def addT (l : List UInt8) (s : Int) : Int := wrap64 (s + ((prs 0 l).length : Int))
def trnL (l : List UInt8) (s : Int) : Int := (histL l).2.foldl (fun s l => addT l s) s
theorem trn_step {l : List UInt8} (h : hasB l = true) (s : Int) : trnL l s = trnL (tkB l) (addT l s) := by
  unfold trnL; rw [histL_step h]; rfl
theorem trn_rest {l : List UInt8} (h : hasB l = false) (s : Int) : trnL l s = s := by
  unfold trnL; rw [histL_rest h]; rfl
set_option maxHeartbeats 4000000 in
set_option maxRecDepth 100000 in
theorem turns_1_calls (l : List UInt8) (hl : 1 ≤ l.length ∧ l.length ≤ 1048576) (s : Int) (w W : World) (h : CellIs w (.int .i64 s) W) :
    Calls Tryd.prog 65 #[.string (bs l), .pointer (some ⟨w.heap.size, 0, none⟩)] W fun e w' => e = .returned (.tuple #[]) ∧ CellIs w (.int .i64 (addT l s)) w' := by
  have hc := h.cell
  have hf := h.free
  have HB := Aside0.mk h.below
  have HF := Aside0.mk (fun V => facing_calls l hl V)
  have HA : Aside0 (addT l s = wrap64 (s + ((prs 0 l).length : Int))) := ⟨rfl⟩
  have hw0 : w.heap.size < W.heap.size := World.block_lt_of_cell? W _ hc
  clear h hl
  generalize addT l s = r at *
  generalize prs 0 l = ps at *
  generalize bs l = x at *
  generalize hB : w.heap.size = B at hc hf hw0 ⊢
  have HBB := Aside0.mk hB
  have HW := Aside0.mk hw0
  clear hB hw0
  go_enter Tryd.func65, Tryd.ntmps65
  go_wp2
  go_region_with (go_at_call 66; refine (HF.out _).mono ?_; rintro e w3 ⟨v, rfl, ho, hb⟩; obtain ⟨A, c, rfl, hlc, hC⟩ := Kd.R_reads ho; have hc3 := (hb.cell (p := ⟨B, 0, none⟩) HW.out).trans hc; have hf3 := (hb.frozen (p := ⟨B, 0, none⟩) HW.out).trans hf; have HB3 := Aside0.mk hb; clear ho hC hb)
  all_goals
    go_wp2
    first | go_end0 | go_ret
    obtain rfl := HBB.out
    rw [HA.out, i64_w]
    refine ⟨by first | rfl | simp, ⟨?_, ?_, ?_⟩⟩
    · rw [World.cell?_setCell_same _ _ _ hc3]
    · exact (World.frozen?_setCell _ _ _ _).trans hf3
    · exact (below_then (below_drew HB.out) HB.out.size HB3.out).setCell (Nat.le_refl _) _
theorem good_yes (l : List UInt8) (h : rowB (bs l) = true) (w : World) :
    Calls Tryd.prog 57 #[.string (bs l)] w fun e w' => e = .returned (.bool true) ∧ Drawn0 w w' := by
  have := RGood.good_calls (bs l) w
  rwa [h] at this
theorem good_no (s : ByteArray) (h : rowB s = false) (w : World) :
    Calls Tryd.prog 57 #[.string s] w fun e w' => e = .returned (.bool false) ∧ Drawn0 w w' := by
  have := RGood.good_calls s w
  rwa [h] at this
set_option maxHeartbeats 4000000 in
set_option maxRecDepth 100000 in
theorem impl_no (s : ByteArray) (h : rowB s = false) (w : World) :
    Calls Tryd.prog 11 #[.string s] w fun e w' => e = .returned (.tuple #[.int .i64 0, .bool false]) ∧ Below w.heap.size w w' := by
  have HI := Aside0.mk (fun W => isRow_no s h W)
  clear h
  have HB := Aside0.mk (Below.refl w.heap.size w)
  go_enter Tryd.func11, Tryd.ntmps11
  go_wp2_with (go_at_call 59; refine (HI.out _).mono ?_; rintro e w3 ⟨rfl, hb⟩; have HBn := Aside0.mk (below_step (by repeat (first | (with_reducible first | exact HB.out | apply below_alloc | apply pw_below_drewN | apply below_drew1) | exact HB.out)) hb); clear hb HB; have HB := HBn; clear HBn)
  go_ret2
  exact ⟨rfl, (by repeat (first | (with_reducible first | exact HB.out | apply below_alloc | apply pw_below_drewN | apply below_drew1) | exact HB.out))⟩
set_option maxHeartbeats 4000000 in
set_option maxRecDepth 100000 in
theorem spec_no (s : ByteArray) (h : rowB s = false) (w : World) :
    Calls Tryd.prog 10 #[.string s] w fun e w' => e = .returned (.tuple #[.int .i64 0, .bool false]) ∧ Below w.heap.size w w' := by
  have HG := Aside0.mk (fun W => good_no s h W)
  clear h
  have HB := Aside0.mk (Below.refl w.heap.size w)
  go_enter Tryd.func10, Tryd.ntmps10
  go_wp2_with (go_at_call 57; refine (HG.out _).mono ?_; rintro e w' ⟨rfl, ⟨nd, rfl⟩⟩)
  go_ret2
  exact ⟨rfl, (by repeat (first | (with_reducible first | exact HB.out | apply below_alloc | apply pw_below_drewN | apply below_drew1) | exact HB.out))⟩
set_option maxHeartbeats 4000000 in
set_option maxRecDepth 100000 in
theorem impl_yes (l : List UInt8) (h : rowB (bs l) = true) (w : World) (hML : ML w) :
    Calls Tryd.prog 11 #[.string (bs l)] w fun e w' => e = .returned (.tuple #[.int .i64 (trnL l 0), .bool true]) ∧ Below w.heap.size w w' := by
  have h60 := rowB_len h
  have hz : (bs l).size = l.length := rfl
  have HI := Aside0.mk (fun W => isRow_yes l h W)
  have HH := Aside0.mk (fun w1 (hb1 : Below w.heap.size w w1) W (hi : CellIs w1 (.int .i64 0) W) => (show Calls Tryd.prog 64 #[.string (bs l), .func (.func 65) #[] #[.pointer (some ⟨w1.heap.size, 0, none⟩)]] W (fun e w' => e = .returned (.string ⟨(histL l).1.toArray⟩) ∧ CellIs w1 (.int .i64 (trnL l 0)) w') from
    history_calls 65 #[.pointer (some ⟨w1.heap.size, 0, none⟩)] (enters_ (P := Tryd.prog) Tryd.func65 (by kernel_rfl) rfl) addT (fun s W => CellIs w1 (.int .i64 s) W)
      (fun s W hi => (hML.of_below hb1).of_below hi.below) (fun s W W' hi hb => hi.up hb) l.length (by omega) (fun l' s W hl' hi => turns_1_calls l' (by omega) s w1 W hi) l rfl 0 W hi))
  clear h60 h hML hz
  have HB := Aside0.mk (Below.refl w.heap.size w)
  generalize trnL l 0 = r at *
  generalize (⟨(histL l).1.toArray⟩ : ByteArray) = y at *
  generalize bs l = x at *
  have hmf : ∀ (fn : Fn) (first cap : Array Value) (w : World), (Instr.makeFunc fn first cap).run Tryd.prog w = .ok (.func fn first cap) w := fun _ _ _ _ => rfl
  go_enter Tryd.func11, Tryd.ntmps11
  go_wp2_with (first | (go_at_call 59; refine (HI.out _).mono ?_; rintro e w3 ⟨rfl, hb⟩; have HBn := Aside0.mk (below_step (by repeat (first | (with_reducible first | exact HB.out | apply below_alloc | apply pw_below_drewN | apply below_drew1) | exact HB.out)) hb); clear hb HB; have HB := HBn; clear HBn) | (go_at_call 64; refine (HH.out w3 HB.out _ ⟨by simp, by simp, by first | exact ((Below.refl _ _).alloc (Nat.le_refl _) _) | repeat (first | exact Below.refl _ _ | apply below_alloc | apply pw_below_drewN | apply below_drew)⟩).mono ?_; rintro e w5 ⟨rfl, hi⟩; have HI5 := Aside0.mk hi; have hcell := hi.cell; clear hi))
  go_ret2
  exact ⟨by first | rfl | simp, below_step HB.out HI5.out.below⟩
set_option maxHeartbeats 4000000 in
set_option maxRecDepth 100000 in
theorem spec_yes (l : List UInt8) (h : rowB (bs l) = true) (w : World) :
    Calls Tryd.prog 10 #[.string (bs l)] w fun e w' => e = .returned (.tuple #[.int .i64 (trnL l 0), .bool true]) ∧ Below w.heap.size w w' := by
  have h60 := rowB_len h
  have hz : (bs l).size = l.length := rfl
  have HG := Aside0.mk (fun W => good_yes l h W)
  have HL0 : Aside0 (l.length ≤ 60) := ⟨by omega⟩
  have HB := Aside0.mk (Below.refl w.heap.size w)
  have HB0 := Aside0.mk (rfl : bs l = bs l)
  clear h60 h hz
  go_enter Tryd.func10, Tryd.ntmps10
  go_wp2_with (go_at_call 57; refine (HG.out _).mono ?_; rintro e w' ⟨rfl, ⟨nd, rfl⟩⟩)
  go_loopg [0, 4] (invB l) (fun kq v0 v4 w' => ∃ (l1 : List UInt8) (n : Int), v0 = .string (bs l1) ∧ v4 = .int .i64 n ∧ Aside0 (invB l1 = kq) ∧ Aside0 (l1.length ≤ 60) ∧ Aside0 (trnL l1 n = trnL l 0) ∧ Aside0 (Below w.heap.size w w'))
  case atStart => exact ⟨l, 0, rfl, rfl, ⟨rfl⟩, HL0, ⟨rfl⟩, ⟨(by repeat (first | (with_reducible first | exact HB.out | apply below_alloc | apply pw_below_drewN | apply below_drew1) | exact HB.out))⟩⟩
  case round =>
    clear HB HL0 HG HB0
    obtain ⟨l1, n, rfl, rfl, HK, HL, H1, HB⟩ := hrel
    have HP := Aside0.mk (fun W => RSpec.pairs_calls (bs l1) (by have := HL.out; rw [bs_size]; omega) W)
    have HT := Aside0.mk (fun W => RSpec.tick_calls (bs l1) (by have := HL.out; rw [bs_size]; omega) W)
    cases c : hasB l1 with
    | true =>
      have hps := prs_pos 0 l1 c
      have HI := Aside0.mk ((inv_tk l1).2 c)
      have HS := Aside0.mk (trn_step c n)
      have HAD : Aside0 (addT l1 n = wrap64 (n + ((prs 0 l1).length : Int))) := ⟨rfl⟩
      have HTL := Aside0.mk (tkB_len l1)
      clear c
      change Aside0 (∀ W : World, Calls Tryd.prog 62 #[.string (bs l1)] W fun e w' => ∃ v : Value, e = .returned v ∧ Kd.R (Kd.int .i64) 3 w' W.heap.size (fun _ => True) v (prs 0 l1) ∧ Below W.heap.size W w') at HP
      change Aside0 (∀ W : World, Calls Tryd.prog 63 #[.string (bs l1)] W fun e w' => e = .returned (.string (bs (tkB l1))) ∧ Below W.heap.size W w') at HT
      generalize prs 0 l1 = ps at *
      generalize hb1 : bs l1 = b1 at HP HT ⊢
      have HB1 := Aside0.mk hb1
      clear hb1
      go_wp2_with (first | (go_at_call 62; refine (HP.out _).mono ?_; rintro e w3 ⟨v, rfl, ho, hb⟩; obtain ⟨A, cc, rfl, hlc, hC⟩ := Kd.R_reads ho; have HBn := Aside0.mk (below_step (by repeat (first | (with_reducible first | exact HB.out | apply below_alloc | apply pw_below_drewN | apply below_drew1) | exact HB.out)) hb); clear ho hb hC HB; have HB := HBn; clear HBn) | (go_at_call 63; refine (HT.out _).mono ?_; rintro e w4 ⟨rfl, hb⟩; have HBn := Aside0.mk (below_step (by repeat (first | (with_reducible first | exact HB.out | apply below_alloc | apply pw_below_drewN | apply below_drew1) | exact HB.out)) hb); clear hb HB; have HB := HBn; clear HBn))
      go_roundg (invB (tkB l1))
      case measure => have := HI.out; have := HK.out; omega
      case rel => exact ⟨tkB l1, addT l1 n, rfl, by rw [HAD.out], ⟨rfl⟩, ⟨by rw [HTL.out]; exact HL.out⟩, ⟨by rw [← HS.out]; exact H1.out⟩, ⟨(by repeat (first | (with_reducible first | exact HB.out | apply below_alloc | apply pw_below_drewN | apply below_drew1) | exact HB.out))⟩⟩
    | false =>
      have hps := prs_none 0 l1 c
      have HS := Aside0.mk (trn_rest c n)
      clear c HT
      change Aside0 (∀ W : World, Calls Tryd.prog 62 #[.string (bs l1)] W fun e w' => ∃ v : Value, e = .returned v ∧ Kd.R (Kd.int .i64) 3 w' W.heap.size (fun _ => True) v (prs 0 l1) ∧ Below W.heap.size W w') at HP
      rw [hps] at HP
      clear hps
      generalize hb1 : bs l1 = b1 at HP ⊢
      clear hb1
      go_wp2_with (go_at_call 62; refine (HP.out _).mono ?_; rintro e w3 ⟨v, rfl, ho, hb⟩; obtain ⟨A, cc, rfl, hlc, hC⟩ := Kd.R_reads ho; have HBn := Aside0.mk (below_step (by repeat (first | (with_reducible first | exact HB.out | apply below_alloc | apply pw_below_drewN | apply below_drew1) | exact HB.out)) hb); clear ho hb hC HB; have HB := HBn; clear HBn)
      go_ret2
      exact ⟨by rw [← H1.out, HS.out]; rfl, (by repeat (first | (with_reducible first | exact HB.out | apply below_alloc | apply pw_below_drewN | apply below_drew1) | exact HB.out))⟩
end Go.Proofs.YtleacijhpkogpabDoor.RTurns
/- How often each soldier turns until a row is at rest: the walks of spec.TurnsOfEach, impl.TurnsOfEach and its closure. -/
namespace Go.Proofs.YtleacijhpkogpabDoor.RTE
open Go.RowKit Go.Proofs.YtleacijhpkogpabDoorW.PrintWords Go.Proofs.YtleacijhpkogpabDoorW.PrintLast Go.Proofs.YtleacijhpkogpabDoorW.PrintMore Go.Shelf Go.Proofs.YtleacijhpkogpabDoor.PFnRowsRestOfAll Go.Proofs.YtleacijhpkogpabDoor.RPlain Go.Proofs.YtleacijhpkogpabDoor.RImpl
set_option linter.unusedVariables false
set_option linter.unusedSimpArgs false

theorem good_yes (l : List UInt8) (h : rowB (bs l) = true) (w : World) :
    Calls Tryd.prog 57 #[.string (bs l)] w fun e w' => e = .returned (.bool true) ∧ Drawn0 w w' := by
  have := RGood.good_calls (bs l) w
  rwa [h] at this
theorem good_no (s : ByteArray) (h : rowB s = false) (w : World) :
    Calls Tryd.prog 57 #[.string s] w fun e w' => e = .returned (.bool false) ∧ Drawn0 w w' := by
  have := RGood.good_calls s w
  rwa [h] at this
set_option maxHeartbeats 8000000 in
set_option maxRecDepth 100000 in
theorem spec_no (s : ByteArray) (h : rowB s = false) (w : World) :
    Calls Tryd.prog 12 #[.string s] w fun e w' => ∃ v, e = .returned (.tuple #[v, .bool false]) ∧ Kd.R (Kd.int .i64) 3 w' w.heap.size (fun _ => True) v [] ∧ Below w.heap.size w w' := by
  have HG := Aside0.mk (fun W => good_no s h W)
  clear h
  have HB := Aside0.mk (Below.refl w.heap.size w)
  go_enter Tryd.func12, Tryd.ntmps12
  go_wp2_with (go_at_call 57; refine (HG.out _).mono ?_; rintro e w' ⟨rfl, ⟨nd, rfl⟩⟩)
  go_ret2
  exact ⟨_, rfl, Kd.R_nil _ _ _ _ _, (by repeat (first | (with_reducible first | exact HB.out | apply below_alloc | apply pw_below_drewN | apply below_drew1) | exact HB.out))⟩
set_option maxHeartbeats 8000000 in
set_option maxRecDepth 100000 in
theorem spec_yes (l : List UInt8) (h : rowB (bs l) = true) (w : World) :
    Calls Tryd.prog 12 #[.string (bs l)] w fun e w' => ∃ v, e = .returned (.tuple #[v, .bool true]) ∧ Kd.R (Kd.int .i64) 3 w' w.heap.size (fun _ => True) v (eachL l (List.replicate l.length 0)) ∧ Below w.heap.size w w' := by
  have h60 := rowB_len h
  have hz : (bs l).size = l.length := rfl
  have HG := Aside0.mk (fun W => good_yes l h W)
  rw [hz] at h60
  have HB := Aside0.mk (Below.refl w.heap.size w)
  clear h
  obtain ⟨n, hn⟩ : ∃ n, n = l.length := ⟨_, rfl⟩
  have HN := Aside0.mk hn
  rw [← hn] at h60 hz ⊢
  clear hn
  generalize hs : bs l = s at *
  have HSS := Aside0.mk hs
  clear hs
  obtain ⟨h1, h2⟩ := h60
  go_enter Tryd.func12, Tryd.ntmps12
  go_wp2_with (first | (go_at_call 57; refine (HG.out _).mono ?_; rintro e w' ⟨rfl, ⟨nd, rfl⟩⟩) | ((with_reducible refine gate_dst (N := 12) rfl ?_); refine Kd.R_make (Kd.int .i64) (w0 := w) w.heap.size 3 rfl (N := 12) rfl 27 _ _ rfl (n : Int) rfl rfl Tryd.underlying27 (.int .i64 0) 8 info3 rfl (by decide) (by omega) 0 (ok := fun _ => True) (okp := fun _ => True) rfl (fun _ hk => hk) trivial (by omega) (by omega) (by repeat (first | (with_reducible first | exact HB.out | apply below_alloc | apply pw_below_drewN | apply below_drew1) | exact HB.out)) (below_size (by repeat (first | (with_reducible first | exact HB.out | apply below_alloc | apply pw_below_drewN | apply below_drew1) | exact HB.out))) ?_; intro v1 w5 ho hb hg hnew; rw [Int.toNat_natCast] at ho; obtain ⟨g, c, e, gb, gl, HGG⟩ := Kd.R_form ho (by simp; omega); rw [List.length_replicate] at e; subst e; have HO := Aside0.mk ho; have HBn := Aside0.mk hb; have GB := Aside0.mk gb; have GL := Aside0.mk gl; clear ho hb hg hnew HB gb gl HGG; have HB := HBn; clear HBn))
  clear HG
  go_loopg [0] (invB l) (fun kq v0 w' => ∃ (l1 : List UInt8) (out : List Int), v0 = .string (bs l1) ∧ Aside0 (invB l1 = kq) ∧ Aside0 (l1.length = n) ∧ Aside0 (out.length = n) ∧ Aside0 (eachL l1 out = eachL l (List.replicate n 0)) ∧ Aside0 (Kd.R (Kd.int .i64) 3 w' w.heap.size (fun _ => True) (.slice (some ⟨g, 0, none⟩) n c) out) ∧ Aside0 (g < w'.heap.size) ∧ Aside0 (Below w.heap.size w w'))
  case atStart => exact ⟨l, List.replicate n 0, by rw [HSS.out], ⟨rfl⟩, ⟨HN.out.symm⟩, ⟨by simp⟩, ⟨rfl⟩, HO, GL, ⟨(by repeat (first | (with_reducible first | exact HB.out | apply below_alloc | apply pw_below_drewN | apply below_drew1) | exact HB.out))⟩⟩
  case round =>
    clear HB HO GL
    obtain ⟨l1, out, rfl, HK, HLN, HON, H1, HO, GL, HB⟩ := hrel
    have HP := Aside0.mk (fun W => RSpec.pairs_calls (bs l1) (by have := HLN.out; rw [bs_size]; omega) W)
    have HT := Aside0.mk (fun W => RSpec.tick_calls (bs l1) (by have := HLN.out; rw [bs_size]; omega) W)
    cases c1 : hasB l1 with
    | true =>
      have hps := prs_pos 0 l1 c1
      have HI := Aside0.mk ((inv_tk l1).2 c1)
      have HSE := Aside0.mk (each_step c1 out)
      have HTL := Aside0.mk (tkB_len l1)
      have hpl := prs_len 0 l1
      have HMEM : Aside0 (∀ x ∈ prs 0 l1, 0 ≤ x ∧ x + 2 ≤ (n : Int)) := ⟨fun x hx => by have := prs_mem 0 l1 x hx; have := HLN.out; omega⟩
      rw [HLN.out] at hpl
      clear c1
      change Aside0 (∀ W : World, Calls Tryd.prog 62 #[.string (bs l1)] W fun e w' => ∃ v : Value, e = .returned v ∧ Kd.R (Kd.int .i64) 3 w' W.heap.size (fun _ => True) v (prs 0 l1) ∧ Below W.heap.size W w') at HP
      change Aside0 (∀ W : World, Calls Tryd.prog 63 #[.string (bs l1)] W fun e w' => e = .returned (.string (bs (tkB l1))) ∧ Below W.heap.size W w') at HT
      generalize prs 0 l1 = ps at *
      generalize hb1 : bs l1 = b1 at HP HT ⊢
      clear hb1
      go_wp2_with fail
      refine (HP.out _).mono ?_
      rintro e w3 ⟨v, rfl, ho, hb⟩
      obtain ⟨A3, cc3, rfl, hlc3, hC3⟩ := Kd.R_reads ho
      have HBn := Aside0.mk (below_step (by repeat (first | (with_reducible first | exact HB.out | apply below_alloc | apply pw_below_drewN | apply below_drew1) | exact HB.out)) hb)
      have HOn := Aside0.mk (Kd.R_below HO.out hb)
      have GLn := Aside0.mk (Nat.lt_of_lt_of_le GL.out hb.size)
      clear ho hb hC3 HB HO GL
      have HB := HBn
      have HO := HOn
      have GL := GLn
      clear HBn HOn GLn
      go_wp2_with fail
      refine (HP.out _).mono ?_
      rintro e w4 ⟨v, rfl, ho, hb⟩
      obtain ⟨A4, cc4, rfl, hlc4, hC4⟩ := Kd.R_reads ho
      have HPS : Aside0 (Kd.R (Kd.int .i64) 3 w4 w3.heap.size (fun k => k ≠ g) (.slice A4 ps.length cc4) ps) := ⟨Kd.R_mono (Kd.R_bound ho) (fun k hk => by have := hk.2.1; have := GL.out; omega)⟩
      have HBn := Aside0.mk (below_step (by repeat (first | (with_reducible first | exact HB.out | apply below_alloc | apply pw_below_drewN | apply below_drew1) | exact HB.out)) hb)
      have HOn := Aside0.mk (Kd.R_below HO.out hb)
      have GLn := Aside0.mk (Nat.lt_of_lt_of_le GL.out hb.size)
      clear ho hb hC4 HB HO GL
      have HB := HBn
      have HO := HOn
      have GL := GLn
      clear HBn HOn GLn
      go_wp2_with fail
      go_loopg [20] ps.length (fun kq2 v20 w' => ∃ (j : Nat), v20 = .int .i64 (j : Int) ∧ Aside0 (kq2 + j = ps.length) ∧ Aside0 (Kd.R (Kd.int .i64) 3 w' w3.heap.size (fun k => k ≠ g) (.slice A4 ps.length cc4) ps) ∧ Aside0 (Kd.R (Kd.int .i64) 3 w' w.heap.size (fun _ => True) (.slice (some ⟨g, 0, none⟩) n c) (bumps out (ps.take j))) ∧ Aside0 (g < w'.heap.size) ∧ Aside0 (Below w.heap.size w w'))
      case atStart => exact ⟨0, rfl, ⟨rfl⟩, HPS, HO, GL, ⟨(by repeat (first | (with_reducible first | exact HB.out | apply below_alloc | apply pw_below_drewN | apply below_drew1) | exact HB.out))⟩⟩
      case round =>
        clear HB HO GL HPS
        obtain ⟨j, rfl, HK2, HPS, HO, GL, HB⟩ := hrel
        by_cases hj : j < ps.length
        · have hm := HMEM.out ps[j] (List.getElem_mem hj)
          obtain ⟨k, hk⟩ := Int.eq_ofNat_of_zero_le hm.1
          obtain ⟨ad, e, hc⟩ := Kd.at_int (Kd.R_reads' HPS.out).2.2 (j : Int) (by omega) (by omega)
          cases e
          rw [show rd ps (j : Int) = ps[j] from RSpec.rd_nat ps j hj, hk, Int.toNat_natCast] at hc
          have hkn : k + 2 ≤ n := by omega
          have HBS : Aside0 (bumps out (ps.take (j + 1)) = bump (bumps out (ps.take j)) (k : Int)) := ⟨by rw [bumps_succ out ps j hj, hk]⟩
          clear hm hk
          obtain ⟨hx1, hf1⟩ := Kd.R_celln 0 HO.out (k : Int) (by omega) (by omega)
          obtain ⟨hx2, hf2⟩ := Kd.R_celln 0 HO.out ((k + 1 : Nat) : Int) (by omega) (by omega)
          replace hx1 : wr.cell? ⟨g, k, none⟩ = some (.int .i64 (rdI (bumps out (ps.take j)) k)) := hx1
          replace hf1 : wr.frozen? ⟨g, k, none⟩ = false := hf1
          replace hx2 : wr.cell? ⟨g, k + 1, none⟩ = some (.int .i64 (rdI (bumps out (ps.take j)) (k + 1))) := hx2
          replace hf2 : wr.frozen? ⟨g, k + 1, none⟩ = false := hf2
          have HP1 := Aside0.mk (Kd.R_putg HO.out (k : Int) (wrap64 (rdI (bumps out (ps.take j)) k + 1)))
          have HP2 := Aside0.mk (Kd.R_putg HP1.out.1 ((k + 1 : Nat) : Int) (wrap64 (rdI (bumps out (ps.take j)) (k + 1) + 1)))
          have HBB : Aside0 (bump (bumps out (ps.take j)) (k : Int) = ((bumps out (ps.take j)).set k (wrap64 (rdI (bumps out (ps.take j)) k + 1))).set (k + 1) (wrap64 (rdI (bumps out (ps.take j)) (k + 1) + 1))) := ⟨rfl⟩
          generalize rdI (bumps out (ps.take j)) k = q1 at *
          generalize rdI (bumps out (ps.take j)) (k + 1) = q2 at *
          go_wp2
          go_roundg (ps.length - (j + 1))
          case measure => have := HK2.out; omega
          case rel => exact ⟨j + 1, rfl, ⟨by have := HK2.out; omega⟩, ⟨Kd.R_far (p := ⟨g, k + 1, none⟩) (Kd.R_far (p := ⟨g, k, none⟩) HPS.out (fun _ h => h) _) (fun _ h => h) _⟩, ⟨by rw [HBS.out, HBB.out]; exact HP2.out.1⟩, ⟨by simp; exact GL.out⟩, ⟨below_set (below_set HB.out GB.out) GB.out⟩⟩
        · have hjj : j = ps.length := by have := HK2.out; omega
          have HE : Aside0 (bumps out (ps.take j) = bumps out ps) := ⟨by rw [hjj, List.take_length]⟩
          go_wp2_with fail
          refine (HT.out _).mono ?_
          rintro e w6 ⟨rfl, hb⟩
          have HBn := Aside0.mk (below_step HB.out hb)
          have HOn := Aside0.mk (Kd.R_below HO.out hb)
          have GLn := Aside0.mk (Nat.lt_of_lt_of_le GL.out hb.size)
          clear hb HB HO GL
          go_wp2
          go_roundg (invB (tkB l1))
          case measure => have := HI.out; have := HK.out; omega
          case rel => exact ⟨tkB l1, bumps out ps, rfl, ⟨rfl⟩, ⟨by rw [HTL.out]; exact HLN.out⟩, ⟨by rw [bumps_len]; exact HON.out⟩, ⟨by rw [← HSE.out]; exact H1.out⟩, ⟨by rw [← HE.out]; exact HOn.out⟩, GLn, HBn⟩
    | false =>
      have hps := prs_none 0 l1 c1
      have HSE := Aside0.mk (each_rest c1 out)
      clear c1 HT
      change Aside0 (∀ W : World, Calls Tryd.prog 62 #[.string (bs l1)] W fun e w' => ∃ v : Value, e = .returned v ∧ Kd.R (Kd.int .i64) 3 w' W.heap.size (fun _ => True) v (prs 0 l1) ∧ Below W.heap.size W w') at HP
      rw [hps] at HP
      clear hps
      generalize hb1 : bs l1 = b1 at HP ⊢
      clear hb1
      go_wp2_with fail
      refine (HP.out _).mono ?_
      rintro e w3 ⟨v, rfl, ho, hb⟩
      obtain ⟨A3, cc3, rfl, hlc3, hC3⟩ := Kd.R_reads ho
      have HBn := Aside0.mk (below_step (by repeat (first | (with_reducible first | exact HB.out | apply below_alloc | apply pw_below_drewN | apply below_drew1) | exact HB.out)) hb)
      have HOn := Aside0.mk (Kd.R_below HO.out hb)
      clear ho hb hC3 HB HO GL
      go_wp2
      go_ret2
      exact ⟨_, rfl, by rw [← H1.out, HSE.out]; exact HOn.out, HBn.out⟩
set_option maxHeartbeats 8000000 in
set_option maxRecDepth 100000 in
theorem impl_no (s : ByteArray) (h : rowB s = false) (w : World) :
    Calls Tryd.prog 13 #[.string s] w fun e w' => ∃ v, e = .returned (.tuple #[v, .bool false]) ∧ Kd.R (Kd.int .i64) 3 w' w.heap.size (fun _ => True) v [] ∧ Below w.heap.size w w' := by
  have HI := Aside0.mk (fun W => isRow_no s h W)
  clear h
  have HB := Aside0.mk (Below.refl w.heap.size w)
  go_enter Tryd.func13, Tryd.ntmps13
  go_wp2_with (go_at_call 59; refine (HI.out _).mono ?_; rintro e w3 ⟨rfl, hb⟩; have HBn := Aside0.mk (below_step (by repeat (first | (with_reducible first | exact HB.out | apply below_alloc | apply pw_below_drewN | apply below_drew1) | exact HB.out)) hb); clear hb HB; have HB := HBn; clear HBn)
  go_ret2
  exact ⟨_, rfl, Kd.R_nil _ _ _ _ _, (by repeat (first | (with_reducible first | exact HB.out | apply below_alloc | apply pw_below_drewN | apply below_drew1) | exact HB.out))⟩
theorem cell_far (W : World) (g k cb : Nat) {v : Value} (h : cb ≠ g) : (W.setCell ⟨g, k, none⟩ v).cell? ⟨cb, 0, none⟩ = W.cell? ⟨cb, 0, none⟩ := by
  have hh := Below.heap_setCell W ⟨g, k, none⟩ v cb h
  simp only [World.cell?, hh]
/-- What the closure holds and writes: the captured cell (block cb) holds the row of counts; the row. -/
structure EachIs (w1 : World) (cb g n c : Nat) (out : List Int) (W : World) : Prop where
  cell : W.cell? ⟨cb, 0, none⟩ = some (.slice (some ⟨g, 0, none⟩) n c)
  free : W.frozen? ⟨cb, 0, none⟩ = false
  row : Kd.R (Kd.int .i64) 3 W w1.heap.size (fun k => k ≠ cb) (.slice (some ⟨g, 0, none⟩) n c) out
  lt : g < W.heap.size ∧ cb < W.heap.size ∧ w1.heap.size ≤ g ∧ cb ≠ g
  below : Below w1.heap.size w1 W
theorem EachIs.up {w1 W W' : World} {cb g n c : Nat} {out : List Int} (h : EachIs w1 cb g n c out W) (hb : Below W.heap.size W W') : EachIs w1 cb g n c out W' :=
  ⟨(hb.cell (p := ⟨cb, 0, none⟩) h.lt.2.1).trans h.cell, (hb.frozen (p := ⟨cb, 0, none⟩) h.lt.2.1).trans h.free, Kd.R_below h.row hb, ⟨Nat.lt_of_lt_of_le h.lt.1 hb.size, Nat.lt_of_lt_of_le h.lt.2.1 hb.size, h.lt.2.2⟩, below_step h.below hb⟩
set_option maxHeartbeats 8000000 in
set_option maxRecDepth 100000 in
theorem each_1_calls (l : List UInt8) (n : Nat) (hn : l.length = n) (hl : 1 ≤ n ∧ n ≤ 1000) (w1 : World) (cb g c : Nat) (out : List Int) (W : World) (h : EachIs w1 cb g n c out W) :
    Calls Tryd.prog 67 #[.string (bs l), .pointer (some ⟨cb, 0, none⟩)] W fun e w' => e = .returned (.tuple #[]) ∧ EachIs w1 cb g n c (bumps out (prs 0 l)) w' := by
  have HF := Aside0.mk (fun V => facing_calls l (by omega) V)
  have HE := Aside0.mk h
  have hpl := prs_len 0 l
  have HMEM : Aside0 (∀ x ∈ prs 0 l, 0 ≤ x ∧ x + 2 ≤ (n : Int)) := ⟨fun x hx => by have := prs_mem 0 l x hx; omega⟩
  rw [hn] at hpl
  obtain ⟨hl1, hl2⟩ := hl
  clear h hn
  generalize prs 0 l = ps at *
  generalize bs l = x at *
  go_enter Tryd.func67, Tryd.ntmps67
  go_wp2_with fail
  refine (HF.out _).mono ?_
  rintro e w4 ⟨v, rfl, ho, hb⟩
  obtain ⟨A4, cc4, rfl, hlc4, hC4⟩ := Kd.R_reads ho
  have HPS : Aside0 (Kd.R (Kd.int .i64) 3 w4 W.heap.size (fun k => k ≠ g) (.slice A4 ps.length cc4) ps) := ⟨Kd.R_mono (Kd.R_bound ho) (fun k hk => by have := hk.2.1; have := HE.out.lt.1; omega)⟩
  have HEn := Aside0.mk (HE.out.up hb)
  clear ho hb hC4 HE
  go_wp2_with fail
  go_loopg [8] ps.length (fun kq2 v8 w' => ∃ (j : Nat), v8 = .int .i64 (j : Int) ∧ Aside0 (kq2 + j = ps.length) ∧ Aside0 (Kd.R (Kd.int .i64) 3 w' W.heap.size (fun k => k ≠ g) (.slice A4 ps.length cc4) ps) ∧ Aside0 (EachIs w1 cb g n c (bumps out (ps.take j)) w'))
  case atStart => exact ⟨0, rfl, ⟨rfl⟩, HPS, HEn⟩
  case round =>
    clear HPS HEn
    obtain ⟨j, rfl, HK2, HPS, HE⟩ := hrel
    by_cases hj : j < ps.length
    · have hm := HMEM.out ps[j] (List.getElem_mem hj)
      obtain ⟨k, hk⟩ := Int.eq_ofNat_of_zero_le hm.1
      obtain ⟨ad, e, hc⟩ := Kd.at_int (Kd.R_reads' HPS.out).2.2 (j : Int) (by omega) (by omega)
      cases e
      rw [show rd ps (j : Int) = ps[j] from RSpec.rd_nat ps j hj, hk, Int.toNat_natCast] at hc
      have hkn : k + 2 ≤ n := by omega
      have HBS : Aside0 (bumps out (ps.take (j + 1)) = bump (bumps out (ps.take j)) (k : Int)) := ⟨by rw [bumps_succ out ps j hj, hk]⟩
      clear hm hk
      obtain ⟨hx1, hf1⟩ := Kd.R_celln 0 HE.out.row (k : Int) (by omega) (by omega)
      obtain ⟨hx2, hf2⟩ := Kd.R_celln 0 HE.out.row ((k + 1 : Nat) : Int) (by omega) (by omega)
      replace hx1 : wr.cell? ⟨g, k, none⟩ = some (.int .i64 (rdI (bumps out (ps.take j)) k)) := hx1
      replace hf1 : wr.frozen? ⟨g, k, none⟩ = false := hf1
      replace hx2 : wr.cell? ⟨g, k + 1, none⟩ = some (.int .i64 (rdI (bumps out (ps.take j)) (k + 1))) := hx2
      replace hf2 : wr.frozen? ⟨g, k + 1, none⟩ = false := hf2
      have hcc := HE.out.cell
      have hcf := HE.out.free
      have hne : cb ≠ g := HE.out.lt.2.2.2
      have hne2 : g ≠ cb := fun e => hne e.symm
      have HP1 := Aside0.mk (Kd.R_putg HE.out.row (k : Int) (wrap64 (rdI (bumps out (ps.take j)) k + 1)))
      have HP2 := Aside0.mk (Kd.R_putg HP1.out.1 ((k + 1 : Nat) : Int) (wrap64 (rdI (bumps out (ps.take j)) (k + 1) + 1)))
      have HBB : Aside0 (bump (bumps out (ps.take j)) (k : Int) = ((bumps out (ps.take j)).set k (wrap64 (rdI (bumps out (ps.take j)) k + 1))).set (k + 1) (wrap64 (rdI (bumps out (ps.take j)) (k + 1) + 1))) := ⟨rfl⟩
      generalize rdI (bumps out (ps.take j)) k = q1 at *
      generalize rdI (bumps out (ps.take j)) (k + 1) = q2 at *
      go_wp2
      go_roundg (ps.length - (j + 1))
      case measure => have := HK2.out; omega
      case rel => exact ⟨j + 1, rfl, ⟨by have := HK2.out; omega⟩, ⟨Kd.R_far (p := ⟨g, k + 1, none⟩) (Kd.R_far (p := ⟨g, k, none⟩) HPS.out (fun _ h => h) _) (fun _ h => h) _⟩, ⟨by rw [HBS.out, HBB.out]; exact ⟨by rw [cell_far _ _ _ _ hne, cell_far _ _ _ _ hne]; exact hcc, by rw [World.frozen?_setCell, World.frozen?_setCell]; exact hcf, HP2.out.1, by simpa using HE.out.lt, below_set (below_set HE.out.below HE.out.lt.2.2.1) HE.out.lt.2.2.1⟩⟩⟩
    · have hjj : j = ps.length := by have := HK2.out; omega
      have HE2 : Aside0 (bumps out (ps.take j) = bumps out ps) := ⟨by rw [hjj, List.take_length]⟩
      go_wp2
      first | go_end0 | go_ret
      exact ⟨by first | rfl | simp, by rw [← HE2.out]; exact HE.out⟩
set_option maxHeartbeats 8000000 in
set_option maxRecDepth 100000 in
theorem impl_yes (l : List UInt8) (h : rowB (bs l) = true) (w : World) (hML : ML w) :
    Calls Tryd.prog 13 #[.string (bs l)] w fun e w' => ∃ v, e = .returned (.tuple #[v, .bool true]) ∧ Kd.R (Kd.int .i64) 3 w' w.heap.size (fun _ => True) v (eachL l (List.replicate l.length 0)) ∧ Below w.heap.size w w' := by
  have h60 := rowB_len h
  have hz : (bs l).size = l.length := rfl
  rw [hz] at h60
  have HI := Aside0.mk (fun W => isRow_yes l h W)
  have HH := Aside0.mk (fun cb g c W (hi : EachIs w cb g l.length c (List.replicate l.length 0) W) => (show Calls Tryd.prog 64 #[.string (bs l), .func (.func 67) #[] #[.pointer (some ⟨cb, 0, none⟩)]] W (fun e w' => e = .returned (.string ⟨(histL l).1.toArray⟩) ∧ EachIs w cb g l.length c (eachL l (List.replicate l.length 0)) w') from
    history_calls 67 #[.pointer (some ⟨cb, 0, none⟩)] (enters_ (P := Tryd.prog) Tryd.func67 (by kernel_rfl) rfl) (fun l' o => bumps o (prs 0 l')) (fun out W => EachIs w cb g l.length c out W)
      (fun s W hi => hML.of_below hi.below) (fun s W W' hi hb => hi.up hb) l.length (by omega) (fun l' out W hl' hi => each_1_calls l' l.length hl' (by omega) w cb g c out W hi) l rfl (List.replicate l.length 0) W hi))
  have HB := Aside0.mk (Below.refl w.heap.size w)
  clear h hML
  generalize eachL l (List.replicate l.length 0) = res at *
  generalize (⟨(histL l).1.toArray⟩ : ByteArray) = y at *
  generalize l.length = n at *
  generalize bs l = x at *
  obtain ⟨h1, h2⟩ := h60
  have hmf : ∀ (fn : Fn) (first cap : Array Value) (w : World), (Instr.makeFunc fn first cap).run Tryd.prog w = .ok (.func fn first cap) w := fun _ _ _ _ => rfl
  go_enter Tryd.func13, Tryd.ntmps13
  go_wp2_with (first | (go_at_call 59; refine (HI.out _).mono ?_; rintro e w3 ⟨rfl, hb⟩; have HBn := Aside0.mk (below_step (by repeat (first | (with_reducible first | exact HB.out | apply below_alloc | apply pw_below_drewN | apply below_drew1) | exact HB.out)) hb); clear hb HB; have HB := HBn; clear HBn) | ((with_reducible refine gate_dst (N := 10) rfl ?_); refine Kd.R_make (Kd.int .i64) (w0 := w) w.heap.size 3 rfl (N := 10) rfl 27 _ _ rfl (n : Int) rfl rfl Tryd.underlying27 (.int .i64 0) 8 info3 rfl (by decide) (by omega) 0 (ok := fun _ => True) (okp := fun _ => True) rfl (fun _ hk => hk) trivial (by omega) (by omega) (by repeat (first | (with_reducible first | exact HB.out | apply below_alloc | apply pw_below_drewN | apply below_drew1) | exact HB.out)) (below_size (by repeat (first | (with_reducible first | exact HB.out | apply below_alloc | apply pw_below_drewN | apply below_drew1) | exact HB.out))) ?_; intro v1 w5 ho hb hg hnew; rw [Int.toNat_natCast] at ho; obtain ⟨g, c, e, gb, gl, HGG⟩ := Kd.R_form ho (by simp; omega); rw [List.length_replicate] at e; subst e; have HO := Aside0.mk ho; have HBn := Aside0.mk hb; have GB := Aside0.mk gb; have GL := Aside0.mk gl; clear ho hb hg hnew HB gb gl HGG; have HB := HBn; clear HBn))
  have HE0 : EachIs w w5.heap.size g n c (List.replicate n 0) (w5.alloc (Obj.cells #[Value.slice (some ⟨g, 0, none⟩) n c] 27)) :=
    ⟨by simp, by simp, Kd.R_below (Kd.R_mono (Kd.R_bound HO.out) (fun k hk => (show k ≠ w5.heap.size by have := hk.2.2.1; omega))) (below_alloc (Below.refl w5.heap.size w5) _),
      ⟨by simp; have := GL.out; omega, by simp, GB.out, by have := GL.out; omega⟩, below_alloc HB.out _⟩
  refine (HH.out w5.heap.size g c _ HE0).mono ?_
  rintro e w7 ⟨rfl, he⟩
  have HE := Aside0.mk he
  have hcell := he.cell
  clear he HE0
  go_wp2
  go_ret2
  exact ⟨_, rfl, Kd.R_mono HE.out.row (fun _ _ => trivial), HE.out.below⟩
end Go.Proofs.YtleacijhpkogpabDoor.RTE
