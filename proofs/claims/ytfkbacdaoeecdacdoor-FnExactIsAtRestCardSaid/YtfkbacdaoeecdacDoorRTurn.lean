/- The row in which each looks to the other side: the walks of impl.TurnedRow, spec.TurnedRow. -/
import Derived.Test.YtfkbacdaoeecdacDoorRTurned
import Derived.Test.YtfkbacdaoeecdacDoorRIsRow
import Derived.Test.YtfkbacdaoeecdacDoorRGood
import Derived.Test.YtfkbacdaoeecdacDoorPFnExactTurnedRowx4
namespace Go.Proofs.YtfkbacdaoeecdacDoor.RTurn
open Go.RowKit Go.Proofs.YtfkbacdaoeecdacDoorW.PrintWords Go.Proofs.YtfkbacdaoeecdacDoorW.PrintLast Go.Proofs.YtfkbacdaoeecdacDoorW.PrintMore Go.Shelf Go.Proofs.YtfkbacdaoeecdacDoor.RPlain
set_option linter.unusedVariables false
set_option linter.unusedSimpArgs false

theorem turned_loop (s : ByteArray) (hs : s.size ≤ 1048576) : ∀ (d i : Nat) (acc : List UInt8), i + d = s.size → acc.length = i →
    Ev (fun k => PFnExactTurnedRow.spec_TurnedRow.l0 k s (bs acc) (i : Int)) (bs (acc ++ (s.data.toList.drop i).map otherB), true) := by
  have hz := sz s
  intro d
  induction d with
  | zero =>
    intro i acc hi ha
    refine Ev.step (f := fun _ => some (bs acc, true)) (fun k => ?_) ?_
    · simp only [PFnExactTurnedRow.spec_TurnedRow.l0]
      rw [if_neg (by omega)]
    · rw [List.drop_eq_nil_of_le (by omega), List.map_nil, List.append_nil]
      exact Ev.now _
  | succ d ih =>
    intro i acc hi ha
    have hlt : i < s.data.toList.length := by omega
    have hr := ih (i + 1) (acc ++ [otherB s.data.toList[i]]) (by omega) (by simp; omega)
    rw [List.append_assoc] at hr
    rw [List.drop_eq_getElem_cons hlt, List.map_cons]
    have hsz : (bs acc).size + 1 ≤ 9223372036854775807 := by
      have : (bs acc).size = acc.length := rfl
      omega
    have ew : wrap64 ((i : Int) + 1) = ((i + 1 : Nat) : Int) := by unfold wrap64; omega
    refine Ev.step (f := fun k => PFnExactTurnedRow.spec_TurnedRow.l0 k s (bs (acc ++ [otherB s.data.toList[i]])) ((i + 1 : Nat) : Int)) (fun k => ?_) hr
    simp only [PFnExactTurnedRow.spec_TurnedRow.l0, PFnExactTurnedRow.spec_rwOther.f]
    rw [if_pos (by omega), if_pos (by omega), ew]
    by_cases c : s.data.toList[i] = 60
    · rw [if_pos ((RGood.bt_60 s i hlt).2 c), Option.bind_some, if_pos (show (bs acc).size + (⟨#[62]⟩ : ByteArray).size ≤ 9223372036854775807 from hsz), bs_snoc, otherB, if_pos c]
    · rw [if_neg (fun e => c ((RGood.bt_60 s i hlt).1 e)), Option.bind_some, if_pos (show (bs acc).size + (⟨#[60]⟩ : ByteArray).size ≤ 9223372036854775807 from hsz), bs_snoc, otherB, if_neg c]
theorem spec_yes (l : List UInt8) (h : rowB (bs l) = true) (w : World) :
    Calls Tryd.prog 20 #[.string (bs l)] w fun e w' => e = .returned (.tuple #[.string (bs (l.map otherB)), .bool true]) ∧ Below w.heap.size w w' := by
  have h60 := rowB_len h
  have h1 := turned_loop (bs l) (by omega) (bs l).size 0 [] (Nat.zero_add _) rfl
  rw [show (bs l).data.toList = l from rfl, List.drop_zero, List.nil_append] at h1
  have h2 : Ev (fun k => PFnExactTurnedRow.spec_TurnedRow.f k (bs l)) (bs (l.map otherB), true) := by
    refine Ev.bind (RGood.good_ev (bs l)) ?_
    simp only [h, if_true]
    exact h1
  obtain ⟨k, hk⟩ := h2.rounds
  exact (PFnExactTurnedRow.spec_TurnedRow.calls k _ _ _ w hk).mono fun e W' h => ⟨h.1, h.2.below⟩
theorem spec_no (s : ByteArray) (h : rowB s = false) (w : World) :
    Calls Tryd.prog 20 #[.string s] w fun e w' => e = .returned (.tuple #[.string ⟨#[]⟩, .bool false]) ∧ Below w.heap.size w w' := by
  have h2 : Ev (fun k => PFnExactTurnedRow.spec_TurnedRow.f k s) ((⟨#[]⟩ : ByteArray), false) := by
    refine Ev.bind (RGood.good_ev s) ?_
    simp only [h]
    exact Ev.now _
  obtain ⟨k, hk⟩ := h2.rounds
  exact (PFnExactTurnedRow.spec_TurnedRow.calls k _ _ _ w hk).mono fun e W' h => ⟨h.1, h.2.below⟩
set_option maxHeartbeats 4000000 in
set_option maxRecDepth 100000 in
theorem impl_no (s : ByteArray) (h : rowB s = false) (w : World) :
    Calls Tryd.prog 21 #[.string s] w fun e w' => e = .returned (.tuple #[.string ⟨#[]⟩, .bool false]) ∧ Below w.heap.size w w' := by
  have HI := Aside0.mk (fun W => RImpl.isRow_no s h W)
  clear h
  have HB := Aside0.mk (Below.refl w.heap.size w)
  go_enter Tryd.func21, Tryd.ntmps21
  go_wp2_with (go_at_call 25; refine (HI.out _).mono ?_; rintro e w3 ⟨rfl, hb⟩; have HBn := Aside0.mk (below_step (by repeat (first | (with_reducible first | exact HB.out | apply below_alloc | apply pw_below_drewN | apply below_drew1) | exact HB.out)) hb); clear hb HB; have HB := HBn; clear HBn)
  go_ret2
  exact ⟨rfl, (by repeat (first | (with_reducible first | exact HB.out | apply below_alloc | apply pw_below_drewN | apply below_drew1) | exact HB.out))⟩
set_option maxHeartbeats 4000000 in
set_option maxRecDepth 100000 in
theorem impl_yes (l : List UInt8) (h : rowB (bs l) = true) (w : World) (hML : ML w) :
    Calls Tryd.prog 21 #[.string (bs l)] w fun e w' => e = .returned (.tuple #[.string (bs (l.map otherB)), .bool true]) ∧ Below w.heap.size w w' := by
  have h60 := rowB_len h
  have hz : (bs l).size = l.length := rfl
  have HI := Aside0.mk (fun W => RImpl.isRow_yes l h W)
  have HT := Aside0.mk (fun W (hb : Below w.heap.size w W) => RImpl.turned_calls l (by omega) (rowB_all h) W (hML.of_below hb))
  clear h60 h hz hML
  have HB := Aside0.mk (Below.refl w.heap.size w)
  generalize bs (l.map otherB) = r at *
  generalize bs l = x at *
  go_enter Tryd.func21, Tryd.ntmps21
  go_wp2_with (first | (go_at_call 25; refine (HI.out _).mono ?_; rintro e w3 ⟨rfl, hb⟩; have HBn := Aside0.mk (below_step (by repeat (first | (with_reducible first | exact HB.out | apply below_alloc | apply pw_below_drewN | apply below_drew1) | exact HB.out)) hb); clear hb HB; have HB := HBn; clear HBn) | (go_at_call 30; refine (HT.out _ (by repeat (first | (with_reducible first | exact HB.out | apply below_alloc | apply pw_below_drewN | apply below_drew1) | exact HB.out))).mono ?_; rintro e w4 ⟨rfl, hb⟩; have HBn := Aside0.mk (below_step (by repeat (first | (with_reducible first | exact HB.out | apply below_alloc | apply pw_below_drewN | apply below_drew1) | exact HB.out)) hb); clear hb HB; have HB := HBn; clear HBn))
  go_ret2
  exact ⟨rfl, (by repeat (first | (with_reducible first | exact HB.out | apply below_alloc | apply pw_below_drewN | apply below_drew1) | exact HB.out))⟩
end Go.Proofs.YtfkbacdaoeecdacDoor.RTurn
