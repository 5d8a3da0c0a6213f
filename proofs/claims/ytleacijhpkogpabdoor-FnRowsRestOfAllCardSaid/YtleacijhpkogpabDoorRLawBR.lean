/- The law on rest (FnRowsRestOfAll): its walk, joined with what the functions that it calls tell. -/
import Derived.Test.YtleacijhpkogpabDoorRBigR11
import Derived.Test.YtleacijhpkogpabDoorRTE
import Derived.Test.YtleacijhpkogpabDoorRTops
namespace Go.Proofs.YtleacijhpkogpabDoor.RLaw
open Go.RowKit Go.Proofs.YtleacijhpkogpabDoorW.PrintWords Go.Proofs.YtleacijhpkogpabDoorW.PrintLast Go.Proofs.YtleacijhpkogpabDoorW.PrintMore Go.Proofs.YtleacijhpkogpabDoor.RPlain Go.Proofs.YtleacijhpkogpabDoor.RRestP Go.Proofs.YtleacijhpkogpabDoor.RTurns
set_option linter.unusedVariables false
set_option linter.unusedSimpArgs false

theorem bel_drawn {w w' : World} (h : Drawn0 w w') : Below w.heap.size w w' := h.below
theorem bel {f : Nat} {args : Array Value} {w : World} {r : Ending} (h : Calls Tryd.prog f args w fun e w' => e = r ∧ Drawn0 w w') : Calls Tryd.prog f args w fun e w' => e = r ∧ Below w.heap.size w w' :=
  h.mono fun _ _ h => ⟨h.1, bel_drawn h.2⟩
theorem after_facts (s : ByteArray) (k : Int) (w : World) (hML : ML w) : ∃ (ra : ByteArray) (la : Bool), (∀ W, Below w.heap.size w W → Calls Tryd.prog 53 #[.string s, .int .i64 k] W fun e w' => e = .returned (.tuple #[.string ra, .bool la]) ∧ Below W.heap.size W w') ∧ (∀ W, Below w.heap.size w W → Calls Tryd.prog 54 #[.string s, .int .i64 k] W fun e w' => e = .returned (.tuple #[.string ra, .bool la]) ∧ Below W.heap.size W w') ∧
    (la = true → k ≤ 30 → ∃ (l : List UInt8) (kk : Nat), s = bs l ∧ k = (kk : Int) ∧ ra = bs (aftL l kk) ∧ (∀ j : Nat, j < kk → ∀ W, Below w.heap.size w W → Calls Tryd.prog 24 #[.string (bs (aftL l j))] W fun e w' => e = .returned (.tuple #[.string (bs (aftL l (j + 1))), .bool true]) ∧ Below W.heap.size W w')) := by
  by_cases h : rowB s = true ∧ 0 ≤ k ∧ k ≤ 1000000
  · obtain ⟨l, rfl⟩ : ∃ l, s = bs l := ⟨s.data.toList, rfl⟩
    obtain ⟨K, rfl⟩ := Int.eq_ofNat_of_zero_le h.2.1
    have hA := al_row h.1
    have h60 := rowB_len h.1
    rw [bs_size] at h60
    refine ⟨bs (aftL l K), true, fun W hb => RAfter.impl_yes l K h.1 (by omega) W (hML.of_below hb), fun W _ => RAfter.spec_yes l K h.1 (by omega) W, fun _ _ => ⟨l, K, rfl, rfl, rfl, fun j _ W hb => ?_⟩⟩
    have := RTops.impl_TickRow_yes (aftL l j) (row_al (aft_al j l hA) (by rw [aft_len]; omega) (by rw [aft_len]; omega)) W (hML.of_below hb)
    rw [← aft_succ] at this
    exact this
  · exact ⟨⟨#[]⟩, false, fun W _ => RAfter.impl_no s k h W, fun W _ => RAfter.spec_no s k h W, fun e => by cases e⟩
theorem made_facts (n v : Int) (w : World) : ∃ (mk : ByteArray) (gd : Bool), (∀ W, Below w.heap.size w W → Calls Tryd.prog 52 #[.int .i64 n, .int .i64 v] W fun e w' => e = .returned (.tuple #[.string mk, .bool gd]) ∧ Below W.heap.size W w') ∧ (∀ W, Below w.heap.size w W → Calls Tryd.prog 55 #[.int .i64 n, .int .i64 v] W fun e w' => e = .returned (.tuple #[.string mk, .bool gd]) ∧ Below W.heap.size W w') ∧
    (gd = true → n = (mk.size : Int) ∧ ∀ W, Below w.heap.size w W → Calls Tryd.prog 51 #[.string mk] W fun e w' => e = .returned (.tuple #[.int .i64 v, .bool true]) ∧ Below W.heap.size W w') := by
  by_cases h : 1 ≤ n ∧ n ≤ 60 ∧ 0 ≤ v ∧ v < ((2 ^ n.toNat : Nat) : Int)
  · obtain ⟨N, rfl⟩ := Int.eq_ofNat_of_zero_le (show 0 ≤ n by omega)
    obtain ⟨V, rfl⟩ := Int.eq_ofNat_of_zero_le h.2.2.1
    have hN : 1 ≤ N ∧ N ≤ 60 := by omega
    have hV : V < 2 ^ N := by have := h.2.2.2; rw [Int.toNat_natCast] at this; exact Int.ofNat_lt.1 this
    refine ⟨bs (mkL N V), true, fun W _ => RByNum.impl_yes N V hN hV W, fun W _ => RByNum.spec_yes N V hN hV W, fun _ => ⟨by rw [bs_size, mkL_len], fun W _ => ?_⟩⟩
    have := RNum.impl_yes (mkL N V) (row_al (al_mk _ _) (by rw [mkL_len]; omega) (by rw [mkL_len]; omega)) W
    rw [num_mk N V hV] at this
    exact this
  · exact ⟨⟨#[]⟩, false, fun W _ => RByNum.impl_no n v h W, fun W _ => RByNum.spec_no n v h W, fun e => by cases e⟩
theorem num_facts (t : ByteArray) (w : World) : ∃ (nm : Int) (nb : Bool), (∀ W, Below w.heap.size w W → Calls Tryd.prog 51 #[.string t] W fun e w' => e = .returned (.tuple #[.int .i64 nm, .bool nb]) ∧ Below W.heap.size W w') ∧ (∀ W, Below w.heap.size w W → Calls Tryd.prog 56 #[.string t] W fun e w' => e = .returned (.tuple #[.int .i64 nm, .bool nb]) ∧ Below W.heap.size W w') := by
  by_cases h : rowB t = true
  · obtain ⟨l, rfl⟩ : ∃ l, t = bs l := ⟨t.data.toList, rfl⟩
    exact ⟨_, _, fun W _ => RNum.impl_yes l h W, fun W _ => RNum.spec_yes l h W⟩
  · have h' : rowB t = false := by simpa using h
    exact ⟨_, _, fun W _ => RNum.impl_no t h' W, fun W _ => RNum.spec_no t h' W⟩
theorem eq_toList (a b : List UInt8) : ((bs a).toList == (bs b).toList) = decide (a = b) := by
  rw [Lib.toList_data, Lib.toList_data]
  show (a == b) = _
  by_cases h : a = b <;> simp [h]
theorem len_zero (l : List UInt8) : ((((prs 0 l).length : Int) == 0) = !hasB l) := by
  rw [← prs_has 0 l]
  by_cases h : ((prs 0 l).length : Int) = 0
  · rw [decide_eq_true h]; exact beq_iff_eq.mpr h
  · rw [decide_eq_false h]; exact beq_eq_false_iff_ne.mpr h
set_option maxHeartbeats 4000000 in
set_option maxRecDepth 100000 in
theorem RowsRestOfAll_walk (z s : ByteArray) (k n v : Int) (t : ByteArray) (w : World) (_wz : z.size ≤ 140737488351232) (_ws : s.size ≤ 140737488351232) {p2 p3 p4 : Prop} (_ : p2) (_ : p3) (_ : p4) (_wt : t.size ≤ 140737488351232) (hML : ML w) :
    Calls Tryd.prog 7 #[.string z, .string s, .int .i64 k, .int .i64 n, .int .i64 v, .string t] w fun e w' => e = .returned (.bool true) ∧ Below w.heap.size w w' := by
  obtain ⟨ra, la, D1, D2, TT⟩ := after_facts s k w hML
  obtain ⟨mk, gd, M1, M2, MM⟩ := made_facts n v w
  obtain ⟨nm, nb, N1, N2⟩ := num_facts t w
  by_cases h : rowB z = true
  · obtain ⟨l, rfl⟩ : ∃ l, z = bs l := ⟨z.data.toList, rfl⟩
    have hA := al_row h
    have h60 := rowB_len h
    rw [bs_size] at h60
    have hI := inv_60 l h60.2
    have hT := trn_is l hA h60.2
    have hE := each_is l hA h60.2
    have hEl : (eachL l (List.replicate l.length 0)).length = l.length := by rw [each_len]; simp
    have hPl := prs_len 0 l
    have hM : rowB (bs (mrL l)) = true := row_al mr_al (by rw [mr_len]; omega) (by rw [mr_len]; omega)
    have hK : rowB (bs (tkB l)) = true := row_al (al_tk l hA) (by rw [tkB_len]; omega) (by rw [tkB_len]; omega)
    have IT : ∀ W, Calls Tryd.prog 46 #[.string (bs l)] W fun e w' => e = .returned (.bool true) ∧ Below W.heap.size W w' := fun W => by have := RTops.impl_IsRow (bs l) W; rwa [h] at this
    have ST : ∀ W, Calls Tryd.prog 47 #[.string (bs l)] W fun e w' => e = .returned (.bool true) ∧ Below W.heap.size W w' := fun W => by have := RTops.spec_IsRow (bs l) W; rwa [h] at this
    refine RBigR.whole (bs l) s t (bs (histL l).1) (bs (tkB l)) (bs (mrL l)) (bs (l.map otherB)) ra mk (histL l).2.length (invB l) k n v nm true (!hasB l) la gd nb (eachL l (List.replicate l.length 0)) (prs 0 l) w (by omega) (by omega)
      (fun W hb => RTops.impl_TicksToRest_yes l h W (hML.of_below hb)) (fun W _ => RTops.spec_TicksToRest_yes l h W)
      (fun W hb => RTops.impl_RestOf_yes l h W (hML.of_below hb)) (fun W _ => RTops.spec_RestOf_yes l h W)
      (fun W hb => by rw [← hT]; exact RTurns.impl_yes l h W (hML.of_below hb)) (fun W _ => by rw [← hT]; exact RTurns.spec_yes l h W)
      (fun W hb => RTops.impl_TickRow_yes l h W (hML.of_below hb)) (fun W _ => RTops.spec_TickRow_yes l h W)
      (fun W hb => RTops.impl_IsAtRest_yes l h W (hML.of_below hb)) (fun W _ => RTops.spec_IsAtRest_yes l h W)
      (fun W hb => RMirror.impl_yes l h W (hML.of_below hb)) (fun W _ => bel (RMirror.spec_yes l h W))
      (fun W hb => RTurn.impl_yes l h W (hML.of_below hb)) (fun W _ => RTurn.spec_yes l h W)
      D1 D2 M1 M2 N1 N2 TT (fun _ => ?_) MM (fun W _ => IT W) (fun W _ => ST W)
      (fun W hb => RTE.impl_yes l h W (hML.of_below hb)) (fun W _ => RTE.spec_yes l h W) (fun W _ => RFP.impl_yes l h W) (fun W _ => RFP.spec_yes l h W)
    refine ⟨l, (histL l).2.length - 1, numL l, rfl, rfl, rfl, rfl, rfl, hA, h60.1, h60.2, ⟨ticks_le l hA, ticks_inv l, hI, ?_, rfl⟩, len_zero l, ?_, fun hs => ?_, rfl, ?_, ⟨hE.1, hE.2, by omega⟩, ⟨prs_lt l 0, by omega⟩, fun W hb => ?_, fun W hb => ?_, fun W hb => ?_, fun W _ => RNum.impl_yes l h W, fun W _ => ?_⟩
    · have := ticks_zero l
      cases hb : hasB l <;> simp [hb] at this ⊢ <;> exact this
    · rw [eq_toList]
      have := rest_same l
      cases hb : hasB l with
      | true => rw [hb] at this; simp; intro e; exact absurd (this.1 e.symm) (by decide)
      | false => rw [hb] at this; simp; exact (this.2 rfl).symm
    · have hb : hasB l = false := by simpa using hs
      rw [tk_same hb]
    · rw [goal_is l hA]
    · have := RTops.impl_TicksToRest_yes (mrL l) hM W (hML.of_below hb)
      rwa [ticks_mirror l hA] at this
    · have := RMirror.impl_yes (mrL l) hM W (hML.of_below hb)
      rwa [show RMirror.mirL (mrL l) = l from mr_mr hA] at this
    · have := RTops.impl_TicksToRest_yes (tkB l) hK W (hML.of_below hb)
      rwa [ticks_tk l] at this
    · have := RByNum.impl_yes l.length (numL l) h60 (num_lt _ l rfl) W
      rwa [mk_num _ l rfl hA] at this
  · have h' : rowB z = false := by simpa using h
    have IT : ∀ W, Calls Tryd.prog 46 #[.string z] W fun e w' => e = .returned (.bool false) ∧ Below W.heap.size W w' := fun W => by have := RTops.impl_IsRow z W; rwa [h'] at this
    have ST : ∀ W, Calls Tryd.prog 47 #[.string z] W fun e w' => e = .returned (.bool false) ∧ Below W.heap.size W w' := fun W => by have := RTops.spec_IsRow z W; rwa [h'] at this
    exact RBigR.whole z s t ⟨#[]⟩ ⟨#[]⟩ ⟨#[]⟩ ⟨#[]⟩ ra mk 0 0 k n v nm false false la gd nb [] [] w (by simp) (by simp)
      (fun W _ => RTops.impl_TicksToRest_no z h' W) (fun W _ => RTops.spec_TicksToRest_no z h' W)
      (fun W _ => RTops.impl_RestOf_no z h' W) (fun W _ => RTops.spec_RestOf_no z h' W)
      (fun W _ => RTurns.impl_no z h' W) (fun W _ => RTurns.spec_no z h' W)
      (fun W _ => RTops.impl_TickRow_no z h' W) (fun W _ => RTops.spec_TickRow_no z h' W)
      (fun W _ => RTops.impl_IsAtRest_no z h' W) (fun W _ => RTops.spec_IsAtRest_no z h' W)
      (fun W _ => RMirror.impl_no z h' W) (fun W _ => bel (RMirror.spec_no z h' W))
      (fun W _ => RTurn.impl_no z h' W) (fun W _ => RTurn.spec_no z h' W)
      D1 D2 M1 M2 N1 N2 TT (fun e => by cases e) MM (fun W _ => IT W) (fun W _ => ST W)
      (fun W _ => RTE.impl_no z h' W) (fun W _ => RTE.spec_no z h' W) (fun W _ => RFP.impl_no z h' W) (fun W _ => RFP.spec_no z h' W)
end Go.Proofs.YtleacijhpkogpabDoor.RLaw
