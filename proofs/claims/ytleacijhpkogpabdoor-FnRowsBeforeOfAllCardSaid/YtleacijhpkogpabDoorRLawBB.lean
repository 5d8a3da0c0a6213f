/- The law on rows before (FnRowsBeforeOfAll): its walk, joined with what the functions that it calls tell. -/
import Derived.Test.YtleacijhpkogpabDoorRBigB
import Derived.Test.YtleacijhpkogpabDoorRHas
import Derived.Test.YtleacijhpkogpabDoorRTops
namespace Go.Proofs.YtleacijhpkogpabDoor.RLaw
open Go.RowKit Go.Proofs.YtleacijhpkogpabDoorW.PrintWords Go.Proofs.YtleacijhpkogpabDoorW.PrintLast Go.Proofs.YtleacijhpkogpabDoorW.PrintMore Go.Proofs.YtleacijhpkogpabDoor.RPlain
set_option linter.unusedVariables false
set_option linter.unusedSimpArgs false

theorem mx_le (T : Nat → Nat) (B : Nat) : ∀ V, (∀ v, v < V → T v ≤ B) → mxT T V ≤ B
  | 0, _ => Nat.zero_le _
  | V + 1, h => by
    have h1 := mx_le T B V (fun v hv => h v (by omega))
    have h2 := h V (by omega)
    rw [mxT]; omega
theorem sC_le (T : Nat → Nat) (V : Nat) : ∀ t, sC T V t ≤ t * V
  | 0 => by simp [sC]
  | t + 1 => by
    have h1 := sC_le T V t
    have h2 := cN_le T t V
    rw [sC, Nat.add_mul]; omega
theorem sW_le (T : Nat → Nat) (V : Nat) : ∀ t, sW T V t ≤ t * (t * V)
  | 0 => by simp [sW]
  | t + 1 => by
    have h1 := sW_le T V t
    have h2 := Nat.mul_le_mul (Nat.le_refl t) (cN_le T t V)
    rw [sW]
    rw [Nat.succ_mul t V, Nat.add_mul t 1 (t * V + V), Nat.mul_add t (t * V) V, Nat.one_mul]
    omega
theorem rows_facts (row : ByteArray) (w : World) (hML : ML w) : ∃ (b1 hb1 : Bool) (g : List ByteArray), g.length ≤ 1048576 ∧ (∀ W, Below w.heap.size w W → Calls Tryd.prog 17 #[.string row] W fun e w' => ∃ v, e = .returned (.tuple #[v, .bool b1]) ∧ Kd.R Kd.string 9 w' W.heap.size (fun _ => True) v g ∧ Below W.heap.size W w') ∧ (∀ W, Below w.heap.size w W → Calls Tryd.prog 18 #[.string row] W fun e w' => ∃ v, e = .returned (.tuple #[v, .bool b1]) ∧ Kd.R Kd.string 9 w' W.heap.size (fun _ => True) v g ∧ Below W.heap.size W w') ∧
    (∀ W, Below w.heap.size w W → Calls Tryd.prog 19 #[.string row] W fun e w' => e = .returned (.tuple #[.bool hb1, .bool b1]) ∧ Below W.heap.size W w') ∧ (∀ W, Below w.heap.size w W → Calls Tryd.prog 20 #[.string row] W fun e w' => e = .returned (.tuple #[.bool hb1, .bool b1]) ∧ Below W.heap.size W w') ∧ (b1 = true → hb1 = decide (0 < g.length) ∧ ∃ st : Bool, (∀ W, Below w.heap.size w W → Calls Tryd.prog 22 #[.string row] W fun e w' => e = .returned (.tuple #[.bool st, .bool true]) ∧ Below W.heap.size W w') ∧ (st = true → row ∈ g) ∧
      ∀ i : Nat, i < g.length → (∀ W, Below w.heap.size w W → Calls Tryd.prog 24 #[.string (rdOf ByteArray.empty g (i : Int))] W fun e w' => e = .returned (.tuple #[.string row, .bool true]) ∧ Below W.heap.size W w') ∧ (0 < i → Go.Op.bytesLess (rdOf ByteArray.empty g (((i - 1 : Nat)) : Int)).toList (rdOf ByteArray.empty g (i : Int)).toList = true)) := by
  by_cases h : rowB row = true ∧ row.size ≤ 12
  · obtain ⟨l, rfl⟩ : ∃ l, row = bs l := ⟨row.data.toList, rfl⟩
    obtain ⟨hr, h12⟩ := h
    have hA := al_row hr
    have h60 := rowB_len hr
    have hz : (bs l).size = l.length := rfl
    have hP := pow_12 l.length (by omega)
    have hbl := befL_len l (2 ^ l.length)
    refine ⟨true, _, befL l (2 ^ l.length), by omega, fun W hb => RBef.impl_yes l hr h12 W (hML.of_below hb), fun W _ => RBef.spec_yes l hr h12 W, fun W hb => RHas.impl_yes l hr h12 W (hML.of_below hb), fun W _ => RHas.spec_yes l hr h12 W, fun _ => ⟨by simp, !hasB l, fun W hb => RTops.impl_IsAtRest_yes l hr W (hML.of_below hb), fun hs => ?_, fun i hi => ⟨fun W hb => ?_, fun hp => ?_⟩⟩⟩
    · have hs2 : hasB l = false := by simpa using hs
      exact bef_self l hA hs2
    · have hm : (befL l (2 ^ l.length))[i] ∈ befL l (2 ^ l.length) := List.getElem_mem hi
      rw [RLawH.rdOf_nat _ i hi]
      obtain ⟨v, hv, e1, e2⟩ := bef_mem l _ _ hm
      rw [e1]
      have := RTops.impl_TickRow_yes (mkL l.length v) (row_al (al_mk _ _) (by rw [mkL_len]; omega) (by rw [mkL_len]; omega)) W (hML.of_below hb)
      rw [e2] at this
      exact this
    · have hlt := bef_lt l (2 ^ l.length) (Nat.le_refl _)
      rw [RLawH.rdOf_nat _ i hi, RLawH.rdOf_nat _ (i - 1) (by omega)]
      exact List.pairwise_iff_getElem.1 hlt (i - 1) i (by omega) hi (by omega)
  · exact ⟨false, false, [], by simp, fun W _ => RBef.impl_no row h W, fun W _ => RBef.spec_no row h W, fun W _ => RHas.impl_no row h W, fun W _ => RHas.spec_no row h W, fun e => by cases e⟩
theorem counts_facts (n : Int) (w : World) (hML : ML w) : ∃ (most sum : Int) (first : ByteArray) (b2 : Bool), (∀ W, Below w.heap.size w W → Calls Tryd.prog 25 #[.int .i64 n] W fun e w' => e = .returned (.tuple #[.int .i64 most, .bool b2]) ∧ Below W.heap.size W w') ∧ (∀ W, Below w.heap.size w W → Calls Tryd.prog 26 #[.int .i64 n] W fun e w' => e = .returned (.tuple #[.int .i64 most, .bool b2]) ∧ Below W.heap.size W w') ∧ (∀ W, Below w.heap.size w W → Calls Tryd.prog 27 #[.int .i64 n] W fun e w' => e = .returned (.tuple #[.string first, .bool b2]) ∧ Below W.heap.size W w') ∧ (∀ W, Below w.heap.size w W → Calls Tryd.prog 28 #[.int .i64 n] W fun e w' => e = .returned (.tuple #[.string first, .bool b2]) ∧ Below W.heap.size W w') ∧ (∀ W, Below w.heap.size w W → Calls Tryd.prog 29 #[.int .i64 n] W fun e w' => e = .returned (.tuple #[.int .i64 sum, .bool b2]) ∧ Below W.heap.size W w') ∧ (∀ W, Below w.heap.size w W → Calls Tryd.prog 30 #[.int .i64 n] W fun e w' => e = .returned (.tuple #[.int .i64 sum, .bool b2]) ∧ Below W.heap.size W w') ∧ (b2 = true → ∃ (N : Nat) (c : Nat → Nat) (C W : Nat → Nat), n = (N : Int) ∧ 1 ≤ N ∧ N ≤ 12 ∧ (∀ W, Below w.heap.size w W → Calls Tryd.prog 35 #[.string first] W fun e w' => e = .returned (.tuple #[.int .i64 most, .bool true]) ∧ Below W.heap.size W w') ∧
      (∀ t : Nat, t ≤ N → ∀ W, Below w.heap.size w W → Calls Tryd.prog 31 #[.int .i64 (N : Int), .int .i64 (t : Int)] W fun e w' => e = .returned (.tuple #[.int .i64 (c t : Int), .bool true]) ∧ Below W.heap.size W w') ∧
      (∀ t : Nat, t ≤ N → (most < (t : Int) → c t = 0) ∧ ((t : Int) = most → 1 ≤ c t) ∧ c t ≤ 4096) ∧ c 0 = N + 1 ∧ first.size = N ∧ most ≤ (N : Int) ∧
      C 0 = 0 ∧ (∀ t, C (t + 1) = C t + c t) ∧ W 0 = 0 ∧ (∀ t, W (t + 1) = W t + t * c t) ∧ C (N + 1) = 2 ^ N ∧ (W (N + 1) : Int) = sum ∧ ∀ t, t ≤ N + 1 → C t ≤ 100000000 ∧ W t ≤ 100000000) := by
  by_cases h : 1 ≤ n ∧ n ≤ 12
  · obtain ⟨N, rfl⟩ := Int.eq_ofNat_of_zero_le (show 0 ≤ n by omega)
    have hN : 1 ≤ N ∧ N ≤ 12 := by omega
    have hP := pow_12 N hN.2
    obtain ⟨f, hf⟩ := first_mx (tks N) (2 ^ N) _ (cN_mx (tks N) (2 ^ N) (Nat.pow_pos (by decide)))
    have hml : mxT (tks N) (2 ^ N) ≤ N := mx_le _ _ _ (fun v _ => Nat.le_trans (tks_n N v) (Nat.sub_le _ _))
    refine ⟨(mxT (tks N) (2 ^ N) : Int), (sumT (tks N) (2 ^ N) : Int), bs (mkL N f), true, fun W hb => RImpl.long_yes N hN W (hML.of_below hb), fun W _ => RSpec.long_yes N hN W, fun W hb => RImpl.first_yes N f hN hf W (hML.of_below hb), fun W _ => RSpec.first_yes N f hN hf W,
      fun W hb => RImpl.sum_yes N hN W (hML.of_below hb), fun W _ => RSpec.sum_yes N hN W, fun _ => ⟨N, cN (tks N) (2 ^ N), sC (tks N) (2 ^ N), sW (tks N) (2 ^ N), rfl, hN.1, hN.2, fun W hb => ?_, fun t ht W hb => RImpl.count_yes N t hN (by omega) W (hML.of_below hb), fun t ht => ⟨fun hm => cN_zero _ _ _ (by omega), fun hm => ?_, Nat.le_trans (cN_le _ _ _) hP⟩, ?_, ?_, by omega, rfl, fun t => rfl, rfl, fun t => rfl, ?_, ?_, fun t ht => ⟨?_, ?_⟩⟩⟩
    · have := RTops.impl_TicksToRest_yes (mkL N f) (row_al (al_mk _ _) (by rw [mkL_len]; omega) (by rw [mkL_len]; omega)) W (hML.of_below hb)
      rw [show (histL (mkL N f)).2.length = mxT (tks N) (2 ^ N) from hf.2.1] at this
      exact this
    · have e : t = mxT (tks N) (2 ^ N) := by omega
      rw [e]
      exact cN_mx (tks N) (2 ^ N) (Nat.pow_pos (by decide))
    · rw [cN_rest, rc_all]
    · rw [bs_size, mkL_len]
    · exact sC_all _ _ _ (fun v _ => by have := tks_n N v; omega)
    · rw [sW_all _ _ _ (fun v _ => by have := tks_n N v; omega)]
    · have h1 := sC_le (tks N) (2 ^ N) t
      have h2 := Nat.mul_le_mul (show t ≤ 13 by omega) hP
      omega
    · have h1 := sW_le (tks N) (2 ^ N) t
      have h2 := Nat.mul_le_mul (show t ≤ 13 by omega) (Nat.mul_le_mul (show t ≤ 13 by omega) hP)
      omega
  · exact ⟨0, 0, ⟨#[]⟩, false, fun W _ => RImpl.long_no n h W, fun W _ => RSpec.long_no n h W, fun W _ => RImpl.first_no n h W, fun W _ => RSpec.first_no n h W, fun W _ => RImpl.sum_no n h W, fun W _ => RSpec.sum_no n h W, fun e => by cases e⟩
theorem one_facts (m ticks : Int) (w : World) (hML : ML w) : ∃ (x5 : Int) (b5 : Bool), (∀ W, Below w.heap.size w W → Calls Tryd.prog 31 #[.int .i64 m, .int .i64 ticks] W fun e w' => e = .returned (.tuple #[.int .i64 x5, .bool b5]) ∧ Below W.heap.size W w') ∧ (∀ W, Below w.heap.size w W → Calls Tryd.prog 32 #[.int .i64 m, .int .i64 ticks] W fun e w' => e = .returned (.tuple #[.int .i64 x5, .bool b5]) ∧ Below W.heap.size W w') := by
  by_cases h : (1 ≤ m ∧ m ≤ 12) ∧ (0 ≤ ticks ∧ ticks ≤ 1000)
  · obtain ⟨N, rfl⟩ := Int.eq_ofNat_of_zero_le (show 0 ≤ m by omega)
    obtain ⟨t, rfl⟩ := Int.eq_ofNat_of_zero_le (show 0 ≤ ticks by omega)
    exact ⟨_, _, fun W hb => RImpl.count_yes N t (by omega) (by omega) W (hML.of_below hb), fun W _ => RSpec.count_yes N t (by omega) (by omega) W⟩
  · exact ⟨_, _, fun W _ => RImpl.count_no m ticks h W, fun W _ => RSpec.count_no m ticks h W⟩
set_option maxHeartbeats 8000000 in
set_option maxRecDepth 100000 in
theorem RowsBefore_all_long (s : ByteArray) (n m ticks k : Int) (w : World) (hs : 1048576 < s.size) (ws : s.size ≤ 140737488351232) :
    Calls Tryd.prog 6 #[.string s, .int .i64 n, .int .i64 m, .int .i64 ticks, .int .i64 k] w fun e w' => e = .returned (.bool true) ∧ Below w.heap.size w w' := by
  have HB := Aside0.mk (Below.refl w.heap.size w)
  go_enter Tryd.func6, Tryd.ntmps6
  go_wp2
  go_ret
  exact ⟨rfl, (by repeat (first | (with_reducible first | exact HB.out | apply below_alloc | apply pw_below_drewN | apply below_drew1) | exact HB.out))⟩
theorem RowsBeforeOfAll_walk (s : ByteArray) (n m ticks k : Int) (w : World) (ws : s.size ≤ 140737488351232) {p0 p1 p2 p3 : Prop} (_ : p0) (_ : p1) (_ : p2) (_ : p3) (hML : ML w) :
    Calls Tryd.prog 6 #[.string s, .int .i64 n, .int .i64 m, .int .i64 ticks, .int .i64 k] w fun e w' => e = .returned (.bool true) ∧ Below w.heap.size w w' := by
  by_cases hs : s.size ≤ 1048576
  · obtain ⟨b1, hb1, g, r1, r2, r3, r4, r5, r6⟩ := rows_facts s w hML
    obtain ⟨most, sum, first, b2, c1, c2, c3, c4, c5, c6, c7⟩ := counts_facts n w hML
    obtain ⟨x5, b5, d1, d2⟩ := one_facts m ticks w hML
    exact RBig.walk s first n m ticks k most sum x5 (RLawH.rst k).1 b1 b2 b5 (RLawH.rst k).2 hb1 g w hs r1 r2 r3 r4 r5 r6 c1 c2 c3 c4 c5 c6 d1 d2 (fun W _ => RLawH.impl_rst k W) (fun W _ => RLawH.spec_rst k W) (fun h => by unfold RLawH.rst at h ⊢; split at h <;> simp_all) c7
  · exact RowsBefore_all_long s n m ticks k w (by omega) ws
end Go.Proofs.YtleacijhpkogpabDoor.RLaw
