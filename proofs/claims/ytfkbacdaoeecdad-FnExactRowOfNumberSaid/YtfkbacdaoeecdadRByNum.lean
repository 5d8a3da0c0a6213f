/- The row of a number: the walks of impl.RowOfNumber, spec.RowOfNumber. -/
import Derived.Test.YtfkbacdaoeecdadRMk
import Derived.Test.YtfkbacdaoeecdadRRowOf
import Derived.Test.YtfkbacdaoeecdadPFnExactRowOfNumberx4
import Derived.Test.YtfkbacdaoeecdadPFnExactRowOfNumberx1
namespace Go.Proofs.Ytfkbacdaoeecdad.RByNum
open Go.RowKit Go.Proofs.YtfkbacdaoeecdadW.PrintWords Go.Proofs.YtfkbacdaoeecdadW.PrintLast Go.Proofs.YtfkbacdaoeecdadW.PrintMore Go.Shelf Go.Proofs.Ytfkbacdaoeecdad.RPlain
set_option linter.unusedVariables false
set_option linter.unusedSimpArgs false

theorem in_calls (a b c : Int) (w : World) : Calls Try.prog 8 #[.int .i64 a, .int .i64 b, .int .i64 c] w fun e w' => e = .returned (.bool (decide (b ≤ a ∧ a ≤ c))) ∧ Drawn0 w w' :=
  PFnExactRowOfNumber.impl_in.calls a b c _ w (by
    unfold PFnExactRowOfNumber.impl_in.f
    by_cases h : b ≤ a
    · rw [if_pos h]
      by_cases h2 : a ≤ c
      · rw [decide_eq_true h2, decide_eq_true ⟨h, h2⟩]
      · rw [decide_eq_false h2, decide_eq_false (fun z => h2 z.2)]
    · rw [if_neg h, decide_eq_false (fun z => h z.1)])
theorem l1in_calls (a b c : Int) (w : World) : Calls Try.prog 6 #[.int .i64 a, .int .i64 b, .int .i64 c] w fun e w' => e = .returned (.bool (decide (b ≤ a ∧ a ≤ c))) ∧ Drawn0 w w' :=
  PFnExactRowOfNumber.spec_l1In.calls a b c _ w (by
    unfold PFnExactRowOfNumber.spec_l1In.f
    by_cases h : a ≥ b
    · rw [if_pos h]
      by_cases h2 : a ≤ c
      · rw [decide_eq_true h2, decide_eq_true ⟨h, h2⟩]
      · rw [decide_eq_false h2, decide_eq_false (fun z => h2 z.2)]
    · rw [if_neg h, decide_eq_false (fun z => h z.1)])
theorem pow_60 (m : Nat) (h : m ≤ 60) : 2 ^ m ≤ 1152921504606846976 := Nat.le_trans (Nat.pow_le_pow_right (by decide) h) (by decide)
theorem wrap_pow (m : Nat) (h : m ≤ 60) : wrap64 (2 ^ m) = ((2 ^ m : Nat) : Int) := by
  have := pow_60 m h
  rw [show ((2 : Int) ^ m) = ((2 ^ m : Nat) : Int) by push_cast; rfl]
  generalize 2 ^ m = P at *
  unfold wrap64; omega
set_option maxHeartbeats 4000000 in
set_option maxRecDepth 100000 in
theorem impl_no (n v : Int) (h : ¬ (1 ≤ n ∧ n ≤ 60 ∧ 0 ≤ v ∧ v < ((2 ^ n.toNat : Nat) : Int))) (w : World) :
    Calls Try.prog 5 #[.int .i64 n, .int .i64 v] w fun e w' => e = .returned (.tuple #[.string ⟨#[]⟩, .bool false]) ∧ Below w.heap.size w w' := by
  have HB := Aside0.mk (Below.refl w.heap.size w)
  by_cases hn : 1 ≤ n ∧ n ≤ 60
  · obtain ⟨m, rfl⟩ := Int.eq_ofNat_of_zero_le (show 0 ≤ n by omega)
    have hp := pow_60 m (by omega)
    have hpw := wrap_pow m (by omega)
    rw [Int.toNat_natCast] at h
    generalize hP : 2 ^ m = P at *
    have HPP := Aside0.mk hP
    clear hP
    have hv : ¬ (0 ≤ v ∧ v ≤ (P : Int) - 1) := fun z => h ⟨hn.1, hn.2, z.1, by omega⟩
    have H1 := Aside0.mk (fun W => in_calls (m : Int) 1 60 W)
    rw [decide_eq_true hn] at H1
    have H2 := Aside0.mk (fun W => in_calls v 0 ((P : Int) - 1) W)
    rw [decide_eq_false hv] at H2
    obtain ⟨h1, h2⟩ := hn
    clear h hv
    go_enter Try.func5, Try.ntmps5
    go_wp2_with (first | (go_at_call 8; with_reducible refine (H1.out _).mono ?_; rintro e w' ⟨rfl, ⟨nd1, rfl⟩⟩) | (go_at_call 8; with_reducible refine (H2.out _).mono ?_; rintro e w' ⟨rfl, ⟨nd2, rfl⟩⟩))
    go_ret2
    exact ⟨rfl, (by repeat (first | (with_reducible first | exact HB.out | apply below_alloc | apply pw_below_drewN | apply below_drew1) | exact HB.out))⟩
  · have H1 := Aside0.mk (fun W => in_calls n 1 60 W)
    rw [decide_eq_false hn] at H1
    clear h hn
    go_enter Try.func5, Try.ntmps5
    go_wp2_with (go_at_call 8; with_reducible refine (H1.out _).mono ?_; rintro e w' ⟨rfl, ⟨nd1, rfl⟩⟩)
    go_ret2
    exact ⟨rfl, (by repeat (first | (with_reducible first | exact HB.out | apply below_alloc | apply pw_below_drewN | apply below_drew1) | exact HB.out))⟩
set_option maxHeartbeats 4000000 in
set_option maxRecDepth 100000 in
theorem impl_yes (m v : Nat) (hn : 1 ≤ m ∧ m ≤ 60) (hv : v < 2 ^ m) (w : World) :
    Calls Try.prog 5 #[.int .i64 (m : Int), .int .i64 (v : Int)] w fun e w' => e = .returned (.tuple #[.string (bs (mkL m v)), .bool true]) ∧ Below w.heap.size w w' := by
  have HB := Aside0.mk (Below.refl w.heap.size w)
  have hp := pow_60 m hn.2
  have hpw := wrap_pow m hn.2
  have HR := Aside0.mk (fun W => RImpl.rowOf_calls m v (by omega) (by omega) W)
  generalize hP : 2 ^ m = P at *
  have HPP := Aside0.mk hP
  clear hP
  have H1 := Aside0.mk (fun W => in_calls (m : Int) 1 60 W)
  rw [decide_eq_true (show (1 : Int) ≤ (m : Int) ∧ (m : Int) ≤ 60 by omega)] at H1
  have H2 := Aside0.mk (fun W => in_calls (v : Int) 0 ((P : Int) - 1) W)
  rw [decide_eq_true (show (0 : Int) ≤ (v : Int) ∧ (v : Int) ≤ (P : Int) - 1 by omega)] at H2
  obtain ⟨h1, h2⟩ := hn
  generalize bs (mkL m v) = r at *
  clear hv
  go_enter Try.func5, Try.ntmps5
  go_wp2_with (first | (go_at_call 8; with_reducible refine (H1.out _).mono ?_; rintro e w' ⟨rfl, ⟨nd1, rfl⟩⟩) | (go_at_call 8; with_reducible refine (H2.out _).mono ?_; rintro e w' ⟨rfl, ⟨nd2, rfl⟩⟩) | (go_at_call 9; with_reducible refine (HR.out _).mono ?_; rintro e w4 ⟨rfl, hb⟩; have HBn := Aside0.mk (below_step (by repeat (first | (with_reducible first | exact HB.out | apply below_alloc | apply pw_below_drewN | apply below_drew1) | exact HB.out)) hb); clear hb HB; have HB := HBn; clear HBn))
  go_ret2
  exact ⟨rfl, (by repeat (first | (with_reducible first | exact HB.out | apply below_alloc | apply pw_below_drewN | apply below_drew1) | exact HB.out))⟩
set_option maxHeartbeats 4000000 in
set_option maxRecDepth 100000 in
theorem spec_no (n v : Int) (h : ¬ (1 ≤ n ∧ n ≤ 60 ∧ 0 ≤ v ∧ v < ((2 ^ n.toNat : Nat) : Int))) (w : World) :
    Calls Try.prog 4 #[.int .i64 n, .int .i64 v] w fun e w' => e = .returned (.tuple #[.string ⟨#[]⟩, .bool false]) ∧ Below w.heap.size w w' := by
  have HB := Aside0.mk (Below.refl w.heap.size w)
  by_cases hn : 1 ≤ n ∧ n ≤ 60
  · obtain ⟨m, rfl⟩ := Int.eq_ofNat_of_zero_le (show 0 ≤ n by omega)
    have hp := pow_60 m (by omega)
    have hpw := wrap_pow m (by omega)
    rw [Int.toNat_natCast] at h
    generalize hP : 2 ^ m = P at *
    have HPP := Aside0.mk hP
    clear hP
    have hv : ¬ (0 ≤ v ∧ v ≤ (P : Int) - 1) := fun z => h ⟨hn.1, hn.2, z.1, by omega⟩
    have H1 := Aside0.mk (fun W => l1in_calls (m : Int) 1 60 W)
    rw [decide_eq_true hn] at H1
    have H2 := Aside0.mk (fun W => l1in_calls v 0 ((P : Int) - 1) W)
    rw [decide_eq_false hv] at H2
    obtain ⟨h1, h2⟩ := hn
    clear h hv
    go_enter Try.func4, Try.ntmps4
    go_wp2_with (first | (go_at_call 6; with_reducible refine (H1.out _).mono ?_; rintro e w' ⟨rfl, ⟨nd1, rfl⟩⟩) | (go_at_call 6; with_reducible refine (H2.out _).mono ?_; rintro e w' ⟨rfl, ⟨nd2, rfl⟩⟩))
    go_ret2
    exact ⟨rfl, (by repeat (first | (with_reducible first | exact HB.out | apply below_alloc | apply pw_below_drewN | apply below_drew1) | exact HB.out))⟩
  · have H1 := Aside0.mk (fun W => l1in_calls n 1 60 W)
    rw [decide_eq_false hn] at H1
    clear h hn
    go_enter Try.func4, Try.ntmps4
    go_wp2_with (go_at_call 6; with_reducible refine (H1.out _).mono ?_; rintro e w' ⟨rfl, ⟨nd1, rfl⟩⟩)
    go_ret2
    exact ⟨rfl, (by repeat (first | (with_reducible first | exact HB.out | apply below_alloc | apply pw_below_drewN | apply below_drew1) | exact HB.out))⟩
set_option maxHeartbeats 4000000 in
set_option maxRecDepth 100000 in
theorem spec_yes (m v : Nat) (hn : 1 ≤ m ∧ m ≤ 60) (hv : v < 2 ^ m) (w : World) :
    Calls Try.prog 4 #[.int .i64 (m : Int), .int .i64 (v : Int)] w fun e w' => e = .returned (.tuple #[.string (bs (mkL m v)), .bool true]) ∧ Below w.heap.size w w' := by
  have HB := Aside0.mk (Below.refl w.heap.size w)
  have hp := pow_60 m hn.2
  have hpw := wrap_pow m hn.2
  have HR := Aside0.mk (fun W => RSpec.make_calls m v (by omega) (by omega) W)
  generalize hP : 2 ^ m = P at *
  have HPP := Aside0.mk hP
  clear hP
  have H1 := Aside0.mk (fun W => l1in_calls (m : Int) 1 60 W)
  rw [decide_eq_true (show (1 : Int) ≤ (m : Int) ∧ (m : Int) ≤ 60 by omega)] at H1
  have H2 := Aside0.mk (fun W => l1in_calls (v : Int) 0 ((P : Int) - 1) W)
  rw [decide_eq_true (show (0 : Int) ≤ (v : Int) ∧ (v : Int) ≤ (P : Int) - 1 by omega)] at H2
  obtain ⟨h1, h2⟩ := hn
  generalize bs (mkL m v) = r at *
  clear hv
  go_enter Try.func4, Try.ntmps4
  go_wp2_with (first | (go_at_call 6; with_reducible refine (H1.out _).mono ?_; rintro e w' ⟨rfl, ⟨nd1, rfl⟩⟩) | (go_at_call 6; with_reducible refine (H2.out _).mono ?_; rintro e w' ⟨rfl, ⟨nd2, rfl⟩⟩) | (go_at_call 7; with_reducible refine (HR.out _).mono ?_; rintro e w' ⟨rfl, ⟨nd3, rfl⟩⟩))
  go_ret2
  exact ⟨rfl, (by repeat (first | (with_reducible first | exact HB.out | apply below_alloc | apply pw_below_drewN | apply below_drew1) | exact HB.out))⟩
end Go.Proofs.Ytfkbacdaoeecdad.RByNum
