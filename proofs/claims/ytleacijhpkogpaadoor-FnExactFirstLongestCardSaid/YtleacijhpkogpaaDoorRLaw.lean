/- The laws on sums, counts and longest ticks: the walks of laws.FnExactSumOfTicks, FnExactLongestTicks, FnExactFirstLongest, FnExactCountByTicks: program and reference tell the same. -/
import Derived.Test.YtleacijhpkogpaaDoorRTop
import Derived.Test.YtleacijhpkogpaaDoorRITop
namespace Go.Proofs.YtleacijhpkogpaaDoor.RLaw
open Go.RowKit Go.Proofs.YtleacijhpkogpaaDoorW.PrintWords Go.Proofs.YtleacijhpkogpaaDoorW.PrintLast Go.Proofs.YtleacijhpkogpaaDoorW.PrintMore Go.Proofs.YtleacijhpkogpaaDoor.RPlain
set_option linter.unusedVariables false
set_option linter.unusedSimpArgs false

set_option maxHeartbeats 4000000 in
set_option maxRecDepth 100000 in
theorem SumOfTicks_same (a x : Int) (b : Bool) (w : World) (hS : ∀ W, Calls Tryd.prog 13 #[.int .i64 a] W fun e w' => e = .returned (.tuple #[.int .i64 x, .bool b]) ∧ Below W.heap.size W w')
    (hI : ∀ W, Below w.heap.size w W → Calls Tryd.prog 14 #[.int .i64 a] W fun e w' => e = .returned (.tuple #[.int .i64 x, .bool b]) ∧ Below W.heap.size W w') :
    Calls Tryd.prog 4 #[.int .i64 a] w fun e w' => e = .returned (.bool true) ∧ Below w.heap.size w w' := by
  have HB := Aside0.mk (Below.refl w.heap.size w)
  have HS := Aside0.mk hS
  have HI := Aside0.mk hI
  clear hS hI
  go_enter Tryd.func4, Tryd.ntmps4
  go_wp2_with (first | (go_at_call 13; refine (HS.out _).mono ?_; rintro e w3 ⟨rfl, hb⟩; have HBn := Aside0.mk (below_step (by repeat (first | (with_reducible first | exact HB.out | apply below_alloc | apply pw_below_drewN | apply below_drew1) | exact HB.out)) hb); clear hb HB; have HB := HBn; clear HBn) | (go_at_call 14; refine (HI.out _ (by repeat (first | (with_reducible first | exact HB.out | apply below_alloc | apply pw_below_drewN | apply below_drew1) | exact HB.out))).mono ?_; rintro e w4 ⟨rfl, hb⟩; have HBn := Aside0.mk (below_step (by repeat (first | (with_reducible first | exact HB.out | apply below_alloc | apply pw_below_drewN | apply below_drew1) | exact HB.out)) hb); clear hb HB; have HB := HBn; clear HBn))
  go_ret
  exact ⟨rfl, (by repeat (first | (with_reducible first | exact HB.out | apply below_alloc | apply pw_below_drewN | apply below_drew1) | exact HB.out))⟩
theorem SumOfTicks_walk (a : Int) (w : World) (_ : (Lit.int .i64 a).wf = true) (hML : ML w) :
    Calls Tryd.prog 4 #[.int .i64 a] w fun e w' => e = .returned (.bool true) ∧ Below w.heap.size w w' := by
  by_cases h : 1 ≤ a ∧ a ≤ 12
  · obtain ⟨n, rfl⟩ := Int.eq_ofNat_of_zero_le (show 0 ≤ a by omega)
    exact SumOfTicks_same _ _ _ w (fun W => RSpec.sum_yes n (by omega) W) (fun W hb => RImpl.sum_yes n (by omega) W (hML.of_below hb))
  · exact SumOfTicks_same _ _ _ w (fun W => RSpec.sum_no a h W) (fun W hb => RImpl.sum_no a h W)
set_option maxHeartbeats 4000000 in
set_option maxRecDepth 100000 in
theorem LongestTicks_same (a x : Int) (b : Bool) (w : World) (hS : ∀ W, Calls Tryd.prog 17 #[.int .i64 a] W fun e w' => e = .returned (.tuple #[.int .i64 x, .bool b]) ∧ Below W.heap.size W w')
    (hI : ∀ W, Below w.heap.size w W → Calls Tryd.prog 18 #[.int .i64 a] W fun e w' => e = .returned (.tuple #[.int .i64 x, .bool b]) ∧ Below W.heap.size W w') :
    Calls Tryd.prog 6 #[.int .i64 a] w fun e w' => e = .returned (.bool true) ∧ Below w.heap.size w w' := by
  have HB := Aside0.mk (Below.refl w.heap.size w)
  have HS := Aside0.mk hS
  have HI := Aside0.mk hI
  clear hS hI
  go_enter Tryd.func6, Tryd.ntmps6
  go_wp2_with (first | (go_at_call 17; refine (HS.out _).mono ?_; rintro e w3 ⟨rfl, hb⟩; have HBn := Aside0.mk (below_step (by repeat (first | (with_reducible first | exact HB.out | apply below_alloc | apply pw_below_drewN | apply below_drew1) | exact HB.out)) hb); clear hb HB; have HB := HBn; clear HBn) | (go_at_call 18; refine (HI.out _ (by repeat (first | (with_reducible first | exact HB.out | apply below_alloc | apply pw_below_drewN | apply below_drew1) | exact HB.out))).mono ?_; rintro e w4 ⟨rfl, hb⟩; have HBn := Aside0.mk (below_step (by repeat (first | (with_reducible first | exact HB.out | apply below_alloc | apply pw_below_drewN | apply below_drew1) | exact HB.out)) hb); clear hb HB; have HB := HBn; clear HBn))
  go_ret
  exact ⟨rfl, (by repeat (first | (with_reducible first | exact HB.out | apply below_alloc | apply pw_below_drewN | apply below_drew1) | exact HB.out))⟩
theorem LongestTicks_walk (a : Int) (w : World) (_ : (Lit.int .i64 a).wf = true) (hML : ML w) :
    Calls Tryd.prog 6 #[.int .i64 a] w fun e w' => e = .returned (.bool true) ∧ Below w.heap.size w w' := by
  by_cases h : 1 ≤ a ∧ a ≤ 12
  · obtain ⟨n, rfl⟩ := Int.eq_ofNat_of_zero_le (show 0 ≤ a by omega)
    exact LongestTicks_same _ _ _ w (fun W => RSpec.long_yes n (by omega) W) (fun W hb => RImpl.long_yes n (by omega) W (hML.of_below hb))
  · exact LongestTicks_same _ _ _ w (fun W => RSpec.long_no a h W) (fun W hb => RImpl.long_no a h W)
set_option maxHeartbeats 4000000 in
set_option maxRecDepth 100000 in
theorem FirstLongest_same (a : Int) (x : ByteArray) (b : Bool) (w : World) (hS : ∀ W, Calls Tryd.prog 19 #[.int .i64 a] W fun e w' => e = .returned (.tuple #[.string x, .bool b]) ∧ Below W.heap.size W w')
    (hI : ∀ W, Below w.heap.size w W → Calls Tryd.prog 20 #[.int .i64 a] W fun e w' => e = .returned (.tuple #[.string x, .bool b]) ∧ Below W.heap.size W w') :
    Calls Tryd.prog 7 #[.int .i64 a] w fun e w' => e = .returned (.bool true) ∧ Below w.heap.size w w' := by
  have HB := Aside0.mk (Below.refl w.heap.size w)
  have HS := Aside0.mk hS
  have HI := Aside0.mk hI
  clear hS hI
  go_enter Tryd.func7, Tryd.ntmps7
  go_wp2_with (first | (go_at_call 19; refine (HS.out _).mono ?_; rintro e w3 ⟨rfl, hb⟩; have HBn := Aside0.mk (below_step (by repeat (first | (with_reducible first | exact HB.out | apply below_alloc | apply pw_below_drewN | apply below_drew1) | exact HB.out)) hb); clear hb HB; have HB := HBn; clear HBn) | (go_at_call 20; refine (HI.out _ (by repeat (first | (with_reducible first | exact HB.out | apply below_alloc | apply pw_below_drewN | apply below_drew1) | exact HB.out))).mono ?_; rintro e w4 ⟨rfl, hb⟩; have HBn := Aside0.mk (below_step (by repeat (first | (with_reducible first | exact HB.out | apply below_alloc | apply pw_below_drewN | apply below_drew1) | exact HB.out)) hb); clear hb HB; have HB := HBn; clear HBn))
  go_ret
  exact ⟨rfl, (by repeat (first | (with_reducible first | exact HB.out | apply below_alloc | apply pw_below_drewN | apply below_drew1) | exact HB.out))⟩
theorem FirstLongest_walk (a : Int) (w : World) (_ : (Lit.int .i64 a).wf = true) (hML : ML w) :
    Calls Tryd.prog 7 #[.int .i64 a] w fun e w' => e = .returned (.bool true) ∧ Below w.heap.size w w' := by
  by_cases h : 1 ≤ a ∧ a ≤ 12
  · obtain ⟨n, rfl⟩ := Int.eq_ofNat_of_zero_le (show 0 ≤ a by omega)
    obtain ⟨f, hf⟩ := first_mx (tks n) (2 ^ n) _ (cN_mx (tks n) (2 ^ n) (Nat.pow_pos (by decide)))
    exact FirstLongest_same _ _ _ w (fun W => RSpec.first_yes n f (by omega) hf W) (fun W hb => RImpl.first_yes n f (by omega) hf W (hML.of_below hb))
  · exact FirstLongest_same _ _ _ w (fun W => RSpec.first_no a h W) (fun W hb => RImpl.first_no a h W)
set_option maxHeartbeats 4000000 in
set_option maxRecDepth 100000 in
theorem CountByTicks_same (a c x : Int) (b : Bool) (w : World) (hS : ∀ W, Calls Tryd.prog 15 #[.int .i64 a, .int .i64 c] W fun e w' => e = .returned (.tuple #[.int .i64 x, .bool b]) ∧ Below W.heap.size W w')
    (hI : ∀ W, Below w.heap.size w W → Calls Tryd.prog 16 #[.int .i64 a, .int .i64 c] W fun e w' => e = .returned (.tuple #[.int .i64 x, .bool b]) ∧ Below W.heap.size W w') :
    Calls Tryd.prog 5 #[.int .i64 a, .int .i64 c] w fun e w' => e = .returned (.bool true) ∧ Below w.heap.size w w' := by
  have HB := Aside0.mk (Below.refl w.heap.size w)
  have HS := Aside0.mk hS
  have HI := Aside0.mk hI
  clear hS hI
  go_enter Tryd.func5, Tryd.ntmps5
  go_wp2_with (first | (go_at_call 15; refine (HS.out _).mono ?_; rintro e w3 ⟨rfl, hb⟩; have HBn := Aside0.mk (below_step (by repeat (first | (with_reducible first | exact HB.out | apply below_alloc | apply pw_below_drewN | apply below_drew1) | exact HB.out)) hb); clear hb HB; have HB := HBn; clear HBn) | (go_at_call 16; refine (HI.out _ (by repeat (first | (with_reducible first | exact HB.out | apply below_alloc | apply pw_below_drewN | apply below_drew1) | exact HB.out))).mono ?_; rintro e w4 ⟨rfl, hb⟩; have HBn := Aside0.mk (below_step (by repeat (first | (with_reducible first | exact HB.out | apply below_alloc | apply pw_below_drewN | apply below_drew1) | exact HB.out)) hb); clear hb HB; have HB := HBn; clear HBn))
  go_ret
  exact ⟨rfl, (by repeat (first | (with_reducible first | exact HB.out | apply below_alloc | apply pw_below_drewN | apply below_drew1) | exact HB.out))⟩
theorem CountByTicks_walk (a b : Int) (w : World) (_ : (Lit.int .i64 a).wf = true) (_ : (Lit.int .i64 b).wf = true) (hML : ML w) :
    Calls Tryd.prog 5 #[.int .i64 a, .int .i64 b] w fun e w' => e = .returned (.bool true) ∧ Below w.heap.size w w' := by
  by_cases h : (1 ≤ a ∧ a ≤ 12) ∧ (0 ≤ b ∧ b ≤ 1000)
  · obtain ⟨n, rfl⟩ := Int.eq_ofNat_of_zero_le (show 0 ≤ a by omega)
    obtain ⟨t, rfl⟩ := Int.eq_ofNat_of_zero_le (show 0 ≤ b by omega)
    exact CountByTicks_same _ _ _ _ w (fun W => RSpec.count_yes n t (by omega) (by omega) W) (fun W hb => RImpl.count_yes n t (by omega) (by omega) W (hML.of_below hb))
  · exact CountByTicks_same _ _ _ _ w (fun W => RSpec.count_no a b h W) (fun W hb => RImpl.count_no a b h W)
end Go.Proofs.YtleacijhpkogpaaDoor.RLaw
