/- The law on rows of numbers: the walk of laws.FnExactRowOfNumber: program and reference tell the same. -/
import Derived.Test.YtfkbacdaoeecdadRByNum
namespace Go.Proofs.Ytfkbacdaoeecdad.RLaw
open Go.RowKit Go.Proofs.YtfkbacdaoeecdadW.PrintWords Go.Proofs.YtfkbacdaoeecdadW.PrintLast Go.Proofs.YtfkbacdaoeecdadW.PrintMore Go.Shelf Go.Proofs.Ytfkbacdaoeecdad.RPlain
set_option linter.unusedVariables false
set_option linter.unusedSimpArgs false

set_option maxHeartbeats 4000000 in
set_option maxRecDepth 100000 in
theorem RowOfNumber_same  (n : Int) (v : Int) (x : ByteArray) (b : Bool) (w : World)
    (hS : ∀ W, Calls Try.prog 4 #[.int .i64 n, .int .i64 v] W fun e w' => e = .returned (.tuple #[.string x, .bool b]) ∧ Below W.heap.size W w')
    (hI : ∀ W, Below w.heap.size w W → Calls Try.prog 5 #[.int .i64 n, .int .i64 v] W fun e w' => e = .returned (.tuple #[.string x, .bool b]) ∧ Below W.heap.size W w') :
    Calls Try.prog 3 #[.int .i64 n, .int .i64 v] w fun e w' => e = .returned (.bool true) ∧ Below w.heap.size w w' := by
  have HB := Aside0.mk (Below.refl w.heap.size w)
  have HS := Aside0.mk hS
  have HI := Aside0.mk hI
  clear hS hI
  go_enter Try.func3, Try.ntmps3
  go_wp2_with (first | (go_at_call 4; refine (HS.out _).mono ?_; rintro e w3 ⟨rfl, hb⟩; have HBn := Aside0.mk (below_step (by repeat (first | (with_reducible first | exact HB.out | apply below_alloc | apply pw_below_drewN | apply below_drew1) | exact HB.out)) hb); clear hb HB; have HB := HBn; clear HBn) | (go_at_call 5; refine (HI.out _ (by repeat (first | (with_reducible first | exact HB.out | apply below_alloc | apply pw_below_drewN | apply below_drew1) | exact HB.out))).mono ?_; rintro e w4 ⟨rfl, hb⟩; have HBn := Aside0.mk (below_step (by repeat (first | (with_reducible first | exact HB.out | apply below_alloc | apply pw_below_drewN | apply below_drew1) | exact HB.out)) hb); clear hb HB; have HB := HBn; clear HBn))
  go_ret
  exact ⟨rfl, (by repeat (first | (with_reducible first | exact HB.out | apply below_alloc | apply pw_below_drewN | apply below_drew1) | exact HB.out))⟩
theorem RowOfNumber_walk (n v : Int) (w : World) {p0 p1 : Prop} (_ : p0) (_ : p1) :
    Calls Try.prog 3 #[.int .i64 n, .int .i64 v] w fun e w' => e = .returned (.bool true) ∧ Below w.heap.size w w' := by
  by_cases h : 1 ≤ n ∧ n ≤ 60 ∧ 0 ≤ v ∧ v < ((2 ^ n.toNat : Nat) : Int)
  · obtain ⟨m, rfl⟩ := Int.eq_ofNat_of_zero_le (show 0 ≤ n by omega)
    obtain ⟨u, rfl⟩ := Int.eq_ofNat_of_zero_le h.2.2.1
    have hu : u < 2 ^ m := by have := h.2.2.2; rw [Int.toNat_natCast] at this; omega
    exact RowOfNumber_same _ _ _ _ w (fun W => RByNum.spec_yes m u (by omega) hu W) (fun W _ => RByNum.impl_yes m u (by omega) hu W)
  · exact RowOfNumber_same n v _ _ w (fun W => RByNum.spec_no n v h W) (fun W _ => RByNum.impl_no n v h W)
end Go.Proofs.Ytfkbacdaoeecdad.RLaw
