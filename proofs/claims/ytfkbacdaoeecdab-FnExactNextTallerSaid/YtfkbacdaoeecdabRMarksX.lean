/- A list of numbers that is marked, and which blocks stay: a contract over the printed walk of laws.markIntS. -/
import Derived.Test.YtfkbacdaoeecdabRMarks
namespace Go.Proofs.Ytfkbacdaoeecdab.RMarksX
open Go.RowKit Go.Proofs.YtfkbacdaoeecdabW.PrintWords Go.Proofs.YtfkbacdaoeecdabW.PrintLast Go.Proofs.YtfkbacdaoeecdabW.PrintMore Go.Proofs.Ytfkbacdaoeecdab.PFnExactMirrorHeights Go.Proofs.Ytfkbacdaoeecdab.RMarks
theorem markK (v : Value) (l : List Int) (hl : l.length ≤ 1048576) (P0 : Nat → Prop) (w0 w : World) (hB : Below w0.heap.size w0 w) (ho : Kd.R (Kd.int .i64) 3 w w0.heap.size P0 v l) :
    Calls Try.prog 13 #[v, .int .i64 1] w fun e w' => e = .returned (.int .i64 ((l.length + 1 : Nat) : Int)) ∧ Kd.R (Kd.int .i64) 3 w' w0.heap.size (fun k => some k = v.ownBlock) v (upto 0 l.length) ∧ Below w0.heap.size w0 w' ∧ Kept w w' P0 := by
  obtain ⟨k, hk⟩ := (mark_ev l hl).rounds
  exact (laws_markIntS.calls k P0 v l 1 _ _ w0 w hB ho hk).mono fun e w' ⟨h1, h2, h3, h4⟩ => ⟨h1, Kd.R_tight rfl h2, h3, h4⟩
end Go.Proofs.Ytfkbacdaoeecdab.RMarksX
