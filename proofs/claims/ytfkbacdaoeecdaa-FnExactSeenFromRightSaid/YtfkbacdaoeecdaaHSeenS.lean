/- Who is seen, as the reference tells it: contracts over the printed walks of spec.heSeen and spec.heRight. -/
import Derived.Test.YtfkbacdaoeecdaaHSeen
namespace Go.Proofs.Ytfkbacdaoeecdaa.HSeen
open Go.RowKit Go.Proofs.YtfkbacdaoeecdaaW.PrintWords Go.Proofs.YtfkbacdaoeecdaaW.PrintLast Go.Proofs.YtfkbacdaoeecdaaW.PrintMore Go.Proofs.Ytfkbacdaoeecdaa.PFnExactSeenFromRight Go.Proofs.Ytfkbacdaoeecdaa.HClone
theorem sseen_calls (A0 : Option Addr) (c0 : Nat) (l : List Int) (hl : l.length ≤ 1048576) (w : World) (h0 : Kd.C (Kd.int .i64) w A0 l.length l) (hc0 : l.length ≤ c0) :
    Calls Try.prog 31 #[.slice A0 l.length c0] w fun e w' => ∃ v : Value, e = .returned v ∧ Kd.R (Kd.int .i64) 3 w' w.heap.size (fun _ => True) v (seenR l 0 0) ∧ Below w.heap.size w w' := by
  obtain ⟨k, hk⟩ := (spec_seen_ev l hl).rounds
  exact spec_heSeen.calls k A0 c0 l _ w h0 hc0 hk
theorem sright_calls (A0 : Option Addr) (c0 : Nat) (l : List Int) (hl : l.length ≤ 1048576) (w : World) (h0 : Kd.C (Kd.int .i64) w A0 l.length l) (hc0 : l.length ≤ c0) :
    Calls Try.prog 33 #[.slice A0 l.length c0] w fun e w' => ∃ v : Value, e = .returned v ∧ Kd.R (Kd.int .i64) 3 w' w.heap.size (fun _ => True) v (rightL l) ∧ Below w.heap.size w w' := by
  obtain ⟨k, hk⟩ := (right_ev l hl).rounds
  exact spec_heRight.calls k A0 c0 l _ w h0 hc0 hk
end Go.Proofs.Ytfkbacdaoeecdaa.HSeen
