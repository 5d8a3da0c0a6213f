/- How a row comes to rest, as the reference tells it: the walk of spec.rwRest. -/
import Derived.Test.YtfkbacdaoeecdadDoorRTick
namespace Go.Proofs.YtfkbacdaoeecdadDoor.RSpec
open Go.RowKit Go.Proofs.YtfkbacdaoeecdadDoorW.PrintWords Go.Proofs.YtfkbacdaoeecdadDoorW.PrintLast Go.Proofs.YtfkbacdaoeecdadDoorW.PrintMore Go.Proofs.YtfkbacdaoeecdadDoor.RPlain
set_option linter.unusedVariables false
set_option linter.unusedSimpArgs false
set_option maxHeartbeats 4000000 in
set_option maxRecDepth 100000 in
theorem rest_calls (l : List UInt8) (hl : l.length ≤ 1000) (w : World) :
    Calls Tryd.prog 23 #[.string (bs l)] w fun e w' => e = .returned (.tuple #[.string (bs (histL l).1), .int .i64 ((histL l).2.length : Int)]) ∧ Below w.heap.size w w' := by
  have HB := Aside0.mk (Below.refl w.heap.size w)
  have HL := Aside0.mk hl
  have HN := Aside0.mk (hist_bound l hl)
  clear hl
  go_enter Tryd.func23, Tryd.ntmps23
  go_wp2
  go_loopg [0, 4] (invB l) (fun kq v0 v4 w' => ∃ (l1 : List UInt8) (n : Nat), v0 = .string (bs l1) ∧ v4 = .int .i64 (n : Int) ∧ Aside0 (invB l1 = kq) ∧ Aside0 (l1.length ≤ 1000) ∧ Aside0 ((histL l1).1 = (histL l).1) ∧ Aside0 (n + (histL l1).2.length = (histL l).2.length) ∧ Aside0 (Below w.heap.size w w'))
  case atStart => exact ⟨l, 0, rfl, rfl, ⟨rfl⟩, HL, ⟨rfl⟩, ⟨Nat.zero_add _⟩, ⟨(by repeat (first | (with_reducible first | exact HB.out | apply below_alloc | apply pw_below_drewN | apply below_drew1) | exact HB.out))⟩⟩
  case round =>
    clear HB HL
    obtain ⟨l1, n, rfl, rfl, HK, HL, H1, H2, HB⟩ := hrel
    have HP := Aside0.mk (fun W => pairs_calls (bs l1) (by have := HL.out; rw [bs_size]; omega) W)
    have HT := Aside0.mk (fun W => tick_calls (bs l1) (by have := HL.out; rw [bs_size]; omega) W)
    cases c : hasB l1 with
    | true =>
      have hps := prs_pos 0 l1 c
      have HI := Aside0.mk ((inv_tk l1).2 c)
      have HS := Aside0.mk (histL_step c)
      have HTL := Aside0.mk (tkB_len l1)
      have hn : n ≤ 1000000 := by have := H2.out; have := HN.out; omega
      clear c
      change Aside0 (∀ W : World, Calls Tryd.prog 17 #[.string (bs l1)] W fun e w' => ∃ v : Value, e = .returned v ∧ Kd.R (Kd.int .i64) 3 w' W.heap.size (fun _ => True) v (prs 0 l1) ∧ Below W.heap.size W w') at HP
      change Aside0 (∀ W : World, Calls Tryd.prog 18 #[.string (bs l1)] W fun e w' => e = .returned (.string (bs (tkB l1))) ∧ Below W.heap.size W w') at HT
      generalize prs 0 l1 = ps at HP hps
      generalize hb1 : bs l1 = b1 at HP HT ⊢
      have HB1 := Aside0.mk hb1
      clear hb1
      go_wp2_with (first
        | (go_at_call 17; refine (HP.out _).mono ?_; rintro e w3 ⟨v, rfl, ho, hb⟩; obtain ⟨A, cc, rfl, hlc, hC⟩ := Kd.R_reads ho; have HBn := Aside0.mk (below_step (by repeat (first | (with_reducible first | exact HB.out | apply below_alloc | apply pw_below_drewN | apply below_drew1) | exact HB.out)) hb); clear ho hb hC HB; have HB := HBn; clear HBn)
        | (go_at_call 18; refine (HT.out _).mono ?_; rintro e w4 ⟨rfl, hb⟩; have HBn := Aside0.mk (below_step (by repeat (first | (with_reducible first | exact HB.out | apply below_alloc | apply pw_below_drewN | apply below_drew1) | exact HB.out)) hb); clear hb HB; have HB := HBn; clear HBn))
      go_roundg (invB (tkB l1))
      case measure => have := HI.out; have := HK.out; omega
      case rel => exact ⟨tkB l1, n + 1, rfl, rfl, ⟨rfl⟩, ⟨by rw [HTL.out]; exact HL.out⟩, ⟨by have := H1.out; rw [HS.out] at this; exact this⟩, ⟨by have := H2.out; rw [HS.out, List.length_cons] at this; show n + 1 + (histL (tkB l1)).2.length = _; omega⟩, ⟨(by repeat (first | (with_reducible first | exact HB.out | apply below_alloc | apply pw_below_drewN | apply below_drew1) | exact HB.out))⟩⟩
    | false =>
      have hps := prs_none 0 l1 c
      have HS := Aside0.mk (histL_rest c)
      clear c HT
      change Aside0 (∀ W : World, Calls Tryd.prog 17 #[.string (bs l1)] W fun e w' => ∃ v : Value, e = .returned v ∧ Kd.R (Kd.int .i64) 3 w' W.heap.size (fun _ => True) v (prs 0 l1) ∧ Below W.heap.size W w') at HP
      rw [hps] at HP
      clear hps
      generalize hb1 : bs l1 = b1 at HP ⊢
      have HB1 := Aside0.mk hb1
      clear hb1
      go_wp2_with (go_at_call 17; refine (HP.out _).mono ?_; rintro e w3 ⟨v, rfl, ho, hb⟩; obtain ⟨A, cc, rfl, hlc, hC⟩ := Kd.R_reads ho; have HBn := Aside0.mk (below_step (by repeat (first | (with_reducible first | exact HB.out | apply below_alloc | apply pw_below_drewN | apply below_drew1) | exact HB.out)) hb); clear ho hb hC HB; have HB := HBn; clear HBn)
      go_ret2
      have h1 := H1.out
      have h2 := H2.out
      rw [HS.out] at h1 h2
      refine ⟨?_, (by repeat (first | (with_reducible first | exact HB.out | apply below_alloc | apply pw_below_drewN | apply below_drew1) | exact HB.out))⟩
      rw [← h1, ← h2, ← HB1.out]
      rfl
end Go.Proofs.YtfkbacdaoeecdadDoor.RSpec
