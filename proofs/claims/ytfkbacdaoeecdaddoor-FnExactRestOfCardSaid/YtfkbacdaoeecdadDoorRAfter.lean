/- The row behind so many ticks: the walks of impl.RowAfter, spec.RowAfter. -/
import Derived.Test.YtfkbacdaoeecdadDoorRTops
import Derived.Test.YtfkbacdaoeecdadDoorPFnExactHasBeforex9
import Derived.Test.YtfkbacdaoeecdadDoorPFnExactHasBeforex1
namespace Go.Proofs.YtfkbacdaoeecdadDoor.RAfter
open Go.RowKit Go.Proofs.YtfkbacdaoeecdadDoorW.PrintWords Go.Proofs.YtfkbacdaoeecdadDoorW.PrintLast Go.Proofs.YtfkbacdaoeecdadDoorW.PrintMore Go.Shelf Go.Proofs.YtfkbacdaoeecdadDoor.RPlain
set_option linter.unusedVariables false
set_option linter.unusedSimpArgs false

theorem in_calls (a b c : Int) (w : World) : Calls Tryd.prog 20 #[.int .i64 a, .int .i64 b, .int .i64 c] w fun e w' => e = .returned (.bool (decide (b ≤ a ∧ a ≤ c))) ∧ Drawn0 w w' :=
  PFnExactHasBefore.impl_in.calls a b c _ w (by
    unfold PFnExactHasBefore.impl_in.f
    by_cases h : b ≤ a
    · rw [if_pos h]
      by_cases h2 : a ≤ c
      · rw [decide_eq_true h2, decide_eq_true ⟨h, h2⟩]
      · rw [decide_eq_false h2, decide_eq_false (fun z => h2 z.2)]
    · rw [if_neg h, decide_eq_false (fun z => h z.1)])
theorem l1in_calls (a b c : Int) (w : World) : Calls Tryd.prog 16 #[.int .i64 a, .int .i64 b, .int .i64 c] w fun e w' => e = .returned (.bool (decide (b ≤ a ∧ a ≤ c))) ∧ Drawn0 w w' :=
  PFnExactHasBefore.spec_l1In.calls a b c _ w (by
    unfold PFnExactHasBefore.spec_l1In.f
    by_cases h : a ≥ b
    · rw [if_pos h]
      by_cases h2 : a ≤ c
      · rw [decide_eq_true h2, decide_eq_true ⟨h, h2⟩]
      · rw [decide_eq_false h2, decide_eq_false (fun z => h2 z.2)]
    · rw [if_neg h, decide_eq_false (fun z => h z.1)])
set_option maxHeartbeats 4000000 in
set_option maxRecDepth 100000 in
theorem impl_no (s : ByteArray) (k : Int) (h : ¬ (rowB s = true ∧ 0 ≤ k ∧ k ≤ 1000000)) (w : World) :
    Calls Tryd.prog 8 #[.string s, .int .i64 k] w fun e w' => e = .returned (.tuple #[.string ⟨#[]⟩, .bool false]) ∧ Below w.heap.size w w' := by
  have HB := Aside0.mk (Below.refl w.heap.size w)
  cases c : rowB s with
  | false =>
    have HI := Aside0.mk (fun W => RImpl.isRow_no s c W)
    clear h c
    go_enter Tryd.func8, Tryd.ntmps8
    go_wp2_with (go_at_call 19; refine (HI.out _).mono ?_; rintro e w3 ⟨rfl, hb⟩; have HBn := Aside0.mk (below_step (by repeat (first | (with_reducible first | exact HB.out | apply below_alloc | apply pw_below_drewN | apply below_drew1) | exact HB.out)) hb); clear hb HB; have HB := HBn; clear HBn)
    go_ret2
    exact ⟨rfl, (by repeat (first | (with_reducible first | exact HB.out | apply below_alloc | apply pw_below_drewN | apply below_drew1) | exact HB.out))⟩
  | true =>
    have hk : ¬ (0 ≤ k ∧ k ≤ 1000000) := fun z => h ⟨c, z⟩
    have HI := Aside0.mk (fun W => RImpl.isRow_yes s.data.toList c W)
    change Aside0 (∀ W : World, Calls Tryd.prog 19 #[.string s] W fun e w' => e = .returned (.bool true) ∧ Below W.heap.size W w') at HI
    have HN := Aside0.mk (fun W => in_calls k 0 1000000 W)
    rw [decide_eq_false hk] at HN
    clear h c hk
    go_enter Tryd.func8, Tryd.ntmps8
    go_wp2_with (first | (go_at_call 19; refine (HI.out _).mono ?_; rintro e w3 ⟨rfl, hb⟩; have HBn := Aside0.mk (below_step (by repeat (first | (with_reducible first | exact HB.out | apply below_alloc | apply pw_below_drewN | apply below_drew1) | exact HB.out)) hb); clear hb HB; have HB := HBn; clear HBn) | (go_at_call 20; refine (HN.out _).mono ?_; rintro e w' ⟨rfl, ⟨nd2, rfl⟩⟩))
    go_ret2
    exact ⟨rfl, (by repeat (first | (with_reducible first | exact HB.out | apply below_alloc | apply pw_below_drewN | apply below_drew1) | exact HB.out))⟩
set_option maxHeartbeats 4000000 in
set_option maxRecDepth 100000 in
theorem spec_no (s : ByteArray) (k : Int) (h : ¬ (rowB s = true ∧ 0 ≤ k ∧ k ≤ 1000000)) (w : World) :
    Calls Tryd.prog 7 #[.string s, .int .i64 k] w fun e w' => e = .returned (.tuple #[.string ⟨#[]⟩, .bool false]) ∧ Below w.heap.size w w' := by
  have HB := Aside0.mk (Below.refl w.heap.size w)
  cases c : rowB s with
  | false =>
    have HG := Aside0.mk (fun W => RTops.good_no s c W)
    clear h c
    go_enter Tryd.func7, Tryd.ntmps7
    go_wp2_with (go_at_call 15; refine (HG.out _).mono ?_; rintro e w' ⟨rfl, ⟨nd, rfl⟩⟩)
    go_ret2
    exact ⟨rfl, (by repeat (first | (with_reducible first | exact HB.out | apply below_alloc | apply pw_below_drewN | apply below_drew1) | exact HB.out))⟩
  | true =>
    have hk : ¬ (0 ≤ k ∧ k ≤ 1000000) := fun z => h ⟨c, z⟩
    have HG := Aside0.mk (fun W => RTops.good_yes s.data.toList c W)
    change Aside0 (∀ W : World, Calls Tryd.prog 15 #[.string s] W fun e w' => e = .returned (.bool true) ∧ Drawn0 W w') at HG
    have HN := Aside0.mk (fun W => l1in_calls k 0 1000000 W)
    rw [decide_eq_false hk] at HN
    clear h c hk
    go_enter Tryd.func7, Tryd.ntmps7
    go_wp2_with (first | (go_at_call 15; refine (HG.out _).mono ?_; rintro e w' ⟨rfl, ⟨nd, rfl⟩⟩) | (go_at_call 16; refine (HN.out _).mono ?_; rintro e w' ⟨rfl, ⟨nd2, rfl⟩⟩))
    go_ret2
    exact ⟨rfl, (by repeat (first | (with_reducible first | exact HB.out | apply below_alloc | apply pw_below_drewN | apply below_drew1) | exact HB.out))⟩
set_option maxHeartbeats 4000000 in
set_option maxRecDepth 100000 in
theorem impl_yes (l : List UInt8) (k : Nat) (h : rowB (bs l) = true) (hk : k ≤ 1000000) (w : World) (hML : ML w) :
    Calls Tryd.prog 8 #[.string (bs l), .int .i64 (k : Int)] w fun e w' => e = .returned (.tuple #[.string (bs (aftL l k)), .bool true]) ∧ Below w.heap.size w w' := by
  have h60 := rowB_len h
  have hz : (bs l).size = l.length := rfl
  have HI := Aside0.mk (fun W => RImpl.isRow_yes l h W)
  have HN := Aside0.mk (fun W => in_calls (k : Int) 0 1000000 W)
  rw [decide_eq_true (show 0 ≤ (k : Int) ∧ (k : Int) ≤ 1000000 by omega)] at HN
  have HL := Aside0.mk (show l.length ≤ 60 by omega)
  have HK0 := Aside0.mk hk
  have HML := Aside0.mk (fun W (hb : Below w.heap.size w W) => hML.of_below hb)
  clear h60 h hz hk hML
  have HB := Aside0.mk (Below.refl w.heap.size w)
  go_enter Tryd.func8, Tryd.ntmps8
  go_wp2_with (first | (go_at_call 19; refine (HI.out _).mono ?_; rintro e w3 ⟨rfl, hb⟩; have HBn := Aside0.mk (below_step (by repeat (first | (with_reducible first | exact HB.out | apply below_alloc | apply pw_below_drewN | apply below_drew1) | exact HB.out)) hb); clear hb HB; have HB := HBn; clear HBn) | (go_at_call 20; refine (HN.out _).mono ?_; rintro e w' ⟨rfl, ⟨nd2, rfl⟩⟩))
  go_loopg [0, 1] k (fun kq v0 v1 w' => ∃ (l1 : List UInt8) (n : Nat), v0 = .string (bs l1) ∧ v1 = .int .i64 (n : Int) ∧ Aside0 (kq = n) ∧ Aside0 (n ≤ 1000000) ∧ Aside0 (l1.length ≤ 60) ∧ Aside0 (aftL l1 n = aftL l k) ∧ Aside0 (Below w.heap.size w w'))
  case atStart => exact ⟨l, k, rfl, rfl, ⟨rfl⟩, HK0, HL, ⟨rfl⟩, ⟨(by repeat (first | (with_reducible first | exact HB.out | apply below_alloc | apply pw_below_drewN | apply below_drew1) | exact HB.out))⟩⟩
  case round =>
    clear HB HL HI HN
    obtain ⟨l1, n, rfl, rfl, HK, HN, HL1, HE, HB⟩ := hrel
    have HR := Aside0.mk (fun W (hb : Below w.heap.size w W) => RImpl.rest_is l1 (hasB l1) rfl (by have := HL1.out; omega) W (HML.out W hb))
    have HT := Aside0.mk (fun W (hb : Below w.heap.size w W) => RImpl.itick_calls l1 (by have := HL1.out; omega) W (HML.out W hb))
    cases n with
    | zero =>
      clear HT HR
      have HE2 := Aside0.mk (show l1 = aftL l k from HE.out)
      have hz0 : ((0 : Nat) : Int) = 0 := rfl
      generalize hb1 : bs l1 = b1
      have HB1 := Aside0.mk hb1
      clear hb1 HE
      go_wp2
      go_ret2
      exact ⟨by rw [← HE2.out, HB1.out]; rfl, (by repeat (first | (with_reducible first | exact HB.out | apply below_alloc | apply pw_below_drewN | apply below_drew1) | exact HB.out))⟩
    | succ n =>
      have hn1 : (0 : Int) < ((n + 1 : Nat) : Int) := by omega
      have hn2 : n ≤ 1000000 := by have := HN.out; omega
      cases c : hasB l1 with
      | true =>
        change Aside0 (∀ W : World, Below w.heap.size w W → Calls Tryd.prog 21 #[.string (bs l1)] W fun e w' => e = .returned (.bool (!hasB l1)) ∧ Drawn0 W w') at HR
        rw [c] at HR
        have HS := Aside0.mk (show aftL (tkB l1) n = aftL l k from HE.out)
        have HTL := Aside0.mk (tkB_len l1)
        clear HE c
        generalize hb1 : bs l1 = b1 at HR HT ⊢
        clear hb1
        go_wp2_with (first | (go_at_call 21; refine (HR.out _ (by repeat (first | (with_reducible first | exact HB.out | apply below_alloc | apply pw_below_drewN | apply below_drew1) | exact HB.out))).mono ?_; rintro e w' ⟨rfl, ⟨nd3, rfl⟩⟩) | (go_at_call 22; refine (HT.out _ (by repeat (first | (with_reducible first | exact HB.out | apply below_alloc | apply pw_below_drewN | apply below_drew1) | exact HB.out))).mono ?_; rintro e w5 ⟨rfl, hb⟩; have HBn := Aside0.mk (below_step (by repeat (first | (with_reducible first | exact HB.out | apply below_alloc | apply pw_below_drewN | apply below_drew1) | exact HB.out)) hb); clear hb HB; have HB := HBn; clear HBn))
        go_roundg n
        case measure => have := HK.out; omega
        case rel => exact ⟨tkB l1, n, rfl, by first | rfl | (congr 1; omega) | simp, ⟨rfl⟩, ⟨hn2⟩, ⟨by rw [HTL.out]; exact HL1.out⟩, HS, ⟨(by repeat (first | (with_reducible first | exact HB.out | apply below_alloc | apply pw_below_drewN | apply below_drew1) | exact HB.out))⟩⟩
      | false =>
        change Aside0 (∀ W : World, Below w.heap.size w W → Calls Tryd.prog 21 #[.string (bs l1)] W fun e w' => e = .returned (.bool (!hasB l1)) ∧ Drawn0 W w') at HR
        rw [c] at HR
        have HS := Aside0.mk (show l1 = aftL l k from by rw [← HE.out, aft_rest c])
        clear HE c HT
        generalize hb1 : bs l1 = b1 at HR ⊢
        have HB1 := Aside0.mk hb1
        clear hb1
        go_wp2_with (go_at_call 21; refine (HR.out _ (by repeat (first | (with_reducible first | exact HB.out | apply below_alloc | apply pw_below_drewN | apply below_drew1) | exact HB.out))).mono ?_; rintro e w' ⟨rfl, ⟨nd3, rfl⟩⟩)
        go_ret2
        exact ⟨by rw [← HS.out, HB1.out]; rfl, (by repeat (first | (with_reducible first | exact HB.out | apply below_alloc | apply pw_below_drewN | apply below_drew1) | exact HB.out))⟩
set_option maxHeartbeats 4000000 in
set_option maxRecDepth 100000 in
theorem spec_yes (l : List UInt8) (k : Nat) (h : rowB (bs l) = true) (hk : k ≤ 1000000) (w : World) :
    Calls Tryd.prog 7 #[.string (bs l), .int .i64 (k : Int)] w fun e w' => e = .returned (.tuple #[.string (bs (aftL l k)), .bool true]) ∧ Below w.heap.size w w' := by
  have h60 := rowB_len h
  have hz : (bs l).size = l.length := rfl
  have HG := Aside0.mk (fun W => RTops.good_yes l h W)
  have HN := Aside0.mk (fun W => l1in_calls (k : Int) 0 1000000 W)
  rw [decide_eq_true (show 0 ≤ (k : Int) ∧ (k : Int) ≤ 1000000 by omega)] at HN
  have HL := Aside0.mk (show l.length ≤ 60 by omega)
  have HK0 := Aside0.mk hk
  clear h60 h hz hk
  have HB := Aside0.mk (Below.refl w.heap.size w)
  go_enter Tryd.func7, Tryd.ntmps7
  go_wp2_with (first | (go_at_call 15; refine (HG.out _).mono ?_; rintro e w' ⟨rfl, ⟨nd, rfl⟩⟩) | (go_at_call 16; refine (HN.out _).mono ?_; rintro e w' ⟨rfl, ⟨nd2, rfl⟩⟩))
  go_loopg [0, 1] k (fun kq v0 v1 w' => ∃ (l1 : List UInt8) (n : Nat), v0 = .string (bs l1) ∧ v1 = .int .i64 (n : Int) ∧ Aside0 (kq = n) ∧ Aside0 (n ≤ 1000000) ∧ Aside0 (l1.length ≤ 60) ∧ Aside0 (aftL l1 n = aftL l k) ∧ Aside0 (Below w.heap.size w w'))
  case atStart => exact ⟨l, k, rfl, rfl, ⟨rfl⟩, HK0, HL, ⟨rfl⟩, ⟨(by repeat (first | (with_reducible first | exact HB.out | apply below_alloc | apply pw_below_drewN | apply below_drew1) | exact HB.out))⟩⟩
  case round =>
    clear HB HL HG HN
    obtain ⟨l1, n, rfl, rfl, HK, HN, HL1, HE, HB⟩ := hrel
    have HP := Aside0.mk (fun W => RSpec.pairs_calls (bs l1) (by have := HL1.out; rw [bs_size]; omega) W)
    change Aside0 (∀ W : World, Calls Tryd.prog 17 #[.string (bs l1)] W fun e w' => ∃ v : Value, e = .returned v ∧ Kd.R (Kd.int .i64) 3 w' W.heap.size (fun _ => True) v (prs 0 l1) ∧ Below W.heap.size W w') at HP
    have HT := Aside0.mk (fun W => RSpec.tick_calls (bs l1) (by have := HL1.out; rw [bs_size]; omega) W)
    change Aside0 (∀ W : World, Calls Tryd.prog 18 #[.string (bs l1)] W fun e w' => e = .returned (.string (bs (tkB l1))) ∧ Below W.heap.size W w') at HT
    cases n with
    | zero =>
      clear HT HP
      have HE2 := Aside0.mk (show l1 = aftL l k from HE.out)
      have hz0 : ((0 : Nat) : Int) = 0 := rfl
      generalize hb1 : bs l1 = b1
      have HB1 := Aside0.mk hb1
      clear hb1 HE
      go_wp2
      go_ret2
      exact ⟨by rw [← HE2.out, HB1.out]; rfl, (by repeat (first | (with_reducible first | exact HB.out | apply below_alloc | apply pw_below_drewN | apply below_drew1) | exact HB.out))⟩
    | succ n =>
      have hn1 : (0 : Int) < ((n + 1 : Nat) : Int) := by omega
      have hn2 : n ≤ 1000000 := by have := HN.out; omega
      cases c : hasB l1 with
      | true =>
        have hps := prs_pos 0 l1 c
        generalize prs 0 l1 = ps at HP hps
        have HS := Aside0.mk (show aftL (tkB l1) n = aftL l k from HE.out)
        have HTL := Aside0.mk (tkB_len l1)
        clear HE c
        generalize hb1 : bs l1 = b1 at HP HT ⊢
        clear hb1
        go_wp2_with (first | (go_at_call 17; refine (HP.out _).mono ?_; rintro e w3 ⟨v, rfl, ho, hb⟩; obtain ⟨A, cc, rfl, hlc, hC⟩ := Kd.R_reads ho; clear ho hC; have HBn := Aside0.mk (below_step (by repeat (first | (with_reducible first | exact HB.out | apply below_alloc | apply pw_below_drewN | apply below_drew1) | exact HB.out)) hb); clear hb HB; have HB := HBn; clear HBn) | (go_at_call 18; refine (HT.out _).mono ?_; rintro e w5 ⟨rfl, hb⟩; have HBn := Aside0.mk (below_step (by repeat (first | (with_reducible first | exact HB.out | apply below_alloc | apply pw_below_drewN | apply below_drew1) | exact HB.out)) hb); clear hb HB; have HB := HBn; clear HBn))
        go_roundg n
        case measure => have := HK.out; omega
        case rel => exact ⟨tkB l1, n, rfl, by first | rfl | (congr 1; omega) | simp, ⟨rfl⟩, ⟨hn2⟩, ⟨by rw [HTL.out]; exact HL1.out⟩, HS, ⟨(by repeat (first | (with_reducible first | exact HB.out | apply below_alloc | apply pw_below_drewN | apply below_drew1) | exact HB.out))⟩⟩
      | false =>
        rw [prs_none 0 l1 c] at HP
        have HS := Aside0.mk (show l1 = aftL l k from by rw [← HE.out, aft_rest c])
        clear HE c HT
        generalize hb1 : bs l1 = b1 at HP ⊢
        have HB1 := Aside0.mk hb1
        clear hb1
        go_wp2_with (go_at_call 17; refine (HP.out _).mono ?_; rintro e w3 ⟨v, rfl, ho, hb⟩; obtain ⟨A, cc, rfl, hlc, hC⟩ := Kd.R_reads ho; clear ho hC; have HBn := Aside0.mk (below_step (by repeat (first | (with_reducible first | exact HB.out | apply below_alloc | apply pw_below_drewN | apply below_drew1) | exact HB.out)) hb); clear hb HB; have HB := HBn; clear HBn)
        go_ret2
        exact ⟨by rw [← HS.out, HB1.out]; rfl, (by repeat (first | (with_reducible first | exact HB.out | apply below_alloc | apply pw_below_drewN | apply below_drew1) | exact HB.out))⟩
end Go.Proofs.YtfkbacdaoeecdadDoor.RAfter
