/- The rows from which a tick leads to a row: the walks of spec.rwBefore, spec.RowsBefore, impl.RowsBefore. -/
import Derived.Test.YtleacijhpkogpabDoorRTop
import Derived.Test.YtleacijhpkogpabDoorRITop
import Derived.Test.YtleacijhpkogpabDoorRIsRow
import Derived.Test.YtleacijhpkogpabDoorRGood
namespace Go.Proofs.YtleacijhpkogpabDoor.RBef
open Go.RowKit Go.Proofs.YtleacijhpkogpabDoorW.PrintWords Go.Proofs.YtleacijhpkogpabDoorW.PrintLast Go.Proofs.YtleacijhpkogpabDoorW.PrintMore Go.Shelf Go.Proofs.YtleacijhpkogpabDoor.PFnRowsBeforeOfAll Go.Proofs.YtleacijhpkogpabDoor.RPlain
set_option linter.unusedVariables false
set_option linter.unusedSimpArgs false

theorem info_string : (Tryd.prog.info? 9).map (fun i => (i.zero, i.size, i.bytes)) = some (some (.string ⟨#[]⟩), 1, 16) := by kernel_rfl
set_option maxHeartbeats 8000000 in
set_option maxRecDepth 100000 in
theorem before_calls (l : List UInt8) (n : Nat) (hn : l.length = n) (h12 : n ≤ 12) (w : World) :
    Calls Tryd.prog 72 #[.string (bs l)] w fun e w' => ∃ v, e = .returned v ∧ Kd.R Kd.string 9 w' w.heap.size (fun _ => True) v (befL l (2 ^ n)) ∧ Below w.heap.size w w' := by
  have HB := Aside0.mk (Below.refl w.heap.size w)
  have hz : (bs l).size = n := hn
  have hP4 := pow_12 n h12
  have hpw : wrap64 (2 ^ n) = ((2 ^ n : Nat) : Int) := by
    rw [show ((2 : Int) ^ n) = ((2 ^ n : Nat) : Int) by push_cast; rfl]
    generalize 2 ^ n = P at *
    unfold wrap64; omega
  generalize hPe : 2 ^ n = P at *
  have HPE := Aside0.mk hPe
  clear hPe
  have HN := Aside0.mk hn
  clear hn
  go_enter Tryd.func72, Tryd.ntmps72
  go_wp2_with fail
  go_loopg [3, 4] P (fun kq v3 v4 w' => ∃ j : Nat, v4 = .int .i64 (j : Int) ∧ Aside0 (kq + j = P) ∧ Aside0 (Kd.R Kd.string 9 w' w.heap.size (fun _ => True) v3 (befL l j)) ∧ Aside0 (Below w.heap.size w w'))
  case atStart => exact ⟨0, rfl, ⟨rfl⟩, ⟨Kd.R_nil _ _ _ _ _⟩, ⟨(by repeat (first | (with_reducible first | exact HB.out | apply below_alloc | apply pw_below_drewN | apply below_drew1) | exact HB.out))⟩⟩
  case round =>
    clear HB
    obtain ⟨j, rfl, HK, HO, HB⟩ := hrel
    have HM := Aside0.mk (fun W => RSpec.make_calls n j (by omega) (by have := HK.out; omega) W)
    have HT := Aside0.mk (fun W => RSpec.tick_calls (bs (mkL n j)) (by rw [bs_size, mkL_len]; omega) W)
    have hlb := befL_len l j
    have HS : Aside0 (befL l (j + 1) = befL l j ++ if (bs (tkB (mkL n j))).toList = (bs l).toList then [bs (mkL n j)] else []) := ⟨by rw [befL, HN.out]⟩
    change Aside0 (∀ W : World, Calls Tryd.prog 63 #[.string (bs (mkL n j))] W fun e w' => e = .returned (.string (bs (tkB (mkL n j)))) ∧ Below W.heap.size W w') at HT
    by_cases hj : j < P
    · generalize bs (mkL n j) = b at *
      generalize bs (tkB (mkL n j)) = b2 at *
      generalize befL l j = xs at *
      generalize bs l = s at *
      by_cases c : b2.toList = s.toList
      · have hcb : (b2.toList == s.toList) = true := beq_iff_eq.mpr c
        have HS2 : Aside0 (befL l (j + 1) = xs ++ [b]) := ⟨by rw [HS.out, if_pos c]⟩
        clear c HS
        go_wp2_with (first | (go_at_call 79; refine (HM.out _).mono ?_; rintro e w3 ⟨rfl, ⟨nd, rfl⟩⟩) | (go_at_call 63; refine (HT.out _).mono ?_; rintro e w4 ⟨rfl, hb⟩; have HOn := Aside0.mk (Kd.R_below (Kd.R_drewN HO.out _) hb); have HBn := Aside0.mk (below_step (by repeat (first | (with_reducible first | exact HB.out | apply below_alloc | apply pw_below_drewN | apply below_drew1) | exact HB.out)) hb); clear hb HB HO; have HB := HBn; have HO := HOn; clear HBn HOn) | ((with_reducible refine gate_builtin (b := .append) (xs := #[.tmp 21, .tmp 23]) rfl ?_); at_builtin; refine Kd.R_append Kd.string (w0 := w) w.heap.size rfl (.tmp 21) (.tmp 23) 32 9 (.string ⟨#[]⟩) 16 rfl Tryd.underlying32 info_string rfl (by decide) (by omega) u3 xs b [.string b] (fun _ => True) (fun _ => False) rfl rfl ?aP (fun _ hk => hk.elim) ?aF ?aO ?aB ?aS ?aL ?_; (case aP => exact rfl); (case aB => exact (by repeat (first | (with_reducible first | exact HB.out | apply below_alloc | apply pw_below_drewN | apply below_drew1) | exact HB.out))); (case aF => exact (fun _ _ => trivial)); (case aO => exact HO.out); (case aS => exact (below_size (by repeat (first | (with_reducible first | exact HB.out | apply below_alloc | apply pw_below_drewN | apply below_drew1) | exact HB.out)))); (case aL => omega); intro v7 w7 ho hb hg hat; rw [← HS2.out] at ho; have HOn := Aside0.mk ho; have HBn := Aside0.mk hb; clear ho hb hg hat HO HB; have HO := HOn; have HB := HBn; clear HOn HBn))
        go_roundg (P - (j + 1))
        case measure => have := HK.out; omega
        case rel => exact ⟨j + 1, rfl, ⟨by have := HK.out; omega⟩, HO, ⟨(by repeat (first | (with_reducible first | exact HB.out | apply below_alloc | apply pw_below_drewN | apply below_drew1) | exact HB.out))⟩⟩
      · have hcb : (b2.toList == s.toList) = false := beq_eq_false_iff_ne.mpr c
        have HS2 : Aside0 (befL l (j + 1) = xs) := ⟨by rw [HS.out, if_neg c, List.append_nil]⟩
        clear c HS
        go_wp2_with (first | (go_at_call 79; refine (HM.out _).mono ?_; rintro e w3 ⟨rfl, ⟨nd, rfl⟩⟩) | (go_at_call 63; refine (HT.out _).mono ?_; rintro e w4 ⟨rfl, hb⟩; have HOn := Aside0.mk (Kd.R_below (Kd.R_drewN HO.out _) hb); have HBn := Aside0.mk (below_step (by repeat (first | (with_reducible first | exact HB.out | apply below_alloc | apply pw_below_drewN | apply below_drew1) | exact HB.out)) hb); clear hb HB HO; have HB := HBn; have HO := HOn; clear HBn HOn))
        go_roundg (P - (j + 1))
        case measure => have := HK.out; omega
        case rel => exact ⟨j + 1, rfl, ⟨by have := HK.out; omega⟩, ⟨by rw [HS2.out]; exact HO.out⟩, ⟨(by repeat (first | (with_reducible first | exact HB.out | apply below_alloc | apply pw_below_drewN | apply below_drew1) | exact HB.out))⟩⟩
    · have hjP : j = P := by have := HK.out; omega
      clear HM HT HS
      go_wp2
      go_ret
      exact ⟨_, rfl, by rw [← hjP]; exact HO.out, (by repeat (first | (with_reducible first | exact HB.out | apply below_alloc | apply pw_below_drewN | apply below_drew1) | exact HB.out))⟩
theorem good_yes (l : List UInt8) (h : rowB (bs l) = true) (w : World) :
    Calls Tryd.prog 57 #[.string (bs l)] w fun e w' => e = .returned (.bool true) ∧ Drawn0 w w' := by
  have := RGood.good_calls (bs l) w
  rwa [h] at this
theorem good_no (s : ByteArray) (h : rowB s = false) (w : World) :
    Calls Tryd.prog 57 #[.string s] w fun e w' => e = .returned (.bool false) ∧ Drawn0 w w' := by
  have := RGood.good_calls s w
  rwa [h] at this
set_option maxHeartbeats 8000000 in
set_option maxRecDepth 100000 in
theorem spec_no (s : ByteArray) (h : ¬ (rowB s = true ∧ s.size ≤ 12)) (w : World) :
    Calls Tryd.prog 18 #[.string s] w fun e w' => ∃ v, e = .returned (.tuple #[v, .bool false]) ∧ Kd.R Kd.string 9 w' w.heap.size (fun _ => True) v [] ∧ Below w.heap.size w w' := by
  have HB := Aside0.mk (Below.refl w.heap.size w)
  cases c : rowB s with
  | false =>
    have HG := Aside0.mk (fun W => good_no s c W)
    clear h c
    go_enter Tryd.func18, Tryd.ntmps18
    go_wp2_with (go_at_call 57; refine (HG.out _).mono ?_; rintro e w' ⟨rfl, ⟨nd, rfl⟩⟩)
    go_ret2
    exact ⟨_, rfl, Kd.R_nil _ _ _ _ _, (by repeat (first | (with_reducible first | exact HB.out | apply below_alloc | apply pw_below_drewN | apply below_drew1) | exact HB.out))⟩
  | true =>
    have h12 : ¬ s.size ≤ 12 := fun z => h ⟨c, z⟩
    have HG := Aside0.mk (fun W => good_yes s.data.toList c W)
    change Aside0 (∀ W : World, Calls Tryd.prog 57 #[.string s] W fun e w' => e = .returned (.bool true) ∧ Drawn0 W w') at HG
    have HF := Aside0.mk (fun W => RSpec.few_no (s.size : Int) (by omega) W)
    clear h c h12
    go_enter Tryd.func18, Tryd.ntmps18
    go_wp2_with (first | (go_at_call 57; refine (HG.out _).mono ?_; rintro e w' ⟨rfl, ⟨nd, rfl⟩⟩) | (go_at_call 71; refine (HF.out _).mono ?_; rintro e w' ⟨rfl, ⟨nd2, rfl⟩⟩))
    go_ret2
    exact ⟨_, rfl, Kd.R_nil _ _ _ _ _, (by repeat (first | (with_reducible first | exact HB.out | apply below_alloc | apply pw_below_drewN | apply below_drew1) | exact HB.out))⟩
set_option maxHeartbeats 8000000 in
set_option maxRecDepth 100000 in
theorem spec_yes (l : List UInt8) (h : rowB (bs l) = true) (h12 : l.length ≤ 12) (w : World) :
    Calls Tryd.prog 18 #[.string (bs l)] w fun e w' => ∃ v, e = .returned (.tuple #[v, .bool true]) ∧ Kd.R Kd.string 9 w' w.heap.size (fun _ => True) v (befL l (2 ^ l.length)) ∧ Below w.heap.size w w' := by
  have HB := Aside0.mk (Below.refl w.heap.size w)
  have h60 := rowB_len h
  have hz : (bs l).size = l.length := rfl
  have HG := Aside0.mk (fun W => good_yes l h W)
  have HF := Aside0.mk (fun W => RSpec.few_yes (bs l).size (by omega) W)
  have HBE := Aside0.mk (fun W => before_calls l l.length rfl h12 W)
  clear h h60 hz h12
  generalize befL l (2 ^ l.length) = xs at *
  generalize bs l = s at *
  go_enter Tryd.func18, Tryd.ntmps18
  go_wp2_with (first | (go_at_call 57; refine (HG.out _).mono ?_; rintro e w' ⟨rfl, ⟨nd, rfl⟩⟩) | (go_at_call 71; refine (HF.out _).mono ?_; rintro e w' ⟨rfl, ⟨nd2, rfl⟩⟩) | (go_at_call 72; refine (HBE.out _).mono ?_; rintro e w4 ⟨v, rfl, ho, hb⟩; have HO := Aside0.mk (Kd.R_lower ho (below_size (by repeat (first | (with_reducible first | exact HB.out | apply below_alloc | apply pw_below_drewN | apply below_drew1) | exact HB.out)))); have HBn := Aside0.mk (below_step (by repeat (first | (with_reducible first | exact HB.out | apply below_alloc | apply pw_below_drewN | apply below_drew1) | exact HB.out)) hb); clear ho hb HB; have HB := HBn; clear HBn))
  go_ret2
  exact ⟨_, rfl, HO.out, (by repeat (first | (with_reducible first | exact HB.out | apply below_alloc | apply pw_below_drewN | apply below_drew1) | exact HB.out))⟩
set_option maxHeartbeats 8000000 in
set_option maxRecDepth 100000 in
theorem impl_no (s : ByteArray) (h : ¬ (rowB s = true ∧ s.size ≤ 12)) (w : World) :
    Calls Tryd.prog 17 #[.string s] w fun e w' => ∃ v, e = .returned (.tuple #[v, .bool false]) ∧ Kd.R Kd.string 9 w' w.heap.size (fun _ => True) v [] ∧ Below w.heap.size w w' := by
  have HB := Aside0.mk (Below.refl w.heap.size w)
  cases c : rowB s with
  | false =>
    have HI := Aside0.mk (fun W => RImpl.isRow_no s c W)
    clear h c
    go_enter Tryd.func17, Tryd.ntmps17
    go_wp2_with (go_at_call 59; refine (HI.out _).mono ?_; rintro e w3 ⟨rfl, hb⟩; have HBn := Aside0.mk (below_step (by repeat (first | (with_reducible first | exact HB.out | apply below_alloc | apply pw_below_drewN | apply below_drew1) | exact HB.out)) hb); clear hb HB; have HB := HBn; clear HBn)
    go_ret2
    exact ⟨_, rfl, Kd.R_nil _ _ _ _ _, (by repeat (first | (with_reducible first | exact HB.out | apply below_alloc | apply pw_below_drewN | apply below_drew1) | exact HB.out))⟩
  | true =>
    have h12 : ¬ s.size ≤ 12 := fun z => h ⟨c, z⟩
    have HI := Aside0.mk (fun W => RImpl.isRow_yes s.data.toList c W)
    change Aside0 (∀ W : World, Calls Tryd.prog 59 #[.string s] W fun e w' => e = .returned (.bool true) ∧ Below W.heap.size W w') at HI
    have HF := Aside0.mk (fun W => RImpl.traced_no (s.size : Int) (by omega) W)
    clear h c h12
    go_enter Tryd.func17, Tryd.ntmps17
    go_wp2_with (first | (go_at_call 59; refine (HI.out _).mono ?_; rintro e w3 ⟨rfl, hb⟩; have HBn := Aside0.mk (below_step (by repeat (first | (with_reducible first | exact HB.out | apply below_alloc | apply pw_below_drewN | apply below_drew1) | exact HB.out)) hb); clear hb HB; have HB := HBn; clear HBn) | (go_at_call 68; refine (HF.out _).mono ?_; rintro e w' ⟨rfl, ⟨nd2, rfl⟩⟩))
    go_ret2
    exact ⟨_, rfl, Kd.R_nil _ _ _ _ _, (by repeat (first | (with_reducible first | exact HB.out | apply below_alloc | apply pw_below_drewN | apply below_drew1) | exact HB.out))⟩
set_option maxHeartbeats 8000000 in
set_option maxRecDepth 100000 in
theorem impl_yes (l : List UInt8) (h : rowB (bs l) = true) (h12 : l.length ≤ 12) (w : World) (hML : ML w) :
    Calls Tryd.prog 17 #[.string (bs l)] w fun e w' => ∃ v, e = .returned (.tuple #[v, .bool true]) ∧ Kd.R Kd.string 9 w' w.heap.size (fun _ => True) v (befL l (2 ^ l.length)) ∧ Below w.heap.size w w' := by
  have HB := Aside0.mk (Below.refl w.heap.size w)
  have h60 := rowB_len h
  have hz : (bs l).size = l.length := rfl
  have HML := Aside0.mk hML
  have HI := Aside0.mk (fun W => RImpl.isRow_yes l h W)
  have HF := Aside0.mk (fun W => RImpl.traced_yes (bs l).size (by omega) W)
  rw [hz] at h60
  clear h hML
  obtain ⟨n, hn⟩ : ∃ n, l.length = n := ⟨_, rfl⟩
  have HN := Aside0.mk hn
  rw [hn] at h12 h60 hz ⊢
  rw [hz] at HF
  have hP4 := pow_12 n h12
  have hpw : wrap64 (2 ^ n) = ((2 ^ n : Nat) : Int) := by
    rw [show ((2 : Int) ^ n) = ((2 ^ n : Nat) : Int) by push_cast; rfl]
    generalize 2 ^ n = P at *
    unfold wrap64; omega
  generalize 2 ^ n = P at *
  have HPW := Aside0.mk hpw
  clear hn hpw
  generalize hs : bs l = s at *
  have HSS := Aside0.mk hs
  clear hs
  obtain ⟨h1, h2⟩ := h60
  go_enter Tryd.func17, Tryd.ntmps17
  go_wp2_with (first | (go_at_call 59; refine (HI.out _).mono ?_; rintro e w3 ⟨rfl, hb⟩; have HBn := Aside0.mk (below_step (by repeat (first | (with_reducible first | exact HB.out | apply below_alloc | apply pw_below_drewN | apply below_drew1) | exact HB.out)) hb); clear hb HB; have HB := HBn; clear HBn) | (go_at_call 68; refine (HF.out _).mono ?_; rintro e w' ⟨rfl, ⟨nd2, rfl⟩⟩) | ((with_reducible refine gate_dst (N := 16) rfl ?_); refine Kd.R_lit Kd.string (w0 := w) w.heap.size 9 ?hg (N := 16) ?hd (xs := ([] : List ByteArray)) (inner := []) (ok := fun _ => True) (okp := fun _ => True) ?hr ?hp (fun _ hk => hk) trivial (by repeat (first | (with_reducible first | exact HB.out | apply below_alloc | apply pw_below_drewN | apply below_drew1) | exact HB.out)) (below_size (by repeat (first | (with_reducible first | exact HB.out | apply below_alloc | apply pw_below_drewN | apply below_drew1) | exact HB.out))) (by simp) ?_; (case hd => rfl); (case hg => rfl); (case hr => first | (go_simp; done) | (go_simp; rfl)); (case hp => exact (Reps.none _ _)); intro v1 w2 ho hb hg hnew; have HO := Aside0.mk ho; have HBn := Aside0.mk hb; clear ho hb hg hnew HB; have HB := HBn; clear HBn))
  rw [HPW.out]
  clear HPW HF HI
  go_loopg [4, 20] P (fun kq v4 v20 w' => ∃ j : Nat, v20 = .int .i64 (j : Int) ∧ Aside0 (kq + j = P) ∧ Aside0 (Kd.R Kd.string 9 w' w.heap.size (fun _ => True) v4 (befL l j)) ∧ Aside0 (Below w.heap.size w w'))
  case atStart => exact ⟨0, rfl, ⟨rfl⟩, HO, ⟨(by repeat (first | (with_reducible first | exact HB.out | apply below_alloc | apply pw_below_drewN | apply below_drew1) | exact HB.out))⟩⟩
  case round =>
    clear HB HO
    obtain ⟨j, rfl, HK, HO, HB⟩ := hrel
    have HM := Aside0.mk (fun W => RImpl.rowOf_calls n j (by omega) (by have := HK.out; omega) W)
    have HT := Aside0.mk (fun W (hb : Below w.heap.size w W) => RImpl.itick_calls (mkL n j) (by rw [mkL_len]; omega) W (HML.out.of_below hb))
    have hlb := befL_len l j
    have HS : Aside0 (befL l (j + 1) = befL l j ++ if (bs (tkB (mkL n j))).toList = s.toList then [bs (mkL n j)] else []) := ⟨by rw [befL, HN.out, HSS.out]⟩
    by_cases hj : j < P
    · generalize bs (mkL n j) = b at *
      generalize bs (tkB (mkL n j)) = b2 at *
      generalize befL l j = xs at *
      by_cases c : b2.toList = s.toList
      · have hcb : (b2.toList == s.toList) = true := beq_iff_eq.mpr c
        have HS2 : Aside0 (befL l (j + 1) = xs ++ [b]) := ⟨by rw [HS.out, if_pos c]⟩
        clear c HS
        go_wp2_with (first | (go_at_call 69; refine (HM.out _).mono ?_; rintro e w3 ⟨rfl, hb⟩; have HOn := Aside0.mk (Kd.R_below HO.out hb); have HBn := Aside0.mk (below_step (by repeat (first | (with_reducible first | exact HB.out | apply below_alloc | apply pw_below_drewN | apply below_drew1) | exact HB.out)) hb); clear hb HB HO; have HB := HBn; have HO := HOn; clear HBn HOn) | (go_at_call 70; refine (HT.out _ (by repeat (first | (with_reducible first | exact HB.out | apply below_alloc | apply pw_below_drewN | apply below_drew1) | exact HB.out))).mono ?_; rintro e w4 ⟨rfl, hb⟩; have HOn := Aside0.mk (Kd.R_below HO.out hb); have HBn := Aside0.mk (below_step (by repeat (first | (with_reducible first | exact HB.out | apply below_alloc | apply pw_below_drewN | apply below_drew1) | exact HB.out)) hb); clear hb HB HO; have HB := HBn; have HO := HOn; clear HBn HOn) | ((with_reducible refine gate_builtin (b := .append) (xs := #[.tmp 31, .tmp 33]) rfl ?_); at_builtin; refine Kd.R_append Kd.string (w0 := w) w.heap.size rfl (.tmp 31) (.tmp 33) 32 9 (.string ⟨#[]⟩) 16 rfl Tryd.underlying32 info_string rfl (by decide) (by omega) u4 xs b [.string b] (fun _ => True) (fun _ => False) rfl rfl ?aP (fun _ hk => hk.elim) ?aF ?aO ?aB ?aS ?aL ?_; (case aP => exact rfl); (case aB => exact (by repeat (first | (with_reducible first | exact HB.out | apply below_alloc | apply pw_below_drewN | apply below_drew1) | exact HB.out))); (case aF => exact (fun _ _ => trivial)); (case aO => exact HO.out); (case aS => exact (below_size (by repeat (first | (with_reducible first | exact HB.out | apply below_alloc | apply pw_below_drewN | apply below_drew1) | exact HB.out)))); (case aL => omega); intro v7 w7 ho hb hg hat; rw [← HS2.out] at ho; have HOn := Aside0.mk ho; have HBn := Aside0.mk hb; clear ho hb hg hat HO HB; have HO := HOn; have HB := HBn; clear HOn HBn))
        go_roundg (P - (j + 1))
        case measure => have := HK.out; omega
        case rel => exact ⟨j + 1, rfl, ⟨by have := HK.out; omega⟩, HO, ⟨(by repeat (first | (with_reducible first | exact HB.out | apply below_alloc | apply pw_below_drewN | apply below_drew1) | exact HB.out))⟩⟩
      · have hcb : (b2.toList == s.toList) = false := beq_eq_false_iff_ne.mpr c
        have HS2 : Aside0 (befL l (j + 1) = xs) := ⟨by rw [HS.out, if_neg c, List.append_nil]⟩
        clear c HS
        go_wp2_with (first | (go_at_call 69; refine (HM.out _).mono ?_; rintro e w3 ⟨rfl, hb⟩; have HOn := Aside0.mk (Kd.R_below HO.out hb); have HBn := Aside0.mk (below_step (by repeat (first | (with_reducible first | exact HB.out | apply below_alloc | apply pw_below_drewN | apply below_drew1) | exact HB.out)) hb); clear hb HB HO; have HB := HBn; have HO := HOn; clear HBn HOn) | (go_at_call 70; refine (HT.out _ (by repeat (first | (with_reducible first | exact HB.out | apply below_alloc | apply pw_below_drewN | apply below_drew1) | exact HB.out))).mono ?_; rintro e w4 ⟨rfl, hb⟩; have HOn := Aside0.mk (Kd.R_below HO.out hb); have HBn := Aside0.mk (below_step (by repeat (first | (with_reducible first | exact HB.out | apply below_alloc | apply pw_below_drewN | apply below_drew1) | exact HB.out)) hb); clear hb HB HO; have HB := HBn; have HO := HOn; clear HBn HOn))
        go_roundg (P - (j + 1))
        case measure => have := HK.out; omega
        case rel => exact ⟨j + 1, rfl, ⟨by have := HK.out; omega⟩, ⟨by rw [HS2.out]; exact HO.out⟩, ⟨(by repeat (first | (with_reducible first | exact HB.out | apply below_alloc | apply pw_below_drewN | apply below_drew1) | exact HB.out))⟩⟩
    · have hjP : j = P := by have := HK.out; omega
      clear HM HT HS
      go_wp2
      go_ret2
      exact ⟨_, rfl, by rw [← hjP]; exact HO.out, (by repeat (first | (with_reducible first | exact HB.out | apply below_alloc | apply pw_below_drewN | apply below_drew1) | exact HB.out))⟩
end Go.Proofs.YtleacijhpkogpabDoor.RBef
/- Does a tick lead to a row: the walks of impl.HasBefore, spec.HasBefore. -/
namespace Go.Proofs.YtleacijhpkogpabDoor.RHas
open Go.RowKit Go.Proofs.YtleacijhpkogpabDoorW.PrintWords Go.Proofs.YtleacijhpkogpabDoorW.PrintLast Go.Proofs.YtleacijhpkogpabDoorW.PrintMore Go.Shelf Go.Proofs.YtleacijhpkogpabDoor.RPlain
set_option linter.unusedVariables false
set_option linter.unusedSimpArgs false

set_option maxHeartbeats 4000000 in
set_option maxRecDepth 100000 in
theorem impl_no (s : ByteArray) (h : ¬ (rowB s = true ∧ s.size ≤ 12)) (w : World) :
    Calls Tryd.prog 19 #[.string s] w fun e w' => e = .returned (.tuple #[.bool false, .bool false]) ∧ Below w.heap.size w w' := by
  have HR := Aside0.mk (fun W => RBef.impl_no s h W)
  clear h
  have HB := Aside0.mk (Below.refl w.heap.size w)
  go_enter Tryd.func19, Tryd.ntmps19
  go_wp2_with (go_at_call 17; refine (HR.out _).mono ?_; rintro e w3 ⟨v, rfl, ho, hb⟩; obtain ⟨A, cc, rfl, hlc, hC⟩ := Kd.R_reads ho; clear ho hC; have HBn := Aside0.mk (below_step (by repeat (first | (with_reducible first | exact HB.out | apply below_alloc | apply pw_below_drewN | apply below_drew1) | exact HB.out)) hb); clear hb HB; have HB := HBn; clear HBn)
  go_ret2
  exact ⟨by first | rfl | simp, (by repeat (first | (with_reducible first | exact HB.out | apply below_alloc | apply pw_below_drewN | apply below_drew1) | exact HB.out))⟩
set_option maxHeartbeats 4000000 in
set_option maxRecDepth 100000 in
theorem impl_yes (l : List UInt8) (h : rowB (bs l) = true) (h12 : (bs l).size ≤ 12) (w : World) (hML : ML w) :
    Calls Tryd.prog 19 #[.string (bs l)] w fun e w' => e = .returned (.tuple #[.bool (decide ((0 : Int) < ((befL l (2 ^ l.length)).length : Int))), .bool true]) ∧ Below w.heap.size w w' := by
  have HR := Aside0.mk (fun W (hb : Below w.heap.size w W) => RBef.impl_yes l h h12 W (hML.of_below hb))
  clear h h12 hML
  have HB := Aside0.mk (Below.refl w.heap.size w)
  generalize befL l (2 ^ l.length) = xs at *
  generalize bs l = x at *
  go_enter Tryd.func19, Tryd.ntmps19
  go_wp2_with (go_at_call 17; refine (HR.out _ (by repeat (first | (with_reducible first | exact HB.out | apply below_alloc | apply pw_below_drewN | apply below_drew1) | exact HB.out))).mono ?_; rintro e w3 ⟨v, rfl, ho, hb⟩; obtain ⟨A, cc, rfl, hlc, hC⟩ := Kd.R_reads ho; clear ho hC; have HBn := Aside0.mk (below_step (by repeat (first | (with_reducible first | exact HB.out | apply below_alloc | apply pw_below_drewN | apply below_drew1) | exact HB.out)) hb); clear hb HB; have HB := HBn; clear HBn)
  go_ret2
  exact ⟨by first | rfl | simp, (by repeat (first | (with_reducible first | exact HB.out | apply below_alloc | apply pw_below_drewN | apply below_drew1) | exact HB.out))⟩
set_option maxHeartbeats 4000000 in
set_option maxRecDepth 100000 in
theorem spec_no (s : ByteArray) (h : ¬ (rowB s = true ∧ s.size ≤ 12)) (w : World) :
    Calls Tryd.prog 20 #[.string s] w fun e w' => e = .returned (.tuple #[.bool false, .bool false]) ∧ Below w.heap.size w w' := by
  have HB := Aside0.mk (Below.refl w.heap.size w)
  cases c : rowB s with
  | false =>
    have HG := Aside0.mk (fun W => RBef.good_no s c W)
    clear h c
    go_enter Tryd.func20, Tryd.ntmps20
    go_wp2_with (go_at_call 57; refine (HG.out _).mono ?_; rintro e w' ⟨rfl, ⟨nd, rfl⟩⟩)
    go_ret2
    exact ⟨rfl, (by repeat (first | (with_reducible first | exact HB.out | apply below_alloc | apply pw_below_drewN | apply below_drew1) | exact HB.out))⟩
  | true =>
    have h12 : ¬ s.size ≤ 12 := fun z => h ⟨c, z⟩
    have HG := Aside0.mk (fun W => RBef.good_yes s.data.toList c W)
    change Aside0 (∀ W : World, Calls Tryd.prog 57 #[.string s] W fun e w' => e = .returned (.bool true) ∧ Drawn0 W w') at HG
    have HF := Aside0.mk (fun W => RSpec.few_no (s.size : Int) (by omega) W)
    clear h c h12
    go_enter Tryd.func20, Tryd.ntmps20
    go_wp2_with (first | (go_at_call 57; refine (HG.out _).mono ?_; rintro e w' ⟨rfl, ⟨nd, rfl⟩⟩) | (go_at_call 71; with_reducible refine (HF.out _).mono ?_; rintro e w' ⟨rfl, ⟨nd2, rfl⟩⟩))
    go_ret2
    exact ⟨rfl, (by repeat (first | (with_reducible first | exact HB.out | apply below_alloc | apply pw_below_drewN | apply below_drew1) | exact HB.out))⟩
set_option maxHeartbeats 4000000 in
set_option maxRecDepth 100000 in
theorem spec_yes (l : List UInt8) (h : rowB (bs l) = true) (h12 : (bs l).size ≤ 12) (w : World) :
    Calls Tryd.prog 20 #[.string (bs l)] w fun e w' => e = .returned (.tuple #[.bool (decide ((0 : Int) < ((befL l (2 ^ l.length)).length : Int))), .bool true]) ∧ Below w.heap.size w w' := by
  have HB := Aside0.mk (Below.refl w.heap.size w)
  have h60 := rowB_len h
  have HG := Aside0.mk (fun W => RBef.good_yes l h W)
  have HF := Aside0.mk (fun W => RSpec.few_yes (bs l).size (by omega) W)
  have HBE := Aside0.mk (fun W => RBef.before_calls l l.length rfl h12 W)
  clear h h60 h12
  generalize befL l (2 ^ l.length) = xs at *
  generalize bs l = s at *
  go_enter Tryd.func20, Tryd.ntmps20
  go_wp2_with (first | (go_at_call 57; refine (HG.out _).mono ?_; rintro e w' ⟨rfl, ⟨nd, rfl⟩⟩) | (go_at_call 71; with_reducible refine (HF.out _).mono ?_; rintro e w' ⟨rfl, ⟨nd2, rfl⟩⟩) | (go_at_call 72; refine (HBE.out _).mono ?_; rintro e w4 ⟨v, rfl, ho, hb⟩; obtain ⟨A, cc, rfl, hlc, hC⟩ := Kd.R_reads ho; clear ho hC; have HBn := Aside0.mk (below_step (by repeat (first | (with_reducible first | exact HB.out | apply below_alloc | apply pw_below_drewN | apply below_drew1) | exact HB.out)) hb); clear hb HB; have HB := HBn; clear HBn))
  go_ret2
  exact ⟨by first | rfl | simp, (by repeat (first | (with_reducible first | exact HB.out | apply below_alloc | apply pw_below_drewN | apply below_drew1) | exact HB.out))⟩
end Go.Proofs.YtleacijhpkogpabDoor.RHas
