/- How often each soldier turns until a row is at rest: the walks of spec.TurnsOfEach, impl.TurnsOfEach and its closure. -/
import Derived.Test.YtleacijhpkogpabDoorRTicks
import Derived.Test.YtleacijhpkogpabDoorRIsRow
import Derived.Test.YtleacijhpkogpabDoorRFacing
import Derived.Test.YtleacijhpkogpabDoorRRest
namespace Go.Proofs.YtleacijhpkogpabDoor.RTE
open Go.RowKit Go.Proofs.YtleacijhpkogpabDoorW.PrintWords Go.Proofs.YtleacijhpkogpabDoorW.PrintLast Go.Proofs.YtleacijhpkogpabDoorW.PrintMore Go.Shelf Go.Proofs.YtleacijhpkogpabDoor.PFnRowsRestOfAll Go.Proofs.YtleacijhpkogpabDoor.RPlain Go.Proofs.YtleacijhpkogpabDoor.RImpl
set_option linter.unusedVariables false
set_option linter.unusedSimpArgs false

theorem good_yes (l : List UInt8) (h : rowB (bs l) = true) (w : World) :
    Calls Tryd.prog 57 #[.string (bs l)] w fun e w' => e = .returned (.bool true) ∧ Drawn0 w w' := by
  have := RGood.good_calls (bs l) w
  rwa [h] at this
theorem good_no (s : ByteArray) (h : rowB s = false) (w : World) :
    Calls Tryd.prog 57 #[.string s] w fun e w' => e = .returned (.bool false) ∧ Drawn0 w w' := by
  have := RGood.good_calls s w
  rwa [h] at this
set_option maxHeartbeats 8000000 in
set_option maxRecDepth 100000 in
theorem spec_no (s : ByteArray) (h : rowB s = false) (w : World) :
    Calls Tryd.prog 12 #[.string s] w fun e w' => ∃ v, e = .returned (.tuple #[v, .bool false]) ∧ Kd.R (Kd.int .i64) 3 w' w.heap.size (fun _ => True) v [] ∧ Below w.heap.size w w' := by
  have HG := Aside0.mk (fun W => good_no s h W)
  clear h
  have HB := Aside0.mk (Below.refl w.heap.size w)
  go_enter Tryd.func12, Tryd.ntmps12
  go_wp2_with (go_at_call 57; refine (HG.out _).mono ?_; rintro e w' ⟨rfl, ⟨nd, rfl⟩⟩)
  go_ret2
  exact ⟨_, rfl, Kd.R_nil _ _ _ _ _, (by repeat (first | (with_reducible first | exact HB.out | apply below_alloc | apply pw_below_drewN | apply below_drew1) | exact HB.out))⟩
set_option maxHeartbeats 8000000 in
set_option maxRecDepth 100000 in
theorem spec_yes (l : List UInt8) (h : rowB (bs l) = true) (w : World) :
    Calls Tryd.prog 12 #[.string (bs l)] w fun e w' => ∃ v, e = .returned (.tuple #[v, .bool true]) ∧ Kd.R (Kd.int .i64) 3 w' w.heap.size (fun _ => True) v (eachL l (List.replicate l.length 0)) ∧ Below w.heap.size w w' := by
  have h60 := rowB_len h
  have hz : (bs l).size = l.length := rfl
  have HG := Aside0.mk (fun W => good_yes l h W)
  rw [hz] at h60
  have HB := Aside0.mk (Below.refl w.heap.size w)
  clear h
  obtain ⟨n, hn⟩ : ∃ n, n = l.length := ⟨_, rfl⟩
  have HN := Aside0.mk hn
  rw [← hn] at h60 hz ⊢
  clear hn
  generalize hs : bs l = s at *
  have HSS := Aside0.mk hs
  clear hs
  obtain ⟨h1, h2⟩ := h60
  go_enter Tryd.func12, Tryd.ntmps12
  go_wp2_with (first | (go_at_call 57; refine (HG.out _).mono ?_; rintro e w' ⟨rfl, ⟨nd, rfl⟩⟩) | ((with_reducible refine gate_dst (N := 12) rfl ?_); refine Kd.R_make (Kd.int .i64) (w0 := w) w.heap.size 3 rfl (N := 12) rfl 27 _ _ rfl (n : Int) rfl rfl Tryd.underlying27 (.int .i64 0) 8 info3 rfl (by decide) (by omega) 0 (ok := fun _ => True) (okp := fun _ => True) rfl (fun _ hk => hk) trivial (by omega) (by omega) (by repeat (first | (with_reducible first | exact HB.out | apply below_alloc | apply pw_below_drewN | apply below_drew1) | exact HB.out)) (below_size (by repeat (first | (with_reducible first | exact HB.out | apply below_alloc | apply pw_below_drewN | apply below_drew1) | exact HB.out))) ?_; intro v1 w5 ho hb hg hnew; rw [Int.toNat_natCast] at ho; obtain ⟨g, c, e, gb, gl, HGG⟩ := Kd.R_form ho (by simp; omega); rw [List.length_replicate] at e; subst e; have HO := Aside0.mk ho; have HBn := Aside0.mk hb; have GB := Aside0.mk gb; have GL := Aside0.mk gl; clear ho hb hg hnew HB gb gl HGG; have HB := HBn; clear HBn))
  clear HG
  go_loopg [0] (invB l) (fun kq v0 w' => ∃ (l1 : List UInt8) (out : List Int), v0 = .string (bs l1) ∧ Aside0 (invB l1 = kq) ∧ Aside0 (l1.length = n) ∧ Aside0 (out.length = n) ∧ Aside0 (eachL l1 out = eachL l (List.replicate n 0)) ∧ Aside0 (Kd.R (Kd.int .i64) 3 w' w.heap.size (fun _ => True) (.slice (some ⟨g, 0, none⟩) n c) out) ∧ Aside0 (g < w'.heap.size) ∧ Aside0 (Below w.heap.size w w'))
  case atStart => exact ⟨l, List.replicate n 0, by rw [HSS.out], ⟨rfl⟩, ⟨HN.out.symm⟩, ⟨by simp⟩, ⟨rfl⟩, HO, GL, ⟨(by repeat (first | (with_reducible first | exact HB.out | apply below_alloc | apply pw_below_drewN | apply below_drew1) | exact HB.out))⟩⟩
  case round =>
    clear HB HO GL
    obtain ⟨l1, out, rfl, HK, HLN, HON, H1, HO, GL, HB⟩ := hrel
    have HP := Aside0.mk (fun W => RSpec.pairs_calls (bs l1) (by have := HLN.out; rw [bs_size]; omega) W)
    have HT := Aside0.mk (fun W => RSpec.tick_calls (bs l1) (by have := HLN.out; rw [bs_size]; omega) W)
    cases c1 : hasB l1 with
    | true =>
      have hps := prs_pos 0 l1 c1
      have HI := Aside0.mk ((inv_tk l1).2 c1)
      have HSE := Aside0.mk (each_step c1 out)
      have HTL := Aside0.mk (tkB_len l1)
      have hpl := prs_len 0 l1
      have HMEM : Aside0 (∀ x ∈ prs 0 l1, 0 ≤ x ∧ x + 2 ≤ (n : Int)) := ⟨fun x hx => by have := prs_mem 0 l1 x hx; have := HLN.out; omega⟩
      rw [HLN.out] at hpl
      clear c1
      change Aside0 (∀ W : World, Calls Tryd.prog 62 #[.string (bs l1)] W fun e w' => ∃ v : Value, e = .returned v ∧ Kd.R (Kd.int .i64) 3 w' W.heap.size (fun _ => True) v (prs 0 l1) ∧ Below W.heap.size W w') at HP
      change Aside0 (∀ W : World, Calls Tryd.prog 63 #[.string (bs l1)] W fun e w' => e = .returned (.string (bs (tkB l1))) ∧ Below W.heap.size W w') at HT
      generalize prs 0 l1 = ps at *
      generalize hb1 : bs l1 = b1 at HP HT ⊢
      clear hb1
      go_wp2_with fail
      refine (HP.out _).mono ?_
      rintro e w3 ⟨v, rfl, ho, hb⟩
      obtain ⟨A3, cc3, rfl, hlc3, hC3⟩ := Kd.R_reads ho
      have HBn := Aside0.mk (below_step (by repeat (first | (with_reducible first | exact HB.out | apply below_alloc | apply pw_below_drewN | apply below_drew1) | exact HB.out)) hb)
      have HOn := Aside0.mk (Kd.R_below HO.out hb)
      have GLn := Aside0.mk (Nat.lt_of_lt_of_le GL.out hb.size)
      clear ho hb hC3 HB HO GL
      have HB := HBn
      have HO := HOn
      have GL := GLn
      clear HBn HOn GLn
      go_wp2_with fail
      refine (HP.out _).mono ?_
      rintro e w4 ⟨v, rfl, ho, hb⟩
      obtain ⟨A4, cc4, rfl, hlc4, hC4⟩ := Kd.R_reads ho
      have HPS : Aside0 (Kd.R (Kd.int .i64) 3 w4 w3.heap.size (fun k => k ≠ g) (.slice A4 ps.length cc4) ps) := ⟨Kd.R_mono (Kd.R_bound ho) (fun k hk => by have := hk.2.1; have := GL.out; omega)⟩
      have HBn := Aside0.mk (below_step (by repeat (first | (with_reducible first | exact HB.out | apply below_alloc | apply pw_below_drewN | apply below_drew1) | exact HB.out)) hb)
      have HOn := Aside0.mk (Kd.R_below HO.out hb)
      have GLn := Aside0.mk (Nat.lt_of_lt_of_le GL.out hb.size)
      clear ho hb hC4 HB HO GL
      have HB := HBn
      have HO := HOn
      have GL := GLn
      clear HBn HOn GLn
      go_wp2_with fail
      go_loopg [20] ps.length (fun kq2 v20 w' => ∃ (j : Nat), v20 = .int .i64 (j : Int) ∧ Aside0 (kq2 + j = ps.length) ∧ Aside0 (Kd.R (Kd.int .i64) 3 w' w3.heap.size (fun k => k ≠ g) (.slice A4 ps.length cc4) ps) ∧ Aside0 (Kd.R (Kd.int .i64) 3 w' w.heap.size (fun _ => True) (.slice (some ⟨g, 0, none⟩) n c) (bumps out (ps.take j))) ∧ Aside0 (g < w'.heap.size) ∧ Aside0 (Below w.heap.size w w'))
      case atStart => exact ⟨0, rfl, ⟨rfl⟩, HPS, HO, GL, ⟨(by repeat (first | (with_reducible first | exact HB.out | apply below_alloc | apply pw_below_drewN | apply below_drew1) | exact HB.out))⟩⟩
      case round =>
        clear HB HO GL HPS
        obtain ⟨j, rfl, HK2, HPS, HO, GL, HB⟩ := hrel
        by_cases hj : j < ps.length
        · have hm := HMEM.out ps[j] (List.getElem_mem hj)
          obtain ⟨k, hk⟩ := Int.eq_ofNat_of_zero_le hm.1
          obtain ⟨ad, e, hc⟩ := Kd.at_int (Kd.R_reads' HPS.out).2.2 (j : Int) (by omega) (by omega)
          cases e
          rw [show rd ps (j : Int) = ps[j] from RSpec.rd_nat ps j hj, hk, Int.toNat_natCast] at hc
          have hkn : k + 2 ≤ n := by omega
          have HBS : Aside0 (bumps out (ps.take (j + 1)) = bump (bumps out (ps.take j)) (k : Int)) := ⟨by rw [bumps_succ out ps j hj, hk]⟩
          clear hm hk
          obtain ⟨hx1, hf1⟩ := Kd.R_celln 0 HO.out (k : Int) (by omega) (by omega)
          obtain ⟨hx2, hf2⟩ := Kd.R_celln 0 HO.out ((k + 1 : Nat) : Int) (by omega) (by omega)
          replace hx1 : wr.cell? ⟨g, k, none⟩ = some (.int .i64 (rdI (bumps out (ps.take j)) k)) := hx1
          replace hf1 : wr.frozen? ⟨g, k, none⟩ = false := hf1
          replace hx2 : wr.cell? ⟨g, k + 1, none⟩ = some (.int .i64 (rdI (bumps out (ps.take j)) (k + 1))) := hx2
          replace hf2 : wr.frozen? ⟨g, k + 1, none⟩ = false := hf2
          have HP1 := Aside0.mk (Kd.R_putg HO.out (k : Int) (wrap64 (rdI (bumps out (ps.take j)) k + 1)))
          have HP2 := Aside0.mk (Kd.R_putg HP1.out.1 ((k + 1 : Nat) : Int) (wrap64 (rdI (bumps out (ps.take j)) (k + 1) + 1)))
          have HBB : Aside0 (bump (bumps out (ps.take j)) (k : Int) = ((bumps out (ps.take j)).set k (wrap64 (rdI (bumps out (ps.take j)) k + 1))).set (k + 1) (wrap64 (rdI (bumps out (ps.take j)) (k + 1) + 1))) := ⟨rfl⟩
          generalize rdI (bumps out (ps.take j)) k = q1 at *
          generalize rdI (bumps out (ps.take j)) (k + 1) = q2 at *
          go_wp2
          go_roundg (ps.length - (j + 1))
          case measure => have := HK2.out; omega
          case rel => exact ⟨j + 1, rfl, ⟨by have := HK2.out; omega⟩, ⟨Kd.R_far (p := ⟨g, k + 1, none⟩) (Kd.R_far (p := ⟨g, k, none⟩) HPS.out (fun _ h => h) _) (fun _ h => h) _⟩, ⟨by rw [HBS.out, HBB.out]; exact HP2.out.1⟩, ⟨by simp; exact GL.out⟩, ⟨below_set (below_set HB.out GB.out) GB.out⟩⟩
        · have hjj : j = ps.length := by have := HK2.out; omega
          have HE : Aside0 (bumps out (ps.take j) = bumps out ps) := ⟨by rw [hjj, List.take_length]⟩
          go_wp2_with fail
          refine (HT.out _).mono ?_
          rintro e w6 ⟨rfl, hb⟩
          have HBn := Aside0.mk (below_step HB.out hb)
          have HOn := Aside0.mk (Kd.R_below HO.out hb)
          have GLn := Aside0.mk (Nat.lt_of_lt_of_le GL.out hb.size)
          clear hb HB HO GL
          go_wp2
          go_roundg (invB (tkB l1))
          case measure => have := HI.out; have := HK.out; omega
          case rel => exact ⟨tkB l1, bumps out ps, rfl, ⟨rfl⟩, ⟨by rw [HTL.out]; exact HLN.out⟩, ⟨by rw [bumps_len]; exact HON.out⟩, ⟨by rw [← HSE.out]; exact H1.out⟩, ⟨by rw [← HE.out]; exact HOn.out⟩, GLn, HBn⟩
    | false =>
      have hps := prs_none 0 l1 c1
      have HSE := Aside0.mk (each_rest c1 out)
      clear c1 HT
      change Aside0 (∀ W : World, Calls Tryd.prog 62 #[.string (bs l1)] W fun e w' => ∃ v : Value, e = .returned v ∧ Kd.R (Kd.int .i64) 3 w' W.heap.size (fun _ => True) v (prs 0 l1) ∧ Below W.heap.size W w') at HP
      rw [hps] at HP
      clear hps
      generalize hb1 : bs l1 = b1 at HP ⊢
      clear hb1
      go_wp2_with fail
      refine (HP.out _).mono ?_
      rintro e w3 ⟨v, rfl, ho, hb⟩
      obtain ⟨A3, cc3, rfl, hlc3, hC3⟩ := Kd.R_reads ho
      have HBn := Aside0.mk (below_step (by repeat (first | (with_reducible first | exact HB.out | apply below_alloc | apply pw_below_drewN | apply below_drew1) | exact HB.out)) hb)
      have HOn := Aside0.mk (Kd.R_below HO.out hb)
      clear ho hb hC3 HB HO GL
      go_wp2
      go_ret2
      exact ⟨_, rfl, by rw [← H1.out, HSE.out]; exact HOn.out, HBn.out⟩
set_option maxHeartbeats 8000000 in
set_option maxRecDepth 100000 in
theorem impl_no (s : ByteArray) (h : rowB s = false) (w : World) :
    Calls Tryd.prog 13 #[.string s] w fun e w' => ∃ v, e = .returned (.tuple #[v, .bool false]) ∧ Kd.R (Kd.int .i64) 3 w' w.heap.size (fun _ => True) v [] ∧ Below w.heap.size w w' := by
  have HI := Aside0.mk (fun W => isRow_no s h W)
  clear h
  have HB := Aside0.mk (Below.refl w.heap.size w)
  go_enter Tryd.func13, Tryd.ntmps13
  go_wp2_with (go_at_call 59; refine (HI.out _).mono ?_; rintro e w3 ⟨rfl, hb⟩; have HBn := Aside0.mk (below_step (by repeat (first | (with_reducible first | exact HB.out | apply below_alloc | apply pw_below_drewN | apply below_drew1) | exact HB.out)) hb); clear hb HB; have HB := HBn; clear HBn)
  go_ret2
  exact ⟨_, rfl, Kd.R_nil _ _ _ _ _, (by repeat (first | (with_reducible first | exact HB.out | apply below_alloc | apply pw_below_drewN | apply below_drew1) | exact HB.out))⟩
theorem cell_far (W : World) (g k cb : Nat) {v : Value} (h : cb ≠ g) : (W.setCell ⟨g, k, none⟩ v).cell? ⟨cb, 0, none⟩ = W.cell? ⟨cb, 0, none⟩ := by
  have hh := Below.heap_setCell W ⟨g, k, none⟩ v cb h
  simp only [World.cell?, hh]
/-- What the closure holds and writes: the captured cell (block cb) holds the row of counts; the row. -/
structure EachIs (w1 : World) (cb g n c : Nat) (out : List Int) (W : World) : Prop where
  cell : W.cell? ⟨cb, 0, none⟩ = some (.slice (some ⟨g, 0, none⟩) n c)
  free : W.frozen? ⟨cb, 0, none⟩ = false
  row : Kd.R (Kd.int .i64) 3 W w1.heap.size (fun k => k ≠ cb) (.slice (some ⟨g, 0, none⟩) n c) out
  lt : g < W.heap.size ∧ cb < W.heap.size ∧ w1.heap.size ≤ g ∧ cb ≠ g
  below : Below w1.heap.size w1 W
theorem EachIs.up {w1 W W' : World} {cb g n c : Nat} {out : List Int} (h : EachIs w1 cb g n c out W) (hb : Below W.heap.size W W') : EachIs w1 cb g n c out W' :=
  ⟨(hb.cell (p := ⟨cb, 0, none⟩) h.lt.2.1).trans h.cell, (hb.frozen (p := ⟨cb, 0, none⟩) h.lt.2.1).trans h.free, Kd.R_below h.row hb, ⟨Nat.lt_of_lt_of_le h.lt.1 hb.size, Nat.lt_of_lt_of_le h.lt.2.1 hb.size, h.lt.2.2⟩, below_step h.below hb⟩
set_option maxHeartbeats 8000000 in
set_option maxRecDepth 100000 in
theorem each_1_calls (l : List UInt8) (n : Nat) (hn : l.length = n) (hl : 1 ≤ n ∧ n ≤ 1000) (w1 : World) (cb g c : Nat) (out : List Int) (W : World) (h : EachIs w1 cb g n c out W) :
    Calls Tryd.prog 67 #[.string (bs l), .pointer (some ⟨cb, 0, none⟩)] W fun e w' => e = .returned (.tuple #[]) ∧ EachIs w1 cb g n c (bumps out (prs 0 l)) w' := by
  have HF := Aside0.mk (fun V => facing_calls l (by omega) V)
  have HE := Aside0.mk h
  have hpl := prs_len 0 l
  have HMEM : Aside0 (∀ x ∈ prs 0 l, 0 ≤ x ∧ x + 2 ≤ (n : Int)) := ⟨fun x hx => by have := prs_mem 0 l x hx; omega⟩
  rw [hn] at hpl
  obtain ⟨hl1, hl2⟩ := hl
  clear h hn
  generalize prs 0 l = ps at *
  generalize bs l = x at *
  go_enter Tryd.func67, Tryd.ntmps67
  go_wp2_with fail
  refine (HF.out _).mono ?_
  rintro e w4 ⟨v, rfl, ho, hb⟩
  obtain ⟨A4, cc4, rfl, hlc4, hC4⟩ := Kd.R_reads ho
  have HPS : Aside0 (Kd.R (Kd.int .i64) 3 w4 W.heap.size (fun k => k ≠ g) (.slice A4 ps.length cc4) ps) := ⟨Kd.R_mono (Kd.R_bound ho) (fun k hk => by have := hk.2.1; have := HE.out.lt.1; omega)⟩
  have HEn := Aside0.mk (HE.out.up hb)
  clear ho hb hC4 HE
  go_wp2_with fail
  go_loopg [8] ps.length (fun kq2 v8 w' => ∃ (j : Nat), v8 = .int .i64 (j : Int) ∧ Aside0 (kq2 + j = ps.length) ∧ Aside0 (Kd.R (Kd.int .i64) 3 w' W.heap.size (fun k => k ≠ g) (.slice A4 ps.length cc4) ps) ∧ Aside0 (EachIs w1 cb g n c (bumps out (ps.take j)) w'))
  case atStart => exact ⟨0, rfl, ⟨rfl⟩, HPS, HEn⟩
  case round =>
    clear HPS HEn
    obtain ⟨j, rfl, HK2, HPS, HE⟩ := hrel
    by_cases hj : j < ps.length
    · have hm := HMEM.out ps[j] (List.getElem_mem hj)
      obtain ⟨k, hk⟩ := Int.eq_ofNat_of_zero_le hm.1
      obtain ⟨ad, e, hc⟩ := Kd.at_int (Kd.R_reads' HPS.out).2.2 (j : Int) (by omega) (by omega)
      cases e
      rw [show rd ps (j : Int) = ps[j] from RSpec.rd_nat ps j hj, hk, Int.toNat_natCast] at hc
      have hkn : k + 2 ≤ n := by omega
      have HBS : Aside0 (bumps out (ps.take (j + 1)) = bump (bumps out (ps.take j)) (k : Int)) := ⟨by rw [bumps_succ out ps j hj, hk]⟩
      clear hm hk
      obtain ⟨hx1, hf1⟩ := Kd.R_celln 0 HE.out.row (k : Int) (by omega) (by omega)
      obtain ⟨hx2, hf2⟩ := Kd.R_celln 0 HE.out.row ((k + 1 : Nat) : Int) (by omega) (by omega)
      replace hx1 : wr.cell? ⟨g, k, none⟩ = some (.int .i64 (rdI (bumps out (ps.take j)) k)) := hx1
      replace hf1 : wr.frozen? ⟨g, k, none⟩ = false := hf1
      replace hx2 : wr.cell? ⟨g, k + 1, none⟩ = some (.int .i64 (rdI (bumps out (ps.take j)) (k + 1))) := hx2
      replace hf2 : wr.frozen? ⟨g, k + 1, none⟩ = false := hf2
      have hcc := HE.out.cell
      have hcf := HE.out.free
      have hne : cb ≠ g := HE.out.lt.2.2.2
      have hne2 : g ≠ cb := fun e => hne e.symm
      have HP1 := Aside0.mk (Kd.R_putg HE.out.row (k : Int) (wrap64 (rdI (bumps out (ps.take j)) k + 1)))
      have HP2 := Aside0.mk (Kd.R_putg HP1.out.1 ((k + 1 : Nat) : Int) (wrap64 (rdI (bumps out (ps.take j)) (k + 1) + 1)))
      have HBB : Aside0 (bump (bumps out (ps.take j)) (k : Int) = ((bumps out (ps.take j)).set k (wrap64 (rdI (bumps out (ps.take j)) k + 1))).set (k + 1) (wrap64 (rdI (bumps out (ps.take j)) (k + 1) + 1))) := ⟨rfl⟩
      generalize rdI (bumps out (ps.take j)) k = q1 at *
      generalize rdI (bumps out (ps.take j)) (k + 1) = q2 at *
      go_wp2
      go_roundg (ps.length - (j + 1))
      case measure => have := HK2.out; omega
      case rel => exact ⟨j + 1, rfl, ⟨by have := HK2.out; omega⟩, ⟨Kd.R_far (p := ⟨g, k + 1, none⟩) (Kd.R_far (p := ⟨g, k, none⟩) HPS.out (fun _ h => h) _) (fun _ h => h) _⟩, ⟨by rw [HBS.out, HBB.out]; exact ⟨by rw [cell_far _ _ _ _ hne, cell_far _ _ _ _ hne]; exact hcc, by rw [World.frozen?_setCell, World.frozen?_setCell]; exact hcf, HP2.out.1, by simpa using HE.out.lt, below_set (below_set HE.out.below HE.out.lt.2.2.1) HE.out.lt.2.2.1⟩⟩⟩
    · have hjj : j = ps.length := by have := HK2.out; omega
      have HE2 : Aside0 (bumps out (ps.take j) = bumps out ps) := ⟨by rw [hjj, List.take_length]⟩
      go_wp2
      first | go_end0 | go_ret
      exact ⟨by first | rfl | simp, by rw [← HE2.out]; exact HE.out⟩
set_option maxHeartbeats 8000000 in
set_option maxRecDepth 100000 in
theorem impl_yes (l : List UInt8) (h : rowB (bs l) = true) (w : World) (hML : ML w) :
    Calls Tryd.prog 13 #[.string (bs l)] w fun e w' => ∃ v, e = .returned (.tuple #[v, .bool true]) ∧ Kd.R (Kd.int .i64) 3 w' w.heap.size (fun _ => True) v (eachL l (List.replicate l.length 0)) ∧ Below w.heap.size w w' := by
  have h60 := rowB_len h
  have hz : (bs l).size = l.length := rfl
  rw [hz] at h60
  have HI := Aside0.mk (fun W => isRow_yes l h W)
  have HH := Aside0.mk (fun cb g c W (hi : EachIs w cb g l.length c (List.replicate l.length 0) W) => (show Calls Tryd.prog 64 #[.string (bs l), .func (.func 67) #[] #[.pointer (some ⟨cb, 0, none⟩)]] W (fun e w' => e = .returned (.string ⟨(histL l).1.toArray⟩) ∧ EachIs w cb g l.length c (eachL l (List.replicate l.length 0)) w') from
    history_calls 67 #[.pointer (some ⟨cb, 0, none⟩)] (enters_ (P := Tryd.prog) Tryd.func67 (by kernel_rfl) rfl) (fun l' o => bumps o (prs 0 l')) (fun out W => EachIs w cb g l.length c out W)
      (fun s W hi => hML.of_below hi.below) (fun s W W' hi hb => hi.up hb) l.length (by omega) (fun l' out W hl' hi => each_1_calls l' l.length hl' (by omega) w cb g c out W hi) l rfl (List.replicate l.length 0) W hi))
  have HB := Aside0.mk (Below.refl w.heap.size w)
  clear h hML
  generalize eachL l (List.replicate l.length 0) = res at *
  generalize (⟨(histL l).1.toArray⟩ : ByteArray) = y at *
  generalize l.length = n at *
  generalize bs l = x at *
  obtain ⟨h1, h2⟩ := h60
  have hmf : ∀ (fn : Fn) (first cap : Array Value) (w : World), (Instr.makeFunc fn first cap).run Tryd.prog w = .ok (.func fn first cap) w := fun _ _ _ _ => rfl
  go_enter Tryd.func13, Tryd.ntmps13
  go_wp2_with (first | (go_at_call 59; refine (HI.out _).mono ?_; rintro e w3 ⟨rfl, hb⟩; have HBn := Aside0.mk (below_step (by repeat (first | (with_reducible first | exact HB.out | apply below_alloc | apply pw_below_drewN | apply below_drew1) | exact HB.out)) hb); clear hb HB; have HB := HBn; clear HBn) | ((with_reducible refine gate_dst (N := 10) rfl ?_); refine Kd.R_make (Kd.int .i64) (w0 := w) w.heap.size 3 rfl (N := 10) rfl 27 _ _ rfl (n : Int) rfl rfl Tryd.underlying27 (.int .i64 0) 8 info3 rfl (by decide) (by omega) 0 (ok := fun _ => True) (okp := fun _ => True) rfl (fun _ hk => hk) trivial (by omega) (by omega) (by repeat (first | (with_reducible first | exact HB.out | apply below_alloc | apply pw_below_drewN | apply below_drew1) | exact HB.out)) (below_size (by repeat (first | (with_reducible first | exact HB.out | apply below_alloc | apply pw_below_drewN | apply below_drew1) | exact HB.out))) ?_; intro v1 w5 ho hb hg hnew; rw [Int.toNat_natCast] at ho; obtain ⟨g, c, e, gb, gl, HGG⟩ := Kd.R_form ho (by simp; omega); rw [List.length_replicate] at e; subst e; have HO := Aside0.mk ho; have HBn := Aside0.mk hb; have GB := Aside0.mk gb; have GL := Aside0.mk gl; clear ho hb hg hnew HB gb gl HGG; have HB := HBn; clear HBn))
  have HE0 : EachIs w w5.heap.size g n c (List.replicate n 0) (w5.alloc (Obj.cells #[Value.slice (some ⟨g, 0, none⟩) n c] 27)) :=
    ⟨by simp, by simp, Kd.R_below (Kd.R_mono (Kd.R_bound HO.out) (fun k hk => (show k ≠ w5.heap.size by have := hk.2.2.1; omega))) (below_alloc (Below.refl w5.heap.size w5) _),
      ⟨by simp; have := GL.out; omega, by simp, GB.out, by have := GL.out; omega⟩, below_alloc HB.out _⟩
  refine (HH.out w5.heap.size g c _ HE0).mono ?_
  rintro e w7 ⟨rfl, he⟩
  have HE := Aside0.mk he
  have hcell := he.cell
  clear he HE0
  go_wp2
  go_ret2
  exact ⟨_, rfl, Kd.R_mono HE.out.row (fun _ _ => trivial), HE.out.below⟩
end Go.Proofs.YtleacijhpkogpabDoor.RTE
