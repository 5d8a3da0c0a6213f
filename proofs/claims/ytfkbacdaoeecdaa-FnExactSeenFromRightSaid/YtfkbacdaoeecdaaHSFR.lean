/- Who is seen from the right: the walks of spec.SeenFromRight, impl.SeenFromRight and of the law. -/
import Derived.Test.YtfkbacdaoeecdaaHGood
import Derived.Test.YtfkbacdaoeecdaaRMarksX
import Derived.Test.YtfkbacdaoeecdaaHSeenS
namespace Go.Proofs.Ytfkbacdaoeecdaa.HSFR
open Go.RowKit Go.Proofs.YtfkbacdaoeecdaaW.PrintWords Go.Proofs.YtfkbacdaoeecdaaW.PrintLast Go.Proofs.YtfkbacdaoeecdaaW.PrintMore Go.Proofs.Ytfkbacdaoeecdaa.HImpl Go.Proofs.Ytfkbacdaoeecdaa.HSeen
set_option linter.unusedVariables false
set_option linter.unusedSimpArgs false

set_option maxHeartbeats 8000000 in
set_option maxRecDepth 100000 in
theorem spec_SeenFromRight (A0 : Option Addr) (c0 : Nat) (l : List Int) (hl : l.length ≤ 1048576) (w : World) (h0 : Kd.C (Kd.int .i64) w A0 l.length l) (hc0 : l.length ≤ c0) :
    Calls Try.prog 17 #[.slice A0 l.length c0] w fun e w' => ∃ v : Value, e = .returned (.tuple #[v, .bool (good l)]) ∧ Kd.R (Kd.int .i64) 3 w' w.heap.size (fun _ => True) v (if good l = true then rightL l else []) ∧ Below w.heap.size w w' := by
  have HB := Aside0.mk (Below.refl w.heap.size w)
  have HC := Aside0.mk h0
  cases hg : good l with
  | false =>
    have HG := Aside0.mk (HSpecG.good_is A0 c0 l hl false hg w h0 hc0)
    clear h0 hg
    go_enter Try.func17, Try.ntmps17
    go_wp2_with (go_at_call 25; refine HG.out.mono ?_; rintro e w' ⟨rfl, ⟨nd, rfl⟩⟩)
    go_ret2
    exact ⟨_, rfl, Kd.R_nil _ _ _ _ _, (by repeat (first | (with_reducible first | exact HB.out | apply below_alloc | apply pw_below_drewN | apply below_drew1) | exact HB.out))⟩
  | true =>
    have HG := Aside0.mk (HSpecG.good_is A0 c0 l hl true hg w h0 hc0)
    have HF := Aside0.mk (fun W (hC : Kd.C (Kd.int .i64) W A0 l.length l) => sright_calls A0 c0 l hl W hC hc0)
    clear h0 hg
    simp only [if_true]
    go_enter Try.func17, Try.ntmps17
    go_wp2_with (first | (go_at_call 25; refine HG.out.mono ?_; rintro e w' ⟨rfl, ⟨nd, rfl⟩⟩) | (go_at_call 33; refine (HF.out _ (Kd.C_below HC.out (by repeat (first | (with_reducible first | exact HB.out | apply below_alloc | apply pw_below_drewN | apply below_drew1) | exact HB.out)))).mono ?_; rintro e w2 ⟨v2, rfl, ho, hb⟩; have HO := Aside0.mk (Kd.R_lower ho (below_size (by repeat (first | (with_reducible first | exact HB.out | apply below_alloc | apply pw_below_drewN | apply below_drew1) | exact HB.out)))); have HBn := Aside0.mk (below_step (by repeat (first | (with_reducible first | exact HB.out | apply below_alloc | apply pw_below_drewN | apply below_drew1) | exact HB.out)) hb); clear ho hb HB; have HB := HBn; clear HBn))
    go_ret2
    exact ⟨_, rfl, HO.out, (by repeat (first | (with_reducible first | exact HB.out | apply below_alloc | apply pw_below_drewN | apply below_drew1) | exact HB.out))⟩
set_option maxHeartbeats 8000000 in
set_option maxRecDepth 100000 in
theorem impl_SeenFromRight (A0 : Option Addr) (c0 : Nat) (l : List Int) (hl : l.length ≤ 1048576) (w : World) (h0 : Kd.C (Kd.int .i64) w A0 l.length l) (hc0 : l.length ≤ c0) :
    Calls Try.prog 18 #[.slice A0 l.length c0] w fun e w' => ∃ v : Value, e = .returned (.tuple #[v, .bool (good l)]) ∧ Kd.R (Kd.int .i64) 3 w' w.heap.size (fun _ => True) v (if good l = true then rightL l else []) ∧ Below w.heap.size w w' := by
  have HB := Aside0.mk (Below.refl w.heap.size w)
  have HC := Aside0.mk h0
  cases hg : good l with
  | false =>
    have HG := Aside0.mk (HImpl.are_is A0 c0 l false hg w h0 hc0)
    clear h0 hg
    go_enter Try.func18, Try.ntmps18
    go_wp2_with (go_at_call 28; refine HG.out.mono ?_; rintro e w' ⟨rfl, ⟨nd, rfl⟩⟩)
    go_ret2
    exact ⟨_, rfl, Kd.R_nil _ _ _ _ _, (by repeat (first | (with_reducible first | exact HB.out | apply below_alloc | apply pw_below_drewN | apply below_drew1) | exact HB.out))⟩
  | true =>
    have HG := Aside0.mk (HImpl.are_is A0 c0 l true hg w h0 hc0)
    have HM1 := Aside0.mk (fun W hC => HClone.mirrored_calls A0 c0 l hl W hC)
    have hr : l.reverse.length ≤ 1048576 := by simpa using hl
    have HSE := Aside0.mk (fun A c W hC hc => seen_calls A c l.reverse hr W hC hc)
    have hs : (seenR l.reverse 0 0).length ≤ 1048576 := Nat.le_trans (seenR_len l.reverse 0 0) hr
    have HM2 := Aside0.mk (fun A c W hC => HClone.mirrored_calls A c (seenR l.reverse 0 0) hs W hC)
    have hE : rightL l = (seenR l.reverse 0 0).reverse.map (rightMap l.length) := rfl
    have hsr : (seenR l.reverse 0 0).reverse.length ≤ 1048576 := by simpa using hs
    generalize (seenR l.reverse 0 0).reverse = m at HM2 hE hsr
    generalize seenR l.reverse 0 0 = sq at HSE HM2
    generalize l.reverse = lr at HM1 HSE
    simp only [if_true]
    generalize rightL l = T at hE
    have HE := Aside0.mk hE
    have HL := Aside0.mk hl
    clear h0 hg hs hr hE hl
    go_enter Try.func18, Try.ntmps18
    go_wp2_with (go_at_call 28; refine HG.out.mono ?_; rintro e w' ⟨rfl, ⟨nd, rfl⟩⟩)
    refine (HM1.out _ (Kd.C_below HC.out (by repeat (first | (with_reducible first | exact HB.out | apply below_alloc | apply pw_below_drewN | apply below_drew1) | exact HB.out)))).mono ?_
    rintro e w2 ⟨v2, rfl, ho, hb⟩
    obtain ⟨A2, c2, rfl, hc2, hC2⟩ := Kd.R_reads ho
    have HC2 := Aside0.mk hC2
    have HBn := Aside0.mk (below_step (by repeat (first | (with_reducible first | exact HB.out | apply below_alloc | apply pw_below_drewN | apply below_drew1) | exact HB.out)) hb)
    clear ho hC2 hb HB
    go_wp2_with fail
    refine (HSE.out A2 c2 _ HC2.out hc2).mono ?_
    rintro e w3 ⟨v3, rfl, ho, hb⟩
    obtain ⟨A3, c3, rfl, hc3, hC3⟩ := Kd.R_reads ho
    have HC3 := Aside0.mk hC3
    have HB3 := Aside0.mk (below_step HBn.out hb)
    clear ho hC3 hb HBn HC2
    go_wp2_with fail
    refine (HM2.out A3 c3 _ HC3.out).mono ?_
    rintro e w4 ⟨v4, rfl, ho, hb⟩
    have HO := Aside0.mk (Kd.R_lower ho HB3.out.size)
    obtain ⟨A4, c4, rfl, hc4, hC4⟩ := Kd.R_reads ho
    have HB := Aside0.mk (below_step HB3.out hb)
    clear ho hC4 hb HB3 HC3
    go_wp2_with fail
    go_loopg [5, 15] m.length (fun kq v5 v15 w' => ∃ (i : Nat) (x : List Int), v15 = .int .i64 (i : Int) ∧ Aside0 (kq + i = m.length) ∧ Aside0 (x.length = m.length) ∧ Aside0 (x.take i ++ (x.drop i).map (rightMap l.length) = T) ∧ Aside0 (Kd.R (Kd.int .i64) 3 w' w.heap.size (fun _ => True) (.slice A4 m.length c4) x) ∧ Aside0 (Below w.heap.size w w'))
    case atStart => exact ⟨0, m, rfl, ⟨rfl⟩, ⟨rfl⟩, ⟨by rw [HE.out]; rfl⟩, HO, HB⟩
    case round =>
      clear HO HB
      obtain ⟨i, x, rfl, HK, HX, HT, HO, HB⟩ := hrel
      by_cases hi : i < m.length
      · obtain ⟨g, cap, e, hgb, _, _⟩ := Kd.R_form HO.out (by have := HX.out; omega)
        simp only [Value.slice.injEq] at e
        obtain ⟨rfl, _, rfl⟩ := e
        obtain ⟨hx, hf⟩ := Kd.R_celln 0 HO.out (i : Int) (by omega) (by have := HX.out; omega)
        replace hx : wr.cell? ⟨g, i, none⟩ = some (.int .i64 (rd x (i : Int))) := hx
        replace hf : wr.frozen? ⟨g, i, none⟩ = false := hf
        have HP := Aside0.mk (Kd.R_putg HO.out (i : Int) (rightMap l.length (rd x (i : Int))))
        have HN : Aside0 ((x.set i (rightMap l.length (rd x (i : Int)))).take (i + 1) ++ ((x.set i (rightMap l.length (rd x (i : Int)))).drop (i + 1)).map (rightMap l.length) = T) := ⟨by
          rw [← HT.out, HSeen.drop_cons x i (by have := HX.out; omega), List.take_succ_eq_append_getElem (by have := HX.out; simp; omega), List.getElem_set_self, List.append_assoc]
          simp [List.take_set_of_le, List.drop_set_of_lt]⟩
        have hv : rightMap l.length (rd x (i : Int)) = wrap64 (wrap64 ((l.length : Int) - 1) - rd x (i : Int)) := rfl
        rw [hv] at HP HN
        clear hv HT
        generalize rd x (i : Int) = y at hx HP HN
        go_wp2_with fail
        go_roundg (m.length - (i + 1))
        case measure => have := HK.out; omega
        case rel => exact ⟨i + 1, _, by first | rfl | (simp; have := HL.out; unfold wrap64; omega), ⟨by omega⟩, ⟨by rw [List.length_set]; exact HX.out⟩, HN, ⟨HP.out.1⟩, ⟨below_set HB.out hgb⟩⟩
      · have HT2 : Aside0 (x = T) := ⟨by rw [← HT.out, List.take_of_length_le (by have := HX.out; omega), List.drop_eq_nil_of_le (by have := HX.out; omega), List.map_nil, List.append_nil]⟩
        go_wp2_with fail
        go_ret2
        exact ⟨_, rfl, by rw [← HT2.out]; exact HO.out, (by repeat (first | (with_reducible first | exact HB.out | apply below_alloc | apply pw_below_drewN | apply below_drew1) | exact HB.out))⟩
set_option maxHeartbeats 8000000 in
set_option maxRecDepth 100000 in
theorem SeenFromRight_same (A0 : Option Addr) (c0 : Nat) (l : List Int) (g : List Int) (b : Bool) (w : World) (hl : l.length ≤ 1048576) (hg : g.length ≤ 1048576)
    (h0 : Kd.C (Kd.int .i64) w A0 l.length l) (hc0 : l.length ≤ c0)
    (hS : ∀ (A : Option Addr) (c : Nat) (W : World), Kd.C (Kd.int .i64) W A l.length l → l.length ≤ c → Calls Try.prog 17 #[.slice A l.length c] W fun e w' => ∃ v, e = .returned (.tuple #[v, .bool b]) ∧ Kd.R (Kd.int .i64) 3 w' W.heap.size (fun _ => True) v g ∧ Below W.heap.size W w')
    (hI : ∀ (A : Option Addr) (c : Nat) (W : World), Kd.C (Kd.int .i64) W A l.length l → l.length ≤ c → Calls Try.prog 18 #[.slice A l.length c] W fun e w' => ∃ v, e = .returned (.tuple #[v, .bool b]) ∧ Kd.R (Kd.int .i64) 3 w' W.heap.size (fun _ => True) v g ∧ Below W.heap.size W w') :
    Calls Try.prog 5 #[.slice A0 l.length c0] w fun e w' => e = .returned (.bool true) ∧ Below w.heap.size w w' := by
  have HS := Aside0.mk hS
  have HI := Aside0.mk hI
  have HC := Aside0.mk h0
  have HL := Aside0.mk hl
  have HG := Aside0.mk hg
  have HUL := Aside0.mk (RMarks.upto_len g.length 0)
  clear hS hI h0
  go_enter Try.func5, Try.ntmps5
  go_wp2_with fail
  refine (HSpecG.to_calls A0 c0 l HL.out _ HC.out hc0).mono ?_
  rintro e w1 ⟨vt, rfl, ho, hb⟩
  obtain ⟨At, ct, rfl, hlt, hCt⟩ := Kd.R_reads ho
  have HCt := Aside0.mk hCt
  have HB1 := Aside0.mk hb
  clear ho hCt hb
  go_wp2_with fail
  refine (HS.out At ct _ HCt.out hlt).mono ?_
  rintro e w2 ⟨v0, rfl, ho, hb⟩
  obtain ⟨Aw, cw, rfl, hlw, hCw⟩ := Kd.R_reads ho
  have HCW := Aside0.mk hCw
  have HB2 := Aside0.mk (below_step HB1.out hb)
  clear ho hCw hb HCt HB1
  go_wp2_with fail
  refine (HSpecG.to_calls A0 c0 l HL.out _ (Kd.C_below HC.out HB2.out) hc0).mono ?_
  rintro e w3 ⟨vx, rfl, hox, hb⟩
  have HX := Aside0.mk hox
  have HBW := Aside0.mk hb
  have HS3 := Aside0.mk hb.size
  obtain ⟨Ax, cx, rfl, hlx, hCx⟩ := Kd.R_reads hox
  have HCX := Aside0.mk hCx
  clear hox hb hCx
  go_wp2_with fail
  refine (HI.out Ax cx _ HCX.out hlx).mono ?_
  rintro e w4 ⟨vg, rfl, hog, hb⟩
  have HG0 := Aside0.mk hog
  have HBW4 := Aside0.mk (below_step HBW.out hb)
  have HX4 := Aside0.mk (Kd.R_below HX.out hb)
  have HLX := Aside0.mk (fun k (hk : (Value.slice Ax l.length cx).ownBlock = some k) => Kd.R_lt HX.out k hk)
  have HSZ := Aside0.mk hb.size
  obtain ⟨Ag, cg, rfl, hlg, hCg⟩ := Kd.R_reads hog
  have HCG := Aside0.mk hCg
  clear hog hb hCg HBW HX HCX
  go_wp2_with fail
  refine (RMarks.eqI Ag cg Aw cw g HG.out _ HCG.out hlg (Kd.C_below HCW.out HBW4.out) hlw).mono ?_
  rintro e w' ⟨rfl, ⟨nd1, rfl⟩⟩
  have HB5 := Aside0.mk (below_step HB2.out (pw_below_drewN HBW4.out nd1))
  cases b
  all_goals
    go_wp2_with fail
    refine (HSpecG.to_calls A0 c0 l HL.out _ (Kd.C_below HC.out HB5.out) hc0).mono ?_
    rintro e w5 ⟨vy, rfl, hoy, hb⟩
    have HBW5 := Aside0.mk (below_step (pw_below_drewN HBW4.out nd1) hb)
    have HX5 := Aside0.mk (Kd.R_below (Kd.R_drewN HX4.out nd1) hb)
    have HG5 := Aside0.mk (Kd.R_below (Kd.R_drewN HG0.out nd1) hb)
    obtain ⟨Ay, cy, rfl, hly, hCy⟩ := Kd.R_reads hoy
    have HCY := Aside0.mk hCy
    clear hoy hb hCy HCG
    go_wp2_with fail
    refine (RMarks.eqI Ax cx Ay cy l HL.out _ (Kd.R_reads' HX5.out).2.2 hlx HCY.out hly).mono ?_
    rintro e w' ⟨rfl, ⟨nd2, rfl⟩⟩
    have HMX := Aside0.mk (RMarksX.markK (.slice Ax l.length cx) l HL.out (fun k => k < w3.heap.size) w2 (w5.drewN nd2) (pw_below_drewN HBW5.out nd2) (Kd.R_mono (Kd.R_tight rfl (Kd.R_drewN HX5.out nd2)) (fun k hk => HLX.out k hk.symm)))
    have HG6 := Aside0.mk (Kd.R_drewN HG5.out nd2)
    clear HX5 HCY HBW5 HG5
    go_wp2_with fail
    refine HMX.out.mono ?_
    rintro e w6 ⟨rfl, _, hb, hkept⟩
    have HBW := Aside0.mk hb
    have HO := Aside0.mk (Kd.R_lower (Kd.R_mono (ok' := fun _ => True) (Kd.R_step (Kd.R_bound HG6.out) (fun k hk hlt => hkept.2 k hlt (fun h => Nat.lt_irrefl _ (Nat.lt_of_lt_of_le h hk.2.1)))) (fun _ _ => trivial)) HS3.out)
    have HCG := Aside0.mk (Kd.R_reads' HO.out).2.2
    clear hb hkept HMX HG6
    go_wp2_with fail
    refine (RMarks.eqI Ag cg Aw cw g HG.out _ HCG.out hlg (Kd.C_below HCW.out HBW.out) hlw).mono ?_
    rintro e w' ⟨rfl, ⟨nd3, rfl⟩⟩
    have HBW1 := Aside0.mk (pw_below_drewN HBW.out nd3)
    have HO1 := Aside0.mk (Kd.R_drewN HO.out nd3)
    clear HBW HO HCG
    have HBW := HBW1
    have HO := HO1
    clear HBW1 HO1
    go_wp2_with fail
    refine (RMarks.markI _ g HG.out w2 _ HBW.out HO.out).mono ?_
    rintro e w7 ⟨rfl, ho, hb⟩
    have HBW1 := Aside0.mk hb
    have HO1 := Aside0.mk ho
    have HCG := Aside0.mk (Kd.R_reads' ho).2.2
    clear ho hb HBW HO
    go_wp2_with fail
    refine (RMarks.heldI Ag cg g.length HG.out _ HCG.out (by rw [HUL.out]; exact hlg)).mono ?_
    rintro e w8 ⟨rfl, hb⟩
    have HBW := Aside0.mk (below_step HBW1.out hb)
    have HO := Aside0.mk (Kd.R_below HO1.out hb)
    have HB8 := Aside0.mk (below_step HB2.out HBW.out)
    clear hb HBW1 HO1 HCG
    go_wp2_with fail
    refine (HSpecG.to_calls A0 c0 l HL.out _ (Kd.C_below HC.out HB8.out) hc0).mono ?_
    rintro e w9 ⟨vz, rfl, hoz, hb⟩
    obtain ⟨Az, cz, rfl, hlz, hCz⟩ := Kd.R_reads hoz
    have HCZ := Aside0.mk hCz
    have HBW1 := Aside0.mk (below_step HBW.out hb)
    have HO1 := Aside0.mk (Kd.R_below HO.out hb)
    clear hoz hCz hb HBW HO HB8
    go_wp2_with fail
    refine (HI.out Az cz _ HCZ.out hlz).mono ?_
    rintro e w10 ⟨vh, rfl, hoh, hb⟩
    obtain ⟨Ah, ch, rfl, hlh, hCh⟩ := Kd.R_reads hoh
    have HCH := Aside0.mk hCh
    have HBW := Aside0.mk (below_step HBW1.out hb)
    have HO := Aside0.mk (Kd.R_below HO1.out hb)
    clear hoh hCh hb HBW1 HO1 HCZ
    go_wp2_with fail
    refine (RMarks.eqI Ah ch Aw cw g HG.out _ HCH.out hlh (Kd.C_below HCW.out HBW.out) hlw).mono ?_
    rintro e w' ⟨rfl, ⟨nd4, rfl⟩⟩
    have HB := Aside0.mk (below_step HB2.out HBW.out)
    have HCG := Aside0.mk (Kd.R_reads' (Kd.R_drewN HO.out nd4)).2.2
    clear HBW HO HCH
    go_wp2_with fail
    refine (RMarks.heldI Ag cg g.length HG.out _ HCG.out (by rw [HUL.out]; exact hlg)).mono ?_
    rintro e w11 ⟨rfl, hb⟩
    have HBn := Aside0.mk (below_step (by repeat (first | (with_reducible first | exact HB.out | apply below_alloc | apply pw_below_drewN | apply below_drew1) | exact HB.out)) hb)
    clear HB hb HCG
    have HB := HBn
    clear HBn
    go_wp2_with fail
    go_ret
    exact ⟨rfl, (by repeat (first | (with_reducible first | exact HB.out | apply below_alloc | apply pw_below_drewN | apply below_drew1) | exact HB.out))⟩
set_option maxHeartbeats 8000000 in
set_option maxRecDepth 100000 in
theorem SeenFromRight_long (A0 : Option Addr) (c0 : Nat) (l : List Int) (w : World) (hl : 1048576 < l.length) (h2 : l.length ≤ 9223372036854775807) :
    Calls Try.prog 5 #[.slice A0 l.length c0] w fun e w' => e = .returned (.bool true) ∧ Below w.heap.size w w' := by
  have HB := Aside0.mk (Below.refl w.heap.size w)
  go_enter Try.func5, Try.ntmps5
  go_wp2
  go_ret
  exact ⟨rfl, (by repeat (first | (with_reducible first | exact HB.out | apply below_alloc | apply pw_below_drewN | apply below_drew1) | exact HB.out))⟩
theorem SeenFromRight_walk (A0 : Option Addr) (c0 : Nat) (l : List Int) (w : World) (h0 : Kd.C (Kd.int .i64) w A0 l.length l) (hc0 : l.length ≤ c0) (hm : l.length ≤ maxLen) :
    Calls Try.prog 5 #[.slice A0 l.length c0] w fun e w' => e = .returned (.bool true) ∧ Below w.heap.size w w' := by
  rcases Nat.lt_or_ge 1048576 l.length with h | h
  · exact SeenFromRight_long A0 c0 l w h (Nat.le_trans hm (by decide))
  · exact SeenFromRight_same A0 c0 l (if good l = true then rightL l else []) (good l) w h (by split <;> first | (rw [rightL_len]; exact Nat.le_trans (seenR_len _ 0 0) (by simpa using h); done) | simp) h0 hc0 (fun A c W hC hc => spec_SeenFromRight A c l h W hC hc) (fun A c W hC hc => impl_SeenFromRight A c l h W hC hc)
end Go.Proofs.Ytfkbacdaoeecdaa.HSFR
