/- The ranks of heights: the walk of impl.RanksOf and of the law; the reference over its printed walk. -/
import Derived.Test.YtfkbacdaoeecdabPFnExactRanksOfx8
import Derived.Test.YtfkbacdaoeecdabHGoodQ
import Derived.Test.YtfkbacdaoeecdabHGood
import Derived.Test.YtfkbacdaoeecdabRMarksX
import Derived.Test.YtfkbacdaoeecdabHClone
namespace Go.Proofs.Ytfkbacdaoeecdab.HRank
open Go.RowKit Go.Proofs.YtfkbacdaoeecdabW.PrintWords Go.Proofs.YtfkbacdaoeecdabW.PrintLast Go.Proofs.YtfkbacdaoeecdabW.PrintMore Go.Proofs.Ytfkbacdaoeecdab.HImpl Go.Proofs.Ytfkbacdaoeecdab.PFnExactRanksOf Go.Proofs.Ytfkbacdaoeecdab.HSpecGQ
set_option linter.unusedVariables false
set_option linter.unusedSimpArgs false

/-! ranks -/
def cntR : List Int → Nat → Nat → Int → Nat
  | [], _, _, _ => 0
  | o :: t, j, i, h => (if o < h then 1 else if o = h then (if j < i then 1 else 0) else 0) + cntR t (j + 1) i h
def ranksR (l : List Int) : List Int → Nat → List Int
  | [], _ => []
  | h :: t, i => ((cntR l 0 i h : Nat) : Int) :: ranksR l t (i + 1)
theorem ranksR_len (l : List Int) : ∀ (t : List Int) (i : Nat), (ranksR l t i).length = t.length
  | [], _ => rfl
  | _ :: t, i => by simp [ranksR, ranksR_len l t (i + 1)]
theorem rank_in (l : List Int) (hl : l.length ≤ 1048576) (out : List Int) (ho : out.length ≤ 1048576) (i : Nat) (hi : i ≤ 1048576) (h : Int) (R : List Int × Bool) : ∀ (d j c : Nat), j + d = l.length → c ≤ j →
    Ev (fun k => spec_RanksOf.l0 k l (out ++ [((c + cntR (l.drop j) j i h : Nat) : Int)]) l (l.length : Int) ((i + 1 : Nat) : Int)) R →
    Ev (fun k => spec_RanksOf.l1 k l out (i : Int) h (c : Int) l (l.length : Int) (i : Int) l (l.length : Int) (j : Int)) R := by
  intro d
  induction d with
  | zero =>
    intro j c hj hc hev
    rw [List.drop_eq_nil_of_le (by omega)] at hev
    refine Ev.step (f := fun k => spec_RanksOf.l0 k l (out ++ [((c + cntR [] j i h : Nat) : Int)]) l (l.length : Int) ((i + 1 : Nat) : Int)) (fun k => ?_) hev
    simp only [spec_RanksOf.l1, cntR, Nat.add_zero]
    rw [if_neg (by omega), if_pos (by omega), w1 i (by omega)]
  | succ d ih =>
    intro j c hj hc hev
    have hlt : j < l.length := by omega
    rw [drop_cons l j hlt] at hev
    simp only [cntR] at hev
    by_cases c1 : rd l (j : Int) < h
    · rw [if_pos c1] at hev
      have hr := ih (j + 1) (c + 1) (by omega) (by omega) (by rw [Nat.add_assoc]; exact hev)
      refine Ev.step (fun k => ?_) hr
      simp only [spec_RanksOf.l1]
      rw [if_pos (by omega), if_pos (by omega), if_pos (by omega), if_pos c1, w1 c (by omega), w1 j (by omega)]
    · rw [if_neg c1] at hev
      by_cases c2 : rd l (j : Int) = h
      · rw [if_pos c2] at hev
        by_cases c3 : j < i
        · rw [if_pos c3] at hev
          have hr := ih (j + 1) (c + 1) (by omega) (by omega) (by rw [Nat.add_assoc]; exact hev)
          refine Ev.step (fun k => ?_) hr
          simp only [spec_RanksOf.l1]
          rw [if_pos (by omega), if_pos (by omega), if_pos (by omega), if_neg c1, if_pos c2, if_pos (by omega), w1 c (by omega), w1 j (by omega)]
        · rw [if_neg c3, Nat.zero_add] at hev
          have hr := ih (j + 1) c (by omega) (by omega) hev
          refine Ev.step (fun k => ?_) hr
          simp only [spec_RanksOf.l1]
          rw [if_pos (by omega), if_pos (by omega), if_pos (by omega), if_neg c1, if_pos c2, if_neg (by omega), w1 j (by omega)]
      · rw [if_neg c2, Nat.zero_add] at hev
        have hr := ih (j + 1) c (by omega) (by omega) hev
        refine Ev.step (fun k => ?_) hr
        simp only [spec_RanksOf.l1]
        rw [if_pos (by omega), if_pos (by omega), if_pos (by omega), if_neg c1, if_neg c2, w1 j (by omega)]
theorem rank_out (l : List Int) (hl : l.length ≤ 1048576) : ∀ (d i : Nat) (out : List Int), i + d = l.length → out.length = i →
    Ev (fun k => spec_RanksOf.l0 k l out l (l.length : Int) (i : Int)) (out ++ ranksR l (l.drop i) i, true) := by
  intro d
  induction d with
  | zero =>
    intro i out hi ho
    refine Ev.step (f := fun _ => some (out, true)) (fun k => ?_) ?_
    · simp only [spec_RanksOf.l0]
      rw [if_neg (by omega)]
    · rw [List.drop_eq_nil_of_le (by omega)]
      simp only [ranksR, List.append_nil]
      exact Ev.now _
  | succ d ih =>
    intro i out hi ho
    have hlt : i < l.length := by omega
    rw [drop_cons l i hlt]
    simp only [ranksR]
    have hr := ih (i + 1) (out ++ [((cntR l 0 i (rd l (i : Int)) : Nat) : Int)]) (by omega) (by simp; omega)
    rw [List.append_assoc] at hr
    have h2 := rank_in l hl out (by omega) i (by omega) (rd l (i : Int)) _ l.length 0 0 (by omega) (by omega) (by rw [Nat.zero_add, List.drop_zero]; exact hr)
    refine Ev.step (fun k => ?_) h2
    simp only [spec_RanksOf.l0]
    rw [if_pos (by omega), if_pos (by omega), if_pos (by omega)]
    rfl
theorem ranks_ev (l : List Int) (hl : l.length ≤ 1048576) : Ev (fun k => spec_RanksOf.l0 k l [] l (l.length : Int) 0) (ranksR l l 0, true) := by
  have := rank_out l hl l.length 0 [] (by omega) rfl
  simpa using this
theorem spec_RanksOf (A0 : Option Addr) (c0 : Nat) (l : List Int) (hl : l.length ≤ 1048576) (w : World) (h0 : Kd.C (Kd.int .i64) w A0 l.length l) (hc0 : l.length ≤ c0) :
    Calls Try.prog 17 #[.slice A0 l.length c0] w fun e w' => ∃ v : Value, e = .returned (.tuple #[v, .bool (good l)]) ∧ Kd.R (Kd.int .i64) 3 w' w.heap.size (fun _ => True) v (if good l = true then ranksR l l 0 else []) ∧ Below w.heap.size w w' := by
  have h : Ev (fun k => spec_RanksOf.f k l) (if good l = true then ranksR l l 0 else [], good l) := by
    refine Ev.bind (good_ev l hl) ?_
    cases hg : good l with
    | true =>
      simp only [if_true]
      exact ranks_ev l hl
    | false => exact Ev.now _
  obtain ⟨k, hk⟩ := h.rounds
  exact spec_RanksOf.calls k A0 c0 l _ _ w h0 hc0 hk
theorem cntR_le (i : Nat) (h : Int) : ∀ (t : List Int) (j : Nat), cntR t j i h ≤ t.length
  | [], _ => Nat.le_refl _
  | o :: t, j => by
    have := cntR_le i h t (j + 1)
    simp only [cntR, List.length_cons]
    (repeat' split) <;> omega
set_option maxHeartbeats 8000000 in
set_option maxRecDepth 100000 in
theorem impl_RanksOf (A0 : Option Addr) (c0 : Nat) (l : List Int) (hl : l.length ≤ 1048576) (w : World) (h0 : Kd.C (Kd.int .i64) w A0 l.length l) (hc0 : l.length ≤ c0) :
    Calls Try.prog 18 #[.slice A0 l.length c0] w fun e w' => ∃ v : Value, e = .returned (.tuple #[v, .bool (good l)]) ∧ Kd.R (Kd.int .i64) 3 w' w.heap.size (fun _ => True) v (if good l = true then ranksR l l 0 else []) ∧ Below w.heap.size w w' := by
  have HB := Aside0.mk (Below.refl w.heap.size w)
  have HC := Aside0.mk h0
  cases hg : good l with
  | false =>
    have HG := Aside0.mk (HImpl.are_is A0 c0 l false hg w h0 hc0)
    clear h0 hg
    go_enter Try.func18, Try.ntmps18
    go_wp2_with (go_at_call 26; refine HG.out.mono ?_; rintro e w' ⟨rfl, ⟨nd, rfl⟩⟩)
    go_ret2
    exact ⟨_, rfl, Kd.R_nil _ _ _ _ _, (by repeat (first | (with_reducible first | exact HB.out | apply below_alloc | apply pw_below_drewN | apply below_drew1) | exact HB.out))⟩
  | true =>
    have HG := Aside0.mk (HImpl.are_is A0 c0 l true hg w h0 hc0)
    obtain ⟨hl1, hl2⟩ := good_len hg
    clear h0 hg
    simp only [if_true]
    have HE0 : Aside0 (ranksR l (l.drop 0) 0 = ranksR l l 0) := ⟨by rw [List.drop_zero]⟩
    generalize ranksR l l 0 = T at HE0
    go_enter Try.func18, Try.ntmps18
    go_wp2_with (first | (go_at_call 26; refine HG.out.mono ?_; rintro e w' ⟨rfl, ⟨nd, rfl⟩⟩) | ((with_reducible refine gate_dst (N := 13) rfl ?_); refine Kd.R_lit (Kd.int .i64) (w0 := w) w.heap.size 3 ?hg (N := 13) ?hd (xs := ([] : List Int)) (inner := []) (ok := fun _ => True) (okp := fun _ => True) ?hr ?hp (fun _ hk => hk) trivial (by repeat (first | (with_reducible first | exact HB.out | apply below_alloc | apply pw_below_drewN | apply below_drew1) | exact HB.out)) (below_size (by repeat (first | (with_reducible first | exact HB.out | apply below_alloc | apply pw_below_drewN | apply below_drew1) | exact HB.out))) (by simp) ?_; (case hd => rfl); (case hg => rfl); (case hr => first | (go_simp; done) | (go_simp; rfl)); (case hp => exact (Reps.none _ _)); intro v1 w1 ho hb hg hnew; have HO := Aside0.mk ho; have HBn := Aside0.mk hb; clear ho hb hg hnew HB; have HB := HBn; clear HBn))
    go_loopg [4, 16] l.length (fun kq v4 v16 w' => ∃ (i : Nat) (acc : List Int), v16 = .int .i64 (i : Int) ∧ Aside0 (kq + i = l.length) ∧ Aside0 (acc.length = i) ∧ Aside0 (acc ++ ranksR l (l.drop i) i = T) ∧ Aside0 (Kd.R (Kd.int .i64) 3 w' w.heap.size (fun _ => True) v4 acc) ∧ Aside0 (Below w.heap.size w w'))
    case atStart => exact ⟨0, [], rfl, ⟨rfl⟩, ⟨rfl⟩, ⟨by rw [List.nil_append]; exact HE0.out⟩, HO, HB⟩
    case round =>
      clear HO HB HE0
      obtain ⟨i, acc, rfl, HK, HAL, HE, HO, HB⟩ := hrel
      by_cases hi : i < l.length
      · have HE1 : Aside0 (acc ++ [((cntR l 0 i (rd l (i : Int)) : Nat) : Int)] ++ ranksR l (l.drop (i + 1)) (i + 1) = T) := ⟨by
          have := HE.out
          rw [drop_cons l i hi, ranksR] at this
          rw [List.append_assoc]; exact this⟩
        obtain ⟨ad, e, hci⟩ := Kd.at_int HC.out (i : Int) (by omega) (by omega)
        cases e
        generalize rd l (i : Int) = h at hci HE1
        rw [Int.toNat_natCast] at hci
        have HCI := Aside0.mk hci
        replace hci := pw_cell_below HB.out hci
        have HCN0 : Aside0 (0 + cntR (l.drop 0) 0 i h = cntR l 0 i h) := ⟨by rw [List.drop_zero, Nat.zero_add]⟩
        have HLE := Aside0.mk (cntR_le i h l 0)
        generalize cntR l 0 i h = n at HE1 HCN0 HLE
        go_wp2_with fail
        go_loopg [7, 23] l.length (fun kq2 v7 v23 w' => ∃ (j c : Nat), v7 = .int .i64 (c : Int) ∧ v23 = .int .i64 (j : Int) ∧ Aside0 (kq2 + j = l.length) ∧ Aside0 (c ≤ j) ∧ Aside0 (c + cntR (l.drop j) j i h = n) ∧ Aside0 (Kd.R (Kd.int .i64) 3 w' w.heap.size (fun _ => True) u4 acc) ∧ Aside0 (Below w.heap.size w w'))
        case atStart => exact ⟨0, 0, rfl, rfl, ⟨rfl⟩, ⟨by omega⟩, HCN0, HO, HB⟩
        case round =>
          clear HO HB HCN0 hci
          obtain ⟨j, c, rfl, rfl, HK2, HCJ, HCN, HO, HB⟩ := hrel
          by_cases hj : j < l.length
          · obtain ⟨ad2, e, hcj⟩ := Kd.at_int HC.out (j : Int) (by omega) (by omega)
            cases e
            rw [Int.toNat_natCast] at hcj
            have HCN2 : Aside0 (c + ((if rd l (j : Int) < h then 1 else if rd l (j : Int) = h then (if j < i then 1 else 0) else 0) + cntR (l.drop (j + 1)) (j + 1) i h) = n) := ⟨by
              have := HCN.out
              rw [drop_cons l j hj, cntR] at this
              exact this⟩
            generalize rd l (j : Int) = x at hcj HCN2
            replace hcj := pw_cell_below HB.out hcj
            have hcb := HCJ.out
            clear HCN
            by_cases c1 : x < h
            · have HCN3 : Aside0 (c + 1 + cntR (l.drop (j + 1)) (j + 1) i h = n) := ⟨by have := HCN2.out; rw [if_pos c1] at this; omega⟩
              go_wp2_with fail
              go_roundg (l.length - (j + 1))
              case measure => have := HK2.out; omega
              case rel => exact ⟨j + 1, c + 1, rfl, rfl, ⟨by have := HK2.out; omega⟩, ⟨by omega⟩, HCN3, HO, HB⟩
            · by_cases c2 : x = h
              · subst c2
                by_cases c3 : j < i
                · have HCN3 : Aside0 (c + 1 + cntR (l.drop (j + 1)) (j + 1) i x = n) := ⟨by have := HCN2.out; rw [if_neg c1, if_pos rfl, if_pos c3] at this; omega⟩
                  have c3' : (j : Int) < (i : Int) := by omega
                  go_wp2_with fail
                  go_roundg (l.length - (j + 1))
                  case measure => have := HK2.out; omega
                  case rel => exact ⟨j + 1, c + 1, rfl, rfl, ⟨by have := HK2.out; omega⟩, ⟨by omega⟩, HCN3, HO, HB⟩
                · have HCN3 : Aside0 (c + cntR (l.drop (j + 1)) (j + 1) i x = n) := ⟨by have := HCN2.out; rw [if_neg c1, if_pos rfl, if_neg c3] at this; omega⟩
                  have c3' : ¬ (j : Int) < (i : Int) := by omega
                  go_wp2_with fail
                  go_roundg (l.length - (j + 1))
                  case measure => have := HK2.out; omega
                  case rel => exact ⟨j + 1, c, rfl, rfl, ⟨by have := HK2.out; omega⟩, ⟨by omega⟩, HCN3, HO, HB⟩
              · have HCN3 : Aside0 (c + cntR (l.drop (j + 1)) (j + 1) i h = n) := ⟨by have := HCN2.out; rw [if_neg c1, if_neg c2] at this; omega⟩
                go_wp2_with fail
                go_roundg (l.length - (j + 1))
                case measure => have := HK2.out; omega
                case rel => exact ⟨j + 1, c, rfl, rfl, ⟨by have := HK2.out; omega⟩, ⟨by omega⟩, HCN3, HO, HB⟩
          · have HCN3 : Aside0 (c = n) := ⟨by have := HCN.out; rw [List.drop_eq_nil_of_le (by omega)] at this; exact this⟩
            have hal := HAL.out
            clear HCN
            go_wp2_with ((with_reducible refine gate_builtin (b := .append) (xs := #[.tmp 44, .tmp 46]) rfl ?_); at_builtin; refine Kd.R_append (Kd.int .i64) (w0 := w) w.heap.size rfl (.tmp 44) (.tmp 46) 22 3 (.int .i64 0) 8 rfl Try.underlying22 HClone.info_int rfl (by decide) (by omega) u4 acc (c : Int) [.int .i64 (c : Int)] (fun _ => True) (fun _ => False) rfl rfl ?aP (fun _ hk => hk.elim) (fun _ _ => trivial) ?aO ?aB ?aS ?aL ?_; (case aP => exact rfl); (case aO => exact HO.out); (case aB => exact HB.out); (case aS => exact HB.out.size); (case aL => omega); intro v7 w7 ho hb hg hat; have HOn := Aside0.mk ho; have HBn := Aside0.mk hb; clear ho hb hg hat HO HB; have HO := HOn; have HB := HBn; clear HOn HBn)
            go_roundg (l.length - (i + 1))
            case measure => have := HK.out; omega
            case rel => exact ⟨i + 1, acc ++ [(c : Int)], rfl, ⟨by have := HK.out; omega⟩, ⟨by simp; omega⟩, ⟨by rw [HCN3.out]; exact HE1.out⟩, HO, HB⟩
      · have HE2 : Aside0 (acc = T) := ⟨by have := HE.out; rw [List.drop_eq_nil_of_le (by omega), ranksR, List.append_nil] at this; exact this⟩
        clear HE
        go_wp2_with fail
        go_ret2
        exact ⟨_, rfl, by rw [← HE2.out]; exact HO.out, (by repeat (first | (with_reducible first | exact HB.out | apply below_alloc | apply pw_below_drewN | apply below_drew1) | exact HB.out))⟩
set_option maxHeartbeats 8000000 in
set_option maxRecDepth 100000 in
theorem RanksOf_same (A0 : Option Addr) (c0 : Nat) (l : List Int) (g : List Int) (b : Bool) (w : World) (hl : l.length ≤ 1048576) (hg : g.length ≤ 1048576)
    (h0 : Kd.C (Kd.int .i64) w A0 l.length l) (hc0 : l.length ≤ c0)
    (hS : ∀ (A : Option Addr) (c : Nat) (W : World), Kd.C (Kd.int .i64) W A l.length l → l.length ≤ c → Calls Try.prog 17 #[.slice A l.length c] W fun e w' => ∃ v, e = .returned (.tuple #[v, .bool b]) ∧ Kd.R (Kd.int .i64) 3 w' W.heap.size (fun _ => True) v g ∧ Below W.heap.size W w')
    (hI : ∀ (A : Option Addr) (c : Nat) (W : World), Kd.C (Kd.int .i64) W A l.length l → l.length ≤ c → Calls Try.prog 18 #[.slice A l.length c] W fun e w' => ∃ v, e = .returned (.tuple #[v, .bool b]) ∧ Kd.R (Kd.int .i64) 3 w' W.heap.size (fun _ => True) v g ∧ Below W.heap.size W w') :
    Calls Try.prog 5 #[.slice A0 l.length c0] w fun e w' => e = .returned (.bool true) ∧ Below w.heap.size w w' := by
  have HS := Aside0.mk hS
  have HI := Aside0.mk hI
  have HC := Aside0.mk h0
  have HL := Aside0.mk hl
  have HG := Aside0.mk hg
  have HUL := Aside0.mk (RMarks.upto_len g.length 0)
  clear hS hI h0
  go_enter Try.func5, Try.ntmps5
  go_wp2_with fail
  refine (HSpecG.to_calls A0 c0 l HL.out _ HC.out hc0).mono ?_
  rintro e w1 ⟨vt, rfl, ho, hb⟩
  obtain ⟨At, ct, rfl, hlt, hCt⟩ := Kd.R_reads ho
  have HCt := Aside0.mk hCt
  have HB1 := Aside0.mk hb
  clear ho hCt hb
  go_wp2_with fail
  refine (HS.out At ct _ HCt.out hlt).mono ?_
  rintro e w2 ⟨v0, rfl, ho, hb⟩
  obtain ⟨Aw, cw, rfl, hlw, hCw⟩ := Kd.R_reads ho
  have HCW := Aside0.mk hCw
  have HB2 := Aside0.mk (below_step HB1.out hb)
  clear ho hCw hb HCt HB1
  go_wp2_with fail
  refine (HSpecG.to_calls A0 c0 l HL.out _ (Kd.C_below HC.out HB2.out) hc0).mono ?_
  rintro e w3 ⟨vx, rfl, hox, hb⟩
  have HX := Aside0.mk hox
  have HBW := Aside0.mk hb
  have HS3 := Aside0.mk hb.size
  obtain ⟨Ax, cx, rfl, hlx, hCx⟩ := Kd.R_reads hox
  have HCX := Aside0.mk hCx
  clear hox hb hCx
  go_wp2_with fail
  refine (HI.out Ax cx _ HCX.out hlx).mono ?_
  rintro e w4 ⟨vg, rfl, hog, hb⟩
  have HG0 := Aside0.mk hog
  have HBW4 := Aside0.mk (below_step HBW.out hb)
  have HX4 := Aside0.mk (Kd.R_below HX.out hb)
  have HLX := Aside0.mk (fun k (hk : (Value.slice Ax l.length cx).ownBlock = some k) => Kd.R_lt HX.out k hk)
  have HSZ := Aside0.mk hb.size
  obtain ⟨Ag, cg, rfl, hlg, hCg⟩ := Kd.R_reads hog
  have HCG := Aside0.mk hCg
  clear hog hb hCg HBW HX HCX
  go_wp2_with fail
  refine (RMarks.eqI Ag cg Aw cw g HG.out _ HCG.out hlg (Kd.C_below HCW.out HBW4.out) hlw).mono ?_
  rintro e w' ⟨rfl, ⟨nd1, rfl⟩⟩
  have HB5 := Aside0.mk (below_step HB2.out (pw_below_drewN HBW4.out nd1))
  cases b
  all_goals
    go_wp2_with fail
    refine (HSpecG.to_calls A0 c0 l HL.out _ (Kd.C_below HC.out HB5.out) hc0).mono ?_
    rintro e w5 ⟨vy, rfl, hoy, hb⟩
    have HBW5 := Aside0.mk (below_step (pw_below_drewN HBW4.out nd1) hb)
    have HX5 := Aside0.mk (Kd.R_below (Kd.R_drewN HX4.out nd1) hb)
    have HG5 := Aside0.mk (Kd.R_below (Kd.R_drewN HG0.out nd1) hb)
    obtain ⟨Ay, cy, rfl, hly, hCy⟩ := Kd.R_reads hoy
    have HCY := Aside0.mk hCy
    clear hoy hb hCy HCG
    go_wp2_with fail
    refine (RMarks.eqI Ax cx Ay cy l HL.out _ (Kd.R_reads' HX5.out).2.2 hlx HCY.out hly).mono ?_
    rintro e w' ⟨rfl, ⟨nd2, rfl⟩⟩
    have HMX := Aside0.mk (RMarksX.markK (.slice Ax l.length cx) l HL.out (fun k => k < w3.heap.size) w2 (w5.drewN nd2) (pw_below_drewN HBW5.out nd2) (Kd.R_mono (Kd.R_tight rfl (Kd.R_drewN HX5.out nd2)) (fun k hk => HLX.out k hk.symm)))
    have HG6 := Aside0.mk (Kd.R_drewN HG5.out nd2)
    clear HX5 HCY HBW5 HG5
    go_wp2_with fail
    refine HMX.out.mono ?_
    rintro e w6 ⟨rfl, _, hb, hkept⟩
    have HBW := Aside0.mk hb
    have HO := Aside0.mk (Kd.R_lower (Kd.R_mono (ok' := fun _ => True) (Kd.R_step (Kd.R_bound HG6.out) (fun k hk hlt => hkept.2 k hlt (fun h => Nat.lt_irrefl _ (Nat.lt_of_lt_of_le h hk.2.1)))) (fun _ _ => trivial)) HS3.out)
    have HCG := Aside0.mk (Kd.R_reads' HO.out).2.2
    clear hb hkept HMX HG6
    go_wp2_with fail
    refine (RMarks.eqI Ag cg Aw cw g HG.out _ HCG.out hlg (Kd.C_below HCW.out HBW.out) hlw).mono ?_
    rintro e w' ⟨rfl, ⟨nd3, rfl⟩⟩
    have HBW1 := Aside0.mk (pw_below_drewN HBW.out nd3)
    have HO1 := Aside0.mk (Kd.R_drewN HO.out nd3)
    clear HBW HO HCG
    have HBW := HBW1
    have HO := HO1
    clear HBW1 HO1
    go_wp2_with fail
    refine (RMarks.markI _ g HG.out w2 _ HBW.out HO.out).mono ?_
    rintro e w7 ⟨rfl, ho, hb⟩
    have HBW1 := Aside0.mk hb
    have HO1 := Aside0.mk ho
    have HCG := Aside0.mk (Kd.R_reads' ho).2.2
    clear ho hb HBW HO
    go_wp2_with fail
    refine (RMarks.heldI Ag cg g.length HG.out _ HCG.out (by rw [HUL.out]; exact hlg)).mono ?_
    rintro e w8 ⟨rfl, hb⟩
    have HBW := Aside0.mk (below_step HBW1.out hb)
    have HO := Aside0.mk (Kd.R_below HO1.out hb)
    have HB8 := Aside0.mk (below_step HB2.out HBW.out)
    clear hb HBW1 HO1 HCG
    go_wp2_with fail
    refine (HSpecG.to_calls A0 c0 l HL.out _ (Kd.C_below HC.out HB8.out) hc0).mono ?_
    rintro e w9 ⟨vz, rfl, hoz, hb⟩
    obtain ⟨Az, cz, rfl, hlz, hCz⟩ := Kd.R_reads hoz
    have HCZ := Aside0.mk hCz
    have HBW1 := Aside0.mk (below_step HBW.out hb)
    have HO1 := Aside0.mk (Kd.R_below HO.out hb)
    clear hoz hCz hb HBW HO HB8
    go_wp2_with fail
    refine (HI.out Az cz _ HCZ.out hlz).mono ?_
    rintro e w10 ⟨vh, rfl, hoh, hb⟩
    obtain ⟨Ah, ch, rfl, hlh, hCh⟩ := Kd.R_reads hoh
    have HCH := Aside0.mk hCh
    have HBW := Aside0.mk (below_step HBW1.out hb)
    have HO := Aside0.mk (Kd.R_below HO1.out hb)
    clear hoh hCh hb HBW1 HO1 HCZ
    go_wp2_with fail
    refine (RMarks.eqI Ah ch Aw cw g HG.out _ HCH.out hlh (Kd.C_below HCW.out HBW.out) hlw).mono ?_
    rintro e w' ⟨rfl, ⟨nd4, rfl⟩⟩
    have HB := Aside0.mk (below_step HB2.out HBW.out)
    have HCG := Aside0.mk (Kd.R_reads' (Kd.R_drewN HO.out nd4)).2.2
    clear HBW HO HCH
    go_wp2_with fail
    refine (RMarks.heldI Ag cg g.length HG.out _ HCG.out (by rw [HUL.out]; exact hlg)).mono ?_
    rintro e w11 ⟨rfl, hb⟩
    have HBn := Aside0.mk (below_step (by repeat (first | (with_reducible first | exact HB.out | apply below_alloc | apply pw_below_drewN | apply below_drew1) | exact HB.out)) hb)
    clear HB hb HCG
    have HB := HBn
    clear HBn
    go_wp2_with fail
    go_ret
    exact ⟨rfl, (by repeat (first | (with_reducible first | exact HB.out | apply below_alloc | apply pw_below_drewN | apply below_drew1) | exact HB.out))⟩
set_option maxHeartbeats 8000000 in
set_option maxRecDepth 100000 in
theorem RanksOf_long (A0 : Option Addr) (c0 : Nat) (l : List Int) (w : World) (hl : 1048576 < l.length) (h2 : l.length ≤ 9223372036854775807) :
    Calls Try.prog 5 #[.slice A0 l.length c0] w fun e w' => e = .returned (.bool true) ∧ Below w.heap.size w w' := by
  have HB := Aside0.mk (Below.refl w.heap.size w)
  go_enter Try.func5, Try.ntmps5
  go_wp2
  go_ret
  exact ⟨rfl, (by repeat (first | (with_reducible first | exact HB.out | apply below_alloc | apply pw_below_drewN | apply below_drew1) | exact HB.out))⟩
theorem RanksOf_walk (A0 : Option Addr) (c0 : Nat) (l : List Int) (w : World) (h0 : Kd.C (Kd.int .i64) w A0 l.length l) (hc0 : l.length ≤ c0) (hm : l.length ≤ maxLen) :
    Calls Try.prog 5 #[.slice A0 l.length c0] w fun e w' => e = .returned (.bool true) ∧ Below w.heap.size w w' := by
  rcases Nat.lt_or_ge 1048576 l.length with h | h
  · exact RanksOf_long A0 c0 l w h (Nat.le_trans hm (by decide))
  · exact RanksOf_same A0 c0 l (if good l = true then ranksR l l 0 else []) (good l) w h (by split <;> first | (rw [ranksR_len]; exact h; done) | simp) h0 hc0 (fun A c W hC hc => spec_RanksOf A c l h W hC hc) (fun A c W hC hc => impl_RanksOf A c l h W hC hc)
end Go.Proofs.Ytfkbacdaoeecdab.HRank
