/- How many stand out of order: the walks of spec.CountDisorder, impl.CountDisorder and of the law. -/
import Derived.Test.YtfkbacdaoeecdabHGood
import Derived.Test.YtfkbacdaoeecdabRMarks
import Derived.Test.YtfkbacdaoeecdabHClone
namespace Go.Proofs.Ytfkbacdaoeecdab.HDis
open Go.RowKit Go.Proofs.YtfkbacdaoeecdabW.PrintWords Go.Proofs.YtfkbacdaoeecdabW.PrintLast Go.Proofs.YtfkbacdaoeecdabW.PrintMore Go.Proofs.Ytfkbacdaoeecdab.HImpl Go.Proofs.Ytfkbacdaoeecdab.HSpecG
set_option linter.unusedVariables false
set_option linter.unusedSimpArgs false

def disR (h : Int) : List Int → Nat
  | [] => 0
  | o :: t => (if h > o then 1 else 0) + disR h t
def disL : List Int → Nat
  | [] => 0
  | h :: t => disR h t + disL t
theorem disR_le (h : Int) : ∀ t : List Int, disR h t ≤ t.length
  | [] => by simp [disR]
  | o :: t => by
    have := disR_le h t
    simp only [disR, List.length_cons]
    split <;> omega
set_option maxHeartbeats 8000000 in
set_option maxRecDepth 100000 in
theorem spec_CountDisorder (A0 : Option Addr) (c0 : Nat) (l : List Int) (hl : l.length ≤ 1048576) (w : World) (h0 : Kd.C (Kd.int .i64) w A0 l.length l) (hc0 : l.length ≤ c0) :
    Calls Try.prog 19 #[.slice A0 l.length c0] w fun e w' => e = .returned (.tuple #[.int .i64 (if good l = true then ((disL l : Nat) : Int) else 0), .bool (good l)]) ∧ Below w.heap.size w w' := by
  have HB := Aside0.mk (Below.refl w.heap.size w)
  have HC := Aside0.mk h0
  cases hg : good l with
  | false =>
    have HG := Aside0.mk (HSpecG.good_is A0 c0 l hl false hg w h0 hc0)
    clear h0 hg
    go_enter Try.func19, Try.ntmps19
    go_wp2_with (go_at_call 25; refine HG.out.mono ?_; rintro e w' ⟨rfl, ⟨nd, rfl⟩⟩)
    go_ret2
    exact ⟨rfl, (by repeat (first | (with_reducible first | exact HB.out | apply below_alloc | apply pw_below_drewN | apply below_drew1) | exact HB.out))⟩
  | true =>
    have HG := Aside0.mk (HSpecG.good_is A0 c0 l hl true hg w h0 hc0)
    obtain ⟨hl1, hl2⟩ := good_len hg
    clear h0 hg
    simp only [if_true]
    have HE0 : Aside0 (0 + disL (l.drop 0) = disL l) := ⟨by rw [List.drop_zero, Nat.zero_add]⟩
    generalize disL l = T at HE0
    have HC0 := Aside0.mk hc0
    go_enter Try.func19, Try.ntmps19
    go_wp2_with (go_at_call 25; refine HG.out.mono ?_; rintro e w' ⟨rfl, ⟨nd, rfl⟩⟩)
    go_loopg [4, 14] l.length (fun kq v4 v14 w' => ∃ (i n : Nat), v4 = .int .i64 (n : Int) ∧ v14 = .int .i64 (i : Int) ∧ Aside0 (kq + i = l.length) ∧ Aside0 (n ≤ i * 40) ∧ Aside0 (n + disL (l.drop i) = T) ∧ Aside0 (Below w.heap.size w w'))
    case atStart => exact ⟨0, 0, rfl, rfl, ⟨rfl⟩, ⟨by omega⟩, HE0, ⟨(by repeat (first | (with_reducible first | exact HB.out | apply below_alloc | apply pw_below_drewN | apply below_drew1) | exact HB.out))⟩⟩
    case round =>
      clear HB HE0
      obtain ⟨i, n, rfl, rfl, HK, HNI, HE, HB⟩ := hrel
      by_cases hi : i < l.length
      · obtain ⟨ad, e, hci⟩ := Kd.at_int HC.out (i : Int) (by omega) (by omega)
        cases e
        have HE1 : Aside0 (n + disR (rd l (i : Int)) (l.drop (i + 1)) + disL (l.drop (i + 1)) = T) := ⟨by
          have := HE.out
          rw [drop_cons l i hi, disL] at this
          
          omega⟩
        obtain ⟨mm, hmm⟩ : ∃ m : Int, IntKind.i64.wrap ((i : Int) + 1) = m := ⟨_, rfl⟩
        have hm0 : mm = ((i + 1 : Nat) : Int) := by rw [← hmm]; rw [IntWalk.i64_in _ (by omega)]; omega
        obtain ⟨i010, hi010, _, hsz10, _⟩ := info_parts HClone.info_int
        obtain ⟨A10, hcut10, hA10, hC10⟩ := print_drop_of (P := Try.prog) (Value.int .i64) 0 22 3 .i64 Try.underlying22 hi010 hsz10 (some ad) c0 l mm (by omega) (by omega) HC0.out
        have HR10 := Aside0.mk (Kd.C_of_reads (h1 := fun _ => rfl) (hA10 _ (Kd.reads_of_C HC.out)))
        have HC10 := Aside0.mk hC10
        have hdl : (l.drop (mm).toNat).length ≤ 40 := by rw [List.length_drop]; omega
        have hde : l.drop (mm).toNat = l.drop (i + 1) := by rw [hm0]; congr 1
        generalize hR : disL (l.drop (i + 1)) = R at HE1
        have HRR := Aside0.mk hR
        rw [← hde] at HE1
        have HM0 := Aside0.mk hm0
        clear hR
        have HDL := Aside0.mk hdl
        clear hA10 hC10 hi010 hsz10 hdl hde HE
        generalize rd l (i : Int) = h at hci HE1
        rw [Int.toNat_natCast] at hci
        replace hci := pw_cell_below HB.out hci
        have kk1 : (0 : Int) ≤ mm := by omega
        have kk2 : mm ≤ (l.length : Int) := by omega
        clear hm0
        generalize l.drop (mm).toNat = c at hcut10 HR10 HC10 HE1 HDL
        go_wp2_with fail
        go_loopg [4, 24] c.length (fun kq2 v4 v23 w' => ∃ (j m : Nat), v4 = .int .i64 (m : Int) ∧ v23 = .int .i64 (j : Int) ∧ Aside0 (kq2 + j = c.length) ∧ Aside0 (m ≤ i * 40 + j) ∧ Aside0 (m + disR h (c.drop j) + R = T) ∧ Aside0 (Below w.heap.size w w'))
        case atStart => exact ⟨0, n, rfl, rfl, ⟨rfl⟩, ⟨by have := HNI.out; omega⟩, ⟨by rw [List.drop_zero]; exact HE1.out⟩, HB⟩
        case round =>
          clear HB HE1 hci hcut10
          obtain ⟨j, m, rfl, rfl, HK2, HMJ, HE, HB⟩ := hrel
          have hmj := HMJ.out
          have hdl := HDL.out
          by_cases hj : j < c.length
          · obtain ⟨ad2, e, hcj⟩ := Kd.at_int HR10.out (j : Int) (by omega) (by omega)
            cases e
            rw [Int.toNat_natCast] at hcj
            have HE2 : Aside0 (m + ((if h > rd c (j : Int) then 1 else 0) + disR h (c.drop (j + 1))) + R = T) := ⟨by
              have := HE.out
              rw [drop_cons c j hj, disR] at this
              exact this⟩
            generalize rd c (j : Int) = x at hcj HE2
            replace hcj := pw_cell_below HB.out hcj
            clear HE
            by_cases c1 : h > x
            · have HE3 : Aside0 (m + 1 + disR h (c.drop (j + 1)) + R = T) := ⟨by have := HE2.out; rw [if_pos c1] at this; omega⟩
              go_wp2_with fail
              go_roundg (c.length - (j + 1))
              case measure => have := HK2.out; omega
              case rel => exact ⟨j + 1, m + 1, rfl, rfl, ⟨by have := HK2.out; omega⟩, ⟨by omega⟩, HE3, HB⟩
            · have HE3 : Aside0 (m + disR h (c.drop (j + 1)) + R = T) := ⟨by have := HE2.out; rw [if_neg c1] at this; omega⟩
              go_wp2_with fail
              go_roundg (c.length - (j + 1))
              case measure => have := HK2.out; omega
              case rel => exact ⟨j + 1, m, rfl, rfl, ⟨by have := HK2.out; omega⟩, ⟨by omega⟩, HE3, HB⟩
          · have HE3 : Aside0 (m + disL (l.drop (i + 1)) = T) := ⟨by have := HE.out; rw [List.drop_eq_nil_of_le (by omega), disR] at this; rw [HRR.out]; omega⟩
            have hk2 := HK2.out
            have HM2 : Aside0 (m ≤ (i + 1) * 40) := ⟨by omega⟩
            go_wp2_with fail
            go_roundg (l.length - (i + 1))
            case measure => have := HK.out; omega
            case rel => exact ⟨i + 1, m, rfl, by first | rfl | rw [HM0.out], ⟨by have := HK.out; omega⟩, HM2, HE3, HB⟩
      · have HE2 : Aside0 (n = T) := ⟨by have := HE.out; rw [List.drop_eq_nil_of_le (by omega), disL] at this; exact this⟩
        go_wp2_with fail
        go_ret2
        have hT := HE2.out
        clear HE2 HE
        subst hT
        exact ⟨rfl, (by repeat (first | (with_reducible first | exact HB.out | apply below_alloc | apply pw_below_drewN | apply below_drew1) | exact HB.out))⟩
set_option maxHeartbeats 8000000 in
set_option maxRecDepth 100000 in
theorem impl_CountDisorder (A0 : Option Addr) (c0 : Nat) (l : List Int) (hl : l.length ≤ 1048576) (w : World) (h0 : Kd.C (Kd.int .i64) w A0 l.length l) (hc0 : l.length ≤ c0) :
    Calls Try.prog 20 #[.slice A0 l.length c0] w fun e w' => e = .returned (.tuple #[.int .i64 (if good l = true then ((disL l : Nat) : Int) else 0), .bool (good l)]) ∧ Below w.heap.size w w' := by
  have HB := Aside0.mk (Below.refl w.heap.size w)
  have HC := Aside0.mk h0
  cases hg : good l with
  | false =>
    have HG := Aside0.mk (HImpl.are_is A0 c0 l false hg w h0 hc0)
    clear h0 hg
    go_enter Try.func20, Try.ntmps20
    go_wp2_with (go_at_call 26; refine HG.out.mono ?_; rintro e w' ⟨rfl, ⟨nd, rfl⟩⟩)
    go_ret2
    exact ⟨rfl, (by repeat (first | (with_reducible first | exact HB.out | apply below_alloc | apply pw_below_drewN | apply below_drew1) | exact HB.out))⟩
  | true =>
    have HG := Aside0.mk (HImpl.are_is A0 c0 l true hg w h0 hc0)
    obtain ⟨hl1, hl2⟩ := good_len hg
    clear h0 hg
    simp only [if_true]
    have HE0 : Aside0 (0 + disL (l.drop 0) = disL l) := ⟨by rw [List.drop_zero, Nat.zero_add]⟩
    generalize disL l = T at HE0
    have HC0 := Aside0.mk hc0
    go_enter Try.func20, Try.ntmps20
    go_wp2_with (go_at_call 26; refine HG.out.mono ?_; rintro e w' ⟨rfl, ⟨nd, rfl⟩⟩)
    go_loopg [4, 14] l.length (fun kq v4 v14 w' => ∃ (i n : Nat), v4 = .int .i64 (n : Int) ∧ v14 = .int .i64 (i : Int) ∧ Aside0 (kq + i = l.length) ∧ Aside0 (n ≤ i * 40) ∧ Aside0 (n + disL (l.drop i) = T) ∧ Aside0 (Below w.heap.size w w'))
    case atStart => exact ⟨0, 0, rfl, rfl, ⟨rfl⟩, ⟨by omega⟩, HE0, ⟨(by repeat (first | (with_reducible first | exact HB.out | apply below_alloc | apply pw_below_drewN | apply below_drew1) | exact HB.out))⟩⟩
    case round =>
      clear HB HE0
      obtain ⟨i, n, rfl, rfl, HK, HNI, HE, HB⟩ := hrel
      by_cases hi : i < l.length
      · obtain ⟨ad, e, hci⟩ := Kd.at_int HC.out (i : Int) (by omega) (by omega)
        cases e
        have HE1 : Aside0 (n + disR (rd l (i : Int)) (l.drop (i + 0)) + disL (l.drop (i + 1)) = T) := ⟨by
          have := HE.out
          rw [drop_cons l i hi, disL] at this
          rw [Nat.add_zero, drop_cons l i hi, disR, if_neg (by omega)]
          omega⟩
        obtain ⟨i010, hi010, _, hsz10, _⟩ := info_parts HClone.info_int
        obtain ⟨A10, hcut10, hA10, hC10⟩ := print_drop_of (P := Try.prog) (Value.int .i64) 0 22 3 .i64 Try.underlying22 hi010 hsz10 (some ad) c0 l (i : Int) (by omega) (by omega) HC0.out
        have HR10 := Aside0.mk (Kd.C_of_reads (h1 := fun _ => rfl) (hA10 _ (Kd.reads_of_C HC.out)))
        have HC10 := Aside0.mk hC10
        have hdl : (l.drop ((i : Int)).toNat).length ≤ 40 := by rw [List.length_drop]; omega
        have hde : l.drop ((i : Int)).toNat = l.drop (i + 0) := by congr 1
        generalize hR : disL (l.drop (i + 1)) = R at HE1
        have HRR := Aside0.mk hR
        rw [← hde] at HE1
        clear hR
        have HDL := Aside0.mk hdl
        clear hA10 hC10 hi010 hsz10 hdl hde HE
        generalize rd l (i : Int) = h at hci HE1
        rw [Int.toNat_natCast] at hci
        replace hci := pw_cell_below HB.out hci
        have kk1 : (0 : Int) ≤ (i : Int) := by omega
        have kk2 : (i : Int) ≤ (l.length : Int) := by omega
        generalize l.drop ((i : Int)).toNat = c at hcut10 HR10 HC10 HE1 HDL
        go_wp2_with fail
        go_loopg [4, 23] c.length (fun kq2 v4 v23 w' => ∃ (j m : Nat), v4 = .int .i64 (m : Int) ∧ v23 = .int .i64 (j : Int) ∧ Aside0 (kq2 + j = c.length) ∧ Aside0 (m ≤ i * 40 + j) ∧ Aside0 (m + disR h (c.drop j) + R = T) ∧ Aside0 (Below w.heap.size w w'))
        case atStart => exact ⟨0, n, rfl, rfl, ⟨rfl⟩, ⟨by have := HNI.out; omega⟩, ⟨by rw [List.drop_zero]; exact HE1.out⟩, HB⟩
        case round =>
          clear HB HE1 hci hcut10
          obtain ⟨j, m, rfl, rfl, HK2, HMJ, HE, HB⟩ := hrel
          have hmj := HMJ.out
          have hdl := HDL.out
          by_cases hj : j < c.length
          · obtain ⟨ad2, e, hcj⟩ := Kd.at_int HR10.out (j : Int) (by omega) (by omega)
            cases e
            rw [Int.toNat_natCast] at hcj
            have HE2 : Aside0 (m + ((if h > rd c (j : Int) then 1 else 0) + disR h (c.drop (j + 1))) + R = T) := ⟨by
              have := HE.out
              rw [drop_cons c j hj, disR] at this
              exact this⟩
            generalize rd c (j : Int) = x at hcj HE2
            replace hcj := pw_cell_below HB.out hcj
            clear HE
            by_cases c1 : h > x
            · have HE3 : Aside0 (m + 1 + disR h (c.drop (j + 1)) + R = T) := ⟨by have := HE2.out; rw [if_pos c1] at this; omega⟩
              go_wp2_with fail
              go_roundg (c.length - (j + 1))
              case measure => have := HK2.out; omega
              case rel => exact ⟨j + 1, m + 1, rfl, rfl, ⟨by have := HK2.out; omega⟩, ⟨by omega⟩, HE3, HB⟩
            · have HE3 : Aside0 (m + disR h (c.drop (j + 1)) + R = T) := ⟨by have := HE2.out; rw [if_neg c1] at this; omega⟩
              go_wp2_with fail
              go_roundg (c.length - (j + 1))
              case measure => have := HK2.out; omega
              case rel => exact ⟨j + 1, m, rfl, rfl, ⟨by have := HK2.out; omega⟩, ⟨by omega⟩, HE3, HB⟩
          · have HE3 : Aside0 (m + disL (l.drop (i + 1)) = T) := ⟨by have := HE.out; rw [List.drop_eq_nil_of_le (by omega), disR] at this; rw [HRR.out]; omega⟩
            have hk2 := HK2.out
            have HM2 : Aside0 (m ≤ (i + 1) * 40) := ⟨by omega⟩
            go_wp2_with fail
            go_roundg (l.length - (i + 1))
            case measure => have := HK.out; omega
            case rel => exact ⟨i + 1, m, rfl, by first | rfl | rw [HM0.out], ⟨by have := HK.out; omega⟩, HM2, HE3, HB⟩
      · have HE2 : Aside0 (n = T) := ⟨by have := HE.out; rw [List.drop_eq_nil_of_le (by omega), disL] at this; exact this⟩
        go_wp2_with fail
        go_ret2
        have hT := HE2.out
        clear HE2 HE
        subst hT
        exact ⟨rfl, (by repeat (first | (with_reducible first | exact HB.out | apply below_alloc | apply pw_below_drewN | apply below_drew1) | exact HB.out))⟩
set_option maxHeartbeats 8000000 in
set_option maxRecDepth 100000 in
theorem CountDisorder_same (A0 : Option Addr) (c0 : Nat) (l : List Int) (g : Int) (b : Bool) (w : World) (hl : l.length ≤ 1048576)
    (h0 : Kd.C (Kd.int .i64) w A0 l.length l) (hc0 : l.length ≤ c0)
    (hS : ∀ (A : Option Addr) (c : Nat) (W : World), Kd.C (Kd.int .i64) W A l.length l → l.length ≤ c → Calls Try.prog 19 #[.slice A l.length c] W fun e w' => e = .returned (.tuple #[.int .i64 g, .bool b]) ∧ Below W.heap.size W w')
    (hI : ∀ (A : Option Addr) (c : Nat) (W : World), Kd.C (Kd.int .i64) W A l.length l → l.length ≤ c → Calls Try.prog 20 #[.slice A l.length c] W fun e w' => e = .returned (.tuple #[.int .i64 g, .bool b]) ∧ Below W.heap.size W w') :
    Calls Try.prog 6 #[.slice A0 l.length c0] w fun e w' => e = .returned (.bool true) ∧ Below w.heap.size w w' := by
  have HS := Aside0.mk hS
  have HI := Aside0.mk hI
  have HC := Aside0.mk h0
  have HL := Aside0.mk hl
  clear hS hI h0
  go_enter Try.func6, Try.ntmps6
  go_wp2_with fail
  refine (HSpecG.to_calls A0 c0 l HL.out _ HC.out hc0).mono ?_
  rintro e w1 ⟨vt, rfl, ho, hb⟩
  obtain ⟨At, ct, rfl, hlt, hCt⟩ := Kd.R_reads ho
  have HCt := Aside0.mk hCt
  have HB1 := Aside0.mk hb
  clear ho hCt hb
  go_wp2_with fail
  refine (HS.out At ct _ HCt.out hlt).mono ?_
  rintro e w2 ⟨rfl, hb⟩
  have HB2 := Aside0.mk (below_step HB1.out hb)
  clear hb HCt HB1
  go_wp2_with fail
  refine (HSpecG.to_calls A0 c0 l HL.out _ (Kd.C_below HC.out HB2.out) hc0).mono ?_
  rintro e w3 ⟨vx, rfl, hox, hb⟩
  have HX := Aside0.mk hox
  have HB3 := Aside0.mk (below_step HB2.out hb)
  obtain ⟨Ax, cx, rfl, hlx, hCx⟩ := Kd.R_reads hox
  have HCX := Aside0.mk hCx
  clear hox hb hCx HB2
  go_wp2_with fail
  refine (HI.out Ax cx _ HCX.out hlx).mono ?_
  rintro e w4 ⟨rfl, hb⟩
  have HB4 := Aside0.mk (below_step HB3.out hb)
  have HX4 := Aside0.mk (Kd.R_below HX.out hb)
  clear hb HB3 HX HCX
  cases b
  all_goals
    go_wp2_with fail
    refine (HSpecG.to_calls A0 c0 l HL.out _ (Kd.C_below HC.out HB4.out) hc0).mono ?_
    rintro e w5 ⟨vy, rfl, hoy, hb⟩
    have HB5 := Aside0.mk (below_step HB4.out hb)
    have HX5 := Aside0.mk (Kd.R_below HX4.out hb)
    obtain ⟨Ay, cy, rfl, hly, hCy⟩ := Kd.R_reads hoy
    have HCY := Aside0.mk hCy
    clear hoy hb hCy HB4 HX4
    go_wp2_with fail
    refine (RMarks.eqI Ax cx Ay cy l HL.out _ (Kd.R_reads' HX5.out).2.2 hlx HCY.out hly).mono ?_
    rintro e w' ⟨rfl, ⟨nd2, rfl⟩⟩
    have HB := HB5
    go_wp2_with fail
    go_ret
    exact ⟨rfl, (by repeat (first | (with_reducible first | exact HB.out | apply below_alloc | apply pw_below_drewN | apply below_drew1) | exact HB.out))⟩
set_option maxHeartbeats 8000000 in
set_option maxRecDepth 100000 in
theorem CountDisorder_long (A0 : Option Addr) (c0 : Nat) (l : List Int) (w : World) (hl : 1048576 < l.length) (h2 : l.length ≤ 9223372036854775807) :
    Calls Try.prog 6 #[.slice A0 l.length c0] w fun e w' => e = .returned (.bool true) ∧ Below w.heap.size w w' := by
  have HB := Aside0.mk (Below.refl w.heap.size w)
  go_enter Try.func6, Try.ntmps6
  go_wp2
  go_ret
  exact ⟨rfl, (by repeat (first | (with_reducible first | exact HB.out | apply below_alloc | apply pw_below_drewN | apply below_drew1) | exact HB.out))⟩
theorem CountDisorder_walk (A0 : Option Addr) (c0 : Nat) (l : List Int) (w : World) (h0 : Kd.C (Kd.int .i64) w A0 l.length l) (hc0 : l.length ≤ c0) (hm : l.length ≤ maxLen) :
    Calls Try.prog 6 #[.slice A0 l.length c0] w fun e w' => e = .returned (.bool true) ∧ Below w.heap.size w w' := by
  rcases Nat.lt_or_ge 1048576 l.length with h | h
  · exact CountDisorder_long A0 c0 l w h (Nat.le_trans hm (by decide))
  · exact CountDisorder_same A0 c0 l _ (good l) w h h0 hc0 (fun A c W hC hc => spec_CountDisorder A c l h W hC hc) (fun A c W hC hc => impl_CountDisorder A c l h W hC hc)
end Go.Proofs.Ytfkbacdaoeecdab.HDis
