/- The nearest taller one to the right: contracts over the printed walk of spec.NextTaller, the walks of impl.NextTaller and its closure. -/
import Derived.Test.YtleacijhpkogpacPFnHeightsSeenOfAllx17
import Derived.Test.YtleacijhpkogpacHGood
import Derived.Test.YtleacijhpkogpacHClone
import Derived.Test.YtleacijhpkogpacPFnHeightsSeenOfAllx5
namespace Go.Proofs.Ytleacijhpkogpac.HNext
open Go.RowKit Go.Proofs.YtleacijhpkogpacW.PrintWords Go.Proofs.YtleacijhpkogpacW.PrintLast Go.Proofs.YtleacijhpkogpacW.PrintMore Go.Proofs.Ytleacijhpkogpac.HImpl Go.Proofs.Ytleacijhpkogpac.HSpecG Go.Proofs.Ytleacijhpkogpac.PFnHeightsSeenOfAll
set_option linter.unusedVariables false
set_option linter.unusedSimpArgs false

/-- The nearest one to the right who is taller than the one at a place; -1 if there is none. -/
def ntAt (l : List Int) (i : Nat) : Int :=
  if 0 ≤ idxF (fun o => decide (rd l (i : Int) < o)) (l.drop i) 0 then wrap64 (idxF (fun o => decide (rd l (i : Int) < o)) (l.drop i) 0 + (i : Int)) else idxF (fun o => decide (rd l (i : Int) < o)) (l.drop i) 0
def ntR (l : List Int) (n : Nat) : List Int := (List.range n).map (ntAt l)
theorem ntR_succ (l : List Int) (n : Nat) : ntR l (n + 1) = ntR l n ++ [ntAt l n] := by simp [ntR, List.range_succ]
theorem ntR_len (l : List Int) (n : Nat) : (ntR l n).length = n := by simp [ntR]
theorem idxF_shift (p : Int → Bool) : ∀ (t : List Int) (a c : Int), 0 ≤ a → idxF p t (a + c) = if 0 ≤ idxF p t a then idxF p t a + c else idxF p t a
  | [], a, c, h => by simp [idxF]
  | x :: xs, a, c, h => by
    by_cases hx : p x = true
    · have e : ∀ b, idxF p (x :: xs) b = b := fun b => by simp [idxF, hx]
      rw [e, e, if_pos h]
    · have e : ∀ b, idxF p (x :: xs) b = idxF p xs (b + 1) := fun b => by simp [idxF, hx]
      rw [e, e, show a + c + 1 = (a + 1) + c by omega]
      exact idxF_shift p xs (a + 1) c (by omega)
theorem idxF_le (p : Int → Bool) : ∀ (t : List Int) (a : Int), 0 ≤ a → idxF p t a ≤ a + (t.length : Int) ∧ -1 ≤ idxF p t a
  | [], a, h => by simp [idxF]; omega
  | x :: xs, a, h => by
    by_cases hx : p x = true
    · have e : idxF p (x :: xs) a = a := by simp [idxF, hx]
      rw [e]; simp; omega
    · have e : idxF p (x :: xs) a = idxF p xs (a + 1) := by simp [idxF, hx]
      have := idxF_le p xs (a + 1) (by omega)
      rw [e]; simp; omega
theorem ntAt_eq (l : List Int) (hl : l.length ≤ 1048576) (i : Nat) (hi : i < l.length) :
    ntAt l i = idxF (fun o => decide (rd l (i : Int) < o)) (l.drop (i + 1)) ((i + 1 : Nat) : Int) := by
  have hs := idxF_shift (fun o => decide (rd l (i : Int) < o)) (l.drop i) 0 (i : Int) (by omega)
  have hb := idxF_le (fun o => decide (rd l (i : Int) < o)) (l.drop i) 0 (by omega)
  rw [List.length_drop] at hb
  have e : idxF (fun o => decide (rd l (i : Int) < o)) (l.drop (i + 1)) ((i + 1 : Nat) : Int) = idxF (fun o => decide (rd l (i : Int) < o)) (l.drop i) (0 + (i : Int)) := by
    rw [drop_cons l i hi]
    simp [idxF]
  rw [e, hs]
  unfold ntAt
  split
  · unfold wrap64; omega
  · rfl
theorem next_found (l out : List Int) (ho : out.length ≤ 1048576) (i : Nat) (hi : i ≤ 1048576) (h : Int) (R : List Int × Bool) (x : Int) (hx : 0 ≤ x) (j : Int)
    (hev : Ev (fun k => spec_NextTaller.l0 k l (out ++ [x]) l (l.length : Int) ((i + 1 : Nat) : Int)) R) :
    Ev (fun k => spec_NextTaller.l1 k l out h x j l (l.length : Int) (i : Int)) R := by
  have h2 : Ev (fun k => spec_NextTaller.j2 k l out h x j l (l.length : Int) (i : Int) false) R := by
    refine Ev.step (fun k => ?_) hev
    simp only [spec_NextTaller.j2]
    rw [if_neg (by simp), if_pos (by omega), w1 i (by omega)]
  refine Ev.step (fun k => ?_) h2
  simp only [spec_NextTaller.l1]
  rw [decide_eq_false (show ¬ x < 0 by omega)]
  split <;> rfl
theorem next_in (l : List Int) (hl : l.length ≤ 1048576) (out : List Int) (ho : out.length ≤ 1048576) (i : Nat) (hi : i ≤ 1048576) (h : Int) (R : List Int × Bool) : ∀ (d j : Nat), j + d = l.length →
    Ev (fun k => spec_NextTaller.l0 k l (out ++ [idxF (fun o => decide (h < o)) (l.drop j) (j : Int)]) l (l.length : Int) ((i + 1 : Nat) : Int)) R →
    Ev (fun k => spec_NextTaller.l1 k l out h (-1) (j : Int) l (l.length : Int) (i : Int)) R := by
  intro d
  induction d with
  | zero =>
    intro j hj hev
    rw [List.drop_eq_nil_of_le (by omega)] at hev
    have h2 : Ev (fun k => spec_NextTaller.j2 k l out h (-1) (j : Int) l (l.length : Int) (i : Int) false) R := by
      refine Ev.step (fun k => ?_) hev
      simp only [spec_NextTaller.j2, idxF]
      rw [if_neg (by simp), if_pos (by omega), w1 i (by omega)]
    refine Ev.step (fun k => ?_) h2
    simp only [spec_NextTaller.l1]
    rw [if_neg (by omega)]
  | succ d ih =>
    intro j hj hev
    have hlt : j < l.length := by omega
    have h3 : Ev (fun k => spec_NextTaller.j2 k l out h (-1) (j : Int) l (l.length : Int) (i : Int) true) R := by
      rw [drop_cons l j hlt] at hev
      by_cases c : rd l (j : Int) > h
      · have e : idxF (fun o => decide (h < o)) (rd l (j : Int) :: l.drop (j + 1)) (j : Int) = (j : Int) := by
          have c' : h < rd l (j : Int) := c
          simp [idxF, c']
        rw [e] at hev
        refine Ev.step (fun k => ?_) (next_found l out ho i hi h R (j : Int) (by omega) ((j + 1 : Nat) : Int) hev)
        simp only [spec_NextTaller.j2, if_true]
        rw [if_pos (by omega), if_pos (by omega), if_pos c, w1 j (by omega)]
      · have e : idxF (fun o => decide (h < o)) (rd l (j : Int) :: l.drop (j + 1)) (j : Int) = idxF (fun o => decide (h < o)) (l.drop (j + 1)) ((j + 1 : Nat) : Int) := by
          have c' : ¬ h < rd l (j : Int) := c
          simp [idxF, c']
        rw [e] at hev
        refine Ev.step (fun k => ?_) (ih (j + 1) (by omega) hev)
        simp only [spec_NextTaller.j2, if_true]
        rw [if_pos (by omega), if_pos (by omega), if_neg c, w1 j (by omega)]
    refine Ev.step (fun k => ?_) h3
    simp only [spec_NextTaller.l1]
    rw [if_pos (by omega)]
    rfl
theorem next_out (l : List Int) (hl : l.length ≤ 1048576) : ∀ (d i : Nat), i + d = l.length →
    Ev (fun k => spec_NextTaller.l0 k l (ntR l i) l (l.length : Int) (i : Int)) (ntR l l.length, true) := by
  intro d
  induction d with
  | zero =>
    intro i hi
    refine Ev.step (f := fun _ => some (ntR l i, true)) (fun k => ?_) ?_
    · simp only [spec_NextTaller.l0]
      rw [if_neg (by omega)]
    · rw [show i = l.length by omega]
      exact Ev.now _
  | succ d ih =>
    intro i hi
    have hlt : i < l.length := by omega
    have hr := ih (i + 1) (by omega)
    rw [ntR_succ, ntAt_eq l hl i hlt] at hr
    refine Ev.step (fun k => ?_) (next_in l hl (ntR l i) (by rw [ntR_len]; omega) i (by omega) (rd l (i : Int)) _ (l.length - (i + 1)) (i + 1) (by omega) hr)
    simp only [spec_NextTaller.l0]
    rw [if_pos (by omega), if_pos (by omega), if_pos (by omega), w1 i (by omega)]
theorem spec_calls (A0 : Option Addr) (c0 : Nat) (l : List Int) (hl : l.length ≤ 1048576) (w : World) (h0 : Kd.C (Kd.int .i64) w A0 l.length l) (hc0 : l.length ≤ c0) :
    Calls Try.prog 26 #[.slice A0 l.length c0] w fun e w' => ∃ v : Value, e = .returned (.tuple #[v, .bool (good l)]) ∧ Kd.R (Kd.int .i64) 3 w' w.heap.size (fun _ => True) v (if good l = true then ntR l l.length else []) ∧ Below w.heap.size w w' := by
  have h : Ev (fun k => spec_NextTaller.f k l) (if good l = true then ntR l l.length else [], good l) := by
    refine Ev.bind (good_ev l hl) ?_
    cases hg : good l with
    | true =>
      simp only [if_true]
      exact next_out l hl l.length 0 (by omega)
    | false => exact Ev.now _
  obtain ⟨k, hk⟩ := h.rounds
  exact spec_NextTaller.calls k A0 c0 l _ _ w h0 hc0 hk
/-! ### the program -/
set_option maxHeartbeats 8000000 in
theorem taller_1_calls (B : Nat) (h x : Int) (w : World) (hc : w.cell? ⟨B, 0, none⟩ = some (.int .i64 h)) :
    Calls Try.prog 71 (#[.int .i64 x] ++ #[.pointer (some ⟨B, 0, none⟩)]) w fun e w' => e = .returned (.bool (decide (h < x))) ∧ ∃ q', w' = w.drewN q' := by
  show Calls Try.prog 71 #[.int .i64 x, .pointer (some ⟨B, 0, none⟩)] w _
  go_enter Try.func71, Try.ntmps71
  go_wp2
  go_ret
  exact ⟨rfl, 0, rfl⟩
theorem taller_index (A0 : Option Addr) (c0 n : Nat) (l : List Int) (hn : l.length = n) (hl : n ≤ 4611686018427387904) (h v : Int) (hv : idxF (fun o => decide (h < o)) l 0 = v) (B : Nat) (w : World) (hc : w.cell? ⟨B, 0, none⟩ = some (.int .i64 h)) (hr : Kd.C (Kd.int .i64) w A0 n l) :
    Calls Try.prog 70 #[.slice A0 n c0, .func (.func 71) #[] #[.pointer (some ⟨B, 0, none⟩)]] w fun e w' => e = .returned (.int .i64 v) ∧ Below w.heap.size w w' := by
  subst hn hv
  exact (indexFunc_calls (fun o => decide (h < o)) 71 #[.pointer (some ⟨B, 0, none⟩)] (enters_ (P := Try.prog) Try.func71 (by kernel_rfl) rfl) A0 c0 l w hr hl
    (fun x q => taller_1_calls B h x (w.drewN q) (by simpa using hc))).mono fun e W' h => ⟨h.1, h.2.below⟩
set_option maxHeartbeats 8000000 in
set_option maxRecDepth 100000 in
theorem impl_no (A0 : Option Addr) (c0 : Nat) (l : List Int) (hg : good l = false) (w : World) (h0 : Kd.C (Kd.int .i64) w A0 l.length l) (hc0 : l.length ≤ c0) :
    Calls Try.prog 25 #[.slice A0 l.length c0] w fun e w' => ∃ v : Value, e = .returned (.tuple #[v, .bool false]) ∧ Kd.R (Kd.int .i64) 3 w' w.heap.size (fun _ => True) v [] ∧ Below w.heap.size w w' := by
  have HA := Aside0.mk (are_is A0 c0 l false hg w h0 hc0)
  have HB := Aside0.mk (Below.refl w.heap.size w)
  clear hg h0
  go_enter Try.func25, Try.ntmps25
  go_wp2_with (go_at_call 61; refine HA.out.mono ?_; rintro e w' ⟨rfl, ⟨nd, rfl⟩⟩)
  go_ret2
  exact ⟨_, rfl, Kd.R_nil _ _ _ _ _, (by repeat (first | (with_reducible first | exact HB.out | apply below_alloc | apply pw_below_drewN | apply below_drew1) | exact HB.out))⟩
set_option maxHeartbeats 8000000 in
set_option maxRecDepth 100000 in
theorem impl_yes (A0 : Option Addr) (c0 : Nat) (l : List Int) (hg : good l = true) (w : World) (h0 : Kd.C (Kd.int .i64) w A0 l.length l) (hc0 : l.length ≤ c0) :
    Calls Try.prog 25 #[.slice A0 l.length c0] w fun e w' => ∃ v : Value, e = .returned (.tuple #[v, .bool true]) ∧ Kd.R (Kd.int .i64) 3 w' w.heap.size (fun _ => True) v (ntR l l.length) ∧ Below w.heap.size w w' := by
  have HA := Aside0.mk (are_is A0 c0 l true hg w h0 hc0)
  have HB := Aside0.mk (Below.refl w.heap.size w)
  obtain ⟨hl1, hl2⟩ := good_len hg
  have HC := Aside0.mk h0
  have HC0 := Aside0.mk hc0
  have HT : Aside0 (ntR l l.length = ntR l l.length) := ⟨rfl⟩
  have hmf : ∀ (fn : Fn) (first cap : Array Value) (w : World), (Instr.makeFunc fn first cap).run Try.prog w = .ok (.func fn first cap) w := fun _ _ _ _ => rfl
  clear hg h0
  go_enter Try.func25, Try.ntmps25
  go_wp2_with (first | (go_at_call 61; refine HA.out.mono ?_; rintro e w' ⟨rfl, ⟨nd, rfl⟩⟩) | ((with_reducible refine gate_dst (N := 11) rfl ?_); refine Kd.R_lit (Kd.int .i64) (w0 := w) w.heap.size 3 ?hg (N := 11) ?hd (xs := ([] : List Int)) (inner := []) (ok := fun _ => True) (okp := fun _ => True) ?hr ?hp (fun _ hk => hk) trivial (by repeat (first | (with_reducible first | exact HB.out | apply below_alloc | apply pw_below_drewN | apply below_drew1) | exact HB.out)) (below_size (by repeat (first | (with_reducible first | exact HB.out | apply below_alloc | apply pw_below_drewN | apply below_drew1) | exact HB.out))) (by simp) ?_; (case hd => rfl); (case hg => rfl); (case hr => first | (go_simp; done) | (go_simp; rfl)); (case hp => exact (Reps.none _ _)); intro v1 w1 ho hb hg hnew; have HO := Aside0.mk ho; have HBn := Aside0.mk hb; clear ho hb hg hnew HB; have HB := HBn; clear HBn))
  go_loopg [4, 14] l.length (fun kq v4 v14 w' => ∃ (i : Nat) (acc : List Int), v14 = .int .i64 (i : Int) ∧ Aside0 (kq + i = l.length) ∧ Aside0 (acc = ntR l i) ∧ Aside0 (Kd.R (Kd.int .i64) 3 w' w.heap.size (fun _ => True) v4 acc) ∧ Aside0 (Below w.heap.size w w'))
  case atStart => exact ⟨0, [], rfl, ⟨rfl⟩, ⟨rfl⟩, HO, HB⟩
  case round =>
    clear HO HB HA HT
    obtain ⟨i, acc, rfl, HK, HACC, HO, HB⟩ := hrel
    have hk := HK.out
    by_cases hi : i < l.length
    · obtain ⟨ad, e, hci⟩ := Kd.at_int HC.out (i : Int) (by omega) (by omega)
      cases e
      rw [Int.toNat_natCast] at hci
      replace hci := pw_cell_below HB.out hci
      obtain ⟨i010, hi010, _, hsz10, _⟩ := info_parts HClone.info_int
      obtain ⟨A10, hcut10, hA10, hC10⟩ := print_drop_of (P := Try.prog) (Value.int .i64) 0 25 3 .i64 Try.underlying25 hi010 hsz10 (some ad) c0 l (i : Int) (by omega) (by omega) HC0.out
      have HR0 := Aside0.mk (show Kd.C (Kd.int .i64) wr A10 (l.drop ((i : Int)).toNat).length (l.drop ((i : Int)).toNat) from Kd.C_of_reads (h1 := fun _ => rfl) (hA10 _ (Kd.reads_of_C (Kd.C_below HC.out HB.out))))
      have HR10 := Aside0.mk (show Kd.C (Kd.int .i64) wr A10 (l.length - i) (l.drop i) from by have h9 := HR0.out; rw [Int.toNat_natCast, List.length_drop] at h9; exact h9)
      rw [Int.toNat_natCast, List.length_drop] at hcut10
      clear hA10 hC10 hi010 hsz10 HR0
      have HN := Aside0.mk (ntR_succ l i)
      have HAT : Aside0 (ntAt l i = if 0 ≤ idxF (fun o => decide (rd l (i : Int) < o)) (l.drop i) 0 then wrap64 (idxF (fun o => decide (rd l (i : Int) < o)) (l.drop i) 0 + (i : Int)) else idxF (fun o => decide (rd l (i : Int) < o)) (l.drop i) 0) := ⟨rfl⟩
      have HAL : Aside0 (acc.length = i) := ⟨by rw [HACC.out, ntR_len]⟩
      have HIX := Aside0.mk (fun (h : Int) (q : Int) (hv : idxF (fun o => decide (h < o)) (l.drop i) 0 = q) (B : Nat) (W : World) hc hr => taller_index A10 (c0 - i) (l.length - i) (l.drop i) (by rw [List.length_drop]) (by omega) h q hv B W hc hr)
      obtain ⟨h, hh⟩ : ∃ h : Int, rd l (i : Int) = h := ⟨_, rfl⟩
      rw [hh] at hci HAT
      clear hh
      obtain ⟨q, hq⟩ : ∃ q, idxF (fun o => decide (h < o)) (l.drop i) 0 = q := ⟨_, rfl⟩
      rw [hq] at HAT
      have HX := Aside0.mk (fun B W hc hr => HIX.out h q hq B W hc hr)
      clear HIX hq
      go_wp2_with fail
      refine (HX.out _ _ ?_ ?_).mono ?_
      · first | (go_simp; done) | simp
      · repeat (first | exact HR10.out | (with_reducible refine Kd.C_alloc ?_ _) | (with_reducible refine Kd.C_drewN ?_ _) | (with_reducible refine Kd.C_drew ?_) | (refine Kd.C_below HR10.out ?_; exact (by repeat (first | exact Below.refl _ _ | apply below_alloc | apply pw_below_drewN | apply below_drew1))))
      rintro e w3 ⟨rfl, hb⟩
      have HOn : Aside0 (Kd.R (Kd.int .i64) 3 w3 w.heap.size (fun _ => True) u4 acc) := ⟨Kd.R_below (by (with_reducible repeat (first | apply Kd.R_alloc | apply Kd.R_drewN | apply Kd.R_drew | (refine Kd.R_setCell_new ?_ _ _))); exact HO.out) hb⟩
      have HBn := Aside0.mk (below_step (by repeat (first | (with_reducible first | exact HB.out | apply below_alloc | apply pw_below_drewN | apply below_drew1) | exact HB.out)) hb)
      clear hb HO HB HX HR10
      have HO := HOn
      have HB := HBn
      clear HOn HBn
      have hal := HAL.out
      by_cases c : 0 ≤ q
      · have HN2 : Aside0 (ntR l (i + 1) = acc ++ [wrap64 (q + (i : Int))]) := ⟨by rw [HN.out, HAT.out, if_pos c, HACC.out]⟩
        generalize hz : wrap64 (q + (i : Int)) = z at HN2
        have hzw : IntKind.i64.wrap (q + (i : Int)) = z := (i64_w _).trans hz
        clear hz
        go_wp2_with ((with_reducible refine gate_builtin (b := .append) (xs := #[.tmp 29, .tmp 31]) rfl ?_); at_builtin; refine Kd.R_append (Kd.int .i64) (w0 := w) w.heap.size rfl (.tmp 29) (.tmp 31) 25 3 (.int .i64 0) 8 rfl Try.underlying25 HClone.info_int rfl (by decide) (by omega) u4 acc z [.int .i64 z] (fun _ => True) (fun _ => False) rfl rfl ?aP (fun _ hk => hk.elim) (fun _ _ => trivial) ?aO ?aB ?aS ?aL ?_; (case aP => exact rfl); (case aO => exact HO.out); (case aB => exact HB.out); (case aS => exact HB.out.size); (case aL => omega); intro v7 w7 ho hb hg hat; have HOn := Aside0.mk ho; have HBn := Aside0.mk hb; clear ho hb hg hat HO HB; have HO := HOn; have HB := HBn; clear HOn HBn)
        go_roundg (l.length - (i + 1))
        case measure => omega
        case rel => exact ⟨i + 1, acc ++ [z], rfl, ⟨by omega⟩, ⟨HN2.out.symm⟩, HO, HB⟩
      · have HN2 : Aside0 (ntR l (i + 1) = acc ++ [q]) := ⟨by rw [HN.out, HAT.out, if_neg c, HACC.out]⟩
        go_wp2_with ((with_reducible refine gate_builtin (b := .append) (xs := #[.tmp 29, .tmp 31]) rfl ?_); at_builtin; refine Kd.R_append (Kd.int .i64) (w0 := w) w.heap.size rfl (.tmp 29) (.tmp 31) 25 3 (.int .i64 0) 8 rfl Try.underlying25 HClone.info_int rfl (by decide) (by omega) u4 acc q [.int .i64 q] (fun _ => True) (fun _ => False) rfl rfl ?aP (fun _ hk => hk.elim) (fun _ _ => trivial) ?aO ?aB ?aS ?aL ?_; (case aP => exact rfl); (case aO => exact HO.out); (case aB => exact HB.out); (case aS => exact HB.out.size); (case aL => omega); intro v7 w7 ho hb hg hat; have HOn := Aside0.mk ho; have HBn := Aside0.mk hb; clear ho hb hg hat HO HB; have HO := HOn; have HB := HBn; clear HOn HBn)
        go_roundg (l.length - (i + 1))
        case measure => omega
        case rel => exact ⟨i + 1, acc ++ [q], rfl, ⟨by omega⟩, ⟨HN2.out.symm⟩, HO, HB⟩
    · have hjj : i = l.length := by omega
      go_wp2_with fail
      go_ret2
      exact ⟨_, rfl, by rw [← hjj, ← HACC.out]; exact HO.out, (by repeat (first | (with_reducible first | exact HB.out | apply below_alloc | apply pw_below_drewN | apply below_drew1) | exact HB.out))⟩
end Go.Proofs.Ytleacijhpkogpac.HNext
/- Pairs who see each other: a contract over the printed walk of spec.PairsSeeing, the walk of impl.PairsSeeing. -/
namespace Go.Proofs.Ytleacijhpkogpac.HPairs
open Go.RowKit Go.Proofs.YtleacijhpkogpacW.PrintWords Go.Proofs.YtleacijhpkogpacW.PrintLast Go.Proofs.YtleacijhpkogpacW.PrintMore Go.Proofs.Ytleacijhpkogpac.PFnHeightsSeenOfAll Go.Proofs.Ytleacijhpkogpac.HImpl Go.Proofs.Ytleacijhpkogpac.HSpecG
set_option linter.unusedVariables false
set_option linter.unusedSimpArgs false
attribute [local go_sem] max2_int max_two

/-- The pairs of soldier i (of height h) with those from j on, m being the greatest height between. -/
def prJ (h : Int) (i : Nat) : List Int → Nat → Int → List (List Int)
  | [], _, _ => []
  | x :: t, j, m => (if m < h ∧ m < x then [[(i : Int), (j : Int)]] else []) ++ prJ h i t (j + 1) (if m < x then x else m)
def prI (l : List Int) : Nat → Nat → List (List Int)
  | 0, _ => []
  | d + 1, i => prJ (rd l (i : Int)) i (l.drop (i + 1)) (i + 1) 0 ++ prI l d (i + 1)
def pairsL (l : List Int) : List (List Int) := prI l l.length 0
theorem prJ_done (h : Int) (i : Nat) : ∀ (t : List Int) (j : Nat) (m : Int), h ≤ m → prJ h i t j m = []
  | [], _, _, _ => rfl
  | x :: t, j, m, hm => by
    rw [prJ, if_neg (by omega), prJ_done h i t (j + 1) _ (by split <;> omega)]; rfl
theorem prJ_len (h : Int) (i : Nat) : ∀ (t : List Int) (j : Nat) (m : Int), (prJ h i t j m).length ≤ t.length
  | [], _, _ => Nat.le_refl _
  | x :: t, j, m => by
    have := prJ_len h i t (j + 1) (if m < x then x else m)
    rw [prJ, List.length_append]
    split <;> simp <;> omega
theorem prI_len (l : List Int) : ∀ d i, (prI l d i).length ≤ d * l.length
  | 0, _ => by simp [prI]
  | d + 1, i => by
    have h1 := prI_len l d (i + 1)
    have h2 := prJ_len (rd l (i : Int)) i (l.drop (i + 1)) (i + 1) 0
    rw [List.length_drop] at h2
    have e : (d + 1) * l.length = d * l.length + l.length := Nat.succ_mul _ _
    rw [prI, List.length_append, e]; omega
/-! ### the reference -/
theorem spec_inner (l : List Int) (hl : l.length ≤ 40) (i : Nat) (hi : i ≤ 40) (h : Int) (R : List (List Int)) (B : Nat) (hB : B ≤ 1000000)
    (hnext : ∀ acc : List (List Int), acc.length ≤ B → Ev (fun k => spec_PairsSeeing.l0 k l acc l (l.length : Int) ((i + 1 : Nat) : Int)) (acc ++ R, true)) :
    ∀ (d j : Nat) (m : Int) (acc : List (List Int)), j + d = l.length → acc.length + d ≤ B →
    Ev (fun k => spec_PairsSeeing.l1 k l acc (i : Int) h m (j : Int) l (l.length : Int) (i : Int)) (acc ++ (prJ h i (l.drop j) j m ++ R), true) := by
  intro d
  induction d with
  | zero =>
    intro j m acc hj ha
    rw [List.drop_eq_nil_of_le (by omega), prJ, List.nil_append]
    refine Ev.step (fun k => ?_) (hnext acc (by omega))
    rw [spec_PairsSeeing.l1, if_neg (by omega), w1 i (by omega)]
  | succ d ih =>
    intro j m acc hj ha
    have hlt : j < l.length := by omega
    rw [drop_cons l j hlt, prJ]
    generalize hx : rd l (j : Int) = x
    have hmx : spec_l1Most.f m x = some (if m < x then x else m) := by
      unfold spec_l1Most.f
      by_cases c : m < x
      · rw [if_neg (by omega), if_pos c]
      · by_cases c2 : m > x
        · rw [if_pos c2, if_neg c]
        · rw [if_neg c2, if_neg c, show x = m by omega]
    have hle : spec_l1Least.f h x = some (if h < x then h else x) := by
      unfold spec_l1Least.f
      split <;> rfl
    by_cases c : m < h ∧ m < x
    · have hr := ih (j + 1) (if m < x then x else m) (acc ++ [[(i : Int), (j : Int)]]) (by omega) (by simp; omega)
      rw [List.append_assoc] at hr
      rw [if_pos c, List.append_assoc]
      refine Ev.step (fun k => ?_) hr
      rw [spec_PairsSeeing.l1, if_pos (by omega), if_pos (by omega), hx, hle]
      simp only [Option.bind_some]
      rw [if_pos (show m < (if h < x then h else x) by split <;> omega), if_pos (by omega), hmx]
      simp only [Option.bind_some]
      rw [w1 j (by omega)]
    · have hr := ih (j + 1) (if m < x then x else m) acc (by omega) (by omega)
      rw [if_neg c, List.nil_append]
      refine Ev.step (fun k => ?_) hr
      rw [spec_PairsSeeing.l1, if_pos (by omega), if_pos (by omega), hx, hle]
      simp only [Option.bind_some]
      rw [if_neg (show ¬ m < (if h < x then h else x) by split <;> omega), hmx]
      simp only [Option.bind_some]
      rw [w1 j (by omega)]
theorem spec_outer (l : List Int) (hl : l.length ≤ 40) : ∀ (d i : Nat) (acc : List (List Int)), i + d = l.length → acc.length + d * 40 ≤ 1000000 →
    Ev (fun k => spec_PairsSeeing.l0 k l acc l (l.length : Int) (i : Int)) (acc ++ prI l d i, true) := by
  intro d
  induction d with
  | zero =>
    intro i acc hi ha
    rw [prI, List.append_nil]
    refine Ev.step (f := fun _ => some (acc, true)) (fun k => ?_) (Ev.now _)
    rw [spec_PairsSeeing.l0, if_neg (by omega)]
  | succ d ih =>
    intro i acc hi ha
    have h1 := spec_inner l hl i (by omega) (rd l (i : Int)) (prI l d (i + 1)) (1000000 - d * 40) (by omega) (fun acc2 h2 => ih (i + 1) acc2 (by omega) (by omega)) (l.length - (i + 1)) (i + 1) 0 acc (by omega) (by omega)
    rw [prI]
    refine Ev.step (fun k => ?_) h1
    rw [spec_PairsSeeing.l0, if_pos (by omega), if_pos (by omega), if_pos (by omega), w1 i (by omega)]
theorem spec_calls (A0 : Option Addr) (c0 : Nat) (l : List Int) (hl : l.length ≤ 1048576) (w : World) (h0 : Kd.C (Kd.int .i64) w A0 l.length l) (hc0 : l.length ≤ c0) :
    Calls Try.prog 10 #[.slice A0 l.length c0] w fun e w' => ∃ v : Value, e = .returned (.tuple #[v, .bool (good l)]) ∧ Kd.S (Kd.slice 3 (Kd.int .i64)) 25 w' w.heap.size (fun _ => True) v (if good l = true then pairsL l else []) ∧ Below w.heap.size w w' := by
  have h : Ev (fun k => spec_PairsSeeing.f k l) (if good l = true then pairsL l else [], good l) := by
    refine Ev.bind (good_ev l hl) ?_
    cases hg : good l with
    | true =>
      have := good_len hg
      have h1 := spec_outer l this.2 l.length 0 [] (by omega) (by simp; omega)
      rw [List.nil_append] at h1
      simp only [if_true]
      exact h1
    | false => exact Ev.now _
  obtain ⟨k, hk⟩ := h.rounds
  exact spec_PairsSeeing.calls k A0 c0 l _ _ w h0 hc0 hk
/-! ### the program -/
theorem info_row : (Try.prog.info? 25).map (fun i => (i.zero, i.size, i.bytes)) = some (some (.slice none 0 0), 1, 24) := by kernel_rfl
set_option maxHeartbeats 8000000 in
set_option maxRecDepth 100000 in
theorem impl_no (A0 : Option Addr) (c0 : Nat) (l : List Int) (hg : good l = false) (w : World) (h0 : Kd.C (Kd.int .i64) w A0 l.length l) (hc0 : l.length ≤ c0) :
    Calls Try.prog 12 #[.slice A0 l.length c0] w fun e w' => ∃ v : Value, e = .returned (.tuple #[v, .bool false]) ∧ Kd.S (Kd.slice 3 (Kd.int .i64)) 25 w' w.heap.size (fun _ => True) v [] ∧ Below w.heap.size w w' := by
  have HA := Aside0.mk (are_is A0 c0 l false hg w h0 hc0)
  have HB := Aside0.mk (Below.refl w.heap.size w)
  clear hg h0
  go_enter Try.func12, Try.ntmps12
  go_wp2_with (go_at_call 61; refine HA.out.mono ?_; rintro e w' ⟨rfl, ⟨nd, rfl⟩⟩)
  go_ret2
  exact ⟨_, rfl, Kd.S_nil _ _ _ _ _, (by repeat (first | (with_reducible first | exact HB.out | apply below_alloc | apply pw_below_drewN | apply below_drew1) | exact HB.out))⟩
set_option maxHeartbeats 8000000 in
set_option maxRecDepth 100000 in
theorem impl_yes (A0 : Option Addr) (c0 : Nat) (l : List Int) (hg : good l = true) (w : World) (h0 : Kd.C (Kd.int .i64) w A0 l.length l) (hc0 : l.length ≤ c0) :
    Calls Try.prog 12 #[.slice A0 l.length c0] w fun e w' => ∃ v : Value, e = .returned (.tuple #[v, .bool true]) ∧ Kd.S (Kd.slice 3 (Kd.int .i64)) 25 w' w.heap.size (fun _ => True) v (pairsL l) ∧ Below w.heap.size w w' := by
  have HA := Aside0.mk (are_is A0 c0 l true hg w h0 hc0)
  have HB := Aside0.mk (Below.refl w.heap.size w)
  obtain ⟨hl1, hl2⟩ := good_len hg
  have HC := Aside0.mk h0
  have HPL : Aside0 (prI l l.length 0 = pairsL l) := ⟨rfl⟩
  clear hg h0
  go_enter Try.func12, Try.ntmps12
  go_wp2_with (first | (go_at_call 61; refine HA.out.mono ?_; rintro e w' ⟨rfl, ⟨nd, rfl⟩⟩) | ((with_reducible refine gate_dst (N := 11) rfl ?_); refine Kd.S_lit (Kd.slice 3 (Kd.int .i64)) (w0 := w) w.heap.size 25 ?hg (N := 11) ?hd (xs := ([] : List (List Int))) (inner := []) (ok := fun _ => True) (okp := fun _ => True) ?hr ?hp (fun _ hk => hk) trivial (by repeat (first | (with_reducible first | exact HB.out | apply below_alloc | apply pw_below_drewN | apply below_drew1) | exact HB.out)) (below_size (by repeat (first | (with_reducible first | exact HB.out | apply below_alloc | apply pw_below_drewN | apply below_drew1) | exact HB.out))) (by simp) ?_; (case hd => rfl); (case hg => rfl); (case hr => first | (go_simp; done) | (go_simp; rfl)); (case hp => exact (Reps.none _ _)); intro v1 w2 ho hb hg hnew; have HO := Aside0.mk ho; have HBn := Aside0.mk hb; clear ho hb hg hnew HB; have HB := HBn; clear HBn))
  go_loopg [4, 14] l.length (fun kq v4 v14 w' => ∃ (i : Nat) (acc : List (List Int)), v14 = .int .i64 (i : Int) ∧ Aside0 (kq + i = l.length) ∧ Aside0 (acc.length ≤ i * 40) ∧ Aside0 (acc ++ prI l (l.length - i) i = pairsL l) ∧ Aside0 (Kd.S (Kd.slice 3 (Kd.int .i64)) 25 w' w.heap.size (fun _ => True) v4 acc) ∧ Aside0 (Below w.heap.size w w'))
  case atStart => exact ⟨0, [], rfl, ⟨rfl⟩, ⟨by simp⟩, ⟨by rw [List.nil_append]; exact HPL.out⟩, HO, HB⟩
  case round =>
    clear HO HB HA HPL
    obtain ⟨i, acc, rfl, HK, HAL, HE, HO, HB⟩ := hrel
    by_cases hi : i < l.length
    · have HE1 : Aside0 (acc ++ (prJ (rd l (i : Int)) i (l.drop (i + 1)) (i + 1) 0 ++ prI l (l.length - (i + 1)) (i + 1)) = pairsL l) := ⟨by
        have := HE.out
        rw [show l.length - i = (l.length - (i + 1)) + 1 by omega, prI] at this
        exact this⟩
      generalize hh : rd l (i : Int) = h at HE1
      have HH := Aside0.mk hh
      clear hh HE
      obtain ⟨wo, hwo⟩ : ∃ wo : World, wo = wr := ⟨_, rfl⟩
      clear hwo
      go_wp2_with fail
      go_loopg [4, 6, 7] (l.length - (i + 1)) (fun kq2 v4 v6 v7 w' => ∃ (k : Nat) (m : Int) (acc2 : List (List Int)), v6 = .int .i64 m ∧ v7 = .int .i64 (k : Int) ∧ Aside0 (kq2 + k = l.length) ∧ Aside0 (acc2.length ≤ i * 40 + k) ∧ Aside0 (acc2 ++ (prJ h i (l.drop k) k m ++ prI l (l.length - (i + 1)) (i + 1)) = pairsL l) ∧ Aside0 (Kd.S (Kd.slice 3 (Kd.int .i64)) 25 w' w.heap.size (fun _ => True) v4 acc2) ∧ Aside0 (Below w.heap.size w w'))
      case atStart => exact ⟨i + 1, 0, acc, rfl, rfl, ⟨by omega⟩, ⟨by have := HAL.out; omega⟩, HE1, HO, HB⟩
      case round =>
        clear HE1 HO HB
        obtain ⟨k, m, acc2, rfl, rfl, HK2, HAL2, HE, HO, HB⟩ := hrel
        have fin : ∀ (hE : prJ h i (l.drop k) k m = []), acc2 ++ prI l (l.length - (i + 1)) (i + 1) = pairsL l := fun hE => by have := HE.out; rw [hE, List.nil_append] at this; exact this
        have FIN := Aside0.mk fin
        clear fin
        by_cases hk : k < l.length
        · obtain ⟨ad, e, hci⟩ := Kd.at_int HC.out (i : Int) (by omega) (by omega)
          cases e
          rw [HH.out, Int.toNat_natCast] at hci
          have HCI := Aside0.mk hci
          replace hci := pw_cell_below HB.out hci
          by_cases hm : m < h
          · obtain ⟨ad2, e, hck⟩ := Kd.at_int HC.out (k : Int) (by omega) (by omega)
            cases e
            rw [Int.toNat_natCast] at hck
            have HE2 : Aside0 (acc2 ++ ((if m < h ∧ m < rd l (k : Int) then [[(i : Int), (k : Int)]] else []) ++ prJ h i (l.drop (k + 1)) (k + 1) (if m < rd l (k : Int) then rd l (k : Int) else m) ++ prI l (l.length - (i + 1)) (i + 1)) = pairsL l) := ⟨by
              have := HE.out
              rw [drop_cons l k hk, prJ] at this
              exact this⟩
            generalize rd l (k : Int) = x at hck HE2
            have HCK := Aside0.mk hck
            replace hck := pw_cell_below HB.out hck
            clear HE FIN
            have hal := HAL2.out
            by_cases hx : m < x
            · have HE3 : Aside0 ((acc2 ++ [[(i : Int), (k : Int)]]) ++ (prJ h i (l.drop (k + 1)) (k + 1) x ++ prI l (l.length - (i + 1)) (i + 1)) = pairsL l) := ⟨by
                have := HE2.out
                rw [if_pos ⟨hm, hx⟩, if_pos hx] at this
                simpa [List.append_assoc] using this⟩
              go_wp2_with (first | ((with_reducible refine gate_dst (N := 42) rfl ?_); refine Kd.R_lit (Kd.int .i64) (w0 := wr) wr.heap.size 3 ?hg (N := 42) ?hd (xs := ([(i : Int), (k : Int)] : List Int)) (inner := [.int .i64 (i : Int), .int .i64 (k : Int)]) (ok := fun _ => True) (okp := fun _ => True) ?hr ?hp (fun _ hk => hk) trivial (Below.refl _ _) (Nat.le_refl _) (by simp) ?_; (case hd => rfl); (case hg => rfl); (case hr => first | (go_simp; done) | (go_simp; rfl)); (case hp => exact (Reps.one (show Kd.M (Kd.int .i64) _ _ _ (i : Int) [.int .i64 (i : Int)] from rfl) (Reps.one (show Kd.M (Kd.int .i64) _ _ _ (k : Int) [.int .i64 (k : Int)] from rfl) (Reps.none _ _)))); intro v9 w9 ho hb hg hnew; obtain ⟨A9, c9, rfl⟩ := Kd.R_slice ho; have HP9 := Aside0.mk (Kd.R_lower (Kd.R_mono (ok' := fun k => wr.heap.size ≤ k) (Kd.R_bound ho) (fun k hk => hk.2.1)) HB.out.size); have HLT := Aside0.mk (Kd.S_lt HO.out); have HO9 := Aside0.mk (Kd.S_mono (ok' := fun k => True ∧ ¬ wr.heap.size ≤ k) (Kd.S_old HO.out hb) (fun k hk => ⟨trivial, by have := hk.2; omega⟩)); have HB9 := Aside0.mk (below_step HB.out hb); clear ho hb hg hnew HO HB) | ((with_reducible refine gate_builtin (b := .append) (xs := #[.tmp 39, .tmp 43]) rfl ?_); at_builtin; refine Kd.S_append (Kd.slice 3 (Kd.int .i64)) (w0 := w) w.heap.size rfl (.tmp 39) (.tmp 43) 26 25 (.slice none 0 0) 24 rfl Try.underlying26 info_row rfl (by decide) (by omega) u4 acc2 [(i : Int), (k : Int)] [.slice A9 2 c9] (fun _ => True) (fun k => wr.heap.size ≤ k) rfl rfl ?aP ?aK (fun _ _ => trivial) ?aO ?aB ?aS ?aL ?_; (case aP => exact ⟨_, rfl, HP9.out⟩); (case aK => exact (fun k hk => ⟨trivial, fun e => by have := HLT.out k e.symm; omega⟩)); (case aO => exact HO9.out); (case aB => exact HB9.out); (case aS => exact HB9.out.size); (case aL => omega); intro v7 w7 ho hb hg hat; have HO := Aside0.mk ho; have HB := Aside0.mk hb; have hck7 := pw_cell_below hb HCK.out; clear ho hb hg hat))
              go_roundg (l.length - (k + 1))
              case measure => have := HK2.out; omega
              case rel => exact ⟨k + 1, x, acc2 ++ [[(i : Int), (k : Int)]], rfl, rfl, ⟨by have := HK2.out; omega⟩, ⟨by simp; omega⟩, HE3, HO, HB⟩
            · have HE3 : Aside0 (acc2 ++ (prJ h i (l.drop (k + 1)) (k + 1) m ++ prI l (l.length - (i + 1)) (i + 1)) = pairsL l) := ⟨by
                have := HE2.out
                rw [if_neg (fun z => hx z.2), if_neg hx, List.nil_append] at this
                exact this⟩
              go_wp2_with fail
              go_roundg (l.length - (k + 1))
              case measure => have := HK2.out; omega
              case rel => exact ⟨k + 1, m, acc2, rfl, rfl, ⟨by have := HK2.out; omega⟩, ⟨by omega⟩, HE3, HO, HB⟩
          · have HE3 : Aside0 (acc2 ++ prI l (l.length - (i + 1)) (i + 1) = pairsL l) := ⟨FIN.out (prJ_done h i _ _ _ (by omega))⟩
            have hal := HAL2.out
            clear FIN
            go_wp2_with fail
            go_roundg (l.length - (i + 1))
            case measure => have := HK.out; omega
            case rel => exact ⟨i + 1, acc2, rfl, ⟨by have := HK.out; omega⟩, ⟨by omega⟩, HE3, HO, HB⟩
        · have HE3 : Aside0 (acc2 ++ prI l (l.length - (i + 1)) (i + 1) = pairsL l) := ⟨FIN.out (by rw [List.drop_eq_nil_of_le (by omega)]; rfl)⟩
          have hal := HAL2.out
          have hk2 := HK2.out
          clear FIN
          go_wp2_with fail
          go_roundg (l.length - (i + 1))
          case measure => have := HK.out; omega
          case rel => exact ⟨i + 1, acc2, rfl, ⟨by have := HK.out; omega⟩, ⟨by omega⟩, HE3, HO, HB⟩
    · have hii : i = l.length := by have := HK.out; omega
      have HE3 : Aside0 (acc = pairsL l) := ⟨by have := HE.out; rw [hii, Nat.sub_self, prI, List.append_nil] at this; exact this⟩
      clear HE
      go_wp2_with fail
      go_ret2
      exact ⟨_, rfl, by rw [← HE3.out]; exact HO.out, (by repeat (first | (with_reducible first | exact HB.out | apply below_alloc | apply pw_below_drewN | apply below_drew1) | exact HB.out))⟩
end Go.Proofs.Ytleacijhpkogpac.HPairs
