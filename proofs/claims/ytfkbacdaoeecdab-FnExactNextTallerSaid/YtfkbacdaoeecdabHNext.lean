/- The nearest taller one to the right: contracts over the printed walk of spec.NextTaller, the walks of impl.NextTaller and its closure. -/
import Derived.Test.YtfkbacdaoeecdabPFnExactNextTallerx4
import Derived.Test.YtfkbacdaoeecdabHGoodN
import Derived.Test.YtfkbacdaoeecdabHGood
import Derived.Test.YtfkbacdaoeecdabHClone
namespace Go.Proofs.Ytfkbacdaoeecdab.HNext
open Go.RowKit Go.Proofs.YtfkbacdaoeecdabW.PrintWords Go.Proofs.YtfkbacdaoeecdabW.PrintLast Go.Proofs.YtfkbacdaoeecdabW.PrintMore Go.Proofs.Ytfkbacdaoeecdab.HImpl Go.Proofs.Ytfkbacdaoeecdab.HSpecGN Go.Proofs.Ytfkbacdaoeecdab.PFnExactNextTaller
set_option linter.unusedVariables false
set_option linter.unusedSimpArgs false

/-- The nearest one to the right who is taller than the one at a place; -1 if there is none. -/
def ntAt (l : List Int) (i : Nat) : Int :=
  if 0 ≤ idxF (fun o => decide (rd l (i : Int) < o)) (l.drop i) 0 then wrap64 (idxF (fun o => decide (rd l (i : Int) < o)) (l.drop i) 0 + (i : Int)) else idxF (fun o => decide (rd l (i : Int) < o)) (l.drop i) 0
def ntR (l : List Int) (n : Nat) : List Int := (List.range n).map (ntAt l)
theorem ntR_succ (l : List Int) (n : Nat) : ntR l (n + 1) = ntR l n ++ [ntAt l n] := by simp [ntR, List.range_succ]
theorem ntR_len (l : List Int) (n : Nat) : (ntR l n).length = n := by simp [ntR]
theorem idxF_shift (p : Int → Bool) : ∀ (t : List Int) (a c : Int), 0 ≤ a → idxF p t (a + c) = if 0 ≤ idxF p t a then idxF p t a + c else idxF p t a
  | [], a, c, h => by simp [idxF]
  | x :: xs, a, c, h => by
    by_cases hx : p x = true
    · have e : ∀ b, idxF p (x :: xs) b = b := fun b => by simp [idxF, hx]
      rw [e, e, if_pos h]
    · have e : ∀ b, idxF p (x :: xs) b = idxF p xs (b + 1) := fun b => by simp [idxF, hx]
      rw [e, e, show a + c + 1 = (a + 1) + c by omega]
      exact idxF_shift p xs (a + 1) c (by omega)
theorem idxF_le (p : Int → Bool) : ∀ (t : List Int) (a : Int), 0 ≤ a → idxF p t a ≤ a + (t.length : Int) ∧ -1 ≤ idxF p t a
  | [], a, h => by simp [idxF]; omega
  | x :: xs, a, h => by
    by_cases hx : p x = true
    · have e : idxF p (x :: xs) a = a := by simp [idxF, hx]
      rw [e]; simp; omega
    · have e : idxF p (x :: xs) a = idxF p xs (a + 1) := by simp [idxF, hx]
      have := idxF_le p xs (a + 1) (by omega)
      rw [e]; simp; omega
theorem ntAt_eq (l : List Int) (hl : l.length ≤ 1048576) (i : Nat) (hi : i < l.length) :
    ntAt l i = idxF (fun o => decide (rd l (i : Int) < o)) (l.drop (i + 1)) ((i + 1 : Nat) : Int) := by
  have hs := idxF_shift (fun o => decide (rd l (i : Int) < o)) (l.drop i) 0 (i : Int) (by omega)
  have hb := idxF_le (fun o => decide (rd l (i : Int) < o)) (l.drop i) 0 (by omega)
  rw [List.length_drop] at hb
  have e : idxF (fun o => decide (rd l (i : Int) < o)) (l.drop (i + 1)) ((i + 1 : Nat) : Int) = idxF (fun o => decide (rd l (i : Int) < o)) (l.drop i) (0 + (i : Int)) := by
    rw [drop_cons l i hi]
    simp [idxF]
  rw [e, hs]
  unfold ntAt
  split
  · unfold wrap64; omega
  · rfl
theorem next_found (l out : List Int) (ho : out.length ≤ 1048576) (i : Nat) (hi : i ≤ 1048576) (h : Int) (R : List Int × Bool) (x : Int) (hx : 0 ≤ x) (j : Int)
    (hev : Ev (fun k => spec_NextTaller.l0 k l (out ++ [x]) l (l.length : Int) ((i + 1 : Nat) : Int)) R) :
    Ev (fun k => spec_NextTaller.l1 k l out h x j l (l.length : Int) (i : Int)) R := by
  have h2 : Ev (fun k => spec_NextTaller.j2 k l out h x j l (l.length : Int) (i : Int) false) R := by
    refine Ev.step (fun k => ?_) hev
    simp only [spec_NextTaller.j2]
    rw [if_neg (by simp), if_pos (by omega), w1 i (by omega)]
  refine Ev.step (fun k => ?_) h2
  simp only [spec_NextTaller.l1]
  rw [decide_eq_false (show ¬ x < 0 by omega)]
  split <;> rfl
theorem next_in (l : List Int) (hl : l.length ≤ 1048576) (out : List Int) (ho : out.length ≤ 1048576) (i : Nat) (hi : i ≤ 1048576) (h : Int) (R : List Int × Bool) : ∀ (d j : Nat), j + d = l.length →
    Ev (fun k => spec_NextTaller.l0 k l (out ++ [idxF (fun o => decide (h < o)) (l.drop j) (j : Int)]) l (l.length : Int) ((i + 1 : Nat) : Int)) R →
    Ev (fun k => spec_NextTaller.l1 k l out h (-1) (j : Int) l (l.length : Int) (i : Int)) R := by
  intro d
  induction d with
  | zero =>
    intro j hj hev
    rw [List.drop_eq_nil_of_le (by omega)] at hev
    have h2 : Ev (fun k => spec_NextTaller.j2 k l out h (-1) (j : Int) l (l.length : Int) (i : Int) false) R := by
      refine Ev.step (fun k => ?_) hev
      simp only [spec_NextTaller.j2, idxF]
      rw [if_neg (by simp), if_pos (by omega), w1 i (by omega)]
    refine Ev.step (fun k => ?_) h2
    simp only [spec_NextTaller.l1]
    rw [if_neg (by omega)]
  | succ d ih =>
    intro j hj hev
    have hlt : j < l.length := by omega
    have h3 : Ev (fun k => spec_NextTaller.j2 k l out h (-1) (j : Int) l (l.length : Int) (i : Int) true) R := by
      rw [drop_cons l j hlt] at hev
      by_cases c : rd l (j : Int) > h
      · have e : idxF (fun o => decide (h < o)) (rd l (j : Int) :: l.drop (j + 1)) (j : Int) = (j : Int) := by
          have c' : h < rd l (j : Int) := c
          simp [idxF, c']
        rw [e] at hev
        refine Ev.step (fun k => ?_) (next_found l out ho i hi h R (j : Int) (by omega) ((j + 1 : Nat) : Int) hev)
        simp only [spec_NextTaller.j2, if_true]
        rw [if_pos (by omega), if_pos (by omega), if_pos c, w1 j (by omega)]
      · have e : idxF (fun o => decide (h < o)) (rd l (j : Int) :: l.drop (j + 1)) (j : Int) = idxF (fun o => decide (h < o)) (l.drop (j + 1)) ((j + 1 : Nat) : Int) := by
          have c' : ¬ h < rd l (j : Int) := c
          simp [idxF, c']
        rw [e] at hev
        refine Ev.step (fun k => ?_) (ih (j + 1) (by omega) hev)
        simp only [spec_NextTaller.j2, if_true]
        rw [if_pos (by omega), if_pos (by omega), if_neg c, w1 j (by omega)]
    refine Ev.step (fun k => ?_) h3
    simp only [spec_NextTaller.l1]
    rw [if_pos (by omega)]
    rfl
theorem next_out (l : List Int) (hl : l.length ≤ 1048576) : ∀ (d i : Nat), i + d = l.length →
    Ev (fun k => spec_NextTaller.l0 k l (ntR l i) l (l.length : Int) (i : Int)) (ntR l l.length, true) := by
  intro d
  induction d with
  | zero =>
    intro i hi
    refine Ev.step (f := fun _ => some (ntR l i, true)) (fun k => ?_) ?_
    · simp only [spec_NextTaller.l0]
      rw [if_neg (by omega)]
    · rw [show i = l.length by omega]
      exact Ev.now _
  | succ d ih =>
    intro i hi
    have hlt : i < l.length := by omega
    have hr := ih (i + 1) (by omega)
    rw [ntR_succ, ntAt_eq l hl i hlt] at hr
    refine Ev.step (fun k => ?_) (next_in l hl (ntR l i) (by rw [ntR_len]; omega) i (by omega) (rd l (i : Int)) _ (l.length - (i + 1)) (i + 1) (by omega) hr)
    simp only [spec_NextTaller.l0]
    rw [if_pos (by omega), if_pos (by omega), if_pos (by omega), w1 i (by omega)]
theorem spec_calls (A0 : Option Addr) (c0 : Nat) (l : List Int) (hl : l.length ≤ 1048576) (w : World) (h0 : Kd.C (Kd.int .i64) w A0 l.length l) (hc0 : l.length ≤ c0) :
    Calls Try.prog 9 #[.slice A0 l.length c0] w fun e w' => ∃ v : Value, e = .returned (.tuple #[v, .bool (good l)]) ∧ Kd.R (Kd.int .i64) 3 w' w.heap.size (fun _ => True) v (if good l = true then ntR l l.length else []) ∧ Below w.heap.size w w' := by
  have h : Ev (fun k => spec_NextTaller.f k l) (if good l = true then ntR l l.length else [], good l) := by
    refine Ev.bind (good_ev l hl) ?_
    cases hg : good l with
    | true =>
      simp only [if_true]
      exact next_out l hl l.length 0 (by omega)
    | false => exact Ev.now _
  obtain ⟨k, hk⟩ := h.rounds
  exact spec_NextTaller.calls k A0 c0 l _ _ w h0 hc0 hk
/-! ### the program -/
set_option maxHeartbeats 8000000 in
theorem taller_1_calls (B : Nat) (h x : Int) (w : World) (hc : w.cell? ⟨B, 0, none⟩ = some (.int .i64 h)) :
    Calls Try.prog 28 (#[.int .i64 x] ++ #[.pointer (some ⟨B, 0, none⟩)]) w fun e w' => e = .returned (.bool (decide (h < x))) ∧ ∃ q', w' = w.drewN q' := by
  show Calls Try.prog 28 #[.int .i64 x, .pointer (some ⟨B, 0, none⟩)] w _
  go_enter Try.func28, Try.ntmps28
  go_wp2
  go_ret
  exact ⟨rfl, 0, rfl⟩
theorem taller_index (A0 : Option Addr) (c0 n : Nat) (l : List Int) (hn : l.length = n) (hl : n ≤ 4611686018427387904) (h v : Int) (hv : idxF (fun o => decide (h < o)) l 0 = v) (B : Nat) (w : World) (hc : w.cell? ⟨B, 0, none⟩ = some (.int .i64 h)) (hr : Kd.C (Kd.int .i64) w A0 n l) :
    Calls Try.prog 27 #[.slice A0 n c0, .func (.func 28) #[] #[.pointer (some ⟨B, 0, none⟩)]] w fun e w' => e = .returned (.int .i64 v) ∧ Below w.heap.size w w' := by
  subst hn hv
  exact (indexFunc_calls (fun o => decide (h < o)) 28 #[.pointer (some ⟨B, 0, none⟩)] (enters_ (P := Try.prog) Try.func28 (by kernel_rfl) rfl) A0 c0 l w hr hl
    (fun x q => taller_1_calls B h x (w.drewN q) (by simpa using hc))).mono fun e W' h => ⟨h.1, h.2.below⟩
set_option maxHeartbeats 8000000 in
set_option maxRecDepth 100000 in
theorem impl_no (A0 : Option Addr) (c0 : Nat) (l : List Int) (hg : good l = false) (w : World) (h0 : Kd.C (Kd.int .i64) w A0 l.length l) (hc0 : l.length ≤ c0) :
    Calls Try.prog 11 #[.slice A0 l.length c0] w fun e w' => ∃ v : Value, e = .returned (.tuple #[v, .bool false]) ∧ Kd.R (Kd.int .i64) 3 w' w.heap.size (fun _ => True) v [] ∧ Below w.heap.size w w' := by
  have HA := Aside0.mk (are_is A0 c0 l false hg w h0 hc0)
  have HB := Aside0.mk (Below.refl w.heap.size w)
  clear hg h0
  go_enter Try.func11, Try.ntmps11
  go_wp2_with (go_at_call 26; refine HA.out.mono ?_; rintro e w' ⟨rfl, ⟨nd, rfl⟩⟩)
  go_ret2
  exact ⟨_, rfl, Kd.R_nil _ _ _ _ _, (by repeat (first | (with_reducible first | exact HB.out | apply below_alloc | apply pw_below_drewN | apply below_drew1) | exact HB.out))⟩
set_option maxHeartbeats 8000000 in
set_option maxRecDepth 100000 in
theorem impl_yes (A0 : Option Addr) (c0 : Nat) (l : List Int) (hg : good l = true) (w : World) (h0 : Kd.C (Kd.int .i64) w A0 l.length l) (hc0 : l.length ≤ c0) :
    Calls Try.prog 11 #[.slice A0 l.length c0] w fun e w' => ∃ v : Value, e = .returned (.tuple #[v, .bool true]) ∧ Kd.R (Kd.int .i64) 3 w' w.heap.size (fun _ => True) v (ntR l l.length) ∧ Below w.heap.size w w' := by
  have HA := Aside0.mk (are_is A0 c0 l true hg w h0 hc0)
  have HB := Aside0.mk (Below.refl w.heap.size w)
  obtain ⟨hl1, hl2⟩ := good_len hg
  have HC := Aside0.mk h0
  have HC0 := Aside0.mk hc0
  have HT : Aside0 (ntR l l.length = ntR l l.length) := ⟨rfl⟩
  have hmf : ∀ (fn : Fn) (first cap : Array Value) (w : World), (Instr.makeFunc fn first cap).run Try.prog w = .ok (.func fn first cap) w := fun _ _ _ _ => rfl
  clear hg h0
  go_enter Try.func11, Try.ntmps11
  go_wp2_with (first | (go_at_call 26; refine HA.out.mono ?_; rintro e w' ⟨rfl, ⟨nd, rfl⟩⟩) | ((with_reducible refine gate_dst (N := 11) rfl ?_); refine Kd.R_lit (Kd.int .i64) (w0 := w) w.heap.size 3 ?hg (N := 11) ?hd (xs := ([] : List Int)) (inner := []) (ok := fun _ => True) (okp := fun _ => True) ?hr ?hp (fun _ hk => hk) trivial (by repeat (first | (with_reducible first | exact HB.out | apply below_alloc | apply pw_below_drewN | apply below_drew1) | exact HB.out)) (below_size (by repeat (first | (with_reducible first | exact HB.out | apply below_alloc | apply pw_below_drewN | apply below_drew1) | exact HB.out))) (by simp) ?_; (case hd => rfl); (case hg => rfl); (case hr => first | (go_simp; done) | (go_simp; rfl)); (case hp => exact (Reps.none _ _)); intro v1 w1 ho hb hg hnew; have HO := Aside0.mk ho; have HBn := Aside0.mk hb; clear ho hb hg hnew HB; have HB := HBn; clear HBn))
  go_loopg [4, 14] l.length (fun kq v4 v14 w' => ∃ (i : Nat) (acc : List Int), v14 = .int .i64 (i : Int) ∧ Aside0 (kq + i = l.length) ∧ Aside0 (acc = ntR l i) ∧ Aside0 (Kd.R (Kd.int .i64) 3 w' w.heap.size (fun _ => True) v4 acc) ∧ Aside0 (Below w.heap.size w w'))
  case atStart => exact ⟨0, [], rfl, ⟨rfl⟩, ⟨rfl⟩, HO, HB⟩
  case round =>
    clear HO HB HA HT
    obtain ⟨i, acc, rfl, HK, HACC, HO, HB⟩ := hrel
    have hk := HK.out
    by_cases hi : i < l.length
    · obtain ⟨ad, e, hci⟩ := Kd.at_int HC.out (i : Int) (by omega) (by omega)
      cases e
      rw [Int.toNat_natCast] at hci
      replace hci := pw_cell_below HB.out hci
      obtain ⟨i010, hi010, _, hsz10, _⟩ := info_parts HClone.info_int
      obtain ⟨A10, hcut10, hA10, hC10⟩ := print_drop_of (P := Try.prog) (Value.int .i64) 0 22 3 .i64 Try.underlying22 hi010 hsz10 (some ad) c0 l (i : Int) (by omega) (by omega) HC0.out
      have HR0 := Aside0.mk (show Kd.C (Kd.int .i64) wr A10 (l.drop ((i : Int)).toNat).length (l.drop ((i : Int)).toNat) from Kd.C_of_reads (h1 := fun _ => rfl) (hA10 _ (Kd.reads_of_C (Kd.C_below HC.out HB.out))))
      have HR10 := Aside0.mk (show Kd.C (Kd.int .i64) wr A10 (l.length - i) (l.drop i) from by have h9 := HR0.out; rw [Int.toNat_natCast, List.length_drop] at h9; exact h9)
      rw [Int.toNat_natCast, List.length_drop] at hcut10
      clear hA10 hC10 hi010 hsz10 HR0
      have HN := Aside0.mk (ntR_succ l i)
      have HAT : Aside0 (ntAt l i = if 0 ≤ idxF (fun o => decide (rd l (i : Int) < o)) (l.drop i) 0 then wrap64 (idxF (fun o => decide (rd l (i : Int) < o)) (l.drop i) 0 + (i : Int)) else idxF (fun o => decide (rd l (i : Int) < o)) (l.drop i) 0) := ⟨rfl⟩
      have HAL : Aside0 (acc.length = i) := ⟨by rw [HACC.out, ntR_len]⟩
      have HIX := Aside0.mk (fun (h : Int) (q : Int) (hv : idxF (fun o => decide (h < o)) (l.drop i) 0 = q) (B : Nat) (W : World) hc hr => taller_index A10 (c0 - i) (l.length - i) (l.drop i) (by rw [List.length_drop]) (by omega) h q hv B W hc hr)
      obtain ⟨h, hh⟩ : ∃ h : Int, rd l (i : Int) = h := ⟨_, rfl⟩
      rw [hh] at hci HAT
      clear hh
      obtain ⟨q, hq⟩ : ∃ q, idxF (fun o => decide (h < o)) (l.drop i) 0 = q := ⟨_, rfl⟩
      rw [hq] at HAT
      have HX := Aside0.mk (fun B W hc hr => HIX.out h q hq B W hc hr)
      clear HIX hq
      go_wp2_with fail
      refine (HX.out _ _ ?_ ?_).mono ?_
      · first | (go_simp; done) | simp
      · repeat (first | exact HR10.out | (with_reducible refine Kd.C_alloc ?_ _) | (with_reducible refine Kd.C_drewN ?_ _) | (with_reducible refine Kd.C_drew ?_) | (refine Kd.C_below HR10.out ?_; exact (by repeat (first | exact Below.refl _ _ | apply below_alloc | apply pw_below_drewN | apply below_drew1))))
      rintro e w3 ⟨rfl, hb⟩
      have HOn : Aside0 (Kd.R (Kd.int .i64) 3 w3 w.heap.size (fun _ => True) u4 acc) := ⟨Kd.R_below (by (with_reducible repeat (first | apply Kd.R_alloc | apply Kd.R_drewN | apply Kd.R_drew | (refine Kd.R_setCell_new ?_ _ _))); exact HO.out) hb⟩
      have HBn := Aside0.mk (below_step (by repeat (first | (with_reducible first | exact HB.out | apply below_alloc | apply pw_below_drewN | apply below_drew1) | exact HB.out)) hb)
      clear hb HO HB HX HR10
      have HO := HOn
      have HB := HBn
      clear HOn HBn
      have hal := HAL.out
      by_cases c : 0 ≤ q
      · have HN2 : Aside0 (ntR l (i + 1) = acc ++ [wrap64 (q + (i : Int))]) := ⟨by rw [HN.out, HAT.out, if_pos c, HACC.out]⟩
        generalize hz : wrap64 (q + (i : Int)) = z at HN2
        have hzw : IntKind.i64.wrap (q + (i : Int)) = z := (i64_w _).trans hz
        clear hz
        go_wp2_with ((with_reducible refine gate_builtin (b := .append) (xs := #[.tmp 29, .tmp 31]) rfl ?_); at_builtin; refine Kd.R_append (Kd.int .i64) (w0 := w) w.heap.size rfl (.tmp 29) (.tmp 31) 22 3 (.int .i64 0) 8 rfl Try.underlying22 HClone.info_int rfl (by decide) (by omega) u4 acc z [.int .i64 z] (fun _ => True) (fun _ => False) rfl rfl ?aP (fun _ hk => hk.elim) (fun _ _ => trivial) ?aO ?aB ?aS ?aL ?_; (case aP => exact rfl); (case aO => exact HO.out); (case aB => exact HB.out); (case aS => exact HB.out.size); (case aL => omega); intro v7 w7 ho hb hg hat; have HOn := Aside0.mk ho; have HBn := Aside0.mk hb; clear ho hb hg hat HO HB; have HO := HOn; have HB := HBn; clear HOn HBn)
        go_roundg (l.length - (i + 1))
        case measure => omega
        case rel => exact ⟨i + 1, acc ++ [z], rfl, ⟨by omega⟩, ⟨HN2.out.symm⟩, HO, HB⟩
      · have HN2 : Aside0 (ntR l (i + 1) = acc ++ [q]) := ⟨by rw [HN.out, HAT.out, if_neg c, HACC.out]⟩
        go_wp2_with ((with_reducible refine gate_builtin (b := .append) (xs := #[.tmp 29, .tmp 31]) rfl ?_); at_builtin; refine Kd.R_append (Kd.int .i64) (w0 := w) w.heap.size rfl (.tmp 29) (.tmp 31) 22 3 (.int .i64 0) 8 rfl Try.underlying22 HClone.info_int rfl (by decide) (by omega) u4 acc q [.int .i64 q] (fun _ => True) (fun _ => False) rfl rfl ?aP (fun _ hk => hk.elim) (fun _ _ => trivial) ?aO ?aB ?aS ?aL ?_; (case aP => exact rfl); (case aO => exact HO.out); (case aB => exact HB.out); (case aS => exact HB.out.size); (case aL => omega); intro v7 w7 ho hb hg hat; have HOn := Aside0.mk ho; have HBn := Aside0.mk hb; clear ho hb hg hat HO HB; have HO := HOn; have HB := HBn; clear HOn HBn)
        go_roundg (l.length - (i + 1))
        case measure => omega
        case rel => exact ⟨i + 1, acc ++ [q], rfl, ⟨by omega⟩, ⟨HN2.out.symm⟩, HO, HB⟩
    · have hjj : i = l.length := by omega
      go_wp2_with fail
      go_ret2
      exact ⟨_, rfl, by rw [← hjj, ← HACC.out]; exact HO.out, (by repeat (first | (with_reducible first | exact HB.out | apply below_alloc | apply pw_below_drewN | apply below_drew1) | exact HB.out))⟩
end Go.Proofs.Ytfkbacdaoeecdab.HNext
