/- A list copied and turned: the walks of slices.Clone and impl.mirrored over the printed walk of slices.Reverse. -/
import Derived.Test.YtleacijhpkogpadPFnHeightsSeenx9
import Derived.WalkSpells
import Derived.Lib.SliceRun
import Derived.Shelf.Abstract
namespace Go.Proofs.Ytleacijhpkogpad.HClone
open Go.RowKit Go.Proofs.YtleacijhpkogpadW.PrintWords Go.Proofs.YtleacijhpkogpadW.PrintLast Go.Proofs.YtleacijhpkogpadW.PrintMore Go.Proofs.Ytleacijhpkogpad.PFnHeightsSeen
set_option linter.unusedVariables false
set_option linter.unusedSimpArgs false

theorem info_int : (Try.prog.info? 3).map (fun i => (i.zero, i.size, i.bytes)) = some (some (.int .i64 0), 1, 8) := by kernel_rfl
set_option maxHeartbeats 8000000 in
set_option maxRecDepth 100000 in
theorem clone_calls (A0 : Option Addr) (c0 : Nat) (l : List Int) (hl : l.length ≤ 1048576) (w : World) (hr0 : Kd.C (Kd.int .i64) w A0 l.length l) :
    Calls Try.prog 68 #[.slice A0 l.length c0] w fun e w' => ∃ v : Value, e = .returned v ∧ Kd.R (Kd.int .i64) 3 w' w.heap.size (fun _ => True) v l ∧ Below w.heap.size w w' := by
  have HR0 := Aside0.mk hr0
  have HL := Aside0.mk hl
  clear hr0 hl
  have HB := Aside0.mk (Below.refl w.heap.size w)
  cases A0 with
  | none =>
    have e0 : l = [] := by
      have := HR0.out.2.2
      rcases Nat.eq_zero_or_pos l.length with h0 | h0
      · exact List.eq_nil_of_length_eq_zero h0
      · obtain ⟨ad, e, _⟩ := this h0
        cases e
    subst e0
    have heq := fun (w : World) => Go.Lib.run_eql_slice_nil (P := Try.prog) w 24 3 none 0 c0 0 0 Try.underlying24
    go_enter Try.func68, Try.ntmps68
    go_wp2
    go_ret
    exact ⟨_, rfl, Kd.R_nil _ _ _ _ _, HB.out⟩
  | some ad0 =>
    have heq := fun (w : World) => Go.Lib.run_eql_slice_nil (P := Try.prog) w 24 3 (some ad0) l.length c0 0 0 Try.underlying24
    go_enter Try.func68, Try.ntmps68
    go_wp2_with (first | ((with_reducible refine gate_dst (N := 5) rfl ?_); refine Kd.R_lit (Kd.int .i64) (w0 := w) w.heap.size 3 ?hg (N := 5) ?hd (xs := ([] : List Int)) (inner := []) (ok := fun _ => True) (okp := fun _ => True) ?hr ?hp (fun _ hk => hk) trivial (Below.refl _ _) (Nat.le_refl _) (by simp) ?_; (case hd => rfl); (case hg => rfl); (case hr => first | (go_simp; done) | (go_simp; rfl)); (case hp => exact (Reps.none _ _)); intro v1 w1 ho hb hg_ hnew_; have HO := Aside0.mk ho; have HBn := Aside0.mk hb; clear ho hb hg_ hnew_ HB; have HB := HBn; clear HBn) | ((with_reducible refine gate_builtin (b := .append) (xs := #[.tmp 5, .tmp 6]) rfl ?_); at_builtin; refine Kd.R_append_rows (Kd.int .i64) (w0 := w) w.heap.size rfl (.tmp 5) (.tmp 6) 24 3 (.int .i64 0) 8 rfl Try.underlying24 info_int rfl (by decide) (by omega) v1 [] l _ _ _ (fun _ => True) (fun _ => False) rfl rfl ?aO ?aR (fun _ _ h => h) (fun _ h => h.elim) (fun _ _ => trivial) ?aB ?aS ?aL ?_; (case aR => exact (Kd.C_below HR0.out HB.out)); (case aB => exact (by repeat (first | (with_reducible first | exact HB.out | apply below_alloc | apply pw_below_drewN | apply below_drew1) | exact HB.out))); (case aO => exact HO.out); (case aS => exact HB.out.size); (case aL => have := HL.out; simp; omega); intro v2 w2 ho hb hg hat; have HO2 := Aside0.mk ho; have HB2 := Aside0.mk hb; clear ho hb hg hat))
    go_ret
    exact ⟨_, rfl, HO2.out, HB2.out⟩
/-! turned -/
theorem w1 (i : Nat) (h : i ≤ 4611686018427387904) : wrap64 ((i : Int) + 1) = ((i + 1 : Nat) : Int) := by unfold wrap64; omega
theorem wm1 (m : Nat) (h : m ≤ 4611686018427387904) : wrap64 ((m : Int) - 1) = (m : Int) - 1 := by unfold wrap64; omega
theorem rd_nat (l : List Int) (i : Nat) (h : i < l.length) : rd l (i : Int) = l[i] := by
  simp [rd, List.getD_eq_getElem?_getD, List.getElem?_eq_getElem h]
theorem set_mid (p s : List Int) (a b : Int) (m : List Int) : ((p ++ (a :: (m ++ [b])) ++ s).set p.length b).set (p.length + (m.length + 1)) a = (p ++ [b]) ++ m ++ (a :: s) := by
  simp [List.set_append]
theorem rev_loop : ∀ (d : Nat) (mid p s : List Int), mid.length ≤ d → p.length = s.length → (p ++ mid ++ s).length ≤ 1048576 →
    Ev (fun k => slices_Reverse_int_int.l0 k (p ++ mid ++ s) (p.length : Int) ((p.length : Int) + (mid.length : Int) - 1)) (p ++ mid.reverse ++ s) := by
  intro d
  induction d with
  | zero =>
    intro mid p s hm hps hlen
    obtain rfl : mid = [] := List.eq_nil_of_length_eq_zero (by omega)
    refine Ev.step (f := fun _ => some (p ++ [] ++ s)) (fun k => ?_) (Ev.now _)
    simp only [slices_Reverse_int_int.l0]
    rw [if_neg (by simp; try omega)]
  | succ d ih =>
    intro mid p s hm hps hlen
    match mid with
    | [] =>
      refine Ev.step (f := fun _ => some (p ++ [] ++ s)) (fun k => ?_) (Ev.now _)
      simp only [slices_Reverse_int_int.l0]
      rw [if_neg (by simp; try omega)]
    | [a] =>
      refine Ev.step (f := fun _ => some (p ++ [a] ++ s)) (fun k => ?_) (Ev.now _)
      simp only [slices_Reverse_int_int.l0]
      rw [if_neg (by simp; try omega)]
    | a :: c :: t =>
      obtain ⟨m, b, hmb⟩ : ∃ m b, c :: t = m ++ [b] := ⟨(c :: t).dropLast, (c :: t).getLast (by simp), (List.dropLast_concat_getLast (by simp)).symm⟩
      rw [hmb] at hm hlen ⊢
      simp only [List.length_cons, List.length_append, List.length_nil] at hm hlen
      have hr := ih m (p ++ [b]) (a :: s) (by omega) (by simp; omega) (by simp; omega)
      have e : (p ++ [b]) ++ m.reverse ++ (a :: s) = p ++ (a :: (m ++ [b])).reverse ++ s := by simp
      rw [e] at hr
      have hfull : (p ++ a :: (m ++ [b]) ++ s).length = p.length + (m.length + 2) + s.length := by simp; omega
      have r1 : rd (p ++ a :: (m ++ [b]) ++ s) (p.length : Int) = a := by
        rw [rd_nat _ _ (by omega)]
        simp
      have r2 : rd (p ++ a :: (m ++ [b]) ++ s) ((p.length + (m.length + 1) : Nat) : Int) = b := by
        rw [rd_nat _ _ (by omega)]
        simp [List.getElem_append]
      refine Ev.step (fun k => ?_) hr
      simp only [slices_Reverse_int_int.l0]
      have ej : (p.length : Int) + ((a :: (m ++ [b])).length : Int) - 1 = ((p.length + (m.length + 1) : Nat) : Int) := by simp; omega
      rw [ej, r1, r2, hfull, if_pos (by omega), if_pos (by omega), if_pos (by omega), if_pos (by omega), if_pos (by omega), w1 p.length (by omega), wm1 _ (by omega)]
      rw [show ((p.length : Int)).toNat = p.length by omega, show (((p.length + (m.length + 1) : Nat) : Int)).toNat = p.length + (m.length + 1) by omega, set_mid]
      congr 1
      · simp
      · simp; omega
theorem rev_ev (l : List Int) (hl : l.length ≤ 1048576) : Ev (fun k => slices_Reverse_int_int.f k l) l.reverse := by
  have h := rev_loop l.length l [] [] (by omega) rfl (by simpa using hl)
  simp only [List.nil_append, List.append_nil, List.length_nil] at h
  refine Ev.congr (fun k => ?_) h
  simp only [slices_Reverse_int_int.f]
  rw [wm1 l.length (by omega)]
  congr 1
  omega
theorem rev_calls (v : Value) (l : List Int) (hl : l.length ≤ 1048576) (w0 w : World) (hB : Below w0.heap.size w0 w) (ho : Kd.R (Kd.int .i64) 3 w w0.heap.size (fun _ => True) v l) :
    Calls Try.prog 88 #[v] w fun e w' => e = .returned (.tuple #[]) ∧ Kd.R (Kd.int .i64) 3 w' w0.heap.size (fun _ => True) v l.reverse ∧ Below w0.heap.size w0 w' := by
  obtain ⟨k, hk⟩ := (rev_ev l hl).rounds
  refine (slices_Reverse_int_int.calls k (fun _ => True) v l l.reverse w0 w hB ho hk).mono ?_
  rintro e w' ⟨rfl, h1, h2, _⟩
  exact ⟨rfl, Kd.R_mono h1 (fun _ _ => trivial), h2⟩
set_option maxHeartbeats 8000000 in
set_option maxRecDepth 100000 in
theorem mirrored_calls (A0 : Option Addr) (c0 : Nat) (l : List Int) (hl : l.length ≤ 1048576) (w : World) (hr0 : Kd.C (Kd.int .i64) w A0 l.length l) :
    Calls Try.prog 55 #[.slice A0 l.length c0] w fun e w' => ∃ v : Value, e = .returned v ∧ Kd.R (Kd.int .i64) 3 w' w.heap.size (fun _ => True) v l.reverse ∧ Below w.heap.size w w' := by
  have HR0 := Aside0.mk hr0
  have HL := Aside0.mk hl
  clear hr0 hl
  go_enter Try.func55, Try.ntmps55
  go_wp2_with fail
  refine (clone_calls A0 c0 l HL.out _ HR0.out).mono ?_
  rintro e w1 ⟨v, rfl, ho, hb⟩
  have HO := Aside0.mk ho
  have HB := Aside0.mk hb
  clear ho hb
  go_wp2_with fail
  refine (rev_calls v l HL.out w _ HB.out HO.out).mono ?_
  rintro e w2 ⟨rfl, ho, hb⟩
  have HO2 := Aside0.mk ho
  have HB2 := Aside0.mk hb
  clear ho hb HO HB
  go_wp2_with fail
  go_ret
  exact ⟨_, rfl, HO2.out, HB2.out⟩
end Go.Proofs.Ytleacijhpkogpad.HClone
