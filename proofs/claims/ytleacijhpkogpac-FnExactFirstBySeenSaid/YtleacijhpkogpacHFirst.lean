/- The first order so seen: the walk of impl.FirstBySeen over its closure's. -/
import Derived.Test.YtleacijhpkogpacHFind
import Derived.Test.YtleacijhpkogpacPFnExactFirstBySeenx12
import Derived.Laws.EntriesVeiled
import Derived.Laws.NewBlocks
namespace Go.Proofs.Ytleacijhpkogpac.HFind
open Go.RowKit Go.Proofs.YtleacijhpkogpacW.PrintWords Go.Proofs.YtleacijhpkogpacW.PrintLast Go.Proofs.YtleacijhpkogpacW.PrintMore Go.Proofs.Ytleacijhpkogpac.PFnExactFirstBySeen Go.Proofs.Ytleacijhpkogpac.HClone Go.Proofs.Ytleacijhpkogpac.HSeen Go.Proofs.Ytleacijhpkogpac.HHas
set_option linter.unusedVariables false
set_option linter.unusedSimpArgs false

def asked (n L R : Int) : Prop := (1 ≤ n ∧ n ≤ 8) ∧ (0 ≤ L ∧ L ≤ 15) ∧ (0 ≤ R ∧ R ≤ 15)
instance (n L R : Int) : Decidable (asked n L R) := by unfold asked; infer_instance
/-- What is told: the first order, if there is one. -/
def firstB (n L R : Int) : Option (List Int) := if asked n L R then look n.toNat L R n.toNat [] else none
theorem in_is (a lo hi : Int) (b : Bool) (hb : decide (lo ≤ a ∧ a ≤ hi) = b) (W : World) : Calls Try.prog 56 #[.int .i64 a, .int .i64 lo, .int .i64 hi] W fun e w' => e = .returned (.bool b) ∧ Drawn0 W w' := by
  refine impl_in.calls a lo hi b W ?_
  subst hb
  unfold impl_in.f
  by_cases h : lo ≤ a
  · rw [if_pos h]; simp [h]
  · rw [if_neg h]; simp [h]
set_option maxHeartbeats 8000000 in
set_option maxRecDepth 100000 in
theorem impl_no (n L R : Int) (h : ¬ asked n L R) (w : World) :
    Calls Try.prog 19 #[.int .i64 n, .int .i64 L, .int .i64 R] w fun e w' => ∃ v, e = .returned (.tuple #[v, .bool (firstB n L R).isSome]) ∧ Kd.R (Kd.int .i64) 3 w' w.heap.size (fun _ => True) v ((firstB n L R).getD []) ∧ Below w.heap.size w w' := by
  have HB := Aside0.mk (Below.refl w.heap.size w)
  have hN : firstB n L R = none := by unfold firstB; rw [if_neg h]
  rw [hN]
  clear hN
  by_cases h1 : 1 ≤ n ∧ n ≤ 8
  · by_cases h2 : 0 ≤ L ∧ L ≤ 15
    · have h3 : ¬ (0 ≤ R ∧ R ≤ 15) := fun z => h ⟨h1, h2, z⟩
      have H1 := Aside0.mk (fun W => in_is n 1 8 true (decide_eq_true h1) W)
      have H2 := Aside0.mk (fun W => in_is L 0 15 true (decide_eq_true h2) W)
      have H3 := Aside0.mk (fun W => in_is R 0 15 false (decide_eq_false h3) W)
      clear h h1 h2 h3
      go_enter Try.func19, Try.ntmps19
      go_wp2_with (first | (go_at_call 56; (with_reducible refine (H1.out _).mono ?_); rintro e w' ⟨rfl, ⟨nd1, rfl⟩⟩) | (go_at_call 56; (with_reducible refine (H2.out _).mono ?_); rintro e w' ⟨rfl, ⟨nd2, rfl⟩⟩) | (go_at_call 56; (with_reducible refine (H3.out _).mono ?_); rintro e w' ⟨rfl, ⟨nd3, rfl⟩⟩))
      go_ret2
      exact ⟨_, rfl, Kd.R_nil _ _ _ _ _, (by repeat (first | (with_reducible first | exact HB.out | apply below_alloc | apply pw_below_drewN | apply below_drew1) | exact HB.out))⟩
    · have H1 := Aside0.mk (fun W => in_is n 1 8 true (decide_eq_true h1) W)
      have H2 := Aside0.mk (fun W => in_is L 0 15 false (decide_eq_false h2) W)
      clear h h1 h2
      go_enter Try.func19, Try.ntmps19
      go_wp2_with (first | (go_at_call 56; (with_reducible refine (H1.out _).mono ?_); rintro e w' ⟨rfl, ⟨nd1, rfl⟩⟩) | (go_at_call 56; (with_reducible refine (H2.out _).mono ?_); rintro e w' ⟨rfl, ⟨nd2, rfl⟩⟩))
      go_ret2
      exact ⟨_, rfl, Kd.R_nil _ _ _ _ _, (by repeat (first | (with_reducible first | exact HB.out | apply below_alloc | apply pw_below_drewN | apply below_drew1) | exact HB.out))⟩
  · have H1 := Aside0.mk (fun W => in_is n 1 8 false (decide_eq_false h1) W)
    clear h h1
    go_enter Try.func19, Try.ntmps19
    go_wp2_with (go_at_call 56; (with_reducible refine (H1.out _).mono ?_); rintro e w' ⟨rfl, ⟨nd1, rfl⟩⟩)
    go_ret2
    exact ⟨_, rfl, Kd.R_nil _ _ _ _ _, (by repeat (first | (with_reducible first | exact HB.out | apply below_alloc | apply pw_below_drewN | apply below_drew1) | exact HB.out))⟩
theorem cells4 (w : World) (x y z u : Value) (t1 t2 t3 t4 : TypeId) (k : Nat) :
    ((((((w.alloc (.cells #[x] t1)).alloc (.cells #[y] t2)).alloc (.cells #[z] t3)).drewN k).alloc (.cells #[u] t4)).cell? ⟨w.heap.size, 0, none⟩ = some x ∧
    (((((w.alloc (.cells #[x] t1)).alloc (.cells #[y] t2)).alloc (.cells #[z] t3)).drewN k).alloc (.cells #[u] t4)).cell? ⟨w.heap.size + 1, 0, none⟩ = some y ∧
    (((((w.alloc (.cells #[x] t1)).alloc (.cells #[y] t2)).alloc (.cells #[z] t3)).drewN k).alloc (.cells #[u] t4)).cell? ⟨w.heap.size + 2, 0, none⟩ = some z) ∧
    (((((w.alloc (.cells #[x] t1)).alloc (.cells #[y] t2)).alloc (.cells #[z] t3)).drewN k).alloc (.cells #[u] t4)).cell? ⟨w.heap.size + 3, 0, none⟩ = some u ∧
    (((((w.alloc (.cells #[x] t1)).alloc (.cells #[y] t2)).alloc (.cells #[z] t3)).drewN k).alloc (.cells #[u] t4)).frozen? ⟨w.heap.size + 3, 0, none⟩ = false := by
  refine ⟨⟨?_, ?_, ?_⟩, ?_, ?_⟩
  · exact pw_cell_below (w := w.alloc (.cells #[x] t1)) (by repeat (first | exact Below.refl _ _ | apply below_alloc | apply pw_below_drewN | apply below_drew1)) ((World.cell?_alloc_new _ _ _ _).trans rfl)
  · exact pw_cell_below (w := (w.alloc (.cells #[x] t1)).alloc (.cells #[y] t2)) (by repeat (first | exact Below.refl _ _ | apply below_alloc | apply pw_below_drewN | apply below_drew1)) (by simp)
  · exact pw_cell_below (w := ((w.alloc (.cells #[x] t1)).alloc (.cells #[y] t2)).alloc (.cells #[z] t3)) (by repeat (first | exact Below.refl _ _ | apply below_alloc | apply pw_below_drewN | apply below_drew1)) (by have := World.cell?_alloc_new ((w.alloc (.cells #[x] t1)).alloc (.cells #[y] t2)) #[z] t3 0; simpa using this)
  · have := World.cell?_alloc_new ((((w.alloc (.cells #[x] t1)).alloc (.cells #[y] t2)).alloc (.cells #[z] t3)).drewN k) #[u] t4 0
    simpa using this
  · exact World.frozen?_alloc_at _ _ _ _ (by simp)
set_option maxHeartbeats 8000000 in
set_option maxRecDepth 100000 in
theorem impl_yes (n : Nat) (L R : Int) (h : asked n L R) (w : World) :
    Calls Try.prog 19 #[.int .i64 (n : Int), .int .i64 L, .int .i64 R] w fun e w' => ∃ v, e = .returned (.tuple #[v, .bool (firstB n L R).isSome]) ∧ Kd.R (Kd.int .i64) 3 w' w.heap.size (fun _ => True) v ((firstB n L R).getD []) ∧ Below w.heap.size w w' := by
  have HB := Aside0.mk (Below.refl w.heap.size w)
  have hN : firstB n L R = look n L R n [] := by unfold firstB; rw [if_pos h]; rfl
  rw [hN]
  clear hN
  have H1 := Aside0.mk (fun W => in_is (n : Int) 1 8 true (decide_eq_true h.1) W)
  have H2 := Aside0.mk (fun W => in_is L 0 15 true (decide_eq_true h.2.1) W)
  have H3 := Aside0.mk (fun W => in_is R 0 15 true (decide_eq_true h.2.2) W)
  have hn : 1 ≤ n ∧ n ≤ 8 := by have := h.1; omega
  have HFIND := Aside0.mk (fun (base : Nat) (v : Value) (W : World) (hW : base ≤ W.heap.size) (hv : Kd.R (Kd.int .i64) 3 W base (fun _ => True) v []) ha hb hc hd =>
    show Calls Try.prog 63 #[v, .pointer (some ⟨w.heap.size, 0, none⟩), .pointer (some ⟨w.heap.size + 1, 0, none⟩), .pointer (some ⟨w.heap.size + 2, 0, none⟩), .pointer (some ⟨w.heap.size + 3, 0, none⟩)] W (fun e w' => ∃ v, e = .returned v ∧ Ret base w' v (look n L R n []) ∧ Below W.heap.size W w') from
      find_calls n hn L R w.heap.size (w.heap.size + 1) (w.heap.size + 2) (w.heap.size + 3) n [] (by simp) base v W hW hv ha hb hc hd)
  have HLEN := Aside0.mk (fun r hr => look_len n L R n [] (by simp) r hr)
  have HN := Aside0.mk hn
  have heq := fun (W : World) (p : Option Addr) (x y : Nat) => run_neq_slice_nil_any (P := Try.prog) W 25 3 p x y 0 0 Try.underlying25
  have eg := enters_ (P := Try.prog) Try.func63 (by kernel_rfl) rfl
  clear h hn
  cases hT : look n L R n [] with
  | none =>
    rw [hT] at HFIND
    clear HLEN
    clear hT
    go_enter Try.func19, Try.ntmps19
    go_upto_region 3 with (first | (go_at_call 56; (with_reducible refine (H1.out _).mono ?_); rintro e w' ⟨rfl, ⟨nd1, rfl⟩⟩) | (go_at_call 56; (with_reducible refine (H2.out _).mono ?_); rintro e w' ⟨rfl, ⟨nd2, rfl⟩⟩) | (go_at_call 56; (with_reducible refine (H3.out _).mono ?_); rintro e w' ⟨rfl, ⟨nd3, rfl⟩⟩))
    go_cut [8] (fun v8 wc => v8 = .pointer (some ⟨w.heap.size + 3, 0, none⟩) ∧ Aside0 ((wc.cell? ⟨w.heap.size, 0, none⟩ = some (.int .i64 (n : Int)) ∧ wc.cell? ⟨w.heap.size + 1, 0, none⟩ = some (.int .i64 L) ∧ wc.cell? ⟨w.heap.size + 2, 0, none⟩ = some (.int .i64 R)) ∧ wc.cell? ⟨w.heap.size + 3, 0, none⟩ = some .nilFunc ∧ wc.frozen? ⟨w.heap.size + 3, 0, none⟩ = false) ∧ Aside0 (Below w.heap.size w wc))
    case first =>
      go_wp2
      go_meet
      case rel => exact ⟨rfl, ⟨cells4 w _ _ _ _ _ _ _ _ _⟩, ⟨(by repeat (first | (with_reducible first | exact HB.out | apply below_alloc | apply pw_below_drewN | apply below_drew1) | exact HB.out))⟩⟩
    case rest =>
    clear HB
    obtain ⟨rfl, HC4, HB⟩ := hcut
    have hd4 := HC4.out.2.1
    have hf4 := HC4.out.2.2
    go_upto_region 4 with (fail)
    go_cut [23] (fun v23 w5 => Aside0 (w5.cell? ⟨w.heap.size, 0, none⟩ = some (.int .i64 (n : Int)) ∧ w5.cell? ⟨w.heap.size + 1, 0, none⟩ = some (.int .i64 L) ∧ w5.cell? ⟨w.heap.size + 2, 0, none⟩ = some (.int .i64 R)) ∧ w5.cell? ⟨w.heap.size + 3, 0, none⟩ = some (.func (.func 63) #[] #[.pointer (some ⟨w.heap.size, 0, none⟩), .pointer (some ⟨w.heap.size + 1, 0, none⟩), .pointer (some ⟨w.heap.size + 2, 0, none⟩), .pointer (some ⟨w.heap.size + 3, 0, none⟩)]) ∧ Aside0 (Below w.heap.size w w5))
    case first =>
      go_wp2
      go_meet
      case rel => exact ⟨⟨(cell_far (by simp) _).trans HC4.out.1.1, (cell_far (by simp) _).trans HC4.out.1.2.1, (cell_far (by simp) _).trans HC4.out.1.2.2⟩, World.cell?_setCell_same _ _ _ hd4, ⟨below_set HB.out (by omega)⟩⟩
    case rest =>
    clear HB HC4 hd4 hf4
    obtain ⟨HC5, hd5, HB⟩ := hcut
    have HA := Aside0.mk HC5.out.1
    have HBB := Aside0.mk HC5.out.2.1
    have HCCC := Aside0.mk HC5.out.2.2
    clear HC5
    go_wp2_with (first | ((with_reducible refine gate_dst (N := 25) rfl ?_); refine Kd.R_lit (Kd.int .i64) _ 3 ?hg (N := 25) ?hd (xs := ([] : List Int)) (inner := []) (ok := fun _ => True) (okp := fun _ => True) ?hr ?hp (fun _ hk => hk) trivial (Below.refl _ _) (Nat.le_refl _) (by simp) ?_; (case hd => rfl); (case hg => rfl); (case hr => first | (go_simp; done) | (go_simp; rfl)); (case hp => exact (Reps.none _ _)); intro v1 w1 ho hb hg hnew; have HO := Aside0.mk (Kd.R_lower ho HB.out.size); have HCA := Aside0.mk (pw_cell_below hb HA.out); have HCB := Aside0.mk (pw_cell_below hb HBB.out); have HCC := Aside0.mk (pw_cell_below hb HCCC.out); have HCD := Aside0.mk (pw_cell_below hb hd5); have HBn := Aside0.mk (below_step HB.out hb); clear ho hb hg hnew HB HA HBB HCCC hd5; have HB := HBn; clear HBn) )
    (with_reducible refine (HFIND.out w.heap.size v1 _ (by exact HB.out.size) HO.out HCA.out HCB.out HCC.out HCD.out).mono ?_); rintro e w5 ⟨v5, rfl, hr5, hb5⟩; (have e5 : v5 = .slice none 0 0 := hr5); subst e5; clear hr5; have HBn := Aside0.mk (below_step HB.out hb5); clear hb5 HB; have HB := HBn; clear HBn
    go_wp2
    go_ret2
    exact ⟨_, rfl, Kd.R_nil _ _ _ _ _, (by repeat (first | (with_reducible first | exact HB.out | apply below_alloc | apply pw_below_drewN | apply below_drew1) | exact HB.out))⟩
  | some r =>
    rw [hT] at HFIND
    have HRL : Aside0 (0 < r.length) := ⟨by have := HLEN.out r hT; have := HN.out; omega⟩
    clear HLEN
    clear hT
    go_enter Try.func19, Try.ntmps19
    go_upto_region 3 with (first | (go_at_call 56; (with_reducible refine (H1.out _).mono ?_); rintro e w' ⟨rfl, ⟨nd1, rfl⟩⟩) | (go_at_call 56; (with_reducible refine (H2.out _).mono ?_); rintro e w' ⟨rfl, ⟨nd2, rfl⟩⟩) | (go_at_call 56; (with_reducible refine (H3.out _).mono ?_); rintro e w' ⟨rfl, ⟨nd3, rfl⟩⟩))
    go_cut [8] (fun v8 wc => v8 = .pointer (some ⟨w.heap.size + 3, 0, none⟩) ∧ Aside0 ((wc.cell? ⟨w.heap.size, 0, none⟩ = some (.int .i64 (n : Int)) ∧ wc.cell? ⟨w.heap.size + 1, 0, none⟩ = some (.int .i64 L) ∧ wc.cell? ⟨w.heap.size + 2, 0, none⟩ = some (.int .i64 R)) ∧ wc.cell? ⟨w.heap.size + 3, 0, none⟩ = some .nilFunc ∧ wc.frozen? ⟨w.heap.size + 3, 0, none⟩ = false) ∧ Aside0 (Below w.heap.size w wc))
    case first =>
      go_wp2
      go_meet
      case rel => exact ⟨rfl, ⟨cells4 w _ _ _ _ _ _ _ _ _⟩, ⟨(by repeat (first | (with_reducible first | exact HB.out | apply below_alloc | apply pw_below_drewN | apply below_drew1) | exact HB.out))⟩⟩
    case rest =>
    clear HB
    obtain ⟨rfl, HC4, HB⟩ := hcut
    have hd4 := HC4.out.2.1
    have hf4 := HC4.out.2.2
    go_upto_region 4 with (fail)
    go_cut [23] (fun v23 w5 => Aside0 (w5.cell? ⟨w.heap.size, 0, none⟩ = some (.int .i64 (n : Int)) ∧ w5.cell? ⟨w.heap.size + 1, 0, none⟩ = some (.int .i64 L) ∧ w5.cell? ⟨w.heap.size + 2, 0, none⟩ = some (.int .i64 R)) ∧ w5.cell? ⟨w.heap.size + 3, 0, none⟩ = some (.func (.func 63) #[] #[.pointer (some ⟨w.heap.size, 0, none⟩), .pointer (some ⟨w.heap.size + 1, 0, none⟩), .pointer (some ⟨w.heap.size + 2, 0, none⟩), .pointer (some ⟨w.heap.size + 3, 0, none⟩)]) ∧ Aside0 (Below w.heap.size w w5))
    case first =>
      go_wp2
      go_meet
      case rel => exact ⟨⟨(cell_far (by simp) _).trans HC4.out.1.1, (cell_far (by simp) _).trans HC4.out.1.2.1, (cell_far (by simp) _).trans HC4.out.1.2.2⟩, World.cell?_setCell_same _ _ _ hd4, ⟨below_set HB.out (by omega)⟩⟩
    case rest =>
    clear HB HC4 hd4 hf4
    obtain ⟨HC5, hd5, HB⟩ := hcut
    have HA := Aside0.mk HC5.out.1
    have HBB := Aside0.mk HC5.out.2.1
    have HCCC := Aside0.mk HC5.out.2.2
    clear HC5
    go_wp2_with (first | ((with_reducible refine gate_dst (N := 25) rfl ?_); refine Kd.R_lit (Kd.int .i64) _ 3 ?hg (N := 25) ?hd (xs := ([] : List Int)) (inner := []) (ok := fun _ => True) (okp := fun _ => True) ?hr ?hp (fun _ hk => hk) trivial (Below.refl _ _) (Nat.le_refl _) (by simp) ?_; (case hd => rfl); (case hg => rfl); (case hr => first | (go_simp; done) | (go_simp; rfl)); (case hp => exact (Reps.none _ _)); intro v1 w1 ho hb hg hnew; have HO := Aside0.mk (Kd.R_lower ho HB.out.size); have HCA := Aside0.mk (pw_cell_below hb HA.out); have HCB := Aside0.mk (pw_cell_below hb HBB.out); have HCC := Aside0.mk (pw_cell_below hb HCCC.out); have HCD := Aside0.mk (pw_cell_below hb hd5); have HBn := Aside0.mk (below_step HB.out hb); clear ho hb hg hnew HB HA HBB HCCC hd5; have HB := HBn; clear HBn) )
    (with_reducible refine (HFIND.out w.heap.size v1 _ (by exact HB.out.size) HO.out HCA.out HCB.out HCC.out HCD.out).mono ?_); rintro e w5 ⟨v5, rfl, hr5, hb5⟩; have HR5 := Aside0.mk hr5; obtain ⟨g5, c5, e5, _, _, _⟩ := Kd.R_form hr5 HRL.out; subst e5; clear hr5; have HBn := Aside0.mk (below_step HB.out hb5); clear hb5 HB; have HB := HBn; clear HBn
    go_wp2
    go_ret2
    exact ⟨_, rfl, HR5.out, (by repeat (first | (with_reducible first | exact HB.out | apply below_alloc | apply pw_below_drewN | apply below_drew1) | exact HB.out))⟩
end Go.Proofs.Ytleacijhpkogpac.HFind
