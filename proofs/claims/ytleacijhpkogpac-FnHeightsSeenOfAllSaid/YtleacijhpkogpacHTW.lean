/- The greatest of a list: the walk of slices.Max. -/
import Derived.Test.YtleacijhpkogpacHClone
import Derived.Test.YtleacijhpkogpacHGood
import Derived.Test.YtleacijhpkogpacPFnHeightsSeenOfAllx6
import Derived.Test.YtleacijhpkogpacPFnHeightsSeenOfAllx4
import Derived.Test.YtleacijhpkogpacPFnHeightsSeenOfAllx1
namespace Go.Proofs.Ytleacijhpkogpac.HMax
open Go.RowKit Go.Proofs.YtleacijhpkogpacW.PrintWords Go.Proofs.YtleacijhpkogpacW.PrintLast Go.Proofs.YtleacijhpkogpacW.PrintMore Go.Proofs.Ytleacijhpkogpac.HSpecG
attribute [local go_sem] max2_int max_two
set_option linter.unusedVariables false
set_option linter.unusedSimpArgs false

def maxL : List Int → Int → Int
  | [], m => m
  | h :: t, m => maxL t (if m > h then m else h)
set_option maxHeartbeats 8000000 in
set_option maxRecDepth 100000 in
theorem max_calls (A0 : Option Addr) (c0 : Nat) (l : List Int) (h1 : 1 ≤ l.length) (hl : l.length ≤ 1048576) (w : World) (h0 : Kd.C (Kd.int .i64) w A0 l.length l) :
    Calls Try.prog 75 #[.slice A0 l.length c0] w fun e w' => e = .returned (.int .i64 (maxL (l.drop 1) (rd l 0))) ∧ Below w.heap.size w w' := by
  have HB := Aside0.mk (Below.refl w.heap.size w)
  have HC := Aside0.mk h0
  obtain ⟨ad, e, hx0⟩ := Kd.at_int h0 0 (by omega) (by omega)
  cases e
  replace hx0 : w.cell? ad = some (.int .i64 (rd l 0)) := by
    have e0 : ad.add (Int.toNat 0) = ad := by cases ad; rfl
    rw [← e0]; exact hx0
  generalize rd l 0 = y at hx0
  obtain ⟨T, hT⟩ : ∃ T, maxL (l.drop 1) y = T := ⟨_, rfl⟩
  rw [hT]
  have HE0 := Aside0.mk hT
  clear h0 hT
  go_enter Try.func75, Try.ntmps75
  go_wp2_with fail
  go_loopg [3, 4] l.length (fun kq v3 v4 w' => ∃ (j : Nat) (m : Int), v3 = .int .i64 m ∧ v4 = .int .i64 (j : Int) ∧ Aside0 (kq + j = l.length + 1) ∧ Aside0 (maxL (l.drop j) m = T) ∧ Aside0 (Below w.heap.size w w'))
  case atStart => exact ⟨1, y, rfl, rfl, ⟨by omega⟩, HE0, HB⟩
  case round =>
    clear HB HE0
    obtain ⟨j, m, rfl, rfl, HK, HE, HB⟩ := hrel
    by_cases hj : j < l.length
    · obtain ⟨ad2, e, hx⟩ := Kd.at_int HC.out (j : Int) (by omega) (by omega)
      cases e
      rw [Int.toNat_natCast] at hx
      have HE2 : Aside0 (maxL (l.drop (j + 1)) (if m > rd l (j : Int) then m else rd l (j : Int)) = T) := ⟨by
        have := HE.out
        rw [drop_cons l j hj, maxL] at this
        exact this⟩
      generalize rd l (j : Int) = x at hx HE2
      replace hx := pw_cell_below HB.out hx
      clear HE
      by_cases c : m < x
      · have HE3 : Aside0 (maxL (l.drop (j + 1)) x = T) := ⟨by have := HE2.out; rw [if_neg (by omega)] at this; exact this⟩
        go_wp2_with fail
        go_roundg (l.length - j)
        case measure => have := HK.out; omega
        case rel => exact ⟨j + 1, x, rfl, rfl, ⟨by have := HK.out; omega⟩, HE3, HB⟩
      · have HE3 : Aside0 (maxL (l.drop (j + 1)) m = T) := ⟨by
          have := HE2.out
          by_cases c2 : m > x
          · rw [if_pos c2] at this; exact this
          · rw [if_neg c2, show x = m by omega] at this; exact this⟩
        go_wp2_with fail
        go_roundg (l.length - j)
        case measure => have := HK.out; omega
        case rel => exact ⟨j + 1, m, rfl, rfl, ⟨by have := HK.out; omega⟩, HE3, HB⟩
    · have hT := HE.out
      rw [List.drop_eq_nil_of_le (by omega), maxL] at hT
      clear HE
      subst hT
      go_wp2_with fail
      go_ret
      exact ⟨rfl, (by repeat (first | (with_reducible first | exact HB.out | apply below_alloc | apply pw_below_drewN | apply below_drew1) | exact HB.out))⟩
end Go.Proofs.Ytleacijhpkogpac.HMax
/- The tallest of windows: the walks of spec.TallestOfWindows, impl.TallestOfWindows and of the law. -/
namespace Go.Proofs.Ytleacijhpkogpac.HTW
open Go.RowKit Go.Proofs.YtleacijhpkogpacW.PrintWords Go.Proofs.YtleacijhpkogpacW.PrintLast Go.Proofs.YtleacijhpkogpacW.PrintMore Go.Proofs.Ytleacijhpkogpac.HImpl Go.Proofs.Ytleacijhpkogpac.PFnHeightsSeenOfAll Go.Proofs.Ytleacijhpkogpac.HSpecG Go.Proofs.Ytleacijhpkogpac.HMax
set_option linter.unusedVariables false
set_option linter.unusedSimpArgs false

/-- The tallest of each window from the k-th on, d of them. -/
def winL (l : List Int) (m : Nat) : Nat → Nat → List Int
  | _, 0 => []
  | k, d + 1 => maxL ((l.take (k + m)).drop k) 0 :: winL l m (k + 1) d
theorem winL_len (l : List Int) (m : Nat) : ∀ d k, (winL l m k d).length = d
  | 0, _ => rfl
  | d + 1, k => by simp [winL, winL_len l m d (k + 1)]
def okW (l : List Int) (e0 : Int) : Prop := good l = true ∧ 1 ≤ e0 ∧ e0 ≤ (l.length : Int)
instance (l : List Int) (e0 : Int) : Decidable (okW l e0) := by unfold okW; infer_instance
def winT (l : List Int) (e0 : Int) : Option (List Int) := if okW l e0 then some (winL l e0.toNat 0 (l.length + 1 - e0.toNat)) else none
theorem max_same (r : List Int) (h1 : 0 < r.length) (hp : ∀ x ∈ r, 1 ≤ x) : maxL (r.drop 1) (rd r 0) = maxL r 0 := by
  match r, h1 with
  | a :: t, _ =>
    have ha := hp a (List.mem_cons_self ..)
    simp only [maxL, List.drop_succ_cons, List.drop_zero]
    rw [if_neg (by omega)]
    rfl
theorem in_is (a lo hi : Int) (b : Bool) (hb : decide (lo ≤ a ∧ a ≤ hi) = b) (W : World) : Calls Try.prog 56 #[.int .i64 a, .int .i64 lo, .int .i64 hi] W fun e w' => e = .returned (.bool b) ∧ Drawn0 W w' := by
  refine impl_in.calls a lo hi b W ?_
  subst hb
  unfold impl_in.f
  by_cases h : lo ≤ a
  · rw [if_pos h]; simp [h]
  · rw [if_neg h]; simp [h]
theorem sin_is (a lo hi : Int) (b : Bool) (hb : decide (lo ≤ a ∧ a ≤ hi) = b) (W : World) : Calls Try.prog 73 #[.int .i64 a, .int .i64 lo, .int .i64 hi] W fun e w' => e = .returned (.bool b) ∧ Drawn0 W w' := by
  refine PFnHeightsSeenOfAll.spec_l1In.calls a lo hi b W ?_
  subst hb
  unfold PFnHeightsSeenOfAll.spec_l1In.f
  by_cases h : a ≥ lo
  · rw [if_pos h]; simp; omega
  · rw [if_neg h]; simp; omega
theorem most_is (m x : Int) (W : World) : Calls Try.prog 60 #[.int .i64 m, .int .i64 x] W fun e w' => e = .returned (.int .i64 (if m > x then m else x)) ∧ Drawn0 W w' := by
  refine PFnHeightsSeenOfAll.spec_l1Most.calls m x _ W ?_
  unfold PFnHeightsSeenOfAll.spec_l1Most.f
  split <;> rfl
theorem drop_cons2 (c : List Int) (j : Nat) (h : j < c.length) : c.drop j = rd c (j : Int) :: c.drop (j + 1) := drop_cons c j h
set_option maxHeartbeats 8000000 in
set_option maxRecDepth 100000 in
theorem impl_calls (A0 : Option Addr) (c0 : Nat) (l : List Int) (e0 : Int) (hl : l.length ≤ 1048576) (w : World) (h0 : Kd.C (Kd.int .i64) w A0 l.length l) (hc0 : l.length ≤ c0) :
    Calls Try.prog 39 #[.slice A0 l.length c0, .int .i64 e0] w fun e w' => ∃ v : Value, e = .returned (.tuple #[v, .bool (winT l e0).isSome]) ∧ Kd.R (Kd.int .i64) 3 w' w.heap.size (fun _ => True) v ((winT l e0).getD []) ∧ Below w.heap.size w w' := by
  have HB := Aside0.mk (Below.refl w.heap.size w)
  have HC := Aside0.mk h0
  have HC0 := Aside0.mk hc0
  unfold winT
  cases hg : good l with
  | false =>
    rw [if_neg (fun z => by have z1 := z.1; rw [hg] at z1; exact absurd z1 (by decide))]
    have HG := Aside0.mk (HImpl.are_is A0 c0 l false hg w h0 hc0)
    clear h0 hg
    go_enter Try.func39, Try.ntmps39
    go_wp2_with (go_at_call 61; refine HG.out.mono ?_; rintro e w' ⟨rfl, ⟨nd, rfl⟩⟩)
    go_ret2
    exact ⟨_, rfl, Kd.R_nil _ _ _ _ _, (by repeat (first | (with_reducible first | exact HB.out | apply below_alloc | apply pw_below_drewN | apply below_drew1) | exact HB.out))⟩
  | true =>
    have HG := Aside0.mk (HImpl.are_is A0 c0 l true hg w h0 hc0)
    obtain ⟨hl1, hl2⟩ := good_len hg
    by_cases h1 : 1 ≤ e0 ∧ e0 ≤ (l.length : Int)
    · rw [if_pos (show okW l e0 from ⟨hg, h1⟩)]
      have H1 := Aside0.mk (fun W => in_is e0 1 (l.length : Int) true (decide_eq_true h1) W)
      obtain ⟨m, rfl⟩ : ∃ m : Nat, e0 = (m : Int) := ⟨e0.toNat, by omega⟩
      have hm1 : 1 ≤ m := by omega
      have hm2 : m ≤ l.length := by omega
      have HPOS := Aside0.mk (fun x hx => (good_mem hg x hx).1)
      rw [Int.toNat_natCast]
      obtain ⟨T, hT⟩ : ∃ T, winL l m 0 (l.length + 1 - m) = T := ⟨_, rfl⟩
      rw [hT]
      have HE0 : Aside0 (([] : List Int) ++ winL l m 0 (l.length + 1 - m - 0) = T) := ⟨by rw [List.nil_append, Nat.sub_zero]; exact hT⟩
      clear h0 hg h1 hT
      go_enter Try.func39, Try.ntmps39
      go_wp2_with (first | (go_at_call 61; refine HG.out.mono ?_; rintro e w' ⟨rfl, ⟨nd, rfl⟩⟩) | (go_at_call 56; (with_reducible refine (H1.out _).mono ?_); rintro e w' ⟨rfl, ⟨nd2, rfl⟩⟩) | ((with_reducible refine gate_dst (N := 18) rfl ?_); refine Kd.R_lit (Kd.int .i64) (w0 := w) w.heap.size 3 ?hg (N := 18) ?hd (xs := ([] : List Int)) (inner := []) (ok := fun _ => True) (okp := fun _ => True) ?hr ?hp (fun _ hk => hk) trivial (by repeat (first | (with_reducible first | exact HB.out | apply below_alloc | apply pw_below_drewN | apply below_drew1) | exact HB.out)) (below_size (by repeat (first | (with_reducible first | exact HB.out | apply below_alloc | apply pw_below_drewN | apply below_drew1) | exact HB.out))) (by simp) ?_; (case hd => rfl); (case hg => rfl); (case hr => first | (go_simp; done) | (go_simp; rfl)); (case hp => exact (Reps.none _ _)); intro v1 w1 ho hb hg hnew; have HO := Aside0.mk ho; have HBn := Aside0.mk hb; clear ho hb hg hnew HB; have HB := HBn; clear HBn))

      go_loopg [6, 7] (l.length + 1) (fun kq v6 v7 w' => ∃ (k : Nat) (acc : List Int), v7 = .int .i64 (k : Int) ∧ Aside0 (kq + k = l.length + 1) ∧ Aside0 (acc.length ≤ k) ∧ Aside0 (acc ++ winL l m k (l.length + 1 - m - k) = T) ∧ Aside0 (Kd.R (Kd.int .i64) 3 w' w.heap.size (fun _ => True) v6 acc) ∧ Aside0 (Below w.heap.size w w'))
      case atStart => exact ⟨0, [], rfl, ⟨rfl⟩, ⟨by simp⟩, HE0, HO, HB⟩
      case round =>
        clear HO HB HE0
        obtain ⟨k, acc, rfl, HK, HAL, HE, HO, HB⟩ := hrel
        have hk := HK.out
        have hal := HAL.out
        have hw1 : IntKind.i64.wrap ((k : Int) + (m : Int)) = (k : Int) + (m : Int) := IntWalk.i64_in _ (by omega)
        by_cases hi : k + m ≤ l.length
        · have HE1 := HE.out
          rw [show l.length + 1 - m - k = (l.length + 1 - m - (k + 1)) + 1 by omega, winL] at HE1
          obtain ⟨i010, hi010, _, hsz10, _⟩ := info_parts HClone.info_int
          obtain ⟨A10, hcut10, hA10, hC10⟩ := print_mid_of (P := Try.prog) (Value.int .i64) 0 25 3 .i64 .i64 Try.underlying25 hi010 hsz10 A0 c0 l (k : Int) ((k : Int) + (m : Int)) (by omega) (by omega) (by omega) HC0.out
          have HR10 := Aside0.mk (show Kd.C (Kd.int .i64) wr A10 ((l.take ((k : Int) + (m : Int)).toNat).drop ((k : Int)).toNat).length ((l.take ((k : Int) + (m : Int)).toNat).drop ((k : Int)).toNat) from Kd.C_of_reads (h1 := fun _ => rfl) (hA10 _ (Kd.reads_of_C (Kd.C_below HC.out HB.out))))
          have ed : (l.take ((k : Int) + (m : Int)).toNat).drop ((k : Int)).toNat = (l.take (k + m)).drop k := by congr 1
          rw [ed] at hcut10 hC10 HR10
          have hdm : ∀ x ∈ (l.take (k + m)).drop k, 1 ≤ x := fun x hx => HPOS.out x (List.mem_of_mem_take (List.mem_of_mem_drop hx))
          have hdl : ((l.take (k + m)).drop k).length = m := by rw [List.length_drop, List.length_take]; omega
          generalize (l.take (k + m)).drop k = c at hcut10 hC10 HR10 HE1 hdm hdl
          clear hA10 hi010 hsz10 HE ed
          have HE2 : Aside0 ((acc ++ [maxL c 0]) ++ winL l m (k + 1) (l.length + 1 - m - (k + 1)) = T) := ⟨by rw [List.append_assoc]; exact HE1⟩
          clear HE1
          have HMX := Aside0.mk (fun cq W hC => max_calls A10 cq c (by omega) (by omega) W hC)
          rw [max_same c (by omega) hdm] at HMX
          generalize maxL c 0 = y at HMX HE2
          clear hdm hdl
          go_wp2_with fail
          (with_reducible refine (HMX.out _ _ HR10.out).mono ?_)
          rintro e w3 ⟨rfl, hb⟩
          have HOn := Aside0.mk (Kd.R_below HO.out hb)
          have HBn := Aside0.mk (below_step HB.out hb)
          clear hb HO HB HR10
          have HO := HOn
          have HB := HBn
          clear HOn HBn
          go_wp2_with ((with_reducible refine gate_builtin (b := .append) (xs := #[.tmp 27, .tmp 35]) rfl ?_); at_builtin; refine Kd.R_append (Kd.int .i64) (w0 := w) w.heap.size rfl (.tmp 27) (.tmp 35) 25 3 (.int .i64 0) 8 rfl Try.underlying25 HClone.info_int rfl (by decide) (by omega) u6 acc y [.int .i64 y] (fun _ => True) (fun _ => False) rfl rfl ?aP (fun _ hk => hk.elim) (fun _ _ => trivial) ?aO ?aB ?aS ?aL ?_; (case aP => exact rfl); (case aO => exact HO.out); (case aB => exact HB.out); (case aS => exact HB.out.size); (case aL => omega); intro v7 w7 ho hb hg hat; have HOn := Aside0.mk ho; have HBn := Aside0.mk hb; clear ho hb hg hat HO HB; have HO := HOn; have HB := HBn; clear HOn HBn)
          go_roundg (l.length + 1 - (k + 1))
          case measure => omega
          case rel => exact ⟨k + 1, acc ++ [y], rfl, ⟨by omega⟩, ⟨by simp; omega⟩, HE2, HO, HB⟩
        · have HE2 : Aside0 (acc = T) := ⟨by have := HE.out; rw [show l.length + 1 - m - k = 0 by omega, winL, List.append_nil] at this; exact this⟩
          clear HE
          have hle : decide ((k : Int) + (m : Int) ≤ (l.length : Int)) = false := by simp; omega
          go_wp2_with fail
          go_ret2
          exact ⟨_, rfl, by rw [Option.getD_some, ← HE2.out]; exact HO.out, (by repeat (first | (with_reducible first | exact HB.out | apply below_alloc | apply pw_below_drewN | apply below_drew1) | exact HB.out))⟩
    · rw [if_neg (fun z => h1 z.2)]
      have H1 := Aside0.mk (fun W => in_is e0 1 (l.length : Int) false (decide_eq_false h1) W)
      clear h0 hg h1
      go_enter Try.func39, Try.ntmps39
      go_wp2_with (first | (go_at_call 61; refine HG.out.mono ?_; rintro e w' ⟨rfl, ⟨nd, rfl⟩⟩) | (go_at_call 56; (with_reducible refine (H1.out _).mono ?_); rintro e w' ⟨rfl, ⟨nd2, rfl⟩⟩))
      go_ret2
      exact ⟨_, rfl, Kd.R_nil _ _ _ _ _, (by repeat (first | (with_reducible first | exact HB.out | apply below_alloc | apply pw_below_drewN | apply below_drew1) | exact HB.out))⟩
set_option maxHeartbeats 8000000 in
set_option maxRecDepth 100000 in
theorem spec_calls (A0 : Option Addr) (c0 : Nat) (l : List Int) (e0 : Int) (hl : l.length ≤ 1048576) (w : World) (h0 : Kd.C (Kd.int .i64) w A0 l.length l) (hc0 : l.length ≤ c0) :
    Calls Try.prog 40 #[.slice A0 l.length c0, .int .i64 e0] w fun e w' => ∃ v : Value, e = .returned (.tuple #[v, .bool (winT l e0).isSome]) ∧ Kd.R (Kd.int .i64) 3 w' w.heap.size (fun _ => True) v ((winT l e0).getD []) ∧ Below w.heap.size w w' := by
  have HB := Aside0.mk (Below.refl w.heap.size w)
  have HC := Aside0.mk h0
  have HC0 := Aside0.mk hc0
  unfold winT
  cases hg : good l with
  | false =>
    rw [if_neg (fun z => by have z1 := z.1; rw [hg] at z1; exact absurd z1 (by decide))]
    have HG := Aside0.mk (HSpecG.good_is A0 c0 l hl false hg w h0 hc0)
    clear h0 hg
    go_enter Try.func40, Try.ntmps40
    go_wp2_with (go_at_call 58; refine HG.out.mono ?_; rintro e w' ⟨rfl, ⟨nd, rfl⟩⟩)
    go_ret2
    exact ⟨_, rfl, Kd.R_nil _ _ _ _ _, (by repeat (first | (with_reducible first | exact HB.out | apply below_alloc | apply pw_below_drewN | apply below_drew1) | exact HB.out))⟩
  | true =>
    have HG := Aside0.mk (HSpecG.good_is A0 c0 l hl true hg w h0 hc0)
    obtain ⟨hl1, hl2⟩ := good_len hg
    by_cases h1 : 1 ≤ e0 ∧ e0 ≤ (l.length : Int)
    · rw [if_pos (show okW l e0 from ⟨hg, h1⟩)]
      have H1 := Aside0.mk (fun W => sin_is e0 1 (l.length : Int) true (decide_eq_true h1) W)
      obtain ⟨m, rfl⟩ : ∃ m : Nat, e0 = (m : Int) := ⟨e0.toNat, by omega⟩
      have hm1 : 1 ≤ m := by omega
      have hm2 : m ≤ l.length := by omega
      have HPOS := Aside0.mk (fun x hx => (good_mem hg x hx).1)
      rw [Int.toNat_natCast]
      obtain ⟨T, hT⟩ : ∃ T, winL l m 0 (l.length + 1 - m) = T := ⟨_, rfl⟩
      rw [hT]
      have HE0 : Aside0 (([] : List Int) ++ winL l m 0 (l.length + 1 - m - 0) = T) := ⟨by rw [List.nil_append, Nat.sub_zero]; exact hT⟩
      clear h0 hg h1 hT
      go_enter Try.func40, Try.ntmps40
      go_wp2_with (first | (go_at_call 58; refine HG.out.mono ?_; rintro e w' ⟨rfl, ⟨nd, rfl⟩⟩) | (go_at_call 73; (with_reducible refine (H1.out _).mono ?_); rintro e w' ⟨rfl, ⟨nd2, rfl⟩⟩))
      have HO : Aside0 (Kd.R (Kd.int .i64) 3 w w.heap.size (fun _ => True) (.slice none 0 0) []) := ⟨Kd.R_nil _ _ _ _ _⟩
      go_loopg [6, 7] (l.length + 1) (fun kq v6 v7 w' => ∃ (k : Nat) (acc : List Int), v7 = .int .i64 (k : Int) ∧ Aside0 (kq + k = l.length + 1) ∧ Aside0 (acc.length ≤ k) ∧ Aside0 (acc ++ winL l m k (l.length + 1 - m - k) = T) ∧ Aside0 (Kd.R (Kd.int .i64) 3 w' w.heap.size (fun _ => True) v6 acc) ∧ Aside0 (Below w.heap.size w w'))
      case atStart => exact ⟨0, [], rfl, ⟨rfl⟩, ⟨by simp⟩, HE0, ⟨by (with_reducible repeat (first | apply Kd.R_alloc | apply Kd.R_drewN | apply Kd.R_drew)); exact HO.out⟩, ⟨(by repeat (first | (with_reducible first | exact HB.out | apply below_alloc | apply pw_below_drewN | apply below_drew1) | exact HB.out))⟩⟩
      case round =>
        clear HO HB HE0
        obtain ⟨k, acc, rfl, HK, HAL, HE, HO, HB⟩ := hrel
        have hk := HK.out
        have hal := HAL.out
        have hw1 : IntKind.i64.wrap ((k : Int) + (m : Int)) = (k : Int) + (m : Int) := IntWalk.i64_in _ (by omega)
        by_cases hi : k + m ≤ l.length
        · have HE1 := HE.out
          rw [show l.length + 1 - m - k = (l.length + 1 - m - (k + 1)) + 1 by omega, winL] at HE1
          obtain ⟨i010, hi010, _, hsz10, _⟩ := info_parts HClone.info_int
          obtain ⟨A10, hcut10, hA10, hC10⟩ := print_mid_of (P := Try.prog) (Value.int .i64) 0 25 3 .i64 .i64 Try.underlying25 hi010 hsz10 A0 c0 l (k : Int) ((k : Int) + (m : Int)) (by omega) (by omega) (by omega) HC0.out
          have HR10 := Aside0.mk (show Kd.C (Kd.int .i64) wr A10 ((l.take ((k : Int) + (m : Int)).toNat).drop ((k : Int)).toNat).length ((l.take ((k : Int) + (m : Int)).toNat).drop ((k : Int)).toNat) from Kd.C_of_reads (h1 := fun _ => rfl) (hA10 _ (Kd.reads_of_C (Kd.C_below HC.out HB.out))))
          have ed : (l.take ((k : Int) + (m : Int)).toNat).drop ((k : Int)).toNat = (l.take (k + m)).drop k := by congr 1
          rw [ed] at hcut10 hC10 HR10
          have hdm : ∀ x ∈ (l.take (k + m)).drop k, 1 ≤ x := fun x hx => HPOS.out x (List.mem_of_mem_take (List.mem_of_mem_drop hx))
          have hdl : ((l.take (k + m)).drop k).length = m := by rw [List.length_drop, List.length_take]; omega
          generalize (l.take (k + m)).drop k = c at hcut10 hC10 HR10 HE1 hdm hdl
          clear hA10 hi010 hsz10 HE ed
          have HE2 : Aside0 ((acc ++ [maxL c 0]) ++ winL l m (k + 1) (l.length + 1 - m - (k + 1)) = T) := ⟨by rw [List.append_assoc]; exact HE1⟩
          clear HE1
          have HDL := Aside0.mk hdl
          obtain ⟨y, hy⟩ : ∃ y, maxL c 0 = y := ⟨_, rfl⟩
          rw [hy] at HE2
          have HY : Aside0 (maxL (c.drop 0) 0 = y) := ⟨by rw [List.drop_zero]; exact hy⟩
          have HRC := Aside0.mk (fun W (h : Below wr.heap.size wr W) => Kd.C_below HR10.out h)
          clear hdm hy hdl
          have HBO := Aside0.mk HB.out
          have hle : decide ((k : Int) + (m : Int) ≤ (l.length : Int)) = true := by simp; omega
          have hcl : c.length ≤ 1048576 := by have := HDL.out; omega
          go_wp2_with fail
          have HI0 := Aside0.mk hi
          clear hi
          go_loopg [8, 36] c.length (fun kq2 v8 v36 w' => ∃ (j : Nat) (mx : Int), v8 = .int .i64 mx ∧ v36 = .int .i64 (j : Int) ∧ Aside0 (kq2 + j = c.length) ∧ Aside0 (maxL (c.drop j) mx = y) ∧ Aside0 (Kd.R (Kd.int .i64) 3 w' w.heap.size (fun _ => True) u6 acc) ∧ Aside0 (Below wr.heap.size wr w'))
          case atStart => exact ⟨0, 0, rfl, rfl, ⟨rfl⟩, HY, ⟨by (with_reducible repeat (first | apply Kd.R_alloc | apply Kd.R_drewN | apply Kd.R_drew)); exact HO.out⟩, ⟨(by repeat (first | exact Below.refl _ _ | apply below_alloc | apply pw_below_drewN | apply below_drew1))⟩⟩
          case round =>
            clear HO HB HY
            obtain ⟨j, mx, rfl, rfl, HK2, HM, HO, HB2⟩ := hrel
            have hk2 := HK2.out
            by_cases hj : j < c.length
            · obtain ⟨ad2, e, hx⟩ := Kd.at_int (HRC.out _ HB2.out) (j : Int) (by omega) (by omega)
              cases e
              rw [Int.toNat_natCast] at hx
              have HM2 : Aside0 (maxL (c.drop (j + 1)) (if mx > rd c (j : Int) then mx else rd c (j : Int)) = y) := ⟨by
                have := HM.out
                rw [drop_cons2 c j (by omega), maxL] at this
                exact this⟩
              have HMO := Aside0.mk (fun W => most_is mx (rd c (j : Int)) W)
              generalize rd c (j : Int) = x at hx HM2 HMO
              generalize (if mx > x then mx else x) = z at HM2 HMO
              clear HM
              go_wp2_with (go_at_call 60; (with_reducible refine (HMO.out _).mono ?_); rintro e w' ⟨rfl, ⟨nd3, rfl⟩⟩)
              go_roundg (c.length - (j + 1))
              case measure => omega
              case rel => exact ⟨j + 1, z, rfl, rfl, ⟨by omega⟩, HM2, ⟨by (with_reducible repeat (first | apply Kd.R_alloc | apply Kd.R_drewN | apply Kd.R_drew)); exact HO.out⟩, ⟨by repeat (first | exact HB2.out | apply below_alloc | apply pw_below_drewN | apply below_drew1)⟩⟩
            · have hmy : Aside0 (mx = y) := ⟨by have := HM.out; rw [List.drop_eq_nil_of_le (by omega)] at this; exact this⟩
              have hjm : decide ((j : Int) < (c.length : Int)) = false := by simp; omega
              have HB := Aside0.mk (below_step HBO.out HB2.out)
              have hyy := hmy.out
              subst hyy
              clear HM hmy
              go_wp2_with ((with_reducible refine gate_builtin (b := .append) (xs := #[.tmp 44, .tmp 46]) rfl ?_); at_builtin; refine Kd.R_append (Kd.int .i64) (w0 := w) w.heap.size rfl (.tmp 44) (.tmp 46) 25 3 (.int .i64 0) 8 rfl Try.underlying25 HClone.info_int rfl (by decide) (by omega) u6 acc mx [.int .i64 mx] (fun _ => True) (fun _ => False) rfl rfl ?aP (fun _ hk => hk.elim) (fun _ _ => trivial) ?aO ?aB ?aS ?aL ?_; (case aP => exact rfl); (case aO => exact HO.out); (case aB => exact HB.out); (case aS => exact HB.out.size); (case aL => omega); intro v7 w7 ho hb hg hat; have HOn := Aside0.mk ho; have HBn := Aside0.mk hb; clear ho hb hg hat HO HB; have HO := HOn; have HB := HBn; clear HOn HBn)
              have hi := HI0.out
              go_roundg (l.length + 1 - (k + 1))
              case measure => omega
              case rel => exact ⟨k + 1, acc ++ [mx], rfl, ⟨by omega⟩, ⟨by simp; omega⟩, HE2, HO, HB⟩
        · have HE2 : Aside0 (acc = T) := ⟨by have := HE.out; rw [show l.length + 1 - m - k = 0 by omega, winL, List.append_nil] at this; exact this⟩
          clear HE
          have hle : decide ((k : Int) + (m : Int) ≤ (l.length : Int)) = false := by simp; omega
          go_wp2_with fail
          go_ret2
          exact ⟨_, rfl, by rw [Option.getD_some, ← HE2.out]; exact HO.out, (by repeat (first | (with_reducible first | exact HB.out | apply below_alloc | apply pw_below_drewN | apply below_drew1) | exact HB.out))⟩
    · rw [if_neg (fun z => h1 z.2)]
      have H1 := Aside0.mk (fun W => sin_is e0 1 (l.length : Int) false (decide_eq_false h1) W)
      clear h0 hg h1
      go_enter Try.func40, Try.ntmps40
      go_wp2_with (first | (go_at_call 58; refine HG.out.mono ?_; rintro e w' ⟨rfl, ⟨nd, rfl⟩⟩) | (go_at_call 73; (with_reducible refine (H1.out _).mono ?_); rintro e w' ⟨rfl, ⟨nd2, rfl⟩⟩))
      go_ret2
      exact ⟨_, rfl, Kd.R_nil _ _ _ _ _, (by repeat (first | (with_reducible first | exact HB.out | apply below_alloc | apply pw_below_drewN | apply below_drew1) | exact HB.out))⟩
end Go.Proofs.Ytleacijhpkogpac.HTW
