/- The greatest of a list: the walk of slices.Max. -/
import Derived.Test.YtleacijhpkogpadHClone
import Derived.Test.YtleacijhpkogpadHGood
import Derived.Test.YtleacijhpkogpadPFnHeightsSeenx6
import Derived.Test.YtleacijhpkogpadPFnHeightsSeenx20
import Derived.Test.YtleacijhpkogpadPFnHeightsSeenx10
import Derived.Test.YtleacijhpkogpadPFnHeightsSeenx19
import Derived.Test.YtleacijhpkogpadPFnHeightsSeenx21
import Derived.Test.YtleacijhpkogpadPFnHeightsSeenx32
import Derived.Test.YtleacijhpkogpadHGoodU
import Derived.Deep.QuietTactic
import Derived.BigQuiet
namespace Go.Proofs.Ytleacijhpkogpad.HMax
open Go.RowKit Go.Proofs.YtleacijhpkogpadW.PrintWords Go.Proofs.YtleacijhpkogpadW.PrintLast Go.Proofs.YtleacijhpkogpadW.PrintMore Go.Proofs.Ytleacijhpkogpad.HSpecG
attribute [local go_sem] max2_int max_two
set_option linter.unusedVariables false
set_option linter.unusedSimpArgs false

def maxL : List Int → Int → Int
  | [], m => m
  | h :: t, m => maxL t (if m > h then m else h)
set_option maxHeartbeats 8000000 in
set_option maxRecDepth 100000 in
theorem max_calls (A0 : Option Addr) (c0 : Nat) (l : List Int) (h1 : 1 ≤ l.length) (hl : l.length ≤ 1048576) (w : World) (h0 : Kd.C (Kd.int .i64) w A0 l.length l) :
    Calls Try.prog 71 #[.slice A0 l.length c0] w fun e w' => e = .returned (.int .i64 (maxL (l.drop 1) (rd l 0))) ∧ Below w.heap.size w w' := by
  have HB := Aside0.mk (Below.refl w.heap.size w)
  have HC := Aside0.mk h0
  obtain ⟨ad, e, hx0⟩ := Kd.at_int h0 0 (by omega) (by omega)
  cases e
  replace hx0 : w.cell? ad = some (.int .i64 (rd l 0)) := by
    have e0 : ad.add (Int.toNat 0) = ad := by cases ad; rfl
    rw [← e0]; exact hx0
  generalize rd l 0 = y at hx0
  obtain ⟨T, hT⟩ : ∃ T, maxL (l.drop 1) y = T := ⟨_, rfl⟩
  rw [hT]
  have HE0 := Aside0.mk hT
  clear h0 hT
  go_enter Try.func71, Try.ntmps71
  go_wp2_with fail
  go_loopg [3, 4] l.length (fun kq v3 v4 w' => ∃ (j : Nat) (m : Int), v3 = .int .i64 m ∧ v4 = .int .i64 (j : Int) ∧ Aside0 (kq + j = l.length + 1) ∧ Aside0 (maxL (l.drop j) m = T) ∧ Aside0 (Below w.heap.size w w'))
  case atStart => exact ⟨1, y, rfl, rfl, ⟨by omega⟩, HE0, HB⟩
  case round =>
    clear HB HE0
    obtain ⟨j, m, rfl, rfl, HK, HE, HB⟩ := hrel
    by_cases hj : j < l.length
    · obtain ⟨ad2, e, hx⟩ := Kd.at_int HC.out (j : Int) (by omega) (by omega)
      cases e
      rw [Int.toNat_natCast] at hx
      have HE2 : Aside0 (maxL (l.drop (j + 1)) (if m > rd l (j : Int) then m else rd l (j : Int)) = T) := ⟨by
        have := HE.out
        rw [drop_cons l j hj, maxL] at this
        exact this⟩
      generalize rd l (j : Int) = x at hx HE2
      replace hx := pw_cell_below HB.out hx
      clear HE
      by_cases c : m < x
      · have HE3 : Aside0 (maxL (l.drop (j + 1)) x = T) := ⟨by have := HE2.out; rw [if_neg (by omega)] at this; exact this⟩
        go_wp2_with fail
        go_roundg (l.length - j)
        case measure => have := HK.out; omega
        case rel => exact ⟨j + 1, x, rfl, rfl, ⟨by have := HK.out; omega⟩, HE3, HB⟩
      · have HE3 : Aside0 (maxL (l.drop (j + 1)) m = T) := ⟨by
          have := HE2.out
          by_cases c2 : m > x
          · rw [if_pos c2] at this; exact this
          · rw [if_neg c2, show x = m by omega] at this; exact this⟩
        go_wp2_with fail
        go_roundg (l.length - j)
        case measure => have := HK.out; omega
        case rel => exact ⟨j + 1, m, rfl, rfl, ⟨by have := HK.out; omega⟩, HE3, HB⟩
    · have hT := HE.out
      rw [List.drop_eq_nil_of_le (by omega), maxL] at hT
      clear HE
      subst hT
      go_wp2_with fail
      go_ret
      exact ⟨rfl, (by repeat (first | (with_reducible first | exact HB.out | apply below_alloc | apply pw_below_drewN | apply below_drew1) | exact HB.out))⟩
end Go.Proofs.Ytleacijhpkogpad.HMax
/- The tallest of windows: the walks of spec.TallestOfWindows, impl.TallestOfWindows and of the law. -/
namespace Go.Proofs.Ytleacijhpkogpad.HTW
open Go.RowKit Go.Proofs.YtleacijhpkogpadW.PrintWords Go.Proofs.YtleacijhpkogpadW.PrintLast Go.Proofs.YtleacijhpkogpadW.PrintMore Go.Proofs.Ytleacijhpkogpad.HImpl Go.Proofs.Ytleacijhpkogpad.PFnHeightsSeen Go.Proofs.Ytleacijhpkogpad.HSpecG Go.Proofs.Ytleacijhpkogpad.HMax
set_option linter.unusedVariables false
set_option linter.unusedSimpArgs false

/-- The tallest of each window from the k-th on, d of them. -/
def winL (l : List Int) (m : Nat) : Nat → Nat → List Int
  | _, 0 => []
  | k, d + 1 => maxL ((l.take (k + m)).drop k) 0 :: winL l m (k + 1) d
theorem winL_len (l : List Int) (m : Nat) : ∀ d k, (winL l m k d).length = d
  | 0, _ => rfl
  | d + 1, k => by simp [winL, winL_len l m d (k + 1)]
def okW (l : List Int) (e0 : Int) : Prop := good l = true ∧ 1 ≤ e0 ∧ e0 ≤ (l.length : Int)
instance (l : List Int) (e0 : Int) : Decidable (okW l e0) := by unfold okW; infer_instance
def winT (l : List Int) (e0 : Int) : Option (List Int) := if okW l e0 then some (winL l e0.toNat 0 (l.length + 1 - e0.toNat)) else none
theorem max_same (r : List Int) (h1 : 0 < r.length) (hp : ∀ x ∈ r, 1 ≤ x) : maxL (r.drop 1) (rd r 0) = maxL r 0 := by
  match r, h1 with
  | a :: t, _ =>
    have ha := hp a (List.mem_cons_self ..)
    simp only [maxL, List.drop_succ_cons, List.drop_zero]
    rw [if_neg (by omega)]
    rfl
theorem in_is (a lo hi : Int) (b : Bool) (hb : decide (lo ≤ a ∧ a ≤ hi) = b) (W : World) : Calls Try.prog 67 #[.int .i64 a, .int .i64 lo, .int .i64 hi] W fun e w' => e = .returned (.bool b) ∧ Drawn0 W w' := by
  refine impl_in.calls a lo hi b W ?_
  subst hb
  unfold impl_in.f
  by_cases h : lo ≤ a
  · rw [if_pos h]; simp [h]
  · rw [if_neg h]; simp [h]
theorem sin_is (a lo hi : Int) (b : Bool) (hb : decide (lo ≤ a ∧ a ≤ hi) = b) (W : World) : Calls Try.prog 69 #[.int .i64 a, .int .i64 lo, .int .i64 hi] W fun e w' => e = .returned (.bool b) ∧ Drawn0 W w' := by
  refine PFnHeightsSeen.spec_l1In.calls a lo hi b W ?_
  subst hb
  unfold PFnHeightsSeen.spec_l1In.f
  by_cases h : a ≥ lo
  · rw [if_pos h]; simp; omega
  · rw [if_neg h]; simp; omega
theorem most_is (m x : Int) (W : World) : Calls Try.prog 62 #[.int .i64 m, .int .i64 x] W fun e w' => e = .returned (.int .i64 (if m > x then m else x)) ∧ Drawn0 W w' := by
  refine PFnHeightsSeen.spec_l1Most.calls m x _ W ?_
  unfold PFnHeightsSeen.spec_l1Most.f
  split <;> rfl
theorem drop_cons2 (c : List Int) (j : Nat) (h : j < c.length) : c.drop j = rd c (j : Int) :: c.drop (j + 1) := drop_cons c j h
set_option maxHeartbeats 8000000 in
set_option maxRecDepth 100000 in
theorem impl_calls (A0 : Option Addr) (c0 : Nat) (l : List Int) (e0 : Int) (hl : l.length ≤ 1048576) (w : World) (h0 : Kd.C (Kd.int .i64) w A0 l.length l) (hc0 : l.length ≤ c0) :
    Calls Try.prog 29 #[.slice A0 l.length c0, .int .i64 e0] w fun e w' => ∃ v : Value, e = .returned (.tuple #[v, .bool (winT l e0).isSome]) ∧ Kd.R (Kd.int .i64) 3 w' w.heap.size (fun _ => True) v ((winT l e0).getD []) ∧ Below w.heap.size w w' := by
  have HB := Aside0.mk (Below.refl w.heap.size w)
  have HC := Aside0.mk h0
  have HC0 := Aside0.mk hc0
  unfold winT
  cases hg : good l with
  | false =>
    rw [if_neg (fun z => by have z1 := z.1; rw [hg] at z1; exact absurd z1 (by decide))]
    have HG := Aside0.mk (HImpl.are_is A0 c0 l false hg w h0 hc0)
    clear h0 hg
    go_enter Try.func29, Try.ntmps29
    go_wp2_with (go_at_call 53; refine HG.out.mono ?_; rintro e w' ⟨rfl, ⟨nd, rfl⟩⟩)
    go_ret2
    exact ⟨_, rfl, Kd.R_nil _ _ _ _ _, (by repeat (first | (with_reducible first | exact HB.out | apply below_alloc | apply pw_below_drewN | apply below_drew1) | exact HB.out))⟩
  | true =>
    have HG := Aside0.mk (HImpl.are_is A0 c0 l true hg w h0 hc0)
    obtain ⟨hl1, hl2⟩ := good_len hg
    by_cases h1 : 1 ≤ e0 ∧ e0 ≤ (l.length : Int)
    · rw [if_pos (show okW l e0 from ⟨hg, h1⟩)]
      have H1 := Aside0.mk (fun W => in_is e0 1 (l.length : Int) true (decide_eq_true h1) W)
      obtain ⟨m, rfl⟩ : ∃ m : Nat, e0 = (m : Int) := ⟨e0.toNat, by omega⟩
      have hm1 : 1 ≤ m := by omega
      have hm2 : m ≤ l.length := by omega
      have HPOS := Aside0.mk (fun x hx => (good_mem hg x hx).1)
      rw [Int.toNat_natCast]
      obtain ⟨T, hT⟩ : ∃ T, winL l m 0 (l.length + 1 - m) = T := ⟨_, rfl⟩
      rw [hT]
      have HE0 : Aside0 (([] : List Int) ++ winL l m 0 (l.length + 1 - m - 0) = T) := ⟨by rw [List.nil_append, Nat.sub_zero]; exact hT⟩
      clear h0 hg h1 hT
      go_enter Try.func29, Try.ntmps29
      go_wp2_with (first | (go_at_call 53; refine HG.out.mono ?_; rintro e w' ⟨rfl, ⟨nd, rfl⟩⟩) | (go_at_call 67; (with_reducible refine (H1.out _).mono ?_); rintro e w' ⟨rfl, ⟨nd2, rfl⟩⟩) | ((with_reducible refine gate_dst (N := 18) rfl ?_); refine Kd.R_lit (Kd.int .i64) (w0 := w) w.heap.size 3 ?hg (N := 18) ?hd (xs := ([] : List Int)) (inner := []) (ok := fun _ => True) (okp := fun _ => True) ?hr ?hp (fun _ hk => hk) trivial (by repeat (first | (with_reducible first | exact HB.out | apply below_alloc | apply pw_below_drewN | apply below_drew1) | exact HB.out)) (below_size (by repeat (first | (with_reducible first | exact HB.out | apply below_alloc | apply pw_below_drewN | apply below_drew1) | exact HB.out))) (by simp) ?_; (case hd => rfl); (case hg => rfl); (case hr => first | (go_simp; done) | (go_simp; rfl)); (case hp => exact (Reps.none _ _)); intro v1 w1 ho hb hg hnew; have HO := Aside0.mk ho; have HBn := Aside0.mk hb; clear ho hb hg hnew HB; have HB := HBn; clear HBn))

      go_loopg [6, 7] (l.length + 1) (fun kq v6 v7 w' => ∃ (k : Nat) (acc : List Int), v7 = .int .i64 (k : Int) ∧ Aside0 (kq + k = l.length + 1) ∧ Aside0 (acc.length ≤ k) ∧ Aside0 (acc ++ winL l m k (l.length + 1 - m - k) = T) ∧ Aside0 (Kd.R (Kd.int .i64) 3 w' w.heap.size (fun _ => True) v6 acc) ∧ Aside0 (Below w.heap.size w w'))
      case atStart => exact ⟨0, [], rfl, ⟨rfl⟩, ⟨by simp⟩, HE0, HO, HB⟩
      case round =>
        clear HO HB HE0
        obtain ⟨k, acc, rfl, HK, HAL, HE, HO, HB⟩ := hrel
        have hk := HK.out
        have hal := HAL.out
        have hw1 : IntKind.i64.wrap ((k : Int) + (m : Int)) = (k : Int) + (m : Int) := IntWalk.i64_in _ (by omega)
        by_cases hi : k + m ≤ l.length
        · have HE1 := HE.out
          rw [show l.length + 1 - m - k = (l.length + 1 - m - (k + 1)) + 1 by omega, winL] at HE1
          obtain ⟨i010, hi010, _, hsz10, _⟩ := info_parts HClone.info_int
          obtain ⟨A10, hcut10, hA10, hC10⟩ := print_mid_of (P := Try.prog) (Value.int .i64) 0 24 3 .i64 .i64 Try.underlying24 hi010 hsz10 A0 c0 l (k : Int) ((k : Int) + (m : Int)) (by omega) (by omega) (by omega) HC0.out
          have HR10 := Aside0.mk (show Kd.C (Kd.int .i64) wr A10 ((l.take ((k : Int) + (m : Int)).toNat).drop ((k : Int)).toNat).length ((l.take ((k : Int) + (m : Int)).toNat).drop ((k : Int)).toNat) from Kd.C_of_reads (h1 := fun _ => rfl) (hA10 _ (Kd.reads_of_C (Kd.C_below HC.out HB.out))))
          have ed : (l.take ((k : Int) + (m : Int)).toNat).drop ((k : Int)).toNat = (l.take (k + m)).drop k := by congr 1
          rw [ed] at hcut10 hC10 HR10
          have hdm : ∀ x ∈ (l.take (k + m)).drop k, 1 ≤ x := fun x hx => HPOS.out x (List.mem_of_mem_take (List.mem_of_mem_drop hx))
          have hdl : ((l.take (k + m)).drop k).length = m := by rw [List.length_drop, List.length_take]; omega
          generalize (l.take (k + m)).drop k = c at hcut10 hC10 HR10 HE1 hdm hdl
          clear hA10 hi010 hsz10 HE ed
          have HE2 : Aside0 ((acc ++ [maxL c 0]) ++ winL l m (k + 1) (l.length + 1 - m - (k + 1)) = T) := ⟨by rw [List.append_assoc]; exact HE1⟩
          clear HE1
          have HMX := Aside0.mk (fun cq W hC => max_calls A10 cq c (by omega) (by omega) W hC)
          rw [max_same c (by omega) hdm] at HMX
          generalize maxL c 0 = y at HMX HE2
          clear hdm hdl
          go_wp2_with fail
          (with_reducible refine (HMX.out _ _ HR10.out).mono ?_)
          rintro e w3 ⟨rfl, hb⟩
          have HOn := Aside0.mk (Kd.R_below HO.out hb)
          have HBn := Aside0.mk (below_step HB.out hb)
          clear hb HO HB HR10
          have HO := HOn
          have HB := HBn
          clear HOn HBn
          go_wp2_with ((with_reducible refine gate_builtin (b := .append) (xs := #[.tmp 27, .tmp 35]) rfl ?_); at_builtin; refine Kd.R_append (Kd.int .i64) (w0 := w) w.heap.size rfl (.tmp 27) (.tmp 35) 24 3 (.int .i64 0) 8 rfl Try.underlying24 HClone.info_int rfl (by decide) (by omega) u6 acc y [.int .i64 y] (fun _ => True) (fun _ => False) rfl rfl ?aP (fun _ hk => hk.elim) (fun _ _ => trivial) ?aO ?aB ?aS ?aL ?_; (case aP => exact rfl); (case aO => exact HO.out); (case aB => exact HB.out); (case aS => exact HB.out.size); (case aL => omega); intro v7 w7 ho hb hg hat; have HOn := Aside0.mk ho; have HBn := Aside0.mk hb; clear ho hb hg hat HO HB; have HO := HOn; have HB := HBn; clear HOn HBn)
          go_roundg (l.length + 1 - (k + 1))
          case measure => omega
          case rel => exact ⟨k + 1, acc ++ [y], rfl, ⟨by omega⟩, ⟨by simp; omega⟩, HE2, HO, HB⟩
        · have HE2 : Aside0 (acc = T) := ⟨by have := HE.out; rw [show l.length + 1 - m - k = 0 by omega, winL, List.append_nil] at this; exact this⟩
          clear HE
          have hle : decide ((k : Int) + (m : Int) ≤ (l.length : Int)) = false := by simp; omega
          go_wp2_with fail
          go_ret2
          exact ⟨_, rfl, by rw [Option.getD_some, ← HE2.out]; exact HO.out, (by repeat (first | (with_reducible first | exact HB.out | apply below_alloc | apply pw_below_drewN | apply below_drew1) | exact HB.out))⟩
    · rw [if_neg (fun z => h1 z.2)]
      have H1 := Aside0.mk (fun W => in_is e0 1 (l.length : Int) false (decide_eq_false h1) W)
      clear h0 hg h1
      go_enter Try.func29, Try.ntmps29
      go_wp2_with (first | (go_at_call 53; refine HG.out.mono ?_; rintro e w' ⟨rfl, ⟨nd, rfl⟩⟩) | (go_at_call 67; (with_reducible refine (H1.out _).mono ?_); rintro e w' ⟨rfl, ⟨nd2, rfl⟩⟩))
      go_ret2
      exact ⟨_, rfl, Kd.R_nil _ _ _ _ _, (by repeat (first | (with_reducible first | exact HB.out | apply below_alloc | apply pw_below_drewN | apply below_drew1) | exact HB.out))⟩
set_option maxHeartbeats 8000000 in
set_option maxRecDepth 100000 in
theorem spec_calls (A0 : Option Addr) (c0 : Nat) (l : List Int) (e0 : Int) (hl : l.length ≤ 1048576) (w : World) (h0 : Kd.C (Kd.int .i64) w A0 l.length l) (hc0 : l.length ≤ c0) :
    Calls Try.prog 30 #[.slice A0 l.length c0, .int .i64 e0] w fun e w' => ∃ v : Value, e = .returned (.tuple #[v, .bool (winT l e0).isSome]) ∧ Kd.R (Kd.int .i64) 3 w' w.heap.size (fun _ => True) v ((winT l e0).getD []) ∧ Below w.heap.size w w' := by
  have HB := Aside0.mk (Below.refl w.heap.size w)
  have HC := Aside0.mk h0
  have HC0 := Aside0.mk hc0
  unfold winT
  cases hg : good l with
  | false =>
    rw [if_neg (fun z => by have z1 := z.1; rw [hg] at z1; exact absurd z1 (by decide))]
    have HG := Aside0.mk (HSpecG.good_is A0 c0 l hl false hg w h0 hc0)
    clear h0 hg
    go_enter Try.func30, Try.ntmps30
    go_wp2_with (go_at_call 56; refine HG.out.mono ?_; rintro e w' ⟨rfl, ⟨nd, rfl⟩⟩)
    go_ret2
    exact ⟨_, rfl, Kd.R_nil _ _ _ _ _, (by repeat (first | (with_reducible first | exact HB.out | apply below_alloc | apply pw_below_drewN | apply below_drew1) | exact HB.out))⟩
  | true =>
    have HG := Aside0.mk (HSpecG.good_is A0 c0 l hl true hg w h0 hc0)
    obtain ⟨hl1, hl2⟩ := good_len hg
    by_cases h1 : 1 ≤ e0 ∧ e0 ≤ (l.length : Int)
    · rw [if_pos (show okW l e0 from ⟨hg, h1⟩)]
      have H1 := Aside0.mk (fun W => sin_is e0 1 (l.length : Int) true (decide_eq_true h1) W)
      obtain ⟨m, rfl⟩ : ∃ m : Nat, e0 = (m : Int) := ⟨e0.toNat, by omega⟩
      have hm1 : 1 ≤ m := by omega
      have hm2 : m ≤ l.length := by omega
      have HPOS := Aside0.mk (fun x hx => (good_mem hg x hx).1)
      rw [Int.toNat_natCast]
      obtain ⟨T, hT⟩ : ∃ T, winL l m 0 (l.length + 1 - m) = T := ⟨_, rfl⟩
      rw [hT]
      have HE0 : Aside0 (([] : List Int) ++ winL l m 0 (l.length + 1 - m - 0) = T) := ⟨by rw [List.nil_append, Nat.sub_zero]; exact hT⟩
      clear h0 hg h1 hT
      go_enter Try.func30, Try.ntmps30
      go_wp2_with (first | (go_at_call 56; refine HG.out.mono ?_; rintro e w' ⟨rfl, ⟨nd, rfl⟩⟩) | (go_at_call 69; (with_reducible refine (H1.out _).mono ?_); rintro e w' ⟨rfl, ⟨nd2, rfl⟩⟩))
      have HO : Aside0 (Kd.R (Kd.int .i64) 3 w w.heap.size (fun _ => True) (.slice none 0 0) []) := ⟨Kd.R_nil _ _ _ _ _⟩
      go_loopg [6, 7] (l.length + 1) (fun kq v6 v7 w' => ∃ (k : Nat) (acc : List Int), v7 = .int .i64 (k : Int) ∧ Aside0 (kq + k = l.length + 1) ∧ Aside0 (acc.length ≤ k) ∧ Aside0 (acc ++ winL l m k (l.length + 1 - m - k) = T) ∧ Aside0 (Kd.R (Kd.int .i64) 3 w' w.heap.size (fun _ => True) v6 acc) ∧ Aside0 (Below w.heap.size w w'))
      case atStart => exact ⟨0, [], rfl, ⟨rfl⟩, ⟨by simp⟩, HE0, ⟨by (with_reducible repeat (first | apply Kd.R_alloc | apply Kd.R_drewN | apply Kd.R_drew)); exact HO.out⟩, ⟨(by repeat (first | (with_reducible first | exact HB.out | apply below_alloc | apply pw_below_drewN | apply below_drew1) | exact HB.out))⟩⟩
      case round =>
        clear HO HB HE0
        obtain ⟨k, acc, rfl, HK, HAL, HE, HO, HB⟩ := hrel
        have hk := HK.out
        have hal := HAL.out
        have hw1 : IntKind.i64.wrap ((k : Int) + (m : Int)) = (k : Int) + (m : Int) := IntWalk.i64_in _ (by omega)
        by_cases hi : k + m ≤ l.length
        · have HE1 := HE.out
          rw [show l.length + 1 - m - k = (l.length + 1 - m - (k + 1)) + 1 by omega, winL] at HE1
          obtain ⟨i010, hi010, _, hsz10, _⟩ := info_parts HClone.info_int
          obtain ⟨A10, hcut10, hA10, hC10⟩ := print_mid_of (P := Try.prog) (Value.int .i64) 0 24 3 .i64 .i64 Try.underlying24 hi010 hsz10 A0 c0 l (k : Int) ((k : Int) + (m : Int)) (by omega) (by omega) (by omega) HC0.out
          have HR10 := Aside0.mk (show Kd.C (Kd.int .i64) wr A10 ((l.take ((k : Int) + (m : Int)).toNat).drop ((k : Int)).toNat).length ((l.take ((k : Int) + (m : Int)).toNat).drop ((k : Int)).toNat) from Kd.C_of_reads (h1 := fun _ => rfl) (hA10 _ (Kd.reads_of_C (Kd.C_below HC.out HB.out))))
          have ed : (l.take ((k : Int) + (m : Int)).toNat).drop ((k : Int)).toNat = (l.take (k + m)).drop k := by congr 1
          rw [ed] at hcut10 hC10 HR10
          have hdm : ∀ x ∈ (l.take (k + m)).drop k, 1 ≤ x := fun x hx => HPOS.out x (List.mem_of_mem_take (List.mem_of_mem_drop hx))
          have hdl : ((l.take (k + m)).drop k).length = m := by rw [List.length_drop, List.length_take]; omega
          generalize (l.take (k + m)).drop k = c at hcut10 hC10 HR10 HE1 hdm hdl
          clear hA10 hi010 hsz10 HE ed
          have HE2 : Aside0 ((acc ++ [maxL c 0]) ++ winL l m (k + 1) (l.length + 1 - m - (k + 1)) = T) := ⟨by rw [List.append_assoc]; exact HE1⟩
          clear HE1
          have HDL := Aside0.mk hdl
          obtain ⟨y, hy⟩ : ∃ y, maxL c 0 = y := ⟨_, rfl⟩
          rw [hy] at HE2
          have HY : Aside0 (maxL (c.drop 0) 0 = y) := ⟨by rw [List.drop_zero]; exact hy⟩
          have HRC := Aside0.mk (fun W (h : Below wr.heap.size wr W) => Kd.C_below HR10.out h)
          clear hdm hy hdl
          have HBO := Aside0.mk HB.out
          have hle : decide ((k : Int) + (m : Int) ≤ (l.length : Int)) = true := by simp; omega
          have hcl : c.length ≤ 1048576 := by have := HDL.out; omega
          go_wp2_with fail
          have HI0 := Aside0.mk hi
          clear hi
          go_loopg [8, 36] c.length (fun kq2 v8 v36 w' => ∃ (j : Nat) (mx : Int), v8 = .int .i64 mx ∧ v36 = .int .i64 (j : Int) ∧ Aside0 (kq2 + j = c.length) ∧ Aside0 (maxL (c.drop j) mx = y) ∧ Aside0 (Kd.R (Kd.int .i64) 3 w' w.heap.size (fun _ => True) u6 acc) ∧ Aside0 (Below wr.heap.size wr w'))
          case atStart => exact ⟨0, 0, rfl, rfl, ⟨rfl⟩, HY, ⟨by (with_reducible repeat (first | apply Kd.R_alloc | apply Kd.R_drewN | apply Kd.R_drew)); exact HO.out⟩, ⟨(by repeat (first | exact Below.refl _ _ | apply below_alloc | apply pw_below_drewN | apply below_drew1))⟩⟩
          case round =>
            clear HO HB HY
            obtain ⟨j, mx, rfl, rfl, HK2, HM, HO, HB2⟩ := hrel
            have hk2 := HK2.out
            by_cases hj : j < c.length
            · obtain ⟨ad2, e, hx⟩ := Kd.at_int (HRC.out _ HB2.out) (j : Int) (by omega) (by omega)
              cases e
              rw [Int.toNat_natCast] at hx
              have HM2 : Aside0 (maxL (c.drop (j + 1)) (if mx > rd c (j : Int) then mx else rd c (j : Int)) = y) := ⟨by
                have := HM.out
                rw [drop_cons2 c j (by omega), maxL] at this
                exact this⟩
              have HMO := Aside0.mk (fun W => most_is mx (rd c (j : Int)) W)
              generalize rd c (j : Int) = x at hx HM2 HMO
              generalize (if mx > x then mx else x) = z at HM2 HMO
              clear HM
              go_wp2_with (go_at_call 62; (with_reducible refine (HMO.out _).mono ?_); rintro e w' ⟨rfl, ⟨nd3, rfl⟩⟩)
              go_roundg (c.length - (j + 1))
              case measure => omega
              case rel => exact ⟨j + 1, z, rfl, rfl, ⟨by omega⟩, HM2, ⟨by (with_reducible repeat (first | apply Kd.R_alloc | apply Kd.R_drewN | apply Kd.R_drew)); exact HO.out⟩, ⟨by repeat (first | exact HB2.out | apply below_alloc | apply pw_below_drewN | apply below_drew1)⟩⟩
            · have hmy : Aside0 (mx = y) := ⟨by have := HM.out; rw [List.drop_eq_nil_of_le (by omega)] at this; exact this⟩
              have hjm : decide ((j : Int) < (c.length : Int)) = false := by simp; omega
              have HB := Aside0.mk (below_step HBO.out HB2.out)
              have hyy := hmy.out
              subst hyy
              clear HM hmy
              go_wp2_with ((with_reducible refine gate_builtin (b := .append) (xs := #[.tmp 44, .tmp 46]) rfl ?_); at_builtin; refine Kd.R_append (Kd.int .i64) (w0 := w) w.heap.size rfl (.tmp 44) (.tmp 46) 24 3 (.int .i64 0) 8 rfl Try.underlying24 HClone.info_int rfl (by decide) (by omega) u6 acc mx [.int .i64 mx] (fun _ => True) (fun _ => False) rfl rfl ?aP (fun _ hk => hk.elim) (fun _ _ => trivial) ?aO ?aB ?aS ?aL ?_; (case aP => exact rfl); (case aO => exact HO.out); (case aB => exact HB.out); (case aS => exact HB.out.size); (case aL => omega); intro v7 w7 ho hb hg hat; have HOn := Aside0.mk ho; have HBn := Aside0.mk hb; clear ho hb hg hat HO HB; have HO := HOn; have HB := HBn; clear HOn HBn)
              have hi := HI0.out
              go_roundg (l.length + 1 - (k + 1))
              case measure => omega
              case rel => exact ⟨k + 1, acc ++ [mx], rfl, ⟨by omega⟩, ⟨by simp; omega⟩, HE2, HO, HB⟩
        · have HE2 : Aside0 (acc = T) := ⟨by have := HE.out; rw [show l.length + 1 - m - k = 0 by omega, winL, List.append_nil] at this; exact this⟩
          clear HE
          have hle : decide ((k : Int) + (m : Int) ≤ (l.length : Int)) = false := by simp; omega
          go_wp2_with fail
          go_ret2
          exact ⟨_, rfl, by rw [Option.getD_some, ← HE2.out]; exact HO.out, (by repeat (first | (with_reducible first | exact HB.out | apply below_alloc | apply pw_below_drewN | apply below_drew1) | exact HB.out))⟩
    · rw [if_neg (fun z => h1 z.2)]
      have H1 := Aside0.mk (fun W => sin_is e0 1 (l.length : Int) false (decide_eq_false h1) W)
      clear h0 hg h1
      go_enter Try.func30, Try.ntmps30
      go_wp2_with (first | (go_at_call 56; refine HG.out.mono ?_; rintro e w' ⟨rfl, ⟨nd, rfl⟩⟩) | (go_at_call 69; (with_reducible refine (H1.out _).mono ?_); rintro e w' ⟨rfl, ⟨nd2, rfl⟩⟩))
      go_ret2
      exact ⟨_, rfl, Kd.R_nil _ _ _ _ _, (by repeat (first | (with_reducible first | exact HB.out | apply below_alloc | apply pw_below_drewN | apply below_drew1) | exact HB.out))⟩
end Go.Proofs.Ytleacijhpkogpad.HTW
/- The nearest taller one to the right: contracts over the printed walk of spec.NextTaller, the walks of impl.NextTaller and its closure. -/
namespace Go.Proofs.Ytleacijhpkogpad.HNext
open Go.RowKit Go.Proofs.YtleacijhpkogpadW.PrintWords Go.Proofs.YtleacijhpkogpadW.PrintLast Go.Proofs.YtleacijhpkogpadW.PrintMore Go.Proofs.Ytleacijhpkogpad.HImpl Go.Proofs.Ytleacijhpkogpad.HSpecG Go.Proofs.Ytleacijhpkogpad.PFnHeightsSeen
set_option linter.unusedVariables false
set_option linter.unusedSimpArgs false

/-- The nearest one to the right who is taller than the one at a place; -1 if there is none. -/
def ntAt (l : List Int) (i : Nat) : Int :=
  if 0 ≤ idxF (fun o => decide (rd l (i : Int) < o)) (l.drop i) 0 then wrap64 (idxF (fun o => decide (rd l (i : Int) < o)) (l.drop i) 0 + (i : Int)) else idxF (fun o => decide (rd l (i : Int) < o)) (l.drop i) 0
def ntR (l : List Int) (n : Nat) : List Int := (List.range n).map (ntAt l)
theorem ntR_succ (l : List Int) (n : Nat) : ntR l (n + 1) = ntR l n ++ [ntAt l n] := by simp [ntR, List.range_succ]
theorem ntR_len (l : List Int) (n : Nat) : (ntR l n).length = n := by simp [ntR]
theorem idxF_shift (p : Int → Bool) : ∀ (t : List Int) (a c : Int), 0 ≤ a → idxF p t (a + c) = if 0 ≤ idxF p t a then idxF p t a + c else idxF p t a
  | [], a, c, h => by simp [idxF]
  | x :: xs, a, c, h => by
    by_cases hx : p x = true
    · have e : ∀ b, idxF p (x :: xs) b = b := fun b => by simp [idxF, hx]
      rw [e, e, if_pos h]
    · have e : ∀ b, idxF p (x :: xs) b = idxF p xs (b + 1) := fun b => by simp [idxF, hx]
      rw [e, e, show a + c + 1 = (a + 1) + c by omega]
      exact idxF_shift p xs (a + 1) c (by omega)
theorem idxF_le (p : Int → Bool) : ∀ (t : List Int) (a : Int), 0 ≤ a → idxF p t a ≤ a + (t.length : Int) ∧ -1 ≤ idxF p t a
  | [], a, h => by simp [idxF]; omega
  | x :: xs, a, h => by
    by_cases hx : p x = true
    · have e : idxF p (x :: xs) a = a := by simp [idxF, hx]
      rw [e]; simp; omega
    · have e : idxF p (x :: xs) a = idxF p xs (a + 1) := by simp [idxF, hx]
      have := idxF_le p xs (a + 1) (by omega)
      rw [e]; simp; omega
theorem ntAt_eq (l : List Int) (hl : l.length ≤ 1048576) (i : Nat) (hi : i < l.length) :
    ntAt l i = idxF (fun o => decide (rd l (i : Int) < o)) (l.drop (i + 1)) ((i + 1 : Nat) : Int) := by
  have hs := idxF_shift (fun o => decide (rd l (i : Int) < o)) (l.drop i) 0 (i : Int) (by omega)
  have hb := idxF_le (fun o => decide (rd l (i : Int) < o)) (l.drop i) 0 (by omega)
  rw [List.length_drop] at hb
  have e : idxF (fun o => decide (rd l (i : Int) < o)) (l.drop (i + 1)) ((i + 1 : Nat) : Int) = idxF (fun o => decide (rd l (i : Int) < o)) (l.drop i) (0 + (i : Int)) := by
    rw [drop_cons l i hi]
    simp [idxF]
  rw [e, hs]
  unfold ntAt
  split
  · unfold wrap64; omega
  · rfl
theorem next_found (l out : List Int) (ho : out.length ≤ 1048576) (i : Nat) (hi : i ≤ 1048576) (h : Int) (R : List Int × Bool) (x : Int) (hx : 0 ≤ x) (j : Int)
    (hev : Ev (fun k => spec_NextTaller.l0 k l (out ++ [x]) l (l.length : Int) ((i + 1 : Nat) : Int)) R) :
    Ev (fun k => spec_NextTaller.l1 k l out h x j l (l.length : Int) (i : Int)) R := by
  have h2 : Ev (fun k => spec_NextTaller.j2 k l out h x j l (l.length : Int) (i : Int) false) R := by
    refine Ev.step (fun k => ?_) hev
    simp only [spec_NextTaller.j2]
    rw [if_neg (by simp), if_pos (by omega), w1 i (by omega)]
  refine Ev.step (fun k => ?_) h2
  simp only [spec_NextTaller.l1]
  rw [decide_eq_false (show ¬ x < 0 by omega)]
  split <;> rfl
theorem next_in (l : List Int) (hl : l.length ≤ 1048576) (out : List Int) (ho : out.length ≤ 1048576) (i : Nat) (hi : i ≤ 1048576) (h : Int) (R : List Int × Bool) : ∀ (d j : Nat), j + d = l.length →
    Ev (fun k => spec_NextTaller.l0 k l (out ++ [idxF (fun o => decide (h < o)) (l.drop j) (j : Int)]) l (l.length : Int) ((i + 1 : Nat) : Int)) R →
    Ev (fun k => spec_NextTaller.l1 k l out h (-1) (j : Int) l (l.length : Int) (i : Int)) R := by
  intro d
  induction d with
  | zero =>
    intro j hj hev
    rw [List.drop_eq_nil_of_le (by omega)] at hev
    have h2 : Ev (fun k => spec_NextTaller.j2 k l out h (-1) (j : Int) l (l.length : Int) (i : Int) false) R := by
      refine Ev.step (fun k => ?_) hev
      simp only [spec_NextTaller.j2, idxF]
      rw [if_neg (by simp), if_pos (by omega), w1 i (by omega)]
    refine Ev.step (fun k => ?_) h2
    simp only [spec_NextTaller.l1]
    rw [if_neg (by omega)]
  | succ d ih =>
    intro j hj hev
    have hlt : j < l.length := by omega
    have h3 : Ev (fun k => spec_NextTaller.j2 k l out h (-1) (j : Int) l (l.length : Int) (i : Int) true) R := by
      rw [drop_cons l j hlt] at hev
      by_cases c : rd l (j : Int) > h
      · have e : idxF (fun o => decide (h < o)) (rd l (j : Int) :: l.drop (j + 1)) (j : Int) = (j : Int) := by
          have c' : h < rd l (j : Int) := c
          simp [idxF, c']
        rw [e] at hev
        refine Ev.step (fun k => ?_) (next_found l out ho i hi h R (j : Int) (by omega) ((j + 1 : Nat) : Int) hev)
        simp only [spec_NextTaller.j2, if_true]
        rw [if_pos (by omega), if_pos (by omega), if_pos c, w1 j (by omega)]
      · have e : idxF (fun o => decide (h < o)) (rd l (j : Int) :: l.drop (j + 1)) (j : Int) = idxF (fun o => decide (h < o)) (l.drop (j + 1)) ((j + 1 : Nat) : Int) := by
          have c' : ¬ h < rd l (j : Int) := c
          simp [idxF, c']
        rw [e] at hev
        refine Ev.step (fun k => ?_) (ih (j + 1) (by omega) hev)
        simp only [spec_NextTaller.j2, if_true]
        rw [if_pos (by omega), if_pos (by omega), if_neg c, w1 j (by omega)]
    refine Ev.step (fun k => ?_) h3
    simp only [spec_NextTaller.l1]
    rw [if_pos (by omega)]
    rfl
theorem next_out (l : List Int) (hl : l.length ≤ 1048576) : ∀ (d i : Nat), i + d = l.length →
    Ev (fun k => spec_NextTaller.l0 k l (ntR l i) l (l.length : Int) (i : Int)) (ntR l l.length, true) := by
  intro d
  induction d with
  | zero =>
    intro i hi
    refine Ev.step (f := fun _ => some (ntR l i, true)) (fun k => ?_) ?_
    · simp only [spec_NextTaller.l0]
      rw [if_neg (by omega)]
    · rw [show i = l.length by omega]
      exact Ev.now _
  | succ d ih =>
    intro i hi
    have hlt : i < l.length := by omega
    have hr := ih (i + 1) (by omega)
    rw [ntR_succ, ntAt_eq l hl i hlt] at hr
    refine Ev.step (fun k => ?_) (next_in l hl (ntR l i) (by rw [ntR_len]; omega) i (by omega) (rd l (i : Int)) _ (l.length - (i + 1)) (i + 1) (by omega) hr)
    simp only [spec_NextTaller.l0]
    rw [if_pos (by omega), if_pos (by omega), if_pos (by omega), w1 i (by omega)]
theorem spec_calls (A0 : Option Addr) (c0 : Nat) (l : List Int) (hl : l.length ≤ 1048576) (w : World) (h0 : Kd.C (Kd.int .i64) w A0 l.length l) (hc0 : l.length ≤ c0) :
    Calls Try.prog 12 #[.slice A0 l.length c0] w fun e w' => ∃ v : Value, e = .returned (.tuple #[v, .bool (good l)]) ∧ Kd.R (Kd.int .i64) 3 w' w.heap.size (fun _ => True) v (if good l = true then ntR l l.length else []) ∧ Below w.heap.size w w' := by
  have h : Ev (fun k => spec_NextTaller.f k l) (if good l = true then ntR l l.length else [], good l) := by
    refine Ev.bind (good_ev l hl) ?_
    cases hg : good l with
    | true =>
      simp only [if_true]
      exact next_out l hl l.length 0 (by omega)
    | false => exact Ev.now _
  obtain ⟨k, hk⟩ := h.rounds
  exact spec_NextTaller.calls k A0 c0 l _ _ w h0 hc0 hk
/-! ### the program -/
set_option maxHeartbeats 8000000 in
theorem taller_1_calls (B : Nat) (h x : Int) (w : World) (hc : w.cell? ⟨B, 0, none⟩ = some (.int .i64 h)) :
    Calls Try.prog 60 (#[.int .i64 x] ++ #[.pointer (some ⟨B, 0, none⟩)]) w fun e w' => e = .returned (.bool (decide (h < x))) ∧ ∃ q', w' = w.drewN q' := by
  show Calls Try.prog 60 #[.int .i64 x, .pointer (some ⟨B, 0, none⟩)] w _
  go_enter Try.func60, Try.ntmps60
  go_wp2
  go_ret
  exact ⟨rfl, 0, rfl⟩
theorem taller_index (A0 : Option Addr) (c0 n : Nat) (l : List Int) (hn : l.length = n) (hl : n ≤ 4611686018427387904) (h v : Int) (hv : idxF (fun o => decide (h < o)) l 0 = v) (B : Nat) (w : World) (hc : w.cell? ⟨B, 0, none⟩ = some (.int .i64 h)) (hr : Kd.C (Kd.int .i64) w A0 n l) :
    Calls Try.prog 59 #[.slice A0 n c0, .func (.func 60) #[] #[.pointer (some ⟨B, 0, none⟩)]] w fun e w' => e = .returned (.int .i64 v) ∧ Below w.heap.size w w' := by
  subst hn hv
  exact (indexFunc_calls (fun o => decide (h < o)) 60 #[.pointer (some ⟨B, 0, none⟩)] (enters_ (P := Try.prog) Try.func60 (by kernel_rfl) rfl) A0 c0 l w hr hl
    (fun x q => taller_1_calls B h x (w.drewN q) (by simpa using hc))).mono fun e W' h => ⟨h.1, h.2.below⟩
set_option maxHeartbeats 8000000 in
set_option maxRecDepth 100000 in
theorem impl_no (A0 : Option Addr) (c0 : Nat) (l : List Int) (hg : good l = false) (w : World) (h0 : Kd.C (Kd.int .i64) w A0 l.length l) (hc0 : l.length ≤ c0) :
    Calls Try.prog 11 #[.slice A0 l.length c0] w fun e w' => ∃ v : Value, e = .returned (.tuple #[v, .bool false]) ∧ Kd.R (Kd.int .i64) 3 w' w.heap.size (fun _ => True) v [] ∧ Below w.heap.size w w' := by
  have HA := Aside0.mk (are_is A0 c0 l false hg w h0 hc0)
  have HB := Aside0.mk (Below.refl w.heap.size w)
  clear hg h0
  go_enter Try.func11, Try.ntmps11
  go_wp2_with (go_at_call 53; refine HA.out.mono ?_; rintro e w' ⟨rfl, ⟨nd, rfl⟩⟩)
  go_ret2
  exact ⟨_, rfl, Kd.R_nil _ _ _ _ _, (by repeat (first | (with_reducible first | exact HB.out | apply below_alloc | apply pw_below_drewN | apply below_drew1) | exact HB.out))⟩
set_option maxHeartbeats 8000000 in
set_option maxRecDepth 100000 in
theorem impl_yes (A0 : Option Addr) (c0 : Nat) (l : List Int) (hg : good l = true) (w : World) (h0 : Kd.C (Kd.int .i64) w A0 l.length l) (hc0 : l.length ≤ c0) :
    Calls Try.prog 11 #[.slice A0 l.length c0] w fun e w' => ∃ v : Value, e = .returned (.tuple #[v, .bool true]) ∧ Kd.R (Kd.int .i64) 3 w' w.heap.size (fun _ => True) v (ntR l l.length) ∧ Below w.heap.size w w' := by
  have HA := Aside0.mk (are_is A0 c0 l true hg w h0 hc0)
  have HB := Aside0.mk (Below.refl w.heap.size w)
  obtain ⟨hl1, hl2⟩ := good_len hg
  have HC := Aside0.mk h0
  have HC0 := Aside0.mk hc0
  have HT : Aside0 (ntR l l.length = ntR l l.length) := ⟨rfl⟩
  have hmf : ∀ (fn : Fn) (first cap : Array Value) (w : World), (Instr.makeFunc fn first cap).run Try.prog w = .ok (.func fn first cap) w := fun _ _ _ _ => rfl
  clear hg h0
  go_enter Try.func11, Try.ntmps11
  go_wp2_with (first | (go_at_call 53; refine HA.out.mono ?_; rintro e w' ⟨rfl, ⟨nd, rfl⟩⟩) | ((with_reducible refine gate_dst (N := 11) rfl ?_); refine Kd.R_lit (Kd.int .i64) (w0 := w) w.heap.size 3 ?hg (N := 11) ?hd (xs := ([] : List Int)) (inner := []) (ok := fun _ => True) (okp := fun _ => True) ?hr ?hp (fun _ hk => hk) trivial (by repeat (first | (with_reducible first | exact HB.out | apply below_alloc | apply pw_below_drewN | apply below_drew1) | exact HB.out)) (below_size (by repeat (first | (with_reducible first | exact HB.out | apply below_alloc | apply pw_below_drewN | apply below_drew1) | exact HB.out))) (by simp) ?_; (case hd => rfl); (case hg => rfl); (case hr => first | (go_simp; done) | (go_simp; rfl)); (case hp => exact (Reps.none _ _)); intro v1 w1 ho hb hg hnew; have HO := Aside0.mk ho; have HBn := Aside0.mk hb; clear ho hb hg hnew HB; have HB := HBn; clear HBn))
  go_loopg [4, 14] l.length (fun kq v4 v14 w' => ∃ (i : Nat) (acc : List Int), v14 = .int .i64 (i : Int) ∧ Aside0 (kq + i = l.length) ∧ Aside0 (acc = ntR l i) ∧ Aside0 (Kd.R (Kd.int .i64) 3 w' w.heap.size (fun _ => True) v4 acc) ∧ Aside0 (Below w.heap.size w w'))
  case atStart => exact ⟨0, [], rfl, ⟨rfl⟩, ⟨rfl⟩, HO, HB⟩
  case round =>
    clear HO HB HA HT
    obtain ⟨i, acc, rfl, HK, HACC, HO, HB⟩ := hrel
    have hk := HK.out
    by_cases hi : i < l.length
    · obtain ⟨ad, e, hci⟩ := Kd.at_int HC.out (i : Int) (by omega) (by omega)
      cases e
      rw [Int.toNat_natCast] at hci
      replace hci := pw_cell_below HB.out hci
      obtain ⟨i010, hi010, _, hsz10, _⟩ := info_parts HClone.info_int
      obtain ⟨A10, hcut10, hA10, hC10⟩ := print_drop_of (P := Try.prog) (Value.int .i64) 0 24 3 .i64 Try.underlying24 hi010 hsz10 (some ad) c0 l (i : Int) (by omega) (by omega) HC0.out
      have HR0 := Aside0.mk (show Kd.C (Kd.int .i64) wr A10 (l.drop ((i : Int)).toNat).length (l.drop ((i : Int)).toNat) from Kd.C_of_reads (h1 := fun _ => rfl) (hA10 _ (Kd.reads_of_C (Kd.C_below HC.out HB.out))))
      have HR10 := Aside0.mk (show Kd.C (Kd.int .i64) wr A10 (l.length - i) (l.drop i) from by have h9 := HR0.out; rw [Int.toNat_natCast, List.length_drop] at h9; exact h9)
      rw [Int.toNat_natCast, List.length_drop] at hcut10
      clear hA10 hC10 hi010 hsz10 HR0
      have HN := Aside0.mk (ntR_succ l i)
      have HAT : Aside0 (ntAt l i = if 0 ≤ idxF (fun o => decide (rd l (i : Int) < o)) (l.drop i) 0 then wrap64 (idxF (fun o => decide (rd l (i : Int) < o)) (l.drop i) 0 + (i : Int)) else idxF (fun o => decide (rd l (i : Int) < o)) (l.drop i) 0) := ⟨rfl⟩
      have HAL : Aside0 (acc.length = i) := ⟨by rw [HACC.out, ntR_len]⟩
      have HIX := Aside0.mk (fun (h : Int) (q : Int) (hv : idxF (fun o => decide (h < o)) (l.drop i) 0 = q) (B : Nat) (W : World) hc hr => taller_index A10 (c0 - i) (l.length - i) (l.drop i) (by rw [List.length_drop]) (by omega) h q hv B W hc hr)
      obtain ⟨h, hh⟩ : ∃ h : Int, rd l (i : Int) = h := ⟨_, rfl⟩
      rw [hh] at hci HAT
      clear hh
      obtain ⟨q, hq⟩ : ∃ q, idxF (fun o => decide (h < o)) (l.drop i) 0 = q := ⟨_, rfl⟩
      rw [hq] at HAT
      have HX := Aside0.mk (fun B W hc hr => HIX.out h q hq B W hc hr)
      clear HIX hq
      go_wp2_with fail
      refine (HX.out _ _ ?_ ?_).mono ?_
      · first | (go_simp; done) | simp
      · repeat (first | exact HR10.out | (with_reducible refine Kd.C_alloc ?_ _) | (with_reducible refine Kd.C_drewN ?_ _) | (with_reducible refine Kd.C_drew ?_) | (refine Kd.C_below HR10.out ?_; exact (by repeat (first | exact Below.refl _ _ | apply below_alloc | apply pw_below_drewN | apply below_drew1))))
      rintro e w3 ⟨rfl, hb⟩
      have HOn : Aside0 (Kd.R (Kd.int .i64) 3 w3 w.heap.size (fun _ => True) u4 acc) := ⟨Kd.R_below (by (with_reducible repeat (first | apply Kd.R_alloc | apply Kd.R_drewN | apply Kd.R_drew | (refine Kd.R_setCell_new ?_ _ _))); exact HO.out) hb⟩
      have HBn := Aside0.mk (below_step (by repeat (first | (with_reducible first | exact HB.out | apply below_alloc | apply pw_below_drewN | apply below_drew1) | exact HB.out)) hb)
      clear hb HO HB HX HR10
      have HO := HOn
      have HB := HBn
      clear HOn HBn
      have hal := HAL.out
      by_cases c : 0 ≤ q
      · have HN2 : Aside0 (ntR l (i + 1) = acc ++ [wrap64 (q + (i : Int))]) := ⟨by rw [HN.out, HAT.out, if_pos c, HACC.out]⟩
        generalize hz : wrap64 (q + (i : Int)) = z at HN2
        have hzw : IntKind.i64.wrap (q + (i : Int)) = z := (i64_w _).trans hz
        clear hz
        go_wp2_with ((with_reducible refine gate_builtin (b := .append) (xs := #[.tmp 29, .tmp 31]) rfl ?_); at_builtin; refine Kd.R_append (Kd.int .i64) (w0 := w) w.heap.size rfl (.tmp 29) (.tmp 31) 24 3 (.int .i64 0) 8 rfl Try.underlying24 HClone.info_int rfl (by decide) (by omega) u4 acc z [.int .i64 z] (fun _ => True) (fun _ => False) rfl rfl ?aP (fun _ hk => hk.elim) (fun _ _ => trivial) ?aO ?aB ?aS ?aL ?_; (case aP => exact rfl); (case aO => exact HO.out); (case aB => exact HB.out); (case aS => exact HB.out.size); (case aL => omega); intro v7 w7 ho hb hg hat; have HOn := Aside0.mk ho; have HBn := Aside0.mk hb; clear ho hb hg hat HO HB; have HO := HOn; have HB := HBn; clear HOn HBn)
        go_roundg (l.length - (i + 1))
        case measure => omega
        case rel => exact ⟨i + 1, acc ++ [z], rfl, ⟨by omega⟩, ⟨HN2.out.symm⟩, HO, HB⟩
      · have HN2 : Aside0 (ntR l (i + 1) = acc ++ [q]) := ⟨by rw [HN.out, HAT.out, if_neg c, HACC.out]⟩
        go_wp2_with ((with_reducible refine gate_builtin (b := .append) (xs := #[.tmp 29, .tmp 31]) rfl ?_); at_builtin; refine Kd.R_append (Kd.int .i64) (w0 := w) w.heap.size rfl (.tmp 29) (.tmp 31) 24 3 (.int .i64 0) 8 rfl Try.underlying24 HClone.info_int rfl (by decide) (by omega) u4 acc q [.int .i64 q] (fun _ => True) (fun _ => False) rfl rfl ?aP (fun _ hk => hk.elim) (fun _ _ => trivial) ?aO ?aB ?aS ?aL ?_; (case aP => exact rfl); (case aO => exact HO.out); (case aB => exact HB.out); (case aS => exact HB.out.size); (case aL => omega); intro v7 w7 ho hb hg hat; have HOn := Aside0.mk ho; have HBn := Aside0.mk hb; clear ho hb hg hat HO HB; have HO := HOn; have HB := HBn; clear HOn HBn)
        go_roundg (l.length - (i + 1))
        case measure => omega
        case rel => exact ⟨i + 1, acc ++ [q], rfl, ⟨by omega⟩, ⟨HN2.out.symm⟩, HO, HB⟩
    · have hjj : i = l.length := by omega
      go_wp2_with fail
      go_ret2
      exact ⟨_, rfl, by rw [← hjj, ← HACC.out]; exact HO.out, (by repeat (first | (with_reducible first | exact HB.out | apply below_alloc | apply pw_below_drewN | apply below_drew1) | exact HB.out))⟩
end Go.Proofs.Ytleacijhpkogpad.HNext
/- Pairs who see each other: a contract over the printed walk of spec.PairsSeeing, the walk of impl.PairsSeeing. -/
namespace Go.Proofs.Ytleacijhpkogpad.HPairs
open Go.RowKit Go.Proofs.YtleacijhpkogpadW.PrintWords Go.Proofs.YtleacijhpkogpadW.PrintLast Go.Proofs.YtleacijhpkogpadW.PrintMore Go.Proofs.Ytleacijhpkogpad.PFnHeightsSeen Go.Proofs.Ytleacijhpkogpad.HImpl Go.Proofs.Ytleacijhpkogpad.HSpecG
set_option linter.unusedVariables false
set_option linter.unusedSimpArgs false
attribute [local go_sem] max2_int max_two

/-- The pairs of soldier i (of height h) with those from j on, m being the greatest height between. -/
def prJ (h : Int) (i : Nat) : List Int → Nat → Int → List (List Int)
  | [], _, _ => []
  | x :: t, j, m => (if m < h ∧ m < x then [[(i : Int), (j : Int)]] else []) ++ prJ h i t (j + 1) (if m < x then x else m)
def prI (l : List Int) : Nat → Nat → List (List Int)
  | 0, _ => []
  | d + 1, i => prJ (rd l (i : Int)) i (l.drop (i + 1)) (i + 1) 0 ++ prI l d (i + 1)
def pairsL (l : List Int) : List (List Int) := prI l l.length 0
theorem prJ_done (h : Int) (i : Nat) : ∀ (t : List Int) (j : Nat) (m : Int), h ≤ m → prJ h i t j m = []
  | [], _, _, _ => rfl
  | x :: t, j, m, hm => by
    rw [prJ, if_neg (by omega), prJ_done h i t (j + 1) _ (by split <;> omega)]; rfl
theorem prJ_len (h : Int) (i : Nat) : ∀ (t : List Int) (j : Nat) (m : Int), (prJ h i t j m).length ≤ t.length
  | [], _, _ => Nat.le_refl _
  | x :: t, j, m => by
    have := prJ_len h i t (j + 1) (if m < x then x else m)
    rw [prJ, List.length_append]
    split <;> simp <;> omega
theorem prI_len (l : List Int) : ∀ d i, (prI l d i).length ≤ d * l.length
  | 0, _ => by simp [prI]
  | d + 1, i => by
    have h1 := prI_len l d (i + 1)
    have h2 := prJ_len (rd l (i : Int)) i (l.drop (i + 1)) (i + 1) 0
    rw [List.length_drop] at h2
    have e : (d + 1) * l.length = d * l.length + l.length := Nat.succ_mul _ _
    rw [prI, List.length_append, e]; omega
/-! ### the reference -/
theorem spec_inner (l : List Int) (hl : l.length ≤ 40) (i : Nat) (hi : i ≤ 40) (h : Int) (R : List (List Int)) (B : Nat) (hB : B ≤ 1000000)
    (hnext : ∀ acc : List (List Int), acc.length ≤ B → Ev (fun k => spec_PairsSeeing.l0 k l acc l (l.length : Int) ((i + 1 : Nat) : Int)) (acc ++ R, true)) :
    ∀ (d j : Nat) (m : Int) (acc : List (List Int)), j + d = l.length → acc.length + d ≤ B →
    Ev (fun k => spec_PairsSeeing.l1 k l acc (i : Int) h m (j : Int) l (l.length : Int) (i : Int)) (acc ++ (prJ h i (l.drop j) j m ++ R), true) := by
  intro d
  induction d with
  | zero =>
    intro j m acc hj ha
    rw [List.drop_eq_nil_of_le (by omega), prJ, List.nil_append]
    refine Ev.step (fun k => ?_) (hnext acc (by omega))
    rw [spec_PairsSeeing.l1, if_neg (by omega), w1 i (by omega)]
  | succ d ih =>
    intro j m acc hj ha
    have hlt : j < l.length := by omega
    rw [drop_cons l j hlt, prJ]
    generalize hx : rd l (j : Int) = x
    have hmx : spec_l1Most.f m x = some (if m < x then x else m) := by
      unfold spec_l1Most.f
      by_cases c : m < x
      · rw [if_neg (by omega), if_pos c]
      · by_cases c2 : m > x
        · rw [if_pos c2, if_neg c]
        · rw [if_neg c2, if_neg c, show x = m by omega]
    have hle : spec_l1Least.f h x = some (if h < x then h else x) := by
      unfold spec_l1Least.f
      split <;> rfl
    by_cases c : m < h ∧ m < x
    · have hr := ih (j + 1) (if m < x then x else m) (acc ++ [[(i : Int), (j : Int)]]) (by omega) (by simp; omega)
      rw [List.append_assoc] at hr
      rw [if_pos c, List.append_assoc]
      refine Ev.step (fun k => ?_) hr
      rw [spec_PairsSeeing.l1, if_pos (by omega), if_pos (by omega), hx, hle]
      simp only [Option.bind_some]
      rw [if_pos (show m < (if h < x then h else x) by split <;> omega), if_pos (by omega), hmx]
      simp only [Option.bind_some]
      rw [w1 j (by omega)]
    · have hr := ih (j + 1) (if m < x then x else m) acc (by omega) (by omega)
      rw [if_neg c, List.nil_append]
      refine Ev.step (fun k => ?_) hr
      rw [spec_PairsSeeing.l1, if_pos (by omega), if_pos (by omega), hx, hle]
      simp only [Option.bind_some]
      rw [if_neg (show ¬ m < (if h < x then h else x) by split <;> omega), hmx]
      simp only [Option.bind_some]
      rw [w1 j (by omega)]
theorem spec_outer (l : List Int) (hl : l.length ≤ 40) : ∀ (d i : Nat) (acc : List (List Int)), i + d = l.length → acc.length + d * 40 ≤ 1000000 →
    Ev (fun k => spec_PairsSeeing.l0 k l acc l (l.length : Int) (i : Int)) (acc ++ prI l d i, true) := by
  intro d
  induction d with
  | zero =>
    intro i acc hi ha
    rw [prI, List.append_nil]
    refine Ev.step (f := fun _ => some (acc, true)) (fun k => ?_) (Ev.now _)
    rw [spec_PairsSeeing.l0, if_neg (by omega)]
  | succ d ih =>
    intro i acc hi ha
    have h1 := spec_inner l hl i (by omega) (rd l (i : Int)) (prI l d (i + 1)) (1000000 - d * 40) (by omega) (fun acc2 h2 => ih (i + 1) acc2 (by omega) (by omega)) (l.length - (i + 1)) (i + 1) 0 acc (by omega) (by omega)
    rw [prI]
    refine Ev.step (fun k => ?_) h1
    rw [spec_PairsSeeing.l0, if_pos (by omega), if_pos (by omega), if_pos (by omega), w1 i (by omega)]
theorem spec_calls (A0 : Option Addr) (c0 : Nat) (l : List Int) (hl : l.length ≤ 1048576) (w : World) (h0 : Kd.C (Kd.int .i64) w A0 l.length l) (hc0 : l.length ≤ c0) :
    Calls Try.prog 14 #[.slice A0 l.length c0] w fun e w' => ∃ v : Value, e = .returned (.tuple #[v, .bool (good l)]) ∧ Kd.S (Kd.slice 3 (Kd.int .i64)) 24 w' w.heap.size (fun _ => True) v (if good l = true then pairsL l else []) ∧ Below w.heap.size w w' := by
  have h : Ev (fun k => spec_PairsSeeing.f k l) (if good l = true then pairsL l else [], good l) := by
    refine Ev.bind (good_ev l hl) ?_
    cases hg : good l with
    | true =>
      have := good_len hg
      have h1 := spec_outer l this.2 l.length 0 [] (by omega) (by simp; omega)
      rw [List.nil_append] at h1
      simp only [if_true]
      exact h1
    | false => exact Ev.now _
  obtain ⟨k, hk⟩ := h.rounds
  exact spec_PairsSeeing.calls k A0 c0 l _ _ w h0 hc0 hk
/-! ### the program -/
theorem info_row : (Try.prog.info? 24).map (fun i => (i.zero, i.size, i.bytes)) = some (some (.slice none 0 0), 1, 24) := by kernel_rfl
set_option maxHeartbeats 8000000 in
set_option maxRecDepth 100000 in
theorem impl_no (A0 : Option Addr) (c0 : Nat) (l : List Int) (hg : good l = false) (w : World) (h0 : Kd.C (Kd.int .i64) w A0 l.length l) (hc0 : l.length ≤ c0) :
    Calls Try.prog 13 #[.slice A0 l.length c0] w fun e w' => ∃ v : Value, e = .returned (.tuple #[v, .bool false]) ∧ Kd.S (Kd.slice 3 (Kd.int .i64)) 24 w' w.heap.size (fun _ => True) v [] ∧ Below w.heap.size w w' := by
  have HA := Aside0.mk (are_is A0 c0 l false hg w h0 hc0)
  have HB := Aside0.mk (Below.refl w.heap.size w)
  clear hg h0
  go_enter Try.func13, Try.ntmps13
  go_wp2_with (go_at_call 53; refine HA.out.mono ?_; rintro e w' ⟨rfl, ⟨nd, rfl⟩⟩)
  go_ret2
  exact ⟨_, rfl, Kd.S_nil _ _ _ _ _, (by repeat (first | (with_reducible first | exact HB.out | apply below_alloc | apply pw_below_drewN | apply below_drew1) | exact HB.out))⟩
set_option maxHeartbeats 8000000 in
set_option maxRecDepth 100000 in
theorem impl_yes (A0 : Option Addr) (c0 : Nat) (l : List Int) (hg : good l = true) (w : World) (h0 : Kd.C (Kd.int .i64) w A0 l.length l) (hc0 : l.length ≤ c0) :
    Calls Try.prog 13 #[.slice A0 l.length c0] w fun e w' => ∃ v : Value, e = .returned (.tuple #[v, .bool true]) ∧ Kd.S (Kd.slice 3 (Kd.int .i64)) 24 w' w.heap.size (fun _ => True) v (pairsL l) ∧ Below w.heap.size w w' := by
  have HA := Aside0.mk (are_is A0 c0 l true hg w h0 hc0)
  have HB := Aside0.mk (Below.refl w.heap.size w)
  obtain ⟨hl1, hl2⟩ := good_len hg
  have HC := Aside0.mk h0
  have HPL : Aside0 (prI l l.length 0 = pairsL l) := ⟨rfl⟩
  clear hg h0
  go_enter Try.func13, Try.ntmps13
  go_wp2_with (first | (go_at_call 53; refine HA.out.mono ?_; rintro e w' ⟨rfl, ⟨nd, rfl⟩⟩) | ((with_reducible refine gate_dst (N := 11) rfl ?_); refine Kd.S_lit (Kd.slice 3 (Kd.int .i64)) (w0 := w) w.heap.size 24 ?hg (N := 11) ?hd (xs := ([] : List (List Int))) (inner := []) (ok := fun _ => True) (okp := fun _ => True) ?hr ?hp (fun _ hk => hk) trivial (by repeat (first | (with_reducible first | exact HB.out | apply below_alloc | apply pw_below_drewN | apply below_drew1) | exact HB.out)) (below_size (by repeat (first | (with_reducible first | exact HB.out | apply below_alloc | apply pw_below_drewN | apply below_drew1) | exact HB.out))) (by simp) ?_; (case hd => rfl); (case hg => rfl); (case hr => first | (go_simp; done) | (go_simp; rfl)); (case hp => exact (Reps.none _ _)); intro v1 w2 ho hb hg hnew; have HO := Aside0.mk ho; have HBn := Aside0.mk hb; clear ho hb hg hnew HB; have HB := HBn; clear HBn))
  go_loopg [4, 14] l.length (fun kq v4 v14 w' => ∃ (i : Nat) (acc : List (List Int)), v14 = .int .i64 (i : Int) ∧ Aside0 (kq + i = l.length) ∧ Aside0 (acc.length ≤ i * 40) ∧ Aside0 (acc ++ prI l (l.length - i) i = pairsL l) ∧ Aside0 (Kd.S (Kd.slice 3 (Kd.int .i64)) 24 w' w.heap.size (fun _ => True) v4 acc) ∧ Aside0 (Below w.heap.size w w'))
  case atStart => exact ⟨0, [], rfl, ⟨rfl⟩, ⟨by simp⟩, ⟨by rw [List.nil_append]; exact HPL.out⟩, HO, HB⟩
  case round =>
    clear HO HB HA HPL
    obtain ⟨i, acc, rfl, HK, HAL, HE, HO, HB⟩ := hrel
    by_cases hi : i < l.length
    · have HE1 : Aside0 (acc ++ (prJ (rd l (i : Int)) i (l.drop (i + 1)) (i + 1) 0 ++ prI l (l.length - (i + 1)) (i + 1)) = pairsL l) := ⟨by
        have := HE.out
        rw [show l.length - i = (l.length - (i + 1)) + 1 by omega, prI] at this
        exact this⟩
      generalize hh : rd l (i : Int) = h at HE1
      have HH := Aside0.mk hh
      clear hh HE
      obtain ⟨wo, hwo⟩ : ∃ wo : World, wo = wr := ⟨_, rfl⟩
      clear hwo
      go_wp2_with fail
      go_loopg [4, 6, 7] (l.length - (i + 1)) (fun kq2 v4 v6 v7 w' => ∃ (k : Nat) (m : Int) (acc2 : List (List Int)), v6 = .int .i64 m ∧ v7 = .int .i64 (k : Int) ∧ Aside0 (kq2 + k = l.length) ∧ Aside0 (acc2.length ≤ i * 40 + k) ∧ Aside0 (acc2 ++ (prJ h i (l.drop k) k m ++ prI l (l.length - (i + 1)) (i + 1)) = pairsL l) ∧ Aside0 (Kd.S (Kd.slice 3 (Kd.int .i64)) 24 w' w.heap.size (fun _ => True) v4 acc2) ∧ Aside0 (Below w.heap.size w w'))
      case atStart => exact ⟨i + 1, 0, acc, rfl, rfl, ⟨by omega⟩, ⟨by have := HAL.out; omega⟩, HE1, HO, HB⟩
      case round =>
        clear HE1 HO HB
        obtain ⟨k, m, acc2, rfl, rfl, HK2, HAL2, HE, HO, HB⟩ := hrel
        have fin : ∀ (hE : prJ h i (l.drop k) k m = []), acc2 ++ prI l (l.length - (i + 1)) (i + 1) = pairsL l := fun hE => by have := HE.out; rw [hE, List.nil_append] at this; exact this
        have FIN := Aside0.mk fin
        clear fin
        by_cases hk : k < l.length
        · obtain ⟨ad, e, hci⟩ := Kd.at_int HC.out (i : Int) (by omega) (by omega)
          cases e
          rw [HH.out, Int.toNat_natCast] at hci
          have HCI := Aside0.mk hci
          replace hci := pw_cell_below HB.out hci
          by_cases hm : m < h
          · obtain ⟨ad2, e, hck⟩ := Kd.at_int HC.out (k : Int) (by omega) (by omega)
            cases e
            rw [Int.toNat_natCast] at hck
            have HE2 : Aside0 (acc2 ++ ((if m < h ∧ m < rd l (k : Int) then [[(i : Int), (k : Int)]] else []) ++ prJ h i (l.drop (k + 1)) (k + 1) (if m < rd l (k : Int) then rd l (k : Int) else m) ++ prI l (l.length - (i + 1)) (i + 1)) = pairsL l) := ⟨by
              have := HE.out
              rw [drop_cons l k hk, prJ] at this
              exact this⟩
            generalize rd l (k : Int) = x at hck HE2
            have HCK := Aside0.mk hck
            replace hck := pw_cell_below HB.out hck
            clear HE FIN
            have hal := HAL2.out
            by_cases hx : m < x
            · have HE3 : Aside0 ((acc2 ++ [[(i : Int), (k : Int)]]) ++ (prJ h i (l.drop (k + 1)) (k + 1) x ++ prI l (l.length - (i + 1)) (i + 1)) = pairsL l) := ⟨by
                have := HE2.out
                rw [if_pos ⟨hm, hx⟩, if_pos hx] at this
                simpa [List.append_assoc] using this⟩
              go_wp2_with (first | ((with_reducible refine gate_dst (N := 42) rfl ?_); refine Kd.R_lit (Kd.int .i64) (w0 := wr) wr.heap.size 3 ?hg (N := 42) ?hd (xs := ([(i : Int), (k : Int)] : List Int)) (inner := [.int .i64 (i : Int), .int .i64 (k : Int)]) (ok := fun _ => True) (okp := fun _ => True) ?hr ?hp (fun _ hk => hk) trivial (Below.refl _ _) (Nat.le_refl _) (by simp) ?_; (case hd => rfl); (case hg => rfl); (case hr => first | (go_simp; done) | (go_simp; rfl)); (case hp => exact (Reps.one (show Kd.M (Kd.int .i64) _ _ _ (i : Int) [.int .i64 (i : Int)] from rfl) (Reps.one (show Kd.M (Kd.int .i64) _ _ _ (k : Int) [.int .i64 (k : Int)] from rfl) (Reps.none _ _)))); intro v9 w9 ho hb hg hnew; obtain ⟨A9, c9, rfl⟩ := Kd.R_slice ho; have HP9 := Aside0.mk (Kd.R_lower (Kd.R_mono (ok' := fun k => wr.heap.size ≤ k) (Kd.R_bound ho) (fun k hk => hk.2.1)) HB.out.size); have HLT := Aside0.mk (Kd.S_lt HO.out); have HO9 := Aside0.mk (Kd.S_mono (ok' := fun k => True ∧ ¬ wr.heap.size ≤ k) (Kd.S_old HO.out hb) (fun k hk => ⟨trivial, by have := hk.2; omega⟩)); have HB9 := Aside0.mk (below_step HB.out hb); clear ho hb hg hnew HO HB) | ((with_reducible refine gate_builtin (b := .append) (xs := #[.tmp 39, .tmp 43]) rfl ?_); at_builtin; refine Kd.S_append (Kd.slice 3 (Kd.int .i64)) (w0 := w) w.heap.size rfl (.tmp 39) (.tmp 43) 28 24 (.slice none 0 0) 24 rfl Try.underlying28 info_row rfl (by decide) (by omega) u4 acc2 [(i : Int), (k : Int)] [.slice A9 2 c9] (fun _ => True) (fun k => wr.heap.size ≤ k) rfl rfl ?aP ?aK (fun _ _ => trivial) ?aO ?aB ?aS ?aL ?_; (case aP => exact ⟨_, rfl, HP9.out⟩); (case aK => exact (fun k hk => ⟨trivial, fun e => by have := HLT.out k e.symm; omega⟩)); (case aO => exact HO9.out); (case aB => exact HB9.out); (case aS => exact HB9.out.size); (case aL => omega); intro v7 w7 ho hb hg hat; have HO := Aside0.mk ho; have HB := Aside0.mk hb; have hck7 := pw_cell_below hb HCK.out; clear ho hb hg hat))
              go_roundg (l.length - (k + 1))
              case measure => have := HK2.out; omega
              case rel => exact ⟨k + 1, x, acc2 ++ [[(i : Int), (k : Int)]], rfl, rfl, ⟨by have := HK2.out; omega⟩, ⟨by simp; omega⟩, HE3, HO, HB⟩
            · have HE3 : Aside0 (acc2 ++ (prJ h i (l.drop (k + 1)) (k + 1) m ++ prI l (l.length - (i + 1)) (i + 1)) = pairsL l) := ⟨by
                have := HE2.out
                rw [if_neg (fun z => hx z.2), if_neg hx, List.nil_append] at this
                exact this⟩
              go_wp2_with fail
              go_roundg (l.length - (k + 1))
              case measure => have := HK2.out; omega
              case rel => exact ⟨k + 1, m, acc2, rfl, rfl, ⟨by have := HK2.out; omega⟩, ⟨by omega⟩, HE3, HO, HB⟩
          · have HE3 : Aside0 (acc2 ++ prI l (l.length - (i + 1)) (i + 1) = pairsL l) := ⟨FIN.out (prJ_done h i _ _ _ (by omega))⟩
            have hal := HAL2.out
            clear FIN
            go_wp2_with fail
            go_roundg (l.length - (i + 1))
            case measure => have := HK.out; omega
            case rel => exact ⟨i + 1, acc2, rfl, ⟨by have := HK.out; omega⟩, ⟨by omega⟩, HE3, HO, HB⟩
        · have HE3 : Aside0 (acc2 ++ prI l (l.length - (i + 1)) (i + 1) = pairsL l) := ⟨FIN.out (by rw [List.drop_eq_nil_of_le (by omega)]; rfl)⟩
          have hal := HAL2.out
          have hk2 := HK2.out
          clear FIN
          go_wp2_with fail
          go_roundg (l.length - (i + 1))
          case measure => have := HK.out; omega
          case rel => exact ⟨i + 1, acc2, rfl, ⟨by have := HK.out; omega⟩, ⟨by omega⟩, HE3, HO, HB⟩
    · have hii : i = l.length := by have := HK.out; omega
      have HE3 : Aside0 (acc = pairsL l) := ⟨by have := HE.out; rw [hii, Nat.sub_self, prI, List.append_nil] at this; exact this⟩
      clear HE
      go_wp2_with fail
      go_ret2
      exact ⟨_, rfl, by rw [← HE3.out]; exact HO.out, (by repeat (first | (with_reducible first | exact HB.out | apply below_alloc | apply pw_below_drewN | apply below_drew1) | exact HB.out))⟩
end Go.Proofs.Ytleacijhpkogpad.HPairs
/- One soldier taller: the walk of impl.StepUp and of the law; the reference over its printed walk. -/
namespace Go.Proofs.Ytleacijhpkogpad.HStep
open Go.RowKit Go.Proofs.YtleacijhpkogpadW.PrintWords Go.Proofs.YtleacijhpkogpadW.PrintLast Go.Proofs.YtleacijhpkogpadW.PrintMore Go.Proofs.Ytleacijhpkogpad.PFnHeightsSeen Go.Proofs.Ytleacijhpkogpad.HImpl
set_option linter.unusedVariables false
set_option linter.unusedSimpArgs false

def stepOk (l : List Int) (a1 a2 : Int) : Prop := good l = true ∧ (0 ≤ a1 ∧ a1 < (l.length : Int)) ∧ 1 - rd l a1 ≤ a2 ∧ a2 ≤ 100 - rd l a1
instance (l : List Int) (a1 a2 : Int) : Decidable (stepOk l a1 a2) := by unfold stepOk; infer_instance
def stepT (l : List Int) (a1 a2 : Int) : Option (List Int) := if stepOk l a1 a2 then some (l.set a1.toNat (rd l a1 + a2)) else none
theorem good_rd {l : List Int} (h : good l = true) (i : Nat) (hi : i < l.length) : 1 ≤ rd l (i : Int) ∧ rd l (i : Int) ≤ 100 := by
  rw [HSpecG.rd_nat l i hi]
  exact good_mem h _ (List.getElem_mem hi)
theorem own_ev (l : List Int) (hl : l.length ≤ 1048576) : spec_l1Own.f l = some l := by
  unfold spec_l1Own.f
  simp only [Option.bind_some, List.length_nil, List.nil_append]
  rw [if_pos (by omega)]
theorem spec_ev (l : List Int) (hl : l.length ≤ 1048576) (a1 a2 : Int) : Ev (fun k => spec_StepUp.f k l a1 a2) ((stepT l a1 a2).getD [], (stepT l a1 a2).isSome) := by
  unfold stepT
  by_cases h : good l = true
  · have hlen := good_len h
    have hw : wrap64 ((l.length : Int) - 1) = (l.length : Int) - 1 := by unfold wrap64; omega
    have hown := own_ev l hl
    by_cases h1 : 0 ≤ a1
    · by_cases h2 : a1 ≤ (l.length : Int) - 1
      · have h2' : a1 < (l.length : Int) := by omega
        have hb : 1 ≤ rd l a1 ∧ rd l a1 ≤ 100 := by
          obtain ⟨i, rfl⟩ := Int.eq_ofNat_of_zero_le h1
          exact good_rd h i (by omega)
        by_cases hc : 1 - rd l a1 ≤ a2 ∧ a2 ≤ 100 - rd l a1
        · have e3 : wrap64 (rd l a1 + a2) = rd l a1 + a2 := by unfold wrap64; omega
          rw [if_pos (show stepOk l a1 a2 from ⟨h, ⟨h1, h2'⟩, hc⟩)]
          refine Ev.bind (HSpecGU.good_ev l hl) ?_
          simp only [h, if_true, spec_l1In.f, ge_iff_le, h1, hw, h2, h2', decide_true, Option.bind_some, e3, hown,
            show (-100 : Int) ≤ a2 by omega, show a2 ≤ 100 by omega, show 1 ≤ rd l a1 + a2 by omega, show rd l a1 + a2 ≤ 100 by omega]
          exact Ev.now _
        · rw [if_neg (fun z => hc z.2.2)]
          refine Ev.bind (HSpecGU.good_ev l hl) ?_
          by_cases c1 : (-100 : Int) ≤ a2
          · by_cases c2 : a2 ≤ 100
            · have e3 : wrap64 (rd l a1 + a2) = rd l a1 + a2 := by unfold wrap64; omega
              by_cases c3 : 1 ≤ rd l a1 + a2
              · have c4 : ¬ rd l a1 + a2 ≤ 100 := by omega
                simp only [h, if_true, spec_l1In.f, ge_iff_le, h1, hw, h2, h2', decide_true, Option.bind_some, e3, c1, c2, c3, c4, decide_false, Bool.false_eq_true, if_false]
                exact Ev.now _
              · simp only [h, if_true, spec_l1In.f, ge_iff_le, h1, hw, h2, h2', decide_true, Option.bind_some, e3, c1, c2, c3, Bool.false_eq_true, if_false]
                exact Ev.now _
            · simp only [h, if_true, spec_l1In.f, ge_iff_le, h1, hw, h2, decide_true, Option.bind_some, c1, c2, decide_false, Bool.false_eq_true, if_false]
              exact Ev.now _
          · simp only [h, if_true, spec_l1In.f, ge_iff_le, h1, hw, h2, decide_true, Option.bind_some, c1, Bool.false_eq_true, if_false]
            exact Ev.now _
      · rw [if_neg (fun z => h2 (by have := z.2.1.2; omega))]
        refine Ev.bind (HSpecGU.good_ev l hl) ?_
        simp only [h, if_true, spec_l1In.f, ge_iff_le, h1, hw, h2, Option.bind_some, decide_false, Bool.false_eq_true, if_false]
        exact Ev.now _
    · rw [if_neg (fun z => h1 z.2.1.1)]
      refine Ev.bind (HSpecGU.good_ev l hl) ?_
      simp only [h, if_true, spec_l1In.f, ge_iff_le, h1, Option.bind_some, Bool.false_eq_true, if_false]
      exact Ev.now _
  · rw [if_neg (fun z => h z.1)]
    refine Ev.bind (HSpecGU.good_ev l hl) ?_
    simp only [h, if_false]
    exact Ev.now _
theorem spec_calls (A0 : Option Addr) (c0 : Nat) (l : List Int) (e0 e1 : Int) (hl : l.length ≤ 1048576) (w : World) (h0 : Kd.C (Kd.int .i64) w A0 l.length l) (hc0 : l.length ≤ c0) :
    Calls Try.prog 27 #[.slice A0 l.length c0, .int .i64 e0, .int .i64 e1] w fun e w' => ∃ v : Value, e = .returned (.tuple #[v, .bool (stepT l e0 e1).isSome]) ∧ Kd.R (Kd.int .i64) 3 w' w.heap.size (fun _ => True) v ((stepT l e0 e1).getD []) ∧ Below w.heap.size w w' := by
  obtain ⟨k, hk⟩ := (spec_ev l hl e0 e1).rounds
  exact spec_StepUp.calls k A0 c0 l e0 e1 _ _ w h0 hc0 hk
theorem in_is (a lo hi : Int) (b : Bool) (hb : decide (lo ≤ a ∧ a ≤ hi) = b) (W : World) : Calls Try.prog 67 #[.int .i64 a, .int .i64 lo, .int .i64 hi] W fun e w' => e = .returned (.bool b) ∧ ∃ m, w' = W.drewN m := by
  refine (PFnHeightsSeen.impl_in.calls a lo hi b W ?_).mono (fun e w' h => ⟨h.1, by obtain ⟨m, hm⟩ := h.2; exact ⟨m, hm⟩⟩)
  subst hb
  unfold PFnHeightsSeen.impl_in.f
  by_cases h : lo ≤ a
  · rw [if_pos h]; simp [h]
  · rw [if_neg h]; simp [h]
set_option maxHeartbeats 8000000 in
set_option maxRecDepth 100000 in
theorem impl_calls (A0 : Option Addr) (c0 : Nat) (l : List Int) (e0 e1 : Int) (hl : l.length ≤ 1048576) (w : World) (h0 : Kd.C (Kd.int .i64) w A0 l.length l) (hc0 : l.length ≤ c0) :
    Calls Try.prog 26 #[.slice A0 l.length c0, .int .i64 e0, .int .i64 e1] w fun e w' => ∃ v : Value, e = .returned (.tuple #[v, .bool (stepT l e0 e1).isSome]) ∧ Kd.R (Kd.int .i64) 3 w' w.heap.size (fun _ => True) v ((stepT l e0 e1).getD []) ∧ Below w.heap.size w w' := by
  have HB := Aside0.mk (Below.refl w.heap.size w)
  have HC := Aside0.mk h0
  unfold stepT
  cases hg : good l with
  | false =>
    rw [if_neg (fun z => by have z1 := z.1; rw [hg] at z1; exact absurd z1 (by decide))]
    have HG := Aside0.mk (fun n => show Calls Try.prog 53 #[.slice A0 l.length c0] (w.drewN n) (fun e w' => e = .returned (.bool false) ∧ ∃ m, w' = (w.drewN n).drewN m) from (are_is A0 c0 l false hg _ (Kd.C_drewN h0 n) hc0).mono (fun e w' h => ⟨h.1, by obtain ⟨m, hm⟩ := h.2; exact ⟨m, hm⟩⟩))
    clear h0 hg
    go_enter Try.func26, Try.ntmps26
    go_wp2
    go_quiet ((go_at_call 53; with_reducible exact Calls.quiet_of (HG.out _)))
    go_wp2
    go_ret2
    exact ⟨_, rfl, Kd.R_nil _ _ _ _ _, (by repeat (first | (with_reducible first | exact HB.out | apply below_alloc | apply pw_below_drewN | apply below_drew1) | exact HB.out))⟩
  | true =>
    have HG := Aside0.mk (fun n => show Calls Try.prog 53 #[.slice A0 l.length c0] (w.drewN n) (fun e w' => e = .returned (.bool true) ∧ ∃ m, w' = (w.drewN n).drewN m) from (are_is A0 c0 l true hg _ (Kd.C_drewN h0 n) hc0).mono (fun e w' h => ⟨h.1, by obtain ⟨m, hm⟩ := h.2; exact ⟨m, hm⟩⟩))
    have hlen := good_len hg
    have hw : IntKind.i64.wrap ((l.length : Int) - 1) = (l.length : Int) - 1 := IntWalk.i64_in _ (by omega)
    by_cases h1 : 0 ≤ e0 ∧ e0 ≤ (l.length : Int) - 1
    · have hb : 1 ≤ rd l e0 ∧ rd l e0 ≤ 100 := by
        obtain ⟨i, rfl⟩ := Int.eq_ofNat_of_zero_le h1.1
        exact good_rd hg i (by omega)
      have H1 := Aside0.mk (fun n => in_is e0 0 ((l.length : Int) - 1) true (decide_eq_true h1) (w.drewN n))
      obtain ⟨ad, ead, hx⟩ := Kd.at_int h0 e0 h1.1 (by omega)
      cases ead
      have HCL := Aside0.mk (fun W hC => HClone.clone_calls (some ad) c0 l hl W hC)
      have HL := Aside0.mk hl
      have HLEN := Aside0.mk hlen
      by_cases h2 : 1 - rd l e0 ≤ e1 ∧ e1 ≤ 100 - rd l e0
      · rw [if_pos (show stepOk l e0 e1 from ⟨hg, ⟨h1.1, by omega⟩, h2⟩)]
        have H2 := Aside0.mk (fun n => in_is e1 (1 - rd l e0) (100 - rd l e0) true (decide_eq_true h2) (w.drewN n))
        have HH2 := Aside0.mk h2
        have hrd : (rd l e0) = rd l e0 := rfl
        generalize hy : rd l e0 = y at hx hb H2 HH2 ⊢
        have HY := Aside0.mk hy
        have hw1 : IntKind.i64.wrap (1 - y) = 1 - y := IntWalk.i64_in _ (by omega)
        have hw2 : IntKind.i64.wrap (100 - y) = 100 - y := IntWalk.i64_in _ (by omega)
        have k1 : (0 : Int) ≤ e0 := h1.1
        have k2 : e0 < (l.length : Int) := by omega
        have HBB := Aside0.mk hb
        clear h0 hg h1 h2 hl hlen hy hrd hb
        go_enter Try.func26, Try.ntmps26
        go_wp2
        go_quiet (first | (go_at_call 53; with_reducible exact Calls.quiet_of (HG.out _)) | (go_at_call 67; with_reducible exact Calls.quiet_of (H1.out _)) | (go_at_call 67; with_reducible exact Calls.quiet_of (H2.out _)))
        go_wp2_with fail
        refine (HCL.out _ (Kd.C_below HC.out (by repeat (first | (with_reducible first | exact HB.out | apply below_alloc | apply pw_below_drewN | apply below_drew1) | exact HB.out)))).mono ?_
        rintro e w2 ⟨v2, rfl, ho, hb⟩
        have HO := Aside0.mk (Kd.R_lower ho (below_size (by repeat (first | (with_reducible first | exact HB.out | apply below_alloc | apply pw_below_drewN | apply below_drew1) | exact HB.out))))
        have HBn := Aside0.mk (below_step (by repeat (first | (with_reducible first | exact HB.out | apply below_alloc | apply pw_below_drewN | apply below_drew1) | exact HB.out)) hb)
        clear ho hb HB
        have HB := HBn
        clear HBn
        obtain ⟨g, cap, e, hgb, _, _⟩ := Kd.R_form HO.out (by omega)
        subst e
        obtain ⟨hx2, hf2⟩ := Kd.R_celln 0 HO.out e0 k1 (by omega)
        have hx3 : w2.cell? ⟨g, e0.toNat, none⟩ = some (.int .i64 y) := by rw [← HY.out]; exact hx2
        replace hf2 : w2.frozen? ⟨g, e0.toNat, none⟩ = false := hf2
        clear hx2
        have HP := Aside0.mk (Kd.R_putg HO.out e0 (y + e1))
        have hw3 : IntKind.i64.wrap (y + e1) = y + e1 := IntWalk.i64_in _ (by have := HH2.out; have := HBB.out; omega)
        go_wp2_with fail
        go_ret2
        exact ⟨_, rfl, HP.out.1, below_set HB.out hgb⟩
      · rw [if_neg (fun z => h2 z.2.2)]
        have H2 := Aside0.mk (fun n => in_is e1 (1 - rd l e0) (100 - rd l e0) false (decide_eq_false h2) (w.drewN n))
        generalize hy : rd l e0 = y at hx hb H2
        have hw1 : IntKind.i64.wrap (1 - y) = 1 - y := IntWalk.i64_in _ (by omega)
        have hw2 : IntKind.i64.wrap (100 - y) = 100 - y := IntWalk.i64_in _ (by omega)
        have k1 : (0 : Int) ≤ e0 := h1.1
        have k2 : e0 < (l.length : Int) := by omega
        clear h0 hg h1 h2 hl hlen hy hb
        go_enter Try.func26, Try.ntmps26
        go_wp2
        go_quiet (first | (go_at_call 53; with_reducible exact Calls.quiet_of (HG.out _)) | (go_at_call 67; with_reducible exact Calls.quiet_of (H1.out _)) | (go_at_call 67; with_reducible exact Calls.quiet_of (H2.out _)))
        go_wp2
        go_ret2
        exact ⟨_, rfl, Kd.R_nil _ _ _ _ _, (by repeat (first | (with_reducible first | exact HB.out | apply below_alloc | apply pw_below_drewN | apply below_drew1) | exact HB.out))⟩
    · rw [if_neg (fun z => h1 ⟨z.2.1.1, by have := z.2.1.2; omega⟩)]
      have H1 := Aside0.mk (fun n => in_is e0 0 ((l.length : Int) - 1) false (decide_eq_false h1) (w.drewN n))
      clear h0 hg h1
      go_enter Try.func26, Try.ntmps26
      go_wp2
      go_quiet (first | (go_at_call 53; with_reducible exact Calls.quiet_of (HG.out _)) | (go_at_call 67; with_reducible exact Calls.quiet_of (H1.out _)))
      go_wp2
      go_ret2
      exact ⟨_, rfl, Kd.R_nil _ _ _ _ _, (by repeat (first | (with_reducible first | exact HB.out | apply below_alloc | apply pw_below_drewN | apply below_drew1) | exact HB.out))⟩
end Go.Proofs.Ytleacijhpkogpad.HStep
