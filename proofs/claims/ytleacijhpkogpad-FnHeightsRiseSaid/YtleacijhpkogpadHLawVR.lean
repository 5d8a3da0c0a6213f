/- The small functions of the law on rising: contracts over their printed walks. -/
import Derived.Test.YtleacijhpkogpadPFnHeightsRisex3
import Derived.IntWalk
import Derived.OwnWalk
set_option linter.unusedVariables false
set_option linter.unusedSimpArgs false
set_option maxHeartbeats 8000000
set_option maxRecDepth 100000
namespace Go.Proofs.Ytleacijhpkogpad.HLawV
open Go.RowKit YtleacijhpkogpadW.PrintWords YtleacijhpkogpadW.PrintLast YtleacijhpkogpadW.PrintMore PFnHeightsRise

theorem w1 (i : Nat) (h : i ≤ 4611686018427387904) : wrap64 ((i : Int) + 1) = ((i + 1 : Nat) : Int) := by unfold wrap64; omega
theorem wm1 (i : Nat) (h : i ≤ 4611686018427387904) : wrap64 (((i + 1 : Nat) : Int) - 1) = (i : Int) := by unfold wrap64; omega
theorem rd_nat (l : List Int) (i : Nat) (h : i < l.length) : rd l (i : Int) = l[i] := by
  simp [rd,List.getD_eq_getElem?_getD,List.getElem?_eq_getElem h]
theorem drop_cons (l : List Int) (i : Nat) (h : i < l.length) : l.drop i = rd l (i : Int) :: l.drop (i + 1) := by
  rw [List.drop_eq_getElem_cons h,rd_nat l i h]
theorem same_loop (l : List Int) (hl : l.length ≤ 1048576) : ∀ (d i : Nat),i + d = l.length → Ev (fun k => laws_vSame.l0 k l l (l.length : Int) (i : Int)) true := by
  intro d
  induction d with
  | zero =>
    intro i hi
    refine Ev.step (f := fun _ => some true) (fun k => ?_) (Ev.now _)
    simp only [laws_vSame.l0]
    rw [if_neg (by omega)]
  | succ d ih =>
    intro i hi
    refine Ev.step (f := fun k => laws_vSame.l0 k l l (l.length : Int) ((i + 1 : Nat) : Int)) (fun k => ?_) (ih (i + 1) (by omega))
    simp only [laws_vSame.l0]
    rw [if_pos (by omega),if_pos (by omega),if_pos (by omega),if_pos (by omega),if_pos trivial,w1 i (by omega)]
theorem same_yes (A0 : Option Addr) (c0 : Nat) (A1 : Option Addr) (c1 : Nat) (l : List Int) (hl : l.length ≤ 1048576) (w : World) (h0 : Kd.C (Kd.int .i64) w A0 l.length l) (hc0 : l.length ≤ c0) (h1 : Kd.C (Kd.int .i64) w A1 l.length l) (hc1 : l.length ≤ c1) :
    Calls Try.prog 17 #[.slice A0 l.length c0,.slice A1 l.length c1] w fun e w' => e = .returned (.bool true) ∧ Drawn0 w w' := by
  have h : Ev (fun k => laws_vSame.f k l l) true := by
    refine Ev.congr (f := fun k => laws_vSame.l0 k l l (l.length : Int) ((0 : Nat) : Int)) (fun k => ?_) (same_loop l hl l.length 0 (by omega))
    simp only [laws_vSame.f]
    rw [if_pos trivial]
    rfl
  obtain ⟨k,hk⟩ := h.rounds
  exact laws_vSame.calls k A0 c0 l A1 c1 l _ w h0 hc0 h1 hc1 hk
theorem rises_loop (l : List Int) (hl : l.length ≤ 1048576) (hp : l.Pairwise (· < ·)) : ∀ (d i : Nat),i + 1 + d = l.length → Ev (fun k => laws_vRises.l0 k l ((i + 1 : Nat) : Int)) true := by
  intro d
  induction d with
  | zero =>
    intro i hi
    refine Ev.step (f := fun _ => some true) (fun k => ?_) (Ev.now _)
    simp only [laws_vRises.l0]
    rw [if_neg (by omega)]
  | succ d ih =>
    intro i hi
    have hlt := List.pairwise_iff_getElem.1 hp i (i + 1) (by omega) (by omega) (by omega)
    rw [← rd_nat l i (by omega),← rd_nat l (i + 1) (by omega)] at hlt
    refine Ev.step (f := fun k => laws_vRises.l0 k l ((i + 1 + 1 : Nat) : Int)) (fun k => ?_) (ih (i + 1) (by omega))
    simp only [laws_vRises.l0]
    rw [wm1 i (by omega),if_pos (by omega),if_pos (by omega),if_pos (by omega),if_pos (by omega),if_neg (by omega),w1 (i + 1) (by omega)]
theorem rises_yes (A0 : Option Addr) (c0 : Nat) (l : List Int) (hl : l.length ≤ 1048576) (hp : l.Pairwise (· < ·)) (w : World) (h0 : Kd.C (Kd.int .i64) w A0 l.length l) (hc0 : l.length ≤ c0) :
    Calls Try.prog 21 #[.slice A0 l.length c0] w fun e w' => e = .returned (.bool true) ∧ Drawn0 w w' := by
  have h : Ev (fun k => laws_vRises.f k l) true := by
    cases l with
    | nil =>
      refine Ev.step (f := fun _ => some true) (fun k => ?_) (Ev.now _)
      simp only [laws_vRises.f,laws_vRises.l0]
      rw [if_neg (by simp)]
    | cons a t => exact rises_loop (a :: t) hl hp t.length 0 (by simp; omega)
  obtain ⟨k,hk⟩ := h.rounds
  exact laws_vRises.calls k A0 c0 l _ w h0 hc0 hk
theorem sum_nn : ∀ l : List Int,(∀ x ∈ l,0 ≤ x) → 0 ≤ l.sum
  | [],_ => by simp
  | a :: l,h => by
    have := sum_nn l (fun x hx => h x (List.mem_cons_of_mem _ hx))
    have := h a (List.mem_cons_self ..)
    rw [List.sum_cons]; omega
theorem sum_is (A0 : Option Addr) (c0 : Nat) (l : List Int) (hl : l.length ≤ 1048576) (hp : ∀ x ∈ l, 0 ≤ x) (hs : l.sum ≤ 1000000) (w : World) (h0 : Kd.C (Kd.int .i64) w A0 l.length l) (hc0 : l.length ≤ c0) :
    Calls Try.prog 42 #[.slice A0 l.length c0] w fun e w' => e = .returned (.int .i64 l.sum) ∧ Drawn0 w w' := by
  have HR0 := Aside0.mk h0
  have HP := Aside0.mk hp
  have HS := Aside0.mk hs
  have HL := Aside0.mk hl
  clear h0 hc0 hp hs hl
  go_enter Try.func42,Try.ntmps42
  go_wp2
  go_loopg [3,8] (l.length + 1) (fun kq v3 v8 w' => ∃ (s : Int) (j : Nat),v3 = .int .i64 s ∧ v8 = .int .i64 (j : Int) ∧ Aside0 (kq + j = l.length + 1) ∧ Aside0 (0 ≤ s ∧ s + (l.drop j).sum = l.sum) ∧ Drawn0 w w')
  case atStart => exact ⟨0,0,rfl,rfl,⟨by omega⟩,⟨by simp⟩,by repeat (first | exact Drawn0.refl _ | apply Drawn0.step)⟩
  case round =>
    obtain ⟨s,j,rfl,rfl,HK,HE,⟨m1,rfl⟩⟩ := hrel
    by_cases hj : j < l.length
    · obtain ⟨ad,e,hx⟩ := Kd.at_int HR0.out (j : Int) (by omega) (by omega)
      cases e
      rw [Int.toNat_natCast] at hx
      have hn := HP.out _ (List.getElem_mem hj)
      have hr := sum_nn (l.drop (j + 1)) (fun x hx => HP.out x (List.mem_of_mem_drop hx))
      have hE := HE.out
      have hS := HS.out
      have hLl := HL.out
      rw [drop_cons l j hj,List.sum_cons] at hE
      rw [← rd_nat l j hj] at hn
      generalize rd l (j : Int) = x at hx hE hn
      have HE2 : Aside0 (0 ≤ s + x ∧ s + x + (l.drop (j + 1)).sum = l.sum) := ⟨by omega,by omega⟩
      have hw : IntKind.i64.wrap (s + x) = s + x := IntWalk.i64_in _ (by omega)
      clear HE hn hr hE hS
      go_wp2
      go_roundg (l.length - j)
      case measure => have := HK.out; omega
      case rel => exact ⟨s + x,j + 1,(by first | rfl | (simp; done) | (simp [*]; done)),(by first | rfl | (simp; done) | (simp [*]; done)),⟨by have := HK.out; omega⟩,HE2,by repeat (first | exact Drawn0.refl _ | apply Drawn0.step)⟩
    · have hE := HE.out
      rw [List.drop_eq_nil_of_le (by omega),List.sum_nil,Int.add_zero] at hE
      have hT := hE.2
      clear HE hE
      subst hT
      go_wp2
      go_ret
      exact ⟨rfl,by repeat (first | exact Drawn0.refl _ | apply Drawn0.step)⟩
end Go.Proofs.Ytleacijhpkogpad.HLawV
