/- The small functions that the law on rows before calls: lists of texts compared and looked through; how many rows rest. -/
import Derived.Test.YtleacijhpkogpabDoorPFnRowsBeforeOfAllx21
import Derived.Test.YtleacijhpkogpabDoorPFnRowsBeforeOfAllx23
import Derived.Test.YtleacijhpkogpabDoorPFnRowsBeforeOfAllx35
import Derived.Test.YtleacijhpkogpabDoorPFnRowsBeforeOfAllx36
namespace Go.Proofs.YtleacijhpkogpabDoor.RLawH
open Go.RowKit Go.Proofs.YtleacijhpkogpabDoorW.PrintWords Go.Proofs.YtleacijhpkogpabDoorW.PrintLast Go.Proofs.YtleacijhpkogpabDoorW.PrintMore Go.Proofs.YtleacijhpkogpabDoor.PFnRowsBeforeOfAll
set_option linter.unusedVariables false
set_option linter.unusedSimpArgs false

theorem w1 (i : Nat) (h : i ≤ 4611686018427387904) : wrap64 ((i : Int) + 1) = ((i + 1 : Nat) : Int) := by unfold wrap64; omega
theorem mTexts_loop (l : List ByteArray) (hl : l.length ≤ 1048576) : ∀ (d i : Nat), i + d = l.length → Ev (fun k => laws_mTexts.l0 k l l (l.length : Int) (i : Int)) true := by
  intro d
  induction d with
  | zero =>
    intro i hi
    refine Ev.step (f := fun _ => some true) (fun k => ?_) (Ev.now _)
    simp only [laws_mTexts.l0]
    rw [if_neg (by omega)]
  | succ d ih =>
    intro i hi
    refine Ev.step (f := fun k => laws_mTexts.l0 k l l (l.length : Int) ((i + 1 : Nat) : Int)) (fun k => ?_) (ih (i + 1) (by omega))
    simp only [laws_mTexts.l0]
    rw [if_pos (by omega), if_pos (by omega), if_pos (by omega), if_pos (by omega), if_pos trivial, w1 i (by omega)]
theorem mTexts_same (A0 : Option Addr) (c0 : Nat) (A1 : Option Addr) (c1 : Nat) (l : List ByteArray) (hl : l.length ≤ 1048576) (w : World) (h0 : Kd.C Kd.string w A0 l.length l) (hc0 : l.length ≤ c0) (h1 : Kd.C Kd.string w A1 l.length l) (hc1 : l.length ≤ c1) :
    Calls Tryd.prog 21 #[.slice A0 l.length c0, .slice A1 l.length c1] w fun e w' => e = .returned (.bool true) ∧ Drawn0 w w' := by
  have h : Ev (fun k => laws_mTexts.f k l l) true := by
    refine Ev.congr (f := fun k => laws_mTexts.l0 k l l (l.length : Int) ((0 : Nat) : Int)) (fun k => ?_) (mTexts_loop l hl l.length 0 (by omega))
    simp only [laws_mTexts.f]
    rw [if_pos trivial]
    rfl
  obtain ⟨k, hk⟩ := h.rounds
  exact laws_mTexts.calls k A0 c0 l A1 c1 l _ w h0 hc0 h1 hc1 hk
theorem rdOf_nat (l : List ByteArray) (i : Nat) (h : i < l.length) : rdOf ByteArray.empty l (i : Int) = l[i] := by
  simp [rdOf, List.getD_eq_getElem?_getD, List.getElem?_eq_getElem h]
theorem mText_loop (l : List ByteArray) (s : ByteArray) (hl : l.length ≤ 1048576) : ∀ (d i : Nat), i + d = l.length → s ∈ l.drop i → Ev (fun k => laws_mText.l0 k s l (l.length : Int) (i : Int)) true := by
  intro d
  induction d with
  | zero =>
    intro i hi hm
    rw [List.drop_eq_nil_of_le (by omega)] at hm
    cases hm
  | succ d ih =>
    intro i hi hm
    have hlt : i < l.length := by omega
    by_cases c : (rdOf ByteArray.empty l (i : Int)).toList = s.toList
    · refine Ev.step (f := fun _ => some true) (fun k => ?_) (Ev.now _)
      simp only [laws_mText.l0]
      rw [if_pos (by omega), if_pos (by omega), if_pos (by omega), if_pos c]
    · have hm2 : s ∈ l.drop (i + 1) := by
        rw [List.drop_eq_getElem_cons hlt] at hm
        rcases List.mem_cons.1 hm with e | e
        · rw [rdOf_nat l i hlt, e] at c; exact absurd rfl c
        · exact e
      refine Ev.step (f := fun k => laws_mText.l0 k s l (l.length : Int) ((i + 1 : Nat) : Int)) (fun k => ?_) (ih (i + 1) (by omega) hm2)
      simp only [laws_mText.l0]
      rw [if_pos (by omega), if_pos (by omega), if_pos (by omega), if_neg c, w1 i (by omega)]
theorem mText_in (A0 : Option Addr) (c0 : Nat) (l : List ByteArray) (s : ByteArray) (hm : s ∈ l) (hl : l.length ≤ 1048576) (w : World) (h0 : Kd.C Kd.string w A0 l.length l) (hc0 : l.length ≤ c0) :
    Calls Tryd.prog 23 #[.slice A0 l.length c0, .string s] w fun e w' => e = .returned (.bool true) ∧ Drawn0 w w' := by
  have h : Ev (fun k => laws_mText.f k l s) true := mText_loop l s hl l.length 0 (by omega) (by simpa using hm)
  obtain ⟨k, hk⟩ := h.rounds
  exact laws_mText.calls k A0 c0 l s _ w h0 hc0 hk
theorem pow_12 (n : Nat) (hn : n ≤ 12) : 2 ^ n ≤ 4096 := Nat.le_trans (Nat.pow_le_pow_right (by decide) hn) (by decide)
theorem wrap_pow (n : Nat) (hn : n ≤ 12) : wrap64 (2 ^ n) = ((2 ^ n : Nat) : Int) := by
  have := pow_12 n hn
  rw [show ((2 : Int) ^ n) = ((2 ^ n : Nat) : Int) by push_cast; rfl]
  generalize 2 ^ n = P at *
  unfold wrap64; omega
theorem add_nat (x y : Nat) (hx : x ≤ 100000000) (hy : y ≤ 100000000) : wrap64 ((x : Int) + (y : Int)) = ((x + y : Nat) : Int) := by unfold wrap64; omega
theorem add_mul_nat (y p : Nat) (z : Int) (hz : z = (p : Int)) (hy : y ≤ 100000000) (hp : p ≤ 100000000) : wrap64 ((y : Int) + wrap64 z) = ((y + p : Nat) : Int) := by
  have e : wrap64 z = (p : Int) := by rw [hz]; unfold wrap64; omega
  rw [e]; exact add_nat y p hy hp
theorem sub_one (i : Nat) (h : 0 < i) (h2 : i ≤ 1048576) : IntKind.i64.wrap ((i : Int) - 1) = (i : Int) - 1 := IntWalk.i64_in _ (by omega)
/-- How many rows of so many rest. -/
def rst (k : Int) : Int × Bool := if 1 ≤ k ∧ k ≤ 60 then (wrap64 (k + 1), true) else (0, false)
theorem impl_rst (k : Int) (w : World) : Calls Tryd.prog 33 #[.int .i64 k] w fun e w' => e = .returned (.tuple #[.int .i64 (rst k).1, .bool (rst k).2]) ∧ Below w.heap.size w w' := by
  refine (impl_CountAtRest.calls k _ _ w ?_).mono fun e w' h => ⟨h.1, h.2.below⟩
  unfold impl_CountAtRest.f impl_in.f rst
  by_cases h : 1 ≤ k
  · rw [if_pos h]
    by_cases h2 : k ≤ 60
    · rw [decide_eq_true h2, if_pos ⟨h, h2⟩]; rfl
    · rw [decide_eq_false h2, if_neg (fun z => h2 z.2)]; rfl
  · rw [if_neg h, if_neg (fun z => h z.1)]; rfl
theorem spec_rst (k : Int) (w : World) : Calls Tryd.prog 34 #[.int .i64 k] w fun e w' => e = .returned (.tuple #[.int .i64 (rst k).1, .bool (rst k).2]) ∧ Below w.heap.size w w' := by
  refine (spec_CountAtRest.calls k _ _ w ?_).mono fun e w' h => ⟨h.1, h.2.below⟩
  unfold spec_CountAtRest.f spec_l1In.f rst
  by_cases h : k ≥ 1
  · rw [if_pos h]
    by_cases h2 : k ≤ 60
    · rw [decide_eq_true h2, if_pos ⟨h, h2⟩]; rfl
    · rw [decide_eq_false h2, if_neg (fun z => h2 z.2)]; rfl
  · rw [if_neg h, if_neg (fun z => h z.1)]; rfl
end Go.Proofs.YtleacijhpkogpabDoor.RLawH
