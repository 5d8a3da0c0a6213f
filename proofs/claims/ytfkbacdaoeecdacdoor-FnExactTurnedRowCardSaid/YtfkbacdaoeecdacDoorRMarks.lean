/- Lists of numbers that are compared, marked and looked at: contracts over the printed walks of laws.eqIntS, markIntS, heldIntS. -/
import Derived.Test.YtfkbacdaoeecdacDoorPFnExactFacingPairsx13
import Derived.Test.YtfkbacdaoeecdacDoorPFnExactFacingPairsx14
import Derived.Test.YtfkbacdaoeecdacDoorPFnExactFacingPairsx15
namespace Go.Proofs.YtfkbacdaoeecdacDoor.RMarks
open Go.RowKit Go.Proofs.YtfkbacdaoeecdacDoorW.PrintWords Go.Proofs.YtfkbacdaoeecdacDoorW.PrintLast Go.Proofs.YtfkbacdaoeecdacDoorW.PrintMore Go.Proofs.YtfkbacdaoeecdacDoor.PFnExactFacingPairs
set_option linter.unusedVariables false
set_option linter.unusedSimpArgs false

/-! plain words -/
theorem w1 (i : Nat) (h : i ≤ 4611686018427387904) : wrap64 ((i : Int) + 1) = ((i + 1 : Nat) : Int) := by unfold wrap64; omega
theorem rd_nat (l : List Int) (i : Nat) (h : i < l.length) : rd l (i : Int) = l[i] := by
  simp [rd, List.getD_eq_getElem?_getD, List.getElem?_eq_getElem h]
theorem drop_cons (l : List Int) (i : Nat) (h : i < l.length) : l.drop i = rd l (i : Int) :: l.drop (i + 1) := by
  rw [List.drop_eq_getElem_cons h, rd_nat l i h]
theorem eqIntS_loop (l : List Int) (hl : l.length ≤ 1048576) : ∀ (d i : Nat), i + d = l.length → Ev (fun k => laws_eqIntS.l0 k l l (i : Int)) true := by
  intro d
  induction d with
  | zero =>
    intro i hi
    refine Ev.step (f := fun _ => some true) (fun k => ?_) (Ev.now _)
    simp only [laws_eqIntS.l0]
    rw [if_neg (by omega)]
  | succ d ih =>
    intro i hi
    refine Ev.step (f := fun k => laws_eqIntS.l0 k l l ((i + 1 : Nat) : Int)) (fun k => ?_) (ih (i + 1) (by omega))
    simp only [laws_eqIntS.l0]
    rw [if_pos (by omega), if_pos (by omega), if_pos (by omega), if_pos trivial, w1 i (by omega)]
theorem eqIntS_ev (l : List Int) (hl : l.length ≤ 1048576) : Ev (fun k => laws_eqIntS.f k l l) true := by
  refine Ev.congr (f := fun k => laws_eqIntS.l0 k l l ((0 : Nat) : Int)) (fun k => ?_) (eqIntS_loop l hl l.length 0 (by omega))
  simp only [laws_eqIntS.f]
  rw [if_pos trivial]
  rfl
def upto : Nat → Nat → List Int
  | _, 0 => []
  | i, n + 1 => ((i + 1 : Nat) : Int) :: upto (i + 1) n
theorem upto_len : ∀ n i, (upto i n).length = n
  | 0, _ => rfl
  | n + 1, i => by simp [upto, upto_len n (i + 1)]
theorem mark_loop (n : Nat) (hn : n ≤ 1048576) : ∀ (d i : Nat) (x : List Int), x.length = n → i + d = n →
    Ev (fun k => laws_markIntS.l0 k x ((i + 1 : Nat) : Int) (i : Int)) (((n + 1 : Nat) : Int), x.take i ++ upto i d) := by
  intro d
  induction d with
  | zero =>
    intro i x hx hi
    refine Ev.step (f := fun _ => some (((i + 1 : Nat) : Int), x)) (fun k => ?_) ?_
    · simp only [laws_markIntS.l0]
      rw [if_neg (by omega)]
    · rw [List.take_of_length_le (by omega)]
      simp only [upto, List.append_nil]
      rw [show i = n by omega]
      exact Ev.now _
  | succ d ih =>
    intro i x hx hi
    have hr := ih (i + 1) (x.set i ((i + 1 : Nat) : Int)) (by simpa using hx) (by omega)
    have e : (x.set i ((i + 1 : Nat) : Int)).take (i + 1) ++ upto (i + 1) d = x.take i ++ upto i (d + 1) := by
      rw [List.take_succ_eq_append_getElem (by simp; omega), List.getElem_set_self, List.append_assoc]
      simp [List.take_set_of_le, upto]
    rw [e] at hr
    refine Ev.step (f := fun k => laws_markIntS.l0 k (x.set i ((i + 1 : Nat) : Int)) ((i + 1 + 1 : Nat) : Int) ((i + 1 : Nat) : Int)) (fun k => ?_) hr
    simp only [laws_markIntS.l0]
    rw [if_pos (by omega), if_pos (by omega), w1 i (by omega), w1 (i + 1) (by omega)]
    rfl
theorem mark_ev (x : List Int) (hx : x.length ≤ 1048576) : Ev (fun k => laws_markIntS.f k x 1) (((x.length + 1 : Nat) : Int), upto 0 x.length) := by
  have := mark_loop x.length hx x.length 0 x rfl (by omega)
  simpa [laws_markIntS.f] using this
theorem held_loop (n : Nat) (hn : n ≤ 1048576) : ∀ (d i : Nat) (p : List Int), p.length = i → i + d = n →
    Ev (fun k => laws_heldIntS.l0 k (p ++ upto i d) ((i + 1 : Nat) : Int) (i : Int)) (((n + 1 : Nat) : Int)) := by
  intro d
  induction d with
  | zero =>
    intro i p hp hi
    refine Ev.step (f := fun _ => some (((i + 1 : Nat) : Int))) (fun k => ?_) ?_
    · simp only [laws_heldIntS.l0]
      rw [if_neg (by simp [upto]; omega)]
    · rw [show i = n by omega]
      exact Ev.now _
  | succ d ih =>
    intro i p hp hi
    have hr := ih (i + 1) (p ++ [((i + 1 : Nat) : Int)]) (by simp [hp]) (by omega)
    have e : (p ++ [((i + 1 : Nat) : Int)]) ++ upto (i + 1) d = p ++ upto i (d + 1) := by simp [upto]
    rw [e] at hr
    have hlen : (p ++ upto i (d + 1)).length = i + (d + 1) := by simp [upto_len, hp]
    have hrd : rd (p ++ upto i (d + 1)) (i : Int) = ((i + 1 : Nat) : Int) := by
      rw [rd_nat _ i (by omega), List.getElem_append_right (by omega)]
      simp [hp, upto]
    refine Ev.step (f := fun k => laws_heldIntS.l0 k (p ++ upto i (d + 1)) ((i + 1 + 1 : Nat) : Int) ((i + 1 : Nat) : Int)) (fun k => ?_) hr
    simp only [laws_heldIntS.l0]
    rw [hrd, hlen, if_pos (by omega), if_pos (by omega), if_pos rfl, w1 i (by omega), w1 (i + 1) (by omega)]
theorem held_ev (n : Nat) (hn : n ≤ 1048576) : Ev (fun k => laws_heldIntS.f k (upto 0 n) 1) (((n + 1 : Nat) : Int)) := by
  have := held_loop n hn n 0 [] rfl (by omega)
  simpa [laws_heldIntS.f] using this

theorem eqI (A0 : Option Addr) (c0 : Nat) (A1 : Option Addr) (c1 : Nat) (l : List Int) (hl : l.length ≤ 1048576) (w : World) (h0 : Kd.C (Kd.int .i64) w A0 l.length l) (hc0 : l.length ≤ c0) (h1 : Kd.C (Kd.int .i64) w A1 l.length l) (hc1 : l.length ≤ c1) :
    Calls Tryd.prog 15 #[.slice A0 l.length c0, .slice A1 l.length c1] w fun e w' => e = .returned (.bool true) ∧ Drawn0 w w' := by
  obtain ⟨k, hk⟩ := (eqIntS_ev l hl).rounds
  exact laws_eqIntS.calls k A0 c0 l A1 c1 l _ w h0 hc0 h1 hc1 hk
theorem markI (v : Value) (l : List Int) (hl : l.length ≤ 1048576) (w0 w : World) (hB : Below w0.heap.size w0 w) (ho : Kd.R (Kd.int .i64) 3 w w0.heap.size (fun _ => True) v l) :
    Calls Tryd.prog 16 #[v, .int .i64 1] w fun e w' => e = .returned (.int .i64 ((l.length + 1 : Nat) : Int)) ∧ Kd.R (Kd.int .i64) 3 w' w0.heap.size (fun _ => True) v (upto 0 l.length) ∧ Below w0.heap.size w0 w' := by
  obtain ⟨k, hk⟩ := (mark_ev l hl).rounds
  exact (laws_markIntS.calls k (fun _ => True) v l 1 _ _ w0 w hB ho hk).mono fun e w' ⟨h1, h2, h3, _⟩ => ⟨h1, Kd.R_mono h2 (fun _ _ => trivial), h3⟩
theorem heldI (A : Option Addr) (c n : Nat) (hn : n ≤ 1048576) (w : World) (h0 : Kd.C (Kd.int .i64) w A (upto 0 n).length (upto 0 n)) (hc : (upto 0 n).length ≤ c) :
    Calls Tryd.prog 17 #[.slice A n c, .int .i64 1] w fun e w' => e = .returned (.int .i64 ((n + 1 : Nat) : Int)) ∧ Below w.heap.size w w' := by
  obtain ⟨k, hk⟩ := (held_ev n hn).rounds
  have := laws_heldIntS.calls k A c (upto 0 n) 1 _ w h0 hc hk
  rw [upto_len] at this
  exact this.mono fun e w' h => ⟨h.1, h.2.below⟩
end Go.Proofs.YtfkbacdaoeecdacDoor.RMarks
