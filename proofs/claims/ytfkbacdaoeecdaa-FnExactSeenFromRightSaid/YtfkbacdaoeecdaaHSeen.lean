/- Who is seen, as the program and the reference tell it: contracts over the printed walks of spec.heSeen, spec.heRight and impl.seen. -/
import Derived.Test.YtfkbacdaoeecdaaPFnExactSeenFromRightx10
import Derived.Test.YtfkbacdaoeecdaaPFnExactSeenFromRightx13
import Derived.Test.YtfkbacdaoeecdaaHClone
namespace Go.Proofs.Ytfkbacdaoeecdaa.HSeen
open Go.RowKit Go.Proofs.YtfkbacdaoeecdaaW.PrintWords Go.Proofs.YtfkbacdaoeecdaaW.PrintLast Go.Proofs.YtfkbacdaoeecdaaW.PrintMore Go.Proofs.Ytfkbacdaoeecdaa.PFnExactSeenFromRight Go.Proofs.Ytfkbacdaoeecdaa.HClone
set_option linter.unusedVariables false
set_option linter.unusedSimpArgs false

theorem drop_cons (l : List Int) (i : Nat) (h : i < l.length) : l.drop i = rd l (i : Int) :: l.drop (i + 1) := by
  rw [List.drop_eq_getElem_cons h, rd_nat l i h]
def seenR : List Int → Nat → Int → List Int
  | [], _, _ => []
  | h :: t, i, m => if h > m then (i : Int) :: seenR t (i + 1) h else seenR t (i + 1) m
theorem seenR_len : ∀ (t : List Int) (i : Nat) (m : Int), (seenR t i m).length ≤ t.length
  | [], _, _ => by simp [seenR]
  | h :: t, i, m => by
    have h1 := seenR_len t (i + 1) h
    have h2 := seenR_len t (i + 1) m
    simp only [seenR]
    split
    · simp; omega
    · simp; omega
theorem seenR_more (s : List Int) : ∀ (t : List Int) (i : Nat) (m : Int), (seenR t i m).length ≤ (seenR (t ++ s) i m).length
  | [], _, _ => by simp [seenR]
  | h :: t, i, m => by
    have h1 := seenR_more s t (i + 1) h
    have h2 := seenR_more s t (i + 1) m
    simp only [List.cons_append, seenR]
    split
    · simp; omega
    · exact h2
theorem spec_seen_loop (l : List Int) (hl : l.length ≤ 1048576) : ∀ (d i : Nat) (m : Int) (out : List Int), i + d = l.length → out.length ≤ i →
    Ev (fun k => spec_heSeen.l0 k m out l (l.length : Int) (i : Int)) (out ++ seenR (l.drop i) i m) := by
  intro d
  induction d with
  | zero =>
    intro i m out hi ho
    refine Ev.step (f := fun _ => some out) (fun k => ?_) ?_
    · simp only [spec_heSeen.l0]
      rw [if_neg (by omega)]
    · rw [List.drop_eq_nil_of_le (by omega)]
      simp only [seenR, List.append_nil]
      exact Ev.now _
  | succ d ih =>
    intro i m out hi ho
    have hlt : i < l.length := by omega
    rw [drop_cons l i hlt]
    simp only [seenR]
    by_cases c : rd l (i : Int) > m
    · rw [if_pos c]
      have hr := ih (i + 1) (rd l (i : Int)) (out ++ [(i : Int)]) (by omega) (by simp; omega)
      rw [List.append_assoc] at hr
      refine Ev.step (f := fun k => spec_heSeen.l0 k (rd l (i : Int)) (out ++ [(i : Int)]) l (l.length : Int) ((i + 1 : Nat) : Int)) (fun k => ?_) hr
      simp only [spec_heSeen.l0]
      rw [if_pos (by omega), if_pos (by omega), if_pos (by omega), if_pos c, if_pos (by omega), w1 i (by omega)]
    · rw [if_neg c]
      refine Ev.step (f := fun k => spec_heSeen.l0 k m out l (l.length : Int) ((i + 1 : Nat) : Int)) (fun k => ?_) (ih (i + 1) m out (by omega) (by omega))
      simp only [spec_heSeen.l0]
      rw [if_pos (by omega), if_pos (by omega), if_pos (by omega), if_neg c, w1 i (by omega)]
theorem seen_same (k : Nat) : ∀ (out : List Int) (m : Int) (l : List Int) (n i : Int), PFnExactSeenFromRight.impl_seen.l0 k out m l n i = spec_heSeen.l0 k m out l n i := by
  induction k with
  | zero => intros; rfl
  | succ k ih => intro out m l n i; simp only [PFnExactSeenFromRight.impl_seen.l0, spec_heSeen.l0, ih]
theorem spec_seen_ev (l : List Int) (hl : l.length ≤ 1048576) : Ev (fun k => spec_heSeen.f k l) (seenR l 0 0) := by
  have := spec_seen_loop l hl l.length 0 0 [] (by omega) (by simp)
  simpa [spec_heSeen.f] using this
theorem impl_seen_ev (l : List Int) (hl : l.length ≤ 1048576) : Ev (fun k => PFnExactSeenFromRight.impl_seen.f k l) (seenR l 0 0) := by
  refine Ev.congr (fun k => ?_) (spec_seen_ev l hl)
  simp only [PFnExactSeenFromRight.impl_seen.f, spec_heSeen.f, seen_same]
theorem back_loop (l : List Int) (hl : l.length ≤ 1048576) : ∀ (m : Nat) (acc : List Int), m ≤ l.length → acc.length + m ≤ 1048576 →
    Ev (fun k => spec_heBack.l0 k l acc ((m : Int) - 1)) (acc ++ (l.take m).reverse) := by
  intro m
  induction m with
  | zero =>
    intro acc hm ha
    refine Ev.step (f := fun _ => some acc) (fun k => ?_) ?_
    · simp only [spec_heBack.l0]
      rw [if_neg (by omega)]
    · rw [List.take_zero, List.reverse_nil, List.append_nil]
      exact Ev.now _
  | succ m ih =>
    intro acc hm ha
    have hr := ih (acc ++ [rd l (m : Int)]) (by omega) (by simp; omega)
    rw [List.append_assoc] at hr
    have e : (l.take (m + 1)).reverse = [rd l (m : Int)] ++ (l.take m).reverse := by
      rw [List.take_succ_eq_append_getElem (by omega), List.reverse_append, rd_nat l m (by omega)]
      rfl
    rw [e]
    refine Ev.step (fun k => ?_) hr
    simp only [spec_heBack.l0]
    rw [show (((m + 1 : Nat) : Int) - 1) = (m : Int) by omega, if_pos (by omega), if_pos (by omega), if_pos (by omega), if_pos (by omega), wm1 m (by omega)]
theorem back_ev (l : List Int) (hl : l.length ≤ 1048576) : Ev (fun k => spec_heBack.f k l) l.reverse := by
  have h := back_loop l hl l.length [] (by omega) (by simpa using hl)
  rw [List.take_length, List.nil_append] at h
  refine Ev.congr (fun k => ?_) h
  simp only [spec_heBack.f]
  rw [wm1 l.length (by omega)]
def rightMap (n : Nat) (x : Int) : Int := wrap64 (wrap64 ((n : Int) - 1) - x)
def rightL (l : List Int) : List Int := (seenR l.reverse 0 0).reverse.map (rightMap l.length)
theorem rightL_len (l : List Int) : (rightL l).length = (seenR l.reverse 0 0).length := by simp [rightL]
theorem right_spec_loop (l v : List Int) (hv : v.length ≤ 1048576) : ∀ (d i : Nat) (out : List Int), i + d = v.length → out.length ≤ i →
    Ev (fun k => spec_heRight.l0 k l out v (v.length : Int) (i : Int)) (out ++ (v.drop i).map (rightMap l.length)) := by
  intro d
  induction d with
  | zero =>
    intro i out hi ho
    refine Ev.step (f := fun _ => some out) (fun k => ?_) ?_
    · simp only [spec_heRight.l0]
      rw [if_neg (by omega)]
    · rw [List.drop_eq_nil_of_le (by omega), List.map_nil, List.append_nil]
      exact Ev.now _
  | succ d ih =>
    intro i out hi ho
    have hlt : i < v.length := by omega
    rw [drop_cons v i hlt]
    have hr := ih (i + 1) (out ++ [rightMap l.length (rd v (i : Int))]) (by omega) (by simp; omega)
    rw [List.append_assoc] at hr
    rw [List.map_cons]
    refine Ev.step (fun k => ?_) hr
    simp only [spec_heRight.l0]
    rw [if_pos (by omega), if_pos (by omega), if_pos (by omega), if_pos (by omega), w1 i (by omega)]
    rfl
theorem right_ev (l : List Int) (hl : l.length ≤ 1048576) : Ev (fun k => spec_heRight.f k l) (rightL l) := by
  have hr : l.reverse.length ≤ 1048576 := by simpa using hl
  have hs := Nat.le_trans (seenR_len l.reverse 0 0) hr
  have hsr : (seenR l.reverse 0 0).reverse.length ≤ 1048576 := by simpa using hs
  refine Ev.bind (back_ev l hl) ?_
  refine Ev.bind (spec_seen_ev l.reverse hr) ?_
  refine Ev.bind (back_ev _ hs) ?_
  have := right_spec_loop l (seenR l.reverse 0 0).reverse hsr _ 0 [] (Nat.zero_add _) (by simp)
  simpa [rightL] using this
/-- The program's walk of who is seen. -/
theorem seen_calls (A0 : Option Addr) (c0 : Nat) (l : List Int) (hl : l.length ≤ 1048576) (w : World) (h0 : Kd.C (Kd.int .i64) w A0 l.length l) (hc0 : l.length ≤ c0) :
    Calls Try.prog 32 #[.slice A0 l.length c0] w fun e w' => ∃ v : Value, e = .returned v ∧ Kd.R (Kd.int .i64) 3 w' w.heap.size (fun _ => True) v (seenR l 0 0) ∧ Below w.heap.size w w' := by
  obtain ⟨k, hk⟩ := (impl_seen_ev l hl).rounds
  exact PFnExactSeenFromRight.impl_seen.calls k A0 c0 l _ w h0 hc0 hk
end Go.Proofs.Ytfkbacdaoeecdaa.HSeen
