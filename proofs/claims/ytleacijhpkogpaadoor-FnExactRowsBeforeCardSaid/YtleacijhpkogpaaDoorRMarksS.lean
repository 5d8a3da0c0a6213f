/- Lists of texts that are compared, marked and looked at: contracts over the printed walks of laws.eqStringS, markStringS, heldStringS. -/
import Derived.Test.YtleacijhpkogpaaDoorPFnExactRowsBeforex19
import Derived.Test.YtleacijhpkogpaaDoorPFnExactRowsBeforex21
import Derived.Test.YtleacijhpkogpaaDoorPFnExactRowsBeforex22
namespace Go.Proofs.YtleacijhpkogpaaDoor.RMarksS
open Go.RowKit Go.Proofs.YtleacijhpkogpaaDoorW.PrintWords Go.Proofs.YtleacijhpkogpaaDoorW.PrintLast Go.Proofs.YtleacijhpkogpaaDoorW.PrintMore Go.Proofs.YtleacijhpkogpaaDoor.PFnExactRowsBefore
set_option linter.unusedVariables false
set_option linter.unusedSimpArgs false

/-! plain words -/
theorem w1 (i : Nat) (h : i ≤ 4611686018427387904) : wrap64 ((i : Int) + 1) = ((i + 1 : Nat) : Int) := by unfold wrap64; omega
theorem rd_nat (l : List Int) (i : Nat) (h : i < l.length) : rd l (i : Int) = l[i] := by
  simp [rd, List.getD_eq_getElem?_getD, List.getElem?_eq_getElem h]
theorem drop_cons (l : List Int) (i : Nat) (h : i < l.length) : l.drop i = rd l (i : Int) :: l.drop (i + 1) := by
  rw [List.drop_eq_getElem_cons h, rd_nat l i h]
/-! marks of a list of texts -/
theorem text_loop : ∀ (m x : Nat) (acc : ByteArray), x ≤ m → acc.size + x ≤ 1000000000 → ∃ t, Ev (fun k => laws_markText.l0 k (x : Int) acc) t := by
  intro m
  induction m with
  | zero =>
    intro x acc hx ha
    refine ⟨_, Ev.step (f := fun _ => some ((⟨#[109]⟩ : ByteArray) ++ acc)) (fun k => ?_) (Ev.now _)⟩
    simp only [laws_markText.l0]
    rw [if_neg (by omega), if_pos (by omega)]
  | succ m ih =>
    intro x acc hx ha
    by_cases h0 : x = 0
    · subst h0
      refine ⟨_, Ev.step (f := fun _ => some ((⟨#[109]⟩ : ByteArray) ++ acc)) (fun k => ?_) (Ev.now _)⟩
      simp only [laws_markText.l0]
      rw [if_neg (by omega), if_pos (by omega)]
    · have hs : ∀ a : Int, (strOfNums [a]).size = 1 := fun a => rfl
      have e2 : wrap64 (Int.tdiv (x : Int) 10) = ((x / 10 : Nat) : Int) := by
        rw [Int.tdiv_eq_ediv_of_nonneg (by omega)]; unfold wrap64; omega
      obtain ⟨t, ht⟩ := ih (x / 10) (strOfNums [(wrap64 (48 + (Int.tmod (x : Int) 10))) % 256] ++ acc) (by omega) (by rw [ByteArray.size_append, hs]; omega)
      refine ⟨t, Ev.step (fun k => ?_) ht⟩
      simp only [laws_markText.l0, Option.bind_some]
      rw [if_pos (by omega), if_pos (by rw [hs]; omega), e2]
theorem text_ex (n : Nat) (hn : n ≤ 10000000) : ∃ t, Ev (fun k => laws_markText.f k (n : Int)) t := by
  by_cases h0 : n = 0
  · subst h0
    exact ⟨_, Ev.congr (fun k => by unfold laws_markText.f; rw [if_pos (by omega)]) (Ev.now (⟨#[109, 48]⟩ : ByteArray))⟩
  · obtain ⟨t, ht⟩ := text_loop n n ⟨#[]⟩ (Nat.le_refl _) (by have : (⟨#[]⟩ : ByteArray).size = 0 := rfl; omega)
    exact ⟨t, Ev.congr (fun k => by unfold laws_markText.f; rw [if_neg (by omega)]) ht⟩
open Classical in
/-- The text of a number. -/
noncomputable def mt (n : Nat) : ByteArray := if h : ∃ t, Ev (fun k => laws_markText.f k (n : Int)) t then Classical.choose h else ⟨#[]⟩
theorem mt_ev (n : Nat) (hn : n ≤ 10000000) : Ev (fun k => laws_markText.f k (n : Int)) (mt n) := by
  have h := text_ex n hn
  unfold mt
  rw [dif_pos h]
  exact Classical.choose_spec h
noncomputable def uptoT : Nat → Nat → List ByteArray
  | _, 0 => []
  | i, n + 1 => mt (i + 1) :: uptoT (i + 1) n
theorem uptoT_len : ∀ n i, (uptoT i n).length = n
  | 0, _ => rfl
  | n + 1, i => by simp [uptoT, uptoT_len n (i + 1)]
theorem rdT_nat (l : List ByteArray) (i : Nat) (h : i < l.length) : rdOf ByteArray.empty l (i : Int) = l[i] := by
  simp [rdOf, List.getD_eq_getElem?_getD, List.getElem?_eq_getElem h]
theorem markS_loop (n : Nat) (hn : n ≤ 1048576) : ∀ (d i : Nat) (x : List ByteArray), x.length = n → i + d = n →
    Ev (fun k => laws_markStringS.l0 k x ((i + 1 : Nat) : Int) (i : Int)) (((n + 1 : Nat) : Int), x.take i ++ uptoT i d) := by
  intro d
  induction d with
  | zero =>
    intro i x hx hi
    refine Ev.step (f := fun _ => some (((i + 1 : Nat) : Int), x)) (fun k => ?_) ?_
    · simp only [laws_markStringS.l0]
      rw [if_neg (by omega)]
    · rw [List.take_of_length_le (by omega)]
      simp only [uptoT, List.append_nil]
      rw [show i = n by omega]
      exact Ev.now _
  | succ d ih =>
    intro i x hx hi
    have hr := ih (i + 1) (x.set i (mt (i + 1))) (by simpa using hx) (by omega)
    have e : (x.set i (mt (i + 1))).take (i + 1) ++ uptoT (i + 1) d = x.take i ++ uptoT i (d + 1) := by
      rw [List.take_succ_eq_append_getElem (by simp; omega), List.getElem_set_self, List.append_assoc]
      simp [List.take_set_of_le, uptoT]
    rw [e] at hr
    refine Ev.step (f := fun k => (laws_markText.f k ((i + 1 : Nat) : Int)).bind fun t => laws_markStringS.l0 k (x.set i t) ((i + 1 + 1 : Nat) : Int) ((i + 1 : Nat) : Int)) (fun k => ?_) (Ev.bind (mt_ev (i + 1) (by omega)) hr)
    simp only [laws_markStringS.l0]
    rw [if_pos (by omega), w1 i (by omega), w1 (i + 1) (by omega)]
    first | (congr 1; done) | (congr 1; funext t; rw [if_pos (by omega)])
    try rfl
theorem markS_ev (x : List ByteArray) (hx : x.length ≤ 1048576) : Ev (fun k => laws_markStringS.f k x 1) (((x.length + 1 : Nat) : Int), uptoT 0 x.length) := by
  have := markS_loop x.length hx x.length 0 x rfl (by omega)
  simpa [laws_markStringS.f] using this
theorem heldS_loop (n : Nat) (hn : n ≤ 1048576) : ∀ (d i : Nat) (p : List ByteArray), p.length = i → i + d = n →
    Ev (fun k => laws_heldStringS.l0 k (p ++ uptoT i d) ((i + 1 : Nat) : Int) (i : Int)) (((n + 1 : Nat) : Int)) := by
  intro d
  induction d with
  | zero =>
    intro i p hp hi
    refine Ev.step (f := fun _ => some (((i + 1 : Nat) : Int))) (fun k => ?_) ?_
    · simp only [laws_heldStringS.l0]
      rw [if_neg (by simp [uptoT]; omega)]
    · rw [show i = n by omega]
      exact Ev.now _
  | succ d ih =>
    intro i p hp hi
    have hr := ih (i + 1) (p ++ [mt (i + 1)]) (by simp [hp]) (by omega)
    have e : (p ++ [mt (i + 1)]) ++ uptoT (i + 1) d = p ++ uptoT i (d + 1) := by simp [uptoT]
    rw [e] at hr
    have hlen : (p ++ uptoT i (d + 1)).length = i + (d + 1) := by simp [uptoT_len, hp]
    have hrd : rdOf ByteArray.empty (p ++ uptoT i (d + 1)) (i : Int) = mt (i + 1) := by
      rw [rdT_nat _ i (by omega), List.getElem_append_right (by omega)]
      simp [hp, uptoT]
    refine Ev.step (f := fun k => (laws_markText.f k ((i + 1 : Nat) : Int)).bind fun t => if (mt (i + 1)).toList = t.toList then laws_heldStringS.l0 k (p ++ uptoT i (d + 1)) ((i + 1 + 1 : Nat) : Int) ((i + 1 : Nat) : Int) else some (-1)) (fun k => ?_) (Ev.bind (mt_ev (i + 1) (by omega)) (Ev.congr (fun k => if_pos rfl) hr))
    simp only [laws_heldStringS.l0]
    rw [hrd, hlen, if_pos (by omega), if_pos (by omega), w1 i (by omega), w1 (i + 1) (by omega)]
theorem heldS_ev (n : Nat) (hn : n ≤ 1048576) : Ev (fun k => laws_heldStringS.f k (uptoT 0 n) 1) (((n + 1 : Nat) : Int)) := by
  have := heldS_loop n hn n 0 [] rfl (by omega)
  simpa [laws_heldStringS.f] using this
theorem eqS_loop (l : List ByteArray) (hl : l.length ≤ 1048576) : ∀ (d i : Nat), i + d = l.length → Ev (fun k => laws_eqStringS.l0 k l l (i : Int)) true := by
  intro d
  induction d with
  | zero =>
    intro i hi
    refine Ev.step (f := fun _ => some true) (fun k => ?_) (Ev.now _)
    simp only [laws_eqStringS.l0]
    rw [if_neg (by omega)]
  | succ d ih =>
    intro i hi
    refine Ev.step (f := fun k => laws_eqStringS.l0 k l l ((i + 1 : Nat) : Int)) (fun k => ?_) (ih (i + 1) (by omega))
    simp only [laws_eqStringS.l0]
    rw [if_pos (by omega), if_pos (by omega), if_pos (by omega), if_pos trivial, w1 i (by omega)]
theorem eqS_ev (l : List ByteArray) (hl : l.length ≤ 1048576) : Ev (fun k => laws_eqStringS.f k l l) true := by
  refine Ev.congr (f := fun k => laws_eqStringS.l0 k l l ((0 : Nat) : Int)) (fun k => ?_) (eqS_loop l hl l.length 0 (by omega))
  simp only [laws_eqStringS.f]
  rw [if_pos trivial]
  rfl

theorem eqS (A0 : Option Addr) (c0 : Nat) (A1 : Option Addr) (c1 : Nat) (l : List ByteArray) (hl : l.length ≤ 1048576) (w : World) (h0 : Kd.C Kd.string w A0 l.length l) (hc0 : l.length ≤ c0) (h1 : Kd.C Kd.string w A1 l.length l) (hc1 : l.length ≤ c1) :
    Calls Tryd.prog 10 #[.slice A0 l.length c0, .slice A1 l.length c1] w fun e w' => e = .returned (.bool true) ∧ Drawn0 w w' := by
  obtain ⟨k, hk⟩ := (eqS_ev l hl).rounds
  exact laws_eqStringS.calls k A0 c0 l A1 c1 l _ w h0 hc0 h1 hc1 hk
theorem markS (v : Value) (l : List ByteArray) (hl : l.length ≤ 1048576) (w0 w : World) (hB : Below w0.heap.size w0 w) (ho : Kd.R Kd.string 9 w w0.heap.size (fun _ => True) v l) :
    Calls Tryd.prog 11 #[v, .int .i64 1] w fun e w' => e = .returned (.int .i64 ((l.length + 1 : Nat) : Int)) ∧ Kd.R Kd.string 9 w' w0.heap.size (fun _ => True) v (uptoT 0 l.length) ∧ Below w0.heap.size w0 w' := by
  obtain ⟨k, hk⟩ := (markS_ev l hl).rounds
  exact (laws_markStringS.calls k (fun _ => True) v l 1 _ _ w0 w hB ho hk).mono fun e w' ⟨h1, h2, h3, _⟩ => ⟨h1, Kd.R_mono h2 (fun _ _ => trivial), h3⟩
theorem heldS (A : Option Addr) (c n : Nat) (hn : n ≤ 1048576) (w : World) (h0 : Kd.C Kd.string w A (uptoT 0 n).length (uptoT 0 n)) (hc : (uptoT 0 n).length ≤ c) :
    Calls Tryd.prog 12 #[.slice A n c, .int .i64 1] w fun e w' => e = .returned (.int .i64 ((n + 1 : Nat) : Int)) ∧ Below w.heap.size w w' := by
  obtain ⟨k, hk⟩ := (heldS_ev n hn).rounds
  have := laws_heldStringS.calls k A c (uptoT 0 n) 1 _ w h0 hc hk
  rwa [uptoT_len] at this
end Go.Proofs.YtleacijhpkogpaaDoor.RMarksS
