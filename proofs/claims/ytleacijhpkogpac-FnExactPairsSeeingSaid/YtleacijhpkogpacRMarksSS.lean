/- Lists of lists of numbers that are compared, marked and looked at: contracts over the printed walks of laws.eqIntSS and heldIntSS; the walk of laws.markIntSS. -/
import Derived.Test.YtleacijhpkogpacRMarks
import Derived.Test.YtleacijhpkogpacPFnExactPairsSeeingx9
import Derived.Test.YtleacijhpkogpacPFnExactPairsSeeingx13
namespace Go.Proofs.Ytleacijhpkogpac.RMarksSS
open Go.RowKit Go.Proofs.YtleacijhpkogpacW.PrintWords Go.Proofs.YtleacijhpkogpacW.PrintLast Go.Proofs.YtleacijhpkogpacW.PrintMore Go.Proofs.Ytleacijhpkogpac.PFnExactPairsSeeing Go.Proofs.Ytleacijhpkogpac.RMarks
set_option linter.unusedVariables false
set_option linter.unusedSimpArgs false

abbrev TT (W : World) (base : Nat) (ok : Nat → Prop) (v : Value) (t : List (List Int)) : Prop := Kd.S (Kd.slice 3 (Kd.int .i64)) 25 W base ok v t
def tot : List (List Int) → Nat
  | [] => 0
  | r :: t => r.length + tot t
/-- The marks: numbers running on from row to row. -/
def mkSS : Nat → List (List Int) → List (List Int)
  | _, [] => []
  | a, r :: t => upto a r.length :: mkSS (a + r.length) t
theorem mkSS_len : ∀ (t : List (List Int)) (a : Nat), (mkSS a t).length = t.length
  | [], _ => rfl
  | r :: t, a => by rw [mkSS, List.length_cons, mkSS_len t, List.length_cons]
theorem tot_snoc : ∀ (t : List (List Int)) (r : List Int), tot (t ++ [r]) = tot t + r.length
  | [], r => by simp [tot]
  | x :: t, r => by rw [List.cons_append, tot, tot, tot_snoc t r]; omega
theorem mkSS_snoc : ∀ (t : List (List Int)) (a : Nat) (r : List Int), mkSS a (t ++ [r]) = mkSS a t ++ [upto (a + tot t) r.length]
  | [], a, r => by simp [mkSS, tot]
  | x :: t, a, r => by rw [List.cons_append, mkSS, mkSS, mkSS_snoc t, tot, List.cons_append, Nat.add_assoc]
/-- The rows while they are marked: those ahead of i are. -/
def curS (t : List (List Int)) (i : Nat) : List (List Int) := mkSS 0 (t.take i) ++ t.drop i
theorem curS_len (t : List (List Int)) (i : Nat) : (curS t i).length = t.length := by simp [curS, mkSS_len]; omega
theorem curS_get (t : List (List Int)) (i : Nat) (h : i < t.length) : (curS t i).getD i [] = t[i] := by
  have hl : (mkSS 0 (t.take i)).length = i := by rw [mkSS_len, List.length_take]; omega
  rw [curS, List.getD_eq_getElem?_getD, List.getElem?_append_right (by omega), hl, Nat.sub_self, List.drop_eq_getElem_cons h]; rfl
theorem curS_set (t : List (List Int)) (i : Nat) (h : i < t.length) : (curS t i).set i (upto (tot (t.take i)) t[i].length) = curS t (i + 1) := by
  have hl : (mkSS 0 (t.take i)).length = i := by rw [mkSS_len, List.length_take]; omega
  rw [curS, List.set_append_right _ _ (by omega), hl, Nat.sub_self, List.drop_eq_getElem_cons h, List.set_cons_zero, curS, List.take_succ_eq_append_getElem h, mkSS_snoc, Nat.zero_add, List.append_assoc]; rfl
theorem mark_loopA (a n : Nat) (hn : n ≤ 1048576) (ha : a ≤ 1000000000) : ∀ (d i : Nat) (x : List Int), x.length = n → i + d = n →
    Ev (fun k => laws_markIntS.l0 k x ((a + i + 1 : Nat) : Int) (i : Int)) (((a + n + 1 : Nat) : Int), x.take i ++ upto (a + i) d) := by
  intro d
  induction d with
  | zero =>
    intro i x hx hi
    refine Ev.step (f := fun _ => some (((a + i + 1 : Nat) : Int), x)) (fun k => ?_) ?_
    · simp only [laws_markIntS.l0]
      rw [if_neg (by omega)]
    · rw [List.take_of_length_le (by omega)]
      simp only [upto, List.append_nil]
      rw [show i = n by omega]
      exact Ev.now _
  | succ d ih =>
    intro i x hx hi
    have hr := ih (i + 1) (x.set i ((a + i + 1 : Nat) : Int)) (by simpa using hx) (by omega)
    have e : (x.set i ((a + i + 1 : Nat) : Int)).take (i + 1) ++ upto (a + (i + 1)) d = x.take i ++ upto (a + i) (d + 1) := by
      rw [List.take_succ_eq_append_getElem (by simp; omega), List.getElem_set_self, List.append_assoc]
      simp [List.take_set_of_le, upto, Nat.add_assoc]
    rw [e] at hr
    refine Ev.step (f := fun k => laws_markIntS.l0 k (x.set i ((a + i + 1 : Nat) : Int)) ((a + (i + 1) + 1 : Nat) : Int) ((i + 1 : Nat) : Int)) (fun k => ?_) hr
    simp only [laws_markIntS.l0]
    rw [if_pos (by omega), if_pos (by omega), w1 i (by omega), w1 (a + i + 1) (by omega)]
    rfl
theorem held_loopA (a n : Nat) (hn : n ≤ 1048576) (ha : a ≤ 1000000000) : ∀ (d i : Nat) (p : List Int), p.length = i → i + d = n →
    Ev (fun k => laws_heldIntS.l0 k (p ++ upto (a + i) d) ((a + i + 1 : Nat) : Int) (i : Int)) (((a + n + 1 : Nat) : Int)) := by
  intro d
  induction d with
  | zero =>
    intro i p hp hi
    refine Ev.step (f := fun _ => some (((a + i + 1 : Nat) : Int))) (fun k => ?_) ?_
    · simp only [laws_heldIntS.l0]
      rw [if_neg (by simp [upto]; omega)]
    · rw [show i = n by omega]
      exact Ev.now _
  | succ d ih =>
    intro i p hp hi
    have hr := ih (i + 1) (p ++ [((a + i + 1 : Nat) : Int)]) (by simp [hp]) (by omega)
    have e : (p ++ [((a + i + 1 : Nat) : Int)]) ++ upto (a + (i + 1)) d = p ++ upto (a + i) (d + 1) := by simp [upto, Nat.add_assoc]
    rw [e] at hr
    have hlen : (p ++ upto (a + i) (d + 1)).length = i + (d + 1) := by simp [upto_len, hp]
    have hrd : rd (p ++ upto (a + i) (d + 1)) (i : Int) = ((a + i + 1 : Nat) : Int) := by
      rw [rd_nat _ i (by omega), List.getElem_append_right (by omega)]
      simp [hp, upto]
    refine Ev.step (f := fun k => laws_heldIntS.l0 k (p ++ upto (a + i) (d + 1)) ((a + (i + 1) + 1 : Nat) : Int) ((i + 1 : Nat) : Int)) (fun k => ?_) hr
    simp only [laws_heldIntS.l0]
    rw [hrd, hlen, if_pos (by omega), if_pos (by omega), if_pos rfl, w1 i (by omega), w1 (a + i + 1) (by omega)]
    rfl
theorem heldA_ev (a n : Nat) (hn : n ≤ 1048576) (ha : a ≤ 1000000000) : Ev (fun k => laws_heldIntS.f k (upto a n) ((a + 1 : Nat) : Int)) (((a + n + 1 : Nat) : Int)) := by
  have := held_loopA a n hn ha n 0 [] rfl (by omega)
  simpa [laws_heldIntS.f] using this
theorem markA (v : Value) (l : List Int) (a : Nat) (ha : a ≤ 1000000000) (hl : l.length ≤ 1048576) (P0 : Nat → Prop) (w0 w : World) (hB : Below w0.heap.size w0 w) (ho : Kd.R (Kd.int .i64) 3 w w0.heap.size P0 v l) :
    Calls Try.prog 15 #[v, .int .i64 ((a + 1 : Nat) : Int)] w fun e w' => e = .returned (.int .i64 ((a + l.length + 1 : Nat) : Int)) ∧ Kd.R (Kd.int .i64) 3 w' w0.heap.size (fun k => some k = v.ownBlock) v (upto a l.length) ∧ Below w0.heap.size w0 w' ∧ Kept w w' P0 := by
  have h := mark_loopA a l.length hl ha l.length 0 l rfl (by omega)
  have h2 : Ev (fun k => laws_markIntS.f k l ((a + 1 : Nat) : Int)) (((a + l.length + 1 : Nat) : Int), upto a l.length) := by
    simpa [laws_markIntS.f] using h
  obtain ⟨k, hk⟩ := h2.rounds
  exact (laws_markIntS.calls k P0 v l _ _ _ w0 w hB ho hk).mono fun e w' ⟨h1, h2, h3, h4⟩ => ⟨h1, Kd.R_tight rfl h2, h3, h4⟩
/-! ### lists of lists -/
theorem eqSS_loop (t : List (List Int)) (hl : t.length ≤ 1048576) (hr : ∀ r ∈ t, r.length ≤ 1048576) : ∀ (d i : Nat), i + d = t.length → Ev (fun k => laws_eqIntSS.l0 k t t (i : Int)) true := by
  intro d
  induction d with
  | zero =>
    intro i hi
    refine Ev.step (f := fun _ => some true) (fun k => ?_) (Ev.now _)
    simp only [laws_eqIntSS.l0]
    rw [if_neg (by omega)]
  | succ d ih =>
    intro i hi
    have hlt : i < t.length := by omega
    have e : rd_L1 t (i : Int) = t[i] := by unfold rd_L1; rw [Int.toNat_natCast, List.getD_eq_getElem?_getD, List.getElem?_eq_getElem hlt]; rfl
    refine Ev.step (f := fun k => (laws_eqIntS.f k t[i] t[i]).bind fun t129 => (if t129 = true then (laws_eqIntSS.l0 k t t ((i + 1 : Nat) : Int)) else (some false))) (fun k => ?_) ?_
    · simp only [laws_eqIntSS.l0]
      rw [if_pos (by omega), if_pos (by omega), if_pos (by omega), e, w1 i (by omega)]
    · refine Ev.bind (eqIntS_ev t[i] (hr _ (List.getElem_mem hlt))) ?_
      simp only [if_true]
      exact ih (i + 1) (by omega)
theorem eqSS (A0 : Option Addr) (c0 : Nat) (A1 : Option Addr) (c1 : Nat) (t : List (List Int)) (hl : t.length ≤ 1048576) (hr : ∀ r ∈ t, r.length ≤ 1048576) (w : World) (h0 : Kd.C (Kd.slice 3 (Kd.int .i64)) w A0 t.length t) (hc0 : t.length ≤ c0) (h1 : Kd.C (Kd.slice 3 (Kd.int .i64)) w A1 t.length t) (hc1 : t.length ≤ c1) :
    Calls Try.prog 13 #[.slice A0 t.length c0, .slice A1 t.length c1] w fun e w' => e = .returned (.bool true) ∧ Drawn0 w w' := by
  have h : Ev (fun k => laws_eqIntSS.f k t t) true := by
    refine Ev.congr (f := fun k => laws_eqIntSS.l0 k t t ((0 : Nat) : Int)) (fun k => ?_) (eqSS_loop t hl hr t.length 0 (by omega))
    simp only [laws_eqIntSS.f]
    rw [if_pos trivial]; rfl
  obtain ⟨k, hk⟩ := h.rounds
  exact laws_eqIntSS.calls k A0 c0 t A1 c1 t _ w h0 hc0 h1 hc1 hk
theorem heldSS_loop (n : Nat) (hn : n ≤ 1048576) : ∀ (t : List (List Int)) (a i : Nat) (p : List (List Int)), p.length = i → i + t.length = n → (∀ r ∈ t, r.length ≤ 1048576) → a + tot t ≤ 1000000000 →
    Ev (fun k => laws_heldIntSS.l0 k (p ++ mkSS a t) ((a + 1 : Nat) : Int) (i : Int)) (((a + tot t + 1 : Nat) : Int)) := by
  intro t
  induction t with
  | nil =>
    intro a i p hp hi hr ha
    refine Ev.step (f := fun _ => some (((a + 1 : Nat) : Int))) (fun k => ?_) (Ev.now _)
    simp only [laws_heldIntSS.l0]
    rw [if_neg (by simp [mkSS]; omega)]
  | cons r t ih =>
    intro a i p hp hi hr ha
    rw [tot] at ha ⊢
    simp only [List.length_cons] at hi
    have hrl := hr r List.mem_cons_self
    have h1 := ih (a + r.length) (i + 1) (p ++ [upto a r.length]) (by simp [hp]) (by omega) (fun x hx => hr x (List.mem_cons_of_mem _ hx)) (by omega)
    rw [List.append_assoc] at h1
    have e : rd_L1 (p ++ mkSS a (r :: t)) (i : Int) = upto a r.length := by
      unfold rd_L1
      rw [Int.toNat_natCast, List.getD_eq_getElem?_getD, List.getElem?_append_right (by omega), hp, Nat.sub_self]; rfl
    have hlen : (p ++ mkSS a (r :: t)).length = i + (t.length + 1) := by simp [mkSS_len, hp]
    refine Ev.step (f := fun k => (laws_heldIntS.f k (upto a r.length) ((a + 1 : Nat) : Int)).bind fun t134 => (if t134 < 0 then (some (-1)) else (laws_heldIntSS.l0 k (p ++ mkSS a (r :: t)) t134 ((i + 1 : Nat) : Int)))) (fun k => ?_) ?_
    · simp only [laws_heldIntSS.l0]
      rw [if_pos (by rw [hlen]; omega), if_pos (by omega), e, w1 i (by omega)]
    · refine Ev.bind (heldA_ev a r.length hrl (by omega)) ?_
      refine Ev.congr (fun k => if_neg (by omega)) ?_
      have e2 : a + r.length + tot t + 1 = a + (r.length + tot t) + 1 := by omega
      rw [e2] at h1
      exact h1
theorem heldSS (A : Option Addr) (c : Nat) (t : List (List Int)) (hl : t.length ≤ 1048576) (hr : ∀ r ∈ t, r.length ≤ 1048576) (ha : tot t ≤ 1000000000) (w : World) (h0 : Kd.C (Kd.slice 3 (Kd.int .i64)) w A (mkSS 0 t).length (mkSS 0 t)) (hc : (mkSS 0 t).length ≤ c) :
    Calls Try.prog 17 #[.slice A t.length c, .int .i64 1] w fun e w' => e = .returned (.int .i64 ((tot t + 1 : Nat) : Int)) ∧ Drawn0 w w' := by
  have h := heldSS_loop t.length hl t 0 0 [] rfl (by omega) hr (by omega)
  rw [List.nil_append, Nat.zero_add] at h
  have h2 : Ev (fun k => laws_heldIntSS.f k (mkSS 0 t) 1) (((tot t + 1 : Nat) : Int)) := by rw [Nat.zero_add] at h; exact h
  obtain ⟨k, hk⟩ := h2.rounds
  have := laws_heldIntSS.calls k A c (mkSS 0 t) 1 _ w h0 hc hk
  rwa [mkSS_len] at this
theorem tot_take (t : List (List Int)) (i : Nat) (h : i < t.length) : tot (t.take (i + 1)) = tot (t.take i) + t[i].length := by
  rw [List.take_succ_eq_append_getElem h, tot_snoc]
theorem tot_mono : ∀ (t : List (List Int)) (i : Nat), tot (t.take i) ≤ tot t
  | [], i => by simp [tot]
  | r :: t, 0 => by simp [tot]
  | r :: t, i + 1 => by have := tot_mono t i; rw [List.take_succ_cons, tot, tot]; omega
set_option maxHeartbeats 8000000 in
set_option maxRecDepth 100000 in
theorem markSS (v : Value) (t : List (List Int)) (hl : t.length ≤ 1048576) (hr : ∀ r ∈ t, r.length ≤ 1048576) (ha : tot t ≤ 1000000000) (w0 w : World) (hB : Below w0.heap.size w0 w) (ho : TT w w0.heap.size (fun _ => True) v t) :
    Calls Try.prog 16 #[v, .int .i64 1] w fun e w' => e = .returned (.int .i64 ((tot t + 1 : Nat) : Int)) ∧ TT w' w0.heap.size (fun _ => True) v (mkSS 0 t) ∧ Below w0.heap.size w0 w' := by
  obtain ⟨A, c, rfl⟩ := Kd.S_slice ho
  have HO := Aside0.mk ho
  have HB := Aside0.mk hB
  have HR := Aside0.mk hr
  clear ho hB hr
  go_enter Try.func16, Try.ntmps16
  go_wp2_with fail
  go_loopg [1, 5] t.length (fun kq v1 v5 w' => ∃ (i : Nat), v5 = .int .i64 (i : Int) ∧ v1 = .int .i64 ((tot (t.take i) + 1 : Nat) : Int) ∧ Aside0 (kq + i = t.length) ∧ Aside0 (TT w' w0.heap.size (fun _ => True) (.slice A t.length c) (curS t i)) ∧ Aside0 (Below w0.heap.size w0 w'))
  case atStart => exact ⟨0, rfl, rfl, ⟨rfl⟩, HO, HB⟩
  case round =>
    clear HO HB
    obtain ⟨i, rfl, rfl, HK, HO, HB⟩ := hrel
    have htm := tot_mono t i
    by_cases hi : i < t.length
    · have hlc : (curS t i).length = t.length := curS_len t i
      obtain ⟨g, c', e, gb, gl, HG⟩ := Kd.S_form HO.out (by omega)
      rw [hlc] at e
      cases e
      obtain ⟨oki, cs, hcl, ⟨vr, rfl, hrr⟩, hcc, hok, hH⟩ := Kd.S_lend HO.out [] (i : Int) (by omega) (by omega)
      have hcell : wr.cell? ⟨g, i, none⟩ = some vr := by
        have h1 := hcc 0 vr rfl
        rwa [show (i : Int).toNat * (Kd.slice 3 (Kd.int .i64)).sz + 0 = i by simp [Kd.slice]] at h1
      rw [Int.toNat_natCast, curS_get t i hi] at hrr
      have HMK := Aside0.mk (markA vr t[i] (tot (t.take i)) (by omega) (HR.out _ (List.getElem_mem hi)) oki w0 wr HB.out hrr)
      have HOWN := Aside0.mk hrr.1
      have HH := Aside0.mk hH
      have HS := Aside0.mk (curS_set t i hi)
      have HT := Aside0.mk (tot_take t i hi)
      clear hrr hcc hok hH gb gl HG HO hlc htm hcl
      go_wp2_with fail
      refine HMK.out.mono ?_
      rintro e w5 ⟨rfl, hR, hb, hkept⟩
      have HO : Aside0 (TT w5 w0.heap.size (fun _ => True) (.slice (some ⟨g, 0, none⟩) t.length c) (curS t (i + 1))) := ⟨by
        have h1 := Kd.H_step HH.out (w1 := w5) (fun k _ hn hlt => hkept.2 k hlt hn)
        have h2 := Kd.H_back h1 (x' := upto (tot (t.take i)) t[i].length) (okp := fun k => some k = vr.ownBlock) ⟨vr, rfl, hR⟩ (fun k hk => HOWN.out k hk.symm)
        rw [Int.toNat_natCast, HS.out] at h2
        exact h2⟩
      have HB5 := Aside0.mk hb
      clear hR hb hkept HMK HH HB
      go_wp2_with fail
      go_roundg (t.length - (i + 1))
      case measure => have := HK.out; omega
      case rel => exact ⟨i + 1, rfl, by rw [HT.out]; rfl, ⟨by have := HK.out; omega⟩, HO, HB5⟩
    · have hii : i = t.length := by have := HK.out; omega
      have HT : Aside0 (tot (t.take i) = tot t) := ⟨by rw [hii, List.take_length]⟩
      have HC : Aside0 (curS t i = mkSS 0 t) := ⟨by rw [hii]; unfold curS; rw [List.take_length, List.drop_length, List.append_nil]⟩
      go_wp2_with fail
      go_ret
      exact ⟨by rw [HT.out]; rfl, by rw [← HC.out]; exact HO.out, HB.out⟩
end Go.Proofs.Ytleacijhpkogpac.RMarksSS
