/- Pairs who see each other: a contract over the printed walk of spec.PairsSeeing, the walk of impl.PairsSeeing. -/
import Derived.Test.YtleacijhpkogpacPFnExactPairsSeeingx5
import Derived.Test.YtleacijhpkogpacHGood
namespace Go.Proofs.Ytleacijhpkogpac.HPairs
open Go.RowKit Go.Proofs.YtleacijhpkogpacW.PrintWords Go.Proofs.YtleacijhpkogpacW.PrintLast Go.Proofs.YtleacijhpkogpacW.PrintMore Go.Proofs.Ytleacijhpkogpac.PFnExactPairsSeeing Go.Proofs.Ytleacijhpkogpac.HImpl Go.Proofs.Ytleacijhpkogpac.HSpecG
set_option linter.unusedVariables false
set_option linter.unusedSimpArgs false
attribute [local go_sem] max2_int max_two

/-- The pairs of soldier i (of height h) with those from j on, m being the greatest height between. -/
def prJ (h : Int) (i : Nat) : List Int → Nat → Int → List (List Int)
  | [], _, _ => []
  | x :: t, j, m => (if m < h ∧ m < x then [[(i : Int), (j : Int)]] else []) ++ prJ h i t (j + 1) (if m < x then x else m)
def prI (l : List Int) : Nat → Nat → List (List Int)
  | 0, _ => []
  | d + 1, i => prJ (rd l (i : Int)) i (l.drop (i + 1)) (i + 1) 0 ++ prI l d (i + 1)
def pairsL (l : List Int) : List (List Int) := prI l l.length 0
theorem prJ_done (h : Int) (i : Nat) : ∀ (t : List Int) (j : Nat) (m : Int), h ≤ m → prJ h i t j m = []
  | [], _, _, _ => rfl
  | x :: t, j, m, hm => by
    rw [prJ, if_neg (by omega), prJ_done h i t (j + 1) _ (by split <;> omega)]; rfl
theorem prJ_len (h : Int) (i : Nat) : ∀ (t : List Int) (j : Nat) (m : Int), (prJ h i t j m).length ≤ t.length
  | [], _, _ => Nat.le_refl _
  | x :: t, j, m => by
    have := prJ_len h i t (j + 1) (if m < x then x else m)
    rw [prJ, List.length_append]
    split <;> simp <;> omega
theorem prI_len (l : List Int) : ∀ d i, (prI l d i).length ≤ d * l.length
  | 0, _ => by simp [prI]
  | d + 1, i => by
    have h1 := prI_len l d (i + 1)
    have h2 := prJ_len (rd l (i : Int)) i (l.drop (i + 1)) (i + 1) 0
    rw [List.length_drop] at h2
    have e : (d + 1) * l.length = d * l.length + l.length := Nat.succ_mul _ _
    rw [prI, List.length_append, e]; omega
/-! ### the reference -/
theorem spec_inner (l : List Int) (hl : l.length ≤ 40) (i : Nat) (hi : i ≤ 40) (h : Int) (R : List (List Int)) (B : Nat) (hB : B ≤ 1000000)
    (hnext : ∀ acc : List (List Int), acc.length ≤ B → Ev (fun k => spec_PairsSeeing.l0 k l acc l (l.length : Int) ((i + 1 : Nat) : Int)) (acc ++ R, true)) :
    ∀ (d j : Nat) (m : Int) (acc : List (List Int)), j + d = l.length → acc.length + d ≤ B →
    Ev (fun k => spec_PairsSeeing.l1 k l acc (i : Int) h m (j : Int) l (l.length : Int) (i : Int)) (acc ++ (prJ h i (l.drop j) j m ++ R), true) := by
  intro d
  induction d with
  | zero =>
    intro j m acc hj ha
    rw [List.drop_eq_nil_of_le (by omega), prJ, List.nil_append]
    refine Ev.step (fun k => ?_) (hnext acc (by omega))
    rw [spec_PairsSeeing.l1, if_neg (by omega), w1 i (by omega)]
  | succ d ih =>
    intro j m acc hj ha
    have hlt : j < l.length := by omega
    rw [drop_cons l j hlt, prJ]
    generalize hx : rd l (j : Int) = x
    have hmx : spec_l1Most.f m x = some (if m < x then x else m) := by
      unfold spec_l1Most.f
      by_cases c : m < x
      · rw [if_neg (by omega), if_pos c]
      · by_cases c2 : m > x
        · rw [if_pos c2, if_neg c]
        · rw [if_neg c2, if_neg c, show x = m by omega]
    have hle : spec_l1Least.f h x = some (if h < x then h else x) := by
      unfold spec_l1Least.f
      split <;> rfl
    by_cases c : m < h ∧ m < x
    · have hr := ih (j + 1) (if m < x then x else m) (acc ++ [[(i : Int), (j : Int)]]) (by omega) (by simp; omega)
      rw [List.append_assoc] at hr
      rw [if_pos c, List.append_assoc]
      refine Ev.step (fun k => ?_) hr
      rw [spec_PairsSeeing.l1, if_pos (by omega), if_pos (by omega), hx, hle]
      simp only [Option.bind_some]
      rw [if_pos (show m < (if h < x then h else x) by split <;> omega), if_pos (by omega), hmx]
      simp only [Option.bind_some]
      rw [w1 j (by omega)]
    · have hr := ih (j + 1) (if m < x then x else m) acc (by omega) (by omega)
      rw [if_neg c, List.nil_append]
      refine Ev.step (fun k => ?_) hr
      rw [spec_PairsSeeing.l1, if_pos (by omega), if_pos (by omega), hx, hle]
      simp only [Option.bind_some]
      rw [if_neg (show ¬ m < (if h < x then h else x) by split <;> omega), hmx]
      simp only [Option.bind_some]
      rw [w1 j (by omega)]
theorem spec_outer (l : List Int) (hl : l.length ≤ 40) : ∀ (d i : Nat) (acc : List (List Int)), i + d = l.length → acc.length + d * 40 ≤ 1000000 →
    Ev (fun k => spec_PairsSeeing.l0 k l acc l (l.length : Int) (i : Int)) (acc ++ prI l d i, true) := by
  intro d
  induction d with
  | zero =>
    intro i acc hi ha
    rw [prI, List.append_nil]
    refine Ev.step (f := fun _ => some (acc, true)) (fun k => ?_) (Ev.now _)
    rw [spec_PairsSeeing.l0, if_neg (by omega)]
  | succ d ih =>
    intro i acc hi ha
    have h1 := spec_inner l hl i (by omega) (rd l (i : Int)) (prI l d (i + 1)) (1000000 - d * 40) (by omega) (fun acc2 h2 => ih (i + 1) acc2 (by omega) (by omega)) (l.length - (i + 1)) (i + 1) 0 acc (by omega) (by omega)
    rw [prI]
    refine Ev.step (fun k => ?_) h1
    rw [spec_PairsSeeing.l0, if_pos (by omega), if_pos (by omega), if_pos (by omega), w1 i (by omega)]
theorem spec_calls (A0 : Option Addr) (c0 : Nat) (l : List Int) (hl : l.length ≤ 1048576) (w : World) (h0 : Kd.C (Kd.int .i64) w A0 l.length l) (hc0 : l.length ≤ c0) :
    Calls Try.prog 10 #[.slice A0 l.length c0] w fun e w' => ∃ v : Value, e = .returned (.tuple #[v, .bool (good l)]) ∧ Kd.S (Kd.slice 3 (Kd.int .i64)) 25 w' w.heap.size (fun _ => True) v (if good l = true then pairsL l else []) ∧ Below w.heap.size w w' := by
  have h : Ev (fun k => spec_PairsSeeing.f k l) (if good l = true then pairsL l else [], good l) := by
    refine Ev.bind (good_ev l hl) ?_
    cases hg : good l with
    | true =>
      have := good_len hg
      have h1 := spec_outer l this.2 l.length 0 [] (by omega) (by simp; omega)
      rw [List.nil_append] at h1
      simp only [if_true]
      exact h1
    | false => exact Ev.now _
  obtain ⟨k, hk⟩ := h.rounds
  exact spec_PairsSeeing.calls k A0 c0 l _ _ w h0 hc0 hk
/-! ### the program -/
theorem info_row : (Try.prog.info? 25).map (fun i => (i.zero, i.size, i.bytes)) = some (some (.slice none 0 0), 1, 24) := by kernel_rfl
set_option maxHeartbeats 8000000 in
set_option maxRecDepth 100000 in
theorem impl_no (A0 : Option Addr) (c0 : Nat) (l : List Int) (hg : good l = false) (w : World) (h0 : Kd.C (Kd.int .i64) w A0 l.length l) (hc0 : l.length ≤ c0) :
    Calls Try.prog 12 #[.slice A0 l.length c0] w fun e w' => ∃ v : Value, e = .returned (.tuple #[v, .bool false]) ∧ Kd.S (Kd.slice 3 (Kd.int .i64)) 25 w' w.heap.size (fun _ => True) v [] ∧ Below w.heap.size w w' := by
  have HA := Aside0.mk (are_is A0 c0 l false hg w h0 hc0)
  have HB := Aside0.mk (Below.refl w.heap.size w)
  clear hg h0
  go_enter Try.func12, Try.ntmps12
  go_wp2_with (go_at_call 61; refine HA.out.mono ?_; rintro e w' ⟨rfl, ⟨nd, rfl⟩⟩)
  go_ret2
  exact ⟨_, rfl, Kd.S_nil _ _ _ _ _, (by repeat (first | (with_reducible first | exact HB.out | apply below_alloc | apply pw_below_drewN | apply below_drew1) | exact HB.out))⟩
set_option maxHeartbeats 8000000 in
set_option maxRecDepth 100000 in
theorem impl_yes (A0 : Option Addr) (c0 : Nat) (l : List Int) (hg : good l = true) (w : World) (h0 : Kd.C (Kd.int .i64) w A0 l.length l) (hc0 : l.length ≤ c0) :
    Calls Try.prog 12 #[.slice A0 l.length c0] w fun e w' => ∃ v : Value, e = .returned (.tuple #[v, .bool true]) ∧ Kd.S (Kd.slice 3 (Kd.int .i64)) 25 w' w.heap.size (fun _ => True) v (pairsL l) ∧ Below w.heap.size w w' := by
  have HA := Aside0.mk (are_is A0 c0 l true hg w h0 hc0)
  have HB := Aside0.mk (Below.refl w.heap.size w)
  obtain ⟨hl1, hl2⟩ := good_len hg
  have HC := Aside0.mk h0
  have HPL : Aside0 (prI l l.length 0 = pairsL l) := ⟨rfl⟩
  clear hg h0
  go_enter Try.func12, Try.ntmps12
  go_wp2_with (first | (go_at_call 61; refine HA.out.mono ?_; rintro e w' ⟨rfl, ⟨nd, rfl⟩⟩) | ((with_reducible refine gate_dst (N := 11) rfl ?_); refine Kd.S_lit (Kd.slice 3 (Kd.int .i64)) (w0 := w) w.heap.size 25 ?hg (N := 11) ?hd (xs := ([] : List (List Int))) (inner := []) (ok := fun _ => True) (okp := fun _ => True) ?hr ?hp (fun _ hk => hk) trivial (by repeat (first | (with_reducible first | exact HB.out | apply below_alloc | apply pw_below_drewN | apply below_drew1) | exact HB.out)) (below_size (by repeat (first | (with_reducible first | exact HB.out | apply below_alloc | apply pw_below_drewN | apply below_drew1) | exact HB.out))) (by simp) ?_; (case hd => rfl); (case hg => rfl); (case hr => first | (go_simp; done) | (go_simp; rfl)); (case hp => exact (Reps.none _ _)); intro v1 w2 ho hb hg hnew; have HO := Aside0.mk ho; have HBn := Aside0.mk hb; clear ho hb hg hnew HB; have HB := HBn; clear HBn))
  go_loopg [4, 14] l.length (fun kq v4 v14 w' => ∃ (i : Nat) (acc : List (List Int)), v14 = .int .i64 (i : Int) ∧ Aside0 (kq + i = l.length) ∧ Aside0 (acc.length ≤ i * 40) ∧ Aside0 (acc ++ prI l (l.length - i) i = pairsL l) ∧ Aside0 (Kd.S (Kd.slice 3 (Kd.int .i64)) 25 w' w.heap.size (fun _ => True) v4 acc) ∧ Aside0 (Below w.heap.size w w'))
  case atStart => exact ⟨0, [], rfl, ⟨rfl⟩, ⟨by simp⟩, ⟨by rw [List.nil_append]; exact HPL.out⟩, HO, HB⟩
  case round =>
    clear HO HB HA HPL
    obtain ⟨i, acc, rfl, HK, HAL, HE, HO, HB⟩ := hrel
    by_cases hi : i < l.length
    · have HE1 : Aside0 (acc ++ (prJ (rd l (i : Int)) i (l.drop (i + 1)) (i + 1) 0 ++ prI l (l.length - (i + 1)) (i + 1)) = pairsL l) := ⟨by
        have := HE.out
        rw [show l.length - i = (l.length - (i + 1)) + 1 by omega, prI] at this
        exact this⟩
      generalize hh : rd l (i : Int) = h at HE1
      have HH := Aside0.mk hh
      clear hh HE
      obtain ⟨wo, hwo⟩ : ∃ wo : World, wo = wr := ⟨_, rfl⟩
      clear hwo
      go_wp2_with fail
      go_loopg [4, 6, 7] (l.length - (i + 1)) (fun kq2 v4 v6 v7 w' => ∃ (k : Nat) (m : Int) (acc2 : List (List Int)), v6 = .int .i64 m ∧ v7 = .int .i64 (k : Int) ∧ Aside0 (kq2 + k = l.length) ∧ Aside0 (acc2.length ≤ i * 40 + k) ∧ Aside0 (acc2 ++ (prJ h i (l.drop k) k m ++ prI l (l.length - (i + 1)) (i + 1)) = pairsL l) ∧ Aside0 (Kd.S (Kd.slice 3 (Kd.int .i64)) 25 w' w.heap.size (fun _ => True) v4 acc2) ∧ Aside0 (Below w.heap.size w w'))
      case atStart => exact ⟨i + 1, 0, acc, rfl, rfl, ⟨by omega⟩, ⟨by have := HAL.out; omega⟩, HE1, HO, HB⟩
      case round =>
        clear HE1 HO HB
        obtain ⟨k, m, acc2, rfl, rfl, HK2, HAL2, HE, HO, HB⟩ := hrel
        have fin : ∀ (hE : prJ h i (l.drop k) k m = []), acc2 ++ prI l (l.length - (i + 1)) (i + 1) = pairsL l := fun hE => by have := HE.out; rw [hE, List.nil_append] at this; exact this
        have FIN := Aside0.mk fin
        clear fin
        by_cases hk : k < l.length
        · obtain ⟨ad, e, hci⟩ := Kd.at_int HC.out (i : Int) (by omega) (by omega)
          cases e
          rw [HH.out, Int.toNat_natCast] at hci
          have HCI := Aside0.mk hci
          replace hci := pw_cell_below HB.out hci
          by_cases hm : m < h
          · obtain ⟨ad2, e, hck⟩ := Kd.at_int HC.out (k : Int) (by omega) (by omega)
            cases e
            rw [Int.toNat_natCast] at hck
            have HE2 : Aside0 (acc2 ++ ((if m < h ∧ m < rd l (k : Int) then [[(i : Int), (k : Int)]] else []) ++ prJ h i (l.drop (k + 1)) (k + 1) (if m < rd l (k : Int) then rd l (k : Int) else m) ++ prI l (l.length - (i + 1)) (i + 1)) = pairsL l) := ⟨by
              have := HE.out
              rw [drop_cons l k hk, prJ] at this
              exact this⟩
            generalize rd l (k : Int) = x at hck HE2
            have HCK := Aside0.mk hck
            replace hck := pw_cell_below HB.out hck
            clear HE FIN
            have hal := HAL2.out
            by_cases hx : m < x
            · have HE3 : Aside0 ((acc2 ++ [[(i : Int), (k : Int)]]) ++ (prJ h i (l.drop (k + 1)) (k + 1) x ++ prI l (l.length - (i + 1)) (i + 1)) = pairsL l) := ⟨by
                have := HE2.out
                rw [if_pos ⟨hm, hx⟩, if_pos hx] at this
                simpa [List.append_assoc] using this⟩
              go_wp2_with (first | ((with_reducible refine gate_dst (N := 42) rfl ?_); refine Kd.R_lit (Kd.int .i64) (w0 := wr) wr.heap.size 3 ?hg (N := 42) ?hd (xs := ([(i : Int), (k : Int)] : List Int)) (inner := [.int .i64 (i : Int), .int .i64 (k : Int)]) (ok := fun _ => True) (okp := fun _ => True) ?hr ?hp (fun _ hk => hk) trivial (Below.refl _ _) (Nat.le_refl _) (by simp) ?_; (case hd => rfl); (case hg => rfl); (case hr => first | (go_simp; done) | (go_simp; rfl)); (case hp => exact (Reps.one (show Kd.M (Kd.int .i64) _ _ _ (i : Int) [.int .i64 (i : Int)] from rfl) (Reps.one (show Kd.M (Kd.int .i64) _ _ _ (k : Int) [.int .i64 (k : Int)] from rfl) (Reps.none _ _)))); intro v9 w9 ho hb hg hnew; obtain ⟨A9, c9, rfl⟩ := Kd.R_slice ho; have HP9 := Aside0.mk (Kd.R_lower (Kd.R_mono (ok' := fun k => wr.heap.size ≤ k) (Kd.R_bound ho) (fun k hk => hk.2.1)) HB.out.size); have HLT := Aside0.mk (Kd.S_lt HO.out); have HO9 := Aside0.mk (Kd.S_mono (ok' := fun k => True ∧ ¬ wr.heap.size ≤ k) (Kd.S_old HO.out hb) (fun k hk => ⟨trivial, by have := hk.2; omega⟩)); have HB9 := Aside0.mk (below_step HB.out hb); clear ho hb hg hnew HO HB) | ((with_reducible refine gate_builtin (b := .append) (xs := #[.tmp 39, .tmp 43]) rfl ?_); at_builtin; refine Kd.S_append (Kd.slice 3 (Kd.int .i64)) (w0 := w) w.heap.size rfl (.tmp 39) (.tmp 43) 26 25 (.slice none 0 0) 24 rfl Try.underlying26 info_row rfl (by decide) (by omega) u4 acc2 [(i : Int), (k : Int)] [.slice A9 2 c9] (fun _ => True) (fun k => wr.heap.size ≤ k) rfl rfl ?aP ?aK (fun _ _ => trivial) ?aO ?aB ?aS ?aL ?_; (case aP => exact ⟨_, rfl, HP9.out⟩); (case aK => exact (fun k hk => ⟨trivial, fun e => by have := HLT.out k e.symm; omega⟩)); (case aO => exact HO9.out); (case aB => exact HB9.out); (case aS => exact HB9.out.size); (case aL => omega); intro v7 w7 ho hb hg hat; have HO := Aside0.mk ho; have HB := Aside0.mk hb; have hck7 := pw_cell_below hb HCK.out; clear ho hb hg hat))
              go_roundg (l.length - (k + 1))
              case measure => have := HK2.out; omega
              case rel => exact ⟨k + 1, x, acc2 ++ [[(i : Int), (k : Int)]], rfl, rfl, ⟨by have := HK2.out; omega⟩, ⟨by simp; omega⟩, HE3, HO, HB⟩
            · have HE3 : Aside0 (acc2 ++ (prJ h i (l.drop (k + 1)) (k + 1) m ++ prI l (l.length - (i + 1)) (i + 1)) = pairsL l) := ⟨by
                have := HE2.out
                rw [if_neg (fun z => hx z.2), if_neg hx, List.nil_append] at this
                exact this⟩
              go_wp2_with fail
              go_roundg (l.length - (k + 1))
              case measure => have := HK2.out; omega
              case rel => exact ⟨k + 1, m, acc2, rfl, rfl, ⟨by have := HK2.out; omega⟩, ⟨by omega⟩, HE3, HO, HB⟩
          · have HE3 : Aside0 (acc2 ++ prI l (l.length - (i + 1)) (i + 1) = pairsL l) := ⟨FIN.out (prJ_done h i _ _ _ (by omega))⟩
            have hal := HAL2.out
            clear FIN
            go_wp2_with fail
            go_roundg (l.length - (i + 1))
            case measure => have := HK.out; omega
            case rel => exact ⟨i + 1, acc2, rfl, ⟨by have := HK.out; omega⟩, ⟨by omega⟩, HE3, HO, HB⟩
        · have HE3 : Aside0 (acc2 ++ prI l (l.length - (i + 1)) (i + 1) = pairsL l) := ⟨FIN.out (by rw [List.drop_eq_nil_of_le (by omega)]; rfl)⟩
          have hal := HAL2.out
          have hk2 := HK2.out
          clear FIN
          go_wp2_with fail
          go_roundg (l.length - (i + 1))
          case measure => have := HK.out; omega
          case rel => exact ⟨i + 1, acc2, rfl, ⟨by have := HK.out; omega⟩, ⟨by omega⟩, HE3, HO, HB⟩
    · have hii : i = l.length := by have := HK.out; omega
      have HE3 : Aside0 (acc = pairsL l) := ⟨by have := HE.out; rw [hii, Nat.sub_self, prI, List.append_nil] at this; exact this⟩
      clear HE
      go_wp2_with fail
      go_ret2
      exact ⟨_, rfl, by rw [← HE3.out]; exact HO.out, (by repeat (first | (with_reducible first | exact HB.out | apply below_alloc | apply pw_below_drewN | apply below_drew1) | exact HB.out))⟩
end Go.Proofs.Ytleacijhpkogpac.HPairs
