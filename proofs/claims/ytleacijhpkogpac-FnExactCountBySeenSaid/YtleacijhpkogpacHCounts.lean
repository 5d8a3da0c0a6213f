/- The table of orders by who is seen: the walk of spec.heCounts over the printed walk of spec.heZero. -/
import Derived.Test.YtleacijhpkogpacPFnExactCountBySeenx3
import Derived.Test.YtleacijhpkogpacHPlain
namespace Go.Proofs.Ytleacijhpkogpac.HSpec
open Go.RowKit Go.Proofs.YtleacijhpkogpacW.PrintWords Go.Proofs.YtleacijhpkogpacW.PrintLast Go.Proofs.YtleacijhpkogpacW.PrintMore Go.Proofs.Ytleacijhpkogpac.PFnExactCountBySeen Go.Proofs.Ytleacijhpkogpac.HPlain
open Go.Proofs.YtleacijhpkogpacW.PrintWords.Kd (S)
set_option linter.unusedVariables false
set_option linter.unusedSimpArgs false

abbrev KT := Kd.slice 3 (Kd.int .i64)
abbrev TB (W : World) (base : Nat) (ok : Nat → Prop) (v : Value) (t : List (List Int)) : Prop := Kd.S (Kd.slice 3 (Kd.int .i64)) 25 W base ok v t
/-- A row of a table, to read. -/
theorem tab_get {W : World} {base g n cap : Nat} {ok : Nat → Prop} {t : List (List Int)} (h : TB W base ok (.slice (some ⟨g, 0, none⟩) n cap) t) (i : Nat) (hi : i < n) :
    ∃ (v : Value), W.cell? ⟨g, i, none⟩ = some v ∧ Kd.R (Kd.int .i64) 3 W base ok v (t.getD i []) := by
  obtain ⟨c, hcl, ⟨v, rfl, hr⟩, hcc⟩ := Kd.S_get h [] (i : Int) (by omega) (by omega)
  refine ⟨v, ?_, Kd.R_mono hr (fun _ hk => hk.1)⟩
  have h1 := hcc 0 v rfl
  rw [show (i : Int).toNat * (Kd.slice 3 (Kd.int .i64)).sz + 0 = i by simp [Kd.slice]] at h1
  rwa [add_plain] at h1
/-- A row of a table, to write. -/
theorem tab_put {W : World} {base g n cap : Nat} {ok : Nat → Prop} {t : List (List Int)} (h : TB W base ok (.slice (some ⟨g, 0, none⟩) n cap) t) (i : Nat) (hi : i < n) :
    ∃ (v : Value) (oki : Nat → Prop), W.cell? ⟨g, i, none⟩ = some v ∧ Kd.R (Kd.int .i64) 3 W base oki v (t.getD i []) ∧ (∀ k, oki k → ok k ∧ k ≠ g) ∧
      ∀ {w1 : World} {row : Option Nat} {x' : List Int}, W.grownBy w1 row → (∀ k, row = some k → oki k) → Kd.R (Kd.int .i64) 3 w1 base oki v x' → TB w1 base ok (.slice (some ⟨g, 0, none⟩) n cap) (t.set i x') := by
  obtain ⟨oki, c, hcl, ⟨v, rfl, hr⟩, hcc, hok, hput⟩ := Kd.S_borrow h [] (i : Int) (by omega) (by omega)
  refine ⟨v, oki, ?_, hr, fun k hk => ⟨(hok k hk).1, fun e => (hok k hk).2 (by rw [e]; rfl)⟩, fun hg hrow hR => ?_⟩
  · have h1 := hcc 0 v rfl
    rw [show (i : Int).toNat * (Kd.slice 3 (Kd.int .i64)).sz + 0 = i by simp [Kd.slice]] at h1
    rwa [add_plain] at h1
  · exact hput hg hrow ⟨v, rfl, hR⟩
theorem zero_loop : ∀ (d j : Nat) (acc : List (List Int)), j + d = 16 → acc.length = j →
    Ev (fun k => spec_heZero.l0 k 16 acc (j : Int)) (acc ++ List.replicate d (List.replicate 16 0)) := by
  intro d
  induction d with
  | zero =>
    intro j acc hj ha
    refine Ev.step (f := fun _ => some acc) (fun k => ?_) ?_
    · simp only [spec_heZero.l0]
      rw [if_neg (by omega)]
    · rw [List.replicate_zero, List.append_nil]; exact Ev.now _
  | succ d ih =>
    intro j acc hj ha
    have hr := ih (j + 1) (acc ++ [List.replicate 16 0]) (by omega) (by simp; omega)
    rw [List.append_assoc] at hr
    have e1 : wrap64 ((j : Int) + 1) = ((j + 1 : Nat) : Int) := by unfold wrap64; omega
    refine Ev.step (f := fun k => spec_heZero.l0 k 16 (acc ++ [List.replicate 16 0]) ((j + 1 : Nat) : Int)) (fun k => ?_) hr
    simp only [spec_heZero.l0]
    rw [if_pos (by omega), if_pos (by omega), if_pos (by decide), if_pos (by omega), e1]
    rfl
theorem zero_calls (w : World) :
    Calls Try.prog 82 #[.int .i64 16] w fun e w' => ∃ v : Value, e = .returned v ∧ TB w' w.heap.size (fun _ => True) v (List.replicate 16 (List.replicate 16 0)) ∧ Below w.heap.size w w' := by
  have h := zero_loop 16 0 [] rfl rfl
  obtain ⟨k, hk⟩ := h.rounds
  exact spec_heZero.calls k 16 _ w hk
set_option maxHeartbeats 8000000 in
set_option maxRecDepth 100000 in
theorem counts_calls (n : Nat) (hn : n ≤ 14) (w : World) :
    Calls Try.prog 55 #[.int .i64 ((n + 1 : Nat) : Int)] w fun e w' => ∃ v : Value, e = .returned v ∧ TB w' w.heap.size (fun _ => True) v (tabT n) ∧ Below w.heap.size w w' := by
  have HB := Aside0.mk (Below.refl w.heap.size w)
  go_enter Try.func55, Try.ntmps55
  go_wp2_with fail
  refine (zero_calls _).mono ?_
  rintro e w1 ⟨v, rfl, ho, hb⟩
  obtain ⟨g, c, e, gb, gl, HG⟩ := Kd.S_form ho (by simp)
  cases e
  obtain ⟨v1, oki, hc1, hr1, hok, hput⟩ := tab_put ho 1 (by simp)
  have hrow : (List.replicate 16 (List.replicate 16 (0 : Int))).getD 1 [] = List.replicate 16 0 := rfl
  rw [hrow] at hr1
  obtain ⟨g1, cc1, e, gb1, gl1, HG1⟩ := Kd.R_form hr1 (by simp)
  cases e
  obtain ⟨hx, hf⟩ := Kd.R_celln 0 hr1 1 (by omega) (by simp)
  replace hx : w1.cell? ⟨g1, 1, none⟩ = some (.int .i64 0) := hx
  replace hf : w1.frozen? ⟨g1, 1, none⟩ = false := hf
  go_wp2_with fail
  have HP1 := Kd.R_putg hr1 (1 : Int) 1
  have ho2 := hput HP1.2 (fun k hk => by injection hk with hk; subst hk; exact hr1.1 _ rfl) HP1.1
  rw [show (List.replicate 16 (List.replicate 16 (0 : Int))).set 1 ((List.replicate 16 (0 : Int)).set (1 : Int).toNat 1) = tabT 0 from tabT_one] at ho2
  have HO := Aside0.mk ho2
  have HBn := Aside0.mk (below_set (below_step (by repeat (first | (with_reducible first | exact HB.out | apply below_alloc | apply pw_below_drewN | apply below_drew1) | exact HB.out)) hb) (show w.heap.size ≤ g1 from gb1) : Below w.heap.size w (w1.setCell ⟨g1, (1 : Int).toNat, none⟩ (.int .i64 1)))
  clear HB ho hb gb gl HG hr1 hok hput hrow gb1 gl1 HG1 hx hf HP1 ho2 hc1
  have HB := HBn
  clear HBn
  go_loopg [4, 5] n (fun kq v4 v5 w' => ∃ (m g c : Nat), v4 = .slice (some ⟨g, 0, none⟩) 16 c ∧ v5 = .int .i64 ((m + 2 : Nat) : Int) ∧ Aside0 (kq + m = n) ∧ Aside0 (TB w' w.heap.size (fun _ => True) (.slice (some ⟨g, 0, none⟩) 16 c) (tabT m)) ∧ Aside0 (Below w.heap.size w w'))
  case atStart => exact ⟨0, g, c, rfl, rfl, ⟨rfl⟩, HO, HB⟩
  case round =>
    clear HO HB
    obtain ⟨m, g, c, rfl, rfl, HK, HO, HB⟩ := hrel
    by_cases hm : m < n
    · go_wp2_with fail
      refine (zero_calls _).mono ?_
      rintro e w2 ⟨v, rfl, ho, hb⟩
      obtain ⟨g2, c2, e, gb2, gl2, HG⟩ := Kd.S_form ho (by simp)
      cases e
      have HT0 := Aside0.mk (Kd.S_old HO.out hb)
      have HN0 : Aside0 (TB w2 wr.heap.size (fun _ => True) (.slice (some ⟨g2, 0, none⟩) 16 c2) (prtT (m + 1) 1 0)) := ⟨by rw [prtT_start, prtT_zero]; exact ho⟩
      have HB0 := Aside0.mk (below_step HB.out hb)
      have HSZ := Aside0.mk HB.out.size
      clear ho hb gb2 gl2 HG HO HB
      obtain ⟨wo, hwo⟩ : ∃ wo : World, wo = wr := ⟨_, rfl⟩
      rw [← hwo] at HT0 HN0 HSZ
      clear hwo
      go_wp2_with fail
      go_loopg [7] 15 (fun kq2 v7 w' => ∃ l : Nat, v7 = .int .i64 (l : Int) ∧ Aside0 (kq2 + l = 16 ∧ 1 ≤ l) ∧ Aside0 (TB w' wo.heap.size (fun _ => True) (.slice (some ⟨g2, 0, none⟩) 16 c2) (prtT (m + 1) l 0)) ∧ Aside0 (TB w' w.heap.size (fun k => True ∧ k < wo.heap.size) (.slice (some ⟨g, 0, none⟩) 16 c) (tabT m)) ∧ Aside0 (Below w.heap.size w w'))
      case atStart => exact ⟨1, rfl, ⟨by omega⟩, HN0, HT0, HB0⟩
      case round =>
        clear HN0 HT0 HB0
        obtain ⟨l, rfl, HKL, HN, HT, HB⟩ := hrel
        have hkl := HKL.out
        by_cases hl : l < 16
        · go_wp2_with fail
          go_loopg [8] 15 (fun kq3 v8 w' => ∃ r : Nat, v8 = .int .i64 (r : Int) ∧ Aside0 (kq3 + r = 16 ∧ 1 ≤ r) ∧ Aside0 (TB w' wo.heap.size (fun _ => True) (.slice (some ⟨g2, 0, none⟩) 16 c2) (prtT (m + 1) l r)) ∧ Aside0 (TB w' w.heap.size (fun k => True ∧ k < wo.heap.size) (.slice (some ⟨g, 0, none⟩) 16 c) (tabT m)) ∧ Aside0 (Below w.heap.size w w'))
          case atStart => exact ⟨1, rfl, ⟨by omega⟩, ⟨by rw [prtT_right]; exact HN.out⟩, HT, HB⟩
          case round =>
            clear HN HT HB
            obtain ⟨r, rfl, HKR, HN, HT, HB⟩ := hrel
            have hkr := HKR.out
            by_cases hr : r < 16
            · have hl1 := hkl.2
              have hr1 := hkr.2
              obtain ⟨va, hca, hra⟩ := tab_get HT.out l (by omega)
              obtain ⟨Aa, ca, rfl, hla, hCa⟩ := Kd.R_reads hra
              have hlen1 : ((tabT m).getD l []).length = 16 := prtT_row_len _ _ _ _ hl
              obtain ⟨vb, hcb, hrb⟩ := tab_get HT.out (l - 1) (by omega)
              obtain ⟨Ab, cb, rfl, hlb, hCb⟩ := Kd.R_reads hrb
              have hlen2 : ((tabT m).getD (l - 1) []).length = 16 := prtT_row_len _ _ _ _ (by omega)
              obtain ⟨ada, e, hqa⟩ := Kd.at_int hCa (r : Int) (by omega) (by omega)
              cases e
              obtain ⟨ada', e, hqa'⟩ := Kd.at_int hCa ((r - 1 : Nat) : Int) (by omega) (by omega)
              cases e
              obtain ⟨adb, e, hqb⟩ := Kd.at_int hCb (r : Int) (by omega) (by omega)
              cases e
              replace hqa : wr.cell? (ada.add r) = some (.int .i64 (((tabT m).getD l []).getD r 0)) := hqa
              replace hqa' : wr.cell? (ada.add (r - 1)) = some (.int .i64 (((tabT m).getD l []).getD (r - 1) 0)) := hqa'
              replace hqb : wr.cell? (adb.add r) = some (.int .i64 (((tabT m).getD (l - 1) []).getD r 0)) := hqb
              rw [tabT_rd m l r hl hr] at hqa
              rw [tabT_rd m l (r - 1) hl (by omega)] at hqa'
              rw [tabT_rd m (l - 1) r (by omega) hr] at hqb
              rw [hlen1] at hca hla
              rw [hlen2] at hcb hlb
              obtain ⟨vn, oki, hcn, hrn, hok, hput⟩ := tab_put HN.out l (by omega)
              have hlen3 : ((prtT (m + 1) l r).getD l []).length = 16 := prtT_row_len _ _ _ _ hl
              obtain ⟨gn, cn, e, gbn, gln, HGn⟩ := Kd.R_form hrn (by omega)
              cases e
              rw [hlen3] at hcn hrn hput
              obtain ⟨hx, hf⟩ := Kd.R_celln 0 hrn (r : Int) (by omega) (by omega)
              have hx1 : ∃ q0, wr.cell? ⟨gn, r, none⟩ = some (.int .i64 q0) := ⟨_, hx⟩
              obtain ⟨q0, hx1⟩ := hx1
              replace hf : wr.frozen? ⟨gn, r, none⟩ = false := hf
              have HPN := Aside0.mk (Kd.R_putg hrn (r : Int) (seenC (m + 1) l r : Int))
              have HPUT : Aside0 (TB (wr.setCell ⟨gn, r, none⟩ (.int .i64 (seenC (m + 1) l r : Int))) wo.heap.size (fun _ => True) (.slice (some ⟨g2, 0, none⟩) 16 c2) (prtT (m + 1) l (r + 1))) := ⟨by
                have := hput HPN.out.2 (fun k hk => by injection hk with hk; subst hk; exact hrn.1 _ rfl) HPN.out.1
                rw [Int.toNat_natCast, prtT_set (m + 1) l r hl hr] at this
                exact this⟩
              have GBN := Aside0.mk gbn
              have h1 := seenC_bound m l r (by omega)
              have h2 := seenC_bound m (l - 1) r (by omega)
              have h3 := seenC_bound m l (r - 1) (by omega)
              have h4 := seenC_mul m l r m (by omega) (by omega)
              have HV := Aside0.mk (seenC_step m l r hl1 hr1)
              have h4' : (seenC m l r : Int) * (m : Int) ≤ 20000000000000 := by
                have : ((seenC m l r * m : Nat) : Int) ≤ 20000000000000 := by omega
                rwa [Int.natCast_mul] at this
              have h5 : 0 ≤ (seenC m l r : Int) * (m : Int) := Int.mul_nonneg (by omega) (by omega)
              clear hra hCa hrb hCb hrn hok hput hlen1 hlen2 hlen3 gbn gln HGn hx HPN h4 hkl hkr
              generalize seenC m l r = q1 at *
              generalize seenC m (l - 1) r = q2 at *
              generalize seenC m l (r - 1) = q3 at *
              go_wp2_with fail
              have w1' : IntKind.i64.wrap ((l : Int) - 1) = (l : Int) - 1 := IntWalk.i64_in _ (by omega)
              have w2' : IntKind.i64.wrap ((r : Int) - 1) = (r : Int) - 1 := IntWalk.i64_in _ (by omega)
              have w3' : IntKind.i64.wrap ((q2 : Int) + (q3 : Int)) = (q2 : Int) + (q3 : Int) := IntWalk.i64_in _ (by omega)
              have w4' : IntKind.i64.wrap ((q1 : Int) * (m : Int) + ((q2 : Int) + (q3 : Int))) = (q1 : Int) * (m : Int) + ((q2 : Int) + (q3 : Int)) := IntWalk.i64_in _ (by omega)
              have n1' : ((l : Int) - 1).toNat = l - 1 := by omega
              have n2' : ((r : Int) - 1).toNat = r - 1 := by omega
              have p1' : (0 : Int) ≤ (l : Int) - 1 := by omega
              have p2' : (0 : Int) ≤ (r : Int) - 1 := by omega
              have p3' : (l : Int) - 1 < 16 := by omega
              have p4' : (r : Int) - 1 < 16 := by omega
              go_quiet (fail)
              go_wp2_with fail
              go_roundg (16 - (r + 1))
              case measure => have := HKR.out; omega
              case rel =>
                refine ⟨r + 1, rfl, ⟨by have := HKR.out; omega⟩, ⟨?_⟩, ⟨?_⟩, ⟨?_⟩⟩
                · have := Kd.S_drewN HPUT.out nq
                  rw [HV.out] at this
                  exact this
                · exact Kd.S_far (p := ⟨gn, r, none⟩) (Kd.S_drewN HT.out _) (fun k hk => by have := hk.2; have := GBN.out; show k ≠ gn; omega) _
                · exact below_set (pw_below_drewN HB.out _) (Nat.le_trans HSZ.out GBN.out)
            · have hrr : r = 16 := by have := HKR.out; omega
              go_wp2_with fail
              go_roundg (16 - (l + 1))
              case measure => have := HKL.out; omega
              case rel => exact ⟨l + 1, rfl, ⟨by have := HKL.out; omega⟩, ⟨by have h := HN.out; rw [hrr, prtT_next] at h; exact h⟩, HT, HB⟩
        · have hll : l = 16 := by have := HKL.out; omega
          go_wp2_with fail
          go_roundg (n - (m + 1))
          case measure => have := HK.out; omega
          case rel => exact ⟨m + 1, g2, c2, rfl, rfl, ⟨by have := HK.out; omega⟩, ⟨by have := HN.out; rw [hll] at this; exact Kd.S_lower this HSZ.out⟩, HB⟩
    · have hmm : m = n := by have := HK.out; omega
      go_wp2_with fail
      go_ret
      exact ⟨_, rfl, by rw [← hmm]; exact HO.out, (by repeat (first | (with_reducible first | exact HB.out | apply below_alloc | apply pw_below_drewN | apply below_drew1) | exact HB.out))⟩
end Go.Proofs.Ytleacijhpkogpac.HSpec
