/- Plain laws of heights: orders by who is seen: lists alone,no program. -/
import Derived.WalkKit
import Derived.Test.YtleacijhpkogpadPFnHeightsRisex17
set_option linter.unusedVariables false
set_option linter.unusedSimpArgs false
set_option maxHeartbeats 8000000
set_option maxRecDepth 100000
namespace Go.Proofs.Ytleacijhpkogpad.HPlain
open Go.RowKit

def seenC : Nat → Nat → Nat → Nat
  | 0,l,r => if l = 1 ∧ r = 1 then 1 else 0
  | n + 1,l,r => if l = 0 ∨ r = 0 then 0 else seenC n (l - 1) r + seenC n l (r - 1) + n * seenC n l r
def facN : Nat → Nat
  | 0 => 1
  | n + 1 => (n + 2) * facN n
theorem seenC_le : ∀ n l r,seenC n l r ≤ facN n
  | 0,l,r => by rw [seenC,facN]; split <;> omega
  | n + 1,l,r => by
    have h1 := seenC_le n (l - 1) r
    have h2 := seenC_le n l (r - 1)
    have h3 := Nat.mul_le_mul_left n (seenC_le n l r)
    have e : facN (n + 1) = facN n + facN n + n * facN n := by rw [facN,Nat.add_mul]; omega
    rw [seenC,e]
    split <;> omega
theorem facN_mono : ∀ n m,n ≤ m → facN n ≤ facN m
  | n, 0, h => by obtain rfl : n = 0 := by omega
                  exact Nat.le_refl _
  | n,m + 1,h => by
    by_cases e : n = m + 1
    · rw [e]; exact Nat.le_refl _
    · have := facN_mono n m (by omega)
      rw [show facN (m + 1) = (m + 2) * facN m from rfl,Nat.add_mul]
      omega
theorem seenC_bound (n l r : Nat) (h : n ≤ 14) : seenC n l r ≤ 1307674368000 :=
  Nat.le_trans (seenC_le n l r) (Nat.le_trans (facN_mono n 14 h) (by decide))
theorem seenC_zero_l (n r : Nat) : seenC n 0 r = 0 := by
  cases n <;> simp [seenC]
theorem seenC_zero_r (n l : Nat) : seenC n l 0 = 0 := by
  cases n <;> simp [seenC]
def prtT (n l r : Nat) : List (List Int) := (List.range 16).map fun l' => (List.range 16).map fun r' => if l' < l ∨ (l' = l ∧ r' < r) then (seenC n l' r' : Int) else 0
theorem prtT_len (n l r : Nat) : (prtT n l r).length = 16 := by simp [prtT]
theorem prtT_row (n l r i : Nat) (h : i < 16) : (prtT n l r).getD i [] = (List.range 16).map fun r' => if i < l ∨ (i = l ∧ r' < r) then (seenC n i r' : Int) else 0 := by
  rw [List.getD_eq_getElem?_getD,prtT,List.getElem?_map,List.getElem?_range h]; rfl
theorem prtT_row_len (n l r i : Nat) (h : i < 16) : ((prtT n l r).getD i []).length = 16 := by rw [prtT_row n l r i h]; simp
theorem prtT_rd (n l r i j : Nat) (h : i < 16) (hj : j < 16) : ((prtT n l r).getD i []).getD j 0 = if i < l ∨ (i = l ∧ j < r) then (seenC n i j : Int) else 0 := by
  rw [prtT_row n l r i h,List.getD_eq_getElem?_getD,List.getElem?_map,List.getElem?_range hj]; rfl
theorem prtT_congr (n l r l2 r2 : Nat) (h : ∀ i j,i < 16 → j < 16 → (if i < l ∨ (i = l ∧ j < r) then (seenC n i j : Int) else 0) = if i < l2 ∨ (i = l2 ∧ j < r2) then (seenC n i j : Int) else 0) : prtT n l r = prtT n l2 r2 := by
  unfold prtT
  refine List.map_congr_left (fun i hi => List.map_congr_left (fun j hj => ?_))
  exact h i j (List.mem_range.1 hi) (List.mem_range.1 hj)
theorem prtT_start (n : Nat) : prtT n 1 0 = prtT n 0 0 := prtT_congr _ _ _ _ _ (fun i j hi hj => by
  rw [if_neg (show ¬ (i < 0 ∨ (i = 0 ∧ j < 0)) by omega)]
  split
  · obtain rfl : i = 0 := by omega
    rw [seenC_zero_l]; rfl
  · rfl)
theorem prtT_right (n l : Nat) : prtT n l 1 = prtT n l 0 := prtT_congr _ _ _ _ _ (fun i j hi hj => by
  by_cases c : i = l ∧ j = 0
  · obtain ⟨rfl,rfl⟩ := c
    rw [if_pos (by omega),if_neg (by omega),seenC_zero_r]; rfl
  · by_cases d : i < l
    · rw [if_pos (by omega),if_pos (by omega)]
    · rw [if_neg (by omega),if_neg (by omega)])
theorem prtT_next (n l : Nat) : prtT n l 16 = prtT n (l + 1) 0 := prtT_congr _ _ _ _ _ (fun i j hi hj => by
  by_cases d : i < l + 1
  · rw [if_pos (by omega),if_pos (by omega)]
  · rw [if_neg (by omega),if_neg (by omega)])
theorem prtT_zero (n : Nat) : prtT n 0 0 = List.replicate 16 (List.replicate 16 0) := by
  unfold prtT
  have e : ∀ l',((List.range 16).map fun r' => if l' < 0 ∨ (l' = 0 ∧ r' < 0) then (seenC n l' r' : Int) else 0) = List.replicate 16 0 := by
    intro l'
    rw [show (fun r' => if l' < 0 ∨ (l' = 0 ∧ r' < 0) then (seenC n l' r' : Int) else 0) = fun _ => (0 : Int) by funext r'; rw [if_neg (by omega)]]
    rfl
  rw [show (fun l' => (List.range 16).map fun r' => if l' < 0 ∨ (l' = 0 ∧ r' < 0) then (seenC n l' r' : Int) else 0) = fun _ => List.replicate 16 (0 : Int) by funext l'; exact e l']
  rfl
theorem getD_ext (xs ys : List Int) (hl : xs.length = ys.length) (h : ∀ i,i < xs.length → xs.getD i 0 = ys.getD i 0) : xs = ys := by
  apply List.ext_getElem hl
  intro i h1 h2
  have := h i h1
  rw [List.getD_eq_getElem?_getD,List.getD_eq_getElem?_getD,List.getElem?_eq_getElem h1,List.getElem?_eq_getElem h2] at this
  exact this
theorem prtT_set (n l r : Nat) (hl : l < 16) (hr : r < 16) : (prtT n l r).set l (((prtT n l r).getD l []).set r (seenC n l r : Int)) = prtT n l (r + 1) := by
  apply List.ext_getElem (by simp [prtT_len])
  intro i h1 h2
  have hi : i < 16 := by simpa [prtT_len] using h2
  have e : (prtT n l (r + 1))[i] = (prtT n l (r + 1)).getD i [] := by rw [List.getD_eq_getElem?_getD,List.getElem?_eq_getElem h2]; rfl
  refine Eq.trans ?_ e.symm
  clear e
  by_cases c : l = i
  · subst c
    rw [List.getElem_set_self]
    apply getD_ext _ _ (by rw [List.length_set,prtT_row_len _ _ _ _ hi,prtT_row_len _ _ _ _ hi])
    intro j hj
    rw [List.length_set,prtT_row_len _ _ _ _ hi] at hj
    rw [prtT_rd _ _ _ _ _ hi hj]
    by_cases d : r = j
    · subst d
      rw [List.getD_eq_getElem?_getD,List.getElem?_set_self (by rw [prtT_row_len _ _ _ _ hi]; exact hj),if_pos (by omega)]; rfl
    · rw [List.getD_eq_getElem?_getD,List.getElem?_set_ne d,← List.getD_eq_getElem?_getD,prtT_rd _ _ _ _ _ hi hj]
      by_cases k : j < r
      · rw [if_pos (by omega),if_pos (by omega)]
      · rw [if_neg (by omega),if_neg (by omega)]
  · rw [List.getElem_set_ne c]
    have Ad : (prtT n l r)[i]'(by rw [prtT_len]; exact hi) = (prtT n l r).getD i [] := by rw [List.getD_eq_getElem?_getD,List.getElem?_eq_getElem (by rw [prtT_len]; exact hi)]; rfl
    refine Ad.trans ?_
    rw [prtT_row _ _ _ _ hi,prtT_row _ _ _ _ hi]
    refine List.map_congr_left (fun j _ => ?_)
    by_cases k : i < l
    · rw [if_pos (by omega),if_pos (by omega)]
    · rw [if_neg (by omega),if_neg (by omega)]
def tabT (n : Nat) : List (List Int) := prtT n 16 0
theorem tabT_rd (n i j : Nat) (h : i < 16) (hj : j < 16) : ((tabT n).getD i []).getD j 0 = (seenC n i j : Int) := by
  unfold tabT; rw [prtT_rd _ _ _ _ _ h hj,if_pos (by omega)]
theorem tabT_one : (List.replicate 16 (List.replicate 16 (0 : Int))).set 1 ((List.replicate 16 (0 : Int)).set 1 1) = tabT 0 := by decide
theorem seenC_step (n l r : Nat) (hl : 1 ≤ l) (hr : 1 ≤ r) : (seenC (n + 1) l r : Int) = (seenC n l r : Int) * (n : Int) + ((seenC n (l - 1) r : Int) + (seenC n l (r - 1) : Int)) := by
  rw [seenC,if_neg (by omega)]
  have := Int.mul_comm (seenC n l r : Int) (n : Int)
  omega
theorem seenC_mul (n l r k : Nat) (h : n ≤ 14) (hk : k ≤ 14) : seenC n l r * k ≤ 20000000000000 :=
  Nat.le_trans (Nat.mul_le_mul (seenC_bound n l r h) hk) (by decide)
end Go.Proofs.Ytleacijhpkogpad.HPlain
/- The table of orders by who is seen: the walk of spec.heCounts over the printed walk of spec.heZero. -/
namespace Go.Proofs.Ytleacijhpkogpad.HSpec
open Go.RowKit YtleacijhpkogpadW.PrintWords YtleacijhpkogpadW.PrintLast YtleacijhpkogpadW.PrintMore PFnHeightsRise HPlain
open YtleacijhpkogpadW.PrintWords.Kd (S)

abbrev TB (W : World) (base : Nat) (ok : Nat → Prop) (v : Value) (t : List (List Int)) : Prop := Kd.S (Kd.slice 3 (Kd.int .i64)) 24 W base ok v t
theorem tab_get {W : World} {base g n cap : Nat} {ok : Nat → Prop} {t : List (List Int)} (h : TB W base ok (.slice (some ⟨g, 0, none⟩) n cap) t) (i : Nat) (hi : i < n) :
    ∃ (v : Value),W.cell? ⟨g,i,none⟩ = some v ∧ Kd.R (Kd.int .i64) 3 W base ok v (t.getD i []) := by
  obtain ⟨c,hcl,⟨v,rfl,hr⟩,hcc⟩ := Kd.S_get h [] (i : Int) (by omega) (by omega)
  refine ⟨v,?_,Kd.R_mono hr (fun _ hk => hk.1)⟩
  have h1 := hcc 0 v rfl
  rw [show (i : Int).toNat * (Kd.slice 3 (Kd.int .i64)).sz + 0 = i by simp [Kd.slice]] at h1
  rwa [add_plain] at h1
theorem tab_put {W : World} {base g n cap : Nat} {ok : Nat → Prop} {t : List (List Int)} (h : TB W base ok (.slice (some ⟨g, 0, none⟩) n cap) t) (i : Nat) (hi : i < n) :
    ∃ (v : Value) (oki : Nat → Prop),W.cell? ⟨g,i,none⟩ = some v ∧ Kd.R (Kd.int .i64) 3 W base oki v (t.getD i []) ∧ (∀ k,oki k → ok k ∧ k ≠ g) ∧
      ∀ {w1 : World} {row : Option Nat} {x' : List Int},W.grownBy w1 row → (∀ k,row = some k → oki k) → Kd.R (Kd.int .i64) 3 w1 base oki v x' → TB w1 base ok (.slice (some ⟨g,0,none⟩) n cap) (t.set i x') := by
  obtain ⟨oki,c,hcl,⟨v,rfl,hr⟩,hcc,hok,hput⟩ := Kd.S_borrow h [] (i : Int) (by omega) (by omega)
  refine ⟨v,oki,?_,hr,fun k hk => ⟨(hok k hk).1,fun e => (hok k hk).2 (by rw [e]; rfl)⟩,fun hg hrow hR => ?_⟩
  · have h1 := hcc 0 v rfl
    rw [show (i : Int).toNat * (Kd.slice 3 (Kd.int .i64)).sz + 0 = i by simp [Kd.slice]] at h1
    rwa [add_plain] at h1
  · exact hput hg hrow ⟨v,rfl,hR⟩
theorem zero_loop : ∀ (d j : Nat) (acc : List (List Int)), j + d = 16 → acc.length = j →
    Ev (fun k => spec_heZero.l0 k 16 acc (j : Int)) (acc ++ List.replicate d (List.replicate 16 0)) := by
  intro d
  induction d with
  | zero =>
    intro j acc hj ha
    refine Ev.step (f := fun _ => some acc) (fun k => ?_) ?_
    · simp only [spec_heZero.l0]
      rw [if_neg (by omega)]
    · rw [List.replicate_zero,List.append_nil]; exact Ev.now _
  | succ d ih =>
    intro j acc hj ha
    have hr := ih (j + 1) (acc ++ [List.replicate 16 0]) (by omega) (by simp; omega)
    rw [List.append_assoc] at hr
    have Ac : wrap64 ((j : Int) + 1) = ((j + 1 : Nat) : Int) := by unfold wrap64; omega
    refine Ev.step (f := fun k => spec_heZero.l0 k 16 (acc ++ [List.replicate 16 0]) ((j + 1 : Nat) : Int)) (fun k => ?_) hr
    simp only [spec_heZero.l0]
    rw [if_pos (by omega),if_pos (by omega),if_pos (by decide),if_pos (by omega),Ac]
    rfl
theorem zero_calls (w : World) :
    Calls Try.prog 93 #[.int .i64 16] w fun e w' => ∃ v : Value,e = .returned v ∧ TB w' w.heap.size (fun _ => True) v (List.replicate 16 (List.replicate 16 0)) ∧ Below w.heap.size w w' := by
  have h := zero_loop 16 0 [] rfl rfl
  obtain ⟨k,hk⟩ := h.rounds
  exact spec_heZero.calls k 16 _ w hk
theorem counts_calls (n : Nat) (hn : n ≤ 14) (w : World) :
    Calls Try.prog 79 #[.int .i64 ((n + 1 : Nat) : Int)] w fun e w' => ∃ v : Value,e = .returned v ∧ TB w' w.heap.size (fun _ => True) v (tabT n) ∧ Below w.heap.size w w' := by
  have HB := Aside0.mk (Below.refl w.heap.size w)
  go_enter Try.func79,Try.ntmps79
  go_wp2_with fail
  refine (zero_calls _).mono ?_
  rintro e w1 ⟨v,rfl,ho,hb⟩
  obtain ⟨g,c,e,gb,gl,HG⟩ := Kd.S_form ho (by simp)
  cases e
  obtain ⟨v1,oki,hc1,hr1,hok,hput⟩ := tab_put ho 1 (by simp)
  have hrow : (List.replicate 16 (List.replicate 16 (0 : Int))).getD 1 [] = List.replicate 16 0 := rfl
  rw [hrow] at hr1
  obtain ⟨g1,cc1,e,gb1,gl1,HG1⟩ := Kd.R_form hr1 (by simp)
  cases e
  obtain ⟨hx,hf⟩ := Kd.R_celln 0 hr1 1 (by omega) (by simp)
  replace hx : w1.cell? ⟨g1,1,none⟩ = some (.int .i64 0) := hx
  replace hf : w1.frozen? ⟨g1,1,none⟩ = false := hf
  go_wp2_with fail
  have HP1 := Kd.R_putg hr1 (1 : Int) 1
  have ho2 := hput HP1.2 (fun k hk => by injection hk with hk; subst hk; exact hr1.1 _ rfl) HP1.1
  rw [show (List.replicate 16 (List.replicate 16 (0 : Int))).set 1 ((List.replicate 16 (0 : Int)).set (1 : Int).toNat 1) = tabT 0 from tabT_one] at ho2
  have HO := Aside0.mk ho2
  have HBn := Aside0.mk (below_set (below_step (by repeat first|(with_reducible first|exact HB.out|apply below_alloc|apply pw_below_drewN|apply below_drew1)|exact HB.out) hb) (show w.heap.size ≤ g1 from gb1) : Below w.heap.size w (w1.setCell ⟨g1,(1 : Int).toNat,none⟩ (.int .i64 1)))
  clear HB ho hb gb gl HG hr1 hok hput hrow gb1 gl1 HG1 hx hf HP1 ho2 hc1
  have HB := HBn
  clear HBn
  go_loopg [4,5] n (fun kq v4 v5 w' => ∃ (m g c : Nat),v4 = .slice (some ⟨g,0,none⟩) 16 c ∧ v5 = .int .i64 ((m + 2 : Nat) : Int) ∧ Aside0 (kq + m = n) ∧ Aside0 (TB w' w.heap.size (fun _ => True) (.slice (some ⟨g,0,none⟩) 16 c) (tabT m)) ∧ Aside0 (Below w.heap.size w w'))
  case atStart => exact ⟨0,g,c,rfl,rfl,⟨rfl⟩,HO,HB⟩
  case round =>
    clear HO HB
    obtain ⟨m,g,c,rfl,rfl,HK,HO,HB⟩ := hrel
    by_cases hm : m < n
    · go_wp2_with fail
      refine (zero_calls _).mono ?_
      rintro e w2 ⟨v,rfl,ho,hb⟩
      obtain ⟨g2,c2,e,gb2,gl2,HG⟩ := Kd.S_form ho (by simp)
      cases e
      have HT0 := Aside0.mk (Kd.S_old HO.out hb)
      have HN0 : Aside0 (TB w2 wr.heap.size (fun _ => True) (.slice (some ⟨g2,0,none⟩) 16 c2) (prtT (m + 1) 1 0)) := ⟨by rw [prtT_start,prtT_zero]; exact ho⟩
      have HB0 := Aside0.mk (below_step HB.out hb)
      have HSZ := Aside0.mk HB.out.size
      clear ho hb gb2 gl2 HG HO HB
      obtain ⟨wo,hwo⟩ : ∃ wo : World,wo = wr := ⟨_,rfl⟩
      rw [← hwo] at HT0 HN0 HSZ
      clear hwo
      go_wp2_with fail
      go_loopg [7] 15 (fun kq2 v7 w' => ∃ l : Nat,v7 = .int .i64 (l : Int) ∧ Aside0 (kq2 + l = 16 ∧ 1 ≤ l) ∧ Aside0 (TB w' wo.heap.size (fun _ => True) (.slice (some ⟨g2,0,none⟩) 16 c2) (prtT (m + 1) l 0)) ∧ Aside0 (TB w' w.heap.size (fun k => True ∧ k < wo.heap.size) (.slice (some ⟨g,0,none⟩) 16 c) (tabT m)) ∧ Aside0 (Below w.heap.size w w'))
      case atStart => exact ⟨1,rfl,⟨by omega⟩,HN0,HT0,HB0⟩
      case round =>
        clear HN0 HT0 HB0
        obtain ⟨l,rfl,HKL,HN,HT,HB⟩ := hrel
        have hkl := HKL.out
        by_cases hl : l < 16
        · go_wp2_with fail
          go_loopg [8] 15 (fun kq3 v8 w' => ∃ r : Nat,v8 = .int .i64 (r : Int) ∧ Aside0 (kq3 + r = 16 ∧ 1 ≤ r) ∧ Aside0 (TB w' wo.heap.size (fun _ => True) (.slice (some ⟨g2,0,none⟩) 16 c2) (prtT (m + 1) l r)) ∧ Aside0 (TB w' w.heap.size (fun k => True ∧ k < wo.heap.size) (.slice (some ⟨g,0,none⟩) 16 c) (tabT m)) ∧ Aside0 (Below w.heap.size w w'))
          case atStart => exact ⟨1,rfl,⟨by omega⟩,⟨by rw [prtT_right]; exact HN.out⟩,HT,HB⟩
          case round =>
            clear HN HT HB
            obtain ⟨r,rfl,HKR,HN,HT,HB⟩ := hrel
            have hkr := HKR.out
            by_cases hr : r < 16
            · have hl1 := hkl.2
              have hr1 := hkr.2
              obtain ⟨va,hca,hra⟩ := tab_get HT.out l (by omega)
              obtain ⟨Aa,ca,rfl,hla,hCa⟩ := Kd.R_reads hra
              have hlen1 : ((tabT m).getD l []).length = 16 := prtT_row_len _ _ _ _ hl
              obtain ⟨vb,hcb,hrb⟩ := tab_get HT.out (l - 1) (by omega)
              obtain ⟨Ab,cb,rfl,hlb,hCb⟩ := Kd.R_reads hrb
              have hlen2 : ((tabT m).getD (l - 1) []).length = 16 := prtT_row_len _ _ _ _ (by omega)
              obtain ⟨ada,e,hqa⟩ := Kd.at_int hCa (r : Int) (by omega) (by omega)
              cases e
              obtain ⟨ada',e,hqa'⟩ := Kd.at_int hCa ((r - 1 : Nat) : Int) (by omega) (by omega)
              cases e
              obtain ⟨adb,e,hqb⟩ := Kd.at_int hCb (r : Int) (by omega) (by omega)
              cases e
              replace hqa : wr.cell? (ada.add r) = some (.int .i64 (((tabT m).getD l []).getD r 0)) := hqa
              replace hqa' : wr.cell? (ada.add (r - 1)) = some (.int .i64 (((tabT m).getD l []).getD (r - 1) 0)) := hqa'
              replace hqb : wr.cell? (adb.add r) = some (.int .i64 (((tabT m).getD (l - 1) []).getD r 0)) := hqb
              rw [tabT_rd m l r hl hr] at hqa
              rw [tabT_rd m l (r - 1) hl (by omega)] at hqa'
              rw [tabT_rd m (l - 1) r (by omega) hr] at hqb
              rw [hlen1] at hca hla
              rw [hlen2] at hcb hlb
              obtain ⟨vn,oki,hcn,hrn,hok,hput⟩ := tab_put HN.out l (by omega)
              have hlen3 : ((prtT (m + 1) l r).getD l []).length = 16 := prtT_row_len _ _ _ _ hl
              obtain ⟨gn,cn,e,gbn,gln,HGn⟩ := Kd.R_form hrn (by omega)
              cases e
              rw [hlen3] at hcn hrn hput
              obtain ⟨hx,hf⟩ := Kd.R_celln 0 hrn (r : Int) (by omega) (by omega)
              have hx1 : ∃ q0,wr.cell? ⟨gn,r,none⟩ = some (.int .i64 q0) := ⟨_,hx⟩
              obtain ⟨q0,hx1⟩ := hx1
              replace hf : wr.frozen? ⟨gn,r,none⟩ = false := hf
              have HPN := Aside0.mk (Kd.R_putg hrn (r : Int) (seenC (m + 1) l r : Int))
              have HPUT : Aside0 (TB (wr.setCell ⟨gn,r,none⟩ (.int .i64 (seenC (m + 1) l r : Int))) wo.heap.size (fun _ => True) (.slice (some ⟨g2,0,none⟩) 16 c2) (prtT (m + 1) l (r + 1))) := ⟨by
                have := hput HPN.out.2 (fun k hk => by injection hk with hk; subst hk; exact hrn.1 _ rfl) HPN.out.1
                rw [Int.toNat_natCast,prtT_set (m + 1) l r hl hr] at this
                exact this⟩
              have GBN := Aside0.mk gbn
              have h1 := seenC_bound m l r (by omega)
              have h2 := seenC_bound m (l - 1) r (by omega)
              have h3 := seenC_bound m l (r - 1) (by omega)
              have h4 := seenC_mul m l r m (by omega) (by omega)
              have HV := Aside0.mk (seenC_step m l r hl1 hr1)
              have h4' : (seenC m l r : Int) * (m : Int) ≤ 20000000000000 := by
                have : ((seenC m l r * m : Nat) : Int) ≤ 20000000000000 := by omega
                rwa [Int.natCast_mul] at this
              have h5 : 0 ≤ (seenC m l r : Int) * (m : Int) := Int.mul_nonneg (by omega) (by omega)
              clear hra hCa hrb hCb hrn hok hput hlen1 hlen2 hlen3 gbn gln HGn hx HPN h4 hkl hkr
              generalize seenC m l r = q1 at *
              generalize seenC m (l - 1) r = q2 at *
              generalize seenC m l (r - 1) = q3 at *
              go_wp2_with fail
              have w1' : IntKind.i64.wrap ((l : Int) - 1) = (l : Int) - 1 := IntWalk.i64_in _ (by omega)
              have w2' : IntKind.i64.wrap ((r : Int) - 1) = (r : Int) - 1 := IntWalk.i64_in _ (by omega)
              have w3' : IntKind.i64.wrap ((q2 : Int) + (q3 : Int)) = (q2 : Int) + (q3 : Int) := IntWalk.i64_in _ (by omega)
              have w4' : IntKind.i64.wrap ((q1 : Int) * (m : Int) + ((q2 : Int) + (q3 : Int))) = (q1 : Int) * (m : Int) + ((q2 : Int) + (q3 : Int)) := IntWalk.i64_in _ (by omega)
              have n1' : ((l : Int) - 1).toNat = l - 1 := by omega
              have n2' : ((r : Int) - 1).toNat = r - 1 := by omega
              have p1' : (0 : Int) ≤ (l : Int) - 1 := by omega
              have p2' : (0 : Int) ≤ (r : Int) - 1 := by omega
              have p3' : (l : Int) - 1 < 16 := by omega
              have p4' : (r : Int) - 1 < 16 := by omega
              go_quiet (fail)
              go_wp2_with fail
              go_roundg (16 - (r + 1))
              case measure => have := HKR.out; omega
              case rel =>
                refine ⟨r + 1,rfl,⟨by have := HKR.out; omega⟩,⟨?_⟩,⟨?_⟩,⟨?_⟩⟩
                · have := Kd.S_drewN HPUT.out nq
                  rw [HV.out] at this
                  exact this
                · exact Kd.S_far (p := ⟨gn,r,none⟩) (Kd.S_drewN HT.out _) (fun k hk => by have := hk.2; have := GBN.out; show k ≠ gn; omega) _
                · exact below_set (pw_below_drewN HB.out _) (Nat.le_trans HSZ.out GBN.out)
            · have hrr : r = 16 := by have := HKR.out; omega
              go_wp2_with fail
              go_roundg (16 - (l + 1))
              case measure => have := HKL.out; omega
              case rel => exact ⟨l + 1,rfl,⟨by have := HKL.out; omega⟩,⟨by have h := HN.out; rw [hrr,prtT_next] at h; exact h⟩,HT,HB⟩
        · have hll : l = 16 := by have := HKL.out; omega
          go_wp2_with fail
          go_roundg (n - (m + 1))
          case measure => have := HK.out; omega
          case rel => exact ⟨m + 1,g2,c2,rfl,rfl,⟨by have := HK.out; omega⟩,⟨by have := HN.out; rw [hll] at this; exact Kd.S_lower this HSZ.out⟩,HB⟩
    · have hmm : m = n := by have := HK.out; omega
      go_wp2_with fail
      go_ret
      exact ⟨_,rfl,by rw [← hmm]; exact HO.out,(by repeat first|(with_reducible first|exact HB.out|apply below_alloc|apply pw_below_drewN|apply below_drew1)|exact HB.out)⟩
end Go.Proofs.Ytleacijhpkogpad.HSpec
/- In how many orders so many are seen: the walks of spec.CountBySeen and of the law; the program by its printed walk and a plain law. -/
namespace Go.Proofs.Ytleacijhpkogpad.HCBS
open Go.RowKit YtleacijhpkogpadW.PrintWords YtleacijhpkogpadW.PrintLast YtleacijhpkogpadW.PrintMore PFnHeightsRise HPlain HSpec

def askB (a b c : Int) : Bool := decide ((1 ≤ a ∧ a ≤ 15) ∧ (0 ≤ b ∧ b ≤ 15) ∧ (0 ≤ c ∧ c ≤ 15))
theorem asked_calls (a b c : Int) (w : World) : Calls Try.prog 78 #[.int .i64 a,.int .i64 b,.int .i64 c] w fun e w' => e = .returned (.bool (askB a b c)) ∧ Drawn0 w w' :=
  spec_heAsked.calls a b c _ w (by
    unfold spec_heAsked.f spec_l1In.f askB
    by_cases h1 : a ≥ 1 <;> by_cases h2 : a ≤ 15 <;> by_cases h3 : b ≥ 0 <;> by_cases h4 : b ≤ 15 <;> by_cases h5 : c ≥ 0 <;> by_cases h6 : c ≤ 15 <;> simp [h1,h2,h3,h4,h5,h6] <;> omega)
theorem wrap_sum (x y p : Int) (hx : 0 ≤ x) (hy : 0 ≤ y) (hp : 0 ≤ p) (hp2 : p ≤ 20000000000000) (hx2 : x ≤ 1307674368000) (hy2 : y ≤ 1307674368000) : wrap64 (wrap64 (x + y) + wrap64 p) = p + (x + y) := by
  unfold wrap64; omega
theorem count_ev : ∀ (n l r : Nat),n ≤ 14 → l ≤ 15 → r ≤ 15 → Ev (fun k => impl_countBySeen.f k ((n + 1 : Nat) : Int) (l : Int) (r : Int)) (seenC n l r : Int) := by
  intro n
  induction n with
  | zero =>
    intro l r hn hl hr
    have fin : ∀ b : Bool,Ev (fun k => impl_countBySeen.j1 k b) (if b = true then 1 else 0) := fun b => by
      refine Ev.step (f := fun _ => some (if b = true then 1 else 0)) (fun k => ?_) (Ev.now _)
      cases b <;> rfl
    by_cases hl0 : l = 0
    · subst hl0
      rw [seenC_zero_l]
      refine Ev.step (f := fun k => impl_countBySeen.j0 k ((0 + 1 : Nat) : Int) ((0 : Nat) : Int) (r : Int) true) (fun k => ?_) ?_
      · rw [impl_countBySeen.f,if_pos (by omega)]
      · exact Ev.step (f := fun _ => some 0) (fun k => by rw [impl_countBySeen.j0,if_pos rfl]) (Ev.now _)
    · by_cases hr0 : r = 0
      · subst hr0
        rw [seenC_zero_r]
        refine Ev.step (f := fun k => impl_countBySeen.j0 k ((0 + 1 : Nat) : Int) (l : Int) ((0 : Nat) : Int) true) (fun k => ?_) ?_
        · rw [impl_countBySeen.f,if_neg (by omega)]; rfl
        · exact Ev.step (f := fun _ => some 0) (fun k => by rw [impl_countBySeen.j0,if_pos rfl]) (Ev.now _)
      · refine Ev.step (f := fun k => impl_countBySeen.j0 k ((0 + 1 : Nat) : Int) (l : Int) (r : Int) false) (fun k => ?_) ?_
        · rw [impl_countBySeen.f,if_neg (by omega),decide_eq_false (by omega)]
        · by_cases h1 : l = 1
          · subst h1
            refine Ev.step (f := fun k => impl_countBySeen.j1 k ((r : Int) == 1)) (fun k => ?_) ?_
            · rw [impl_countBySeen.j0,if_neg (by simp),if_pos (by rfl),if_pos (by rfl)]
            · have := fin ((r : Int) == 1)
              by_cases h2 : r = 1
              · subst h2; exact this
              · have e : ((r : Int) == 1) = false := beq_eq_false_iff_ne.mpr (by omega)
                rw [e] at this ⊢
                rw [seenC,if_neg (by omega)]; exact this
          · refine Ev.step (f := fun k => impl_countBySeen.j1 k false) (fun k => ?_) ?_
            · rw [impl_countBySeen.j0,if_neg (by simp),if_pos (by rfl),if_neg (by omega)]
            · have := fin false
              rw [seenC,if_neg (by omega)]; exact this
  | succ n ih =>
    intro l r hn hl hr
    by_cases hl0 : l = 0
    · subst hl0
      rw [seenC_zero_l]
      refine Ev.step (f := fun k => impl_countBySeen.j0 k ((n + 1 + 1 : Nat) : Int) ((0 : Nat) : Int) (r : Int) true) (fun k => ?_) ?_
      · rw [impl_countBySeen.f,if_pos (by omega)]
      · exact Ev.step (f := fun _ => some 0) (fun k => by rw [impl_countBySeen.j0,if_pos rfl]) (Ev.now _)
    · by_cases hr0 : r = 0
      · subst hr0
        rw [seenC_zero_r]
        refine Ev.step (f := fun k => impl_countBySeen.j0 k ((n + 1 + 1 : Nat) : Int) (l : Int) ((0 : Nat) : Int) true) (fun k => ?_) ?_
        · rw [impl_countBySeen.f,if_neg (by omega)]; rfl
        · exact Ev.step (f := fun _ => some 0) (fun k => by rw [impl_countBySeen.j0,if_pos rfl]) (Ev.now _)
      · refine Ev.step (f := fun k => impl_countBySeen.j0 k ((n + 1 + 1 : Nat) : Int) (l : Int) (r : Int) false) (fun k => ?_) ?_
        · rw [impl_countBySeen.f,if_neg (by omega),decide_eq_false (by omega)]
        · have b1 := seenC_bound n (l - 1) r (by omega)
          have b2 := seenC_bound n l (r - 1) (by omega)
          have b3 := seenC_mul n l r n (by omega) (by omega)
          have b4 := seenC_bound n l r (by omega)
          have hv := seenC_step n l r (by omega) (by omega)
          have i1 := ih (l - 1) r (by omega) (by omega) hr
          have i2 := ih l (r - 1) (by omega) hl (by omega)
          have i3 := ih l r (by omega) hl hr
          have e0 : wrap64 (((n + 1 + 1 : Nat) : Int) - 1) = ((n + 1 : Nat) : Int) := by unfold wrap64; omega
          have Ac : wrap64 ((l : Int) - 1) = ((l - 1 : Nat) : Int) := by unfold wrap64; omega
          have Ad : wrap64 ((r : Int) - 1) = ((r - 1 : Nat) : Int) := by unfold wrap64; omega
          have e3 : wrap64 (((n + 1 + 1 : Nat) : Int) - 2) = (n : Int) := by unfold wrap64; omega
          have b3' : (n : Int) * (seenC n l r : Int) ≤ 20000000000000 := by
            have : ((seenC n l r * n : Nat) : Int) ≤ 20000000000000 := by omega
            rw [Int.natCast_mul] at this
            rwa [Int.mul_comm]
          have b3'' : 0 ≤ (n : Int) * (seenC n l r : Int) := Int.mul_nonneg (by omega) (by omega)
          rw [Int.mul_comm] at hv
          refine Ev.step (f := fun k => (impl_countBySeen.f k ((n + 1 : Nat) : Int) ((l - 1 : Nat) : Int) (r : Int)).bind fun t133 => ((impl_countBySeen.f k ((n + 1 : Nat) : Int) (l : Int) ((r - 1 : Nat) : Int)).bind fun t134 => ((impl_countBySeen.f k ((n + 1 : Nat) : Int) (l : Int) (r : Int)).bind fun t135 => (some (wrap64 ((wrap64 (t133 + t134)) + (wrap64 ((n : Int) * t135)))))))) (fun k => ?_) ?_
          · rw [impl_countBySeen.j0,if_neg (by simp),if_neg (by omega),e0,Ac,Ad,e3]
          · refine Ev.bind i1 (Ev.bind i2 (Ev.bind i3 ?_))
            have ev : wrap64 (wrap64 ((seenC n (l - 1) r : Int) + (seenC n l (r - 1) : Int)) + wrap64 ((n : Int) * (seenC n l r : Int))) = (seenC (n + 1) l r : Int) :=
              (wrap_sum _ _ _ (by omega) (by omega) b3'' b3' (by omega) (by omega)).trans hv.symm
            rw [ev]
            exact Ev.now _
theorem impl_yes (n l r : Nat) (hn : n ≤ 14) (hl : l ≤ 15) (hr : r ≤ 15) (w : World) :
    Calls Try.prog 44 #[.int .i64 ((n + 1 : Nat) : Int),.int .i64 (l : Int),.int .i64 (r : Int)] w fun e w' => e = .returned (.tuple #[.int .i64 (seenC n l r : Int),.bool true]) ∧ Drawn0 w w' := by
  have h : Ev (fun k => impl_CountBySeen.f k ((n + 1 : Nat) : Int) (l : Int) (r : Int)) ((seenC n l r : Int),true) := by
    unfold impl_CountBySeen.f impl_in.f
    rw [if_pos (by omega),if_pos (by omega),if_pos (by omega),decide_eq_true (show ((n + 1 : Nat) : Int) ≤ 15 by omega),decide_eq_true (show (l : Int) ≤ 15 by omega),decide_eq_true (show (r : Int) ≤ 15 by omega)]
    simp only [Option.bind_some,if_true]
    exact Ev.bind (count_ev n l r hn hl hr) (Ev.now _)
  obtain ⟨k,hk⟩ := h.rounds
  exact impl_CountBySeen.calls k _ _ _ _ _ w hk
theorem impl_no (a b c : Int) (h : askB a b c = false) (w : World) :
    Calls Try.prog 44 #[.int .i64 a,.int .i64 b,.int .i64 c] w fun e w' => e = .returned (.tuple #[.int .i64 0,.bool false]) ∧ Drawn0 w w' := by
  have hh : impl_CountBySeen.f 0 a b c = some (0,false) := by
    unfold askB at h
    have h := of_decide_eq_false h
    unfold impl_CountBySeen.f impl_in.f
    by_cases h1 : 1 ≤ a <;> by_cases h2 : a ≤ 15 <;> by_cases h3 : 0 ≤ b <;> by_cases h4 : b ≤ 15 <;> by_cases h5 : 0 ≤ c <;> by_cases h6 : c ≤ 15 <;> simp [h1,h2,h3,h4,h5,h6] <;> omega
  exact impl_CountBySeen.calls 0 a b c _ _ w hh
theorem spec_no (a b c : Int) (h : askB a b c = false) (w : World) :
    Calls Try.prog 45 #[.int .i64 a,.int .i64 b,.int .i64 c] w fun e w' => e = .returned (.tuple #[.int .i64 0,.bool false]) ∧ Below w.heap.size w w' := by
  have HB := Aside0.mk (Below.refl w.heap.size w)
  have HA := Aside0.mk (fun W => asked_calls a b c W)
  rw [h] at HA
  clear h
  go_enter Try.func45,Try.ntmps45
  go_wp2_with (go_at_call 78; refine (HA.out _).mono ?_; rintro e w' ⟨rfl,⟨nd,rfl⟩⟩)
  go_ret2
  exact ⟨rfl,(by repeat first|(with_reducible first|exact HB.out|apply below_alloc|apply pw_below_drewN|apply below_drew1)|exact HB.out)⟩
theorem spec_yes (n l r : Nat) (hn : n ≤ 14) (hl : l ≤ 15) (hr : r ≤ 15) (w : World) :
    Calls Try.prog 45 #[.int .i64 ((n + 1 : Nat) : Int),.int .i64 (l : Int),.int .i64 (r : Int)] w fun e w' => e = .returned (.tuple #[.int .i64 (seenC n l r : Int),.bool true]) ∧ Below w.heap.size w w' := by
  have HB := Aside0.mk (Below.refl w.heap.size w)
  have HA := Aside0.mk (fun W => asked_calls ((n + 1 : Nat) : Int) (l : Int) (r : Int) W)
  rw [show askB ((n + 1 : Nat) : Int) (l : Int) (r : Int) = true from decide_eq_true (by omega)] at HA
  have HC := Aside0.mk (fun W => counts_calls n hn W)
  go_enter Try.func45,Try.ntmps45
  go_wp2_with (go_at_call 78; refine (HA.out _).mono ?_; rintro e w' ⟨rfl,⟨nd,rfl⟩⟩)
  refine (HC.out _).mono ?_
  rintro e w3 ⟨v,rfl,ho,hb⟩
  have HBn := Aside0.mk (below_step (by repeat first|(with_reducible first|exact HB.out|apply below_alloc|apply pw_below_drewN|apply below_drew1)|exact HB.out) hb)
  obtain ⟨g,c,e,gb,gl,HG⟩ := Kd.S_form ho (by unfold tabT; rw [prtT_len]; omega)
  cases e
  rw [show (tabT n).length = 16 from prtT_len _ _ _] at ho ⊢
  obtain ⟨va,hca,hra⟩ := tab_get ho l (by omega)
  obtain ⟨Aa,ca,rfl,hla,hCa⟩ := Kd.R_reads hra
  have hlen1 : ((tabT n).getD l []).length = 16 := prtT_row_len _ _ _ _ (by omega)
  obtain ⟨ada,e,hqa⟩ := Kd.at_int hCa (r : Int) (by omega) (by omega)
  cases e
  replace hqa : w3.cell? (ada.add r) = some (.int .i64 (((tabT n).getD l []).getD r 0)) := hqa
  rw [tabT_rd n l r (by omega) (by omega)] at hqa
  rw [hlen1] at hca hla
  clear HB ho hb gb gl HG hra hCa hlen1
  have HB := HBn
  clear HBn
  generalize hq : (seenC n l r : Int) = q at hqa
  have HQ := Aside0.mk hq
  clear hq
  go_wp2_with fail
  go_ret2
  exact ⟨by rw [HQ.out]; rfl,(by repeat first|(with_reducible first|exact HB.out|apply below_alloc|apply pw_below_drewN|apply below_drew1)|exact HB.out)⟩
end Go.Proofs.Ytleacijhpkogpad.HCBS
