/- Who is seen,as the program and the reference tell it: contracts over the printed walks of spec.heSeen,spec.heRight and impl.seen. -/
import Derived.Test.YtleacijhpkogpadPFnHeightsRisex18
import Derived.Test.YtleacijhpkogpadPFnHeightsRisex1
import Derived.Test.YtleacijhpkogpadHGood
import Derived.Test.YtleacijhpkogpadPFnHeightsRisex11
set_option linter.unusedVariables false
set_option linter.unusedSimpArgs false
set_option maxHeartbeats 8000000
set_option maxRecDepth 100000
namespace Go.Proofs.Ytleacijhpkogpad.HSeen
open Go.RowKit YtleacijhpkogpadW.PrintWords YtleacijhpkogpadW.PrintLast YtleacijhpkogpadW.PrintMore PFnHeightsRise HClone

theorem drop_cons (l : List Int) (i : Nat) (h : i < l.length) : l.drop i = rd l (i : Int) :: l.drop (i + 1) := by
  rw [List.drop_eq_getElem_cons h,rd_nat l i h]
def seenR : List Int → Nat → Int → List Int
  | [],_,_ => []
  | h :: t,i,m => if h > m then (i : Int) :: seenR t (i + 1) h else seenR t (i + 1) m
theorem seenR_len : ∀ (t : List Int) (i : Nat) (m : Int),(seenR t i m).length ≤ t.length
  | [],_,_ => by simp [seenR]
  | h :: t,i,m => by
    have h1 := seenR_len t (i + 1) h
    have h2 := seenR_len t (i + 1) m
    simp only [seenR]
    split
    · simp; omega
    · simp; omega
theorem seenR_more (s : List Int) : ∀ (t : List Int) (i : Nat) (m : Int),(seenR t i m).length ≤ (seenR (t ++ s) i m).length
  | [],_,_ => by simp [seenR]
  | h :: t,i,m => by
    have h1 := seenR_more s t (i + 1) h
    have h2 := seenR_more s t (i + 1) m
    simp only [List.cons_append,seenR]
    split
    · simp; omega
    · exact h2
theorem spec_seen_loop (l : List Int) (hl : l.length ≤ 1048576) : ∀ (d i : Nat) (m : Int) (out : List Int), i + d = l.length → out.length ≤ i →
    Ev (fun k => spec_heSeen.l0 k m out l (l.length : Int) (i : Int)) (out ++ seenR (l.drop i) i m) := by
  intro d
  induction d with
  | zero =>
    intro i m out hi ho
    refine Ev.step (f := fun _ => some out) (fun k => ?_) ?_
    · simp only [spec_heSeen.l0]
      rw [if_neg (by omega)]
    · rw [List.drop_eq_nil_of_le (by omega)]
      simp only [seenR,List.append_nil]
      exact Ev.now _
  | succ d ih =>
    intro i m out hi ho
    have hlt : i < l.length := by omega
    rw [drop_cons l i hlt]
    simp only [seenR]
    by_cases c : rd l (i : Int) > m
    · rw [if_pos c]
      have hr := ih (i + 1) (rd l (i : Int)) (out ++ [(i : Int)]) (by omega) (by simp; omega)
      rw [List.append_assoc] at hr
      refine Ev.step (f := fun k => spec_heSeen.l0 k (rd l (i : Int)) (out ++ [(i : Int)]) l (l.length : Int) ((i + 1 : Nat) : Int)) (fun k => ?_) hr
      simp only [spec_heSeen.l0]
      rw [if_pos (by omega),if_pos (by omega),if_pos (by omega),if_pos c,if_pos (by omega),w1 i (by omega)]
    · rw [if_neg c]
      refine Ev.step (f := fun k => spec_heSeen.l0 k m out l (l.length : Int) ((i + 1 : Nat) : Int)) (fun k => ?_) (ih (i + 1) m out (by omega) (by omega))
      simp only [spec_heSeen.l0]
      rw [if_pos (by omega),if_pos (by omega),if_pos (by omega),if_neg c,w1 i (by omega)]
theorem seen_same (k : Nat) : ∀ (out : List Int) (m : Int) (l : List Int) (n i : Int),PFnHeightsRise.impl_seen.l0 k out m l n i = spec_heSeen.l0 k m out l n i := by
  induction k with
  | zero => intros; rfl
  | succ k ih => intro out m l n i; simp only [PFnHeightsRise.impl_seen.l0,spec_heSeen.l0,ih]
theorem spec_seen_ev (l : List Int) (hl : l.length ≤ 1048576) : Ev (fun k => spec_heSeen.f k l) (seenR l 0 0) := by
  have := spec_seen_loop l hl l.length 0 0 [] (by omega) (by simp)
  simpa [spec_heSeen.f] using this
theorem impl_seen_ev (l : List Int) (hl : l.length ≤ 1048576) : Ev (fun k => PFnHeightsRise.impl_seen.f k l) (seenR l 0 0) := by
  refine Ev.congr (fun k => ?_) (spec_seen_ev l hl)
  simp only [PFnHeightsRise.impl_seen.f,spec_heSeen.f,seen_same]
theorem back_loop (l : List Int) (hl : l.length ≤ 1048576) : ∀ (m : Nat) (acc : List Int), m ≤ l.length → acc.length + m ≤ 1048576 →
    Ev (fun k => spec_heBack.l0 k l acc ((m : Int) - 1)) (acc ++ (l.take m).reverse) := by
  intro m
  induction m with
  | zero =>
    intro acc hm ha
    refine Ev.step (f := fun _ => some acc) (fun k => ?_) ?_
    · simp only [spec_heBack.l0]
      rw [if_neg (by omega)]
    · rw [List.take_zero,List.reverse_nil,List.append_nil]
      exact Ev.now _
  | succ m ih =>
    intro acc hm ha
    have hr := ih (acc ++ [rd l (m : Int)]) (by omega) (by simp; omega)
    rw [List.append_assoc] at hr
    have e : (l.take (m + 1)).reverse = [rd l (m : Int)] ++ (l.take m).reverse := by
      rw [List.take_succ_eq_append_getElem (by omega),List.reverse_append,rd_nat l m (by omega)]
      rfl
    rw [e]
    refine Ev.step (fun k => ?_) hr
    simp only [spec_heBack.l0]
    rw [show (((m + 1 : Nat) : Int) - 1) = (m : Int) by omega,if_pos (by omega),if_pos (by omega),if_pos (by omega),if_pos (by omega),wm1 m (by omega)]
theorem back_ev (l : List Int) (hl : l.length ≤ 1048576) : Ev (fun k => spec_heBack.f k l) l.reverse := by
  have h := back_loop l hl l.length [] (by omega) (by simpa using hl)
  rw [List.take_length,List.nil_append] at h
  refine Ev.congr (fun k => ?_) h
  simp only [spec_heBack.f]
  rw [wm1 l.length (by omega)]
def rightMap (n : Nat) (x : Int) : Int := wrap64 (wrap64 ((n : Int) - 1) - x)
def rightL (l : List Int) : List Int := (seenR l.reverse 0 0).reverse.map (rightMap l.length)
theorem rightL_len (l : List Int) : (rightL l).length = (seenR l.reverse 0 0).length := by simp [rightL]
theorem right_spec_loop (l v : List Int) (hv : v.length ≤ 1048576) : ∀ (d i : Nat) (out : List Int), i + d = v.length → out.length ≤ i →
    Ev (fun k => spec_heRight.l0 k l out v (v.length : Int) (i : Int)) (out ++ (v.drop i).map (rightMap l.length)) := by
  intro d
  induction d with
  | zero =>
    intro i out hi ho
    refine Ev.step (f := fun _ => some out) (fun k => ?_) ?_
    · simp only [spec_heRight.l0]
      rw [if_neg (by omega)]
    · rw [List.drop_eq_nil_of_le (by omega),List.map_nil,List.append_nil]
      exact Ev.now _
  | succ d ih =>
    intro i out hi ho
    have hlt : i < v.length := by omega
    rw [drop_cons v i hlt]
    have hr := ih (i + 1) (out ++ [rightMap l.length (rd v (i : Int))]) (by omega) (by simp; omega)
    rw [List.append_assoc] at hr
    rw [List.map_cons]
    refine Ev.step (fun k => ?_) hr
    simp only [spec_heRight.l0]
    rw [if_pos (by omega),if_pos (by omega),if_pos (by omega),if_pos (by omega),w1 i (by omega)]
    rfl
theorem right_ev (l : List Int) (hl : l.length ≤ 1048576) : Ev (fun k => spec_heRight.f k l) (rightL l) := by
  have hr : l.reverse.length ≤ 1048576 := by simpa using hl
  have hs := Nat.le_trans (seenR_len l.reverse 0 0) hr
  have hsr : (seenR l.reverse 0 0).reverse.length ≤ 1048576 := by simpa using hs
  refine Ev.bind (back_ev l hl) ?_
  refine Ev.bind (spec_seen_ev l.reverse hr) ?_
  refine Ev.bind (back_ev _ hs) ?_
  have := right_spec_loop l (seenR l.reverse 0 0).reverse hsr _ 0 [] (Nat.zero_add _) (by simp)
  simpa [rightL] using this
theorem seen_calls (A0 : Option Addr) (c0 : Nat) (l : List Int) (hl : l.length ≤ 1048576) (w : World) (h0 : Kd.C (Kd.int .i64) w A0 l.length l) (hc0 : l.length ≤ c0) :
    Calls Try.prog 54 #[.slice A0 l.length c0] w fun e w' => ∃ v : Value,e = .returned v ∧ Kd.R (Kd.int .i64) 3 w' w.heap.size (fun _ => True) v (seenR l 0 0) ∧ Below w.heap.size w w' := by
  obtain ⟨k,hk⟩ := (impl_seen_ev l hl).rounds
  exact PFnHeightsRise.impl_seen.calls k A0 c0 l _ w h0 hc0 hk
end Go.Proofs.Ytleacijhpkogpad.HSeen
/- Who is seen,as the reference tells it: contracts over the printed walks of spec.heSeen and spec.heRight. -/
namespace Go.Proofs.Ytleacijhpkogpad.HSeen
open Go.RowKit YtleacijhpkogpadW.PrintWords YtleacijhpkogpadW.PrintLast YtleacijhpkogpadW.PrintMore PFnHeightsRise HClone
end Go.Proofs.Ytleacijhpkogpad.HSeen
/- A list told from its end on,as the reference tells it: over the printed walk of spec.heBack. -/
namespace Go.Proofs.Ytleacijhpkogpad.HBack
open Go.RowKit YtleacijhpkogpadW.PrintWords YtleacijhpkogpadW.PrintLast YtleacijhpkogpadW.PrintMore PFnHeightsRise HClone

theorem back_loop (l : List Int) (hl : l.length ≤ 1048576) : ∀ (m : Nat) (acc : List Int), m ≤ l.length → acc.length + m ≤ 1048576 →
    Ev (fun k => spec_heBack.l0 k l acc ((m : Int) - 1)) (acc ++ (l.take m).reverse) := by
  intro m
  induction m with
  | zero =>
    intro acc hm ha
    refine Ev.step (f := fun _ => some acc) (fun k => ?_) ?_
    · simp only [spec_heBack.l0]
      rw [if_neg (by omega)]
    · rw [List.take_zero,List.reverse_nil,List.append_nil]
      exact Ev.now _
  | succ m ih =>
    intro acc hm ha
    have hr := ih (acc ++ [rd l (m : Int)]) (by omega) (by simp; omega)
    rw [List.append_assoc] at hr
    have e : (l.take (m + 1)).reverse = [rd l (m : Int)] ++ (l.take m).reverse := by
      rw [List.take_succ_eq_append_getElem (by omega),List.reverse_append,rd_nat l m (by omega)]
      rfl
    rw [e]
    refine Ev.step (fun k => ?_) hr
    simp only [spec_heBack.l0]
    rw [show (((m + 1 : Nat) : Int) - 1) = (m : Int) by omega,if_pos (by omega),if_pos (by omega),if_pos (by omega),if_pos (by omega),wm1 m (by omega)]
theorem back_ev (l : List Int) (hl : l.length ≤ 1048576) : Ev (fun k => spec_heBack.f k l) l.reverse := by
  have h := back_loop l hl l.length [] (by omega) (by simpa using hl)
  rw [List.take_length,List.nil_append] at h
  refine Ev.congr (fun k => ?_) h
  simp only [spec_heBack.f]
  rw [wm1 l.length (by omega)]
end Go.Proofs.Ytleacijhpkogpad.HBack
/- Who is seen from the left: the walks of spec.SeenFromLeft,impl.SeenFromLeft and of the law. -/
namespace Go.Proofs.Ytleacijhpkogpad.HSFL
open Go.RowKit YtleacijhpkogpadW.PrintWords YtleacijhpkogpadW.PrintLast YtleacijhpkogpadW.PrintMore HImpl HSeen

theorem impl_SeenFromLeft (A0 : Option Addr) (c0 : Nat) (l : List Int) (hl : l.length ≤ 1048576) (w : World) (h0 : Kd.C (Kd.int .i64) w A0 l.length l) (hc0 : l.length ≤ c0) :
    Calls Try.prog 7 #[.slice A0 l.length c0] w fun e w' => ∃ v : Value,e = .returned (.tuple #[v,.bool (good l)]) ∧ Kd.R (Kd.int .i64) 3 w' w.heap.size (fun _ => True) v (if good l = true then seenR l 0 0 else []) ∧ Below w.heap.size w w' := by
  have HB := Aside0.mk (Below.refl w.heap.size w)
  have HC := Aside0.mk h0
  cases hg : good l with
  | false =>
    have HG := Aside0.mk (HImpl.are_is A0 c0 l false hg w h0 hc0)
    clear h0 hg
    go_enter Try.func7,Try.ntmps7
    go_wp2_with (go_at_call 53; refine HG.out.mono ?_; rintro e w' ⟨rfl,⟨nd,rfl⟩⟩)
    go_ret2
    exact ⟨_,rfl,Kd.R_nil _ _ _ _ _,(by repeat first|(with_reducible first|exact HB.out|apply below_alloc|apply pw_below_drewN|apply below_drew1)|exact HB.out)⟩
  | true =>
    have HG := Aside0.mk (HImpl.are_is A0 c0 l true hg w h0 hc0)
    have HF := Aside0.mk (fun W (hC : Kd.C (Kd.int .i64) W A0 l.length l) => seen_calls A0 c0 l hl W hC hc0)
    clear h0 hg
    simp only [if_true]
    go_enter Try.func7,Try.ntmps7
    go_wp2_with (first | (go_at_call 53; refine HG.out.mono ?_; rintro e w' ⟨rfl,⟨nd,rfl⟩⟩) | (go_at_call 54; refine (HF.out _ (Kd.C_below HC.out (by repeat first|(with_reducible first|exact HB.out|apply below_alloc|apply pw_below_drewN|apply below_drew1)|exact HB.out))).mono ?_; rintro e w2 ⟨v2,rfl,ho,hb⟩; have HO := Aside0.mk (Kd.R_lower ho (below_size (by repeat first|(with_reducible first|exact HB.out|apply below_alloc|apply pw_below_drewN|apply below_drew1)|exact HB.out))); have HBn := Aside0.mk (below_step (by repeat first|(with_reducible first|exact HB.out|apply below_alloc|apply pw_below_drewN|apply below_drew1)|exact HB.out) hb); clear ho hb HB; have HB := HBn; clear HBn))
    go_ret2
    exact ⟨_,rfl,HO.out,(by repeat first|(with_reducible first|exact HB.out|apply below_alloc|apply pw_below_drewN|apply below_drew1)|exact HB.out)⟩
end Go.Proofs.Ytleacijhpkogpad.HSFL
/- Who is seen from the right: the walks of spec.SeenFromRight,impl.SeenFromRight and of the law. -/
namespace Go.Proofs.Ytleacijhpkogpad.HSFR
open Go.RowKit YtleacijhpkogpadW.PrintWords YtleacijhpkogpadW.PrintLast YtleacijhpkogpadW.PrintMore HImpl HSeen

theorem impl_SeenFromRight (A0 : Option Addr) (c0 : Nat) (l : List Int) (hl : l.length ≤ 1048576) (w : World) (h0 : Kd.C (Kd.int .i64) w A0 l.length l) (hc0 : l.length ≤ c0) :
    Calls Try.prog 8 #[.slice A0 l.length c0] w fun e w' => ∃ v : Value,e = .returned (.tuple #[v,.bool (good l)]) ∧ Kd.R (Kd.int .i64) 3 w' w.heap.size (fun _ => True) v (if good l = true then rightL l else []) ∧ Below w.heap.size w w' := by
  have HB := Aside0.mk (Below.refl w.heap.size w)
  have HC := Aside0.mk h0
  cases hg : good l with
  | false =>
    have HG := Aside0.mk (HImpl.are_is A0 c0 l false hg w h0 hc0)
    clear h0 hg
    go_enter Try.func8,Try.ntmps8
    go_wp2_with (go_at_call 53; refine HG.out.mono ?_; rintro e w' ⟨rfl,⟨nd,rfl⟩⟩)
    go_ret2
    exact ⟨_,rfl,Kd.R_nil _ _ _ _ _,(by repeat first|(with_reducible first|exact HB.out|apply below_alloc|apply pw_below_drewN|apply below_drew1)|exact HB.out)⟩
  | true =>
    have HG := Aside0.mk (HImpl.are_is A0 c0 l true hg w h0 hc0)
    have HM1 := Aside0.mk (fun W hC => HClone.mirrored_calls A0 c0 l hl W hC)
    have hr : l.reverse.length ≤ 1048576 := by simpa using hl
    have HSE := Aside0.mk (fun A c W hC hc => seen_calls A c l.reverse hr W hC hc)
    have hs : (seenR l.reverse 0 0).length ≤ 1048576 := Nat.le_trans (seenR_len l.reverse 0 0) hr
    have HM2 := Aside0.mk (fun A c W hC => HClone.mirrored_calls A c (seenR l.reverse 0 0) hs W hC)
    have hE : rightL l = (seenR l.reverse 0 0).reverse.map (rightMap l.length) := rfl
    have hsr : (seenR l.reverse 0 0).reverse.length ≤ 1048576 := by simpa using hs
    generalize (seenR l.reverse 0 0).reverse = m at HM2 hE hsr
    generalize seenR l.reverse 0 0 = sq at HSE HM2
    generalize l.reverse = lr at HM1 HSE
    simp only [if_true]
    generalize rightL l = T at hE
    have HE := Aside0.mk hE
    have HL := Aside0.mk hl
    clear h0 hg hs hr hE hl
    go_enter Try.func8,Try.ntmps8
    go_wp2_with (go_at_call 53; refine HG.out.mono ?_; rintro e w' ⟨rfl,⟨nd,rfl⟩⟩)
    refine (HM1.out _ (Kd.C_below HC.out (by repeat first|(with_reducible first|exact HB.out|apply below_alloc|apply pw_below_drewN|apply below_drew1)|exact HB.out))).mono ?_
    rintro e w2 ⟨v2,rfl,ho,hb⟩
    obtain ⟨A2,c2,rfl,hc2,hC2⟩ := Kd.R_reads ho
    have HC2 := Aside0.mk hC2
    have HBn := Aside0.mk (below_step (by repeat first|(with_reducible first|exact HB.out|apply below_alloc|apply pw_below_drewN|apply below_drew1)|exact HB.out) hb)
    clear ho hC2 hb HB
    go_wp2_with fail
    refine (HSE.out A2 c2 _ HC2.out hc2).mono ?_
    rintro e w3 ⟨v3,rfl,ho,hb⟩
    obtain ⟨A3,c3,rfl,hc3,hC3⟩ := Kd.R_reads ho
    have HC3 := Aside0.mk hC3
    have HB3 := Aside0.mk (below_step HBn.out hb)
    clear ho hC3 hb HBn HC2
    go_wp2_with fail
    refine (HM2.out A3 c3 _ HC3.out).mono ?_
    rintro e w4 ⟨v4,rfl,ho,hb⟩
    have HO := Aside0.mk (Kd.R_lower ho HB3.out.size)
    obtain ⟨A4,c4,rfl,hc4,hC4⟩ := Kd.R_reads ho
    have HB := Aside0.mk (below_step HB3.out hb)
    clear ho hC4 hb HB3 HC3
    go_wp2_with fail
    go_loopg [5,15] m.length (fun kq v5 v15 w' => ∃ (i : Nat) (x : List Int),v15 = .int .i64 (i : Int) ∧ Aside0 (kq + i = m.length) ∧ Aside0 (x.length = m.length) ∧ Aside0 (x.take i ++ (x.drop i).map (rightMap l.length) = T) ∧ Aside0 (Kd.R (Kd.int .i64) 3 w' w.heap.size (fun _ => True) (.slice A4 m.length c4) x) ∧ Aside0 (Below w.heap.size w w'))
    case atStart => exact ⟨0,m,rfl,⟨rfl⟩,⟨rfl⟩,⟨by rw [HE.out]; rfl⟩,HO,HB⟩
    case round =>
      clear HO HB
      obtain ⟨i,x,rfl,HK,HX,HT,HO,HB⟩ := hrel
      by_cases hi : i < m.length
      · obtain ⟨g,cap,e,hgb,_,_⟩ := Kd.R_form HO.out (by have := HX.out; omega)
        simp only [Value.slice.injEq] at e
        obtain ⟨rfl,_,rfl⟩ := e
        obtain ⟨hx,hf⟩ := Kd.R_celln 0 HO.out (i : Int) (by omega) (by have := HX.out; omega)
        replace hx : wr.cell? ⟨g,i,none⟩ = some (.int .i64 (rd x (i : Int))) := hx
        replace hf : wr.frozen? ⟨g,i,none⟩ = false := hf
        have HP := Aside0.mk (Kd.R_putg HO.out (i : Int) (rightMap l.length (rd x (i : Int))))
        have HN : Aside0 ((x.set i (rightMap l.length (rd x (i : Int)))).take (i + 1) ++ ((x.set i (rightMap l.length (rd x (i : Int)))).drop (i + 1)).map (rightMap l.length) = T) := ⟨by
          rw [← HT.out,HSeen.drop_cons x i (by have := HX.out; omega),List.take_succ_eq_append_getElem (by have := HX.out; simp; omega),List.getElem_set_self,List.append_assoc]
          simp [List.take_set_of_le,List.drop_set_of_lt]⟩
        have hv : rightMap l.length (rd x (i : Int)) = wrap64 (wrap64 ((l.length : Int) - 1) - rd x (i : Int)) := rfl
        rw [hv] at HP HN
        clear hv HT
        generalize rd x (i : Int) = y at hx HP HN
        go_wp2_with fail
        go_roundg (m.length - (i + 1))
        case measure => have := HK.out; omega
        case rel => exact ⟨i + 1,_,by first | rfl | (simp; have := HL.out; unfold wrap64; omega),⟨by omega⟩,⟨by rw [List.length_set]; exact HX.out⟩,HN,⟨HP.out.1⟩,⟨below_set HB.out hgb⟩⟩
      · have HT2 : Aside0 (x = T) := ⟨by rw [← HT.out,List.take_of_length_le (by have := HX.out; omega),List.drop_eq_nil_of_le (by have := HX.out; omega),List.map_nil,List.append_nil]⟩
        go_wp2_with fail
        go_ret2
        exact ⟨_,rfl,by rw [← HT2.out]; exact HO.out,(by repeat first|(with_reducible first|exact HB.out|apply below_alloc|apply pw_below_drewN|apply below_drew1)|exact HB.out)⟩
end Go.Proofs.Ytleacijhpkogpad.HSFR
/- What is a list of heights: the walks of spec.AreHeights,impl.AreHeights and of the law. -/
namespace Go.Proofs.Ytleacijhpkogpad.HAH
open Go.RowKit YtleacijhpkogpadW.PrintWords YtleacijhpkogpadW.PrintLast YtleacijhpkogpadW.PrintMore HImpl

theorem impl_AreHeights (A0 : Option Addr) (c0 : Nat) (l : List Int) (hl : l.length ≤ 1048576) (w : World) (h0 : Kd.C (Kd.int .i64) w A0 l.length l) (hc0 : l.length ≤ c0) :
    Calls Try.prog 19 #[.slice A0 l.length c0] w fun e w' => e = .returned (.bool (good l)) ∧ Below w.heap.size w w' := by
  have HB := Aside0.mk (Below.refl w.heap.size w)
  have HG := Aside0.mk (HImpl.are_is A0 c0 l _ rfl w h0 hc0)
  clear h0
  go_enter Try.func19,Try.ntmps19
  go_wp2_with (go_at_call 53; refine HG.out.mono ?_; rintro e w' ⟨rfl,⟨nd,rfl⟩⟩)
  go_ret
  exact ⟨rfl,(by repeat first|(with_reducible first|exact HB.out|apply below_alloc|apply pw_below_drewN|apply below_drew1)|exact HB.out)⟩
end Go.Proofs.Ytleacijhpkogpad.HAH
/- A list of heights mirrored: the walks of spec.MirrorHeights,impl.MirrorHeights and of the law. -/
namespace Go.Proofs.Ytleacijhpkogpad.HMir
open Go.RowKit YtleacijhpkogpadW.PrintWords YtleacijhpkogpadW.PrintLast YtleacijhpkogpadW.PrintMore HImpl HClone HBack

theorem impl_MirrorHeights (A0 : Option Addr) (c0 : Nat) (l : List Int) (hl : l.length ≤ 1048576) (w : World) (h0 : Kd.C (Kd.int .i64) w A0 l.length l) (hc0 : l.length ≤ c0) :
    Calls Try.prog 15 #[.slice A0 l.length c0] w fun e w' => ∃ v : Value,e = .returned (.tuple #[v,.bool (good l)]) ∧ Kd.R (Kd.int .i64) 3 w' w.heap.size (fun _ => True) v (if good l = true then l.reverse else []) ∧ Below w.heap.size w w' := by
  have HB := Aside0.mk (Below.refl w.heap.size w)
  have HC := Aside0.mk h0
  cases hg : good l with
  | false =>
    have HG := Aside0.mk (HImpl.are_is A0 c0 l false hg w h0 hc0)
    clear h0 hg
    go_enter Try.func15,Try.ntmps15
    go_wp2_with (go_at_call 53; refine HG.out.mono ?_; rintro e w' ⟨rfl,⟨nd,rfl⟩⟩)
    go_ret2
    exact ⟨_,rfl,Kd.R_nil _ _ _ _ _,(by repeat first|(with_reducible first|exact HB.out|apply below_alloc|apply pw_below_drewN|apply below_drew1)|exact HB.out)⟩
  | true =>
    have HG := Aside0.mk (HImpl.are_is A0 c0 l true hg w h0 hc0)
    have HF := Aside0.mk (fun W (hC : Kd.C (Kd.int .i64) W A0 l.length l) => mirrored_calls A0 c0 l hl W hC)
    clear h0 hg
    simp only [if_true]
    go_enter Try.func15,Try.ntmps15
    go_wp2_with (first | (go_at_call 53; refine HG.out.mono ?_; rintro e w' ⟨rfl,⟨nd,rfl⟩⟩) | (go_at_call 55; refine (HF.out _ (Kd.C_below HC.out (by repeat first|(with_reducible first|exact HB.out|apply below_alloc|apply pw_below_drewN|apply below_drew1)|exact HB.out))).mono ?_; rintro e w2 ⟨v2,rfl,ho,hb⟩; have HO := Aside0.mk (Kd.R_lower ho (below_size (by repeat first|(with_reducible first|exact HB.out|apply below_alloc|apply pw_below_drewN|apply below_drew1)|exact HB.out))); have HBn := Aside0.mk (below_step (by repeat first|(with_reducible first|exact HB.out|apply below_alloc|apply pw_below_drewN|apply below_drew1)|exact HB.out) hb); clear ho hb HB; have HB := HBn; clear HBn))
    go_ret2
    exact ⟨_,rfl,HO.out,(by repeat first|(with_reducible first|exact HB.out|apply below_alloc|apply pw_below_drewN|apply below_drew1)|exact HB.out)⟩
end Go.Proofs.Ytleacijhpkogpad.HMir
