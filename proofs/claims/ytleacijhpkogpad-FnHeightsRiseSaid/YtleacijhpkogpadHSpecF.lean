/- Whether a number stands in a list: the walks of slices.Index and slices.Contains,and the reference's printed one. -/
import Derived.Test.YtleacijhpkogpadPFnHeightsRisex19
import Derived.Test.YtleacijhpkogpadHGood
import Derived.Test.YtleacijhpkogpadHSFL
import Derived.Deep.RegionHeld3
import Derived.WalkSpells
import Derived.Lib.SliceRun
import Derived.Test.YtleacijhpkogpadPFnHeightsRisex1
import Derived.Laws.EntriesVeiled
import Derived.Laws.NewBlocks
import Derived.Test.YtleacijhpkogpadPFnHeightsRisex21
set_option linter.unusedVariables false
set_option linter.unusedSimpArgs false
set_option maxHeartbeats 16000000
set_option maxRecDepth 100000
namespace Go.Proofs.Ytleacijhpkogpad.HHas
open Go.RowKit YtleacijhpkogpadW.PrintWords YtleacijhpkogpadW.PrintLast YtleacijhpkogpadW.PrintMore PFnHeightsRise HImpl HClone HSeen

theorem index_calls (A0 : Option Addr) (c0 : Nat) (l0 : List Int) (x : Int) (w : World) (hr0 : Kd.C (Kd.int .i64) w A0 l0.length l0) (hl : l0.length ≤ 1048576) :
    Calls Try.prog 94 #[.slice A0 l0.length c0,.int .i64 x] w fun e w' => e = .returned (.int .i64 (idxF (fun y => x == y) l0 0)) ∧ Drawn0 w w' := by
  have HR0 := Aside0.mk hr0
  clear hr0
  go_enter Try.func94,Try.ntmps94
  go_wp2
  go_loopg [5,8] l0.length (fun kq v5 v8 w' => ∃ (i : Int),0 ≤ i ∧ i ≤ (l0.length : Int) ∧ (l0.length : Int) - i = (kq : Int) ∧ v8 = .int .i64 i ∧ Aside0 (idxF (fun y => x == y) (l0.drop i.toNat) i = idxF (fun y => x == y) l0 0) ∧ Drawn0 w w')
  case atStart => exact ⟨0,by omega,by omega,by omega,rfl,⟨rfl⟩,Drawn0.refl _⟩
  case round =>
    obtain ⟨i,hi0,hi1,hk,rfl,HA,⟨m1,rfl⟩⟩ := hrel
    by_cases hlt : i < (l0.length : Int)
    · have hst := Aside0.mk (idxF_step (fun y => x == y) l0 i hi0 hlt)
      obtain ⟨ad,ead,hx⟩ := Kd.at_int HR0.out i hi0 hlt
      cases ead
      generalize hy : rd l0 i = y at hx hst
      clear hy
      cases hq : (x == y) with
      | true =>
        have HQ := Aside0.mk hq
        go_wp2
        go_ret
        refine ⟨?_,by repeat (first | exact Drawn0.refl _ | apply Drawn0.step)⟩
        rw [← HA.out,hst.out]; simp only [HQ.out]; rfl
      | false =>
        have HQ := Aside0.mk hq
        go_wp2
        go_roundg (l0.length - (i + 1).toNat)
        case measure => omega
        case rel => exact ⟨i + 1,by omega,by omega,by omega,by first | rfl | go_num,⟨by rw [← HA.out,hst.out]; simp only [HQ.out]; rfl⟩,by repeat (first | exact Drawn0.refl _ | apply Drawn0.step)⟩
    · have e : i = (l0.length : Int) := by omega
      have H2 : Aside0 (idxF (fun y => x == y) l0 0 = -1) := ⟨by rw [← HA.out,e]; simp [idxF]⟩
      have c4b0 : decide (i < (l0.length : Int)) = false := decide_eq_false hlt
      clear e hlt hk hi1 hi0
      go_wp2
      go_ret
      exact ⟨by rw [H2.out]; first | rfl | (simp; done),by repeat (first | exact Drawn0.refl _ | apply Drawn0.step)⟩
def has (l : List Int) (x : Int) : Bool := l.any (fun y => x == y)
theorem contains_calls (A0 : Option Addr) (c0 : Nat) (l0 : List Int) (x : Int) (b : Bool) (hb : has l0 x = b) (hl : l0.length ≤ 1048576) (w : World) (hr0 : Kd.C (Kd.int .i64) w A0 l0.length l0) :
    Calls Try.prog 82 #[.slice A0 l0.length c0,.int .i64 x] w fun e w' => e = .returned (.bool b) ∧ Drawn0 w w' := by
  have hI := Aside0.mk (index_calls A0 c0 l0 x w hr0 hl)
  have hA := Aside0.mk (idxF_any (fun y => x == y) l0 0 (by omega))
  unfold has at hb
  rw [hb] at hA
  clear hb
  generalize idxF (fun y => x == y) l0 0 = i at hI hA
  have hb : decide (0 ≤ i) = b := hA.out
  clear hA
  subst hb
  go_enter Try.func82,Try.ntmps82
  go_wp2_with (go_at_call 94; refine hI.out.mono ?_; rintro e w' ⟨rfl,⟨nd,rfl⟩⟩)
  go_ret
  exact ⟨rfl,⟨nd,rfl⟩⟩
theorem has_loop (l : List Int) (hl : l.length ≤ 1048576) (x : Int) : ∀ (d i : Nat), i + d = l.length →
    Ev (fun k => spec_l1Has.l0 k x l (l.length : Int) (i : Int)) (has (l.drop i) x) := by
  intro d
  induction d with
  | zero =>
    intro i hi
    refine Ev.step (f := fun _ => some false) (fun k => ?_) ?_
    · simp only [spec_l1Has.l0]
      rw [if_neg (by omega)]
    · rw [List.drop_eq_nil_of_le (by omega)]
      exact Ev.now _
  | succ d ih =>
    intro i hi
    have hlt : i < l.length := by omega
    rw [drop_cons l i hlt]
    by_cases c : rd l (i : Int) = x
    · refine Ev.step (f := fun _ => some true) (fun k => ?_) ?_
      · simp only [spec_l1Has.l0]
        rw [if_pos (by omega),if_pos (by omega),if_pos (by omega),if_pos c]
      · have : has (rd l (i : Int) :: l.drop (i + 1)) x = true := by simp [has,c]
        rw [this]; exact Ev.now _
    · have e : has (rd l (i : Int) :: l.drop (i + 1)) x = has (l.drop (i + 1)) x := by
        simp only [has,List.any_cons]
        rw [beq_eq_false_iff_ne.2 (fun h => c h.symm),Bool.false_or]
      rw [e]
      refine Ev.step (fun k => ?_) (ih (i + 1) (by omega))
      simp only [spec_l1Has.l0]
      rw [if_pos (by omega),if_pos (by omega),if_pos (by omega),if_neg c,w1 i (by omega)]
theorem has_ev (l : List Int) (hl : l.length ≤ 1048576) (x : Int) : Ev (fun k => spec_l1Has.f k l x) (has l x) := has_loop l hl x l.length 0 (by omega)
end Go.Proofs.Ytleacijhpkogpad.HHas
/- The first order so seen: the closure of impl.FirstBySeen,which calls itself. -/
namespace Go.Proofs.Ytleacijhpkogpad.HFind
open Go.RowKit YtleacijhpkogpadW.PrintWords YtleacijhpkogpadW.PrintLast YtleacijhpkogpadW.PrintMore HClone HSeen HHas

def scan (g : Int → Option (List Int)) : Nat → Int → Option (List Int)
  | 0,_ => none
  | c + 1,h => match g h with
    | some o => some o
    | none => scan g c (h + 1)
def look (n : Nat) (L R : Int) : Nat → List Int → Option (List Int)
  | 0,s => if ((seenR s 0 0).length : Int) = L ∧ ((seenR s.reverse 0 0).length : Int) = R then some s else none
  | d + 1,s => scan (fun h => if has s h = true then none else look n L R d (s ++ [h])) n 1
theorem scan_len {g : Int → Option (List Int)} {n : Nat} (hg : ∀ h o,g h = some o → o.length = n) : ∀ c h o,scan g c h = some o → o.length = n
  | 0,_,_,e => by simp [scan] at e
  | c + 1,h,o,e => by
    rw [scan] at e
    cases hx : g h with
    | some o' => rw [hx] at e; simp only [Option.some.injEq] at e; subst e; exact hg h _ hx
    | none => rw [hx] at e; exact scan_len hg c _ _ e
theorem look_len (n : Nat) (L R : Int) : ∀ (d : Nat) (s : List Int),s.length + d = n → ∀ o,look n L R d s = some o → o.length = n
  | 0,s,hs,o,e => by
    rw [look] at e
    split at e
    · simp only [Option.some.injEq] at e; subst e; omega
    · simp at e
  | d + 1,s,hs,o,e => by
    rw [look] at e
    refine scan_len (fun h o' he => ?_) _ _ _ e
    split at he
    · simp at he
    · exact look_len n L R d _ (by simp; omega) _ he
theorem C_one {w : World} {g : Nat} {x : Int} (h : w.cell? ⟨g,0,none⟩ = some (.int .i64 x)) : Kd.C (Kd.int .i64) w (some ⟨g,0,none⟩) 1 [x] := by
  refine ⟨rfl,by omega,fun _ => ⟨_,rfl,fun j p hj => ?_⟩⟩
  obtain ⟨hj1,hp⟩ := List.getElem?_eq_some_iff.1 hj
  have hj0 : j = 0 := by simpa using hj1
  subst hj0
  have hpx : p = x := by simpa using hp.symm
  subst hpx
  refine ⟨[.int .i64 p],rfl,rfl,fun i u hu => ?_⟩
  obtain ⟨hi1,hq⟩ := List.getElem?_eq_some_iff.1 hu
  have hi0 : i = 0 := by simpa using hi1
  subst hi0
  have : u = .int .i64 p := by simpa using hq.symm
  subst this
  exact h
def Ret (base : Nat) (w : World) (v : Value) : Option (List Int) → Prop
  | none => v = .slice none 0 0
  | some r => Kd.R (Kd.int .i64) 3 w base (fun _ => True) v r
abbrev FB : Nat := 81
abbrev PS (a b c d : Nat) : Array Value := #[.pointer (some ⟨a,0,none⟩),.pointer (some ⟨b,0,none⟩),.pointer (some ⟨c,0,none⟩),.pointer (some ⟨d,0,none⟩)]
theorem leaf_calls (n : Nat) (hn : 1 ≤ n ∧ n ≤ 8) (L R : Int) (a b c d : Nat) (s : List Int) (hs : s.length = n) (base : Nat) (u : Value) (w : World) (hbase : base ≤ w.heap.size)
    (hu : Kd.R (Kd.int .i64) 3 w base (fun _ => True) u s) (ha : w.cell? ⟨a,0,none⟩ = some (.int .i64 (n : Int))) (hb : w.cell? ⟨b,0,none⟩ = some (.int .i64 L)) (hc : w.cell? ⟨c,0,none⟩ = some (.int .i64 R)) :
    Calls Try.prog FB (#[u] ++ PS a b c d) w fun e w' => ∃ v,e = .returned v ∧ Ret base w' v (look n L R 0 s) ∧ Below w.heap.size w w' := by
  have HU := Aside0.mk hu
  have HB := Aside0.mk (Below.refl w.heap.size w)
  obtain ⟨A,cp,eu,hcp,hC⟩ := Kd.R_reads hu
  subst eu
  have HC := Aside0.mk hC
  have HCells := Aside0.mk (fun W' (hW : Below w.heap.size w W') => (⟨pw_cell_below hW hb,pw_cell_below hW hc⟩ : W'.cell? ⟨b,0,none⟩ = some (.int .i64 L) ∧ W'.cell? ⟨c,0,none⟩ = some (.int .i64 R)))
  have HS := Aside0.mk hs
  clear hu hC hb hc
  have hlook : look n L R 0 s = if ((seenR s 0 0).length : Int) = L ∧ ((seenR s.reverse 0 0).length : Int) = R then some s else none := rfl
  rw [hlook]
  clear hlook
  have hE : ((s.length : Int) == (n : Int)) = true := by rw [hs]; simp
  have HSEEN := Aside0.mk (fun W hW => seen_calls A cp s (by omega) W hW hcp)
  have HMIR := Aside0.mk (fun W hW => mirrored_calls A cp s (by omega) W hW)
  have HSEEN2 := Aside0.mk (fun A2 c2 W hW hc2 => seen_calls A2 c2 s.reverse (by simp; omega) W hW hc2)
  have hrl : s.reverse.length = s.length := by simp
  generalize hsr : s.reverse = sr at HMIR HSEEN2 hrl
  clear hsr
  generalize hp : seenR s 0 0 = ps at HSEEN
  generalize hq : seenR sr 0 0 = qs at HSEEN2
  clear hp hq
  clear hs hrl
  by_cases h1 : (ps.length : Int) = L
  · have hE1 : ((ps.length : Int) == L) = true := beq_iff_eq.2 h1
    by_cases h2 : (qs.length : Int) = R
    · have hE2 : ((qs.length : Int) == R) = true := beq_iff_eq.2 h2
      rw [if_pos ⟨h1,h2⟩]
      clear h1 h2
      go_enter Try.func81,Try.ntmps81
      go_wp2
      go_region_held3 (fun w' => w'.cell? ⟨b,0,none⟩ = some (.int .i64 L) ∧ w'.cell? ⟨c,0,none⟩ = some (.int .i64 R)) (first | exact (HCells.out _ (by repeat first|(with_reducible first|exact HB.out|apply below_alloc|apply pw_below_drewN|apply below_drew1)|exact HB.out)) | exact (HCells.out _ (by repeat first|(with_reducible first|exact HB.out|apply below_alloc|apply pw_below_drewN|apply below_drew1)|exact HB.out)).1 | exact (HCells.out _ (by repeat first|(with_reducible first|exact HB.out|apply below_alloc|apply pw_below_drewN|apply below_drew1)|exact HB.out)).2 | go_keep) (first | (go_at_call 55; (with_reducible refine (HMIR.out _ ?side1).mono ?_); (case side1 => exact (by repeat (first | exact HC.out | (with_reducible refine Kd.C_alloc ?_ _) | (with_reducible refine Kd.C_drewN ?_ _) | (with_reducible refine Kd.C_drew ?_)))); rintro e w2 ⟨v2,rfl,ho,hb2⟩; obtain ⟨A2,cp2,Ab,hcp2,hC2⟩ := Kd.R_reads ho; subst Ab; have HC2 := Aside0.mk hC2; have HBn := Aside0.mk (below_step (by repeat first|(with_reducible first|exact HB.out|apply below_alloc|apply pw_below_drewN|apply below_drew1)|exact HB.out) hb2); clear ho hC2 hb2 HB; have HB := HBn; clear HBn) | (go_at_call 54; (with_reducible refine (HSEEN2.out A2 cp2 _ ?side1 hcp2).mono ?_); (case side1 => exact (by repeat (first | exact HC2.out | (with_reducible refine Kd.C_alloc ?_ _) | (with_reducible refine Kd.C_drewN ?_ _) | (with_reducible refine Kd.C_drew ?_)))); rintro e w3 ⟨v3,rfl,ho,hb3⟩; obtain ⟨A3,cp3,Ac,hcp3,hC3⟩ := Kd.R_reads ho; subst Ac; have HBn := Aside0.mk (below_step (by repeat first|(with_reducible first|exact HB.out|apply below_alloc|apply pw_below_drewN|apply below_drew1)|exact HB.out) hb3); clear ho hC3 hb3 HB; have HB := HBn; clear HBn) | (go_at_call 54; (with_reducible refine (HSEEN.out _ ?side1).mono ?_); (case side1 => exact (by repeat (first | exact HC.out | (with_reducible refine Kd.C_alloc ?_ _) | (with_reducible refine Kd.C_drewN ?_ _) | (with_reducible refine Kd.C_drew ?_)))); rintro e w1 ⟨v1,rfl,ho,hb1⟩; obtain ⟨A1,cp1,Aa,hcp1,hC1⟩ := Kd.R_reads ho; subst Aa; have HBn := Aside0.mk (below_step (by repeat first|(with_reducible first|exact HB.out|apply below_alloc|apply pw_below_drewN|apply below_drew1)|exact HB.out) hb1); have HCn := Aside0.mk (Kd.C_below (by repeat (first | exact HC.out | (with_reducible refine Kd.C_alloc ?_ _) | (with_reducible refine Kd.C_drewN ?_ _) | (with_reducible refine Kd.C_drew ?_))) hb1); clear ho hC1 hb1 HB HC; have HB := HBn; have HC := HCn; clear HBn HCn))
      all_goals go_wp2
      go_ret
      exact ⟨_,rfl,Kd.R_below HU.out (by repeat first|(with_reducible first|exact HB.out|apply below_alloc|apply pw_below_drewN|apply below_drew1)|exact HB.out),(by repeat first|(with_reducible first|exact HB.out|apply below_alloc|apply pw_below_drewN|apply below_drew1)|exact HB.out)⟩
    · have hE2 : ((qs.length : Int) == R) = false := beq_eq_false_iff_ne.2 h2
      rw [if_neg (fun z => h2 z.2)]
      clear h1 h2
      go_enter Try.func81,Try.ntmps81
      go_wp2
      go_region_held3 (fun w' => w'.cell? ⟨b,0,none⟩ = some (.int .i64 L) ∧ w'.cell? ⟨c,0,none⟩ = some (.int .i64 R)) (first | exact (HCells.out _ (by repeat first|(with_reducible first|exact HB.out|apply below_alloc|apply pw_below_drewN|apply below_drew1)|exact HB.out)) | exact (HCells.out _ (by repeat first|(with_reducible first|exact HB.out|apply below_alloc|apply pw_below_drewN|apply below_drew1)|exact HB.out)).1 | exact (HCells.out _ (by repeat first|(with_reducible first|exact HB.out|apply below_alloc|apply pw_below_drewN|apply below_drew1)|exact HB.out)).2 | go_keep) (first | (go_at_call 55; (with_reducible refine (HMIR.out _ ?side1).mono ?_); (case side1 => exact (by repeat (first | exact HC.out | (with_reducible refine Kd.C_alloc ?_ _) | (with_reducible refine Kd.C_drewN ?_ _) | (with_reducible refine Kd.C_drew ?_)))); rintro e w2 ⟨v2,rfl,ho,hb2⟩; obtain ⟨A2,cp2,Ab,hcp2,hC2⟩ := Kd.R_reads ho; subst Ab; have HC2 := Aside0.mk hC2; have HBn := Aside0.mk (below_step (by repeat first|(with_reducible first|exact HB.out|apply below_alloc|apply pw_below_drewN|apply below_drew1)|exact HB.out) hb2); clear ho hC2 hb2 HB; have HB := HBn; clear HBn) | (go_at_call 54; (with_reducible refine (HSEEN2.out A2 cp2 _ ?side1 hcp2).mono ?_); (case side1 => exact (by repeat (first | exact HC2.out | (with_reducible refine Kd.C_alloc ?_ _) | (with_reducible refine Kd.C_drewN ?_ _) | (with_reducible refine Kd.C_drew ?_)))); rintro e w3 ⟨v3,rfl,ho,hb3⟩; obtain ⟨A3,cp3,Ac,hcp3,hC3⟩ := Kd.R_reads ho; subst Ac; have HBn := Aside0.mk (below_step (by repeat first|(with_reducible first|exact HB.out|apply below_alloc|apply pw_below_drewN|apply below_drew1)|exact HB.out) hb3); clear ho hC3 hb3 HB; have HB := HBn; clear HBn) | (go_at_call 54; (with_reducible refine (HSEEN.out _ ?side1).mono ?_); (case side1 => exact (by repeat (first | exact HC.out | (with_reducible refine Kd.C_alloc ?_ _) | (with_reducible refine Kd.C_drewN ?_ _) | (with_reducible refine Kd.C_drew ?_)))); rintro e w1 ⟨v1,rfl,ho,hb1⟩; obtain ⟨A1,cp1,Aa,hcp1,hC1⟩ := Kd.R_reads ho; subst Aa; have HBn := Aside0.mk (below_step (by repeat first|(with_reducible first|exact HB.out|apply below_alloc|apply pw_below_drewN|apply below_drew1)|exact HB.out) hb1); have HCn := Aside0.mk (Kd.C_below (by repeat (first | exact HC.out | (with_reducible refine Kd.C_alloc ?_ _) | (with_reducible refine Kd.C_drewN ?_ _) | (with_reducible refine Kd.C_drew ?_))) hb1); clear ho hC1 hb1 HB HC; have HB := HBn; have HC := HCn; clear HBn HCn))
      all_goals go_wp2
      go_ret
      exact ⟨_,rfl,rfl,(by repeat first|(with_reducible first|exact HB.out|apply below_alloc|apply pw_below_drewN|apply below_drew1)|exact HB.out)⟩
  · have hE1 : ((ps.length : Int) == L) = false := beq_eq_false_iff_ne.2 h1
    rw [if_neg (fun z => h1 z.1)]
    clear h1
    go_enter Try.func81,Try.ntmps81
    go_wp2
    have hcb := (HCells.out w (Below.refl _ _)).1
    (first | (go_region_with (go_at_call 54; (with_reducible refine (HSEEN.out _ ?side1).mono ?_); (case side1 => exact (by repeat (first | exact HC.out | (with_reducible refine Kd.C_alloc ?_ _) | (with_reducible refine Kd.C_drewN ?_ _) | (with_reducible refine Kd.C_drew ?_)))); rintro e w1 ⟨v1,rfl,ho,hb1⟩; obtain ⟨A1,cp1,Aa,hcp1,hC1⟩ := Kd.R_reads ho; subst Aa; have HBn := Aside0.mk (below_step (by repeat first|(with_reducible first|exact HB.out|apply below_alloc|apply pw_below_drewN|apply below_drew1)|exact HB.out) hb1); clear ho hC1 hb1 HB; have HB := HBn; clear HBn; have hcb1 := (HCells.out _ HB.out).1)) | fail)
    all_goals go_wp2
    all_goals go_ret
    all_goals exact ⟨_,rfl,rfl,(by repeat first|(with_reducible first|exact HB.out|apply below_alloc|apply pw_below_drewN|apply below_drew1)|exact HB.out)⟩
end Go.Proofs.Ytleacijhpkogpad.HFind
/- The first order so seen: the closure of impl.FirstBySeen,which calls itself: the walk. -/
namespace Go.Proofs.Ytleacijhpkogpad.HFind
open Go.RowKit YtleacijhpkogpadW.PrintWords YtleacijhpkogpadW.PrintLast YtleacijhpkogpadW.PrintMore HClone HSeen HHas

theorem find_calls (n : Nat) (hn : 1 ≤ n ∧ n ≤ 8) (L R : Int) (a b c dd : Nat) : ∀ (d : Nat) (s : List Int), s.length + d = n → ∀ (base : Nat) (u : Value) (w : World), base ≤ w.heap.size →
    Kd.R (Kd.int .i64) 3 w base (fun _ => True) u s → w.cell? ⟨a,0,none⟩ = some (.int .i64 (n : Int)) → w.cell? ⟨b,0,none⟩ = some (.int .i64 L) → w.cell? ⟨c,0,none⟩ = some (.int .i64 R) →
    w.cell? ⟨dd,0,none⟩ = some (.func (.func FB) #[] (PS a b c dd)) →
    Calls Try.prog FB (#[u] ++ PS a b c dd) w fun e w' => ∃ v,e = .returned v ∧ Ret base w' v (look n L R d s) ∧ Below w.heap.size w w' := by
  intro d
  induction d with
  | zero => exact fun s hs base u w hbase hu ha hb hc hd => leaf_calls n hn L R a b c dd s hs base u w hbase hu ha hb hc
  | succ d ih =>
  intro s hs base u w hbase hu ha hb hc hd
  have HBS := Aside0.mk hbase
  have HB := Aside0.mk (Below.refl w.heap.size w)
  obtain ⟨A,cp,eu,hcp,hC⟩ := Kd.R_reads hu
  subst eu
  have HC := Aside0.mk hC
  have HIH := Aside0.mk (fun (h : Int) (W : World) (v : Value) (hW : Below w.heap.size w W) (hv : Kd.R (Kd.int .i64) 3 W w.heap.size (fun _ => True) v (s ++ [h])) =>
    show Calls Try.prog 81 #[v,.pointer (some ⟨a,0,none⟩),.pointer (some ⟨b,0,none⟩),.pointer (some ⟨c,0,none⟩),.pointer (some ⟨dd,0,none⟩)] W (fun e w' => ∃ v,e = .returned v ∧ Ret w.heap.size w' v (look n L R d (s ++ [h])) ∧ Below W.heap.size W w') from ih (s ++ [h]) (by simp; omega) w.heap.size v W hW.size hv (pw_cell_below hW ha) (pw_cell_below hW hb) (pw_cell_below hW hc) (pw_cell_below hW hd))
  have HF := Aside0.mk (fun W' (hW : Below w.heap.size w W') => (pw_cell_below hW hd : W'.cell? ⟨dd,0,none⟩ = some (.func (.func 81) #[] #[.pointer (some ⟨a,0,none⟩),.pointer (some ⟨b,0,none⟩),.pointer (some ⟨c,0,none⟩),.pointer (some ⟨dd,0,none⟩)])))
  have HFA := Aside0.mk (fun W' (hW : Below w.heap.size w W') => pw_cell_below hW ha)
  have HCON := Aside0.mk (fun (x : Int) (r : Bool) (hr : has s x = r) W hW => contains_calls A cp s x r hr (by omega) W hW)
  have HCLONE := Aside0.mk (fun W hW => clone_calls A cp s (by omega) W hW)
  have HN := Aside0.mk hn
  have HS := Aside0.mk hs
  have hE : ((s.length : Int) == (n : Int)) = false := by rw [beq_eq_false_iff_ne]; omega
  have hT : look n L R (d + 1) s = scan (fun h => if has s h = true then none else look n L R d (s ++ [h])) n ((0 + 1 : Nat) : Int) := rfl
  generalize look n L R (d + 1) s = T at hT
  have HT := Aside0.mk hT
  have heq := fun (W : World) (p : Option Addr) (x y : Nat) => run_neq_slice_nil_any (P := Try.prog) W 24 3 p x y 0 0 Try.underlying24
  have eg := enters_ (P := Try.prog) Try.func81 (by kernel_rfl) rfl
  clear hT hs hn ih hb hc hd hu hC hbase
  go_enter Try.func81,Try.ntmps81
  go_wp2
  go_loopg [7,8] n (fun kq v7 v8 w' => ∃ i : Nat,v7 = .int .i64 ((i + 1 : Nat) : Int) ∧ Aside0 (kq + i = n) ∧ Aside0 (T = scan (fun h => if has s h = true then none else look n L R d (s ++ [h])) (n - i) ((i + 1 : Nat) : Int)) ∧ Aside0 (Below w.heap.size w w'))
  case atStart => exact ⟨0,rfl,⟨rfl⟩,HT,HB⟩
  case round =>
    clear HB HT
    obtain ⟨i,rfl,HK,HT,HB⟩ := hrel
    have hca := HFA.out _ HB.out
    by_cases hi : i < n
    · have hle : decide (((i + 1 : Nat) : Int) ≤ (n : Int)) = true := by simp; omega
      have hT := HT.out
      rw [show n - i = (n - (i + 1)) + 1 by omega,scan] at hT
      cases hq : has s ((i + 1 : Nat) : Int) with
      | true =>
        have HCO := Aside0.mk (HCON.out _ _ hq)
        simp only [hq,if_true] at hT
        have HT2 := Aside0.mk hT
        clear hT HT hq
        go_wp2_with (go_at_call 82; refine (HCO.out _ (Kd.C_below HC.out (by repeat first|(with_reducible first|exact HB.out|apply below_alloc|apply pw_below_drewN|apply below_drew1)|exact HB.out))).mono ?_; rintro e w' ⟨rfl,⟨nd,rfl⟩⟩)
        go_roundg (n - (i + 1))
        case measure => have := HK.out; omega
        case rel => exact ⟨i + 1,by first | rfl | (simp; have := HN.out; unfold wrap64; omega) | (simp; done),⟨by omega⟩,⟨by rw [HT2.out,show ((i + 1 + 1 : Nat) : Int) = ((i + 1 : Nat) : Int) + 1 by omega]⟩,⟨(by repeat first|(with_reducible first|exact HB.out|apply below_alloc|apply pw_below_drewN|apply below_drew1)|exact HB.out)⟩⟩
      | false =>
        have HCO := Aside0.mk (HCON.out _ _ hq)
        simp only [hq] at hT
        rw [if_neg (by simp)] at hT
        have HIH1 := Aside0.mk (HIH.out ((i + 1 : Nat) : Int))
        generalize hO : look n L R d (s ++ [((i + 1 : Nat) : Int)]) = o at hT HIH1
        have HO := Aside0.mk hO
        clear hO
        cases o with
        | none =>
          have HT2 := Aside0.mk hT
          clear hT HT hq
          go_wp2_with (go_at_call 82; refine (HCO.out _ (Kd.C_below HC.out (by repeat first|(with_reducible first|exact HB.out|apply below_alloc|apply pw_below_drewN|apply below_drew1)|exact HB.out))).mono ?_; rintro e w' ⟨rfl,⟨nd,rfl⟩⟩)
          go_region_held3 (fun w' => w'.cell? ⟨dd,0,none⟩ = some (.func (.func 81) #[] #[.pointer (some ⟨a,0,none⟩),.pointer (some ⟨b,0,none⟩),.pointer (some ⟨c,0,none⟩),.pointer (some ⟨dd,0,none⟩)])) (first | exact HF.out _ (by repeat first|(with_reducible first|exact HB.out|apply below_alloc|apply pw_below_drewN|apply below_drew1)|exact HB.out) | go_keep) (first | (go_at_call 68; (with_reducible refine (HCLONE.out _ ?side1).mono ?_); (case side1 => exact Kd.C_below HC.out (by repeat first|(with_reducible first|exact HB.out|apply below_alloc|apply pw_below_drewN|apply below_drew1)|exact HB.out)); rintro e w1 ⟨v1,rfl,ho,hb1⟩; have HO1 := Aside0.mk (Kd.R_lower ho (below_size (by repeat first|(with_reducible first|exact HB.out|apply below_alloc|apply pw_below_drewN|apply below_drew1)|exact HB.out))); have HBn := Aside0.mk (below_step (by repeat first|(with_reducible first|exact HB.out|apply below_alloc|apply pw_below_drewN|apply below_drew1)|exact HB.out) hb1); have HX := Aside0.mk (fun (g : Nat) x hh => C_one (g := g) (x := x) (pw_cell_below hb1 hh)); clear ho hb1 HB; have HB := HBn; clear HBn) | (refine Kd.R_append_rows_step (Kd.int .i64) (w0 := w) w.heap.size rfl (.tmp 37) (.tmp 39) 24 3 (.int .i64 0) 8 rfl Try.underlying24 info_int rfl (by decide) (by omega) v1 s [((i + 1 : Nat) : Int)] _ 1 1 (fun _ => True) (fun _ => False) rfl rfl ?aO ?aR (fun _ _ h => h) (fun _ h => h.elim) (fun _ _ => trivial) ?aB ?aS ?aL ?_; (case aO => exact (by (with_reducible repeat (first | apply Kd.R_alloc | apply Kd.R_drewN | apply Kd.R_drew)); exact HO1.out)); (case aR => first | exact C_one ((World.cell?_alloc_new _ _ _ _).trans rfl) | exact HX.out _ _ ((World.cell?_alloc_new _ _ _ _).trans rfl) | exact C_one (by simp; done) | exact HX.out _ _ (by simp; done)); (case aB => exact (by repeat first|(with_reducible first|exact HB.out|apply below_alloc|apply pw_below_drewN|apply below_drew1)|exact HB.out)); (case aS => exact (below_size (by repeat first|(with_reducible first|exact HB.out|apply below_alloc|apply pw_below_drewN|apply below_drew1)|exact HB.out))); (case aL => have := HS.out; have := HN.out; omega); intro v2 w2 ho hb2 hg2 hat2; have HO2 := Aside0.mk ho; have HBn := Aside0.mk hb2; clear ho hb2 hg2 hat2 HB; have HB := HBn; clear HBn) | (go_at_call 81; (with_reducible refine (HIH1.out _ v2 ?side1 ?side2).mono ?_); (case side1 => exact (by repeat first|(with_reducible first|exact HB.out|apply below_alloc|apply pw_below_drewN|apply below_drew1)|exact HB.out)); (case side2 => exact (by (with_reducible repeat (first | apply Kd.R_alloc | apply Kd.R_drewN | apply Kd.R_drew)); exact HO2.out)); rintro e w5 ⟨v5,rfl,hr5,hb5⟩; (have Ad : v5 = .slice none 0 0 := hr5); subst Ad; clear hr5; have HBn := Aside0.mk (below_step (by repeat first|(with_reducible first|exact HB.out|apply below_alloc|apply pw_below_drewN|apply below_drew1)|exact HB.out) hb5); clear hb5 HB; have HB := HBn; clear HBn))
          all_goals go_wp2
          all_goals go_roundg (n - (i + 1))
          all_goals first | (have := HK.out; omega; done) | exact ⟨i + 1,by first | rfl | (simp; have := HN.out; unfold wrap64; omega) | (simp; done),⟨by omega⟩,⟨by rw [HT2.out,show ((i + 1 + 1 : Nat) : Int) = ((i + 1 : Nat) : Int) + 1 by omega]⟩,⟨(by repeat first|(with_reducible first|exact HB.out|apply below_alloc|apply pw_below_drewN|apply below_drew1)|exact HB.out)⟩⟩
        | some r =>
          have HRL : Aside0 (0 < r.length) := ⟨by have := look_len n L R d (s ++ [((i + 1 : Nat) : Int)]) (by have := HS.out; simp; omega) r HO.out; have := HN.out; omega⟩
          have HT2 := Aside0.mk hT
          clear hT HT hq HO
          go_wp2_with (go_at_call 82; refine (HCO.out _ (Kd.C_below HC.out (by repeat first|(with_reducible first|exact HB.out|apply below_alloc|apply pw_below_drewN|apply below_drew1)|exact HB.out))).mono ?_; rintro e w' ⟨rfl,⟨nd,rfl⟩⟩)
          go_region_held3 (fun w' => w'.cell? ⟨dd,0,none⟩ = some (.func (.func 81) #[] #[.pointer (some ⟨a,0,none⟩),.pointer (some ⟨b,0,none⟩),.pointer (some ⟨c,0,none⟩),.pointer (some ⟨dd,0,none⟩)])) (first | exact HF.out _ (by repeat first|(with_reducible first|exact HB.out|apply below_alloc|apply pw_below_drewN|apply below_drew1)|exact HB.out) | go_keep) (first | (go_at_call 68; (with_reducible refine (HCLONE.out _ ?side1).mono ?_); (case side1 => exact Kd.C_below HC.out (by repeat first|(with_reducible first|exact HB.out|apply below_alloc|apply pw_below_drewN|apply below_drew1)|exact HB.out)); rintro e w1 ⟨v1,rfl,ho,hb1⟩; have HO1 := Aside0.mk (Kd.R_lower ho (below_size (by repeat first|(with_reducible first|exact HB.out|apply below_alloc|apply pw_below_drewN|apply below_drew1)|exact HB.out))); have HBn := Aside0.mk (below_step (by repeat first|(with_reducible first|exact HB.out|apply below_alloc|apply pw_below_drewN|apply below_drew1)|exact HB.out) hb1); have HX := Aside0.mk (fun (g : Nat) x hh => C_one (g := g) (x := x) (pw_cell_below hb1 hh)); clear ho hb1 HB; have HB := HBn; clear HBn) | (refine Kd.R_append_rows_step (Kd.int .i64) (w0 := w) w.heap.size rfl (.tmp 37) (.tmp 39) 24 3 (.int .i64 0) 8 rfl Try.underlying24 info_int rfl (by decide) (by omega) v1 s [((i + 1 : Nat) : Int)] _ 1 1 (fun _ => True) (fun _ => False) rfl rfl ?aO ?aR (fun _ _ h => h) (fun _ h => h.elim) (fun _ _ => trivial) ?aB ?aS ?aL ?_; (case aO => exact (by (with_reducible repeat (first | apply Kd.R_alloc | apply Kd.R_drewN | apply Kd.R_drew)); exact HO1.out)); (case aR => first | exact C_one ((World.cell?_alloc_new _ _ _ _).trans rfl) | exact HX.out _ _ ((World.cell?_alloc_new _ _ _ _).trans rfl) | exact C_one (by simp; done) | exact HX.out _ _ (by simp; done)); (case aB => exact (by repeat first|(with_reducible first|exact HB.out|apply below_alloc|apply pw_below_drewN|apply below_drew1)|exact HB.out)); (case aS => exact (below_size (by repeat first|(with_reducible first|exact HB.out|apply below_alloc|apply pw_below_drewN|apply below_drew1)|exact HB.out))); (case aL => have := HS.out; have := HN.out; omega); intro v2 w2 ho hb2 hg2 hat2; have HO2 := Aside0.mk ho; have HBn := Aside0.mk hb2; clear ho hb2 hg2 hat2 HB; have HB := HBn; clear HBn) | (go_at_call 81; (with_reducible refine (HIH1.out _ v2 ?side1 ?side2).mono ?_); (case side1 => exact (by repeat first|(with_reducible first|exact HB.out|apply below_alloc|apply pw_below_drewN|apply below_drew1)|exact HB.out)); (case side2 => exact (by (with_reducible repeat (first | apply Kd.R_alloc | apply Kd.R_drewN | apply Kd.R_drew)); exact HO2.out)); rintro e w5 ⟨v5,rfl,hr5,hb5⟩; have HR5 := Aside0.mk hr5; obtain ⟨g5,c5,Ad,_,_,_⟩ := Kd.R_form hr5 HRL.out; subst Ad; clear hr5; have HBn := Aside0.mk (below_step (by repeat first|(with_reducible first|exact HB.out|apply below_alloc|apply pw_below_drewN|apply below_drew1)|exact HB.out) hb5); clear hb5 HB; have HB := HBn; clear HBn))
          all_goals go_wp2
          all_goals go_ret
          all_goals exact ⟨_,rfl,by rw [HT2.out]; exact Kd.R_lower HR5.out HBS.out,(by repeat first|(with_reducible first|exact HB.out|apply below_alloc|apply pw_below_drewN|apply below_drew1)|exact HB.out)⟩
    · have hle : decide (((i + 1 : Nat) : Int) ≤ (n : Int)) = false := by simp; omega
      have HT2 : Aside0 (T = none) := ⟨by rw [HT.out,show n - i = 0 by omega]; rfl⟩
      clear HT
      go_wp2
      go_ret
      exact ⟨_,rfl,by rw [HT2.out]; rfl,(by repeat first|(with_reducible first|exact HB.out|apply below_alloc|apply pw_below_drewN|apply below_drew1)|exact HB.out)⟩
end Go.Proofs.Ytleacijhpkogpad.HFind
/- The first order so seen: the walk of impl.FirstBySeen over its closure's. -/
namespace Go.Proofs.Ytleacijhpkogpad.HFind
open Go.RowKit YtleacijhpkogpadW.PrintWords YtleacijhpkogpadW.PrintLast YtleacijhpkogpadW.PrintMore PFnHeightsRise HClone HSeen HHas

def asked (n L R : Int) : Prop := (1 ≤ n ∧ n ≤ 8) ∧ (0 ≤ L ∧ L ≤ 15) ∧ (0 ≤ R ∧ R ≤ 15)
instance (n L R : Int) : Decidable (asked n L R) := by unfold asked; infer_instance
def firstB (n L R : Int) : Option (List Int) := if asked n L R then look n.toNat L R n.toNat [] else none
theorem in_is (a lo hi : Int) (b : Bool) (hb : decide (lo ≤ a ∧ a ≤ hi) = b) (W : World) : Calls Try.prog 67 #[.int .i64 a,.int .i64 lo,.int .i64 hi] W fun e w' => e = .returned (.bool b) ∧ Drawn0 W w' := by
  refine impl_in.calls a lo hi b W ?_
  subst hb
  unfold impl_in.f
  by_cases h : lo ≤ a
  · rw [if_pos h]; simp [h]
  · rw [if_neg h]; simp [h]
theorem impl_no (n L R : Int) (h : ¬ asked n L R) (w : World) :
    Calls Try.prog 47 #[.int .i64 n,.int .i64 L,.int .i64 R] w fun e w' => ∃ v,e = .returned (.tuple #[v,.bool (firstB n L R).isSome]) ∧ Kd.R (Kd.int .i64) 3 w' w.heap.size (fun _ => True) v ((firstB n L R).getD []) ∧ Below w.heap.size w w' := by
  have HB := Aside0.mk (Below.refl w.heap.size w)
  have hN : firstB n L R = none := by unfold firstB; rw [if_neg h]
  rw [hN]
  clear hN
  by_cases h1 : 1 ≤ n ∧ n ≤ 8
  · by_cases h2 : 0 ≤ L ∧ L ≤ 15
    · have h3 : ¬ (0 ≤ R ∧ R ≤ 15) := fun z => h ⟨h1,h2,z⟩
      have H1 := Aside0.mk (fun W => in_is n 1 8 true (decide_eq_true h1) W)
      have H2 := Aside0.mk (fun W => in_is L 0 15 true (decide_eq_true h2) W)
      have H3 := Aside0.mk (fun W => in_is R 0 15 false (decide_eq_false h3) W)
      clear h h1 h2 h3
      go_enter Try.func47,Try.ntmps47
      go_wp2_with (first | (go_at_call 67; (with_reducible refine (H1.out _).mono ?_); rintro e w' ⟨rfl,⟨nd1,rfl⟩⟩) | (go_at_call 67; (with_reducible refine (H2.out _).mono ?_); rintro e w' ⟨rfl,⟨nd2,rfl⟩⟩) | (go_at_call 67; (with_reducible refine (H3.out _).mono ?_); rintro e w' ⟨rfl,⟨nd3,rfl⟩⟩))
      go_ret2
      exact ⟨_,rfl,Kd.R_nil _ _ _ _ _,(by repeat first|(with_reducible first|exact HB.out|apply below_alloc|apply pw_below_drewN|apply below_drew1)|exact HB.out)⟩
    · have H1 := Aside0.mk (fun W => in_is n 1 8 true (decide_eq_true h1) W)
      have H2 := Aside0.mk (fun W => in_is L 0 15 false (decide_eq_false h2) W)
      clear h h1 h2
      go_enter Try.func47,Try.ntmps47
      go_wp2_with (first | (go_at_call 67; (with_reducible refine (H1.out _).mono ?_); rintro e w' ⟨rfl,⟨nd1,rfl⟩⟩) | (go_at_call 67; (with_reducible refine (H2.out _).mono ?_); rintro e w' ⟨rfl,⟨nd2,rfl⟩⟩))
      go_ret2
      exact ⟨_,rfl,Kd.R_nil _ _ _ _ _,(by repeat first|(with_reducible first|exact HB.out|apply below_alloc|apply pw_below_drewN|apply below_drew1)|exact HB.out)⟩
  · have H1 := Aside0.mk (fun W => in_is n 1 8 false (decide_eq_false h1) W)
    clear h h1
    go_enter Try.func47,Try.ntmps47
    go_wp2_with (go_at_call 67; (with_reducible refine (H1.out _).mono ?_); rintro e w' ⟨rfl,⟨nd1,rfl⟩⟩)
    go_ret2
    exact ⟨_,rfl,Kd.R_nil _ _ _ _ _,(by repeat first|(with_reducible first|exact HB.out|apply below_alloc|apply pw_below_drewN|apply below_drew1)|exact HB.out)⟩
theorem cells4 (w : World) (x y z u : Value) (t1 t2 t3 t4 : TypeId) (k : Nat) :
    ((((((w.alloc (.cells #[x] t1)).alloc (.cells #[y] t2)).alloc (.cells #[z] t3)).drewN k).alloc (.cells #[u] t4)).cell? ⟨w.heap.size,0,none⟩ = some x ∧
    (((((w.alloc (.cells #[x] t1)).alloc (.cells #[y] t2)).alloc (.cells #[z] t3)).drewN k).alloc (.cells #[u] t4)).cell? ⟨w.heap.size + 1,0,none⟩ = some y ∧
    (((((w.alloc (.cells #[x] t1)).alloc (.cells #[y] t2)).alloc (.cells #[z] t3)).drewN k).alloc (.cells #[u] t4)).cell? ⟨w.heap.size + 2,0,none⟩ = some z) ∧
    (((((w.alloc (.cells #[x] t1)).alloc (.cells #[y] t2)).alloc (.cells #[z] t3)).drewN k).alloc (.cells #[u] t4)).cell? ⟨w.heap.size + 3,0,none⟩ = some u ∧
    (((((w.alloc (.cells #[x] t1)).alloc (.cells #[y] t2)).alloc (.cells #[z] t3)).drewN k).alloc (.cells #[u] t4)).frozen? ⟨w.heap.size + 3,0,none⟩ = false := by
  refine ⟨⟨?_,?_,?_⟩,?_,?_⟩
  · exact pw_cell_below (w := w.alloc (.cells #[x] t1)) (by repeat (first | exact Below.refl _ _ | apply below_alloc | apply pw_below_drewN | apply below_drew1)) ((World.cell?_alloc_new _ _ _ _).trans rfl)
  · exact pw_cell_below (w := (w.alloc (.cells #[x] t1)).alloc (.cells #[y] t2)) (by repeat (first | exact Below.refl _ _ | apply below_alloc | apply pw_below_drewN | apply below_drew1)) (by simp)
  · exact pw_cell_below (w := ((w.alloc (.cells #[x] t1)).alloc (.cells #[y] t2)).alloc (.cells #[z] t3)) (by repeat (first | exact Below.refl _ _ | apply below_alloc | apply pw_below_drewN | apply below_drew1)) (by have := World.cell?_alloc_new ((w.alloc (.cells #[x] t1)).alloc (.cells #[y] t2)) #[z] t3 0; simpa using this)
  · have := World.cell?_alloc_new ((((w.alloc (.cells #[x] t1)).alloc (.cells #[y] t2)).alloc (.cells #[z] t3)).drewN k) #[u] t4 0
    simpa using this
  · exact World.frozen?_alloc_at _ _ _ _ (by simp)
theorem impl_yes (n : Nat) (L R : Int) (h : asked n L R) (w : World) :
    Calls Try.prog 47 #[.int .i64 (n : Int),.int .i64 L,.int .i64 R] w fun e w' => ∃ v,e = .returned (.tuple #[v,.bool (firstB n L R).isSome]) ∧ Kd.R (Kd.int .i64) 3 w' w.heap.size (fun _ => True) v ((firstB n L R).getD []) ∧ Below w.heap.size w w' := by
  have HB := Aside0.mk (Below.refl w.heap.size w)
  have hN : firstB n L R = look n L R n [] := by unfold firstB; rw [if_pos h]; rfl
  rw [hN]
  clear hN
  have H1 := Aside0.mk (fun W => in_is (n : Int) 1 8 true (decide_eq_true h.1) W)
  have H2 := Aside0.mk (fun W => in_is L 0 15 true (decide_eq_true h.2.1) W)
  have H3 := Aside0.mk (fun W => in_is R 0 15 true (decide_eq_true h.2.2) W)
  have hn : 1 ≤ n ∧ n ≤ 8 := by have := h.1; omega
  have HFIND := Aside0.mk (fun (base : Nat) (v : Value) (W : World) (hW : base ≤ W.heap.size) (hv : Kd.R (Kd.int .i64) 3 W base (fun _ => True) v []) ha hb hc hd =>
    show Calls Try.prog 81 #[v,.pointer (some ⟨w.heap.size,0,none⟩),.pointer (some ⟨w.heap.size + 1,0,none⟩),.pointer (some ⟨w.heap.size + 2,0,none⟩),.pointer (some ⟨w.heap.size + 3,0,none⟩)] W (fun e w' => ∃ v,e = .returned v ∧ Ret base w' v (look n L R n []) ∧ Below W.heap.size W w') from
      find_calls n hn L R w.heap.size (w.heap.size + 1) (w.heap.size + 2) (w.heap.size + 3) n [] (by simp) base v W hW hv ha hb hc hd)
  have HLEN := Aside0.mk (fun r hr => look_len n L R n [] (by simp) r hr)
  have HN := Aside0.mk hn
  have heq := fun (W : World) (p : Option Addr) (x y : Nat) => run_neq_slice_nil_any (P := Try.prog) W 24 3 p x y 0 0 Try.underlying24
  have eg := enters_ (P := Try.prog) Try.func81 (by kernel_rfl) rfl
  clear h hn
  cases hT : look n L R n [] with
  | none =>
    rw [hT] at HFIND
    clear HLEN
    clear hT
    go_enter Try.func47,Try.ntmps47
    go_upto_region 3 with (first | (go_at_call 67; (with_reducible refine (H1.out _).mono ?_); rintro e w' ⟨rfl,⟨nd1,rfl⟩⟩) | (go_at_call 67; (with_reducible refine (H2.out _).mono ?_); rintro e w' ⟨rfl,⟨nd2,rfl⟩⟩) | (go_at_call 67; (with_reducible refine (H3.out _).mono ?_); rintro e w' ⟨rfl,⟨nd3,rfl⟩⟩))
    go_cut [8] (fun v8 wc => v8 = .pointer (some ⟨w.heap.size + 3,0,none⟩) ∧ Aside0 ((wc.cell? ⟨w.heap.size,0,none⟩ = some (.int .i64 (n : Int)) ∧ wc.cell? ⟨w.heap.size + 1,0,none⟩ = some (.int .i64 L) ∧ wc.cell? ⟨w.heap.size + 2,0,none⟩ = some (.int .i64 R)) ∧ wc.cell? ⟨w.heap.size + 3,0,none⟩ = some .nilFunc ∧ wc.frozen? ⟨w.heap.size + 3,0,none⟩ = false) ∧ Aside0 (Below w.heap.size w wc))
    case first =>
      go_wp2
      go_meet
      case rel => exact ⟨rfl,⟨cells4 w _ _ _ _ _ _ _ _ _⟩,⟨(by repeat first|(with_reducible first|exact HB.out|apply below_alloc|apply pw_below_drewN|apply below_drew1)|exact HB.out)⟩⟩
    case rest =>
    clear HB
    obtain ⟨rfl,HC4,HB⟩ := hcut
    have hd4 := HC4.out.2.1
    have hf4 := HC4.out.2.2
    go_upto_region 4 with (fail)
    go_cut [23] (fun v23 w5 => Aside0 (w5.cell? ⟨w.heap.size,0,none⟩ = some (.int .i64 (n : Int)) ∧ w5.cell? ⟨w.heap.size + 1,0,none⟩ = some (.int .i64 L) ∧ w5.cell? ⟨w.heap.size + 2,0,none⟩ = some (.int .i64 R)) ∧ w5.cell? ⟨w.heap.size + 3,0,none⟩ = some (.func (.func 81) #[] #[.pointer (some ⟨w.heap.size,0,none⟩),.pointer (some ⟨w.heap.size + 1,0,none⟩),.pointer (some ⟨w.heap.size + 2,0,none⟩),.pointer (some ⟨w.heap.size + 3,0,none⟩)]) ∧ Aside0 (Below w.heap.size w w5))
    case first =>
      go_wp2
      go_meet
      case rel => exact ⟨⟨(cell_far (by simp) _).trans HC4.out.1.1,(cell_far (by simp) _).trans HC4.out.1.2.1,(cell_far (by simp) _).trans HC4.out.1.2.2⟩,World.cell?_setCell_same _ _ _ hd4,⟨below_set HB.out (by omega)⟩⟩
    case rest =>
    clear HB HC4 hd4 hf4
    obtain ⟨HC5,hd5,HB⟩ := hcut
    have HA := Aside0.mk HC5.out.1
    have HBB := Aside0.mk HC5.out.2.1
    have HCCC := Aside0.mk HC5.out.2.2
    clear HC5
    go_wp2_with (first | ((with_reducible refine gate_dst (N := 25) rfl ?_); refine Kd.R_lit (Kd.int .i64) _ 3 ?hg (N := 25) ?hd (xs := ([] : List Int)) (inner := []) (ok := fun _ => True) (okp := fun _ => True) ?hr ?hp (fun _ hk => hk) trivial (Below.refl _ _) (Nat.le_refl _) (by simp) ?_; (case hd => rfl); (case hg => rfl); (case hr => first | (go_simp; done) | (go_simp; rfl)); (case hp => exact (Reps.none _ _)); intro v1 w1 ho hb hg hnew; have HO := Aside0.mk (Kd.R_lower ho HB.out.size); have HCA := Aside0.mk (pw_cell_below hb HA.out); have HCB := Aside0.mk (pw_cell_below hb HBB.out); have HCC := Aside0.mk (pw_cell_below hb HCCC.out); have HCD := Aside0.mk (pw_cell_below hb hd5); have HBn := Aside0.mk (below_step HB.out hb); clear ho hb hg hnew HB HA HBB HCCC hd5; have HB := HBn; clear HBn) )
    (with_reducible refine (HFIND.out w.heap.size v1 _ (by exact HB.out.size) HO.out HCA.out HCB.out HCC.out HCD.out).mono ?_); rintro e w5 ⟨v5,rfl,hr5,hb5⟩; (have Ad : v5 = .slice none 0 0 := hr5); subst Ad; clear hr5; have HBn := Aside0.mk (below_step HB.out hb5); clear hb5 HB; have HB := HBn; clear HBn
    go_wp2
    go_ret2
    exact ⟨_,rfl,Kd.R_nil _ _ _ _ _,(by repeat first|(with_reducible first|exact HB.out|apply below_alloc|apply pw_below_drewN|apply below_drew1)|exact HB.out)⟩
  | some r =>
    rw [hT] at HFIND
    have HRL : Aside0 (0 < r.length) := ⟨by have := HLEN.out r hT; have := HN.out; omega⟩
    clear HLEN
    clear hT
    go_enter Try.func47,Try.ntmps47
    go_upto_region 3 with (first | (go_at_call 67; (with_reducible refine (H1.out _).mono ?_); rintro e w' ⟨rfl,⟨nd1,rfl⟩⟩) | (go_at_call 67; (with_reducible refine (H2.out _).mono ?_); rintro e w' ⟨rfl,⟨nd2,rfl⟩⟩) | (go_at_call 67; (with_reducible refine (H3.out _).mono ?_); rintro e w' ⟨rfl,⟨nd3,rfl⟩⟩))
    go_cut [8] (fun v8 wc => v8 = .pointer (some ⟨w.heap.size + 3,0,none⟩) ∧ Aside0 ((wc.cell? ⟨w.heap.size,0,none⟩ = some (.int .i64 (n : Int)) ∧ wc.cell? ⟨w.heap.size + 1,0,none⟩ = some (.int .i64 L) ∧ wc.cell? ⟨w.heap.size + 2,0,none⟩ = some (.int .i64 R)) ∧ wc.cell? ⟨w.heap.size + 3,0,none⟩ = some .nilFunc ∧ wc.frozen? ⟨w.heap.size + 3,0,none⟩ = false) ∧ Aside0 (Below w.heap.size w wc))
    case first =>
      go_wp2
      go_meet
      case rel => exact ⟨rfl,⟨cells4 w _ _ _ _ _ _ _ _ _⟩,⟨(by repeat first|(with_reducible first|exact HB.out|apply below_alloc|apply pw_below_drewN|apply below_drew1)|exact HB.out)⟩⟩
    case rest =>
    clear HB
    obtain ⟨rfl,HC4,HB⟩ := hcut
    have hd4 := HC4.out.2.1
    have hf4 := HC4.out.2.2
    go_upto_region 4 with (fail)
    go_cut [23] (fun v23 w5 => Aside0 (w5.cell? ⟨w.heap.size,0,none⟩ = some (.int .i64 (n : Int)) ∧ w5.cell? ⟨w.heap.size + 1,0,none⟩ = some (.int .i64 L) ∧ w5.cell? ⟨w.heap.size + 2,0,none⟩ = some (.int .i64 R)) ∧ w5.cell? ⟨w.heap.size + 3,0,none⟩ = some (.func (.func 81) #[] #[.pointer (some ⟨w.heap.size,0,none⟩),.pointer (some ⟨w.heap.size + 1,0,none⟩),.pointer (some ⟨w.heap.size + 2,0,none⟩),.pointer (some ⟨w.heap.size + 3,0,none⟩)]) ∧ Aside0 (Below w.heap.size w w5))
    case first =>
      go_wp2
      go_meet
      case rel => exact ⟨⟨(cell_far (by simp) _).trans HC4.out.1.1,(cell_far (by simp) _).trans HC4.out.1.2.1,(cell_far (by simp) _).trans HC4.out.1.2.2⟩,World.cell?_setCell_same _ _ _ hd4,⟨below_set HB.out (by omega)⟩⟩
    case rest =>
    clear HB HC4 hd4 hf4
    obtain ⟨HC5,hd5,HB⟩ := hcut
    have HA := Aside0.mk HC5.out.1
    have HBB := Aside0.mk HC5.out.2.1
    have HCCC := Aside0.mk HC5.out.2.2
    clear HC5
    go_wp2_with (first | ((with_reducible refine gate_dst (N := 25) rfl ?_); refine Kd.R_lit (Kd.int .i64) _ 3 ?hg (N := 25) ?hd (xs := ([] : List Int)) (inner := []) (ok := fun _ => True) (okp := fun _ => True) ?hr ?hp (fun _ hk => hk) trivial (Below.refl _ _) (Nat.le_refl _) (by simp) ?_; (case hd => rfl); (case hg => rfl); (case hr => first | (go_simp; done) | (go_simp; rfl)); (case hp => exact (Reps.none _ _)); intro v1 w1 ho hb hg hnew; have HO := Aside0.mk (Kd.R_lower ho HB.out.size); have HCA := Aside0.mk (pw_cell_below hb HA.out); have HCB := Aside0.mk (pw_cell_below hb HBB.out); have HCC := Aside0.mk (pw_cell_below hb HCCC.out); have HCD := Aside0.mk (pw_cell_below hb hd5); have HBn := Aside0.mk (below_step HB.out hb); clear ho hb hg hnew HB HA HBB HCCC hd5; have HB := HBn; clear HBn) )
    (with_reducible refine (HFIND.out w.heap.size v1 _ (by exact HB.out.size) HO.out HCA.out HCB.out HCC.out HCD.out).mono ?_); rintro e w5 ⟨v5,rfl,hr5,hb5⟩; have HR5 := Aside0.mk hr5; obtain ⟨g5,c5,Ad,_,_,_⟩ := Kd.R_form hr5 HRL.out; subst Ad; clear hr5; have HBn := Aside0.mk (below_step HB.out hb5); clear hb5 HB; have HB := HBn; clear HBn
    go_wp2
    go_ret2
    exact ⟨_,rfl,HR5.out,(by repeat first|(with_reducible first|exact HB.out|apply below_alloc|apply pw_below_drewN|apply below_drew1)|exact HB.out)⟩
end Go.Proofs.Ytleacijhpkogpad.HFind
/- The first order so seen,as the reference tells it: over the printed walk of spec.FirstBySeen. -/
namespace Go.Proofs.Ytleacijhpkogpad.HFind
open Go.RowKit YtleacijhpkogpadW.PrintWords YtleacijhpkogpadW.PrintLast YtleacijhpkogpadW.PrintMore PFnHeightsRise HClone HSeen HHas

theorem scan_some {g : Int → Option (List Int)} : ∀ c h o,scan g c h = some o → ∃ h',g h' = some o
  | 0,_,_,e => by simp [scan] at e
  | c + 1,h,o,e => by
    rw [scan] at e
    cases hx : g h with
    | some o' => rw [hx] at e; exact ⟨h,by rw [hx]; exact e⟩
    | none => rw [hx] at e; exact scan_some c _ _ e
theorem look_few (n : Nat) (L R : Int) : ∀ (d : Nat) (s r : List Int),look n L R d s = some r → ((seenR s 0 0).length : Int) ≤ L
  | 0,s,r,e => by
    rw [look] at e
    split at e
    · rename_i h; omega
    · simp at e
  | d + 1,s,r,e => by
    rw [look] at e
    obtain ⟨h,hh⟩ := scan_some _ _ _ e
    split at hh
    · simp at hh
    · have h1 := look_few n L R d _ _ hh
      have h2 := seenR_more [h] s 0 0
      omega
theorem own_ev (s : List Int) (hs : s.length ≤ 8) : spec_l1Own.f s = some s := by
  unfold spec_l1Own.f
  simp only [Option.bind_some]
  rw [if_pos (by simp; omega)]
  rfl
abbrev Tells (n : Nat) (L R : Int) (f : Nat → Option (List Int × Bool)) (T : Option (List Int)) : Prop := ∃ o : List Int,Ev f (o,T.isSome) ∧ ∀ r,T = some r → o = r
theorem loop_ev (n : Nat) (hn : n ≤ 8) (L R : Int) (d : Nat) (s : List Int) (hs : s.length + (d + 1) = n)
    (ih : ∀ h : Int,Tells n L R (fun k => spec_heLook.f k n L R (s ++ [h])) (look n L R d (s ++ [h]))) :
    ∀ (c i : Nat),i + c = n + 1 → Tells n L R (fun k => spec_heLook.l0 k n L R s (i : Int)) (scan (fun h => if has s h = true then none else look n L R d (s ++ [h])) c (i : Int)) := by
  intro c
  induction c with
  | zero =>
    intro i hi
    refine ⟨[],?_,fun r hr => by simp [scan] at hr⟩
    refine Ev.step (f := fun _ => some ([],false)) (fun k => ?_) (Ev.now _)
    simp only [spec_heLook.l0]
    rw [if_neg (by omega)]
  | succ c ihc =>
    intro i hi
    obtain ⟨o2,he2,ho2⟩ := ihc (i + 1) (by omega)
    have ew : wrap64 ((i : Int) + 1) = ((i + 1 : Nat) : Int) := by unfold wrap64; omega
    have ec : ((i + 1 : Nat) : Int) = (i : Int) + 1 := by omega
    rw [scan]
    cases hq : has s (i : Int) with
    | true =>
      simp only [if_true]
      rw [← ec]
      refine ⟨o2,?_,ho2⟩
      refine Ev.step (f := fun k => (spec_l1Has.f k s (i : Int)).bind fun t => if t = true then spec_heLook.l0 k n L R s ((i + 1 : Nat) : Int) else ((spec_l1Own.f s).bind fun t145 => (if t145.length < 17592186044416 then ((spec_heLook.f k n L R (t145 ++ [(i : Int)])).bind fun bt151 => (if bt151.2 = true then (some (bt151.1,true)) else (spec_heLook.l0 k n L R s ((i + 1 : Nat) : Int)))) else (none)))) (fun k => ?_) ?_
      · simp only [spec_heLook.l0]
        rw [if_pos (by omega),ew]
      · refine Ev.bind (has_ev s (by omega) (i : Int)) ?_
        rw [hq]
        simpa using he2
    | false =>
      obtain ⟨o1,he1,ho1⟩ := ih (i : Int)
      have key : ∀ (o : List Int) (b : Bool),Ev (fun k => ((spec_heLook.f k n L R (s ++ [(i : Int)])).bind fun bt151 => (if bt151.2 = true then (some (bt151.1,true)) else (spec_heLook.l0 k n L R s ((i + 1 : Nat) : Int))))) (o,b) → Ev (fun k => spec_heLook.l0 k n L R s (i : Int)) (o,b) := by
        intro o b h
        refine Ev.step (f := fun k => (spec_l1Has.f k s (i : Int)).bind fun t => if t = true then spec_heLook.l0 k n L R s ((i + 1 : Nat) : Int) else ((spec_heLook.f k n L R (s ++ [(i : Int)])).bind fun bt151 => (if bt151.2 = true then (some (bt151.1,true)) else (spec_heLook.l0 k n L R s ((i + 1 : Nat) : Int))))) (fun k => ?_) ?_
        · simp only [spec_heLook.l0]
          rw [if_pos (by omega),ew,own_ev s (by omega)]
          simp only [Option.bind_some]
          rw [if_pos (by omega)]
        · refine Ev.bind (has_ev s (by omega) (i : Int)) ?_
          rw [hq]
          simpa using h
      simp only [Bool.false_eq_true,if_false]
      cases hl : look n L R d (s ++ [(i : Int)]) with
      | some r =>
        rw [hl] at he1
        refine ⟨o1,?_,fun r' hr' => ho1 r' (by rw [hl]; exact hr')⟩
        refine key _ _ (Ev.bind he1 ?_)
        simp only [Option.isSome_some,if_true]
        exact Ev.now _
      | none =>
        rw [hl] at he1
        rw [← ec]
        refine ⟨o2,?_,ho2⟩
        refine key _ _ (Ev.bind he1 ?_)
        simp only [Option.isSome_none,Bool.false_eq_true,if_false]
        exact he2
theorem look_ev (n : Nat) (hn : n ≤ 8) (L R : Int) : ∀ (d : Nat) (s : List Int),s.length + d = n → Tells n L R (fun k => spec_heLook.f k n L R s) (look n L R d s) := by
  intro d
  induction d with
  | zero =>
    intro s hs
    by_cases hgt : ((seenR s 0 0).length : Int) > L
    · have hnone : look n L R 0 s = none := by
        cases hl : look n L R 0 s with
        | none => rfl
        | some r => have := look_few n L R 0 s r hl; omega
      rw [hnone]
      refine ⟨[],?_,fun r hr => by simp at hr⟩
      refine Ev.step (f := fun k => (spec_heSeen.f k s).bind fun t135 => (if (t135.length : Int) > L then (some (([] : List Int),false)) else (if (s.length : Int) = n then ((spec_heSeen.f k s).bind fun t138 => (if (t138.length : Int) = L then ((spec_heRight.f k s).bind fun t141 => (some (s,((t141.length : Int) == R)))) else (some (s,false)))) else (spec_heLook.l0 k n L R s 1)))) (fun k => by rw [spec_heLook.f]) ?_
      refine Ev.bind (spec_seen_ev s (by omega)) ?_
      refine Ev.congr (fun k => if_pos hgt) ?_
      exact Ev.now _
    · refine ⟨s,?_,fun r hr => ?_⟩
      · refine Ev.step (f := fun k => (spec_heSeen.f k s).bind fun t135 => (if (t135.length : Int) > L then (some (([] : List Int),false)) else (if (s.length : Int) = n then ((spec_heSeen.f k s).bind fun t138 => (if (t138.length : Int) = L then ((spec_heRight.f k s).bind fun t141 => (some (s,((t141.length : Int) == R)))) else (some (s,false)))) else (spec_heLook.l0 k n L R s 1)))) (fun k => by rw [spec_heLook.f]) ?_
        refine Ev.bind (spec_seen_ev s (by omega)) ?_
        refine Ev.congr (fun k => (if_neg hgt).trans (if_pos (by omega))) ?_
        refine Ev.bind (spec_seen_ev s (by omega)) ?_
        by_cases h1 : ((seenR s 0 0).length : Int) = L
        · refine Ev.congr (fun k => if_pos h1) ?_
          refine Ev.bind (right_ev s (by omega)) ?_
          rw [rightL_len]
          by_cases h2 : ((seenR s.reverse 0 0).length : Int) = R
          · rw [beq_iff_eq.2 h2,show look n L R 0 s = some s by rw [look,if_pos ⟨h1,h2⟩]]
            exact Ev.now _
          · rw [beq_eq_false_iff_ne.2 h2,show look n L R 0 s = none by rw [look,if_neg (fun z => h2 z.2)]]
            exact Ev.now _
        · refine Ev.congr (fun k => if_neg h1) ?_
          rw [show look n L R 0 s = none by rw [look,if_neg (fun z => h1 z.1)]]
          exact Ev.now _
      · rw [look] at hr
        split at hr
        · simpa using hr
        · simp at hr
  | succ d ih =>
    intro s hs
    by_cases hgt : ((seenR s 0 0).length : Int) > L
    · have hnone : look n L R (d + 1) s = none := by
        cases hl : look n L R (d + 1) s with
        | none => rfl
        | some r => have := look_few n L R (d + 1) s r hl; omega
      rw [hnone]
      refine ⟨[],?_,fun r hr => by simp at hr⟩
      refine Ev.step (f := fun k => (spec_heSeen.f k s).bind fun t135 => (if (t135.length : Int) > L then (some (([] : List Int),false)) else (if (s.length : Int) = n then ((spec_heSeen.f k s).bind fun t138 => (if (t138.length : Int) = L then ((spec_heRight.f k s).bind fun t141 => (some (s,((t141.length : Int) == R)))) else (some (s,false)))) else (spec_heLook.l0 k n L R s 1)))) (fun k => by rw [spec_heLook.f]) ?_
      refine Ev.bind (spec_seen_ev s (by omega)) ?_
      refine Ev.congr (fun k => if_pos hgt) ?_
      exact Ev.now _
    · obtain ⟨o,he,ho⟩ := loop_ev n hn L R d s hs (fun h => ih (s ++ [h]) (by simp; omega)) n 1 (by omega)
      refine ⟨o,?_,ho⟩
      refine Ev.step (f := fun k => (spec_heSeen.f k s).bind fun t135 => (if (t135.length : Int) > L then (some (([] : List Int),false)) else (if (s.length : Int) = n then ((spec_heSeen.f k s).bind fun t138 => (if (t138.length : Int) = L then ((spec_heRight.f k s).bind fun t141 => (some (s,((t141.length : Int) == R)))) else (some (s,false)))) else (spec_heLook.l0 k n L R s 1)))) (fun k => by rw [spec_heLook.f]) ?_
      refine Ev.bind (spec_seen_ev s (by omega)) ?_
      refine Ev.congr (fun k => (if_neg hgt).trans (if_neg (by omega))) ?_
      exact he
theorem asked_ev (n L R : Int) : spec_heAsked.f n L R = some (decide ((1 ≤ n ∧ n ≤ 15) ∧ (0 ≤ L ∧ L ≤ 15) ∧ (0 ≤ R ∧ R ≤ 15))) := by
  have hin : ∀ a lo hi : Int,spec_l1In.f a lo hi = some (decide (lo ≤ a ∧ a ≤ hi)) := by
    intro a lo hi
    unfold spec_l1In.f
    by_cases h : a ≥ lo
    · rw [if_pos h]; simp; omega
    · rw [if_neg h]; simp; omega
  unfold spec_heAsked.f
  simp only [hin,Option.bind_some]
  by_cases h1 : 1 ≤ n ∧ n ≤ 15
  · by_cases h2 : 0 ≤ L ∧ L ≤ 15
    · simp [h1,h2]
    · simp [h1,h2]
  · simp [h1]
theorem spec_ev (n L R : Int) : Ev (fun k => spec_FirstBySeen.f k n L R) ((firstB n L R).getD [],(firstB n L R).isSome) := by
  by_cases h : asked n L R
  · obtain ⟨m,rfl⟩ : ∃ m : Nat,n = (m : Int) := ⟨n.toNat,by have := h.1; omega⟩
    have hm : m ≤ 8 := by have := h.1; omega
    have hN : firstB m L R = look m L R m [] := by unfold firstB; rw [if_pos h]; rfl
    rw [hN]
    obtain ⟨o,he,ho⟩ := look_ev m hm L R m [] (by simp)
    refine Ev.congr (f := fun k => spec_FirstBySeen.j0 k m L R (decide ((m : Int) > 8))) (fun k => ?_) ?_
    · simp only [spec_FirstBySeen.f,asked_ev]
      have h1 := h.1
      rw [decide_eq_true (⟨⟨h1.1,by omega⟩,h.2⟩ : (1 ≤ (m : Int) ∧ (m : Int) ≤ 15) ∧ _)]
      simp
    · refine Ev.step (f := fun k => (spec_heLook.f k m L R ([] : List Int)).bind fun bt156 => (if bt156.2 = true then (some (bt156.1,true)) else (some (([] : List Int),false)))) (fun k => ?_) ?_
      · simp only [spec_FirstBySeen.j0]
        rw [if_neg (by simp; omega)]
      · refine Ev.bind he ?_
        cases hl : look m L R m [] with
        | some r =>
          have := ho r hl
          subst this
          simp only [Option.isSome_some,if_true,Option.getD_some]
          exact Ev.now _
        | none =>
          simp only [Option.isSome_none,Bool.false_eq_true,if_false,Option.getD_none]
          exact Ev.now _
  · have hN : firstB n L R = none := by unfold firstB; rw [if_neg h]
    rw [hN]
    by_cases h15 : (1 ≤ n ∧ n ≤ 15) ∧ (0 ≤ L ∧ L ≤ 15) ∧ (0 ≤ R ∧ R ≤ 15)
    · have h8 : n > 8 := by
        rcases Int.lt_or_le 8 n with h8 | h8
        · exact h8
        · exact absurd (show asked n L R from ⟨⟨h15.1.1,h8⟩,h15.2⟩) h
      refine Ev.congr (f := fun k => spec_FirstBySeen.j0 k n L R (decide (n > 8))) (fun k => ?_) ?_
      · simp only [spec_FirstBySeen.f,asked_ev]
        rw [decide_eq_true h15]
        simp
      · refine Ev.step (f := fun _ => some ([],false)) (fun k => ?_) (Ev.now _)
        simp only [spec_FirstBySeen.j0]
        rw [if_pos (by simp; omega)]
    · refine Ev.congr (f := fun k => spec_FirstBySeen.j0 k n L R true) (fun k => ?_) ?_
      · simp only [spec_FirstBySeen.f,asked_ev]
        rw [decide_eq_false h15]
        simp
      · refine Ev.step (f := fun _ => some ([],false)) (fun k => ?_) (Ev.now _)
        simp only [spec_FirstBySeen.j0]
        rw [if_pos True.intro]
theorem spec_calls (n L R : Int) (w : World) :
    Calls Try.prog 48 #[.int .i64 n,.int .i64 L,.int .i64 R] w fun e w' => ∃ v,e = .returned (.tuple #[v,.bool (firstB n L R).isSome]) ∧ Kd.R (Kd.int .i64) 3 w' w.heap.size (fun _ => True) v ((firstB n L R).getD []) ∧ Below w.heap.size w w' := by
  obtain ⟨k,hk⟩ := (spec_ev n L R).rounds
  exact spec_FirstBySeen.calls k n L R _ _ w hk
theorem impl_calls (n L R : Int) (w : World) :
    Calls Try.prog 47 #[.int .i64 n,.int .i64 L,.int .i64 R] w fun e w' => ∃ v,e = .returned (.tuple #[v,.bool (firstB n L R).isSome]) ∧ Kd.R (Kd.int .i64) 3 w' w.heap.size (fun _ => True) v ((firstB n L R).getD []) ∧ Below w.heap.size w w' := by
  by_cases h : asked n L R
  · obtain ⟨m,rfl⟩ : ∃ m : Nat,n = (m : Int) := ⟨n.toNat,by have := h.1; omega⟩
    exact impl_yes m L R h w
  · exact impl_no n L R h w
theorem firstB_len (n L R : Int) : ((firstB n L R).getD []).length ≤ 8 := by
  unfold firstB
  split
  · rename_i h
    cases hl : look n.toNat L R n.toNat [] with
    | none => simp
    | some r => have := look_len n.toNat L R n.toNat [] (by simp) r hl; have := h.1; simp; omega
  · simp
end Go.Proofs.Ytleacijhpkogpad.HFind
