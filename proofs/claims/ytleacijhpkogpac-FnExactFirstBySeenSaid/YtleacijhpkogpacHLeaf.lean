/- The first order so seen: the closure of impl.FirstBySeen, which calls itself. -/
import Derived.Test.YtleacijhpkogpacHHas
import Derived.Deep.RegionHeld3
import Derived.WalkSpells
import Derived.Lib.SliceRun
namespace Go.Proofs.Ytleacijhpkogpac.HFind
open Go.RowKit Go.Proofs.YtleacijhpkogpacW.PrintWords Go.Proofs.YtleacijhpkogpacW.PrintLast Go.Proofs.YtleacijhpkogpacW.PrintMore Go.Proofs.Ytleacijhpkogpac.HClone Go.Proofs.Ytleacijhpkogpac.HSeen Go.Proofs.Ytleacijhpkogpac.HHas
set_option linter.unusedVariables false
set_option linter.unusedSimpArgs false

def scan (g : Int → Option (List Int)) : Nat → Int → Option (List Int)
  | 0, _ => none
  | c + 1, h => match g h with
    | some o => some o
    | none => scan g c (h + 1)
/-- The search, with no cut: n soldiers, d of them still to be put. -/
def look (n : Nat) (L R : Int) : Nat → List Int → Option (List Int)
  | 0, s => if ((seenR s 0 0).length : Int) = L ∧ ((seenR s.reverse 0 0).length : Int) = R then some s else none
  | d + 1, s => scan (fun h => if has s h = true then none else look n L R d (s ++ [h])) n 1
theorem scan_len {g : Int → Option (List Int)} {n : Nat} (hg : ∀ h o, g h = some o → o.length = n) : ∀ c h o, scan g c h = some o → o.length = n
  | 0, _, _, e => by simp [scan] at e
  | c + 1, h, o, e => by
    rw [scan] at e
    cases hx : g h with
    | some o' => rw [hx] at e; simp only [Option.some.injEq] at e; subst e; exact hg h _ hx
    | none => rw [hx] at e; exact scan_len hg c _ _ e
theorem look_len (n : Nat) (L R : Int) : ∀ (d : Nat) (s : List Int), s.length + d = n → ∀ o, look n L R d s = some o → o.length = n
  | 0, s, hs, o, e => by
    rw [look] at e
    split at e
    · simp only [Option.some.injEq] at e; subst e; omega
    · simp at e
  | d + 1, s, hs, o, e => by
    rw [look] at e
    refine scan_len (fun h o' he => ?_) _ _ _ e
    split at he
    · simp at he
    · exact look_len n L R d _ (by simp; omega) _ he
theorem C_one {w : World} {g : Nat} {x : Int} (h : w.cell? ⟨g, 0, none⟩ = some (.int .i64 x)) : Kd.C (Kd.int .i64) w (some ⟨g, 0, none⟩) 1 [x] := by
  refine ⟨rfl, by omega, fun _ => ⟨_, rfl, fun j p hj => ?_⟩⟩
  obtain ⟨hj1, hp⟩ := List.getElem?_eq_some_iff.1 hj
  have hj0 : j = 0 := by simpa using hj1
  subst hj0
  have hpx : p = x := by simpa using hp.symm
  subst hpx
  refine ⟨[.int .i64 p], rfl, rfl, fun i u hu => ?_⟩
  obtain ⟨hi1, hq⟩ := List.getElem?_eq_some_iff.1 hu
  have hi0 : i = 0 := by simpa using hi1
  subst hi0
  have : u = .int .i64 p := by simpa using hq.symm
  subst this
  exact h
/-- What the closure hands back. -/
def Ret (base : Nat) (w : World) (v : Value) : Option (List Int) → Prop
  | none => v = .slice none 0 0
  | some r => Kd.R (Kd.int .i64) 3 w base (fun _ => True) v r
abbrev FB : Nat := 63
abbrev PS (a b c d : Nat) : Array Value := #[.pointer (some ⟨a, 0, none⟩), .pointer (some ⟨b, 0, none⟩), .pointer (some ⟨c, 0, none⟩), .pointer (some ⟨d, 0, none⟩)]
set_option maxHeartbeats 8000000 in
set_option maxRecDepth 100000 in
theorem leaf_calls (n : Nat) (hn : 1 ≤ n ∧ n ≤ 8) (L R : Int) (a b c d : Nat) (s : List Int) (hs : s.length = n) (base : Nat) (u : Value) (w : World) (hbase : base ≤ w.heap.size)
    (hu : Kd.R (Kd.int .i64) 3 w base (fun _ => True) u s) (ha : w.cell? ⟨a, 0, none⟩ = some (.int .i64 (n : Int))) (hb : w.cell? ⟨b, 0, none⟩ = some (.int .i64 L)) (hc : w.cell? ⟨c, 0, none⟩ = some (.int .i64 R)) :
    Calls Try.prog FB (#[u] ++ PS a b c d) w fun e w' => ∃ v, e = .returned v ∧ Ret base w' v (look n L R 0 s) ∧ Below w.heap.size w w' := by
  have HU := Aside0.mk hu
  have HB := Aside0.mk (Below.refl w.heap.size w)
  obtain ⟨A, cp, eu, hcp, hC⟩ := Kd.R_reads hu
  subst eu
  have HC := Aside0.mk hC
  have HCells := Aside0.mk (fun W' (hW : Below w.heap.size w W') => (⟨pw_cell_below hW hb, pw_cell_below hW hc⟩ : W'.cell? ⟨b, 0, none⟩ = some (.int .i64 L) ∧ W'.cell? ⟨c, 0, none⟩ = some (.int .i64 R)))
  have HS := Aside0.mk hs
  clear hu hC hb hc
  have hlook : look n L R 0 s = if ((seenR s 0 0).length : Int) = L ∧ ((seenR s.reverse 0 0).length : Int) = R then some s else none := rfl
  rw [hlook]
  clear hlook
  have hE : ((s.length : Int) == (n : Int)) = true := by rw [hs]; simp
  have HSEEN := Aside0.mk (fun W hW => seen_calls A cp s (by omega) W hW hcp)
  have HMIR := Aside0.mk (fun W hW => mirrored_calls A cp s (by omega) W hW)
  have HSEEN2 := Aside0.mk (fun A2 c2 W hW hc2 => seen_calls A2 c2 s.reverse (by simp; omega) W hW hc2)
  have hrl : s.reverse.length = s.length := by simp
  generalize hsr : s.reverse = sr at HMIR HSEEN2 hrl
  clear hsr
  generalize hp : seenR s 0 0 = ps at HSEEN
  generalize hq : seenR sr 0 0 = qs at HSEEN2
  clear hp hq
  clear hs hrl
  by_cases h1 : (ps.length : Int) = L
  · have hE1 : ((ps.length : Int) == L) = true := beq_iff_eq.2 h1
    by_cases h2 : (qs.length : Int) = R
    · have hE2 : ((qs.length : Int) == R) = true := beq_iff_eq.2 h2
      rw [if_pos ⟨h1, h2⟩]
      clear h1 h2
      go_enter Try.func63, Try.ntmps63
      go_wp2
      go_region_held3 (fun w' => w'.cell? ⟨b, 0, none⟩ = some (.int .i64 L) ∧ w'.cell? ⟨c, 0, none⟩ = some (.int .i64 R)) (first | exact (HCells.out _ (by repeat (first | (with_reducible first | exact HB.out | apply below_alloc | apply pw_below_drewN | apply below_drew1) | exact HB.out))) | exact (HCells.out _ (by repeat (first | (with_reducible first | exact HB.out | apply below_alloc | apply pw_below_drewN | apply below_drew1) | exact HB.out))).1 | exact (HCells.out _ (by repeat (first | (with_reducible first | exact HB.out | apply below_alloc | apply pw_below_drewN | apply below_drew1) | exact HB.out))).2 | go_keep) (first | (go_at_call 65; (with_reducible refine (HMIR.out _ ?side1).mono ?_); (case side1 => exact (by repeat (first | exact HC.out | (with_reducible refine Kd.C_alloc ?_ _) | (with_reducible refine Kd.C_drewN ?_ _) | (with_reducible refine Kd.C_drew ?_)))); rintro e w2 ⟨v2, rfl, ho, hb2⟩; obtain ⟨A2, cp2, e2, hcp2, hC2⟩ := Kd.R_reads ho; subst e2; have HC2 := Aside0.mk hC2; have HBn := Aside0.mk (below_step (by repeat (first | (with_reducible first | exact HB.out | apply below_alloc | apply pw_below_drewN | apply below_drew1) | exact HB.out)) hb2); clear ho hC2 hb2 HB; have HB := HBn; clear HBn) | (go_at_call 64; (with_reducible refine (HSEEN2.out A2 cp2 _ ?side1 hcp2).mono ?_); (case side1 => exact (by repeat (first | exact HC2.out | (with_reducible refine Kd.C_alloc ?_ _) | (with_reducible refine Kd.C_drewN ?_ _) | (with_reducible refine Kd.C_drew ?_)))); rintro e w3 ⟨v3, rfl, ho, hb3⟩; obtain ⟨A3, cp3, e3, hcp3, hC3⟩ := Kd.R_reads ho; subst e3; have HBn := Aside0.mk (below_step (by repeat (first | (with_reducible first | exact HB.out | apply below_alloc | apply pw_below_drewN | apply below_drew1) | exact HB.out)) hb3); clear ho hC3 hb3 HB; have HB := HBn; clear HBn) | (go_at_call 64; (with_reducible refine (HSEEN.out _ ?side1).mono ?_); (case side1 => exact (by repeat (first | exact HC.out | (with_reducible refine Kd.C_alloc ?_ _) | (with_reducible refine Kd.C_drewN ?_ _) | (with_reducible refine Kd.C_drew ?_)))); rintro e w1 ⟨v1, rfl, ho, hb1⟩; obtain ⟨A1, cp1, e1, hcp1, hC1⟩ := Kd.R_reads ho; subst e1; have HBn := Aside0.mk (below_step (by repeat (first | (with_reducible first | exact HB.out | apply below_alloc | apply pw_below_drewN | apply below_drew1) | exact HB.out)) hb1); have HCn := Aside0.mk (Kd.C_below (by repeat (first | exact HC.out | (with_reducible refine Kd.C_alloc ?_ _) | (with_reducible refine Kd.C_drewN ?_ _) | (with_reducible refine Kd.C_drew ?_))) hb1); clear ho hC1 hb1 HB HC; have HB := HBn; have HC := HCn; clear HBn HCn))
      all_goals go_wp2
      go_ret
      exact ⟨_, rfl, Kd.R_below HU.out (by repeat (first | (with_reducible first | exact HB.out | apply below_alloc | apply pw_below_drewN | apply below_drew1) | exact HB.out)), (by repeat (first | (with_reducible first | exact HB.out | apply below_alloc | apply pw_below_drewN | apply below_drew1) | exact HB.out))⟩
    · have hE2 : ((qs.length : Int) == R) = false := beq_eq_false_iff_ne.2 h2
      rw [if_neg (fun z => h2 z.2)]
      clear h1 h2
      go_enter Try.func63, Try.ntmps63
      go_wp2
      go_region_held3 (fun w' => w'.cell? ⟨b, 0, none⟩ = some (.int .i64 L) ∧ w'.cell? ⟨c, 0, none⟩ = some (.int .i64 R)) (first | exact (HCells.out _ (by repeat (first | (with_reducible first | exact HB.out | apply below_alloc | apply pw_below_drewN | apply below_drew1) | exact HB.out))) | exact (HCells.out _ (by repeat (first | (with_reducible first | exact HB.out | apply below_alloc | apply pw_below_drewN | apply below_drew1) | exact HB.out))).1 | exact (HCells.out _ (by repeat (first | (with_reducible first | exact HB.out | apply below_alloc | apply pw_below_drewN | apply below_drew1) | exact HB.out))).2 | go_keep) (first | (go_at_call 65; (with_reducible refine (HMIR.out _ ?side1).mono ?_); (case side1 => exact (by repeat (first | exact HC.out | (with_reducible refine Kd.C_alloc ?_ _) | (with_reducible refine Kd.C_drewN ?_ _) | (with_reducible refine Kd.C_drew ?_)))); rintro e w2 ⟨v2, rfl, ho, hb2⟩; obtain ⟨A2, cp2, e2, hcp2, hC2⟩ := Kd.R_reads ho; subst e2; have HC2 := Aside0.mk hC2; have HBn := Aside0.mk (below_step (by repeat (first | (with_reducible first | exact HB.out | apply below_alloc | apply pw_below_drewN | apply below_drew1) | exact HB.out)) hb2); clear ho hC2 hb2 HB; have HB := HBn; clear HBn) | (go_at_call 64; (with_reducible refine (HSEEN2.out A2 cp2 _ ?side1 hcp2).mono ?_); (case side1 => exact (by repeat (first | exact HC2.out | (with_reducible refine Kd.C_alloc ?_ _) | (with_reducible refine Kd.C_drewN ?_ _) | (with_reducible refine Kd.C_drew ?_)))); rintro e w3 ⟨v3, rfl, ho, hb3⟩; obtain ⟨A3, cp3, e3, hcp3, hC3⟩ := Kd.R_reads ho; subst e3; have HBn := Aside0.mk (below_step (by repeat (first | (with_reducible first | exact HB.out | apply below_alloc | apply pw_below_drewN | apply below_drew1) | exact HB.out)) hb3); clear ho hC3 hb3 HB; have HB := HBn; clear HBn) | (go_at_call 64; (with_reducible refine (HSEEN.out _ ?side1).mono ?_); (case side1 => exact (by repeat (first | exact HC.out | (with_reducible refine Kd.C_alloc ?_ _) | (with_reducible refine Kd.C_drewN ?_ _) | (with_reducible refine Kd.C_drew ?_)))); rintro e w1 ⟨v1, rfl, ho, hb1⟩; obtain ⟨A1, cp1, e1, hcp1, hC1⟩ := Kd.R_reads ho; subst e1; have HBn := Aside0.mk (below_step (by repeat (first | (with_reducible first | exact HB.out | apply below_alloc | apply pw_below_drewN | apply below_drew1) | exact HB.out)) hb1); have HCn := Aside0.mk (Kd.C_below (by repeat (first | exact HC.out | (with_reducible refine Kd.C_alloc ?_ _) | (with_reducible refine Kd.C_drewN ?_ _) | (with_reducible refine Kd.C_drew ?_))) hb1); clear ho hC1 hb1 HB HC; have HB := HBn; have HC := HCn; clear HBn HCn))
      all_goals go_wp2
      go_ret
      exact ⟨_, rfl, rfl, (by repeat (first | (with_reducible first | exact HB.out | apply below_alloc | apply pw_below_drewN | apply below_drew1) | exact HB.out))⟩
  · have hE1 : ((ps.length : Int) == L) = false := beq_eq_false_iff_ne.2 h1
    rw [if_neg (fun z => h1 z.1)]
    clear h1
    go_enter Try.func63, Try.ntmps63
    go_wp2
    have hcb := (HCells.out w (Below.refl _ _)).1
    (first | (go_region_with (go_at_call 64; (with_reducible refine (HSEEN.out _ ?side1).mono ?_); (case side1 => exact (by repeat (first | exact HC.out | (with_reducible refine Kd.C_alloc ?_ _) | (with_reducible refine Kd.C_drewN ?_ _) | (with_reducible refine Kd.C_drew ?_)))); rintro e w1 ⟨v1, rfl, ho, hb1⟩; obtain ⟨A1, cp1, e1, hcp1, hC1⟩ := Kd.R_reads ho; subst e1; have HBn := Aside0.mk (below_step (by repeat (first | (with_reducible first | exact HB.out | apply below_alloc | apply pw_below_drewN | apply below_drew1) | exact HB.out)) hb1); clear ho hC1 hb1 HB; have HB := HBn; clear HBn; have hcb1 := (HCells.out _ HB.out).1)) | fail)
    all_goals go_wp2
    all_goals go_ret
    all_goals exact ⟨_, rfl, rfl, (by repeat (first | (with_reducible first | exact HB.out | apply below_alloc | apply pw_below_drewN | apply below_drew1) | exact HB.out))⟩
end Go.Proofs.Ytleacijhpkogpac.HFind
