/- The first order so seen, as the reference tells it: over the printed walk of spec.FirstBySeen. -/
import Derived.Test.YtleacijhpkogpacPFnExactFirstBySeenx11
import Derived.Test.YtleacijhpkogpacHFirst
namespace Go.Proofs.Ytleacijhpkogpac.HFind
open Go.RowKit Go.Proofs.YtleacijhpkogpacW.PrintWords Go.Proofs.YtleacijhpkogpacW.PrintLast Go.Proofs.YtleacijhpkogpacW.PrintMore Go.Proofs.Ytleacijhpkogpac.PFnExactFirstBySeen Go.Proofs.Ytleacijhpkogpac.HClone Go.Proofs.Ytleacijhpkogpac.HSeen Go.Proofs.Ytleacijhpkogpac.HHas
set_option linter.unusedVariables false
set_option linter.unusedSimpArgs false

theorem scan_some {g : Int → Option (List Int)} : ∀ c h o, scan g c h = some o → ∃ h', g h' = some o
  | 0, _, _, e => by simp [scan] at e
  | c + 1, h, o, e => by
    rw [scan] at e
    cases hx : g h with
    | some o' => rw [hx] at e; exact ⟨h, by rw [hx]; exact e⟩
    | none => rw [hx] at e; exact scan_some c _ _ e
theorem look_few (n : Nat) (L R : Int) : ∀ (d : Nat) (s r : List Int), look n L R d s = some r → ((seenR s 0 0).length : Int) ≤ L
  | 0, s, r, e => by
    rw [look] at e
    split at e
    · rename_i h; omega
    · simp at e
  | d + 1, s, r, e => by
    rw [look] at e
    obtain ⟨h, hh⟩ := scan_some _ _ _ e
    split at hh
    · simp at hh
    · have h1 := look_few n L R d _ _ hh
      have h2 := seenR_more [h] s 0 0
      omega
theorem own_ev (s : List Int) (hs : s.length ≤ 8) : spec_l1Own.f s = some s := by
  unfold spec_l1Own.f
  simp only [Option.bind_some]
  rw [if_pos (by simp; omega)]
  rfl
abbrev Tells (n : Nat) (L R : Int) (f : Nat → Option (List Int × Bool)) (T : Option (List Int)) : Prop := ∃ o : List Int, Ev f (o, T.isSome) ∧ ∀ r, T = some r → o = r
theorem loop_ev (n : Nat) (hn : n ≤ 8) (L R : Int) (d : Nat) (s : List Int) (hs : s.length + (d + 1) = n)
    (ih : ∀ h : Int, Tells n L R (fun k => spec_heLook.f k n L R (s ++ [h])) (look n L R d (s ++ [h]))) :
    ∀ (c i : Nat), i + c = n + 1 → Tells n L R (fun k => spec_heLook.l0 k n L R s (i : Int)) (scan (fun h => if has s h = true then none else look n L R d (s ++ [h])) c (i : Int)) := by
  intro c
  induction c with
  | zero =>
    intro i hi
    refine ⟨[], ?_, fun r hr => by simp [scan] at hr⟩
    refine Ev.step (f := fun _ => some ([], false)) (fun k => ?_) (Ev.now _)
    simp only [spec_heLook.l0]
    rw [if_neg (by omega)]
  | succ c ihc =>
    intro i hi
    obtain ⟨o2, he2, ho2⟩ := ihc (i + 1) (by omega)
    have ew : wrap64 ((i : Int) + 1) = ((i + 1 : Nat) : Int) := by unfold wrap64; omega
    have ec : ((i + 1 : Nat) : Int) = (i : Int) + 1 := by omega
    rw [scan]
    cases hq : has s (i : Int) with
    | true =>
      simp only [if_true]
      rw [← ec]
      refine ⟨o2, ?_, ho2⟩
      refine Ev.step (f := fun k => (spec_l1Has.f k s (i : Int)).bind fun t => if t = true then spec_heLook.l0 k n L R s ((i + 1 : Nat) : Int) else ((spec_l1Own.f s).bind fun t145 => (if t145.length < 17592186044416 then ((spec_heLook.f k n L R (t145 ++ [(i : Int)])).bind fun bt151 => (if bt151.2 = true then (some (bt151.1, true)) else (spec_heLook.l0 k n L R s ((i + 1 : Nat) : Int)))) else (none)))) (fun k => ?_) ?_
      · simp only [spec_heLook.l0]
        rw [if_pos (by omega), ew]
      · refine Ev.bind (has_ev s (by omega) (i : Int)) ?_
        rw [hq]
        simpa using he2
    | false =>
      obtain ⟨o1, he1, ho1⟩ := ih (i : Int)
      have key : ∀ (o : List Int) (b : Bool), Ev (fun k => ((spec_heLook.f k n L R (s ++ [(i : Int)])).bind fun bt151 => (if bt151.2 = true then (some (bt151.1, true)) else (spec_heLook.l0 k n L R s ((i + 1 : Nat) : Int))))) (o, b) → Ev (fun k => spec_heLook.l0 k n L R s (i : Int)) (o, b) := by
        intro o b h
        refine Ev.step (f := fun k => (spec_l1Has.f k s (i : Int)).bind fun t => if t = true then spec_heLook.l0 k n L R s ((i + 1 : Nat) : Int) else ((spec_heLook.f k n L R (s ++ [(i : Int)])).bind fun bt151 => (if bt151.2 = true then (some (bt151.1, true)) else (spec_heLook.l0 k n L R s ((i + 1 : Nat) : Int))))) (fun k => ?_) ?_
        · simp only [spec_heLook.l0]
          rw [if_pos (by omega), ew, own_ev s (by omega)]
          simp only [Option.bind_some]
          rw [if_pos (by omega)]
        · refine Ev.bind (has_ev s (by omega) (i : Int)) ?_
          rw [hq]
          simpa using h
      simp only [Bool.false_eq_true, if_false]
      cases hl : look n L R d (s ++ [(i : Int)]) with
      | some r =>
        rw [hl] at he1
        refine ⟨o1, ?_, fun r' hr' => ho1 r' (by rw [hl]; exact hr')⟩
        refine key _ _ (Ev.bind he1 ?_)
        simp only [Option.isSome_some, if_true]
        exact Ev.now _
      | none =>
        rw [hl] at he1
        rw [← ec]
        refine ⟨o2, ?_, ho2⟩
        refine key _ _ (Ev.bind he1 ?_)
        simp only [Option.isSome_none, Bool.false_eq_true, if_false]
        exact he2
theorem look_ev (n : Nat) (hn : n ≤ 8) (L R : Int) : ∀ (d : Nat) (s : List Int), s.length + d = n → Tells n L R (fun k => spec_heLook.f k n L R s) (look n L R d s) := by
  intro d
  induction d with
  | zero =>
    intro s hs
    by_cases hgt : ((seenR s 0 0).length : Int) > L
    · have hnone : look n L R 0 s = none := by
        cases hl : look n L R 0 s with
        | none => rfl
        | some r => have := look_few n L R 0 s r hl; omega
      rw [hnone]
      refine ⟨[], ?_, fun r hr => by simp at hr⟩
      refine Ev.step (f := fun k => (spec_heSeen.f k s).bind fun t135 => (if (t135.length : Int) > L then (some (([] : List Int), false)) else (if (s.length : Int) = n then ((spec_heSeen.f k s).bind fun t138 => (if (t138.length : Int) = L then ((spec_heRight.f k s).bind fun t141 => (some (s, ((t141.length : Int) == R)))) else (some (s, false)))) else (spec_heLook.l0 k n L R s 1)))) (fun k => by rw [spec_heLook.f]) ?_
      refine Ev.bind (spec_seen_ev s (by omega)) ?_
      refine Ev.congr (fun k => if_pos hgt) ?_
      exact Ev.now _
    · refine ⟨s, ?_, fun r hr => ?_⟩
      · refine Ev.step (f := fun k => (spec_heSeen.f k s).bind fun t135 => (if (t135.length : Int) > L then (some (([] : List Int), false)) else (if (s.length : Int) = n then ((spec_heSeen.f k s).bind fun t138 => (if (t138.length : Int) = L then ((spec_heRight.f k s).bind fun t141 => (some (s, ((t141.length : Int) == R)))) else (some (s, false)))) else (spec_heLook.l0 k n L R s 1)))) (fun k => by rw [spec_heLook.f]) ?_
        refine Ev.bind (spec_seen_ev s (by omega)) ?_
        refine Ev.congr (fun k => (if_neg hgt).trans (if_pos (by omega))) ?_
        refine Ev.bind (spec_seen_ev s (by omega)) ?_
        by_cases h1 : ((seenR s 0 0).length : Int) = L
        · refine Ev.congr (fun k => if_pos h1) ?_
          refine Ev.bind (right_ev s (by omega)) ?_
          rw [rightL_len]
          by_cases h2 : ((seenR s.reverse 0 0).length : Int) = R
          · rw [beq_iff_eq.2 h2, show look n L R 0 s = some s by rw [look, if_pos ⟨h1, h2⟩]]
            exact Ev.now _
          · rw [beq_eq_false_iff_ne.2 h2, show look n L R 0 s = none by rw [look, if_neg (fun z => h2 z.2)]]
            exact Ev.now _
        · refine Ev.congr (fun k => if_neg h1) ?_
          rw [show look n L R 0 s = none by rw [look, if_neg (fun z => h1 z.1)]]
          exact Ev.now _
      · rw [look] at hr
        split at hr
        · simpa using hr
        · simp at hr
  | succ d ih =>
    intro s hs
    by_cases hgt : ((seenR s 0 0).length : Int) > L
    · have hnone : look n L R (d + 1) s = none := by
        cases hl : look n L R (d + 1) s with
        | none => rfl
        | some r => have := look_few n L R (d + 1) s r hl; omega
      rw [hnone]
      refine ⟨[], ?_, fun r hr => by simp at hr⟩
      refine Ev.step (f := fun k => (spec_heSeen.f k s).bind fun t135 => (if (t135.length : Int) > L then (some (([] : List Int), false)) else (if (s.length : Int) = n then ((spec_heSeen.f k s).bind fun t138 => (if (t138.length : Int) = L then ((spec_heRight.f k s).bind fun t141 => (some (s, ((t141.length : Int) == R)))) else (some (s, false)))) else (spec_heLook.l0 k n L R s 1)))) (fun k => by rw [spec_heLook.f]) ?_
      refine Ev.bind (spec_seen_ev s (by omega)) ?_
      refine Ev.congr (fun k => if_pos hgt) ?_
      exact Ev.now _
    · obtain ⟨o, he, ho⟩ := loop_ev n hn L R d s hs (fun h => ih (s ++ [h]) (by simp; omega)) n 1 (by omega)
      refine ⟨o, ?_, ho⟩
      refine Ev.step (f := fun k => (spec_heSeen.f k s).bind fun t135 => (if (t135.length : Int) > L then (some (([] : List Int), false)) else (if (s.length : Int) = n then ((spec_heSeen.f k s).bind fun t138 => (if (t138.length : Int) = L then ((spec_heRight.f k s).bind fun t141 => (some (s, ((t141.length : Int) == R)))) else (some (s, false)))) else (spec_heLook.l0 k n L R s 1)))) (fun k => by rw [spec_heLook.f]) ?_
      refine Ev.bind (spec_seen_ev s (by omega)) ?_
      refine Ev.congr (fun k => (if_neg hgt).trans (if_neg (by omega))) ?_
      exact he
theorem asked_ev (n L R : Int) : spec_heAsked.f n L R = some (decide ((1 ≤ n ∧ n ≤ 15) ∧ (0 ≤ L ∧ L ≤ 15) ∧ (0 ≤ R ∧ R ≤ 15))) := by
  have hin : ∀ a lo hi : Int, spec_l1In.f a lo hi = some (decide (lo ≤ a ∧ a ≤ hi)) := by
    intro a lo hi
    unfold spec_l1In.f
    by_cases h : a ≥ lo
    · rw [if_pos h]; simp; omega
    · rw [if_neg h]; simp; omega
  unfold spec_heAsked.f
  simp only [hin, Option.bind_some]
  by_cases h1 : 1 ≤ n ∧ n ≤ 15
  · by_cases h2 : 0 ≤ L ∧ L ≤ 15
    · simp [h1, h2]
    · simp [h1, h2]
  · simp [h1]
theorem spec_ev (n L R : Int) : Ev (fun k => spec_FirstBySeen.f k n L R) ((firstB n L R).getD [], (firstB n L R).isSome) := by
  by_cases h : asked n L R
  · obtain ⟨m, rfl⟩ : ∃ m : Nat, n = (m : Int) := ⟨n.toNat, by have := h.1; omega⟩
    have hm : m ≤ 8 := by have := h.1; omega
    have hN : firstB m L R = look m L R m [] := by unfold firstB; rw [if_pos h]; rfl
    rw [hN]
    obtain ⟨o, he, ho⟩ := look_ev m hm L R m [] (by simp)
    refine Ev.congr (f := fun k => spec_FirstBySeen.j0 k m L R (decide ((m : Int) > 8))) (fun k => ?_) ?_
    · simp only [spec_FirstBySeen.f, asked_ev]
      have h1 := h.1
      rw [decide_eq_true (⟨⟨h1.1, by omega⟩, h.2⟩ : (1 ≤ (m : Int) ∧ (m : Int) ≤ 15) ∧ _)]
      simp
    · refine Ev.step (f := fun k => (spec_heLook.f k m L R ([] : List Int)).bind fun bt156 => (if bt156.2 = true then (some (bt156.1, true)) else (some (([] : List Int), false)))) (fun k => ?_) ?_
      · simp only [spec_FirstBySeen.j0]
        rw [if_neg (by simp; omega)]
      · refine Ev.bind he ?_
        cases hl : look m L R m [] with
        | some r =>
          have := ho r hl
          subst this
          simp only [Option.isSome_some, if_true, Option.getD_some]
          exact Ev.now _
        | none =>
          simp only [Option.isSome_none, Bool.false_eq_true, if_false, Option.getD_none]
          exact Ev.now _
  · have hN : firstB n L R = none := by unfold firstB; rw [if_neg h]
    rw [hN]
    by_cases h15 : (1 ≤ n ∧ n ≤ 15) ∧ (0 ≤ L ∧ L ≤ 15) ∧ (0 ≤ R ∧ R ≤ 15)
    · have h8 : n > 8 := by
        rcases Int.lt_or_le 8 n with h8 | h8
        · exact h8
        · exact absurd (show asked n L R from ⟨⟨h15.1.1, h8⟩, h15.2⟩) h
      refine Ev.congr (f := fun k => spec_FirstBySeen.j0 k n L R (decide (n > 8))) (fun k => ?_) ?_
      · simp only [spec_FirstBySeen.f, asked_ev]
        rw [decide_eq_true h15]
        simp
      · refine Ev.step (f := fun _ => some ([], false)) (fun k => ?_) (Ev.now _)
        simp only [spec_FirstBySeen.j0]
        rw [if_pos (by simp; omega)]
    · refine Ev.congr (f := fun k => spec_FirstBySeen.j0 k n L R true) (fun k => ?_) ?_
      · simp only [spec_FirstBySeen.f, asked_ev]
        rw [decide_eq_false h15]
        simp
      · refine Ev.step (f := fun _ => some ([], false)) (fun k => ?_) (Ev.now _)
        simp only [spec_FirstBySeen.j0]
        rw [if_pos True.intro]
theorem spec_calls (n L R : Int) (w : World) :
    Calls Try.prog 18 #[.int .i64 n, .int .i64 L, .int .i64 R] w fun e w' => ∃ v, e = .returned (.tuple #[v, .bool (firstB n L R).isSome]) ∧ Kd.R (Kd.int .i64) 3 w' w.heap.size (fun _ => True) v ((firstB n L R).getD []) ∧ Below w.heap.size w w' := by
  obtain ⟨k, hk⟩ := (spec_ev n L R).rounds
  exact spec_FirstBySeen.calls k n L R _ _ w hk
theorem impl_calls (n L R : Int) (w : World) :
    Calls Try.prog 19 #[.int .i64 n, .int .i64 L, .int .i64 R] w fun e w' => ∃ v, e = .returned (.tuple #[v, .bool (firstB n L R).isSome]) ∧ Kd.R (Kd.int .i64) 3 w' w.heap.size (fun _ => True) v ((firstB n L R).getD []) ∧ Below w.heap.size w w' := by
  by_cases h : asked n L R
  · obtain ⟨m, rfl⟩ : ∃ m : Nat, n = (m : Int) := ⟨n.toNat, by have := h.1; omega⟩
    exact impl_yes m L R h w
  · exact impl_no n L R h w
theorem firstB_len (n L R : Int) : ((firstB n L R).getD []).length ≤ 8 := by
  unfold firstB
  split
  · rename_i h
    cases hl : look n.toNat L R n.toNat [] with
    | none => simp
    | some r => have := look_len n.toNat L R n.toNat [] (by simp) r hl; have := h.1; simp; omega
  · simp
end Go.Proofs.Ytleacijhpkogpac.HFind
