/- Plain laws of rows for the law on rest: turns are as many as pairs, near or far; each turn is counted for two; the row at rest; what differs behind a tick. -/
import Derived.Test.YtleacijhpkogpabDoorRTE
import Derived.Test.YtleacijhpkogpabDoorRPlain
import Derived.WalkKit
namespace Go.Proofs.YtleacijhpkogpabDoor.RRestP
open Go.RowKit Go.Proofs.YtleacijhpkogpabDoorW.PrintWords Go.Proofs.YtleacijhpkogpabDoorW.PrintLast Go.Proofs.YtleacijhpkogpabDoorW.PrintMore Go.Proofs.YtleacijhpkogpabDoor.RPlain Go.Proofs.YtleacijhpkogpabDoor.RTurns
set_option linter.unusedVariables false
set_option linter.unusedSimpArgs false

theorem inv_rest : ∀ l : List UInt8, Al l → hasB l = false → invB l = 0
  | [], _, _ => rfl
  | [a], _, _ => by simp [invB, n60]
  | a :: b :: t, hA, h => by
    have hb : hasB (b :: t) = false := by rw [hasB, Bool.or_eq_false_iff] at h; exact h.2
    have ih := inv_rest (b :: t) (al_tail hA) hb
    rw [invB, ih]
    split
    · rename_i c
      subst c
      have e := rest_form (62 :: b :: t) hA h
      have en : n60 (62 :: b :: t) = n60 (b :: t) := by simp [n60]
      rw [en] at e
      cases hn : n60 (b :: t) with
      | zero => rfl
      | succ k =>
        rw [hn, List.replicate_succ, List.cons_append] at e
        injection e with h1 _
        exact absurd h1 (by decide)
    · rfl
theorem trn_inv : ∀ (m : Nat) (l : List UInt8) (s : Int), Al l → invB l ≤ m → 0 ≤ s → s + (invB l : Int) ≤ 1000000 → trnL l s = s + (invB l : Int) := by
  intro m
  induction m with
  | zero =>
    intro l s hA h h0 h1
    cases c : hasB l with
    | true => have := (inv_tk l).2 c; omega
    | false => rw [trn_rest c]; omega
  | succ m ih =>
    intro l s hA h h0 h1
    have hp := inv_tk_prs 0 l
    cases c : hasB l with
    | true =>
      have h2 := (inv_tk l).2 c
      have e : addT l s = s + ((prs 0 l).length : Int) := by unfold addT wrap64; omega
      rw [trn_step c, ih (tkB l) (addT l s) (al_tk l hA) (by omega) (by rw [e]; omega) (by rw [e]; omega), e]
      omega
    | false => rw [trn_rest c, inv_rest l hA c]; omega
theorem inv_60 (l : List UInt8) (h : l.length ≤ 60) : invB l ≤ 3600 :=
  Nat.le_trans (inv_le l) (Nat.le_trans (Nat.mul_le_mul h h) (by decide))
theorem trn_is (l : List UInt8) (hA : Al l) (h : l.length ≤ 60) : trnL l 0 = (invB l : Int) := by
  have := inv_60 l h
  rw [trn_inv _ l 0 hA (Nat.le_refl _) (by omega) (by omega)]; omega

/-! each turn counts for two -/
theorem sum_set : ∀ (l : List Int) (i : Nat) (v : Int), i < l.length → (l.set i v).sum = l.sum - rdI l i + v
  | [], i, v, h => by simp at h
  | a :: l, 0, v, _ => by simp [rdI]; omega
  | a :: l, i + 1, v, h => by
    have ih := sum_set l i v (by simpa using h)
    have e : rdI (a :: l) (i + 1) = rdI l i := by simp [rdI]
    rw [List.set_cons_succ, List.sum_cons, List.sum_cons, ih, e]; omega
theorem nn_le : ∀ (l : List Int), (∀ x ∈ l, 0 ≤ x) → 0 ≤ l.sum ∧ ∀ x ∈ l, x ≤ l.sum
  | [], _ => by simp
  | a :: l, h => by
    have ih := nn_le l (fun x hx => h x (List.mem_cons_of_mem _ hx))
    have ha := h a (List.mem_cons_self ..)
    rw [List.sum_cons]
    refine ⟨by omega, fun x hx => ?_⟩
    rcases List.mem_cons.1 hx with rfl | hx
    · omega
    · have := ih.2 x hx; omega
theorem rdI_mem (l : List Int) (i : Nat) (h : i < l.length) : rdI l i ∈ l := by
  unfold rdI
  rw [List.getD_eq_getElem?_getD, List.getElem?_eq_getElem h]
  exact List.getElem_mem h
theorem bump_one (l : List Int) (i : Nat) (hi : i < l.length) (hp : ∀ x ∈ l, 0 ≤ x) (hs : l.sum ≤ 1000000) : (∀ x ∈ l.set i (wrap64 (rdI l i + 1)), 0 ≤ x) ∧ (l.set i (wrap64 (rdI l i + 1))).sum = l.sum + 1 := by
  have h1 := (nn_le l hp).2 _ (rdI_mem l i hi)
  have h0 := hp _ (rdI_mem l i hi)
  have e : wrap64 (rdI l i + 1) = rdI l i + 1 := by unfold wrap64; omega
  rw [e]
  refine ⟨fun x hx => ?_, by rw [sum_set l i _ hi]; omega⟩
  rcases List.mem_or_eq_of_mem_set hx with h | h
  · exact hp x h
  · omega
theorem bump_two (l : List Int) (x : Int) (h0 : 0 ≤ x) (h1 : x + 1 < (l.length : Int)) (hp : ∀ x ∈ l, 0 ≤ x) (hs : l.sum ≤ 900000) : (∀ y ∈ bump l x, 0 ≤ y) ∧ (bump l x).sum = l.sum + 2 := by
  have a := bump_one l x.toNat (by omega) hp (by omega)
  have b := bump_one (l.set x.toNat (wrap64 (rdI l x.toNat + 1))) (x.toNat + 1) (by simp; omega) a.1 (by omega)
  have e : rdI (l.set x.toNat (wrap64 (rdI l x.toNat + 1))) (x.toNat + 1) = rdI l (x.toNat + 1) := by
    unfold rdI
    rw [List.getD_eq_getElem?_getD, List.getElem?_set_ne (by omega), ← List.getD_eq_getElem?_getD]
  rw [e] at b
  unfold bump
  exact ⟨b.1, by rw [b.2, a.2]; omega⟩
theorem bumps_two : ∀ (ps l : List Int), (∀ x ∈ ps, 0 ≤ x ∧ x + 1 < (l.length : Int)) → (∀ x ∈ l, 0 ≤ x) → l.sum + 2 * (ps.length : Int) ≤ 900000 → (∀ y ∈ bumps l ps, 0 ≤ y) ∧ (bumps l ps).sum = l.sum + 2 * (ps.length : Int)
  | [], l, _, hp, _ => ⟨hp, by simp [bumps]⟩
  | x :: ps, l, hx, hp, hs => by
    rw [List.length_cons] at hs
    have h := hx x (List.mem_cons_self ..)
    have a := bump_two l x h.1 h.2 hp (by omega)
    have b := bumps_two ps (bump l x) (fun y hy => by rw [bump_len]; exact hx y (List.mem_cons_of_mem _ hy)) a.1 (by rw [a.2]; omega)
    have e : bumps l (x :: ps) = bumps (bump l x) ps := rfl
    rw [e]
    exact ⟨b.1, by rw [b.2, a.2, List.length_cons]; omega⟩
theorem each_two : ∀ (m : Nat) (l : List UInt8) (o : List Int), Al l → invB l ≤ m → o.length = l.length → (∀ x ∈ o, 0 ≤ x) → o.sum + 2 * (invB l : Int) ≤ 900000 → (∀ y ∈ eachL l o, 0 ≤ y) ∧ (eachL l o).sum = o.sum + 2 * (invB l : Int) := by
  intro m
  induction m with
  | zero =>
    intro l o hA h hl hp hs
    cases c : hasB l with
    | true => have := (inv_tk l).2 c; omega
    | false => rw [each_rest c]; exact ⟨hp, by omega⟩
  | succ m ih =>
    intro l o hA h hl hp hs
    have hq := inv_tk_prs 0 l
    cases c : hasB l with
    | true =>
      have h2 := (inv_tk l).2 c
      have a := bumps_two (prs 0 l) o (fun x hx => by have := prs_mem 0 l x hx; rw [hl]; omega) hp (by omega)
      have b := ih (tkB l) (bumps o (prs 0 l)) (al_tk l hA) (by omega) (by rw [bumps_len, hl, tkB_len]) a.1 (by rw [a.2]; omega)
      rw [each_step c]
      exact ⟨b.1, by rw [b.2, a.2]; omega⟩
    | false => rw [each_rest c, inv_rest l hA c]; exact ⟨hp, by omega⟩
theorem rep_sum : ∀ n : Nat, (List.replicate n (0 : Int)).sum = 0
  | 0 => rfl
  | n + 1 => by rw [List.replicate_succ, List.sum_cons, rep_sum n]; rfl
theorem each_is (l : List UInt8) (hA : Al l) (h : l.length ≤ 60) : (∀ y ∈ eachL l (List.replicate l.length 0), 0 ≤ y) ∧ (eachL l (List.replicate l.length 0)).sum = 2 * (invB l : Int) := by
  have := inv_60 l h
  have e := rep_sum l.length
  have a := each_two _ l (List.replicate l.length 0) hA (Nat.le_refl _) (by simp) (fun x hx => by have := List.eq_of_mem_replicate hx; omega) (by rw [e]; omega)
  exact ⟨a.1, by rw [a.2, e]; omega⟩

/-! pairs, near or far -/
def n62 (l : List UInt8) : Nat := (l.filter (fun b => b == 62)).length
theorem n_both : ∀ l : List UInt8, Al l → n60 l + n62 l = l.length
  | [], _ => rfl
  | a :: l, h => by
    have ih := n_both l (al_tail h)
    rcases al_head h with rfl | rfl
    · have e1 : n60 (60 :: l) = n60 l + 1 := by simp [n60]
      have e2 : n62 (60 :: l) = n62 l := by simp [n62]
      rw [e1, e2, List.length_cons]; omega
    · have e1 : n60 (62 :: l) = n60 l := by simp [n60]
      have e2 : n62 (62 :: l) = n62 l + 1 := by simp [n62]
      rw [e1, e2, List.length_cons]; omega
theorem n62_snoc (l : List UInt8) (b : UInt8) : n62 (l ++ [b]) = n62 l + if b = 62 then 1 else 0 := by
  unfold n62
  rw [List.filter_append, List.length_append]
  by_cases h : b = 62 <;> simp [h]
theorem inv_snoc : ∀ (l : List UInt8) (b : UInt8), invB (l ++ [b]) = invB l + if b = 60 then n62 l else 0
  | [], b => by simp [invB, n60, n62]
  | a :: l, b => by
    have ih := inv_snoc l b
    have e : n60 (l ++ [b]) = n60 l + if b = 60 then 1 else 0 := by
      unfold n60
      rw [List.filter_append, List.length_append]
      by_cases h : b = 60 <;> simp [h]
    rw [List.cons_append, invB, ih, e, invB]
    by_cases ha : a = 62
    · have e2 : n62 (a :: l) = n62 l + 1 := by simp [n62, ha]
      rw [if_pos ha, if_pos ha, e2]
      split <;> omega
    · have e2 : n62 (a :: l) = n62 l := by simp [n62, ha]
      rw [if_neg ha, if_neg ha, e2]
      split <;> omega
theorem n62_le (l : List UInt8) : n62 l ≤ l.length := List.length_filter_le _ _
/-- The row at rest, as it is written sign by sign. -/
def goalL (n r i : Nat) : List UInt8 := List.replicate (min i (n - r)) 60 ++ List.replicate (i - (n - r)) 62
theorem goal_len (n r i : Nat) : (goalL n r i).length = i := by simp [goalL]; omega
theorem goal_step (n r i : Nat) : goalL n r (i + 1) = goalL n r i ++ [if i < n - r then 60 else 62] := by
  unfold goalL
  by_cases h : i < n - r
  · rw [if_pos h, show min (i + 1) (n - r) = i + 1 by omega, show min i (n - r) = i by omega, show i + 1 - (n - r) = 0 by omega, show i - (n - r) = 0 by omega, List.replicate_succ']
    simp
  · rw [if_neg h, show min (i + 1) (n - r) = n - r by omega, show min i (n - r) = n - r by omega, show i + 1 - (n - r) = (i - (n - r)) + 1 by omega, List.replicate_succ', List.append_assoc]
theorem goal_is (l : List UInt8) (hA : Al l) : goalL l.length (n62 l) l.length = (histL l).1 := by
  have h := n_both l hA
  rw [rest_is l hA]
  unfold goalL
  rw [show min l.length (l.length - n62 l) = n60 l by omega, show l.length - (l.length - n62 l) = l.length - n60 l by omega]

/-! what differs behind a tick -/
theorem tk_ne (l : List UInt8) (i : Nat) (h : i < l.length) : (tkB l)[i]'(by rw [tkB_len]; exact h) ≠ l[i] ↔ fc l i ∨ (0 < i ∧ fc l (i - 1)) := by
  have e := tkB_get l i
  rw [List.getElem?_eq_getElem (by rw [tkB_len]; exact h), List.getElem?_eq_getElem h] at e
  generalize (tkB l)[i]'(by rw [tkB_len]; exact h) = x at e ⊢
  by_cases c : fc l i
  · rw [if_pos c] at e
    have h1 := c.1
    rw [List.getElem?_eq_getElem h] at h1
    have h2 : l[i] = 62 := Option.some.inj h1
    have h3 : x = 60 := Option.some.inj e
    rw [h2, h3]
    exact ⟨fun _ => .inl c, fun _ => by decide⟩
  · rw [if_neg c] at e
    by_cases d : 0 < i ∧ fc l (i - 1)
    · rw [if_pos d] at e
      have h1 := d.2.2
      rw [show i - 1 + 1 = i by omega, List.getElem?_eq_getElem h] at h1
      have h2 : l[i] = 60 := Option.some.inj h1
      have h3 : x = 62 := Option.some.inj e
      rw [h2, h3]
      exact ⟨fun _ => .inr d, fun _ => by decide⟩
    · rw [if_neg d] at e
      have h3 : x = l[i] := Option.some.inj e
      rw [h3]
      exact ⟨fun z => absurd rfl z, fun z => by rcases z with z | z; exact absurd z c; exact absurd z d⟩
theorem prs_has_iff (l : List UInt8) (i : Nat) : ((i : Int) ∈ prs 0 l) ↔ fc l i := by
  rw [prs_mem_iff]
  constructor
  · rintro ⟨j, h1, h2⟩
    have : j = i := by omega
    rwa [this] at h2
  · intro h; exact ⟨i, by omega, h⟩
theorem prs_has_pre (l : List UInt8) (i : Nat) : (((i : Int) - 1) ∈ prs 0 l) ↔ (0 < i ∧ fc l (i - 1)) := by
  rw [prs_mem_iff]
  constructor
  · rintro ⟨j, h1, h2⟩
    have : j = i - 1 := by omega
    rw [this] at h2
    exact ⟨by omega, h2⟩
  · rintro ⟨h, h2⟩; exact ⟨i - 1, by omega, h2⟩
end Go.Proofs.YtleacijhpkogpabDoor.RRestP
/- Plain words for the walks of the law on rest. -/
namespace Go.Proofs.YtleacijhpkogpabDoor.RLawH2
open Go.RowKit Go.Proofs.YtleacijhpkogpabDoorW.PrintWords Go.Proofs.YtleacijhpkogpabDoorW.PrintLast Go.Proofs.YtleacijhpkogpabDoorW.PrintMore Go.Proofs.YtleacijhpkogpabDoor.RPlain Go.Proofs.YtleacijhpkogpabDoor.RRestP
set_option linter.unusedVariables false
theorem byte_small {l : List UInt8} (hA : Al l) (i : Nat) (h : i < l.length) : ((bs l)[i]'(show i < (bs l).size from h)).toNat < 128 := by
  rw [show (bs l)[i]'(show i < (bs l).size from h) = l[i] from rfl]
  rcases hA _ (List.getElem_mem h) with e | e <;> rw [e] <;> decide
theorem cross_bd (l : List UInt8) (i : Nat) (h : l.length ≤ 60) : invB (l.take i) ≤ 100000000 ∧ n62 (l.take i) ≤ 100000000 := by
  have h2 : (l.take i).length ≤ 60 := by rw [List.length_take]; omega
  have := inv_60 (l.take i) h2
  have := n62_le (l.take i)
  omega
theorem cross_62 (l : List UInt8) (i : Nat) (h : i < l.length) (c : l[i] = 62) : invB (l.take (i + 1)) = invB (l.take i) ∧ n62 (l.take (i + 1)) = n62 (l.take i) + 1 := by
  rw [List.take_succ_eq_append_getElem h, inv_snoc, n62_snoc, c]
  exact ⟨rfl, rfl⟩
theorem cross_60 (l : List UInt8) (i : Nat) (h : i < l.length) (c : l[i] = 60) : invB (l.take (i + 1)) = invB (l.take i) + n62 (l.take i) ∧ n62 (l.take (i + 1)) = n62 (l.take i) := by
  rw [List.take_succ_eq_append_getElem h, inv_snoc, n62_snoc, c]
  exact ⟨rfl, rfl⟩
theorem add_nat (x y : Nat) (hx : x ≤ 100000000) (hy : y ≤ 100000000) : wrap64 ((x : Int) + (y : Int)) = ((x + y : Nat) : Int) := by unfold wrap64; omega
theorem goal_zero (n r : Nat) : goalL n r 0 = [] := by simp [goalL]
theorem goal_bytes (n r i : Nat) : bs (goalL n r (i + 1)) = bs (goalL n r i) ++ (if i < n - r then (⟨#[60]⟩ : ByteArray) else ⟨#[62]⟩) := by
  rw [goal_step, ← bs_snoc]
  split <;> rfl
theorem two_nat (x : Nat) (h : x ≤ 3600) : IntKind.i64.wrap (2 * (x : Int)) = 2 * (x : Int) := IntWalk.i64_in _ (by omega)
theorem size_one (l : List UInt8) (h1 : 1 ≤ l.length) (h60 : l.length ≤ 60) : IntKind.i64.wrap (((bs l).size : Int) - 1) = ((bs l).size : Int) - 1 := by rw [bs_size]; exact IntWalk.i64_in _ (by omega)
theorem not_gt (l : List UInt8) (T : Nat) (h : T ≤ l.length - 1) (h1 : 1 ≤ l.length) : decide (((bs l).size : Int) - 1 < (T : Int)) = false := by rw [bs_size]; simp; omega
theorem pair_facts (l : List UInt8) (k : Nat) (hk : k < (prs 0 l).length) : ∃ j : Nat, rd (prs 0 l) (k : Int) = (j : Int) ∧ ∃ h : j + 1 < l.length, ((bs l)[j]'(show j < (bs l).size from Nat.lt_of_succ_lt h)).toNat = 62 ∧ ((bs l)[j + 1]'(show j + 1 < (bs l).size from h)).toNat = 60 ∧
    ((bs (tkB l))[j]'(show j < (tkB l).length by rw [tkB_len]; omega)).toNat = 60 ∧ ((bs (tkB l))[j + 1]'(show j + 1 < (tkB l).length by rw [tkB_len]; omega)).toNat = 62 := by
  have hm : (prs 0 l)[k] ∈ prs 0 l := List.getElem_mem hk
  obtain ⟨j, e, hf⟩ := (prs_mem_iff l 0 _).1 hm
  have hlt := fc_lt hf
  have g1 := hf.1
  have g2 := hf.2
  have g3 := tkB_get l j
  have g4 := tkB_get l (j + 1)
  rw [if_pos hf, List.getElem?_eq_getElem (by rw [tkB_len]; omega)] at g3
  have hn : ¬ fc l (j + 1) := fun z => by have z1 := z.1; rw [g2] at z1; exact absurd (Option.some.inj z1) (by decide)
  rw [if_neg hn, if_pos ⟨by omega, hf⟩, List.getElem?_eq_getElem (by rw [tkB_len]; omega)] at g4
  rw [List.getElem?_eq_getElem (by omega)] at g1 g2
  refine ⟨j, ?_, hlt, ?_, ?_, ?_, ?_⟩
  · simp [rd, List.getD_eq_getElem?_getD, List.getElem?_eq_getElem hk]
    rw [e]; omega
  · exact congrArg UInt8.toNat (Option.some.inj g1)
  · exact congrArg UInt8.toNat (Option.some.inj g2)
  · exact congrArg UInt8.toNat (Option.some.inj g3)
  · exact congrArg UInt8.toNat (Option.some.inj g4)
theorem bne_cast (q p : Nat) : ((q : Int) != (p : Int)) = (q != p) := by
  by_cases h : q = p
  · subst h; simp
  · rw [bne_iff_ne.mpr h]; exact bne_iff_ne.mpr (fun e => h (Int.ofNat.inj e))
theorem far_w (l : List UInt8) (i j : Nat) (h : i + j + 1 = l.length) (h60 : l.length ≤ 60) : IntKind.i64.wrap (((bs l).size : Int) - 1 - (i : Int)) = (j : Int) := by
  rw [bs_size, IntWalk.i64_in _ (by omega)]; omega
theorem sub_one_w (i : Nat) (h : i < 60) : IntKind.i64.wrap ((i : Int) - 1) = (i : Int) - 1 := IntWalk.i64_in _ (by omega)
/-- What is known of a soldier's signs: his own (p), behind a tick (q), turned (t), mirrored (m). -/
theorem each_facts {l : List UInt8} (hA : Al l) (i j : Nat) (hi : i < l.length) (ej : i + j + 1 = l.length) : ∃ p q t m : Nat, ((bs l)[i]'(show i < (bs l).size from hi)).toNat = p ∧ ((bs (tkB l))[i]'(show i < (bs (tkB l)).size by rw [bs_size, tkB_len]; exact hi)).toNat = q ∧
    ((bs (l.map otherB))[i]'(show i < (bs (l.map otherB)).size by rw [bs_size, List.length_map]; exact hi)).toNat = t ∧ ((bs (mrL l))[i]'(show i < (bs (mrL l)).size by rw [bs_size, mr_len]; exact hi)).toNat = m ∧
    ((bs (l.map otherB))[j]'(show j < (bs (l.map otherB)).size by rw [bs_size, List.length_map]; omega)).toNat = m ∧ t ≠ p ∧ (q ≠ p ↔ ((i : Int) ∈ prs 0 l ∨ ((i : Int) - 1) ∈ prs 0 l)) := by
  have h1 := tk_ne l i hi
  rw [← prs_has_iff, ← prs_has_pre] at h1
  have hm := mr_get l i hi
  rw [List.getElem?_eq_getElem (by rw [mr_len]; exact hi)] at hm
  refine ⟨_, _, _, _, rfl, rfl, rfl, rfl, ?_, ?_, ?_⟩
  · refine (congrArg UInt8.toNat ?_).trans (congrArg UInt8.toNat (Option.some.inj hm)).symm
    show (l.map otherB)[j]'(by rw [List.length_map]; omega) = _
    rw [List.getElem_map]
    congr 2
    omega
  · show ((l.map otherB)[i]'(by rw [List.length_map]; exact hi)).toNat ≠ (l[i]).toNat
    rw [List.getElem_map]
    exact fun e => other_ne _ (UInt8.toNat_inj.1 e)
  · rw [← h1]
    show ((tkB l)[i]'(by rw [tkB_len]; exact hi)).toNat ≠ (l[i]).toNat ↔ _
    exact not_congr UInt8.toNat_inj
theorem pred_w (T T1 : Nat) (h : ¬ T = 0) (hT : T ≤ 3600) (h1 : T1 = T - 1) : IntKind.i64.wrap ((T : Int) - 1) = (T1 : Int) := by rw [IntWalk.i64_in _ (by omega)]; omega
theorem beq_zero (T : Nat) (st : Bool) (h : (T = 0) = (st = true)) : ((T : Int) == 0) = st := by
  cases st with
  | true => exact beq_iff_eq.mpr (by have := h.mpr rfl; omega)
  | false => exact beq_eq_false_iff_ne.mpr (fun e => by have := h.mp (by omega); cases this)
end Go.Proofs.YtleacijhpkogpabDoor.RLawH2
/- Parts of a function's code, taken out of the translation by their places: for great functions that are walked in several theorems. -/
namespace Go.Proofs.YtleacijhpkogpabDoor.Part
open Go

/-- The 'if' whose test lies in a slot. -/
def condAt (s : Nat) : Code → Option Code
  | .cond c a b => (match c with | .tmp k => if k = s then some (.cond c a b) else (condAt s a).or (condAt s b) | _ => (condAt s a).or (condAt s b))
  | .seq a b => (condAt s a).or (condAt s b)
  | .block _ c => condAt s c
  | .loop c => condAt s c
  | .scope c => condAt s c
  | _ => none
/-- From a region on, to the end of its sequence. -/
def seqAt (n : Nat) : Code → Option Code
  | .seq a b => (match a with | .region k ops d => if k = n then some (.seq (.region k ops d) b) else (seqAt n a).or (seqAt n b) | _ => (seqAt n a).or (seqAt n b))
  | .cond _ a b => (seqAt n a).or (seqAt n b)
  | .block _ c => seqAt n c
  | .loop c => seqAt n c
  | .scope c => seqAt n c
  | _ => none
/-- A region alone. -/
def regAt (n : Nat) : Code → Option Code
  | .region k ops d => if k = n then some (.region k ops d) else none
  | .seq a b => (regAt n a).or (regAt n b)
  | .cond _ a b => (regAt n a).or (regAt n b)
  | .block _ c => regAt n c
  | .loop c => regAt n c
  | .scope c => regAt n c
  | _ => none
/-- The first region of a part. -/
def headReg : Code → Option Nat
  | .region k _ _ => some k
  | .seq a _ => headReg a
  | _ => none
/-- All that begins with a region. -/
def fromAt (n : Nat) : Code → Option Code
  | .seq a b => if headReg a = some n then some (.seq a b) else (fromAt n a).or (fromAt n b)
  | .cond _ a b => (fromAt n a).or (fromAt n b)
  | .block _ c => fromAt n c
  | .loop c => fromAt n c
  | .scope c => fromAt n c
  | _ => none
noncomputable def fromOf (f : Func) (n : Nat) : Code := (f.body.bind (fromAt n)).getD .skip
noncomputable def condOf (f : Func) (s : Nat) : Code := (f.body.bind (condAt s)).getD .skip
noncomputable def seqOf (f : Func) (n : Nat) : Code := (f.body.bind (seqAt n)).getD .skip
noncomputable def regOf (f : Func) (n : Nat) : Code := (f.body.bind (regAt n)).getD .skip
/-- A walk stands where a sequence begins with a region. -/
theorem at_seq (n : Nat) {P : Program} {ops : Array Oper} {d : Bool} {b : Code} {Q : Exit → Act → World → Prop} {a : Act} {w : World}
    (h : Code.wp P (.seq (.region n ops d) b) Q a w) : Code.wp P (.seq (.region n ops d) b) Q a w := h
/-- .. where a region stands. -/
theorem at_reg (n : Nat) {P : Program} {ops : Array Oper} {d : Bool} {Q : Exit → Act → World → Prop} {a : Act} {w : World}
    (h : Code.wp P (.region n ops d) Q a w) : Code.wp P (.region n ops d) Q a w := h
/-- .. where an 'if' stands. -/
theorem at_if (n : Nat) {P : Program} {x y : Code} {Q : Exit → Act → World → Prop} {a : Act} {w : World}
    (h : Code.wp P (.cond (.tmp n) x y) Q a w) : Code.wp P (.cond (.tmp n) x y) Q a w := h
end Go.Proofs.YtleacijhpkogpabDoor.Part
