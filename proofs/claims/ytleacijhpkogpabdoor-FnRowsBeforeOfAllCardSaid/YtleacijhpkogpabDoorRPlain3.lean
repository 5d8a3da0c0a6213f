/- Plain laws of rows, third part: what a tick does place by place, how many ticks there are at most, the row at rest, rows and their numbers. -/
import Derived.Test.YtleacijhpkogpabDoorRPlain
namespace Go.Proofs.YtleacijhpkogpabDoor.RPlain
open Go.RowKit
set_option linter.unusedVariables false
set_option linter.unusedSimpArgs false

/-- All look to a side. -/
def Al (l : List UInt8) : Prop := ∀ b ∈ l, b = 60 ∨ b = 62
theorem al_of {l : List UInt8} (h : l.all (fun b => b == 60 || b == 62) = true) : Al l := by
  intro b hb
  have := List.all_eq_true.1 h b hb
  simpa using this
theorem al_row {l : List UInt8} (h : rowB (bs l) = true) : Al l := al_of (rowB_all h)
theorem row_al {l : List UInt8} (h : Al l) (h1 : 1 ≤ l.length) (h2 : l.length ≤ 60) : rowB (bs l) = true := by
  unfold rowB
  simp only [Bool.and_eq_true, decide_eq_true_eq]
  refine ⟨⟨h1, h2⟩, ?_⟩
  rw [List.all_eq_true]
  intro b hb
  have := h b hb
  simpa using this
theorem al_tail {a : UInt8} {l : List UInt8} (h : Al (a :: l)) : Al l := fun b hb => h b (List.mem_cons_of_mem _ hb)
theorem al_head {a : UInt8} {l : List UInt8} (h : Al (a :: l)) : a = 60 ∨ a = 62 := h a (List.mem_cons_self ..)
theorem two_and {a b : UInt8} (c : ¬ (a = 62 ∧ b = 60)) : ¬ (a == 62 && b == 60) = true := by
  intro h
  simp only [Bool.and_eq_true, beq_iff_eq] at h
  exact c h
theorem al_tk : ∀ l : List UInt8, Al l → Al (tkB l)
  | [], h => h
  | [_], h => h
  | a :: b :: t, h => by
    rw [tkB]
    split
    · have ih := al_tk t (al_tail (al_tail h))
      intro x hx
      rcases List.mem_cons.1 hx with rfl | hx
      · exact .inl rfl
      · rcases List.mem_cons.1 hx with rfl | hx
        · exact .inr rfl
        · exact ih x hx
    · have ih := al_tk (b :: t) (al_tail h)
      intro x hx
      rcases List.mem_cons.1 hx with rfl | hx
      · exact al_head h
      · exact ih x hx

/-! pairs and turns -/
theorem inv_tk_prs : ∀ (i : Nat) (l : List UInt8), invB (tkB l) + (prs i l).length = invB l
  | i, [] => by simp [tkB, prs, invB]
  | i, [a] => by simp [tkB, prs, invB]
  | i, a :: b :: t => by
    rw [tkB, prs]
    by_cases c : a = 62 ∧ b = 60
    · obtain ⟨rfl, rfl⟩ := c
      have ih := inv_tk_prs (i + 1 + 1) t
      have hn := n60_tk t
      rw [if_pos (by decide), if_pos ⟨rfl, rfl⟩, prs_60, List.length_cons]
      have e1 : invB (60 :: 62 :: tkB t) = n60 (tkB t) + invB (tkB t) := by simp [invB]
      have e2 : invB (62 :: 60 :: t) = n60 t + 1 + invB t := by simp [invB, n60]
      rw [e1, e2, hn]; omega
    · rw [if_neg (two_and c), if_neg c]
      have ih := inv_tk_prs (i + 1) (b :: t)
      have hn := n60_tk (b :: t)
      rw [invB, show invB (a :: b :: t) = (if a = 62 then n60 (b :: t) else 0) + invB (b :: t) from rfl, hn]; omega

/-! place by place -/
def fc (l : List UInt8) (i : Nat) : Prop := l[i]? = some 62 ∧ l[i + 1]? = some 60
instance (l : List UInt8) (i : Nat) : Decidable (fc l i) := inferInstanceAs (Decidable (_ ∧ _))
theorem fc_cons (a : UInt8) (l : List UInt8) (i : Nat) : fc (a :: l) (i + 1) ↔ fc l i := by simp [fc]
theorem tkB_get : ∀ (l : List UInt8) (i : Nat), (tkB l)[i]? = if fc l i then some 60 else if 0 < i ∧ fc l (i - 1) then some 62 else l[i]?
  | [], i => by simp [tkB, fc]
  | [a], 0 => by simp [tkB, fc]
  | [a], i + 1 => by simp [tkB, fc]
  | a :: b :: t, i => by
    rw [tkB]
    by_cases c : a = 62 ∧ b = 60
    · obtain ⟨rfl, rfl⟩ := c
      rw [if_pos (by decide)]
      match i with
      | 0 => simp [fc]
      | 1 => simp [fc]
      | 2 =>
        have ih := tkB_get t 0
        have e1 : fc (62 :: 60 :: t) 2 ↔ fc t 0 := by simp [fc]
        have e2 : ¬ fc (62 :: 60 :: t) 1 := by simp [fc]
        simp only [List.getElem?_cons_succ, ih, e1]
        simp [e2]
      | k + 3 =>
        have ih := tkB_get t (k + 1)
        have e1 : fc (62 :: 60 :: t) (k + 3) ↔ fc t (k + 1) := by simp [fc]
        have e2 : fc (62 :: 60 :: t) (k + 2) ↔ fc t k := by simp [fc]
        simp only [List.getElem?_cons_succ, ih, e1]
        simp [e2]
    · rw [if_neg (two_and c)]
      match i with
      | 0 =>
        have e : ¬ fc (a :: b :: t) 0 := by simpa [fc] using c
        simp [e]
      | 1 =>
        have ih := tkB_get (b :: t) 0
        have e1 : fc (a :: b :: t) 1 ↔ fc (b :: t) 0 := by simp [fc]
        have e2 : ¬ fc (a :: b :: t) 0 := by simpa [fc] using c
        simp only [List.getElem?_cons_succ, ih, e1]
        simp [e2]
      | k + 2 =>
        have ih := tkB_get (b :: t) (k + 1)
        have e1 : fc (a :: b :: t) (k + 2) ↔ fc (b :: t) (k + 1) := by simp [fc]
        have e2 : fc (a :: b :: t) (k + 1) ↔ fc (b :: t) k := by simp [fc]
        simp only [List.getElem?_cons_succ, ih, e1]
        simp [e2]
theorem fc_lt {l : List UInt8} {i : Nat} (h : fc l i) : i + 1 < l.length := by
  have := h.2
  rcases Nat.lt_or_ge (i + 1) l.length with h1 | h1
  · exact h1
  · rw [List.getElem?_eq_none h1] at this; cases this
theorem prs_mem_iff : ∀ (l : List UInt8) (i : Nat) (x : Int), x ∈ prs i l ↔ ∃ j : Nat, x = ((i + j : Nat) : Int) ∧ fc l j
  | [], i, x => by simp [prs, fc]
  | [a], i, x => by simp [prs, fc]
  | a :: b :: t, i, x => by
    have ih := prs_mem_iff (b :: t) (i + 1) x
    have hs : (∃ j : Nat, x = ((i + j : Nat) : Int) ∧ fc (a :: b :: t) j) ↔ (x = (i : Int) ∧ (a = 62 ∧ b = 60)) ∨ ∃ j : Nat, x = ((i + 1 + j : Nat) : Int) ∧ fc (b :: t) j := by
      constructor
      · rintro ⟨j, h1, h2⟩
        cases j with
        | zero => exact .inl ⟨by simpa using h1, by simpa [fc] using h2⟩
        | succ j => exact .inr ⟨j, by rw [h1]; omega, (fc_cons a (b :: t) j).1 h2⟩
      · rintro (⟨h1, h2⟩ | ⟨j, h1, h2⟩)
        · exact ⟨0, by simpa using h1, by simpa [fc] using h2⟩
        · exact ⟨j + 1, by rw [h1]; omega, (fc_cons a (b :: t) j).2 h2⟩
    rw [hs, ← ih, prs]
    by_cases c : a = 62 ∧ b = 60
    · rw [if_pos c, List.mem_cons]; simp [c]
    · rw [if_neg c]; simp [c]
theorem prs_lt : ∀ (l : List UInt8) (i : Nat), (prs i l).Pairwise (· < ·)
  | [], i => by simp [prs]
  | [a], i => by simp [prs]
  | a :: b :: t, i => by
    have ih := prs_lt (b :: t) (i + 1)
    rw [prs]
    by_cases c : a = 62 ∧ b = 60
    · rw [if_pos c, List.pairwise_cons]
      refine ⟨fun x hx => ?_, ih⟩
      obtain ⟨j, rfl, _⟩ := (prs_mem_iff _ _ _).1 hx
      omega
    · rw [if_neg c]; exact ih

/-! how many ticks -/
def phi : Nat → Nat → List UInt8 → Nat
  | _, t, [] => t
  | r, t, a :: l => if a = 62 then phi (r + 1) t l else phi r (if r = 0 then t else max (t + 1) r) l
theorem phi_62 (r t : Nat) (l : List UInt8) : phi r t (62 :: l) = phi (r + 1) t l := by rw [phi, if_pos rfl]
theorem phi_60 (r t : Nat) (l : List UInt8) : phi r t (60 :: l) = phi r (if r = 0 then t else max (t + 1) r) l := by rw [phi, if_neg (by decide)]
theorem phi_ge : ∀ (l : List UInt8) (r t : Nat), t ≤ phi r t l
  | [], _, _ => Nat.le_refl _
  | a :: l, r, t => by
    rw [phi]
    split
    · exact phi_ge l _ _
    · refine Nat.le_trans ?_ (phi_ge l _ _)
      split <;> omega
theorem phi_pos : ∀ (l : List UInt8) (r t : Nat), Al l → hasB l = true → 0 < phi r t l
  | [], _, _, _, h => by simp [hasB] at h
  | [_], _, _, _, h => by simp [hasB] at h
  | a :: b :: l, r, t, hA, h => by
    by_cases c : a = 62 ∧ b = 60
    · obtain ⟨rfl, rfl⟩ := c
      rw [phi_62, phi_60, if_neg (by omega)]
      have := phi_ge l (r + 1) (max (t + 1) (r + 1))
      omega
    · have hh : hasB (a :: b :: l) = hasB (b :: l) := by rw [hasB, Bool.eq_false_iff.mpr (two_and c), Bool.false_or]
      rw [hh] at h
      rw [phi]
      split
      · exact phi_pos (b :: l) _ _ (al_tail hA) h
      · exact phi_pos (b :: l) _ _ (al_tail hA) h
theorem phi_tk : ∀ (l : List UInt8) (r t u : Nat), Al l → (u + 1 ≤ t ∨ (t = 0 ∧ u = 0)) → (l.head? = some 60 → r ≤ t) →
    phi r u (tkB l) + 1 ≤ phi r t l ∨ (phi r t l = 0 ∧ phi r u (tkB l) = 0)
  | [], r, t, u, _, h, _ => h
  | [a], r, t, u, hA, h, hh => by
    show phi r u [a] + 1 ≤ phi r t [a] ∨ (phi r t [a] = 0 ∧ phi r u [a] = 0)
    rcases al_head hA with rfl | rfl
    · rw [phi_60, phi_60]
      have := hh rfl
      simp only [phi]
      split <;> omega
    · rw [phi_62, phi_62]; exact h
  | a :: b :: l, r, t, u, hA, h, hh => by
    rw [tkB]
    by_cases c : a = 62 ∧ b = 60
    · obtain ⟨rfl, rfl⟩ := c
      rw [if_pos (by decide), phi_62, phi_60, phi_60, phi_62, if_neg (show ¬ r + 1 = 0 by omega)]
      refine phi_tk l (r + 1) _ _ (al_tail (al_tail hA)) (.inl ?_) (fun _ => by omega)
      split <;> omega
    · rw [if_neg (two_and c)]
      rcases al_head hA with rfl | rfl
      · rw [phi_60, phi_60]
        have h1 := hh rfl
        refine phi_tk (b :: l) r _ _ (al_tail hA) ?_ (fun _ => ?_)
        · split <;> omega
        · split <;> omega
      · rw [phi_62, phi_62]
        refine phi_tk (b :: l) (r + 1) t u (al_tail hA) h (fun hb => ?_)
        exact absurd ⟨rfl, by simpa using hb⟩ c
theorem phi_b : ∀ (l : List UInt8) (r t B : Nat), 0 < r → t + 1 ≤ B → r ≤ B → phi r t l + 1 ≤ B + l.length
  | [], r, t, B, _, h, _ => by rw [phi, List.length_nil]; omega
  | a :: l, r, t, B, h0, h1, h2 => by
    rw [phi, List.length_cons]
    split
    · have := phi_b l (r + 1) t (B + 1) (by omega) (by omega) (by omega); omega
    · have := phi_b l r (if r = 0 then t else max (t + 1) r) (B + 1) h0 (by split <;> omega) (by omega); omega
theorem phi_le : ∀ (l : List UInt8), phi 0 0 l ≤ l.length - 1
  | [] => by simp [phi]
  | a :: l => by
    have ih := phi_le l
    rw [phi, List.length_cons]
    split
    · have := phi_b l 1 0 1 (by omega) (by omega) (by omega)
      rw [Nat.zero_add]; omega
    · rw [if_pos rfl]; omega
theorem hist_phi : ∀ (m : Nat) (l : List UInt8), Al l → phi 0 0 l ≤ m → (histL l).2.length ≤ m := by
  intro m
  induction m with
  | zero =>
    intro l hA h
    cases c : hasB l with
    | true => have := phi_pos l 0 0 hA c; omega
    | false => rw [histL_rest c]; simp
  | succ m ih =>
    intro l hA h
    cases c : hasB l with
    | true =>
      have h1 := phi_pos l 0 0 hA c
      have h2 := phi_tk l 0 0 0 hA (.inr ⟨rfl, rfl⟩) (fun _ => Nat.le_refl _)
      have h3 := ih (tkB l) (al_tk l hA) (by omega)
      rw [histL_step c, List.length_cons]; omega
    | false => rw [histL_rest c]; simp
theorem ticks_le (l : List UInt8) (hA : Al l) : (histL l).2.length ≤ l.length - 1 := hist_phi _ l hA (phi_le l)
theorem ticks_zero (l : List UInt8) : (histL l).2.length = 0 ↔ hasB l = false := by
  cases c : hasB l with
  | true => rw [histL_step c]; simp
  | false => rw [histL_rest c]; simp
theorem ticks_tk (l : List UInt8) : (histL (tkB l)).2.length = (histL l).2.length - 1 := by
  cases c : hasB l with
  | true => rw [histL_step c]; simp
  | false =>
    have e : tkB l = l := tk_miss l (by
      have := index_two l
      rw [c] at this
      have h2 := Lib.index_ge l [62, 60]
      have h3 := of_decide_eq_false this
      omega)
    rw [e, histL_rest c]; rfl
theorem tk_same {l : List UInt8} (c : hasB l = false) : tkB l = l := tk_miss l (by
  have := index_two l
  rw [c] at this
  have h2 := Lib.index_ge l [62, 60]
  have h3 := of_decide_eq_false this
  omega)
theorem ticks_inv (l : List UInt8) : (histL l).2.length ≤ invB l := hist_le _ l (Nat.le_refl _)

/-! the row at rest -/
theorem rest_form : ∀ l : List UInt8, Al l → hasB l = false → l = List.replicate (n60 l) 60 ++ List.replicate (l.length - n60 l) 62
  | [], _, _ => rfl
  | [a], hA, _ => by
    rcases al_head hA with rfl | rfl <;> rfl
  | a :: b :: t, hA, h => by
    have hb : hasB (b :: t) = false := by
      rw [hasB, Bool.or_eq_false_iff] at h; exact h.2
    have ih := rest_form (b :: t) (al_tail hA) hb
    rcases al_head hA with rfl | rfl
    · have e : n60 (60 :: b :: t) = n60 (b :: t) + 1 := by simp [n60]
      rw [e, List.length_cons, List.replicate_succ, List.cons_append, show (b :: t).length + 1 - (n60 (b :: t) + 1) = (b :: t).length - n60 (b :: t) by omega, ← ih]
    · have hb62 : b = 62 := by
        rw [hasB, Bool.or_eq_false_iff] at h
        rcases al_head (al_tail hA) with rfl | rfl
        · exact absurd h.1 (by decide)
        · rfl
      subst hb62
      have e0 : n60 (62 :: t) = 0 := by
        cases hn : n60 (62 :: t) with
        | zero => rfl
        | succ k =>
          rw [hn, List.replicate_succ, List.cons_append] at ih
          injection ih with h1 _
          exact absurd h1 (by decide)
      have e1 : n60 (62 :: 62 :: t) = 0 := by
        have : n60 (62 :: 62 :: t) = n60 (62 :: t) := by simp [n60]
        rw [this, e0]
      rw [e0] at ih
      rw [e1, List.length_cons, Nat.sub_zero, List.replicate_succ, List.replicate_zero, List.nil_append]
      rw [Nat.sub_zero, List.replicate_zero, List.nil_append] at ih
      rw [← ih]
theorem hist_rest : ∀ (m : Nat) (l : List UInt8), Al l → invB l ≤ m → hasB (histL l).1 = false ∧ Al (histL l).1 ∧ n60 (histL l).1 = n60 l := by
  intro m
  induction m with
  | zero =>
    intro l hA h
    cases c : hasB l with
    | true => have := (inv_tk l).2 c; omega
    | false => rw [histL_rest c]; exact ⟨c, hA, rfl⟩
  | succ m ih =>
    intro l hA h
    cases c : hasB l with
    | true =>
      have h1 := (inv_tk l).2 c
      have h2 := ih (tkB l) (al_tk l hA) (by omega)
      rw [histL_step c]
      exact ⟨h2.1, h2.2.1, h2.2.2.trans (n60_tk l)⟩
    | false => rw [histL_rest c]; exact ⟨c, hA, rfl⟩
theorem rest_is (l : List UInt8) (hA : Al l) : (histL l).1 = List.replicate (n60 l) 60 ++ List.replicate (l.length - n60 l) 62 := by
  have h := hist_rest _ l hA (Nat.le_refl _)
  have e := rest_form _ h.2.1 h.1
  rw [h.2.2, hist_len _ l (Nat.le_refl _)] at e
  exact e
theorem rest_same (l : List UInt8) : (histL l).1 = l ↔ hasB l = false := by
  constructor
  · intro h
    cases c : hasB l with
    | false => rfl
    | true =>
      exfalso
      have key : ∀ (m : Nat) (l : List UInt8), invB l ≤ m → hasB (histL l).1 = false := by
        intro m
        induction m with
        | zero =>
          intro l h
          cases c : hasB l with
          | true => have := (inv_tk l).2 c; omega
          | false => rw [histL_rest c]; exact c
        | succ m ih =>
          intro l h
          cases c : hasB l with
          | true => have h1 := (inv_tk l).2 c; rw [histL_step c]; exact ih (tkB l) (by omega)
          | false => rw [histL_rest c]; exact c
      have := key _ l (Nat.le_refl _)
      rw [h, c] at this
      cases this
  · intro h; rw [histL_rest h]

/-! so many ticks -/
def aftL (l : List UInt8) : Nat → List UInt8
  | 0 => l
  | k + 1 => aftL (tkB l) k
theorem aft_rest {l : List UInt8} (h : hasB l = false) : ∀ k, aftL l k = l
  | 0 => rfl
  | k + 1 => by rw [aftL, tk_same h]; exact aft_rest h k
theorem aft_succ : ∀ (k : Nat) (l : List UInt8), aftL l (k + 1) = tkB (aftL l k)
  | 0, _ => rfl
  | k + 1, l => by rw [aftL, aft_succ k (tkB l)]; rfl
theorem aft_len : ∀ (k : Nat) (l : List UInt8), (aftL l k).length = l.length
  | 0, _ => rfl
  | k + 1, l => (aft_len k (tkB l)).trans (tkB_len l)
theorem aft_al : ∀ (k : Nat) (l : List UInt8), Al l → Al (aftL l k)
  | 0, _, h => h
  | k + 1, l, h => aft_al k (tkB l) (al_tk l h)

/-! rows and their numbers -/
def bitB (b : UInt8) : Nat := if b = 62 then 1 else 0
def numL (l : List UInt8) : Nat := l.foldl (fun n b => 2 * n + bitB b) 0
theorem num_snoc (l : List UInt8) (b : UInt8) : numL (l ++ [b]) = 2 * numL l + bitB b := by
  unfold numL; rw [List.foldl_append]; rfl
theorem mkL_succ (n v : Nat) : mkL (n + 1) v = mkL n (v / 2) ++ [UInt8.ofNat (sgn v)] := by
  unfold mkL; rw [mk, List.map_append]; rfl
theorem bit_sgn (v : Nat) : bitB (UInt8.ofNat (sgn v)) = v % 2 := by
  unfold sgn bitB
  rcases Nat.mod_two_eq_zero_or_one v with h | h
  · rw [h, if_neg (by decide)]; try decide
  · rw [h, if_pos rfl]; try decide
theorem num_mk : ∀ (n v : Nat), v < 2 ^ n → numL (mkL n v) = v
  | 0, v, h => by
    have : v = 0 := by simpa using h
    subst this; rfl
  | n + 1, v, h => by
    rw [mkL_succ, num_snoc, num_mk n (v / 2) (by rw [Nat.pow_succ] at h; omega), bit_sgn]
    omega
theorem num_lt : ∀ (n : Nat) (l : List UInt8), l.length = n → numL l < 2 ^ n := by
  intro n
  induction n with
  | zero => intro l h; rw [List.eq_nil_of_length_eq_zero h]; decide
  | succ n ih =>
    intro l h
    have hne : l ≠ [] := by intro e; rw [e] at h; cases h
    rw [← List.dropLast_concat_getLast hne, num_snoc, Nat.pow_succ]
    have h1 := ih l.dropLast (by rw [List.length_dropLast]; omega)
    have h2 : bitB (l.getLast hne) ≤ 1 := by unfold bitB; split <;> omega
    omega
theorem mk_num : ∀ (n : Nat) (l : List UInt8), l.length = n → Al l → mkL n (numL l) = l := by
  intro n
  induction n with
  | zero => intro l h _; rw [List.eq_nil_of_length_eq_zero h]; rfl
  | succ n ih =>
    intro l h hA
    have hne : l ≠ [] := by intro e; rw [e] at h; cases h
    have e := (List.dropLast_concat_getLast hne).symm
    have h2 : bitB (l.getLast hne) ≤ 1 := by unfold bitB; split <;> omega
    have hl := hA _ (List.getLast_mem hne)
    have h1 := ih l.dropLast (by rw [List.length_dropLast]; omega) (fun b hb => hA b (List.dropLast_subset l hb))
    have en : numL l = 2 * numL l.dropLast + bitB (l.getLast hne) := by
      conv => lhs; rw [e]
      exact num_snoc _ _
    rw [en, mkL_succ, show (2 * numL l.dropLast + bitB (l.getLast hne)) / 2 = numL l.dropLast by omega, h1]
    conv => rhs; rw [e]
    congr 2
    unfold sgn
    rw [show (2 * numL l.dropLast + bitB (l.getLast hne)) % 2 = bitB (l.getLast hne) by omega]
    rcases hl with h | h <;> rw [h] <;> rfl
theorem al_mk : ∀ (n v : Nat), Al (mkL n v)
  | 0, _ => fun b hb => by cases hb
  | n + 1, v => by
    intro b hb
    rw [mkL_succ] at hb
    rcases List.mem_append.1 hb with h | h
    · exact al_mk n _ b h
    · have : b = UInt8.ofNat (sgn v) := by simpa using h
      rw [this]; unfold sgn
      split
      · exact .inr rfl
      · exact .inl rfl
theorem tks_n (n v : Nat) : tks n v ≤ n - 1 := by
  have := ticks_le (mkL n v) (al_mk n v)
  rw [mkL_len] at this
  exact this

/-! how many rest -/
theorem has_62 : ∀ l : List UInt8, hasB (l ++ [62]) = hasB l
  | [] => rfl
  | [a] => by simp [hasB]
  | a :: b :: t => by
    have := has_62 (b :: t)
    rw [List.cons_append] at this
    rw [List.cons_append, List.cons_append, hasB, this, hasB]
theorem has_60 : ∀ l : List UInt8, Al l → (hasB (l ++ [60]) = false ↔ ∀ b ∈ l, b = 60)
  | [], _ => by simp [hasB]
  | [a], h => by
    rcases al_head h with rfl | rfl <;> simp [hasB]
  | a :: b :: t, h => by
    have ih := has_60 (b :: t) (al_tail h)
    rw [List.cons_append] at ih
    rw [List.cons_append, List.cons_append, hasB, Bool.or_eq_false_iff, ih]
    constructor
    · rintro ⟨h1, h2⟩ x hx
      rcases List.mem_cons.1 hx with rfl | hx
      · rcases al_head h with h3 | h3
        · exact h3
        · have := h2 b (List.mem_cons_self ..)
          rw [h3, this] at h1
          exact absurd h1 (by decide)
      · exact h2 x hx
    · intro h2
      refine ⟨?_, fun x hx => h2 x (List.mem_cons_of_mem _ hx)⟩
      rw [h2 a (List.mem_cons_self ..)]; simp
theorem num_all : ∀ (n : Nat) (l : List UInt8), l.length = n → (∀ b ∈ l, b = 60) → numL l = 0 := by
  intro n l _ h
  have e : l = List.replicate l.length 60 := List.eq_replicate_of_mem h
  rw [e]
  generalize l.length = m
  induction m with
  | zero => rfl
  | succ m ih => rw [List.replicate_succ', num_snoc, ih]; rfl
theorem mk_zero : ∀ n : Nat, ∀ b ∈ mkL n 0, b = 60
  | 0, b, h => by cases h
  | n + 1, b, h => by
    rw [mkL_succ] at h
    rcases List.mem_append.1 h with h | h
    · exact mk_zero n b h
    · simpa [sgn] using h
/-- How many of the first rows rest. -/
def rc (n : Nat) : Nat → Nat
  | 0 => 0
  | v + 1 => rc n v + if hasB (mkL n v) = false then 1 else 0
theorem rc_double (n : Nat) : ∀ V, V ≤ 2 ^ n → rc (n + 1) (2 * V) = rc n V + if 0 < V then 1 else 0
  | 0, _ => rfl
  | V + 1, h => by
    have ih := rc_double n V (by omega)
    have e0 : mkL (n + 1) (2 * V) = mkL n V ++ [60] := by
      rw [mkL_succ, show 2 * V / 2 = V by omega]
      congr 2; unfold sgn; rw [if_neg (by omega)]; rfl
    have e1 : mkL (n + 1) (2 * V + 1) = mkL n V ++ [62] := by
      rw [mkL_succ, show (2 * V + 1) / 2 = V by omega]
      congr 2; unfold sgn; rw [if_pos (by omega)]; rfl
    have hz : hasB (mkL n V ++ [60]) = false ↔ V = 0 := by
      rw [has_60 _ (al_mk n V)]
      constructor
      · intro h2
        have := num_all n _ (mkL_len n V) h2
        rw [num_mk n V (by omega)] at this
        exact this
      · rintro rfl; exact mk_zero n
    rw [show 2 * (V + 1) = 2 * V + 1 + 1 by omega, rc, rc, e1, e0, has_62, ih, rc]
    by_cases c : V = 0
    · rw [if_pos (hz.2 c), if_neg (show ¬ 0 < V by omega), if_pos (show 0 < V + 1 by omega)]; omega
    · rw [if_neg (fun h3 => c (hz.1 h3)), if_pos (show 0 < V by omega), if_pos (show 0 < V + 1 by omega)]; omega
theorem rc_all : ∀ n, rc n (2 ^ n) = n + 1
  | 0 => by decide
  | n + 1 => by
    rw [Nat.pow_succ, Nat.mul_comm, rc_double n _ (Nat.le_refl _), rc_all n, if_pos (Nat.two_pow_pos n)]
theorem cN_rest (n : Nat) : ∀ V, cN (tks n) V 0 = rc n V
  | 0 => rfl
  | V + 1 => by
    rw [cN, rc, cN_rest n V]
    have := ticks_zero (mkL n V)
    change tks n V = 0 ↔ _ at this
    by_cases c : hasB (mkL n V) = false
    · rw [if_pos (show tks n V = 0 from this.2 c), if_pos c]
    · rw [if_neg (fun h => c (this.1 h)), if_neg c]

/-! sums over the counts -/
def sC (T : Nat → Nat) (V : Nat) : Nat → Nat
  | 0 => 0
  | t + 1 => sC T V t + cN T V t
def sW (T : Nat → Nat) (V : Nat) : Nat → Nat
  | 0 => 0
  | t + 1 => sW T V t + t * cN T V t
theorem sC_step (T : Nat → Nat) (V : Nat) : ∀ B, sC T (V + 1) B = sC T V B + if T V < B then 1 else 0
  | 0 => rfl
  | B + 1 => by
    rw [sC, sC_step T V B, sC, cN]
    by_cases c : T V < B
    · rw [if_pos c, if_neg (by omega), if_pos (by omega)]; omega
    · by_cases d : T V = B
      · rw [if_neg c, if_pos d, if_pos (by omega)]; omega
      · rw [if_neg c, if_neg d, if_neg (by omega)]; omega
theorem sC_zero (T : Nat → Nat) : ∀ B, sC T 0 B = 0
  | 0 => rfl
  | B + 1 => by rw [sC, sC_zero T B]; rfl
theorem sC_all (T : Nat → Nat) (B : Nat) : ∀ V, (∀ v, v < V → T v < B) → sC T V B = V
  | 0, _ => sC_zero T B
  | V + 1, h => by rw [sC_step, sC_all T B V (fun v hv => h v (by omega)), if_pos (h V (by omega))]
theorem sW_step (T : Nat → Nat) (V : Nat) : ∀ B, sW T (V + 1) B = sW T V B + if T V < B then T V else 0
  | 0 => rfl
  | B + 1 => by
    rw [sW, sW_step T V B, sW, cN, Nat.mul_add]
    by_cases c : T V < B
    · rw [if_pos c, if_neg (by omega), if_pos (by omega)]; omega
    · by_cases d : T V = B
      · rw [if_neg c, if_pos d, if_pos (by omega)]; omega
      · rw [if_neg c, if_neg d, if_neg (by omega)]; omega
theorem sW_zero (T : Nat → Nat) : ∀ B, sW T 0 B = 0
  | 0 => rfl
  | B + 1 => by rw [sW, sW_zero T B]; simp [cN]
theorem sW_all (T : Nat → Nat) (B : Nat) : ∀ V, (∀ v, v < V → T v < B) → sW T V B = sumT T V
  | 0, _ => sW_zero T B
  | V + 1, h => by rw [sW_step, sW_all T B V (fun v hv => h v (by omega)), if_pos (h V (by omega)), sumT]
/-! the rows from which a tick leads to a row, in order -/
theorem less_same : ∀ (a x y : List UInt8), Go.Op.bytesLess (a ++ x) (a ++ y) = Go.Op.bytesLess x y
  | [], _, _ => rfl
  | a :: l, x, y => by
    rw [List.cons_append, List.cons_append, Go.Op.bytesLess, less_same l x y]
    simp
theorem less_app : ∀ (a b x y : List UInt8), a.length = b.length → Go.Op.bytesLess a b = true → Go.Op.bytesLess (a ++ x) (b ++ y) = true
  | [], [], _, _, _, h => by simp [Go.Op.bytesLess] at h
  | a :: l, b :: m, x, y, hl, h => by
    rw [Go.Op.bytesLess, Bool.or_eq_true] at h
    rw [List.cons_append, List.cons_append, Go.Op.bytesLess, Bool.or_eq_true]
    rcases h with h | h
    · exact .inl h
    · rw [Bool.and_eq_true] at h ⊢
      exact .inr ⟨h.1, less_app l m x y (by simpa using hl) h.2⟩
theorem less_mk : ∀ (n u v : Nat), u < v → v < 2 ^ n → Go.Op.bytesLess (mkL n u) (mkL n v) = true
  | 0, u, v, h, h2 => by
    have : v = 0 := by simpa using h2
    omega
  | n + 1, u, v, h, h2 => by
    rw [Nat.pow_succ] at h2
    rw [mkL_succ, mkL_succ]
    by_cases c : u / 2 < v / 2
    · exact less_app _ _ _ _ (by rw [mkL_len, mkL_len]) (less_mk n (u / 2) (v / 2) c (by omega))
    · rw [show u / 2 = v / 2 by omega, less_same]
      unfold sgn
      rw [if_neg (by omega), if_pos (by omega)]
      decide
theorem bef_mem (l : List UInt8) : ∀ (V : Nat) (x : ByteArray), x ∈ befL l V → ∃ v, v < V ∧ x = bs (mkL l.length v) ∧ tkB (mkL l.length v) = l
  | 0, x, h => by cases h
  | V + 1, x, h => by
    rw [befL, List.mem_append] at h
    rcases h with h | h
    · obtain ⟨v, h1, h2⟩ := bef_mem l V x h
      exact ⟨v, by omega, h2⟩
    · split at h
      · rename_i c
        have e : x = bs (mkL l.length V) := by simpa using h
        refine ⟨V, by omega, e, ?_⟩
        rw [ByteArray.toList_eq, ByteArray.toList_eq] at c
        exact c
      · cases h
theorem bef_lt (l : List UInt8) : ∀ V, V ≤ 2 ^ l.length → (befL l V).Pairwise (fun a b => Go.Op.bytesLess a.toList b.toList = true)
  | 0, _ => List.Pairwise.nil
  | V + 1, h => by
    rw [befL, List.pairwise_append]
    refine ⟨bef_lt l V (by omega), by split <;> simp, fun a ha b hb => ?_⟩
    obtain ⟨v, h1, rfl, _⟩ := bef_mem l V a ha
    split at hb
    · have e : b = bs (mkL l.length V) := by simpa using hb
      rw [e, ByteArray.toList_eq, ByteArray.toList_eq]
      exact less_mk l.length v V h1 (by omega)
    · cases hb
theorem bef_has (l : List UInt8) (v : Nat) (ht : tkB (mkL l.length v) = l) : ∀ V, v < V → bs (mkL l.length v) ∈ befL l V
  | 0, h => by omega
  | V + 1, h => by
    rw [befL, List.mem_append]
    by_cases c : v = V
    · subst c
      refine .inr ?_
      rw [if_pos (by rw [ht])]
      simp
    · exact .inl (bef_has l v ht V (by omega))
theorem bef_self (l : List UInt8) (hA : Al l) (h : hasB l = false) : bs l ∈ befL l (2 ^ l.length) := by
  have e := mk_num l.length l rfl hA
  have := bef_has l (numL l) (by rw [e]; exact tk_same h) (2 ^ l.length) (num_lt _ l rfl)
  rw [e] at this
  exact this
end Go.Proofs.YtleacijhpkogpabDoor.RPlain
