/- Plain laws of rows: what a tick does, how rows come to rest, which number a row has, counts by ticks: lists alone, no program. -/
import Derived.Shelf.Strings.SlTrimAscii
import Derived.Shelf.Strings.Search3
import Derived.Shelf.Strings.Replace
import Derived.WalkKit
namespace Go.Proofs.YtleacijhpkogpabDoor.RPlain
open Go.RowKit
set_option linter.unusedVariables false
set_option linter.unusedSimpArgs false

/-- Is a text a row? -/
def rowB (s : ByteArray) : Bool := decide (1 ≤ s.size) && decide (s.size ≤ 60) && s.data.toList.all (fun b => b == 60 || b == 62)

theorem dropWhile_nil {p : UInt8 → Bool} : ∀ l : List UInt8, (l.dropWhile p).isEmpty = l.all p
  | [] => rfl
  | a :: t => by
    by_cases h : p a = true
    · rw [List.dropWhile_cons_of_pos h, dropWhile_nil t, List.all_cons, h, Bool.true_and]
    · rw [List.dropWhile_cons_of_neg h, List.all_cons, Bool.eq_false_iff.mpr h]; rfl
theorem trimS_all (l : List UInt8) : (Lib.trimS l [60, 62]).isEmpty = l.all (fun b => b == 60 || b == 62) := by
  have hc : (fun b : UInt8 => List.contains [60, 62] b) = fun b => b == 60 || b == 62 := by
    funext b
    simp only [List.contains, List.elem]
    cases h1 : b == 60 <;> cases h2 : b == 62 <;> rfl
  unfold Lib.trimS Lib.trimLeftS Lib.trimRightS
  rw [hc, dropWhile_nil]
  by_cases h : l.all (fun b => b == 60 || b == 62) = true
  · have h2 : (l.reverse.dropWhile fun b => b == 60 || b == 62).isEmpty = true := by
      rw [dropWhile_nil, List.all_reverse]; exact h
    rw [List.isEmpty_iff] at h2
    rw [h2, h]; rfl
  · have hne : ∃ x ∈ l, (x == 60 || x == 62) = false := by
      have h3 := h
      rw [Bool.not_eq_true, List.all_eq_false] at h3
      obtain ⟨x, hx, hp⟩ := h3
      exact ⟨x, hx, by simpa using hp⟩
    rw [Bool.eq_false_iff.mpr h, List.all_eq_false]
    have hr : ∀ t : List UInt8, (∃ x ∈ t, (x == 60 || x == 62) = false) → ∃ x ∈ t.dropWhile (fun b => b == 60 || b == 62), (x == 60 || x == 62) = false := by
      intro t
      induction t with
      | nil => intro ⟨x, hx, _⟩; cases hx
      | cons a t ih =>
        intro ⟨x, hx, hp⟩
        by_cases ha : (a == 60 || a == 62) = true
        · rw [show (a :: t).dropWhile (fun b => b == 60 || b == 62) = t.dropWhile (fun b => b == 60 || b == 62) from List.dropWhile_cons_of_pos (p := fun b => b == 60 || b == 62) ha]
          rcases List.mem_cons.1 hx with rfl | hx
          · rw [ha] at hp; cases hp
          · exact ih ⟨x, hx, hp⟩
        · rw [show (a :: t).dropWhile (fun b => b == 60 || b == 62) = a :: t from List.dropWhile_cons_of_neg (p := fun b => b == 60 || b == 62) ha]
          exact ⟨x, hx, hp⟩
    obtain ⟨x, hx, hp⟩ := hr l.reverse (by obtain ⟨x, hx, hp⟩ := hne; exact ⟨x, by simpa using hx, hp⟩)
    exact ⟨x, by simpa using hx, by simpa using hp⟩

/-- Do two face each other? -/
def hasB : List UInt8 → Bool
  | a :: b :: t => (a == 62 && b == 60) || hasB (b :: t)
  | _ => false
theorem prefix_two (a : UInt8) (l : List UInt8) : [62, 60].isPrefixOf (a :: l) = (a == 62 && (match l with | b :: _ => b == 60 | [] => false)) := by
  have h1 : ((62 : UInt8) == a) = (a == 62) := BEq.comm
  cases l with
  | nil => simp only [List.isPrefixOf, h1]
  | cons b t =>
    have h2 : ((60 : UInt8) == b) = (b == 60) := BEq.comm
    simp only [List.isPrefixOf, Bool.and_true, h1, h2]
theorem index_two : ∀ l : List UInt8, decide (0 ≤ Lib.index l [62, 60]) = hasB l
  | [] => by simp [Lib.index, hasB]
  | [a] => by simp [Lib.index, hasB, prefix_two]
  | a :: b :: t => by
    have ih := index_two (b :: t)
    have hge := Lib.index_ge (b :: t) [62, 60]
    rw [Lib.index, prefix_two]
    simp only [hasB]
    by_cases h : (a == 62 && b == 60) = true
    · rw [if_pos h, h]; simp
    · rw [if_neg h, Bool.eq_false_iff.mpr h, Bool.false_or, ← ih]
      by_cases h2 : Lib.index (b :: t) [62, 60] = -1
      · rw [if_pos (by simp [h2]), h2]
      · rw [if_neg (by simpa using h2)]
        rw [decide_eq_decide]
        omega

/-- All who face each other turn. -/
def tkB : List UInt8 → List UInt8
  | a :: b :: t => if (a == 62 && b == 60) = true then 60 :: 62 :: tkB t else a :: tkB (b :: t)
  | l => l
theorem prefix_two' (a b : UInt8) (t : List UInt8) : [62, 60].isPrefixOf (a :: b :: t) = (a == 62 && b == 60) := by
  have h1 : ((62 : UInt8) == a) = (a == 62) := BEq.comm
  have h2 : ((60 : UInt8) == b) = (b == 60) := BEq.comm
  simp only [List.isPrefixOf, Bool.and_true, h1, h2]
theorem prefix_one (a : UInt8) : [62, 60].isPrefixOf [a] = false := by simp [List.isPrefixOf]
theorem tk_miss : ∀ l : List UInt8, Lib.index l [62, 60] = -1 → tkB l = l
  | [], _ => rfl
  | [a], _ => rfl
  | a :: b :: t, h => by
    have hge := Lib.index_ge (b :: t) [62, 60]
    rw [Lib.index, prefix_two'] at h
    by_cases c : (a == 62 && b == 60) = true
    · rw [if_pos c] at h; omega
    · rw [if_neg c] at h
      have h2 : Lib.index (b :: t) [62, 60] = -1 := by
        by_cases h3 : Lib.index (b :: t) [62, 60] = -1
        · exact h3
        · rw [if_neg (by simpa using h3)] at h; omega
      rw [tkB, if_neg c, tk_miss (b :: t) h2]
theorem tk_hit : ∀ (l : List UInt8) (i : Nat), Lib.index l [62, 60] = (i : Int) → tkB l = l.take i ++ [60, 62] ++ tkB (l.drop (i + 2)) ∧ i + 2 ≤ l.length
  | [], i, h => by
    simp [Lib.index] at h
    try omega
  | [a], i, h => by
    rw [Lib.index, prefix_one] at h
    simp [Lib.index] at h
    try omega
  | a :: b :: t, i, h => by
    have hge := Lib.index_ge (b :: t) [62, 60]
    rw [Lib.index, prefix_two'] at h
    by_cases c : (a == 62 && b == 60) = true
    · rw [if_pos c] at h
      obtain rfl : i = 0 := by omega
      rw [tkB, if_pos c]
      simp
    · rw [if_neg c] at h
      by_cases h3 : Lib.index (b :: t) [62, 60] = -1
      · rw [if_pos (by simp [h3])] at h; omega
      · rw [if_neg (by simpa using h3)] at h
        obtain ⟨j, rfl⟩ : ∃ j, i = j + 1 := ⟨i - 1, by omega⟩
        have ih := tk_hit (b :: t) j (by omega)
        rw [tkB, if_neg c, ih.1]
        refine ⟨by simp, by have := ih.2; simp at this ⊢; omega⟩
theorem tk_replace : ∀ (f : Nat) (l : List UInt8), l.length < f → Lib.replaceK [62, 60] [60, 62] (Lib.countFrom [62, 60] f l) l = tkB l
  | 0, l, h => by omega
  | f + 1, l, h => by
    have hge := Lib.index_ge l [62, 60]
    by_cases h1 : Lib.index l [62, 60] = -1
    · rw [Lib.countFrom, if_pos (by simp [h1]), Lib.replaceK, tk_miss l h1]
    · obtain ⟨i, hi⟩ : ∃ i : Nat, Lib.index l [62, 60] = (i : Int) := ⟨(Lib.index l [62, 60]).toNat, by omega⟩
      have hh := tk_hit l i hi
      rw [Lib.countFrom, if_neg (by simpa using h1), Nat.add_comm, Lib.replaceK_hit _ _ _ _ i hi, hh.1, hi]
      congr 1
      exact tk_replace f (l.drop (i + 2)) (by rw [List.length_drop]; omega)
theorem tk_all (l : List UInt8) : Lib.replaceAll l [62, 60] [60, 62] = tkB l := by
  unfold Lib.replaceAll Lib.replace
  rw [if_neg (by decide)]
  unfold Lib.replaceNum
  rw [if_pos (Or.inl (by decide))]
  exact tk_replace (l.length + 1) l (by omega)

/-- How often a soldier who looks right stands ahead of one who looks left. -/
def n60 (l : List UInt8) : Nat := (l.filter (fun b => b == 60)).length
def invB : List UInt8 → Nat
  | [] => 0
  | a :: t => (if a = 62 then n60 t else 0) + invB t
theorem n60_tk : ∀ l : List UInt8, n60 (tkB l) = n60 l
  | [] => rfl
  | [_] => rfl
  | a :: b :: t => by
    rw [tkB]
    split
    · rename_i h
      simp only [Bool.and_eq_true, beq_iff_eq] at h
      obtain ⟨rfl, rfl⟩ := h
      have := n60_tk t
      simp only [n60] at this ⊢
      simp [this]
    · have := n60_tk (b :: t)
      simp only [n60, List.filter_cons] at this ⊢
      split <;> simp_all
theorem inv_tk : ∀ l : List UInt8, invB (tkB l) ≤ invB l ∧ (hasB l = true → invB (tkB l) < invB l)
  | [] => ⟨Nat.le_refl _, fun h => by simp [hasB] at h⟩
  | [_] => ⟨Nat.le_refl _, fun h => by simp [hasB] at h⟩
  | a :: b :: t => by
    rw [tkB]
    split
    · rename_i h
      simp only [Bool.and_eq_true, beq_iff_eq] at h
      obtain ⟨rfl, rfl⟩ := h
      have ih := inv_tk t
      have hn := n60_tk t
      have e1 : invB (60 :: 62 :: tkB t) = n60 (tkB t) + invB (tkB t) := by simp [invB]
      have e2 : invB (62 :: 60 :: t) = n60 t + 1 + invB t := by simp [invB, n60]
      have h1 := ih.1
      rw [e1, e2, hn]
      exact ⟨by omega, fun _ => by omega⟩
    · rename_i h
      have ih := inv_tk (b :: t)
      have hn := n60_tk (b :: t)
      have hh : hasB (a :: b :: t) = hasB (b :: t) := by rw [hasB, Bool.eq_false_iff.mpr h, Bool.false_or]
      rw [hh, invB, show invB (a :: b :: t) = (if a = 62 then n60 (b :: t) else 0) + invB (b :: t) from rfl, hn]
      exact ⟨by have := ih.1; omega, fun h2 => by have := ih.2 h2; omega⟩
theorem tkB_length : ∀ l : List UInt8, (tkB l).length = l.length
  | [] => rfl
  | [_] => rfl
  | a :: b :: t => by
    rw [tkB]
    split
    · simp [tkB_length t]
    · simp [tkB_length (b :: t)]
/-- The row at rest, and the rows ahead of it. -/
def histL (l : List UInt8) : List UInt8 × List (List UInt8) :=
  if h : hasB l = true then ((histL (tkB l)).1, l :: (histL (tkB l)).2) else (l, [])
termination_by invB l
decreasing_by all_goals exact (inv_tk l).2 h
theorem histL_step {l : List UInt8} (h : hasB l = true) : histL l = ((histL (tkB l)).1, l :: (histL (tkB l)).2) := by
  rw [histL, dif_pos h]
theorem histL_rest {l : List UInt8} (h : hasB l = false) : histL l = (l, []) := by
  rw [histL, dif_neg (by rw [h]; simp)]

/-! who face each other -/
def prs : Nat → List UInt8 → List Int
  | i, a :: b :: t => if a = 62 ∧ b = 60 then (i : Int) :: prs (i + 1) (b :: t) else prs (i + 1) (b :: t)
  | _, _ => []
theorem prs_drop (l : List UInt8) (i : Nat) (h : i + 1 < l.length) : prs i (l.drop i) = if l[i] = 62 ∧ l[i + 1] = 60 then (i : Int) :: prs (i + 1) (l.drop (i + 1)) else prs (i + 1) (l.drop (i + 1)) := by
  rw [List.drop_eq_getElem_cons (show i < l.length by omega), List.drop_eq_getElem_cons h, prs]
theorem prs_end (l : List UInt8) (i : Nat) (h : l.length ≤ i + 1) : prs i (l.drop i) = [] := by
  have hl : (l.drop i).length ≤ 1 := by rw [List.length_drop]; omega
  match l.drop i, hl with
  | [], _ => rfl
  | [_], _ => rfl
  | _ :: _ :: _, h => simp at h
theorem prs_len : ∀ (i : Nat) (l : List UInt8), (prs i l).length ≤ l.length
  | _, [] => by simp [prs]
  | _, [_] => by simp [prs]
  | i, a :: b :: t => by
    have ih := prs_len (i + 1) (b :: t)
    rw [prs]
    split
    · simp only [List.length_cons] at ih ⊢; omega
    · simp only [List.length_cons] at ih ⊢; omega

theorem sz (s : ByteArray) : s.size = s.data.toList.length := by
  rw [Array.length_toList]; rfl

theorem rowB_len {s : ByteArray} (h : rowB s = true) : 1 ≤ s.size ∧ s.size ≤ 60 := by
  unfold rowB at h
  simp only [Bool.and_eq_true, decide_eq_true_eq] at h
  exact h.1
theorem rowB_all {s : ByteArray} (h : rowB s = true) : s.data.toList.all (fun b => b == 60 || b == 62) = true := by
  unfold rowB at h
  simp only [Bool.and_eq_true] at h
  exact h.2

theorem prs_has : ∀ (i : Nat) (l : List UInt8), decide (((prs i l).length : Int) = 0) = !hasB l
  | _, [] => by simp [prs, hasB]
  | _, [_] => by simp [prs, hasB]
  | i, a :: b :: t => by
    have ih := prs_has (i + 1) (b :: t)
    rw [prs, hasB]
    by_cases c : a = 62 ∧ b = 60
    · rw [if_pos c, c.1, c.2]
      simp
      omega
    · rw [if_neg c, ih]
      have : (a == 62 && b == 60) = false := by
        rw [Bool.eq_false_iff]
        intro h
        simp only [Bool.and_eq_true, beq_iff_eq] at h
        exact c h
      rw [this, Bool.false_or]

def bs (l : List UInt8) : ByteArray := ⟨l.toArray⟩
theorem bs_size (l : List UInt8) : (bs l).size = l.length := rfl
theorem bs_data (s : ByteArray) : bs s.data.toList = s := rfl
def putL (i : Nat) (l : List UInt8) : List UInt8 := l.take i ++ [60, 62] ++ l.drop (i + 2)
theorem putL_len (i : Nat) (l : List UInt8) (h : i + 2 ≤ l.length) : (putL i l).length = l.length := by
  simp only [putL, List.length_append, List.length_take, List.length_drop, List.length_cons, List.length_nil]
  omega
theorem put_bytes (l : List UInt8) (i : Nat) (h : i + 2 ≤ l.length) :
    ((bs l).extract 0 i ++ (⟨#[60, 62]⟩ : ByteArray)) ++ (bs l).extract (i + 2) (bs l).size = bs (putL i l) := by
  apply ByteArray.ext
  rw [ByteArray.data_append, ByteArray.data_append, ByteArray.data_extract, ByteArray.data_extract]
  apply Array.toList_inj.1
  simp only [bs, putL, Array.toList_append, Array.toList_extract, List.extract_eq_take_drop, bs_size]
  rw [Nat.sub_zero, List.drop_zero]
  exact congrArg (fun z => l.take i ++ [60, 62] ++ z) (List.take_of_length_le (by rw [List.length_drop]; exact Nat.le_refl _))
theorem prs_mem : ∀ (i : Nat) (l : List UInt8), ∀ x ∈ prs i l, (i : Int) ≤ x ∧ x + 2 ≤ ((i + l.length : Nat) : Int)
  | _, [], x, h => by simp [prs] at h
  | _, [_], x, h => by simp [prs] at h
  | i, a :: b :: t, x, h => by
    have ih := prs_mem (i + 1) (b :: t) x
    rw [prs] at h
    simp only [List.length_cons] at ih ⊢
    split at h
    · rcases List.mem_cons.1 h with rfl | h
      · omega
      · have := ih h; omega
    · have := ih h; omega
theorem prs_60 (i : Nat) : ∀ t : List UInt8, prs i (60 :: t) = prs (i + 1) t
  | [] => rfl
  | c :: t => by rw [prs, if_neg (by intro h; exact absurd h.1 (by decide))]
theorem fold_prs : ∀ (m p : List UInt8), (prs p.length m).foldl (fun l x => putL x.toNat l) (p ++ m) = p ++ tkB m
  | [], p => by simp [prs, tkB]
  | [a], p => by simp [prs, tkB]
  | a :: b :: t, p => by
    rw [prs]
    by_cases c : a = 62 ∧ b = 60
    · obtain ⟨rfl, rfl⟩ := c
      rw [if_pos ⟨rfl, rfl⟩, List.foldl_cons, prs_60]
      have e : putL ((p.length : Int)).toNat (p ++ 62 :: 60 :: t) = (p ++ [60, 62]) ++ t := by
        unfold putL
        rw [Int.toNat_natCast, List.take_left, List.drop_append, List.drop_of_length_le (show p.length ≤ p.length + 2 by omega)]
        simp
      rw [e]
      have ih := fold_prs t (p ++ [60, 62])
      rw [List.length_append] at ih
      rw [show p.length + 1 + 1 = p.length + [(60 : UInt8), 62].length from rfl, ih]
      rw [tkB, if_pos (by decide), List.append_assoc]
      rfl
    · rw [if_neg c]
      have ih := fold_prs (b :: t) (p ++ [a])
      rw [List.length_append, List.append_assoc] at ih
      have hc : ¬ (a == 62 && b == 60) = true := by
        intro h
        simp only [Bool.and_eq_true, beq_iff_eq] at h
        exact c h
      rw [tkB, if_neg hc]
      refine Eq.trans ih ?_
      rw [List.append_assoc]
      rfl
theorem tkB_len : ∀ l : List UInt8, (tkB l).length = l.length
  | [] => rfl
  | [_] => rfl
  | a :: b :: t => by
    rw [tkB]
    split
    · simp [tkB_len t]
    · simp [tkB_len (b :: t)]

def sgn (b : Nat) : Nat := if b % 2 = 1 then 62 else 60
/-- The signs of the row of n soldiers with a number. -/
def mk : Nat → Nat → List Nat
  | 0, _ => []
  | n + 1, v => mk n (v / 2) ++ [sgn v]
theorem mk_len : ∀ n v, (mk n v).length = n
  | 0, _ => rfl
  | n + 1, v => by simp [mk, mk_len n (v / 2)]
theorem mk_get : ∀ (n v i : Nat) (h : i < n), (mk n v)[i]'(by rw [mk_len]; exact h) = sgn (v / 2 ^ (n - 1 - i))
  | 0, _, i, h => by omega
  | n + 1, v, i, h => by
    simp only [mk]
    by_cases c : i < n
    · rw [List.getElem_append_left (by rw [mk_len]; exact c), mk_get n (v / 2) i c, Nat.div_div_eq_div_mul]
      congr 2
      rw [show n + 1 - 1 - i = (n - 1 - i) + 1 by omega, Nat.pow_succ, Nat.mul_comm]
    · have : i = n := by omega
      subst this
      rw [List.getElem_append_right (by rw [mk_len]; omega)]
      simp [mk_len]
def txt (l : List Nat) : ByteArray := ⟨(l.map UInt8.ofNat).toArray⟩
theorem txt_size (l : List Nat) : (txt l).size = l.length := by simp [txt, ByteArray.size]
theorem txt_cons (a : Nat) (l : List Nat) : (⟨#[UInt8.ofNat a]⟩ : ByteArray) ++ txt l = txt (a :: l) := by
  apply ByteArray.ext
  rw [ByteArray.data_append]
  simp [txt]

def sumJ : Nat → List Int → Int
  | _, [] => 0
  | i, a :: l => (i : Int) * a + sumJ (i + 1) l
theorem sumJ_pad : ∀ (l : List Int) (i m : Nat), sumJ i (l ++ List.replicate m 0) = sumJ i l
  | [], i, 0 => rfl
  | [], i, m + 1 => by
    have := sumJ_pad [] (i + 1) m
    rw [List.nil_append] at this ⊢
    show (i : Int) * 0 + sumJ (i + 1) (List.replicate m 0) = 0
    rw [this]
    simp [sumJ]
  | a :: l, i, m => by rw [List.cons_append, sumJ, sumJ_pad l, sumJ]
theorem sumJ_set : ∀ (l : List Int) (i t : Nat), t < l.length → sumJ i (l.set t (l.getD t 0 + 1)) = sumJ i l + ((i + t : Nat) : Int)
  | [], _, t, h => absurd h (by simp)
  | a :: l, i, 0, _ => by
    simp only [List.set_cons_zero, sumJ, List.getD_cons_zero]
    rw [Int.mul_add]; omega
  | a :: l, i, t + 1, h => by
    have := sumJ_set l (i + 1) t (by simpa using h)
    simp only [List.set_cons_succ, sumJ, List.getD_cons_succ, this]
    omega
/-- One more row that needs t ticks. -/
def stepC (out : List Int) (t : Nat) : List Int :=
  (out ++ List.replicate (t + 1 - out.length) 0).set t ((out ++ List.replicate (t + 1 - out.length) 0).getD t 0 + 1)
theorem stepC_len (out : List Int) (t : Nat) : (stepC out t).length = max out.length (t + 1) := by
  simp [stepC]; omega
theorem sumJ_step (out : List Int) (t : Nat) : sumJ 0 (stepC out t) = sumJ 0 out + (t : Int) := by
  unfold stepC
  rw [sumJ_set _ _ _ (by simp; omega), sumJ_pad]
  omega
theorem pad_get (l : List Int) (m j : Nat) : (l ++ List.replicate m 0).getD j 0 = l.getD j 0 := by
  simp only [List.getD_eq_getElem?_getD]
  by_cases h : j < l.length
  · rw [List.getElem?_append_left h]
  · rw [List.getElem?_append_right (by omega), List.getElem?_replicate, List.getElem?_eq_none (l := l) (by omega)]
    split <;> rfl
theorem stepC_get (out : List Int) (t j : Nat) : (stepC out t).getD j 0 = out.getD j 0 + if t = j then 1 else 0 := by
  unfold stepC
  rw [pad_get]
  by_cases h : t = j
  · subst h
    rw [if_pos rfl, List.getD_eq_getElem?_getD, List.getElem?_set_self (by simp; omega)]
    rfl
  · rw [if_neg h, List.getD_eq_getElem?_getD, List.getElem?_set_ne h, ← List.getD_eq_getElem?_getD, pad_get]
    omega
/-- The counts by ticks, behind the first rows. -/
def cntL (T : Nat → Nat) (n : Nat) : Nat → List Int
  | 0 => List.replicate (n + 1) 0
  | v + 1 => stepC (cntL T n v) (T v)
def cN (T : Nat → Nat) : Nat → Nat → Nat
  | 0, _ => 0
  | v + 1, j => cN T v j + if T v = j then 1 else 0
theorem cntL_get (T : Nat → Nat) (n : Nat) : ∀ v j, (cntL T n v).getD j 0 = (cN T v j : Int)
  | 0, j => by
    simp only [cntL, cN, List.getD_eq_getElem?_getD, List.getElem?_replicate]
    split <;> rfl
  | v + 1, j => by
    rw [cntL, stepC_get, cntL_get T n v j, cN]
    split <;> simp
theorem cN_le (T : Nat → Nat) (j : Nat) : ∀ v, cN T v j ≤ v
  | 0 => Nat.le_refl _
  | v + 1 => by have := cN_le T j v; rw [cN]; split <;> omega
theorem cntL_len (T : Nat → Nat) (n B : Nat) (hB : n < B) : ∀ v, (∀ u, u < v → T u < B) → n + 1 ≤ (cntL T n v).length ∧ (cntL T n v).length ≤ B
  | 0, _ => by simp [cntL]; omega
  | v + 1, h => by
    have ih := cntL_len T n B hB v (fun u hu => h u (by omega))
    have := h v (by omega)
    rw [cntL, stepC_len]; omega
def sumT (T : Nat → Nat) : Nat → Nat
  | 0 => 0
  | v + 1 => sumT T v + T v
theorem cntL_sum (T : Nat → Nat) (n : Nat) : ∀ v, sumJ 0 (cntL T n v) = (sumT T v : Int)
  | 0 => by
    have := sumJ_pad [] 0 (n + 1)
    rw [List.nil_append] at this
    rw [cntL, this]; rfl
  | v + 1 => by rw [cntL, sumJ_step, cntL_sum T n v, sumT]; omega
/-- The greatest of the first numbers. -/
def mxT (T : Nat → Nat) : Nat → Nat
  | 0 => 0
  | v + 1 => max (mxT T v) (T v)
theorem cN_zero (T : Nat → Nat) : ∀ v j, mxT T v < j → cN T v j = 0
  | 0, _, _ => rfl
  | v + 1, j, h => by
    rw [mxT] at h
    rw [cN, cN_zero T v j (by omega), if_neg (by omega)]
theorem cN_mx (T : Nat → Nat) : ∀ v, 0 < v → 0 < cN T v (mxT T v)
  | 0, h => absurd h (by decide)
  | v + 1, _ => by
    rw [cN, mxT]
    by_cases c : mxT T v ≤ T v
    · rw [Nat.max_eq_right c, if_pos rfl]; omega
    · rw [Nat.max_eq_left (by omega), if_neg (by omega)]
      cases v with
      | zero => simp [mxT] at c
      | succ v => have := cN_mx T (v + 1) (by omega); omega
/-- The last place with a number above nought. -/
def lastP : Nat → List Int → Nat → Nat
  | _, [], m => m
  | i, a :: l, m => lastP (i + 1) l (if a > 0 then i else m)
theorem lastP_none : ∀ (l : List Int) (i m : Nat), (∀ j, l.getD j 0 ≤ 0) → lastP i l m = m
  | [], _, _, _ => rfl
  | a :: l, i, m, h => by
    have h0 := h 0
    rw [List.getD_cons_zero] at h0
    rw [lastP, if_neg (by omega)]
    exact lastP_none l (i + 1) m (fun j => by have := h (j + 1); simpa using this)
theorem lastP_at : ∀ (l : List Int) (i m M : Nat), 0 < l.getD M 0 → (∀ j, M < j → l.getD j 0 ≤ 0) → lastP i l m = i + M
  | [], _, _, _, h, _ => by simp at h
  | a :: l, i, m, 0, h, hz => by
    rw [List.getD_cons_zero] at h
    rw [lastP, if_pos (by omega), lastP_none l _ _ (fun j => by have := hz (j + 1) (by omega); simpa using this)]
    rfl
  | a :: l, i, m, M + 1, h, hz => by
    rw [List.getD_cons_succ] at h
    rw [lastP, lastP_at l (i + 1) _ M h (fun j hj => by have := hz (j + 1) (by omega); simpa using this)]
    omega
theorem last_cnt (T : Nat → Nat) (n v : Nat) (hv : 0 < v) : lastP 0 (cntL T n v) 0 = mxT T v := by
  rw [lastP_at (cntL T n v) 0 0 (mxT T v) (by rw [cntL_get]; have := cN_mx T v hv; omega) (fun j hj => by rw [cntL_get, cN_zero T v j hj]; decide)]
  omega

/-! how long a history is -/
theorem n60_le (l : List UInt8) : n60 l ≤ l.length := List.length_filter_le _ _
theorem inv_le : ∀ l : List UInt8, invB l ≤ l.length * l.length
  | [] => Nat.le_refl _
  | a :: t => by
    have ih := inv_le t
    have h1 := n60_le t
    have e : (t.length + 1) * (t.length + 1) = t.length * t.length + t.length + t.length + 1 := by rw [Nat.add_mul, Nat.mul_add]; omega
    rw [invB, List.length_cons, e]
    split <;> omega
theorem hist_le : ∀ (m : Nat) (l : List UInt8), invB l ≤ m → (histL l).2.length ≤ m := by
  intro m
  induction m with
  | zero =>
    intro l h
    cases c : hasB l with
    | true => have := (inv_tk l).2 c; omega
    | false => rw [histL_rest c]; simp
  | succ m ih =>
    intro l h
    cases c : hasB l with
    | true =>
      have h1 := (inv_tk l).2 c
      have h2 := ih (tkB l) (by omega)
      rw [histL_step c, List.length_cons]; omega
    | false => rw [histL_rest c]; simp
theorem hist_bound (l : List UInt8) (h : l.length ≤ 1000) : (histL l).2.length ≤ 1000000 :=
  Nat.le_trans (hist_le _ l (Nat.le_refl _)) (Nat.le_trans (inv_le l) (Nat.le_trans (Nat.mul_le_mul h h) (by decide)))
theorem hist_len : ∀ (m : Nat) (l : List UInt8), invB l ≤ m → (histL l).1.length = l.length := by
  intro m
  induction m with
  | zero =>
    intro l h
    cases c : hasB l with
    | true => have := (inv_tk l).2 c; omega
    | false => rw [histL_rest c]
  | succ m ih =>
    intro l h
    cases c : hasB l with
    | true =>
      have h1 := (inv_tk l).2 c
      rw [histL_step c]; exact (ih (tkB l) (by omega)).trans (tkB_len l)
    | false => rw [histL_rest c]
theorem fold_one (L : List (List UInt8)) (s : Int) (h0 : 0 ≤ s) (h : s + L.length ≤ 9223372036854775807) : L.foldl (fun s _ => wrap64 (s + 1)) s = s + L.length := by
  induction L generalizing s with
  | nil => simp
  | cons a L ih =>
    simp only [List.length_cons] at h
    have e : wrap64 (s + 1) = s + 1 := by unfold wrap64; omega
    rw [List.foldl_cons, e, ih (s + 1) (by omega) (by omega), List.length_cons]
    omega
theorem prs_pos (i : Nat) (l : List UInt8) (h : hasB l = true) : 0 < (prs i l).length := by
  have := prs_has i l
  rw [h] at this
  have := of_decide_eq_false this
  omega
theorem prs_none (i : Nat) (l : List UInt8) (h : hasB l = false) : prs i l = [] := by
  have := prs_has i l
  rw [h] at this
  have := of_decide_eq_true this
  exact List.eq_nil_of_length_eq_zero (by omega)

/-! the rows by number, and their ticks -/
def mkL (n v : Nat) : List UInt8 := (mk n v).map UInt8.ofNat
theorem mkL_len (n v : Nat) : (mkL n v).length = n := by rw [mkL, List.length_map, mk_len]
theorem txt_mk (n v : Nat) : txt (mk n v) = bs (mkL n v) := rfl
def tks (n v : Nat) : Nat := (histL (mkL n v)).2.length
theorem tks_le (n v : Nat) (hn : n ≤ 12) : tks n v ≤ 144 := by
  have h1 := hist_le _ (mkL n v) (Nat.le_refl _)
  have h2 := inv_le (mkL n v)
  rw [mkL_len] at h2
  have h3 := Nat.mul_le_mul hn hn
  unfold tks; omega
theorem pow_12 (n : Nat) (hn : n ≤ 12) : 2 ^ n ≤ 4096 := Nat.le_trans (Nat.pow_le_pow_right (by decide) hn) (by decide)

/-! what the loops over the counts and the list of ticks add up to -/
def rdI (xs : List Int) (i : Nat) : Int := xs.getD i 0
def sumW (out : List Int) : Nat → Int
  | 0 => 0
  | j + 1 => wrap64 (sumW out j + wrap64 ((j : Int) * rdI out j))
def sumP (out : List Int) : Nat → Int
  | 0 => 0
  | j + 1 => sumP out j + (j : Int) * rdI out j
theorem sumJ_cons (i : Nat) (a : Int) (l : List Int) : sumJ i (a :: l) = (i : Int) * a + sumJ (i + 1) l := rfl
theorem sumJ_snoc : ∀ (l : List Int) (i : Nat) (x : Int), sumJ i (l ++ [x]) = sumJ i l + ((i + l.length : Nat) : Int) * x
  | [], i, x => by simp [sumJ]
  | a :: l, i, x => by
    rw [List.cons_append, sumJ_cons, sumJ_cons, sumJ_snoc l (i + 1) x, List.length_cons, show i + 1 + l.length = i + (l.length + 1) by omega]; omega
theorem sumP_take (out : List Int) : ∀ j, j ≤ out.length → sumP out j = sumJ 0 (out.take j)
  | 0, _ => rfl
  | j + 1, h => by
    have hj : j < out.length := by omega
    rw [sumP, sumP_take out j (by omega), List.take_succ_eq_append_getElem hj, sumJ_snoc, List.length_take, Nat.min_eq_left (by omega), Nat.zero_add]
    unfold rdI
    rw [List.getD_eq_getElem?_getD, List.getElem?_eq_getElem hj]; rfl
theorem sumW_eq (out : List Int) (hx : ∀ i, 0 ≤ rdI out i ∧ rdI out i ≤ 4096) : ∀ j, j ≤ 1000 → sumW out j = sumP out j ∧ 0 ≤ sumP out j ∧ sumP out j ≤ (j : Int) * 4096000
  | 0, _ => by simp [sumW, sumP]
  | j + 1, h => by
    have ih := sumW_eq out hx j (by omega)
    have hb := hx j
    have h1 : 0 ≤ (j : Int) * rdI out j := Int.mul_nonneg (by omega) hb.1
    have h2 : (j : Int) * rdI out j ≤ 1000 * 4096 := Int.mul_le_mul (by omega) hb.2 hb.1 (by omega)
    have e1 : wrap64 ((j : Int) * rdI out j) = (j : Int) * rdI out j := by unfold wrap64; omega
    rw [sumW, sumP, ih.1, e1]
    refine ⟨by unfold wrap64; omega, by omega, by omega⟩
theorem cnt_rd (T : Nat → Nat) (n v : Nat) (hv : v ≤ 4096) (i : Nat) : 0 ≤ rdI (cntL T n v) i ∧ rdI (cntL T n v) i ≤ 4096 := by
  unfold rdI
  rw [cntL_get]
  have := cN_le T i v
  omega
theorem sumW_cnt (T : Nat → Nat) (n v : Nat) (hv : v ≤ 4096) (hl : (cntL T n v).length ≤ 1000) : sumW (cntL T n v) (cntL T n v).length = (sumT T v : Int) := by
  rw [(sumW_eq _ (cnt_rd T n v hv) _ hl).1, sumP_take _ _ (Nat.le_refl _), List.take_length, cntL_sum]
def lastT (out : List Int) : Nat → Nat
  | 0 => 0
  | j + 1 => if rdI out j > 0 then j else lastT out j
theorem lastP_snoc : ∀ (l : List Int) (i m : Nat) (x : Int), lastP i (l ++ [x]) m = if x > 0 then i + l.length else lastP i l m
  | [], i, m, x => by simp [lastP]
  | a :: l, i, m, x => by
    rw [List.cons_append, lastP, lastP_snoc l (i + 1) _ x, lastP, List.length_cons, show i + 1 + l.length = i + (l.length + 1) by omega]
theorem lastT_take (out : List Int) : ∀ j, j ≤ out.length → lastT out j = lastP 0 (out.take j) 0
  | 0, _ => rfl
  | j + 1, h => by
    have hj : j < out.length := by omega
    rw [lastT, lastT_take out j (by omega), List.take_succ_eq_append_getElem hj, lastP_snoc, List.length_take, Nat.min_eq_left (by omega), Nat.zero_add]
    unfold rdI
    rw [List.getD_eq_getElem?_getD, List.getElem?_eq_getElem hj]; rfl
theorem lastT_cnt (T : Nat → Nat) (n v : Nat) (hv : 0 < v) : lastT (cntL T n v) (cntL T n v).length = mxT T v := by
  rw [lastT_take _ _ (Nat.le_refl _), List.take_length, last_cnt T n v hv]
/-- The list of ticks. -/
def bT (T : Nat → Nat) (v : Nat) : List Int := (List.range v).map fun u => (T u : Int)
theorem bT_len (T : Nat → Nat) (v : Nat) : (bT T v).length = v := by simp [bT]
theorem bT_succ (T : Nat → Nat) (v : Nat) : bT T v ++ [(T v : Int)] = bT T (v + 1) := by
  unfold bT; rw [List.range_succ, List.map_append]; rfl
theorem bT_rd (T : Nat → Nat) (v i : Nat) (h : i < v) : rdI (bT T v) i = (T i : Int) := by
  unfold rdI bT
  rw [List.getD_eq_getElem?_getD, List.getElem?_map, List.getElem?_range h]; rfl
def sumV (out : List Int) : Nat → Int
  | 0 => 0
  | j + 1 => wrap64 (sumV out j + rdI out j)
theorem sumV_bT (T : Nat → Nat) (v : Nat) (hv : v ≤ 4096) (hT : ∀ u, u < v → T u ≤ 144) : ∀ j, j ≤ v → sumV (bT T v) j = (sumT T j : Int) ∧ sumT T j ≤ j * 144
  | 0, _ => by simp [sumV, sumT]
  | j + 1, h => by
    have ih := sumV_bT T v hv hT j (by omega)
    have hb := hT j (by omega)
    rw [sumV, ih.1, bT_rd T v j (by omega), sumT]
    refine ⟨by unfold wrap64; omega, by omega⟩
def mxU (l : List Int) : Nat → Int
  | 0 => rdI l 0
  | j + 1 => if mxU l j < rdI l (j + 1) then rdI l (j + 1) else mxU l j
theorem mxU_bT (T : Nat → Nat) (v : Nat) : ∀ j, j < v → mxU (bT T v) j = (mxT T (j + 1) : Int)
  | 0, h => by rw [mxU, bT_rd T v 0 h]; simp [mxT]
  | j + 1, h => by
    rw [mxU, mxU_bT T v j (by omega), bT_rd T v (j + 1) h, show mxT T (j + 1 + 1) = max (mxT T (j + 1)) (T (j + 1)) from rfl]
    by_cases c : mxT T (j + 1) < T (j + 1)
    · rw [if_pos (by omega)]; omega
    · rw [if_neg (by omega)]; omega
def cntV (l : List Int) (x : Int) : Nat → Nat
  | 0 => 0
  | j + 1 => cntV l x j + if rdI l j = x then 1 else 0
theorem cntV_bT (T : Nat → Nat) (v t : Nat) : ∀ j, j ≤ v → cntV (bT T v) (t : Int) j = cN T j t
  | 0, _ => rfl
  | j + 1, h => by
    rw [cntV, cntV_bT T v t j (by omega), bT_rd T v j (by omega), cN]
    by_cases c : T j = t
    · rw [if_pos (by omega), if_pos c]
    · rw [if_neg (by omega), if_neg c]
theorem first_mx (T : Nat → Nat) : ∀ v M, 0 < cN T v M → ∃ f, f < v ∧ T f = M ∧ ∀ i, i < f → T i ≠ M
  | 0, M, h => by simp [cN] at h
  | v + 1, M, h => by
    by_cases c : 0 < cN T v M
    · obtain ⟨f, h1, h2, h3⟩ := first_mx T v M c
      exact ⟨f, by omega, h2, h3⟩
    · rw [cN] at h
      by_cases e : T v = M
      · refine ⟨v, by omega, e, fun i hi hM => c ?_⟩
        have : ∀ u, i < u → 0 < cN T u M := by
          intro u
          induction u with
          | zero => omega
          | succ u ih =>
            intro hu
            rw [cN]
            by_cases e2 : i = u
            · rw [← e2, if_pos hM]; omega
            · have := ih (by omega); omega
        exact this v hi
      · rw [if_neg e] at h; omega

/-! the bytes of a row by number, as they are laid one by one -/
def intsN (l : List Nat) : List Int := l.map fun n : Nat => (n : Int)
def rowX (n v j : Nat) : List Int := intsN ((mk n v).take j) ++ List.replicate (n - j) 0
theorem rowX_len (n v j : Nat) (h : j ≤ n) : (rowX n v j).length = n := by
  simp [rowX, intsN, mk_len]; omega
theorem rowX_zero (n v : Nat) : rowX n v 0 = List.replicate n 0 := by simp [rowX, intsN]
theorem rowX_step (n v j : Nat) (h : j < n) : (rowX n v j).set j ((sgn (v / 2 ^ (n - 1 - j)) : Nat) : Int) = rowX n v (j + 1) := by
  have hl : (intsN ((mk n v).take j)).length = j := by simp [intsN, mk_len]; omega
  have e : n - j = (n - (j + 1)) + 1 := by omega
  unfold rowX
  rw [List.set_append_right _ _ (by omega), hl, Nat.sub_self, e, List.replicate_succ, List.set_cons_zero, List.take_succ_eq_append_getElem (by rw [mk_len]; exact h), mk_get n v j h]
  simp [intsN]
theorem rowX_full (n v : Nat) : rowX n v n = intsN (mk n v) := by
  unfold rowX
  rw [List.take_of_length_le (by rw [mk_len]; omega), Nat.sub_self]; simp

/-! how often each turns -/
def bump (out : List Int) (x : Int) : List Int := (out.set x.toNat (wrap64 (rdI out x.toNat + 1))).set (x.toNat + 1) (wrap64 (rdI out (x.toNat + 1) + 1))
theorem bump_len (out : List Int) (x : Int) : (bump out x).length = out.length := by simp [bump]
def bumps (out ps : List Int) : List Int := ps.foldl bump out
theorem bumps_len (ps : List Int) : ∀ out, (bumps out ps).length = out.length := by
  induction ps with
  | nil => intro out; rfl
  | cons a t ih => intro out; exact (ih (bump out a)).trans (bump_len out a)
theorem bumps_succ (out ps : List Int) (j : Nat) (h : j < ps.length) : bumps out (ps.take (j + 1)) = bump (bumps out (ps.take j)) ps[j] := by
  unfold bumps
  rw [List.take_succ_eq_append_getElem h, List.foldl_append]; rfl
def eachL (l : List UInt8) (out : List Int) : List Int := (histL l).2.foldl (fun o l' => bumps o (prs 0 l')) out
theorem each_step {l : List UInt8} (h : hasB l = true) (out : List Int) : eachL l out = eachL (tkB l) (bumps out (prs 0 l)) := by
  unfold eachL; rw [histL_step h]; rfl
theorem each_rest {l : List UInt8} (h : hasB l = false) (out : List Int) : eachL l out = out := by
  unfold eachL; rw [histL_rest h]; rfl
theorem foldl_len {α : Type} (f : List Int → α → List Int) (hf : ∀ o a, (f o a).length = o.length) : ∀ (L : List α) (o : List Int), (L.foldl f o).length = o.length
  | [], _ => rfl
  | a :: L, o => (foldl_len f hf L (f o a)).trans (hf o a)
theorem each_len (l : List UInt8) (out : List Int) : (eachL l out).length = out.length := foldl_len _ (fun o l' => bumps_len _ o) _ _

/-! the rows from which a tick leads to a row -/
def befL (l : List UInt8) : Nat → List ByteArray
  | 0 => []
  | v + 1 => befL l v ++ if (bs (tkB (mkL l.length v))).toList = (bs l).toList then [bs (mkL l.length v)] else []
theorem befL_len (l : List UInt8) : ∀ v, (befL l v).length ≤ v
  | 0 => Nat.le_refl _
  | v + 1 => by
    have := befL_len l v
    rw [befL, List.length_append]
    split <;> simp <;> omega

end Go.Proofs.YtleacijhpkogpabDoor.RPlain
