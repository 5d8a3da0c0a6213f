/- Plain laws of rows: what a tick does, how rows come to rest, which number a row has, counts by ticks: lists alone, no program. -/
import Derived.Shelf.Strings.SlTrimAscii
import Derived.Shelf.Strings.Search3
import Derived.Shelf.Strings.Replace
import Derived.WalkKit
import Derived.Shelf.Strings.MapGrows
import Derived.Lib.TrimAscii
import Derived.Lib.MapLaws
namespace Go.Proofs.YtleacijhpkogpabDoor.RPlain
open Go.RowKit
set_option linter.unusedVariables false
set_option linter.unusedSimpArgs false

/-- Is a text a row? -/
def rowB (s : ByteArray) : Bool := decide (1 ≤ s.size) && decide (s.size ≤ 60) && s.data.toList.all (fun b => b == 60 || b == 62)

theorem dropWhile_nil {p : UInt8 → Bool} : ∀ l : List UInt8, (l.dropWhile p).isEmpty = l.all p
  | [] => rfl
  | a :: t => by
    by_cases h : p a = true
    · rw [List.dropWhile_cons_of_pos h, dropWhile_nil t, List.all_cons, h, Bool.true_and]
    · rw [List.dropWhile_cons_of_neg h, List.all_cons, Bool.eq_false_iff.mpr h]; rfl
theorem trimS_all (l : List UInt8) : (Lib.trimS l [60, 62]).isEmpty = l.all (fun b => b == 60 || b == 62) := by
  have hc : (fun b : UInt8 => List.contains [60, 62] b) = fun b => b == 60 || b == 62 := by
    funext b
    simp only [List.contains, List.elem]
    cases h1 : b == 60 <;> cases h2 : b == 62 <;> rfl
  unfold Lib.trimS Lib.trimLeftS Lib.trimRightS
  rw [hc, dropWhile_nil]
  by_cases h : l.all (fun b => b == 60 || b == 62) = true
  · have h2 : (l.reverse.dropWhile fun b => b == 60 || b == 62).isEmpty = true := by
      rw [dropWhile_nil, List.all_reverse]; exact h
    rw [List.isEmpty_iff] at h2
    rw [h2, h]; rfl
  · have hne : ∃ x ∈ l, (x == 60 || x == 62) = false := by
      have h3 := h
      rw [Bool.not_eq_true, List.all_eq_false] at h3
      obtain ⟨x, hx, hp⟩ := h3
      exact ⟨x, hx, by simpa using hp⟩
    rw [Bool.eq_false_iff.mpr h, List.all_eq_false]
    have hr : ∀ t : List UInt8, (∃ x ∈ t, (x == 60 || x == 62) = false) → ∃ x ∈ t.dropWhile (fun b => b == 60 || b == 62), (x == 60 || x == 62) = false := by
      intro t
      induction t with
      | nil => intro ⟨x, hx, _⟩; cases hx
      | cons a t ih =>
        intro ⟨x, hx, hp⟩
        by_cases ha : (a == 60 || a == 62) = true
        · rw [show (a :: t).dropWhile (fun b => b == 60 || b == 62) = t.dropWhile (fun b => b == 60 || b == 62) from List.dropWhile_cons_of_pos (p := fun b => b == 60 || b == 62) ha]
          rcases List.mem_cons.1 hx with rfl | hx
          · rw [ha] at hp; cases hp
          · exact ih ⟨x, hx, hp⟩
        · rw [show (a :: t).dropWhile (fun b => b == 60 || b == 62) = a :: t from List.dropWhile_cons_of_neg (p := fun b => b == 60 || b == 62) ha]
          exact ⟨x, hx, hp⟩
    obtain ⟨x, hx, hp⟩ := hr l.reverse (by obtain ⟨x, hx, hp⟩ := hne; exact ⟨x, by simpa using hx, hp⟩)
    exact ⟨x, by simpa using hx, by simpa using hp⟩

/-- Do two face each other? -/
def hasB : List UInt8 → Bool
  | a :: b :: t => (a == 62 && b == 60) || hasB (b :: t)
  | _ => false
theorem prefix_two (a : UInt8) (l : List UInt8) : [62, 60].isPrefixOf (a :: l) = (a == 62 && (match l with | b :: _ => b == 60 | [] => false)) := by
  have h1 : ((62 : UInt8) == a) = (a == 62) := BEq.comm
  cases l with
  | nil => simp only [List.isPrefixOf, h1]
  | cons b t =>
    have h2 : ((60 : UInt8) == b) = (b == 60) := BEq.comm
    simp only [List.isPrefixOf, Bool.and_true, h1, h2]
theorem index_two : ∀ l : List UInt8, decide (0 ≤ Lib.index l [62, 60]) = hasB l
  | [] => by simp [Lib.index, hasB]
  | [a] => by simp [Lib.index, hasB, prefix_two]
  | a :: b :: t => by
    have ih := index_two (b :: t)
    have hge := Lib.index_ge (b :: t) [62, 60]
    rw [Lib.index, prefix_two]
    simp only [hasB]
    by_cases h : (a == 62 && b == 60) = true
    · rw [if_pos h, h]; simp
    · rw [if_neg h, Bool.eq_false_iff.mpr h, Bool.false_or, ← ih]
      by_cases h2 : Lib.index (b :: t) [62, 60] = -1
      · rw [if_pos (by simp [h2]), h2]
      · rw [if_neg (by simpa using h2)]
        rw [decide_eq_decide]
        omega

/-- All who face each other turn. -/
def tkB : List UInt8 → List UInt8
  | a :: b :: t => if (a == 62 && b == 60) = true then 60 :: 62 :: tkB t else a :: tkB (b :: t)
  | l => l
theorem prefix_two' (a b : UInt8) (t : List UInt8) : [62, 60].isPrefixOf (a :: b :: t) = (a == 62 && b == 60) := by
  have h1 : ((62 : UInt8) == a) = (a == 62) := BEq.comm
  have h2 : ((60 : UInt8) == b) = (b == 60) := BEq.comm
  simp only [List.isPrefixOf, Bool.and_true, h1, h2]
theorem prefix_one (a : UInt8) : [62, 60].isPrefixOf [a] = false := by simp [List.isPrefixOf]
theorem tk_miss : ∀ l : List UInt8, Lib.index l [62, 60] = -1 → tkB l = l
  | [], _ => rfl
  | [a], _ => rfl
  | a :: b :: t, h => by
    have hge := Lib.index_ge (b :: t) [62, 60]
    rw [Lib.index, prefix_two'] at h
    by_cases c : (a == 62 && b == 60) = true
    · rw [if_pos c] at h; omega
    · rw [if_neg c] at h
      have h2 : Lib.index (b :: t) [62, 60] = -1 := by
        by_cases h3 : Lib.index (b :: t) [62, 60] = -1
        · exact h3
        · rw [if_neg (by simpa using h3)] at h; omega
      rw [tkB, if_neg c, tk_miss (b :: t) h2]
theorem tk_hit : ∀ (l : List UInt8) (i : Nat), Lib.index l [62, 60] = (i : Int) → tkB l = l.take i ++ [60, 62] ++ tkB (l.drop (i + 2)) ∧ i + 2 ≤ l.length
  | [], i, h => by
    simp [Lib.index] at h
    try omega
  | [a], i, h => by
    rw [Lib.index, prefix_one] at h
    simp [Lib.index] at h
    try omega
  | a :: b :: t, i, h => by
    have hge := Lib.index_ge (b :: t) [62, 60]
    rw [Lib.index, prefix_two'] at h
    by_cases c : (a == 62 && b == 60) = true
    · rw [if_pos c] at h
      obtain rfl : i = 0 := by omega
      rw [tkB, if_pos c]
      simp
    · rw [if_neg c] at h
      by_cases h3 : Lib.index (b :: t) [62, 60] = -1
      · rw [if_pos (by simp [h3])] at h; omega
      · rw [if_neg (by simpa using h3)] at h
        obtain ⟨j, rfl⟩ : ∃ j, i = j + 1 := ⟨i - 1, by omega⟩
        have ih := tk_hit (b :: t) j (by omega)
        rw [tkB, if_neg c, ih.1]
        refine ⟨by simp, by have := ih.2; simp at this ⊢; omega⟩
theorem tk_replace : ∀ (f : Nat) (l : List UInt8), l.length < f → Lib.replaceK [62, 60] [60, 62] (Lib.countFrom [62, 60] f l) l = tkB l
  | 0, l, h => by omega
  | f + 1, l, h => by
    have hge := Lib.index_ge l [62, 60]
    by_cases h1 : Lib.index l [62, 60] = -1
    · rw [Lib.countFrom, if_pos (by simp [h1]), Lib.replaceK, tk_miss l h1]
    · obtain ⟨i, hi⟩ : ∃ i : Nat, Lib.index l [62, 60] = (i : Int) := ⟨(Lib.index l [62, 60]).toNat, by omega⟩
      have hh := tk_hit l i hi
      rw [Lib.countFrom, if_neg (by simpa using h1), Nat.add_comm, Lib.replaceK_hit _ _ _ _ i hi, hh.1, hi]
      congr 1
      exact tk_replace f (l.drop (i + 2)) (by rw [List.length_drop]; omega)
theorem tk_all (l : List UInt8) : Lib.replaceAll l [62, 60] [60, 62] = tkB l := by
  unfold Lib.replaceAll Lib.replace
  rw [if_neg (by decide)]
  unfold Lib.replaceNum
  rw [if_pos (Or.inl (by decide))]
  exact tk_replace (l.length + 1) l (by omega)

/-- How often a soldier who looks right stands ahead of one who looks left. -/
def n60 (l : List UInt8) : Nat := (l.filter (fun b => b == 60)).length
def invB : List UInt8 → Nat
  | [] => 0
  | a :: t => (if a = 62 then n60 t else 0) + invB t
theorem n60_tk : ∀ l : List UInt8, n60 (tkB l) = n60 l
  | [] => rfl
  | [_] => rfl
  | a :: b :: t => by
    rw [tkB]
    split
    · rename_i h
      simp only [Bool.and_eq_true, beq_iff_eq] at h
      obtain ⟨rfl, rfl⟩ := h
      have := n60_tk t
      simp only [n60] at this ⊢
      simp [this]
    · have := n60_tk (b :: t)
      simp only [n60, List.filter_cons] at this ⊢
      split <;> simp_all
theorem inv_tk : ∀ l : List UInt8, invB (tkB l) ≤ invB l ∧ (hasB l = true → invB (tkB l) < invB l)
  | [] => ⟨Nat.le_refl _, fun h => by simp [hasB] at h⟩
  | [_] => ⟨Nat.le_refl _, fun h => by simp [hasB] at h⟩
  | a :: b :: t => by
    rw [tkB]
    split
    · rename_i h
      simp only [Bool.and_eq_true, beq_iff_eq] at h
      obtain ⟨rfl, rfl⟩ := h
      have ih := inv_tk t
      have hn := n60_tk t
      have e1 : invB (60 :: 62 :: tkB t) = n60 (tkB t) + invB (tkB t) := by simp [invB]
      have e2 : invB (62 :: 60 :: t) = n60 t + 1 + invB t := by simp [invB, n60]
      have h1 := ih.1
      rw [e1, e2, hn]
      exact ⟨by omega, fun _ => by omega⟩
    · rename_i h
      have ih := inv_tk (b :: t)
      have hn := n60_tk (b :: t)
      have hh : hasB (a :: b :: t) = hasB (b :: t) := by rw [hasB, Bool.eq_false_iff.mpr h, Bool.false_or]
      rw [hh, invB, show invB (a :: b :: t) = (if a = 62 then n60 (b :: t) else 0) + invB (b :: t) from rfl, hn]
      exact ⟨by have := ih.1; omega, fun h2 => by have := ih.2 h2; omega⟩
theorem tkB_length : ∀ l : List UInt8, (tkB l).length = l.length
  | [] => rfl
  | [_] => rfl
  | a :: b :: t => by
    rw [tkB]
    split
    · simp [tkB_length t]
    · simp [tkB_length (b :: t)]
/-- The row at rest, and the rows ahead of it. -/
def histL (l : List UInt8) : List UInt8 × List (List UInt8) :=
  if h : hasB l = true then ((histL (tkB l)).1, l :: (histL (tkB l)).2) else (l, [])
termination_by invB l
decreasing_by all_goals exact (inv_tk l).2 h
theorem histL_step {l : List UInt8} (h : hasB l = true) : histL l = ((histL (tkB l)).1, l :: (histL (tkB l)).2) := by
  rw [histL, dif_pos h]
theorem histL_rest {l : List UInt8} (h : hasB l = false) : histL l = (l, []) := by
  rw [histL, dif_neg (by rw [h]; simp)]

/-! who face each other -/
def prs : Nat → List UInt8 → List Int
  | i, a :: b :: t => if a = 62 ∧ b = 60 then (i : Int) :: prs (i + 1) (b :: t) else prs (i + 1) (b :: t)
  | _, _ => []
theorem prs_drop (l : List UInt8) (i : Nat) (h : i + 1 < l.length) : prs i (l.drop i) = if l[i] = 62 ∧ l[i + 1] = 60 then (i : Int) :: prs (i + 1) (l.drop (i + 1)) else prs (i + 1) (l.drop (i + 1)) := by
  rw [List.drop_eq_getElem_cons (show i < l.length by omega), List.drop_eq_getElem_cons h, prs]
theorem prs_end (l : List UInt8) (i : Nat) (h : l.length ≤ i + 1) : prs i (l.drop i) = [] := by
  have hl : (l.drop i).length ≤ 1 := by rw [List.length_drop]; omega
  match l.drop i, hl with
  | [], _ => rfl
  | [_], _ => rfl
  | _ :: _ :: _, h => simp at h
theorem prs_len : ∀ (i : Nat) (l : List UInt8), (prs i l).length ≤ l.length
  | _, [] => by simp [prs]
  | _, [_] => by simp [prs]
  | i, a :: b :: t => by
    have ih := prs_len (i + 1) (b :: t)
    rw [prs]
    split
    · simp only [List.length_cons] at ih ⊢; omega
    · simp only [List.length_cons] at ih ⊢; omega

theorem sz (s : ByteArray) : s.size = s.data.toList.length := by
  rw [Array.length_toList]; rfl

theorem rowB_len {s : ByteArray} (h : rowB s = true) : 1 ≤ s.size ∧ s.size ≤ 60 := by
  unfold rowB at h
  simp only [Bool.and_eq_true, decide_eq_true_eq] at h
  exact h.1
theorem rowB_all {s : ByteArray} (h : rowB s = true) : s.data.toList.all (fun b => b == 60 || b == 62) = true := by
  unfold rowB at h
  simp only [Bool.and_eq_true] at h
  exact h.2

theorem prs_has : ∀ (i : Nat) (l : List UInt8), decide (((prs i l).length : Int) = 0) = !hasB l
  | _, [] => by simp [prs, hasB]
  | _, [_] => by simp [prs, hasB]
  | i, a :: b :: t => by
    have ih := prs_has (i + 1) (b :: t)
    rw [prs, hasB]
    by_cases c : a = 62 ∧ b = 60
    · rw [if_pos c, c.1, c.2]
      simp
      omega
    · rw [if_neg c, ih]
      have : (a == 62 && b == 60) = false := by
        rw [Bool.eq_false_iff]
        intro h
        simp only [Bool.and_eq_true, beq_iff_eq] at h
        exact c h
      rw [this, Bool.false_or]

def bs (l : List UInt8) : ByteArray := ⟨l.toArray⟩
theorem bs_size (l : List UInt8) : (bs l).size = l.length := rfl
theorem bs_data (s : ByteArray) : bs s.data.toList = s := rfl
def putL (i : Nat) (l : List UInt8) : List UInt8 := l.take i ++ [60, 62] ++ l.drop (i + 2)
theorem putL_len (i : Nat) (l : List UInt8) (h : i + 2 ≤ l.length) : (putL i l).length = l.length := by
  simp only [putL, List.length_append, List.length_take, List.length_drop, List.length_cons, List.length_nil]
  omega
theorem put_bytes (l : List UInt8) (i : Nat) (h : i + 2 ≤ l.length) :
    ((bs l).extract 0 i ++ (⟨#[60, 62]⟩ : ByteArray)) ++ (bs l).extract (i + 2) (bs l).size = bs (putL i l) := by
  apply ByteArray.ext
  rw [ByteArray.data_append, ByteArray.data_append, ByteArray.data_extract, ByteArray.data_extract]
  apply Array.toList_inj.1
  simp only [bs, putL, Array.toList_append, Array.toList_extract, List.extract_eq_take_drop, bs_size]
  rw [Nat.sub_zero, List.drop_zero]
  exact congrArg (fun z => l.take i ++ [60, 62] ++ z) (List.take_of_length_le (by rw [List.length_drop]; exact Nat.le_refl _))
theorem prs_mem : ∀ (i : Nat) (l : List UInt8), ∀ x ∈ prs i l, (i : Int) ≤ x ∧ x + 2 ≤ ((i + l.length : Nat) : Int)
  | _, [], x, h => by simp [prs] at h
  | _, [_], x, h => by simp [prs] at h
  | i, a :: b :: t, x, h => by
    have ih := prs_mem (i + 1) (b :: t) x
    rw [prs] at h
    simp only [List.length_cons] at ih ⊢
    split at h
    · rcases List.mem_cons.1 h with rfl | h
      · omega
      · have := ih h; omega
    · have := ih h; omega
theorem prs_60 (i : Nat) : ∀ t : List UInt8, prs i (60 :: t) = prs (i + 1) t
  | [] => rfl
  | c :: t => by rw [prs, if_neg (by intro h; exact absurd h.1 (by decide))]
theorem fold_prs : ∀ (m p : List UInt8), (prs p.length m).foldl (fun l x => putL x.toNat l) (p ++ m) = p ++ tkB m
  | [], p => by simp [prs, tkB]
  | [a], p => by simp [prs, tkB]
  | a :: b :: t, p => by
    rw [prs]
    by_cases c : a = 62 ∧ b = 60
    · obtain ⟨rfl, rfl⟩ := c
      rw [if_pos ⟨rfl, rfl⟩, List.foldl_cons, prs_60]
      have e : putL ((p.length : Int)).toNat (p ++ 62 :: 60 :: t) = (p ++ [60, 62]) ++ t := by
        unfold putL
        rw [Int.toNat_natCast, List.take_left, List.drop_append, List.drop_of_length_le (show p.length ≤ p.length + 2 by omega)]
        simp
      rw [e]
      have ih := fold_prs t (p ++ [60, 62])
      rw [List.length_append] at ih
      rw [show p.length + 1 + 1 = p.length + [(60 : UInt8), 62].length from rfl, ih]
      rw [tkB, if_pos (by decide), List.append_assoc]
      rfl
    · rw [if_neg c]
      have ih := fold_prs (b :: t) (p ++ [a])
      rw [List.length_append, List.append_assoc] at ih
      have hc : ¬ (a == 62 && b == 60) = true := by
        intro h
        simp only [Bool.and_eq_true, beq_iff_eq] at h
        exact c h
      rw [tkB, if_neg hc]
      refine Eq.trans ih ?_
      rw [List.append_assoc]
      rfl
theorem tkB_len : ∀ l : List UInt8, (tkB l).length = l.length
  | [] => rfl
  | [_] => rfl
  | a :: b :: t => by
    rw [tkB]
    split
    · simp [tkB_len t]
    · simp [tkB_len (b :: t)]

def sgn (b : Nat) : Nat := if b % 2 = 1 then 62 else 60
/-- The signs of the row of n soldiers with a number. -/
def mk : Nat → Nat → List Nat
  | 0, _ => []
  | n + 1, v => mk n (v / 2) ++ [sgn v]
theorem mk_len : ∀ n v, (mk n v).length = n
  | 0, _ => rfl
  | n + 1, v => by simp [mk, mk_len n (v / 2)]
theorem mk_get : ∀ (n v i : Nat) (h : i < n), (mk n v)[i]'(by rw [mk_len]; exact h) = sgn (v / 2 ^ (n - 1 - i))
  | 0, _, i, h => by omega
  | n + 1, v, i, h => by
    simp only [mk]
    by_cases c : i < n
    · rw [List.getElem_append_left (by rw [mk_len]; exact c), mk_get n (v / 2) i c, Nat.div_div_eq_div_mul]
      congr 2
      rw [show n + 1 - 1 - i = (n - 1 - i) + 1 by omega, Nat.pow_succ, Nat.mul_comm]
    · have : i = n := by omega
      subst this
      rw [List.getElem_append_right (by rw [mk_len]; omega)]
      simp [mk_len]
def txt (l : List Nat) : ByteArray := ⟨(l.map UInt8.ofNat).toArray⟩
theorem txt_size (l : List Nat) : (txt l).size = l.length := by simp [txt, ByteArray.size]
theorem txt_cons (a : Nat) (l : List Nat) : (⟨#[UInt8.ofNat a]⟩ : ByteArray) ++ txt l = txt (a :: l) := by
  apply ByteArray.ext
  rw [ByteArray.data_append]
  simp [txt]

def sumJ : Nat → List Int → Int
  | _, [] => 0
  | i, a :: l => (i : Int) * a + sumJ (i + 1) l
theorem sumJ_pad : ∀ (l : List Int) (i m : Nat), sumJ i (l ++ List.replicate m 0) = sumJ i l
  | [], i, 0 => rfl
  | [], i, m + 1 => by
    have := sumJ_pad [] (i + 1) m
    rw [List.nil_append] at this ⊢
    show (i : Int) * 0 + sumJ (i + 1) (List.replicate m 0) = 0
    rw [this]
    simp [sumJ]
  | a :: l, i, m => by rw [List.cons_append, sumJ, sumJ_pad l, sumJ]
theorem sumJ_set : ∀ (l : List Int) (i t : Nat), t < l.length → sumJ i (l.set t (l.getD t 0 + 1)) = sumJ i l + ((i + t : Nat) : Int)
  | [], _, t, h => absurd h (by simp)
  | a :: l, i, 0, _ => by
    simp only [List.set_cons_zero, sumJ, List.getD_cons_zero]
    rw [Int.mul_add]; omega
  | a :: l, i, t + 1, h => by
    have := sumJ_set l (i + 1) t (by simpa using h)
    simp only [List.set_cons_succ, sumJ, List.getD_cons_succ, this]
    omega
/-- One more row that needs t ticks. -/
def stepC (out : List Int) (t : Nat) : List Int :=
  (out ++ List.replicate (t + 1 - out.length) 0).set t ((out ++ List.replicate (t + 1 - out.length) 0).getD t 0 + 1)
theorem stepC_len (out : List Int) (t : Nat) : (stepC out t).length = max out.length (t + 1) := by
  simp [stepC]; omega
theorem sumJ_step (out : List Int) (t : Nat) : sumJ 0 (stepC out t) = sumJ 0 out + (t : Int) := by
  unfold stepC
  rw [sumJ_set _ _ _ (by simp; omega), sumJ_pad]
  omega
theorem pad_get (l : List Int) (m j : Nat) : (l ++ List.replicate m 0).getD j 0 = l.getD j 0 := by
  simp only [List.getD_eq_getElem?_getD]
  by_cases h : j < l.length
  · rw [List.getElem?_append_left h]
  · rw [List.getElem?_append_right (by omega), List.getElem?_replicate, List.getElem?_eq_none (l := l) (by omega)]
    split <;> rfl
theorem stepC_get (out : List Int) (t j : Nat) : (stepC out t).getD j 0 = out.getD j 0 + if t = j then 1 else 0 := by
  unfold stepC
  rw [pad_get]
  by_cases h : t = j
  · subst h
    rw [if_pos rfl, List.getD_eq_getElem?_getD, List.getElem?_set_self (by simp; omega)]
    rfl
  · rw [if_neg h, List.getD_eq_getElem?_getD, List.getElem?_set_ne h, ← List.getD_eq_getElem?_getD, pad_get]
    omega
/-- The counts by ticks, behind the first rows. -/
def cntL (T : Nat → Nat) (n : Nat) : Nat → List Int
  | 0 => List.replicate (n + 1) 0
  | v + 1 => stepC (cntL T n v) (T v)
def cN (T : Nat → Nat) : Nat → Nat → Nat
  | 0, _ => 0
  | v + 1, j => cN T v j + if T v = j then 1 else 0
theorem cntL_get (T : Nat → Nat) (n : Nat) : ∀ v j, (cntL T n v).getD j 0 = (cN T v j : Int)
  | 0, j => by
    simp only [cntL, cN, List.getD_eq_getElem?_getD, List.getElem?_replicate]
    split <;> rfl
  | v + 1, j => by
    rw [cntL, stepC_get, cntL_get T n v j, cN]
    split <;> simp
theorem cN_le (T : Nat → Nat) (j : Nat) : ∀ v, cN T v j ≤ v
  | 0 => Nat.le_refl _
  | v + 1 => by have := cN_le T j v; rw [cN]; split <;> omega
theorem cntL_len (T : Nat → Nat) (n B : Nat) (hB : n < B) : ∀ v, (∀ u, u < v → T u < B) → n + 1 ≤ (cntL T n v).length ∧ (cntL T n v).length ≤ B
  | 0, _ => by simp [cntL]; omega
  | v + 1, h => by
    have ih := cntL_len T n B hB v (fun u hu => h u (by omega))
    have := h v (by omega)
    rw [cntL, stepC_len]; omega
def sumT (T : Nat → Nat) : Nat → Nat
  | 0 => 0
  | v + 1 => sumT T v + T v
theorem cntL_sum (T : Nat → Nat) (n : Nat) : ∀ v, sumJ 0 (cntL T n v) = (sumT T v : Int)
  | 0 => by
    have := sumJ_pad [] 0 (n + 1)
    rw [List.nil_append] at this
    rw [cntL, this]; rfl
  | v + 1 => by rw [cntL, sumJ_step, cntL_sum T n v, sumT]; omega
/-- The greatest of the first numbers. -/
def mxT (T : Nat → Nat) : Nat → Nat
  | 0 => 0
  | v + 1 => max (mxT T v) (T v)
theorem cN_zero (T : Nat → Nat) : ∀ v j, mxT T v < j → cN T v j = 0
  | 0, _, _ => rfl
  | v + 1, j, h => by
    rw [mxT] at h
    rw [cN, cN_zero T v j (by omega), if_neg (by omega)]
theorem cN_mx (T : Nat → Nat) : ∀ v, 0 < v → 0 < cN T v (mxT T v)
  | 0, h => absurd h (by decide)
  | v + 1, _ => by
    rw [cN, mxT]
    by_cases c : mxT T v ≤ T v
    · rw [Nat.max_eq_right c, if_pos rfl]; omega
    · rw [Nat.max_eq_left (by omega), if_neg (by omega)]
      cases v with
      | zero => simp [mxT] at c
      | succ v => have := cN_mx T (v + 1) (by omega); omega
/-- The last place with a number above nought. -/
def lastP : Nat → List Int → Nat → Nat
  | _, [], m => m
  | i, a :: l, m => lastP (i + 1) l (if a > 0 then i else m)
theorem lastP_none : ∀ (l : List Int) (i m : Nat), (∀ j, l.getD j 0 ≤ 0) → lastP i l m = m
  | [], _, _, _ => rfl
  | a :: l, i, m, h => by
    have h0 := h 0
    rw [List.getD_cons_zero] at h0
    rw [lastP, if_neg (by omega)]
    exact lastP_none l (i + 1) m (fun j => by have := h (j + 1); simpa using this)
theorem lastP_at : ∀ (l : List Int) (i m M : Nat), 0 < l.getD M 0 → (∀ j, M < j → l.getD j 0 ≤ 0) → lastP i l m = i + M
  | [], _, _, _, h, _ => by simp at h
  | a :: l, i, m, 0, h, hz => by
    rw [List.getD_cons_zero] at h
    rw [lastP, if_pos (by omega), lastP_none l _ _ (fun j => by have := hz (j + 1) (by omega); simpa using this)]
    rfl
  | a :: l, i, m, M + 1, h, hz => by
    rw [List.getD_cons_succ] at h
    rw [lastP, lastP_at l (i + 1) _ M h (fun j hj => by have := hz (j + 1) (by omega); simpa using this)]
    omega
theorem last_cnt (T : Nat → Nat) (n v : Nat) (hv : 0 < v) : lastP 0 (cntL T n v) 0 = mxT T v := by
  rw [lastP_at (cntL T n v) 0 0 (mxT T v) (by rw [cntL_get]; have := cN_mx T v hv; omega) (fun j hj => by rw [cntL_get, cN_zero T v j hj]; decide)]
  omega

/-! how long a history is -/
theorem n60_le (l : List UInt8) : n60 l ≤ l.length := List.length_filter_le _ _
theorem inv_le : ∀ l : List UInt8, invB l ≤ l.length * l.length
  | [] => Nat.le_refl _
  | a :: t => by
    have ih := inv_le t
    have h1 := n60_le t
    have e : (t.length + 1) * (t.length + 1) = t.length * t.length + t.length + t.length + 1 := by rw [Nat.add_mul, Nat.mul_add]; omega
    rw [invB, List.length_cons, e]
    split <;> omega
theorem hist_le : ∀ (m : Nat) (l : List UInt8), invB l ≤ m → (histL l).2.length ≤ m := by
  intro m
  induction m with
  | zero =>
    intro l h
    cases c : hasB l with
    | true => have := (inv_tk l).2 c; omega
    | false => rw [histL_rest c]; simp
  | succ m ih =>
    intro l h
    cases c : hasB l with
    | true =>
      have h1 := (inv_tk l).2 c
      have h2 := ih (tkB l) (by omega)
      rw [histL_step c, List.length_cons]; omega
    | false => rw [histL_rest c]; simp
theorem hist_bound (l : List UInt8) (h : l.length ≤ 1000) : (histL l).2.length ≤ 1000000 :=
  Nat.le_trans (hist_le _ l (Nat.le_refl _)) (Nat.le_trans (inv_le l) (Nat.le_trans (Nat.mul_le_mul h h) (by decide)))
theorem hist_len : ∀ (m : Nat) (l : List UInt8), invB l ≤ m → (histL l).1.length = l.length := by
  intro m
  induction m with
  | zero =>
    intro l h
    cases c : hasB l with
    | true => have := (inv_tk l).2 c; omega
    | false => rw [histL_rest c]
  | succ m ih =>
    intro l h
    cases c : hasB l with
    | true =>
      have h1 := (inv_tk l).2 c
      rw [histL_step c]; exact (ih (tkB l) (by omega)).trans (tkB_len l)
    | false => rw [histL_rest c]
theorem fold_one (L : List (List UInt8)) (s : Int) (h0 : 0 ≤ s) (h : s + L.length ≤ 9223372036854775807) : L.foldl (fun s _ => wrap64 (s + 1)) s = s + L.length := by
  induction L generalizing s with
  | nil => simp
  | cons a L ih =>
    simp only [List.length_cons] at h
    have e : wrap64 (s + 1) = s + 1 := by unfold wrap64; omega
    rw [List.foldl_cons, e, ih (s + 1) (by omega) (by omega), List.length_cons]
    omega
theorem prs_pos (i : Nat) (l : List UInt8) (h : hasB l = true) : 0 < (prs i l).length := by
  have := prs_has i l
  rw [h] at this
  have := of_decide_eq_false this
  omega
theorem prs_none (i : Nat) (l : List UInt8) (h : hasB l = false) : prs i l = [] := by
  have := prs_has i l
  rw [h] at this
  have := of_decide_eq_true this
  exact List.eq_nil_of_length_eq_zero (by omega)

/-! the rows by number, and their ticks -/
def mkL (n v : Nat) : List UInt8 := (mk n v).map UInt8.ofNat
theorem mkL_len (n v : Nat) : (mkL n v).length = n := by rw [mkL, List.length_map, mk_len]
theorem txt_mk (n v : Nat) : txt (mk n v) = bs (mkL n v) := rfl
def tks (n v : Nat) : Nat := (histL (mkL n v)).2.length
theorem tks_le (n v : Nat) (hn : n ≤ 12) : tks n v ≤ 144 := by
  have h1 := hist_le _ (mkL n v) (Nat.le_refl _)
  have h2 := inv_le (mkL n v)
  rw [mkL_len] at h2
  have h3 := Nat.mul_le_mul hn hn
  unfold tks; omega
theorem pow_12 (n : Nat) (hn : n ≤ 12) : 2 ^ n ≤ 4096 := Nat.le_trans (Nat.pow_le_pow_right (by decide) hn) (by decide)

/-! what the loops over the counts and the list of ticks add up to -/
def rdI (xs : List Int) (i : Nat) : Int := xs.getD i 0
def sumW (out : List Int) : Nat → Int
  | 0 => 0
  | j + 1 => wrap64 (sumW out j + wrap64 ((j : Int) * rdI out j))
def sumP (out : List Int) : Nat → Int
  | 0 => 0
  | j + 1 => sumP out j + (j : Int) * rdI out j
theorem sumJ_cons (i : Nat) (a : Int) (l : List Int) : sumJ i (a :: l) = (i : Int) * a + sumJ (i + 1) l := rfl
theorem sumJ_snoc : ∀ (l : List Int) (i : Nat) (x : Int), sumJ i (l ++ [x]) = sumJ i l + ((i + l.length : Nat) : Int) * x
  | [], i, x => by simp [sumJ]
  | a :: l, i, x => by
    rw [List.cons_append, sumJ_cons, sumJ_cons, sumJ_snoc l (i + 1) x, List.length_cons, show i + 1 + l.length = i + (l.length + 1) by omega]; omega
theorem sumP_take (out : List Int) : ∀ j, j ≤ out.length → sumP out j = sumJ 0 (out.take j)
  | 0, _ => rfl
  | j + 1, h => by
    have hj : j < out.length := by omega
    rw [sumP, sumP_take out j (by omega), List.take_succ_eq_append_getElem hj, sumJ_snoc, List.length_take, Nat.min_eq_left (by omega), Nat.zero_add]
    unfold rdI
    rw [List.getD_eq_getElem?_getD, List.getElem?_eq_getElem hj]; rfl
theorem sumW_eq (out : List Int) (hx : ∀ i, 0 ≤ rdI out i ∧ rdI out i ≤ 4096) : ∀ j, j ≤ 1000 → sumW out j = sumP out j ∧ 0 ≤ sumP out j ∧ sumP out j ≤ (j : Int) * 4096000
  | 0, _ => by simp [sumW, sumP]
  | j + 1, h => by
    have ih := sumW_eq out hx j (by omega)
    have hb := hx j
    have h1 : 0 ≤ (j : Int) * rdI out j := Int.mul_nonneg (by omega) hb.1
    have h2 : (j : Int) * rdI out j ≤ 1000 * 4096 := Int.mul_le_mul (by omega) hb.2 hb.1 (by omega)
    have e1 : wrap64 ((j : Int) * rdI out j) = (j : Int) * rdI out j := by unfold wrap64; omega
    rw [sumW, sumP, ih.1, e1]
    refine ⟨by unfold wrap64; omega, by omega, by omega⟩
theorem cnt_rd (T : Nat → Nat) (n v : Nat) (hv : v ≤ 4096) (i : Nat) : 0 ≤ rdI (cntL T n v) i ∧ rdI (cntL T n v) i ≤ 4096 := by
  unfold rdI
  rw [cntL_get]
  have := cN_le T i v
  omega
theorem sumW_cnt (T : Nat → Nat) (n v : Nat) (hv : v ≤ 4096) (hl : (cntL T n v).length ≤ 1000) : sumW (cntL T n v) (cntL T n v).length = (sumT T v : Int) := by
  rw [(sumW_eq _ (cnt_rd T n v hv) _ hl).1, sumP_take _ _ (Nat.le_refl _), List.take_length, cntL_sum]
def lastT (out : List Int) : Nat → Nat
  | 0 => 0
  | j + 1 => if rdI out j > 0 then j else lastT out j
theorem lastP_snoc : ∀ (l : List Int) (i m : Nat) (x : Int), lastP i (l ++ [x]) m = if x > 0 then i + l.length else lastP i l m
  | [], i, m, x => by simp [lastP]
  | a :: l, i, m, x => by
    rw [List.cons_append, lastP, lastP_snoc l (i + 1) _ x, lastP, List.length_cons, show i + 1 + l.length = i + (l.length + 1) by omega]
theorem lastT_take (out : List Int) : ∀ j, j ≤ out.length → lastT out j = lastP 0 (out.take j) 0
  | 0, _ => rfl
  | j + 1, h => by
    have hj : j < out.length := by omega
    rw [lastT, lastT_take out j (by omega), List.take_succ_eq_append_getElem hj, lastP_snoc, List.length_take, Nat.min_eq_left (by omega), Nat.zero_add]
    unfold rdI
    rw [List.getD_eq_getElem?_getD, List.getElem?_eq_getElem hj]; rfl
theorem lastT_cnt (T : Nat → Nat) (n v : Nat) (hv : 0 < v) : lastT (cntL T n v) (cntL T n v).length = mxT T v := by
  rw [lastT_take _ _ (Nat.le_refl _), List.take_length, last_cnt T n v hv]
/-- The list of ticks. -/
def bT (T : Nat → Nat) (v : Nat) : List Int := (List.range v).map fun u => (T u : Int)
theorem bT_len (T : Nat → Nat) (v : Nat) : (bT T v).length = v := by simp [bT]
theorem bT_succ (T : Nat → Nat) (v : Nat) : bT T v ++ [(T v : Int)] = bT T (v + 1) := by
  unfold bT; rw [List.range_succ, List.map_append]; rfl
theorem bT_rd (T : Nat → Nat) (v i : Nat) (h : i < v) : rdI (bT T v) i = (T i : Int) := by
  unfold rdI bT
  rw [List.getD_eq_getElem?_getD, List.getElem?_map, List.getElem?_range h]; rfl
def sumV (out : List Int) : Nat → Int
  | 0 => 0
  | j + 1 => wrap64 (sumV out j + rdI out j)
theorem sumV_bT (T : Nat → Nat) (v : Nat) (hv : v ≤ 4096) (hT : ∀ u, u < v → T u ≤ 144) : ∀ j, j ≤ v → sumV (bT T v) j = (sumT T j : Int) ∧ sumT T j ≤ j * 144
  | 0, _ => by simp [sumV, sumT]
  | j + 1, h => by
    have ih := sumV_bT T v hv hT j (by omega)
    have hb := hT j (by omega)
    rw [sumV, ih.1, bT_rd T v j (by omega), sumT]
    refine ⟨by unfold wrap64; omega, by omega⟩
def mxU (l : List Int) : Nat → Int
  | 0 => rdI l 0
  | j + 1 => if mxU l j < rdI l (j + 1) then rdI l (j + 1) else mxU l j
theorem mxU_bT (T : Nat → Nat) (v : Nat) : ∀ j, j < v → mxU (bT T v) j = (mxT T (j + 1) : Int)
  | 0, h => by rw [mxU, bT_rd T v 0 h]; simp [mxT]
  | j + 1, h => by
    rw [mxU, mxU_bT T v j (by omega), bT_rd T v (j + 1) h, show mxT T (j + 1 + 1) = max (mxT T (j + 1)) (T (j + 1)) from rfl]
    by_cases c : mxT T (j + 1) < T (j + 1)
    · rw [if_pos (by omega)]; omega
    · rw [if_neg (by omega)]; omega
def cntV (l : List Int) (x : Int) : Nat → Nat
  | 0 => 0
  | j + 1 => cntV l x j + if rdI l j = x then 1 else 0
theorem cntV_bT (T : Nat → Nat) (v t : Nat) : ∀ j, j ≤ v → cntV (bT T v) (t : Int) j = cN T j t
  | 0, _ => rfl
  | j + 1, h => by
    rw [cntV, cntV_bT T v t j (by omega), bT_rd T v j (by omega), cN]
    by_cases c : T j = t
    · rw [if_pos (by omega), if_pos c]
    · rw [if_neg (by omega), if_neg c]
theorem first_mx (T : Nat → Nat) : ∀ v M, 0 < cN T v M → ∃ f, f < v ∧ T f = M ∧ ∀ i, i < f → T i ≠ M
  | 0, M, h => by simp [cN] at h
  | v + 1, M, h => by
    by_cases c : 0 < cN T v M
    · obtain ⟨f, h1, h2, h3⟩ := first_mx T v M c
      exact ⟨f, by omega, h2, h3⟩
    · rw [cN] at h
      by_cases e : T v = M
      · refine ⟨v, by omega, e, fun i hi hM => c ?_⟩
        have : ∀ u, i < u → 0 < cN T u M := by
          intro u
          induction u with
          | zero => omega
          | succ u ih =>
            intro hu
            rw [cN]
            by_cases e2 : i = u
            · rw [← e2, if_pos hM]; omega
            · have := ih (by omega); omega
        exact this v hi
      · rw [if_neg e] at h; omega

/-! the bytes of a row by number, as they are laid one by one -/
def intsN (l : List Nat) : List Int := l.map fun n : Nat => (n : Int)
def rowX (n v j : Nat) : List Int := intsN ((mk n v).take j) ++ List.replicate (n - j) 0
theorem rowX_len (n v j : Nat) (h : j ≤ n) : (rowX n v j).length = n := by
  simp [rowX, intsN, mk_len]; omega
theorem rowX_zero (n v : Nat) : rowX n v 0 = List.replicate n 0 := by simp [rowX, intsN]
theorem rowX_step (n v j : Nat) (h : j < n) : (rowX n v j).set j ((sgn (v / 2 ^ (n - 1 - j)) : Nat) : Int) = rowX n v (j + 1) := by
  have hl : (intsN ((mk n v).take j)).length = j := by simp [intsN, mk_len]; omega
  have e : n - j = (n - (j + 1)) + 1 := by omega
  unfold rowX
  rw [List.set_append_right _ _ (by omega), hl, Nat.sub_self, e, List.replicate_succ, List.set_cons_zero, List.take_succ_eq_append_getElem (by rw [mk_len]; exact h), mk_get n v j h]
  simp [intsN]
theorem rowX_full (n v : Nat) : rowX n v n = intsN (mk n v) := by
  unfold rowX
  rw [List.take_of_length_le (by rw [mk_len]; omega), Nat.sub_self]; simp

/-! how often each turns -/
def bump (out : List Int) (x : Int) : List Int := (out.set x.toNat (wrap64 (rdI out x.toNat + 1))).set (x.toNat + 1) (wrap64 (rdI out (x.toNat + 1) + 1))
theorem bump_len (out : List Int) (x : Int) : (bump out x).length = out.length := by simp [bump]
def bumps (out ps : List Int) : List Int := ps.foldl bump out
theorem bumps_len (ps : List Int) : ∀ out, (bumps out ps).length = out.length := by
  induction ps with
  | nil => intro out; rfl
  | cons a t ih => intro out; exact (ih (bump out a)).trans (bump_len out a)
theorem bumps_succ (out ps : List Int) (j : Nat) (h : j < ps.length) : bumps out (ps.take (j + 1)) = bump (bumps out (ps.take j)) ps[j] := by
  unfold bumps
  rw [List.take_succ_eq_append_getElem h, List.foldl_append]; rfl
def eachL (l : List UInt8) (out : List Int) : List Int := (histL l).2.foldl (fun o l' => bumps o (prs 0 l')) out
theorem each_step {l : List UInt8} (h : hasB l = true) (out : List Int) : eachL l out = eachL (tkB l) (bumps out (prs 0 l)) := by
  unfold eachL; rw [histL_step h]; rfl
theorem each_rest {l : List UInt8} (h : hasB l = false) (out : List Int) : eachL l out = out := by
  unfold eachL; rw [histL_rest h]; rfl
theorem foldl_len {α : Type} (f : List Int → α → List Int) (hf : ∀ o a, (f o a).length = o.length) : ∀ (L : List α) (o : List Int), (L.foldl f o).length = o.length
  | [], _ => rfl
  | a :: L, o => (foldl_len f hf L (f o a)).trans (hf o a)
theorem each_len (l : List UInt8) (out : List Int) : (eachL l out).length = out.length := foldl_len _ (fun o l' => bumps_len _ o) _ _

/-! the rows from which a tick leads to a row -/
def befL (l : List UInt8) : Nat → List ByteArray
  | 0 => []
  | v + 1 => befL l v ++ if (bs (tkB (mkL l.length v))).toList = (bs l).toList then [bs (mkL l.length v)] else []
theorem befL_len (l : List UInt8) : ∀ v, (befL l v).length ≤ v
  | 0 => Nat.le_refl _
  | v + 1 => by
    have := befL_len l v
    rw [befL, List.length_append]
    split <;> simp <;> omega

end Go.Proofs.YtleacijhpkogpabDoor.RPlain
/- Plain laws of rows, continued: the other side. -/
namespace Go.Proofs.YtleacijhpkogpabDoor.RPlain
open Go.RowKit
set_option linter.unusedVariables false
set_option linter.unusedSimpArgs false

/-- The other side, sign by sign. -/
def otherB (b : UInt8) : UInt8 := if b = 60 then 62 else 60
theorem mapD_other : ∀ l : List UInt8, l.all (fun b => b == 60 || b == 62) = true → Lib.mapD (fun x => 122 - x) l = l.map otherB
  | [], _ => rfl
  | a :: t, h => by
    rw [List.all_cons, Bool.and_eq_true] at h
    have ha : a = 60 ∨ a = 62 := by simpa using h.1
    have hd : Lib.decodeL (a :: t) = (a.toNat, 1) := Lib.decodeL_ascii a t (by rcases ha with rfl | rfl <;> decide)
    rw [Lib.mapD_step _ _ (by simp), hd]
    simp only [List.drop_succ_cons, List.drop_zero]
    rw [mapD_other t h.2, List.map_cons]
    rcases ha with rfl | rfl <;> rfl
theorem other_all : ∀ l : List UInt8, l.all (fun b => b == 60 || b == 62) = true → (l.map otherB).all (fun b => b == 60 || b == 62) = true
  | [], _ => rfl
  | a :: t, h => by
    rw [List.all_cons, Bool.and_eq_true] at h
    rw [List.map_cons, List.all_cons, other_all t h.2, Bool.and_true]
    unfold otherB
    split <;> decide
theorem bs_snoc (l : List UInt8) (c : UInt8) : bs l ++ (⟨#[c]⟩ : ByteArray) = bs (l ++ [c]) := by
  apply ByteArray.ext
  rw [ByteArray.data_append]
  simp [bs]
end Go.Proofs.YtleacijhpkogpabDoor.RPlain
/- Plain laws of rows, third part: what a tick does place by place, how many ticks there are at most, the row at rest, rows and their numbers. -/
namespace Go.Proofs.YtleacijhpkogpabDoor.RPlain
open Go.RowKit
set_option linter.unusedVariables false
set_option linter.unusedSimpArgs false

/-- All look to a side. -/
def Al (l : List UInt8) : Prop := ∀ b ∈ l, b = 60 ∨ b = 62
theorem al_of {l : List UInt8} (h : l.all (fun b => b == 60 || b == 62) = true) : Al l := by
  intro b hb
  have := List.all_eq_true.1 h b hb
  simpa using this
theorem al_row {l : List UInt8} (h : rowB (bs l) = true) : Al l := al_of (rowB_all h)
theorem row_al {l : List UInt8} (h : Al l) (h1 : 1 ≤ l.length) (h2 : l.length ≤ 60) : rowB (bs l) = true := by
  unfold rowB
  simp only [Bool.and_eq_true, decide_eq_true_eq]
  refine ⟨⟨h1, h2⟩, ?_⟩
  rw [List.all_eq_true]
  intro b hb
  have := h b hb
  simpa using this
theorem al_tail {a : UInt8} {l : List UInt8} (h : Al (a :: l)) : Al l := fun b hb => h b (List.mem_cons_of_mem _ hb)
theorem al_head {a : UInt8} {l : List UInt8} (h : Al (a :: l)) : a = 60 ∨ a = 62 := h a (List.mem_cons_self ..)
theorem two_and {a b : UInt8} (c : ¬ (a = 62 ∧ b = 60)) : ¬ (a == 62 && b == 60) = true := by
  intro h
  simp only [Bool.and_eq_true, beq_iff_eq] at h
  exact c h
theorem al_tk : ∀ l : List UInt8, Al l → Al (tkB l)
  | [], h => h
  | [_], h => h
  | a :: b :: t, h => by
    rw [tkB]
    split
    · have ih := al_tk t (al_tail (al_tail h))
      intro x hx
      rcases List.mem_cons.1 hx with rfl | hx
      · exact .inl rfl
      · rcases List.mem_cons.1 hx with rfl | hx
        · exact .inr rfl
        · exact ih x hx
    · have ih := al_tk (b :: t) (al_tail h)
      intro x hx
      rcases List.mem_cons.1 hx with rfl | hx
      · exact al_head h
      · exact ih x hx

/-! pairs and turns -/
theorem inv_tk_prs : ∀ (i : Nat) (l : List UInt8), invB (tkB l) + (prs i l).length = invB l
  | i, [] => by simp [tkB, prs, invB]
  | i, [a] => by simp [tkB, prs, invB]
  | i, a :: b :: t => by
    rw [tkB, prs]
    by_cases c : a = 62 ∧ b = 60
    · obtain ⟨rfl, rfl⟩ := c
      have ih := inv_tk_prs (i + 1 + 1) t
      have hn := n60_tk t
      rw [if_pos (by decide), if_pos ⟨rfl, rfl⟩, prs_60, List.length_cons]
      have e1 : invB (60 :: 62 :: tkB t) = n60 (tkB t) + invB (tkB t) := by simp [invB]
      have e2 : invB (62 :: 60 :: t) = n60 t + 1 + invB t := by simp [invB, n60]
      rw [e1, e2, hn]; omega
    · rw [if_neg (two_and c), if_neg c]
      have ih := inv_tk_prs (i + 1) (b :: t)
      have hn := n60_tk (b :: t)
      rw [invB, show invB (a :: b :: t) = (if a = 62 then n60 (b :: t) else 0) + invB (b :: t) from rfl, hn]; omega

/-! place by place -/
def fc (l : List UInt8) (i : Nat) : Prop := l[i]? = some 62 ∧ l[i + 1]? = some 60
instance (l : List UInt8) (i : Nat) : Decidable (fc l i) := inferInstanceAs (Decidable (_ ∧ _))
theorem fc_cons (a : UInt8) (l : List UInt8) (i : Nat) : fc (a :: l) (i + 1) ↔ fc l i := by simp [fc]
theorem tkB_get : ∀ (l : List UInt8) (i : Nat), (tkB l)[i]? = if fc l i then some 60 else if 0 < i ∧ fc l (i - 1) then some 62 else l[i]?
  | [], i => by simp [tkB, fc]
  | [a], 0 => by simp [tkB, fc]
  | [a], i + 1 => by simp [tkB, fc]
  | a :: b :: t, i => by
    rw [tkB]
    by_cases c : a = 62 ∧ b = 60
    · obtain ⟨rfl, rfl⟩ := c
      rw [if_pos (by decide)]
      match i with
      | 0 => simp [fc]
      | 1 => simp [fc]
      | 2 =>
        have ih := tkB_get t 0
        have e1 : fc (62 :: 60 :: t) 2 ↔ fc t 0 := by simp [fc]
        have e2 : ¬ fc (62 :: 60 :: t) 1 := by simp [fc]
        simp only [List.getElem?_cons_succ, ih, e1]
        simp [e2]
      | k + 3 =>
        have ih := tkB_get t (k + 1)
        have e1 : fc (62 :: 60 :: t) (k + 3) ↔ fc t (k + 1) := by simp [fc]
        have e2 : fc (62 :: 60 :: t) (k + 2) ↔ fc t k := by simp [fc]
        simp only [List.getElem?_cons_succ, ih, e1]
        simp [e2]
    · rw [if_neg (two_and c)]
      match i with
      | 0 =>
        have e : ¬ fc (a :: b :: t) 0 := by simpa [fc] using c
        simp [e]
      | 1 =>
        have ih := tkB_get (b :: t) 0
        have e1 : fc (a :: b :: t) 1 ↔ fc (b :: t) 0 := by simp [fc]
        have e2 : ¬ fc (a :: b :: t) 0 := by simpa [fc] using c
        simp only [List.getElem?_cons_succ, ih, e1]
        simp [e2]
      | k + 2 =>
        have ih := tkB_get (b :: t) (k + 1)
        have e1 : fc (a :: b :: t) (k + 2) ↔ fc (b :: t) (k + 1) := by simp [fc]
        have e2 : fc (a :: b :: t) (k + 1) ↔ fc (b :: t) k := by simp [fc]
        simp only [List.getElem?_cons_succ, ih, e1]
        simp [e2]
theorem fc_lt {l : List UInt8} {i : Nat} (h : fc l i) : i + 1 < l.length := by
  have := h.2
  rcases Nat.lt_or_ge (i + 1) l.length with h1 | h1
  · exact h1
  · rw [List.getElem?_eq_none h1] at this; cases this
theorem prs_mem_iff : ∀ (l : List UInt8) (i : Nat) (x : Int), x ∈ prs i l ↔ ∃ j : Nat, x = ((i + j : Nat) : Int) ∧ fc l j
  | [], i, x => by simp [prs, fc]
  | [a], i, x => by simp [prs, fc]
  | a :: b :: t, i, x => by
    have ih := prs_mem_iff (b :: t) (i + 1) x
    have hs : (∃ j : Nat, x = ((i + j : Nat) : Int) ∧ fc (a :: b :: t) j) ↔ (x = (i : Int) ∧ (a = 62 ∧ b = 60)) ∨ ∃ j : Nat, x = ((i + 1 + j : Nat) : Int) ∧ fc (b :: t) j := by
      constructor
      · rintro ⟨j, h1, h2⟩
        cases j with
        | zero => exact .inl ⟨by simpa using h1, by simpa [fc] using h2⟩
        | succ j => exact .inr ⟨j, by rw [h1]; omega, (fc_cons a (b :: t) j).1 h2⟩
      · rintro (⟨h1, h2⟩ | ⟨j, h1, h2⟩)
        · exact ⟨0, by simpa using h1, by simpa [fc] using h2⟩
        · exact ⟨j + 1, by rw [h1]; omega, (fc_cons a (b :: t) j).2 h2⟩
    rw [hs, ← ih, prs]
    by_cases c : a = 62 ∧ b = 60
    · rw [if_pos c, List.mem_cons]; simp [c]
    · rw [if_neg c]; simp [c]
theorem prs_lt : ∀ (l : List UInt8) (i : Nat), (prs i l).Pairwise (· < ·)
  | [], i => by simp [prs]
  | [a], i => by simp [prs]
  | a :: b :: t, i => by
    have ih := prs_lt (b :: t) (i + 1)
    rw [prs]
    by_cases c : a = 62 ∧ b = 60
    · rw [if_pos c, List.pairwise_cons]
      refine ⟨fun x hx => ?_, ih⟩
      obtain ⟨j, rfl, _⟩ := (prs_mem_iff _ _ _).1 hx
      omega
    · rw [if_neg c]; exact ih

/-! how many ticks -/
def phi : Nat → Nat → List UInt8 → Nat
  | _, t, [] => t
  | r, t, a :: l => if a = 62 then phi (r + 1) t l else phi r (if r = 0 then t else max (t + 1) r) l
theorem phi_62 (r t : Nat) (l : List UInt8) : phi r t (62 :: l) = phi (r + 1) t l := by rw [phi, if_pos rfl]
theorem phi_60 (r t : Nat) (l : List UInt8) : phi r t (60 :: l) = phi r (if r = 0 then t else max (t + 1) r) l := by rw [phi, if_neg (by decide)]
theorem phi_ge : ∀ (l : List UInt8) (r t : Nat), t ≤ phi r t l
  | [], _, _ => Nat.le_refl _
  | a :: l, r, t => by
    rw [phi]
    split
    · exact phi_ge l _ _
    · refine Nat.le_trans ?_ (phi_ge l _ _)
      split <;> omega
theorem phi_pos : ∀ (l : List UInt8) (r t : Nat), Al l → hasB l = true → 0 < phi r t l
  | [], _, _, _, h => by simp [hasB] at h
  | [_], _, _, _, h => by simp [hasB] at h
  | a :: b :: l, r, t, hA, h => by
    by_cases c : a = 62 ∧ b = 60
    · obtain ⟨rfl, rfl⟩ := c
      rw [phi_62, phi_60, if_neg (by omega)]
      have := phi_ge l (r + 1) (max (t + 1) (r + 1))
      omega
    · have hh : hasB (a :: b :: l) = hasB (b :: l) := by rw [hasB, Bool.eq_false_iff.mpr (two_and c), Bool.false_or]
      rw [hh] at h
      rw [phi]
      split
      · exact phi_pos (b :: l) _ _ (al_tail hA) h
      · exact phi_pos (b :: l) _ _ (al_tail hA) h
theorem phi_tk : ∀ (l : List UInt8) (r t u : Nat), Al l → (u + 1 ≤ t ∨ (t = 0 ∧ u = 0)) → (l.head? = some 60 → r ≤ t) →
    phi r u (tkB l) + 1 ≤ phi r t l ∨ (phi r t l = 0 ∧ phi r u (tkB l) = 0)
  | [], r, t, u, _, h, _ => h
  | [a], r, t, u, hA, h, hh => by
    show phi r u [a] + 1 ≤ phi r t [a] ∨ (phi r t [a] = 0 ∧ phi r u [a] = 0)
    rcases al_head hA with rfl | rfl
    · rw [phi_60, phi_60]
      have := hh rfl
      simp only [phi]
      split <;> omega
    · rw [phi_62, phi_62]; exact h
  | a :: b :: l, r, t, u, hA, h, hh => by
    rw [tkB]
    by_cases c : a = 62 ∧ b = 60
    · obtain ⟨rfl, rfl⟩ := c
      rw [if_pos (by decide), phi_62, phi_60, phi_60, phi_62, if_neg (show ¬ r + 1 = 0 by omega)]
      refine phi_tk l (r + 1) _ _ (al_tail (al_tail hA)) (.inl ?_) (fun _ => by omega)
      split <;> omega
    · rw [if_neg (two_and c)]
      rcases al_head hA with rfl | rfl
      · rw [phi_60, phi_60]
        have h1 := hh rfl
        refine phi_tk (b :: l) r _ _ (al_tail hA) ?_ (fun _ => ?_)
        · split <;> omega
        · split <;> omega
      · rw [phi_62, phi_62]
        refine phi_tk (b :: l) (r + 1) t u (al_tail hA) h (fun hb => ?_)
        exact absurd ⟨rfl, by simpa using hb⟩ c
theorem phi_b : ∀ (l : List UInt8) (r t B : Nat), 0 < r → t + 1 ≤ B → r ≤ B → phi r t l + 1 ≤ B + l.length
  | [], r, t, B, _, h, _ => by rw [phi, List.length_nil]; omega
  | a :: l, r, t, B, h0, h1, h2 => by
    rw [phi, List.length_cons]
    split
    · have := phi_b l (r + 1) t (B + 1) (by omega) (by omega) (by omega); omega
    · have := phi_b l r (if r = 0 then t else max (t + 1) r) (B + 1) h0 (by split <;> omega) (by omega); omega
theorem phi_le : ∀ (l : List UInt8), phi 0 0 l ≤ l.length - 1
  | [] => by simp [phi]
  | a :: l => by
    have ih := phi_le l
    rw [phi, List.length_cons]
    split
    · have := phi_b l 1 0 1 (by omega) (by omega) (by omega)
      rw [Nat.zero_add]; omega
    · rw [if_pos rfl]; omega
theorem hist_phi : ∀ (m : Nat) (l : List UInt8), Al l → phi 0 0 l ≤ m → (histL l).2.length ≤ m := by
  intro m
  induction m with
  | zero =>
    intro l hA h
    cases c : hasB l with
    | true => have := phi_pos l 0 0 hA c; omega
    | false => rw [histL_rest c]; simp
  | succ m ih =>
    intro l hA h
    cases c : hasB l with
    | true =>
      have h1 := phi_pos l 0 0 hA c
      have h2 := phi_tk l 0 0 0 hA (.inr ⟨rfl, rfl⟩) (fun _ => Nat.le_refl _)
      have h3 := ih (tkB l) (al_tk l hA) (by omega)
      rw [histL_step c, List.length_cons]; omega
    | false => rw [histL_rest c]; simp
theorem ticks_le (l : List UInt8) (hA : Al l) : (histL l).2.length ≤ l.length - 1 := hist_phi _ l hA (phi_le l)
theorem ticks_zero (l : List UInt8) : (histL l).2.length = 0 ↔ hasB l = false := by
  cases c : hasB l with
  | true => rw [histL_step c]; simp
  | false => rw [histL_rest c]; simp
theorem ticks_tk (l : List UInt8) : (histL (tkB l)).2.length = (histL l).2.length - 1 := by
  cases c : hasB l with
  | true => rw [histL_step c]; simp
  | false =>
    have e : tkB l = l := tk_miss l (by
      have := index_two l
      rw [c] at this
      have h2 := Lib.index_ge l [62, 60]
      have h3 := of_decide_eq_false this
      omega)
    rw [e, histL_rest c]; rfl
theorem tk_same {l : List UInt8} (c : hasB l = false) : tkB l = l := tk_miss l (by
  have := index_two l
  rw [c] at this
  have h2 := Lib.index_ge l [62, 60]
  have h3 := of_decide_eq_false this
  omega)
theorem ticks_inv (l : List UInt8) : (histL l).2.length ≤ invB l := hist_le _ l (Nat.le_refl _)

/-! the row at rest -/
theorem rest_form : ∀ l : List UInt8, Al l → hasB l = false → l = List.replicate (n60 l) 60 ++ List.replicate (l.length - n60 l) 62
  | [], _, _ => rfl
  | [a], hA, _ => by
    rcases al_head hA with rfl | rfl <;> rfl
  | a :: b :: t, hA, h => by
    have hb : hasB (b :: t) = false := by
      rw [hasB, Bool.or_eq_false_iff] at h; exact h.2
    have ih := rest_form (b :: t) (al_tail hA) hb
    rcases al_head hA with rfl | rfl
    · have e : n60 (60 :: b :: t) = n60 (b :: t) + 1 := by simp [n60]
      rw [e, List.length_cons, List.replicate_succ, List.cons_append, show (b :: t).length + 1 - (n60 (b :: t) + 1) = (b :: t).length - n60 (b :: t) by omega, ← ih]
    · have hb62 : b = 62 := by
        rw [hasB, Bool.or_eq_false_iff] at h
        rcases al_head (al_tail hA) with rfl | rfl
        · exact absurd h.1 (by decide)
        · rfl
      subst hb62
      have e0 : n60 (62 :: t) = 0 := by
        cases hn : n60 (62 :: t) with
        | zero => rfl
        | succ k =>
          rw [hn, List.replicate_succ, List.cons_append] at ih
          injection ih with h1 _
          exact absurd h1 (by decide)
      have e1 : n60 (62 :: 62 :: t) = 0 := by
        have : n60 (62 :: 62 :: t) = n60 (62 :: t) := by simp [n60]
        rw [this, e0]
      rw [e0] at ih
      rw [e1, List.length_cons, Nat.sub_zero, List.replicate_succ, List.replicate_zero, List.nil_append]
      rw [Nat.sub_zero, List.replicate_zero, List.nil_append] at ih
      rw [← ih]
theorem hist_rest : ∀ (m : Nat) (l : List UInt8), Al l → invB l ≤ m → hasB (histL l).1 = false ∧ Al (histL l).1 ∧ n60 (histL l).1 = n60 l := by
  intro m
  induction m with
  | zero =>
    intro l hA h
    cases c : hasB l with
    | true => have := (inv_tk l).2 c; omega
    | false => rw [histL_rest c]; exact ⟨c, hA, rfl⟩
  | succ m ih =>
    intro l hA h
    cases c : hasB l with
    | true =>
      have h1 := (inv_tk l).2 c
      have h2 := ih (tkB l) (al_tk l hA) (by omega)
      rw [histL_step c]
      exact ⟨h2.1, h2.2.1, h2.2.2.trans (n60_tk l)⟩
    | false => rw [histL_rest c]; exact ⟨c, hA, rfl⟩
theorem rest_is (l : List UInt8) (hA : Al l) : (histL l).1 = List.replicate (n60 l) 60 ++ List.replicate (l.length - n60 l) 62 := by
  have h := hist_rest _ l hA (Nat.le_refl _)
  have e := rest_form _ h.2.1 h.1
  rw [h.2.2, hist_len _ l (Nat.le_refl _)] at e
  exact e
theorem rest_same (l : List UInt8) : (histL l).1 = l ↔ hasB l = false := by
  constructor
  · intro h
    cases c : hasB l with
    | false => rfl
    | true =>
      exfalso
      have key : ∀ (m : Nat) (l : List UInt8), invB l ≤ m → hasB (histL l).1 = false := by
        intro m
        induction m with
        | zero =>
          intro l h
          cases c : hasB l with
          | true => have := (inv_tk l).2 c; omega
          | false => rw [histL_rest c]; exact c
        | succ m ih =>
          intro l h
          cases c : hasB l with
          | true => have h1 := (inv_tk l).2 c; rw [histL_step c]; exact ih (tkB l) (by omega)
          | false => rw [histL_rest c]; exact c
      have := key _ l (Nat.le_refl _)
      rw [h, c] at this
      cases this
  · intro h; rw [histL_rest h]

/-! so many ticks -/
def aftL (l : List UInt8) : Nat → List UInt8
  | 0 => l
  | k + 1 => aftL (tkB l) k
theorem aft_rest {l : List UInt8} (h : hasB l = false) : ∀ k, aftL l k = l
  | 0 => rfl
  | k + 1 => by rw [aftL, tk_same h]; exact aft_rest h k
theorem aft_succ : ∀ (k : Nat) (l : List UInt8), aftL l (k + 1) = tkB (aftL l k)
  | 0, _ => rfl
  | k + 1, l => by rw [aftL, aft_succ k (tkB l)]; rfl
theorem aft_len : ∀ (k : Nat) (l : List UInt8), (aftL l k).length = l.length
  | 0, _ => rfl
  | k + 1, l => (aft_len k (tkB l)).trans (tkB_len l)
theorem aft_al : ∀ (k : Nat) (l : List UInt8), Al l → Al (aftL l k)
  | 0, _, h => h
  | k + 1, l, h => aft_al k (tkB l) (al_tk l h)

/-! rows and their numbers -/
def bitB (b : UInt8) : Nat := if b = 62 then 1 else 0
def numL (l : List UInt8) : Nat := l.foldl (fun n b => 2 * n + bitB b) 0
theorem num_snoc (l : List UInt8) (b : UInt8) : numL (l ++ [b]) = 2 * numL l + bitB b := by
  unfold numL; rw [List.foldl_append]; rfl
theorem mkL_succ (n v : Nat) : mkL (n + 1) v = mkL n (v / 2) ++ [UInt8.ofNat (sgn v)] := by
  unfold mkL; rw [mk, List.map_append]; rfl
theorem bit_sgn (v : Nat) : bitB (UInt8.ofNat (sgn v)) = v % 2 := by
  unfold sgn bitB
  rcases Nat.mod_two_eq_zero_or_one v with h | h
  · rw [h, if_neg (by decide)]; try decide
  · rw [h, if_pos rfl]; try decide
theorem num_mk : ∀ (n v : Nat), v < 2 ^ n → numL (mkL n v) = v
  | 0, v, h => by
    have : v = 0 := by simpa using h
    subst this; rfl
  | n + 1, v, h => by
    rw [mkL_succ, num_snoc, num_mk n (v / 2) (by rw [Nat.pow_succ] at h; omega), bit_sgn]
    omega
theorem num_lt : ∀ (n : Nat) (l : List UInt8), l.length = n → numL l < 2 ^ n := by
  intro n
  induction n with
  | zero => intro l h; rw [List.eq_nil_of_length_eq_zero h]; decide
  | succ n ih =>
    intro l h
    have hne : l ≠ [] := by intro e; rw [e] at h; cases h
    rw [← List.dropLast_concat_getLast hne, num_snoc, Nat.pow_succ]
    have h1 := ih l.dropLast (by rw [List.length_dropLast]; omega)
    have h2 : bitB (l.getLast hne) ≤ 1 := by unfold bitB; split <;> omega
    omega
theorem mk_num : ∀ (n : Nat) (l : List UInt8), l.length = n → Al l → mkL n (numL l) = l := by
  intro n
  induction n with
  | zero => intro l h _; rw [List.eq_nil_of_length_eq_zero h]; rfl
  | succ n ih =>
    intro l h hA
    have hne : l ≠ [] := by intro e; rw [e] at h; cases h
    have e := (List.dropLast_concat_getLast hne).symm
    have h2 : bitB (l.getLast hne) ≤ 1 := by unfold bitB; split <;> omega
    have hl := hA _ (List.getLast_mem hne)
    have h1 := ih l.dropLast (by rw [List.length_dropLast]; omega) (fun b hb => hA b (List.dropLast_subset l hb))
    have en : numL l = 2 * numL l.dropLast + bitB (l.getLast hne) := by
      conv => lhs; rw [e]
      exact num_snoc _ _
    rw [en, mkL_succ, show (2 * numL l.dropLast + bitB (l.getLast hne)) / 2 = numL l.dropLast by omega, h1]
    conv => rhs; rw [e]
    congr 2
    unfold sgn
    rw [show (2 * numL l.dropLast + bitB (l.getLast hne)) % 2 = bitB (l.getLast hne) by omega]
    rcases hl with h | h <;> rw [h] <;> rfl
theorem al_mk : ∀ (n v : Nat), Al (mkL n v)
  | 0, _ => fun b hb => by cases hb
  | n + 1, v => by
    intro b hb
    rw [mkL_succ] at hb
    rcases List.mem_append.1 hb with h | h
    · exact al_mk n _ b h
    · have : b = UInt8.ofNat (sgn v) := by simpa using h
      rw [this]; unfold sgn
      split
      · exact .inr rfl
      · exact .inl rfl
theorem tks_n (n v : Nat) : tks n v ≤ n - 1 := by
  have := ticks_le (mkL n v) (al_mk n v)
  rw [mkL_len] at this
  exact this

/-! how many rest -/
theorem has_62 : ∀ l : List UInt8, hasB (l ++ [62]) = hasB l
  | [] => rfl
  | [a] => by simp [hasB]
  | a :: b :: t => by
    have := has_62 (b :: t)
    rw [List.cons_append] at this
    rw [List.cons_append, List.cons_append, hasB, this, hasB]
theorem has_60 : ∀ l : List UInt8, Al l → (hasB (l ++ [60]) = false ↔ ∀ b ∈ l, b = 60)
  | [], _ => by simp [hasB]
  | [a], h => by
    rcases al_head h with rfl | rfl <;> simp [hasB]
  | a :: b :: t, h => by
    have ih := has_60 (b :: t) (al_tail h)
    rw [List.cons_append] at ih
    rw [List.cons_append, List.cons_append, hasB, Bool.or_eq_false_iff, ih]
    constructor
    · rintro ⟨h1, h2⟩ x hx
      rcases List.mem_cons.1 hx with rfl | hx
      · rcases al_head h with h3 | h3
        · exact h3
        · have := h2 b (List.mem_cons_self ..)
          rw [h3, this] at h1
          exact absurd h1 (by decide)
      · exact h2 x hx
    · intro h2
      refine ⟨?_, fun x hx => h2 x (List.mem_cons_of_mem _ hx)⟩
      rw [h2 a (List.mem_cons_self ..)]; simp
theorem num_all : ∀ (n : Nat) (l : List UInt8), l.length = n → (∀ b ∈ l, b = 60) → numL l = 0 := by
  intro n l _ h
  have e : l = List.replicate l.length 60 := List.eq_replicate_of_mem h
  rw [e]
  generalize l.length = m
  induction m with
  | zero => rfl
  | succ m ih => rw [List.replicate_succ', num_snoc, ih]; rfl
theorem mk_zero : ∀ n : Nat, ∀ b ∈ mkL n 0, b = 60
  | 0, b, h => by cases h
  | n + 1, b, h => by
    rw [mkL_succ] at h
    rcases List.mem_append.1 h with h | h
    · exact mk_zero n b h
    · simpa [sgn] using h
/-- How many of the first rows rest. -/
def rc (n : Nat) : Nat → Nat
  | 0 => 0
  | v + 1 => rc n v + if hasB (mkL n v) = false then 1 else 0
theorem rc_double (n : Nat) : ∀ V, V ≤ 2 ^ n → rc (n + 1) (2 * V) = rc n V + if 0 < V then 1 else 0
  | 0, _ => rfl
  | V + 1, h => by
    have ih := rc_double n V (by omega)
    have e0 : mkL (n + 1) (2 * V) = mkL n V ++ [60] := by
      rw [mkL_succ, show 2 * V / 2 = V by omega]
      congr 2; unfold sgn; rw [if_neg (by omega)]; rfl
    have e1 : mkL (n + 1) (2 * V + 1) = mkL n V ++ [62] := by
      rw [mkL_succ, show (2 * V + 1) / 2 = V by omega]
      congr 2; unfold sgn; rw [if_pos (by omega)]; rfl
    have hz : hasB (mkL n V ++ [60]) = false ↔ V = 0 := by
      rw [has_60 _ (al_mk n V)]
      constructor
      · intro h2
        have := num_all n _ (mkL_len n V) h2
        rw [num_mk n V (by omega)] at this
        exact this
      · rintro rfl; exact mk_zero n
    rw [show 2 * (V + 1) = 2 * V + 1 + 1 by omega, rc, rc, e1, e0, has_62, ih, rc]
    by_cases c : V = 0
    · rw [if_pos (hz.2 c), if_neg (show ¬ 0 < V by omega), if_pos (show 0 < V + 1 by omega)]; omega
    · rw [if_neg (fun h3 => c (hz.1 h3)), if_pos (show 0 < V by omega), if_pos (show 0 < V + 1 by omega)]; omega
theorem rc_all : ∀ n, rc n (2 ^ n) = n + 1
  | 0 => by decide
  | n + 1 => by
    rw [Nat.pow_succ, Nat.mul_comm, rc_double n _ (Nat.le_refl _), rc_all n, if_pos (Nat.two_pow_pos n)]
theorem cN_rest (n : Nat) : ∀ V, cN (tks n) V 0 = rc n V
  | 0 => rfl
  | V + 1 => by
    rw [cN, rc, cN_rest n V]
    have := ticks_zero (mkL n V)
    change tks n V = 0 ↔ _ at this
    by_cases c : hasB (mkL n V) = false
    · rw [if_pos (show tks n V = 0 from this.2 c), if_pos c]
    · rw [if_neg (fun h => c (this.1 h)), if_neg c]

/-! sums over the counts -/
def sC (T : Nat → Nat) (V : Nat) : Nat → Nat
  | 0 => 0
  | t + 1 => sC T V t + cN T V t
def sW (T : Nat → Nat) (V : Nat) : Nat → Nat
  | 0 => 0
  | t + 1 => sW T V t + t * cN T V t
theorem sC_step (T : Nat → Nat) (V : Nat) : ∀ B, sC T (V + 1) B = sC T V B + if T V < B then 1 else 0
  | 0 => rfl
  | B + 1 => by
    rw [sC, sC_step T V B, sC, cN]
    by_cases c : T V < B
    · rw [if_pos c, if_neg (by omega), if_pos (by omega)]; omega
    · by_cases d : T V = B
      · rw [if_neg c, if_pos d, if_pos (by omega)]; omega
      · rw [if_neg c, if_neg d, if_neg (by omega)]; omega
theorem sC_zero (T : Nat → Nat) : ∀ B, sC T 0 B = 0
  | 0 => rfl
  | B + 1 => by rw [sC, sC_zero T B]; rfl
theorem sC_all (T : Nat → Nat) (B : Nat) : ∀ V, (∀ v, v < V → T v < B) → sC T V B = V
  | 0, _ => sC_zero T B
  | V + 1, h => by rw [sC_step, sC_all T B V (fun v hv => h v (by omega)), if_pos (h V (by omega))]
theorem sW_step (T : Nat → Nat) (V : Nat) : ∀ B, sW T (V + 1) B = sW T V B + if T V < B then T V else 0
  | 0 => rfl
  | B + 1 => by
    rw [sW, sW_step T V B, sW, cN, Nat.mul_add]
    by_cases c : T V < B
    · rw [if_pos c, if_neg (by omega), if_pos (by omega)]; omega
    · by_cases d : T V = B
      · rw [if_neg c, if_pos d, if_pos (by omega)]; omega
      · rw [if_neg c, if_neg d, if_neg (by omega)]; omega
theorem sW_zero (T : Nat → Nat) : ∀ B, sW T 0 B = 0
  | 0 => rfl
  | B + 1 => by rw [sW, sW_zero T B]; simp [cN]
theorem sW_all (T : Nat → Nat) (B : Nat) : ∀ V, (∀ v, v < V → T v < B) → sW T V B = sumT T V
  | 0, _ => sW_zero T B
  | V + 1, h => by rw [sW_step, sW_all T B V (fun v hv => h v (by omega)), if_pos (h V (by omega)), sumT]
/-! the rows from which a tick leads to a row, in order -/
theorem less_same : ∀ (a x y : List UInt8), Go.Op.bytesLess (a ++ x) (a ++ y) = Go.Op.bytesLess x y
  | [], _, _ => rfl
  | a :: l, x, y => by
    rw [List.cons_append, List.cons_append, Go.Op.bytesLess, less_same l x y]
    simp
theorem less_app : ∀ (a b x y : List UInt8), a.length = b.length → Go.Op.bytesLess a b = true → Go.Op.bytesLess (a ++ x) (b ++ y) = true
  | [], [], _, _, _, h => by simp [Go.Op.bytesLess] at h
  | a :: l, b :: m, x, y, hl, h => by
    rw [Go.Op.bytesLess, Bool.or_eq_true] at h
    rw [List.cons_append, List.cons_append, Go.Op.bytesLess, Bool.or_eq_true]
    rcases h with h | h
    · exact .inl h
    · rw [Bool.and_eq_true] at h ⊢
      exact .inr ⟨h.1, less_app l m x y (by simpa using hl) h.2⟩
theorem less_mk : ∀ (n u v : Nat), u < v → v < 2 ^ n → Go.Op.bytesLess (mkL n u) (mkL n v) = true
  | 0, u, v, h, h2 => by
    have : v = 0 := by simpa using h2
    omega
  | n + 1, u, v, h, h2 => by
    rw [Nat.pow_succ] at h2
    rw [mkL_succ, mkL_succ]
    by_cases c : u / 2 < v / 2
    · exact less_app _ _ _ _ (by rw [mkL_len, mkL_len]) (less_mk n (u / 2) (v / 2) c (by omega))
    · rw [show u / 2 = v / 2 by omega, less_same]
      unfold sgn
      rw [if_neg (by omega), if_pos (by omega)]
      decide
theorem bef_mem (l : List UInt8) : ∀ (V : Nat) (x : ByteArray), x ∈ befL l V → ∃ v, v < V ∧ x = bs (mkL l.length v) ∧ tkB (mkL l.length v) = l
  | 0, x, h => by cases h
  | V + 1, x, h => by
    rw [befL, List.mem_append] at h
    rcases h with h | h
    · obtain ⟨v, h1, h2⟩ := bef_mem l V x h
      exact ⟨v, by omega, h2⟩
    · split at h
      · rename_i c
        have e : x = bs (mkL l.length V) := by simpa using h
        refine ⟨V, by omega, e, ?_⟩
        rw [ByteArray.toList_eq, ByteArray.toList_eq] at c
        exact c
      · cases h
theorem bef_lt (l : List UInt8) : ∀ V, V ≤ 2 ^ l.length → (befL l V).Pairwise (fun a b => Go.Op.bytesLess a.toList b.toList = true)
  | 0, _ => List.Pairwise.nil
  | V + 1, h => by
    rw [befL, List.pairwise_append]
    refine ⟨bef_lt l V (by omega), by split <;> simp, fun a ha b hb => ?_⟩
    obtain ⟨v, h1, rfl, _⟩ := bef_mem l V a ha
    split at hb
    · have e : b = bs (mkL l.length V) := by simpa using hb
      rw [e, ByteArray.toList_eq, ByteArray.toList_eq]
      exact less_mk l.length v V h1 (by omega)
    · cases hb
theorem bef_has (l : List UInt8) (v : Nat) (ht : tkB (mkL l.length v) = l) : ∀ V, v < V → bs (mkL l.length v) ∈ befL l V
  | 0, h => by omega
  | V + 1, h => by
    rw [befL, List.mem_append]
    by_cases c : v = V
    · subst c
      refine .inr ?_
      rw [if_pos (by rw [ht])]
      simp
    · exact .inl (bef_has l v ht V (by omega))
theorem bef_self (l : List UInt8) (hA : Al l) (h : hasB l = false) : bs l ∈ befL l (2 ^ l.length) := by
  have e := mk_num l.length l rfl hA
  have := bef_has l (numL l) (by rw [e]; exact tk_same h) (2 ^ l.length) (num_lt _ l rfl)
  rw [e] at this
  exact this
end Go.Proofs.YtleacijhpkogpabDoor.RPlain
/- Plain laws of rows, fourth part: the mirrored row ticks as the row does, and needs as many ticks. -/
namespace Go.Proofs.YtleacijhpkogpabDoor.RPlain
open Go.RowKit
set_option linter.unusedVariables false
set_option linter.unusedSimpArgs false

theorem other_two {b : UInt8} (h : b = 60 ∨ b = 62) : otherB (otherB b) = b := by
  rcases h with rfl | rfl <;> rfl
theorem other_60 {b : UInt8} (h : b = 60 ∨ b = 62) : otherB b = 60 ↔ b = 62 := by
  rcases h with rfl | rfl <;> decide
theorem other_62 {b : UInt8} (h : b = 60 ∨ b = 62) : otherB b = 62 ↔ b = 60 := by
  rcases h with rfl | rfl <;> decide
theorem other_ne (b : UInt8) : otherB b ≠ b := by
  unfold otherB
  split
  · rename_i h; rw [h]; decide
  · rename_i h; exact fun e => h e.symm
/-- The row as it is seen from behind. -/
def mrL (l : List UInt8) : List UInt8 := (l.map otherB).reverse
theorem mr_len (l : List UInt8) : (mrL l).length = l.length := by simp [mrL]
theorem mr_al {l : List UInt8} : Al (mrL l) := by
  intro b hb
  unfold mrL at hb
  rw [List.mem_reverse, List.mem_map] at hb
  obtain ⟨a, _, rfl⟩ := hb
  unfold otherB
  split
  · exact .inr rfl
  · exact .inl rfl
theorem mr_mr {l : List UInt8} (h : Al l) : mrL (mrL l) = l := by
  unfold mrL
  rw [List.map_reverse, List.reverse_reverse, List.map_map]
  refine (List.map_congr_left (fun b hb => ?_)).trans (List.map_id l)
  exact other_two (h b hb)
theorem mr_get (l : List UInt8) (i : Nat) (h : i < l.length) : (mrL l)[i]? = some (otherB l[l.length - 1 - i]) := by
  unfold mrL
  rw [List.getElem?_reverse (by rw [List.length_map]; exact h), List.getElem?_map, List.length_map, List.getElem?_eq_getElem (by omega)]
  rfl
theorem some_get {l : List UInt8} {i : Nat} (h : i < l.length) : l[i]? = some l[i] := List.getElem?_eq_getElem h
theorem fc_mr {l : List UInt8} (hA : Al l) (i : Nat) (h : i + 1 < l.length) : fc (mrL l) i ↔ fc l (l.length - 2 - i) := by
  have e1 := mr_get l i (by omega)
  have e2 := mr_get l (i + 1) h
  have a1 := hA l[l.length - 1 - i] (List.getElem_mem _)
  have a2 := hA l[l.length - 1 - (i + 1)] (List.getElem_mem _)
  have s1 := some_get (l := l) (i := l.length - 1 - i) (by omega)
  have s2 := some_get (l := l) (i := l.length - 1 - (i + 1)) (by omega)
  unfold fc
  rw [e1, e2, show l.length - 2 - i + 1 = l.length - 1 - i by omega, show l.length - 2 - i = l.length - 1 - (i + 1) by omega, s1, s2]
  simp only [Option.some.injEq]
  rw [other_62 a1, other_60 a2]
  exact And.comm
theorem mr_tk {l : List UInt8} (hA : Al l) : tkB (mrL l) = mrL (tkB l) := by
  apply List.ext_getElem?
  intro i
  by_cases hi : i < l.length
  · have hA2 := al_tk l hA
    have hl2 := tkB_len l
    rw [tkB_get, mr_get (tkB l) i (by omega)]
    have key : ∀ (j : Nat) (hj : j < (tkB l).length), some ((tkB l)[j]) = if fc l j then some 60 else if 0 < j ∧ fc l (j - 1) then some 62 else l[j]? := fun j hj => by
      rw [← tkB_get, List.getElem?_eq_getElem hj]
    have k1 := key ((tkB l).length - 1 - i) (by omega)
    generalize (tkB l)[(tkB l).length - 1 - i]'(by omega) = x at k1
    rw [show (tkB l).length - 1 - i = l.length - 1 - i by omega] at k1
    by_cases c : fc (mrL l) i
    · have hlt := fc_lt c
      rw [mr_len] at hlt
      have c2 := (fc_mr hA i hlt).1 c
      rw [if_pos c]
      have n1 : ¬ fc l (l.length - 1 - i) := fun z => by
        have := z.1
        have h3 := c2.2
        rw [show l.length - 2 - i + 1 = l.length - 1 - i by omega, this] at h3
        exact absurd (Option.some.inj h3) (by decide)
      rw [if_neg n1, if_pos ⟨by omega, by rw [show l.length - 1 - i - 1 = l.length - 2 - i by omega]; exact c2⟩] at k1
      rw [Option.some.inj k1]; try rfl
    · rw [if_neg c]
      by_cases d : 0 < i ∧ fc (mrL l) (i - 1)
      · rw [if_pos d]
        have d2 := (fc_mr hA (i - 1) (by omega)).1 d.2
        rw [show l.length - 2 - (i - 1) = l.length - 1 - i by omega] at d2
        rw [if_pos d2] at k1
        rw [Option.some.inj k1]; try rfl
      · rw [if_neg d]
        have n1 : ¬ fc l (l.length - 1 - i) := fun z => by
          have hlt := fc_lt z
          refine d ⟨by omega, (fc_mr hA (i - 1) (by omega)).2 ?_⟩
          rw [show l.length - 2 - (i - 1) = l.length - 1 - i by omega]; exact z
        have n2 : ¬ (0 < l.length - 1 - i ∧ fc l (l.length - 1 - i - 1)) := fun z => by
          refine c ((fc_mr hA i (by omega)).2 ?_)
          rw [show l.length - 2 - i = l.length - 1 - i - 1 by omega]; exact z.2
        rw [if_neg n1, if_neg n2, some_get (by omega)] at k1
        rw [mr_get l i hi, Option.some.inj k1]
  · rw [List.getElem?_eq_none (by rw [tkB_len, mr_len]; omega), List.getElem?_eq_none (by rw [mr_len, tkB_len]; omega)]
theorem has_fc : ∀ l : List UInt8, hasB l = true ↔ ∃ i, fc l i
  | [] => by simp [hasB, fc]
  | [a] => by simp [hasB, fc]
  | a :: b :: t => by
    rw [hasB, Bool.or_eq_true, has_fc (b :: t)]
    constructor
    · rintro (h | ⟨i, h⟩)
      · simp only [Bool.and_eq_true, beq_iff_eq] at h
        exact ⟨0, by simp [fc, h]⟩
      · exact ⟨i + 1, (fc_cons a (b :: t) i).2 h⟩
    · rintro ⟨i, h⟩
      cases i with
      | zero => exact .inl (by simpa [fc] using h)
      | succ i => exact .inr ⟨i, (fc_cons a (b :: t) i).1 h⟩
theorem has_mr {l : List UInt8} (hA : Al l) : hasB (mrL l) = hasB l := by
  have h : hasB (mrL l) = true ↔ hasB l = true := by
    rw [has_fc, has_fc]
    constructor
    · rintro ⟨i, h⟩
      have hlt := fc_lt h
      rw [mr_len] at hlt
      exact ⟨_, (fc_mr hA i hlt).1 h⟩
    · rintro ⟨i, h⟩
      have hlt := fc_lt h
      refine ⟨l.length - 2 - i, (fc_mr hA _ (by omega)).2 ?_⟩
      rw [show l.length - 2 - (l.length - 2 - i) = i by omega]; exact h
  cases h1 : hasB (mrL l) <;> cases h2 : hasB l
  · rfl
  · rw [h.2 h2] at h1; cases h1
  · rw [h.1 h1] at h2; cases h2
  · rfl
theorem ticks_mr : ∀ (m : Nat) (l : List UInt8), Al l → invB l ≤ m → (histL (mrL l)).2.length = (histL l).2.length := by
  intro m
  induction m with
  | zero =>
    intro l hA h
    cases c : hasB l with
    | true => have := (inv_tk l).2 c; omega
    | false => rw [histL_rest c, histL_rest ((has_mr hA).trans c)]
  | succ m ih =>
    intro l hA h
    cases c : hasB l with
    | true =>
      have h1 := (inv_tk l).2 c
      have h2 := ih (tkB l) (al_tk l hA) (by omega)
      rw [histL_step c, histL_step ((has_mr hA).trans c), mr_tk hA, List.length_cons, List.length_cons, h2]
    | false => rw [histL_rest c, histL_rest ((has_mr hA).trans c)]
theorem ticks_mirror (l : List UInt8) (hA : Al l) : (histL (mrL l)).2.length = (histL l).2.length := ticks_mr _ l hA (Nat.le_refl _)
end Go.Proofs.YtleacijhpkogpabDoor.RPlain
