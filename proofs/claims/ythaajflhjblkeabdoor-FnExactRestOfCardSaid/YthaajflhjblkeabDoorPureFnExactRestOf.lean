/- The program and the reference tell the same row at rest, for every string. -/
import Derived.Test.YthaajflhjblkeabDoorPFnExactRestOfx2
namespace Go.Proofs.YthaajflhjblkeabDoor.Pure
open Go.RowKit Go.Proofs.YthaajflhjblkeabDoor.PFnExactRestOf Go.Proofs.YthaajflhjblkeabDoorW.PrintWords Go.Proofs.YthaajflhjblkeabDoorW.PrintLast Go.Proofs.YthaajflhjblkeabDoorW.PrintMore
set_option linter.unusedVariables false
set_option linter.unusedSimpArgs false

/-! plain words -/
theorem w1 (i : Nat) (h : i ≤ 4611686018427387904) : wrap64 ((i : Int) + 1) = ((i + 1 : Nat) : Int) := by unfold wrap64; omega
theorem rd_nat (l : List Int) (i : Nat) (h : i < l.length) : rd l (i : Int) = l[i] := by
  simp [rd, List.getD_eq_getElem?_getD, List.getElem?_eq_getElem h]
theorem drop_cons (l : List Int) (i : Nat) (h : i < l.length) : l.drop i = rd l (i : Int) :: l.drop (i + 1) := by
  rw [List.drop_eq_getElem_cons h, rd_nat l i h]
/-! rows as lists of signs -/
theorem sz (s : ByteArray) : s.size = s.data.toList.length := by
  rw [Array.length_toList]; rfl
theorem bt_at' (s : ByteArray) (i : Nat) (h : i < s.data.toList.length) : bt s (i : Int) = ((s.data.toList[i]).toNat : Int) := by
  have h2 : i < s.size := by rw [sz]; exact h
  unfold bt
  rw [dif_pos (show ((i : Nat) : Int).toNat < s.size by simpa using h2)]
  rfl
theorem bt_eq (s : ByteArray) (i : Nat) (h : i < s.data.toList.length) (c : UInt8) : (bt s (i : Int) = (c.toNat : Int)) ↔ s.data.toList[i] = c := by
  rw [bt_at' s i h]
  constructor
  · intro e
    exact UInt8.toNat_inj.1 (by omega)
  · intro e
    rw [e]
theorem bt_60 (s : ByteArray) (i : Nat) (h : i < s.data.toList.length) : (bt s (i : Int) = 60) ↔ s.data.toList[i] = 60 := bt_eq s i h 60
theorem bt_62 (s : ByteArray) (i : Nat) (h : i < s.data.toList.length) : (bt s (i : Int) = 62) ↔ s.data.toList[i] = 62 := bt_eq s i h 62
theorem good_loop (s : ByteArray) (hs : s.size ≤ 1048576) : ∀ (d i : Nat), i + d = s.size →
    Ev (fun k => spec_rwGood.l0 k s (i : Int)) ((s.data.toList.drop i).all (fun b => b == 60 || b == 62)) := by
  have hz := sz s
  intro d
  induction d with
  | zero =>
    intro i hi
    refine Ev.step (f := fun _ => some ((s.data.toList.drop i).all (fun b => b == 60 || b == 62))) (fun k => ?_) (Ev.now _)
    simp only [spec_rwGood.l0]
    rw [if_neg (by omega), List.drop_eq_nil_of_le (by omega)]
    rfl
  | succ d ih =>
    intro i hi
    have hlt : i < s.data.toList.length := by omega
    rw [List.drop_eq_getElem_cons hlt, List.all_cons]
    by_cases h1 : s.data.toList[i] = 60
    · refine Ev.step (f := fun k => spec_rwGood.l0 k s ((i + 1 : Nat) : Int)) (fun k => ?_) ?_
      · simp only [spec_rwGood.l0]
        rw [if_pos (by omega), if_pos (by omega), if_pos ((bt_60 s i hlt).2 h1), w1 i (by omega)]
      · rw [h1]
        exact ih (i + 1) (by omega)
    · have e1 : ¬ bt s (i : Int) = 60 := fun e => h1 ((bt_60 s i hlt).1 e)
      by_cases h2 : s.data.toList[i] = 62
      · refine Ev.step (f := fun k => spec_rwGood.l0 k s ((i + 1 : Nat) : Int)) (fun k => ?_) ?_
        · simp only [spec_rwGood.l0]
          rw [if_pos (by omega), if_pos (by omega), if_neg e1, if_pos ((bt_62 s i hlt).2 h2), w1 i (by omega)]
        · rw [h2]
          exact ih (i + 1) (by omega)
      · have e2 : ¬ bt s (i : Int) = 62 := fun e => h2 ((bt_62 s i hlt).1 e)
        refine Ev.step (f := fun _ => some false) (fun k => ?_) ?_
        · simp only [spec_rwGood.l0]
          rw [if_pos (by omega), if_pos (by omega), if_neg e1, if_neg e2]
        · rw [beq_eq_false_iff_ne.2 h1, beq_eq_false_iff_ne.2 h2]
          exact Ev.now _
theorem good_ev (s : ByteArray) : Ev (fun k => spec_rwGood.f k s) (rowB s) := by
  have hz := sz s
  unfold rowB
  by_cases h1 : 1 ≤ s.size
  · by_cases h2 : s.size ≤ 60
    · have e : ∀ k, spec_rwGood.f k s = spec_rwGood.l0 k s ((0 : Nat) : Int) := by
        intro k
        unfold spec_rwGood.f spec_l1In.f
        rw [if_pos (by omega), decide_eq_true (show ((s.size : Nat) : Int) ≤ 60 by omega)]
        simp
      refine Ev.congr e ?_
      have := good_loop s (by omega) s.size 0 (by omega)
      rw [decide_eq_true h1, decide_eq_true h2]
      simpa using this
    · refine Ev.congr (f := fun _ => some false) (fun k => ?_) ?_
      · unfold spec_rwGood.f spec_l1In.f
        rw [if_pos (by omega), decide_eq_false (show ¬ ((s.size : Nat) : Int) ≤ 60 by omega)]
        simp
      · rw [decide_eq_false h2]
        simp only [Bool.and_false, Bool.false_and]
        exact Ev.now _
  · refine Ev.congr (f := fun _ => some false) (fun k => ?_) ?_
    · unfold spec_rwGood.f spec_l1In.f
      rw [if_neg (by omega)]
      simp
    · rw [decide_eq_false h1]
      simp only [Bool.false_and]
      exact Ev.now _
theorem rowB_len {s : ByteArray} (h : rowB s = true) : 1 ≤ s.size ∧ s.size ≤ 60 := by
  unfold rowB at h
  simp only [Bool.and_eq_true, decide_eq_true_eq] at h
  exact h.1
theorem rowB_all {s : ByteArray} (h : rowB s = true) : s.data.toList.all (fun b => b == 60 || b == 62) = true := by
  unfold rowB at h
  simp only [Bool.and_eq_true] at h
  exact h.2
/-! who face each other -/
def prs : Nat → List UInt8 → List Int
  | i, a :: b :: t => if a = 62 ∧ b = 60 then (i : Int) :: prs (i + 1) (b :: t) else prs (i + 1) (b :: t)
  | _, _ => []
theorem prs_drop (l : List UInt8) (i : Nat) (h : i + 1 < l.length) : prs i (l.drop i) = if l[i] = 62 ∧ l[i + 1] = 60 then (i : Int) :: prs (i + 1) (l.drop (i + 1)) else prs (i + 1) (l.drop (i + 1)) := by
  rw [List.drop_eq_getElem_cons (show i < l.length by omega), List.drop_eq_getElem_cons h, prs]
theorem prs_end (l : List UInt8) (i : Nat) (h : l.length ≤ i + 1) : prs i (l.drop i) = [] := by
  have hl : (l.drop i).length ≤ 1 := by rw [List.length_drop]; omega
  match l.drop i, hl with
  | [], _ => rfl
  | [_], _ => rfl
  | _ :: _ :: _, h => simp at h
theorem prs_len : ∀ (i : Nat) (l : List UInt8), (prs i l).length ≤ l.length
  | _, [] => by simp [prs]
  | _, [_] => by simp [prs]
  | i, a :: b :: t => by
    have ih := prs_len (i + 1) (b :: t)
    rw [prs]
    split
    · simp only [List.length_cons] at ih ⊢; omega
    · simp only [List.length_cons] at ih ⊢; omega
theorem pairs_loop (s : ByteArray) (hs : s.size ≤ 1048576) : ∀ (d i : Nat) (acc : List Int), i + d = s.size → acc.length ≤ i →
    Ev (fun k => spec_rwPairs.l0 k s acc (i : Int)) (acc ++ prs i (s.data.toList.drop i)) := by
  have hz := sz s
  intro d
  induction d with
  | zero =>
    intro i acc hi ha
    refine Ev.step (f := fun _ => some acc) (fun k => ?_) ?_
    · simp only [spec_rwPairs.l0]
      rw [w1 i (by omega), if_neg (by omega)]
    · rw [prs_end _ _ (by omega), List.append_nil]
      exact Ev.now _
  | succ d ih =>
    intro i acc hi ha
    by_cases hl : i + 1 < s.size
    · have h1 : i < s.data.toList.length := by omega
      have h2 : i + 1 < s.data.toList.length := by omega
      rw [prs_drop _ i h2]
      by_cases c1 : s.data.toList[i] = 62
      · by_cases c2 : s.data.toList[i + 1] = 60
        · have hr := ih (i + 1) (acc ++ [(i : Int)]) (by omega) (by simp; omega)
          rw [if_pos ⟨c1, c2⟩]
          rw [List.append_assoc] at hr
          refine Ev.step (f := fun k => spec_rwPairs.l0 k s (acc ++ [(i : Int)]) ((i + 1 : Nat) : Int)) (fun k => ?_) hr
          simp only [spec_rwPairs.l0]
          rw [w1 i (by omega), if_pos (by omega), if_pos (by omega), if_pos (by omega), if_pos ((bt_62 s i h1).2 c1), if_pos (by omega), if_pos ((bt_60 s (i + 1) h2).2 c2), if_pos (by omega)]
        · rw [if_neg (fun h => c2 h.2)]
          refine Ev.step (f := fun k => spec_rwPairs.l0 k s acc ((i + 1 : Nat) : Int)) (fun k => ?_) (ih (i + 1) acc (by omega) (by omega))
          simp only [spec_rwPairs.l0]
          rw [w1 i (by omega), if_pos (by omega), if_pos (by omega), if_pos (by omega), if_pos ((bt_62 s i h1).2 c1), if_pos (by omega), if_neg (fun e => c2 ((bt_60 s (i + 1) h2).1 e))]
      · rw [if_neg (fun h => c1 h.1)]
        refine Ev.step (f := fun k => spec_rwPairs.l0 k s acc ((i + 1 : Nat) : Int)) (fun k => ?_) (ih (i + 1) acc (by omega) (by omega))
        simp only [spec_rwPairs.l0]
        rw [w1 i (by omega), if_pos (by omega), if_pos (by omega), if_pos (by omega), if_neg (fun e => c1 ((bt_62 s i h1).1 e))]
    · refine Ev.step (f := fun _ => some acc) (fun k => ?_) ?_
      · simp only [spec_rwPairs.l0]
        rw [w1 i (by omega), if_neg (by omega)]
      · rw [prs_end _ _ (by omega), List.append_nil]
        exact Ev.now _
theorem pairs_ev (s : ByteArray) (hs : s.size ≤ 1048576) : Ev (fun k => spec_rwPairs.f k s) (prs 0 s.data.toList) := by
  have := pairs_loop s hs s.size 0 [] (by omega) (by simp)
  simpa [spec_rwPairs.f] using this
/-! a tick, as the reference makes it -/
def bs (l : List UInt8) : ByteArray := ⟨l.toArray⟩
theorem bs_size (l : List UInt8) : (bs l).size = l.length := rfl
theorem bs_data (s : ByteArray) : bs s.data.toList = s := rfl
def putL (i : Nat) (l : List UInt8) : List UInt8 := l.take i ++ [60, 62] ++ l.drop (i + 2)
theorem putL_len (i : Nat) (l : List UInt8) (h : i + 2 ≤ l.length) : (putL i l).length = l.length := by
  simp only [putL, List.length_append, List.length_take, List.length_drop, List.length_cons, List.length_nil]
  omega
theorem put_bytes (l : List UInt8) (i : Nat) (h : i + 2 ≤ l.length) :
    ((bs l).extract 0 i ++ (⟨#[60, 62]⟩ : ByteArray)) ++ (bs l).extract (i + 2) (bs l).size = bs (putL i l) := by
  apply ByteArray.ext
  rw [ByteArray.data_append, ByteArray.data_append, ByteArray.data_extract, ByteArray.data_extract]
  apply Array.toList_inj.1
  simp only [bs, putL, Array.toList_append, Array.toList_extract, List.extract_eq_take_drop, bs_size]
  rw [Nat.sub_zero, List.drop_zero]
  exact congrArg (fun z => l.take i ++ [60, 62] ++ z) (List.take_of_length_le (by rw [List.length_drop]; exact Nat.le_refl _))
theorem prs_mem : ∀ (i : Nat) (l : List UInt8), ∀ x ∈ prs i l, (i : Int) ≤ x ∧ x + 2 ≤ ((i + l.length : Nat) : Int)
  | _, [], x, h => by simp [prs] at h
  | _, [_], x, h => by simp [prs] at h
  | i, a :: b :: t, x, h => by
    have ih := prs_mem (i + 1) (b :: t) x
    rw [prs] at h
    simp only [List.length_cons] at ih ⊢
    split at h
    · rcases List.mem_cons.1 h with rfl | h
      · omega
      · have := ih h; omega
    · have := ih h; omega
theorem prs_60 (i : Nat) : ∀ t : List UInt8, prs i (60 :: t) = prs (i + 1) t
  | [] => rfl
  | c :: t => by rw [prs, if_neg (by intro h; exact absurd h.1 (by decide))]
theorem fold_prs : ∀ (m p : List UInt8), (prs p.length m).foldl (fun l x => putL x.toNat l) (p ++ m) = p ++ tkB m
  | [], p => by simp [prs, tkB]
  | [a], p => by simp [prs, tkB]
  | a :: b :: t, p => by
    rw [prs]
    by_cases c : a = 62 ∧ b = 60
    · obtain ⟨rfl, rfl⟩ := c
      rw [if_pos ⟨rfl, rfl⟩, List.foldl_cons, prs_60]
      have e : putL ((p.length : Int)).toNat (p ++ 62 :: 60 :: t) = (p ++ [60, 62]) ++ t := by
        unfold putL
        rw [Int.toNat_natCast, List.take_left, List.drop_append, List.drop_of_length_le (show p.length ≤ p.length + 2 by omega)]
        simp
      rw [e]
      have ih := fold_prs t (p ++ [60, 62])
      rw [List.length_append] at ih
      rw [show p.length + 1 + 1 = p.length + [(60 : UInt8), 62].length from rfl, ih]
      rw [tkB, if_pos (by decide), List.append_assoc]
      rfl
    · rw [if_neg c]
      have ih := fold_prs (b :: t) (p ++ [a])
      rw [List.length_append, List.append_assoc] at ih
      have hc : ¬ (a == 62 && b == 60) = true := by
        intro h
        simp only [Bool.and_eq_true, beq_iff_eq] at h
        exact c h
      rw [tkB, if_neg hc]
      refine Eq.trans ih ?_
      rw [List.append_assoc]
      rfl
theorem tkB_len : ∀ l : List UInt8, (tkB l).length = l.length
  | [] => rfl
  | [_] => rfl
  | a :: b :: t => by
    rw [tkB]
    split
    · simp [tkB_len t]
    · simp [tkB_len (b :: t)]
theorem tick_loop (pairs : List Int) (hp : pairs.length ≤ 1048576) : ∀ (d j : Nat) (cur : List UInt8), j + d = pairs.length → (∀ x ∈ pairs, 0 ≤ x ∧ x + 2 ≤ (cur.length : Int)) → cur.length ≤ 1048576 →
    Ev (fun k => spec_rwTick.l0 k (bs cur) pairs (pairs.length : Int) (j : Int)) (bs ((pairs.drop j).foldl (fun l x => putL x.toNat l) cur)) := by
  intro d
  induction d with
  | zero =>
    intro j cur hj hx hc
    refine Ev.step (f := fun _ => some (bs cur)) (fun k => ?_) ?_
    · simp only [spec_rwTick.l0]
      rw [if_neg (by omega)]
    · rw [List.drop_eq_nil_of_le (by omega)]
      exact Ev.now _
  | succ d ih =>
    intro j cur hj hx hc
    have hlt : j < pairs.length := by omega
    have hb := hx pairs[j] (List.getElem_mem hlt)
    have hz : (bs cur).size = cur.length := rfl
    have hr := rd_nat pairs j hlt
    generalize hv : pairs[j] = v at hb hr
    obtain ⟨n, rfl⟩ := Int.eq_ofNat_of_zero_le hb.1
    have hn : n + 2 ≤ cur.length := by omega
    have e2 : wrap64 ((n : Int) + 2) = ((n + 2 : Nat) : Int) := by unfold wrap64; omega
    have hl := putL_len n cur hn
    rw [List.drop_eq_getElem_cons hlt, List.foldl_cons, hv]
    have hrec := ih (j + 1) (putL n cur) (by omega) (fun x h => by rw [hl]; exact hx x h) (by omega)
    refine Ev.step (f := fun k => spec_rwTick.l0 k (bs (putL n cur)) pairs (pairs.length : Int) ((j + 1 : Nat) : Int)) (fun k => ?_) hrec
    simp only [spec_rwTick.l0, hr, e2]
    have s1 : ((bs cur).extract 0 ((n : Int)).toNat).size + 2 ≤ 9223372036854775807 := by
      rw [ByteArray.size_extract]; omega
    have s2 : (((bs cur).extract 0 ((n : Int)).toNat) ++ (⟨#[60, 62]⟩ : ByteArray)).size + ((bs cur).extract (((n + 2 : Nat) : Int)).toNat (bs cur).size).size ≤ 9223372036854775807 := by
      rw [ByteArray.size_append, ByteArray.size_extract, ByteArray.size_extract]
      have : (⟨#[60, 62]⟩ : ByteArray).size = 2 := rfl
      omega
    rw [if_pos (by omega), if_pos (by omega), if_pos (by omega), if_pos (by omega), if_pos (by omega), if_pos s1, if_pos (by omega), if_pos (by omega), if_pos s2, w1 j (by omega)]
    rw [show ((n : Int)).toNat = n from rfl, show (((n + 2 : Nat) : Int)).toNat = n + 2 from rfl, put_bytes cur n hn]
theorem tick_ev (s : ByteArray) (hs : s.size ≤ 1048576) : Ev (fun k => spec_rwTick.f k s) (bs (tkB s.data.toList)) := by
  have hz := sz s
  refine Ev.bind (pairs_ev s hs) ?_
  have hl := prs_len 0 s.data.toList
  have := tick_loop (prs 0 s.data.toList) (by omega) (prs 0 s.data.toList).length 0 s.data.toList (by omega) (fun x h => by
    have := prs_mem 0 _ x h
    simp only [Nat.zero_add] at this
    omega) (by omega)
  rw [List.drop_zero] at this
  have e := fold_prs s.data.toList []
  simp only [List.length_nil, List.nil_append] at e
  rw [e, bs_data] at this
  exact this
theorem prs_has : ∀ (i : Nat) (l : List UInt8), decide (((prs i l).length : Int) = 0) = !hasB l
  | _, [] => by simp [prs, hasB]
  | _, [_] => by simp [prs, hasB]
  | i, a :: b :: t => by
    have ih := prs_has (i + 1) (b :: t)
    rw [prs, hasB]
    by_cases c : a = 62 ∧ b = 60
    · rw [if_pos c, c.1, c.2]
      simp
      omega
    · rw [if_neg c, ih]
      have : (a == 62 && b == 60) = false := by
        rw [Bool.eq_false_iff]
        intro h
        simp only [Bool.and_eq_true, beq_iff_eq] at h
        exact c h
      rw [this, Bool.false_or]
/-! the row at rest, as the reference comes to it -/
theorem rest_spec : ∀ (m : Nat) (l : List UInt8) (n : Int), invB l ≤ m → l.length ≤ 1000 →
    Ev (fun k => spec_rwRest.l0 k (bs l) n) (bs (histL l).1, (histL l).2.foldl (fun s _ => wrap64 (s + 1)) n) := by
  intro m
  induction m with
  | zero =>
    intro l n hm hl
    have hz : (bs l).size = l.length := rfl
    have hh := prs_has 0 l
    cases c : hasB l with
    | true => exact absurd ((inv_tk l).2 c) (by omega)
    | false =>
      rw [c] at hh
      have hp : ¬ ((prs 0 l).length : Int) > 0 := by
        have := of_decide_eq_true hh
        omega
      rw [histL_rest c]
      refine Ev.step (f := fun k => (spec_rwPairs.f k (bs l)).bind fun t109 => (if (t109.length : Int) > 0 then ((spec_rwTick.f k (bs l)).bind fun t112 => (spec_rwRest.l0 k t112 (wrap64 (n + 1)))) else (some (bs l, n)))) (fun k => rfl) ?_
      refine Ev.bind (pairs_ev (bs l) (by omega)) ?_
      exact Ev.congr (f := fun _ => some (bs l, n)) (fun k => if_neg hp) (Ev.now _)
  | succ m ih =>
    intro l n hm hl
    have hz : (bs l).size = l.length := rfl
    have hh := prs_has 0 l
    refine Ev.step (f := fun k => (spec_rwPairs.f k (bs l)).bind fun t109 => (if (t109.length : Int) > 0 then ((spec_rwTick.f k (bs l)).bind fun t112 => (spec_rwRest.l0 k t112 (wrap64 (n + 1)))) else (some (bs l, n)))) (fun k => rfl) ?_
    refine Ev.bind (pairs_ev (bs l) (by omega)) ?_
    cases c : hasB l with
    | true =>
      rw [c] at hh
      have hp : ((prs 0 l).length : Int) > 0 := by
        have := of_decide_eq_false hh
        omega
      have hi := (inv_tk l).2 c
      rw [histL_step c]
      refine Ev.congr (f := fun k => (spec_rwTick.f k (bs l)).bind fun t112 => (spec_rwRest.l0 k t112 (wrap64 (n + 1)))) (fun k => if_pos hp) ?_
      exact Ev.bind (tick_ev (bs l) (by omega)) (ih (tkB l) (wrap64 (n + 1)) (by omega) (by rw [tkB_len]; exact hl))
    | false =>
      rw [c] at hh
      have hp : ¬ ((prs 0 l).length : Int) > 0 := by
        have := of_decide_eq_true hh
        omega
      rw [histL_rest c]
      exact Ev.congr (f := fun _ => some (bs l, n)) (fun k => if_neg hp) (Ev.now _)
theorem rest_ev (s : ByteArray) (hs : s.size ≤ 1000) : Ev (fun k => spec_rwRest.f k s) (bs (histL s.data.toList).1, (histL s.data.toList).2.foldl (fun s _ => wrap64 (s + 1)) 0) := by
  have hz := sz s
  exact rest_spec _ s.data.toList 0 (Nat.le_refl _) (by omega)
theorem both (s : ByteArray) (hs : s.size ≤ 1048576) : ∃ (v : ByteArray) (b : Bool), Ev (fun k => spec_RestOf.f k s) (v, b) ∧ Ev (fun _ => impl_RestOf.f s) (v, b) := by
  by_cases h : rowB s = true
  · have h60 := rowB_len h
    refine ⟨bs (histL s.data.toList).1, true, ?_, ?_⟩
    · refine Ev.bind (good_ev s) ?_
      simp only [h, if_true]
      exact Ev.bind (rest_ev s (by omega)) (Ev.now _)
    · simp only [impl_RestOf.f]
      rw [if_pos h]
      exact Ev.now _
  · refine ⟨⟨#[]⟩, false, ?_, ?_⟩
    · refine Ev.bind (good_ev s) ?_
      simp only [h, if_false]
      exact Ev.now _
    · simp only [impl_RestOf.f]
      rw [if_neg h]
      exact Ev.now _
/-! the law's own steps, for functions of a row that tell a value and whether there is one -/
theorem FnExactRestOf : laws_FnExactRestOf.Pure := by
  intro s _
  by_cases hs : s.size ≤ 1048576
  · obtain ⟨v, b, h1, h2⟩ := both s hs
    refine Ev.rounds (r := true) ?_
    refine Ev.congr (fun k => by unfold laws_FnExactRestOf.f; rw [if_neg (by omega)]) ?_
    refine Ev.bind h1 ?_
    refine Ev.bind h2 ?_
    simp only [bne_self_eq_false, Bool.false_eq_true, if_false, if_true]
    exact Ev.now _
  · exact ⟨0, by unfold laws_FnExactRestOf.f; rw [if_pos (by omega)]⟩

end Go.Proofs.YthaajflhjblkeabDoor.Pure
