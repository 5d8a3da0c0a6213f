/- The program and the reference agree on which rows have a row ahead of them, for every string. -/
import Derived.Test.YthaajflhjblkeacDoorPFnExactHasBeforex2
import Derived.OpenShut
namespace Go.Proofs.YthaajflhjblkeacDoor.Pure
open Go.RowKit Go.Proofs.YthaajflhjblkeacDoor.PFnExactHasBefore Go.Proofs.YthaajflhjblkeacDoorW.PrintWords Go.Proofs.YthaajflhjblkeacDoorW.PrintLast Go.Proofs.YthaajflhjblkeacDoorW.PrintMore
set_option linter.unusedVariables false
set_option linter.unusedSimpArgs false

/-! plain words -/
theorem w1 (i : Nat) (h : i ≤ 4611686018427387904) : wrap64 ((i : Int) + 1) = ((i + 1 : Nat) : Int) := by unfold wrap64; omega
theorem rd_nat (l : List Int) (i : Nat) (h : i < l.length) : rd l (i : Int) = l[i] := by
  simp [rd, List.getD_eq_getElem?_getD, List.getElem?_eq_getElem h]
theorem drop_cons (l : List Int) (i : Nat) (h : i < l.length) : l.drop i = rd l (i : Int) :: l.drop (i + 1) := by
  rw [List.drop_eq_getElem_cons h, rd_nat l i h]
/-! rows as lists of signs -/
theorem sz (s : ByteArray) : s.size = s.data.toList.length := by
  rw [Array.length_toList]; rfl
theorem bt_at' (s : ByteArray) (i : Nat) (h : i < s.data.toList.length) : bt s (i : Int) = ((s.data.toList[i]).toNat : Int) := by
  have h2 : i < s.size := by rw [sz]; exact h
  unfold bt
  rw [dif_pos (show ((i : Nat) : Int).toNat < s.size by simpa using h2)]
  rfl
theorem bt_eq (s : ByteArray) (i : Nat) (h : i < s.data.toList.length) (c : UInt8) : (bt s (i : Int) = (c.toNat : Int)) ↔ s.data.toList[i] = c := by
  rw [bt_at' s i h]
  constructor
  · intro e
    exact UInt8.toNat_inj.1 (by omega)
  · intro e
    rw [e]
theorem bt_60 (s : ByteArray) (i : Nat) (h : i < s.data.toList.length) : (bt s (i : Int) = 60) ↔ s.data.toList[i] = 60 := bt_eq s i h 60
theorem bt_62 (s : ByteArray) (i : Nat) (h : i < s.data.toList.length) : (bt s (i : Int) = 62) ↔ s.data.toList[i] = 62 := bt_eq s i h 62
theorem good_loop (s : ByteArray) (hs : s.size ≤ 1048576) : ∀ (d i : Nat), i + d = s.size →
    Ev (fun k => spec_rwGood.l0 k s (i : Int)) ((s.data.toList.drop i).all (fun b => b == 60 || b == 62)) := by
  have hz := sz s
  intro d
  induction d with
  | zero =>
    intro i hi
    refine Ev.step (f := fun _ => some ((s.data.toList.drop i).all (fun b => b == 60 || b == 62))) (fun k => ?_) (Ev.now _)
    simp only [spec_rwGood.l0]
    rw [if_neg (by omega), List.drop_eq_nil_of_le (by omega)]
    rfl
  | succ d ih =>
    intro i hi
    have hlt : i < s.data.toList.length := by omega
    rw [List.drop_eq_getElem_cons hlt, List.all_cons]
    by_cases h1 : s.data.toList[i] = 60
    · refine Ev.step (f := fun k => spec_rwGood.l0 k s ((i + 1 : Nat) : Int)) (fun k => ?_) ?_
      · simp only [spec_rwGood.l0]
        rw [if_pos (by omega), if_pos (by omega), if_pos ((bt_60 s i hlt).2 h1), w1 i (by omega)]
      · rw [h1]
        exact ih (i + 1) (by omega)
    · have e1 : ¬ bt s (i : Int) = 60 := fun e => h1 ((bt_60 s i hlt).1 e)
      by_cases h2 : s.data.toList[i] = 62
      · refine Ev.step (f := fun k => spec_rwGood.l0 k s ((i + 1 : Nat) : Int)) (fun k => ?_) ?_
        · simp only [spec_rwGood.l0]
          rw [if_pos (by omega), if_pos (by omega), if_neg e1, if_pos ((bt_62 s i hlt).2 h2), w1 i (by omega)]
        · rw [h2]
          exact ih (i + 1) (by omega)
      · have e2 : ¬ bt s (i : Int) = 62 := fun e => h2 ((bt_62 s i hlt).1 e)
        refine Ev.step (f := fun _ => some false) (fun k => ?_) ?_
        · simp only [spec_rwGood.l0]
          rw [if_pos (by omega), if_pos (by omega), if_neg e1, if_neg e2]
        · rw [beq_eq_false_iff_ne.2 h1, beq_eq_false_iff_ne.2 h2]
          exact Ev.now _
theorem good_ev (s : ByteArray) : Ev (fun k => spec_rwGood.f k s) (rowB s) := by
  have hz := sz s
  unfold rowB
  by_cases h1 : 1 ≤ s.size
  · by_cases h2 : s.size ≤ 60
    · have e : ∀ k, spec_rwGood.f k s = spec_rwGood.l0 k s ((0 : Nat) : Int) := by
        intro k
        unfold spec_rwGood.f spec_l1In.f
        rw [if_pos (by omega), decide_eq_true (show ((s.size : Nat) : Int) ≤ 60 by omega)]
        simp
      refine Ev.congr e ?_
      have := good_loop s (by omega) s.size 0 (by omega)
      rw [decide_eq_true h1, decide_eq_true h2]
      simpa using this
    · refine Ev.congr (f := fun _ => some false) (fun k => ?_) ?_
      · unfold spec_rwGood.f spec_l1In.f
        rw [if_pos (by omega), decide_eq_false (show ¬ ((s.size : Nat) : Int) ≤ 60 by omega)]
        simp
      · rw [decide_eq_false h2]
        simp only [Bool.and_false, Bool.false_and]
        exact Ev.now _
  · refine Ev.congr (f := fun _ => some false) (fun k => ?_) ?_
    · unfold spec_rwGood.f spec_l1In.f
      rw [if_neg (by omega)]
      simp
    · rw [decide_eq_false h1]
      simp only [Bool.false_and]
      exact Ev.now _
theorem rowB_len {s : ByteArray} (h : rowB s = true) : 1 ≤ s.size ∧ s.size ≤ 60 := by
  unfold rowB at h
  simp only [Bool.and_eq_true, decide_eq_true_eq] at h
  exact h.1
theorem rowB_all {s : ByteArray} (h : rowB s = true) : s.data.toList.all (fun b => b == 60 || b == 62) = true := by
  unfold rowB at h
  simp only [Bool.and_eq_true] at h
  exact h.2
/-! who face each other -/
def prs : Nat → List UInt8 → List Int
  | i, a :: b :: t => if a = 62 ∧ b = 60 then (i : Int) :: prs (i + 1) (b :: t) else prs (i + 1) (b :: t)
  | _, _ => []
theorem prs_drop (l : List UInt8) (i : Nat) (h : i + 1 < l.length) : prs i (l.drop i) = if l[i] = 62 ∧ l[i + 1] = 60 then (i : Int) :: prs (i + 1) (l.drop (i + 1)) else prs (i + 1) (l.drop (i + 1)) := by
  rw [List.drop_eq_getElem_cons (show i < l.length by omega), List.drop_eq_getElem_cons h, prs]
theorem prs_end (l : List UInt8) (i : Nat) (h : l.length ≤ i + 1) : prs i (l.drop i) = [] := by
  have hl : (l.drop i).length ≤ 1 := by rw [List.length_drop]; omega
  match l.drop i, hl with
  | [], _ => rfl
  | [_], _ => rfl
  | _ :: _ :: _, h => simp at h
theorem prs_len : ∀ (i : Nat) (l : List UInt8), (prs i l).length ≤ l.length
  | _, [] => by simp [prs]
  | _, [_] => by simp [prs]
  | i, a :: b :: t => by
    have ih := prs_len (i + 1) (b :: t)
    rw [prs]
    split
    · simp only [List.length_cons] at ih ⊢; omega
    · simp only [List.length_cons] at ih ⊢; omega
theorem pairs_loop (s : ByteArray) (hs : s.size ≤ 1048576) : ∀ (d i : Nat) (acc : List Int), i + d = s.size → acc.length ≤ i →
    Ev (fun k => spec_rwPairs.l0 k s acc (i : Int)) (acc ++ prs i (s.data.toList.drop i)) := by
  have hz := sz s
  intro d
  induction d with
  | zero =>
    intro i acc hi ha
    refine Ev.step (f := fun _ => some acc) (fun k => ?_) ?_
    · simp only [spec_rwPairs.l0]
      rw [w1 i (by omega), if_neg (by omega)]
    · rw [prs_end _ _ (by omega), List.append_nil]
      exact Ev.now _
  | succ d ih =>
    intro i acc hi ha
    by_cases hl : i + 1 < s.size
    · have h1 : i < s.data.toList.length := by omega
      have h2 : i + 1 < s.data.toList.length := by omega
      rw [prs_drop _ i h2]
      by_cases c1 : s.data.toList[i] = 62
      · by_cases c2 : s.data.toList[i + 1] = 60
        · have hr := ih (i + 1) (acc ++ [(i : Int)]) (by omega) (by simp; omega)
          rw [if_pos ⟨c1, c2⟩]
          rw [List.append_assoc] at hr
          refine Ev.step (f := fun k => spec_rwPairs.l0 k s (acc ++ [(i : Int)]) ((i + 1 : Nat) : Int)) (fun k => ?_) hr
          simp only [spec_rwPairs.l0]
          rw [w1 i (by omega), if_pos (by omega), if_pos (by omega), if_pos (by omega), if_pos ((bt_62 s i h1).2 c1), if_pos (by omega), if_pos ((bt_60 s (i + 1) h2).2 c2), if_pos (by omega)]
        · rw [if_neg (fun h => c2 h.2)]
          refine Ev.step (f := fun k => spec_rwPairs.l0 k s acc ((i + 1 : Nat) : Int)) (fun k => ?_) (ih (i + 1) acc (by omega) (by omega))
          simp only [spec_rwPairs.l0]
          rw [w1 i (by omega), if_pos (by omega), if_pos (by omega), if_pos (by omega), if_pos ((bt_62 s i h1).2 c1), if_pos (by omega), if_neg (fun e => c2 ((bt_60 s (i + 1) h2).1 e))]
      · rw [if_neg (fun h => c1 h.1)]
        refine Ev.step (f := fun k => spec_rwPairs.l0 k s acc ((i + 1 : Nat) : Int)) (fun k => ?_) (ih (i + 1) acc (by omega) (by omega))
        simp only [spec_rwPairs.l0]
        rw [w1 i (by omega), if_pos (by omega), if_pos (by omega), if_pos (by omega), if_neg (fun e => c1 ((bt_62 s i h1).1 e))]
    · refine Ev.step (f := fun _ => some acc) (fun k => ?_) ?_
      · simp only [spec_rwPairs.l0]
        rw [w1 i (by omega), if_neg (by omega)]
      · rw [prs_end _ _ (by omega), List.append_nil]
        exact Ev.now _
theorem pairs_ev (s : ByteArray) (hs : s.size ≤ 1048576) : Ev (fun k => spec_rwPairs.f k s) (prs 0 s.data.toList) := by
  have := pairs_loop s hs s.size 0 [] (by omega) (by simp)
  simpa [spec_rwPairs.f] using this
/-! a tick, as the reference makes it -/
def bs (l : List UInt8) : ByteArray := ⟨l.toArray⟩
theorem bs_size (l : List UInt8) : (bs l).size = l.length := rfl
theorem bs_data (s : ByteArray) : bs s.data.toList = s := rfl
def putL (i : Nat) (l : List UInt8) : List UInt8 := l.take i ++ [60, 62] ++ l.drop (i + 2)
theorem putL_len (i : Nat) (l : List UInt8) (h : i + 2 ≤ l.length) : (putL i l).length = l.length := by
  simp only [putL, List.length_append, List.length_take, List.length_drop, List.length_cons, List.length_nil]
  omega
theorem put_bytes (l : List UInt8) (i : Nat) (h : i + 2 ≤ l.length) :
    ((bs l).extract 0 i ++ (⟨#[60, 62]⟩ : ByteArray)) ++ (bs l).extract (i + 2) (bs l).size = bs (putL i l) := by
  apply ByteArray.ext
  rw [ByteArray.data_append, ByteArray.data_append, ByteArray.data_extract, ByteArray.data_extract]
  apply Array.toList_inj.1
  simp only [bs, putL, Array.toList_append, Array.toList_extract, List.extract_eq_take_drop, bs_size]
  rw [Nat.sub_zero, List.drop_zero]
  exact congrArg (fun z => l.take i ++ [60, 62] ++ z) (List.take_of_length_le (by rw [List.length_drop]; exact Nat.le_refl _))
theorem prs_mem : ∀ (i : Nat) (l : List UInt8), ∀ x ∈ prs i l, (i : Int) ≤ x ∧ x + 2 ≤ ((i + l.length : Nat) : Int)
  | _, [], x, h => by simp [prs] at h
  | _, [_], x, h => by simp [prs] at h
  | i, a :: b :: t, x, h => by
    have ih := prs_mem (i + 1) (b :: t) x
    rw [prs] at h
    simp only [List.length_cons] at ih ⊢
    split at h
    · rcases List.mem_cons.1 h with rfl | h
      · omega
      · have := ih h; omega
    · have := ih h; omega
theorem prs_60 (i : Nat) : ∀ t : List UInt8, prs i (60 :: t) = prs (i + 1) t
  | [] => rfl
  | c :: t => by rw [prs, if_neg (by intro h; exact absurd h.1 (by decide))]
theorem fold_prs : ∀ (m p : List UInt8), (prs p.length m).foldl (fun l x => putL x.toNat l) (p ++ m) = p ++ tkB m
  | [], p => by simp [prs, tkB]
  | [a], p => by simp [prs, tkB]
  | a :: b :: t, p => by
    rw [prs]
    by_cases c : a = 62 ∧ b = 60
    · obtain ⟨rfl, rfl⟩ := c
      rw [if_pos ⟨rfl, rfl⟩, List.foldl_cons, prs_60]
      have e : putL ((p.length : Int)).toNat (p ++ 62 :: 60 :: t) = (p ++ [60, 62]) ++ t := by
        unfold putL
        rw [Int.toNat_natCast, List.take_left, List.drop_append, List.drop_of_length_le (show p.length ≤ p.length + 2 by omega)]
        simp
      rw [e]
      have ih := fold_prs t (p ++ [60, 62])
      rw [List.length_append] at ih
      rw [show p.length + 1 + 1 = p.length + [(60 : UInt8), 62].length from rfl, ih]
      rw [tkB, if_pos (by decide), List.append_assoc]
      rfl
    · rw [if_neg c]
      have ih := fold_prs (b :: t) (p ++ [a])
      rw [List.length_append, List.append_assoc] at ih
      have hc : ¬ (a == 62 && b == 60) = true := by
        intro h
        simp only [Bool.and_eq_true, beq_iff_eq] at h
        exact c h
      rw [tkB, if_neg hc]
      refine Eq.trans ih ?_
      rw [List.append_assoc]
      rfl
theorem tkB_len : ∀ l : List UInt8, (tkB l).length = l.length
  | [] => rfl
  | [_] => rfl
  | a :: b :: t => by
    rw [tkB]
    split
    · simp [tkB_len t]
    · simp [tkB_len (b :: t)]
theorem tick_loop (pairs : List Int) (hp : pairs.length ≤ 1048576) : ∀ (d j : Nat) (cur : List UInt8), j + d = pairs.length → (∀ x ∈ pairs, 0 ≤ x ∧ x + 2 ≤ (cur.length : Int)) → cur.length ≤ 1048576 →
    Ev (fun k => spec_rwTick.l0 k (bs cur) pairs (pairs.length : Int) (j : Int)) (bs ((pairs.drop j).foldl (fun l x => putL x.toNat l) cur)) := by
  intro d
  induction d with
  | zero =>
    intro j cur hj hx hc
    refine Ev.step (f := fun _ => some (bs cur)) (fun k => ?_) ?_
    · simp only [spec_rwTick.l0]
      rw [if_neg (by omega)]
    · rw [List.drop_eq_nil_of_le (by omega)]
      exact Ev.now _
  | succ d ih =>
    intro j cur hj hx hc
    have hlt : j < pairs.length := by omega
    have hb := hx pairs[j] (List.getElem_mem hlt)
    have hz : (bs cur).size = cur.length := rfl
    have hr := rd_nat pairs j hlt
    generalize hv : pairs[j] = v at hb hr
    obtain ⟨n, rfl⟩ := Int.eq_ofNat_of_zero_le hb.1
    have hn : n + 2 ≤ cur.length := by omega
    have e2 : wrap64 ((n : Int) + 2) = ((n + 2 : Nat) : Int) := by unfold wrap64; omega
    have hl := putL_len n cur hn
    rw [List.drop_eq_getElem_cons hlt, List.foldl_cons, hv]
    have hrec := ih (j + 1) (putL n cur) (by omega) (fun x h => by rw [hl]; exact hx x h) (by omega)
    refine Ev.step (f := fun k => spec_rwTick.l0 k (bs (putL n cur)) pairs (pairs.length : Int) ((j + 1 : Nat) : Int)) (fun k => ?_) hrec
    simp only [spec_rwTick.l0, hr, e2]
    have s1 : ((bs cur).extract 0 ((n : Int)).toNat).size + 2 ≤ 9223372036854775807 := by
      rw [ByteArray.size_extract]; omega
    have s2 : (((bs cur).extract 0 ((n : Int)).toNat) ++ (⟨#[60, 62]⟩ : ByteArray)).size + ((bs cur).extract (((n + 2 : Nat) : Int)).toNat (bs cur).size).size ≤ 9223372036854775807 := by
      rw [ByteArray.size_append, ByteArray.size_extract, ByteArray.size_extract]
      have : (⟨#[60, 62]⟩ : ByteArray).size = 2 := rfl
      omega
    rw [if_pos (by omega), if_pos (by omega), if_pos (by omega), if_pos (by omega), if_pos (by omega), if_pos s1, if_pos (by omega), if_pos (by omega), if_pos s2, w1 j (by omega)]
    rw [show ((n : Int)).toNat = n from rfl, show (((n + 2 : Nat) : Int)).toNat = n + 2 from rfl, put_bytes cur n hn]
theorem tick_ev (s : ByteArray) (hs : s.size ≤ 1048576) : Ev (fun k => spec_rwTick.f k s) (bs (tkB s.data.toList)) := by
  have hz := sz s
  refine Ev.bind (pairs_ev s hs) ?_
  have hl := prs_len 0 s.data.toList
  have := tick_loop (prs 0 s.data.toList) (by omega) (prs 0 s.data.toList).length 0 s.data.toList (by omega) (fun x h => by
    have := prs_mem 0 _ x h
    simp only [Nat.zero_add] at this
    omega) (by omega)
  rw [List.drop_zero] at this
  have e := fold_prs s.data.toList []
  simp only [List.length_nil, List.nil_append] at e
  rw [e, bs_data] at this
  exact this
/-! rows out of numbers -/
theorem and_one (v : Int) (h0 : 0 ≤ v) (h1 : v ≤ 9223372036854775807) : Go.bits .and .i64 v 1 = v % 2 := by
  obtain ⟨n, rfl⟩ := Int.eq_ofNat_of_zero_le h0
  have hb : (BitVec.ofInt 64 (n : Int) &&& BitVec.ofInt 64 1).toNat = n % 2 := by
    rw [BitVec.toNat_and, BitVec.toNat_ofInt, BitVec.toNat_ofInt]
    have e1 : ((n : Int) % ((2 ^ 64 : Nat) : Int)).toNat = n := by omega
    have e2 : ((1 : Int) % ((2 ^ 64 : Nat) : Int)).toNat = 1 := by decide
    rw [e1, e2, Nat.and_one_is_mod]
  show IntKind.i64.wrap ((BitVec.ofInt 64 (n : Int) &&& BitVec.ofInt 64 1).toNat : Int) = (n : Int) % 2
  rw [hb, i64_w]
  unfold wrap64
  omega
def sgn (b : Nat) : Nat := if b % 2 = 1 then 62 else 60
/-- The signs of the row of n soldiers with a number. -/
def mk : Nat → Nat → List Nat
  | 0, _ => []
  | n + 1, v => mk n (v / 2) ++ [sgn v]
theorem mk_len : ∀ n v, (mk n v).length = n
  | 0, _ => rfl
  | n + 1, v => by simp [mk, mk_len n (v / 2)]
theorem mk_get : ∀ (n v i : Nat) (h : i < n), (mk n v)[i]'(by rw [mk_len]; exact h) = sgn (v / 2 ^ (n - 1 - i))
  | 0, _, i, h => by omega
  | n + 1, v, i, h => by
    simp only [mk]
    by_cases c : i < n
    · rw [List.getElem_append_left (by rw [mk_len]; exact c), mk_get n (v / 2) i c, Nat.div_div_eq_div_mul]
      congr 2
      rw [show n + 1 - 1 - i = (n - 1 - i) + 1 by omega, Nat.pow_succ, Nat.mul_comm]
    · have : i = n := by omega
      subst this
      rw [List.getElem_append_right (by rw [mk_len]; omega)]
      simp [mk_len]
def txt (l : List Nat) : ByteArray := ⟨(l.map UInt8.ofNat).toArray⟩
theorem txt_size (l : List Nat) : (txt l).size = l.length := by simp [txt, ByteArray.size]
theorem txt_cons (a : Nat) (l : List Nat) : (⟨#[UInt8.ofNat a]⟩ : ByteArray) ++ txt l = txt (a :: l) := by
  apply ByteArray.ext
  rw [ByteArray.data_append]
  simp [txt]
theorem make_loop : ∀ (n v : Nat) (acc : List Nat), n ≤ 60 → acc.length + n ≤ 1000000 → v ≤ 9223372036854775807 →
    Ev (fun k => spec_rwMake.l0 k (n : Int) (v : Int) (txt acc)) (txt (mk n v ++ acc)) := by
  intro n
  induction n with
  | zero =>
    intro v acc hn ha hv
    refine Ev.step (f := fun _ => some (txt acc)) (fun k => ?_) (Ev.now _)
    simp only [spec_rwMake.l0]
    rw [if_neg (by omega)]
  | succ n ih =>
    intro v acc hn ha hv
    have hr := ih (v / 2) (sgn v :: acc) (by omega) (by simp only [List.length_cons]; omega) (by omega)
    have e1 : wrap64 (((n + 1 : Nat) : Int) - 1) = (n : Int) := by unfold wrap64; omega
    have e2 : wrap64 (Int.tdiv (v : Int) 2) = ((v / 2 : Nat) : Int) := by
      rw [Int.tdiv_eq_ediv_of_nonneg (by omega)]; unfold wrap64; omega
    have e3 : Int.tmod (v : Int) 2 = ((v % 2 : Nat) : Int) := by
      rw [Int.tmod_eq_emod_of_nonneg (by omega)]; omega
    have hsz : 1 + (txt acc).size ≤ 9223372036854775807 := by rw [txt_size]; omega
    have e4 : mk (n + 1) v ++ acc = mk n (v / 2) ++ sgn v :: acc := by simp [mk]
    rw [e4]
    refine Ev.step (fun k => ?_) hr
    simp only [spec_rwMake.l0]
    rw [if_pos (by omega), e1, e2, e3, ← txt_cons]
    by_cases c : v % 2 = 1
    · rw [if_pos (by omega), if_pos hsz]
      unfold sgn
      rw [if_pos c]
      rfl
    · rw [if_neg (by omega), if_pos hsz]
      unfold sgn
      rw [if_neg c]
      rfl
def ints (l : List Nat) : List Int := l.map fun n : Nat => (n : Int)
theorem ints_txt (l : List Nat) : strOfNums (ints l) = txt l := by
  unfold strOfNums ints txt
  rw [List.map_map]
  congr 2
theorem rowOf_loop (n v : Nat) (hn : n ≤ 60) (hv : v ≤ 9223372036854775807) : ∀ (d i : Nat) (x : List Int), x.length = n → i + d = n → x.take i = ints ((mk n v).take i) →
    Ev (fun k => impl_rowOf.l0 k (n : Int) (v : Int) x (n : Int) (i : Int)) (txt (mk n v)) := by
  intro d
  induction d with
  | zero =>
    intro i x hx hi ht
    rw [List.take_of_length_le (by omega), List.take_of_length_le (by rw [mk_len]; omega)] at ht
    refine Ev.step (f := fun _ => some (txt (mk n v))) (fun k => ?_) (Ev.now _)
    simp only [impl_rowOf.l0]
    rw [if_neg (by omega), ht, ints_txt]
  | succ d ih =>
    intro i x hx hi ht
    have hlt : i < n := by omega
    have e1 : wrap64 (wrap64 ((n : Int) - 1) - (i : Int)) = ((n - 1 - i : Nat) : Int) := by unfold wrap64; omega
    have e2 : shr .i64 (v : Int) ((n - 1 - i : Nat) : Int) = ((v / 2 ^ (n - 1 - i) : Nat) : Int) := by
      unfold shr
      rw [show min ((n - 1 - i : Nat) : Int).toNat IntKind.i64.bits = n - 1 - i by
        have : IntKind.i64.bits = 64 := rfl
        omega]
      push_cast
      rfl
    have hle : v / 2 ^ (n - 1 - i) ≤ v := Nat.div_le_self _ _
    have e3 : Go.bits .and .i64 ((v / 2 ^ (n - 1 - i) : Nat) : Int) 1 = ((v / 2 ^ (n - 1 - i) % 2 : Nat) : Int) := by
      generalize v / 2 ^ (n - 1 - i) = q at hle ⊢
      rw [and_one _ (by omega) (by omega)]; omega
    have hset : ∀ y : List Int, y.length = n → y.take i = x.take i → ∀ s : Int, s = ((sgn (v / 2 ^ (n - 1 - i)) : Nat) : Int) → (y.set i s).take (i + 1) = ints ((mk n v).take (i + 1)) := by
      intro y hy hyt s hs
      rw [List.take_succ_eq_append_getElem (by simp; omega), List.getElem_set_self, List.take_set_of_le (by omega), hyt, ht,
        List.take_succ_eq_append_getElem (by rw [mk_len]; omega), mk_get n v i hlt, hs]
      simp [ints]
    by_cases c : v / 2 ^ (n - 1 - i) % 2 = 1
    · have hr := ih (i + 1) ((x.set i 60).set i 62) (by simpa using hx) (by omega) (hset (x.set i 60) (by simpa using hx) (by rw [List.take_set_of_le (by omega)]) 62 (by unfold sgn; rw [if_pos c]; rfl))
      refine Ev.step (fun k => ?_) hr
      simp only [impl_rowOf.l0, Option.bind_some]
      rw [if_pos (by omega), if_pos (by omega), if_pos (by omega), e1, if_pos (by omega), e2, e3, if_pos (by omega), w1 i (by omega)]
      rfl
    · have hr := ih (i + 1) (x.set i 60) (by simpa using hx) (by omega) (hset x hx rfl 60 (by unfold sgn; rw [if_neg c]; rfl))
      refine Ev.step (fun k => ?_) hr
      simp only [impl_rowOf.l0, Option.bind_some]
      rw [if_pos (by omega), if_pos (by omega), if_pos (by omega), e1, if_pos (by omega), e2, e3, if_neg (by omega), w1 i (by omega)]
      rfl
theorem make_ev (n v : Nat) (hn : n ≤ 60) (hv : v ≤ 9223372036854775807) : Ev (fun k => spec_rwMake.f k (n : Int) (v : Int)) (txt (mk n v)) := by
  have := make_loop n v [] hn (by simp; omega) hv
  rw [List.append_nil] at this
  exact this
theorem rowOf_ev (n v : Nat) (hn : n ≤ 60) (hv : v ≤ 9223372036854775807) : Ev (fun k => impl_rowOf.f k (n : Int) (v : Int)) (txt (mk n v)) := by
  refine Ev.congr (fun k => ?_) (rowOf_loop n v hn hv n 0 (List.replicate n 0) (by simp) (by omega) (by simp [ints]))
  simp only [impl_rowOf.f, Option.bind_some]
  rw [if_pos (by omega), if_pos (by omega)]
  simp
/-! the rows from which a tick leads to a row -/
theorem shl_pow : ∀ n : Nat, n ≤ 12 → shl .i64 1 (n : Int) = ((2 ^ n : Nat) : Int) := by
  intro n hn
  have : n = 0 ∨ n = 1 ∨ n = 2 ∨ n = 3 ∨ n = 4 ∨ n = 5 ∨ n = 6 ∨ n = 7 ∨ n = 8 ∨ n = 9 ∨ n = 10 ∨ n = 11 ∨ n = 12 := by omega
  rcases this with rfl | rfl | rfl | rfl | rfl | rfl | rfl | rfl | rfl | rfl | rfl | rfl | rfl <;> rfl
theorem pow_12 (n : Nat) (hn : n ≤ 12) : 2 ^ n ≤ 4096 := Nat.le_trans (Nat.pow_le_pow_right (by decide) hn) (by decide)
def bef (s : ByteArray) : Nat → Nat → List ByteArray
  | 0, _ => []
  | d + 1, v => (if (bs (tkB (txt (mk s.size v)).data.toList)).toList = s.toList then [txt (mk s.size v)] else []) ++ bef s d (v + 1)
theorem bef_len (s : ByteArray) : ∀ d v, (bef s d v).length ≤ d
  | 0, _ => Nat.le_refl _
  | d + 1, v => by
    have ih := bef_len s d (v + 1)
    rw [bef, List.length_append]
    split
    · simp only [List.length_cons, List.length_nil]; omega
    · simp only [List.length_nil]; omega
theorem before_spec (s : ByteArray) (hn : s.size ≤ 12) : ∀ (d v : Nat) (acc : List ByteArray), v + d = 2 ^ s.size → acc.length ≤ v →
    Ev (fun k => spec_rwBefore.l0 k s acc (v : Int)) (acc ++ bef s d v) := by
  have hp := pow_12 s.size hn
  have hsh := shl_pow s.size hn
  intro d
  induction d with
  | zero =>
    intro v acc hv ha
    refine Ev.step (f := fun _ => some acc) (fun k => ?_) ?_
    · simp only [spec_rwBefore.l0, hsh]
      rw [if_neg (by omega)]
    · rw [bef, List.append_nil]
      exact Ev.now _
  | succ d ih =>
    intro v acc hv ha
    have hsz : (txt (mk s.size v)).size ≤ 1048576 := by rw [txt_size, mk_len]; omega
    rw [bef]
    refine Ev.step (f := fun k => (spec_rwMake.f k (s.size : Int) (v : Int)).bind fun t110 => ((spec_rwTick.f k t110).bind fun t111 => (if t111.toList = s.toList then (if acc.length < 8796093022208 then (spec_rwBefore.l0 k s (acc ++ [t110]) ((v + 1 : Nat) : Int)) else (none)) else (spec_rwBefore.l0 k s acc ((v + 1 : Nat) : Int))))) (fun k => ?_) ?_
    · simp only [spec_rwBefore.l0, hsh]
      rw [if_pos (by omega), w1 v (by omega)]
    · refine Ev.bind (make_ev s.size v (by omega) (by omega)) ?_
      refine Ev.bind (tick_ev _ hsz) ?_
      by_cases c : (bs (tkB (txt (mk s.size v)).data.toList)).toList = s.toList
      · have hr := ih (v + 1) (acc ++ [txt (mk s.size v)]) (by omega) (by simp; omega)
        rw [List.append_assoc] at hr
        rw [if_pos c]
        exact Ev.congr (fun k => by rw [if_pos c, if_pos (by omega)]) hr
      · have hr := ih (v + 1) acc (by omega) (by omega)
        rw [if_neg c, List.nil_append]
        exact Ev.congr (fun k => by rw [if_neg c]) hr
theorem before_impl (s : ByteArray) (hn : s.size ≤ 12) : ∀ (d v : Nat) (acc : List ByteArray), v + d = 2 ^ s.size → acc.length ≤ v →
    Ev (fun k => impl_RowsBefore.l0 k s acc ((2 ^ s.size : Nat) : Int) (v : Int)) (acc ++ bef s d v, true) := by
  have hp := pow_12 s.size hn
  intro d
  induction d with
  | zero =>
    intro v acc hv ha
    refine Ev.step (f := fun _ => some (acc, true)) (fun k => ?_) ?_
    · simp only [impl_RowsBefore.l0]
      rw [if_neg (by omega)]
    · rw [bef, List.append_nil]
      exact Ev.now _
  | succ d ih =>
    intro v acc hv ha
    have hsz : (txt (mk s.size v)).size < 1000000 := by rw [txt_size, mk_len]; omega
    have et : impl_tick.f (txt (mk s.size v)) = some (bs (tkB (txt (mk s.size v)).data.toList)) := by
      unfold impl_tick.f
      rw [if_pos hsz]
      rfl
    rw [bef]
    refine Ev.step (f := fun k => (impl_rowOf.f k (s.size : Int) (v : Int)).bind fun t131 => ((impl_tick.f t131).bind fun t132 => (if t132.toList = s.toList then (if acc.length < 8796093022208 then (impl_RowsBefore.l0 k s (acc ++ [t131]) ((2 ^ s.size : Nat) : Int) ((v + 1 : Nat) : Int)) else (none)) else (impl_RowsBefore.l0 k s acc ((2 ^ s.size : Nat) : Int) ((v + 1 : Nat) : Int))))) (fun k => ?_) ?_
    · simp only [impl_RowsBefore.l0]
      rw [if_pos (by omega), w1 v (by omega)]
    · refine Ev.bind (rowOf_ev s.size v (by omega) (by omega)) ?_
      simp only [et, Option.bind_some]
      by_cases c : (bs (tkB (txt (mk s.size v)).data.toList)).toList = s.toList
      · have hr := ih (v + 1) (acc ++ [txt (mk s.size v)]) (by omega) (by simp; omega)
        rw [List.append_assoc] at hr
        rw [if_pos c]
        exact Ev.congr (fun k => by rw [if_pos c, if_pos (by omega)]) hr
      · have hr := ih (v + 1) acc (by omega) (by omega)
        rw [if_neg c, List.nil_append]
        exact Ev.congr (fun k => by rw [if_neg c]) hr
theorem both_before (s : ByteArray) : ∃ (v : List ByteArray) (b : Bool), v.length ≤ 4096 ∧ (rowB s = false ∨ ¬ s.size ≤ 12 → v = [] ∧ b = false) ∧ (rowB s = true → s.size ≤ 12 → b = true ∧ Ev (fun k => spec_rwBefore.f k s) v) ∧ Ev (fun k => impl_RowsBefore.f k s) (v, b) := by
  have j : Ev (fun k => impl_RowsBefore.j0 k s true) (([] : List ByteArray), false) := by
    refine Ev.step (f := fun _ => some (([] : List ByteArray), false)) (fun k => ?_) (Ev.now _)
    rw [impl_RowsBefore.j0, if_pos rfl]
  by_cases h : rowB s = true
  · have h60 := rowB_len h
    by_cases hn : s.size ≤ 12
    · have hp := pow_12 s.size hn
      refine ⟨bef s (2 ^ s.size) 0, true, Nat.le_trans (bef_len s _ _) hp, ?_, ?_, ?_⟩
      · intro hx
        rcases hx with hx | hx
        · rw [h] at hx; cases hx
        · exact absurd hn hx
      · intro _ _
        have := before_spec s hn (2 ^ s.size) 0 [] (by omega) (by simp)
        rw [List.nil_append] at this
        exact ⟨rfl, this⟩
      · have e : impl_isTraced.f (s.size : Int) = some true := by
          unfold impl_isTraced.f impl_in.f
          rw [if_pos (by omega), decide_eq_true (by omega)]
          rfl
        simp only [impl_RowsBefore.f, impl_isRow.f, Option.bind_some, h, if_true, e, Bool.not_true]
        have := before_impl s hn (2 ^ s.size) 0 [] (by omega) (by simp)
        rw [List.nil_append] at this
        refine Ev.step (fun k => ?_) this
        rw [impl_RowsBefore.j0, if_neg (by simp), shl_pow s.size hn]
        rfl
    · refine ⟨[], false, by simp, fun _ => ⟨rfl, rfl⟩, fun _ h2 => absurd h2 hn, ?_⟩
      have e : impl_isTraced.f (s.size : Int) = some false := by
        unfold impl_isTraced.f impl_in.f
        rw [if_pos (by omega), decide_eq_false (by omega)]
        rfl
      simp only [impl_RowsBefore.f, impl_isRow.f, Option.bind_some, h, if_true, e, Bool.not_false]
      exact j
  · refine ⟨[], false, by simp, fun _ => ⟨rfl, rfl⟩, fun h2 => absurd h2 h, ?_⟩
    simp only [impl_RowsBefore.f, impl_isRow.f, Option.bind_some, h, if_false]
    exact j
theorem few (n : Nat) (h1 : 1 ≤ n) : spec_rwFew.f (n : Int) = some (decide (n ≤ 12)) := by
  unfold spec_rwFew.f spec_l1In.f
  rw [if_pos (by omega)]
  simp
  omega
theorem both (s : ByteArray) (hs : s.size ≤ 1048576) : ∃ (v : Bool) (b : Bool), Ev (fun k => spec_HasBefore.f k s) (v, b) ∧ Ev (fun k => impl_HasBefore.f k s) (v, b) := by
  obtain ⟨l, b, hl, h0, h1, h2⟩ := both_before s
  refine ⟨decide ((l.length : Int) > 0), b, ?_, Ev.bind h2 (Ev.now _)⟩
  refine Ev.bind (good_ev s) ?_
  by_cases h : rowB s = true
  · have h60 := rowB_len h
    simp only [h, if_true, few s.size h60.1, Option.bind_some]
    by_cases hn : s.size ≤ 12
    · obtain ⟨rfl, hb⟩ := h1 h hn
      simp only [hn, decide_true, if_true]
      exact Ev.bind hb (Ev.now _)
    · obtain ⟨rfl, rfl⟩ := h0 (Or.inr hn)
      simp only [hn, decide_false, Bool.false_eq_true, if_false]
      exact Ev.now _
  · obtain ⟨rfl, rfl⟩ := h0 (Or.inl (Bool.eq_false_iff.mpr h))
    simp only [h, if_false]
    exact Ev.now _
/-! the law's own steps, for functions of a row that tell a value and whether there is one -/
theorem FnExactHasBefore : laws_FnExactHasBefore.Pure := by
  intro s _
  by_cases hs : s.size ≤ 1048576
  · obtain ⟨v, b, h1, h2⟩ := both s hs
    refine Ev.rounds (r := true) ?_
    refine Ev.congr (fun k => by unfold laws_FnExactHasBefore.f; rw [if_neg (by omega)]) ?_
    refine Ev.bind h1 ?_
    refine Ev.bind h2 ?_
    simp only [bne_self_eq_false, Bool.false_eq_true, if_false, if_true]
    exact Ev.now _
  · exact ⟨0, by unfold laws_FnExactHasBefore.f; rw [if_pos (by omega)]⟩

end Go.Proofs.YthaajflhjblkeacDoor.Pure
