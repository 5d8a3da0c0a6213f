/- The program and the reference tell the same row of a number for all 64-bit arguments; nothing else is assumed. -/
import Derived.Test.YtdiocekaicjapaaPFnExactRowOfNumberx1
import Derived.OpenShut
namespace Go.Proofs.Ytdiocekaicjapaa.Pure
open Go.RowKit Go.Proofs.Ytdiocekaicjapaa.PFnExactRowOfNumber Go.Proofs.YtdiocekaicjapaaW.PrintWords Go.Proofs.YtdiocekaicjapaaW.PrintLast Go.Proofs.YtdiocekaicjapaaW.PrintMore
set_option linter.unusedVariables false
set_option linter.unusedSimpArgs false

/-! plain words -/
theorem w1 (i : Nat) (h : i ≤ 4611686018427387904) : wrap64 ((i : Int) + 1) = ((i + 1 : Nat) : Int) := by unfold wrap64; omega
theorem rd_nat (l : List Int) (i : Nat) (h : i < l.length) : rd l (i : Int) = l[i] := by
  simp [rd, List.getD_eq_getElem?_getD, List.getElem?_eq_getElem h]
theorem drop_cons (l : List Int) (i : Nat) (h : i < l.length) : l.drop i = rd l (i : Int) :: l.drop (i + 1) := by
  rw [List.drop_eq_getElem_cons h, rd_nat l i h]
/-! rows out of numbers -/
theorem and_one (v : Int) (h0 : 0 ≤ v) (h1 : v ≤ 9223372036854775807) : Go.bits .and .i64 v 1 = v % 2 := by
  obtain ⟨n, rfl⟩ := Int.eq_ofNat_of_zero_le h0
  have hb : (BitVec.ofInt 64 (n : Int) &&& BitVec.ofInt 64 1).toNat = n % 2 := by
    rw [BitVec.toNat_and, BitVec.toNat_ofInt, BitVec.toNat_ofInt]
    have e1 : ((n : Int) % ((2 ^ 64 : Nat) : Int)).toNat = n := by omega
    have e2 : ((1 : Int) % ((2 ^ 64 : Nat) : Int)).toNat = 1 := by decide
    rw [e1, e2, Nat.and_one_is_mod]
  show IntKind.i64.wrap ((BitVec.ofInt 64 (n : Int) &&& BitVec.ofInt 64 1).toNat : Int) = (n : Int) % 2
  rw [hb, i64_w]
  unfold wrap64
  omega
def sgn (b : Nat) : Nat := if b % 2 = 1 then 62 else 60
/-- The signs of the row of n soldiers with a number. -/
def mk : Nat → Nat → List Nat
  | 0, _ => []
  | n + 1, v => mk n (v / 2) ++ [sgn v]
theorem mk_len : ∀ n v, (mk n v).length = n
  | 0, _ => rfl
  | n + 1, v => by simp [mk, mk_len n (v / 2)]
theorem mk_get : ∀ (n v i : Nat) (h : i < n), (mk n v)[i]'(by rw [mk_len]; exact h) = sgn (v / 2 ^ (n - 1 - i))
  | 0, _, i, h => by omega
  | n + 1, v, i, h => by
    simp only [mk]
    by_cases c : i < n
    · rw [List.getElem_append_left (by rw [mk_len]; exact c), mk_get n (v / 2) i c, Nat.div_div_eq_div_mul]
      congr 2
      rw [show n + 1 - 1 - i = (n - 1 - i) + 1 by omega, Nat.pow_succ, Nat.mul_comm]
    · have : i = n := by omega
      subst this
      rw [List.getElem_append_right (by rw [mk_len]; omega)]
      simp [mk_len]
def txt (l : List Nat) : ByteArray := ⟨(l.map UInt8.ofNat).toArray⟩
theorem txt_size (l : List Nat) : (txt l).size = l.length := by simp [txt, ByteArray.size]
theorem txt_cons (a : Nat) (l : List Nat) : (⟨#[UInt8.ofNat a]⟩ : ByteArray) ++ txt l = txt (a :: l) := by
  apply ByteArray.ext
  rw [ByteArray.data_append]
  simp [txt]
theorem make_loop : ∀ (n v : Nat) (acc : List Nat), n ≤ 60 → acc.length + n ≤ 1000000 → v ≤ 9223372036854775807 →
    Ev (fun k => spec_rwMake.l0 k (n : Int) (v : Int) (txt acc)) (txt (mk n v ++ acc)) := by
  intro n
  induction n with
  | zero =>
    intro v acc hn ha hv
    refine Ev.step (f := fun _ => some (txt acc)) (fun k => ?_) (Ev.now _)
    simp only [spec_rwMake.l0]
    rw [if_neg (by omega)]
  | succ n ih =>
    intro v acc hn ha hv
    have hr := ih (v / 2) (sgn v :: acc) (by omega) (by simp only [List.length_cons]; omega) (by omega)
    have e1 : wrap64 (((n + 1 : Nat) : Int) - 1) = (n : Int) := by unfold wrap64; omega
    have e2 : wrap64 (Int.tdiv (v : Int) 2) = ((v / 2 : Nat) : Int) := by
      rw [Int.tdiv_eq_ediv_of_nonneg (by omega)]; unfold wrap64; omega
    have e3 : Int.tmod (v : Int) 2 = ((v % 2 : Nat) : Int) := by
      rw [Int.tmod_eq_emod_of_nonneg (by omega)]; omega
    have hsz : 1 + (txt acc).size ≤ 9223372036854775807 := by rw [txt_size]; omega
    have e4 : mk (n + 1) v ++ acc = mk n (v / 2) ++ sgn v :: acc := by simp [mk]
    rw [e4]
    refine Ev.step (fun k => ?_) hr
    simp only [spec_rwMake.l0]
    rw [if_pos (by omega), e1, e2, e3, ← txt_cons]
    by_cases c : v % 2 = 1
    · rw [if_pos (by omega), if_pos hsz]
      unfold sgn
      rw [if_pos c]
      rfl
    · rw [if_neg (by omega), if_pos hsz]
      unfold sgn
      rw [if_neg c]
      rfl
def ints (l : List Nat) : List Int := l.map fun n : Nat => (n : Int)
theorem ints_txt (l : List Nat) : strOfNums (ints l) = txt l := by
  unfold strOfNums ints txt
  rw [List.map_map]
  congr 2
theorem rowOf_loop (n v : Nat) (hn : n ≤ 60) (hv : v ≤ 9223372036854775807) : ∀ (d i : Nat) (x : List Int), x.length = n → i + d = n → x.take i = ints ((mk n v).take i) →
    Ev (fun k => impl_rowOf.l0 k (n : Int) (v : Int) x (n : Int) (i : Int)) (txt (mk n v)) := by
  intro d
  induction d with
  | zero =>
    intro i x hx hi ht
    rw [List.take_of_length_le (by omega), List.take_of_length_le (by rw [mk_len]; omega)] at ht
    refine Ev.step (f := fun _ => some (txt (mk n v))) (fun k => ?_) (Ev.now _)
    simp only [impl_rowOf.l0]
    rw [if_neg (by omega), ht, ints_txt]
  | succ d ih =>
    intro i x hx hi ht
    have hlt : i < n := by omega
    have e1 : wrap64 (wrap64 ((n : Int) - 1) - (i : Int)) = ((n - 1 - i : Nat) : Int) := by unfold wrap64; omega
    have e2 : shr .i64 (v : Int) ((n - 1 - i : Nat) : Int) = ((v / 2 ^ (n - 1 - i) : Nat) : Int) := by
      unfold shr
      rw [show min ((n - 1 - i : Nat) : Int).toNat IntKind.i64.bits = n - 1 - i by
        have : IntKind.i64.bits = 64 := rfl
        omega]
      push_cast
      rfl
    have hle : v / 2 ^ (n - 1 - i) ≤ v := Nat.div_le_self _ _
    have e3 : Go.bits .and .i64 ((v / 2 ^ (n - 1 - i) : Nat) : Int) 1 = ((v / 2 ^ (n - 1 - i) % 2 : Nat) : Int) := by
      generalize v / 2 ^ (n - 1 - i) = q at hle ⊢
      rw [and_one _ (by omega) (by omega)]; omega
    have hset : ∀ y : List Int, y.length = n → y.take i = x.take i → ∀ s : Int, s = ((sgn (v / 2 ^ (n - 1 - i)) : Nat) : Int) → (y.set i s).take (i + 1) = ints ((mk n v).take (i + 1)) := by
      intro y hy hyt s hs
      rw [List.take_succ_eq_append_getElem (by simp; omega), List.getElem_set_self, List.take_set_of_le (by omega), hyt, ht,
        List.take_succ_eq_append_getElem (by rw [mk_len]; omega), mk_get n v i hlt, hs]
      simp [ints]
    by_cases c : v / 2 ^ (n - 1 - i) % 2 = 1
    · have hr := ih (i + 1) ((x.set i 60).set i 62) (by simpa using hx) (by omega) (hset (x.set i 60) (by simpa using hx) (by rw [List.take_set_of_le (by omega)]) 62 (by unfold sgn; rw [if_pos c]; rfl))
      refine Ev.step (fun k => ?_) hr
      simp only [impl_rowOf.l0, Option.bind_some]
      rw [if_pos (by omega), if_pos (by omega), if_pos (by omega), e1, if_pos (by omega), e2, e3, if_pos (by omega), w1 i (by omega)]
      rfl
    · have hr := ih (i + 1) (x.set i 60) (by simpa using hx) (by omega) (hset x hx rfl 60 (by unfold sgn; rw [if_neg c]; rfl))
      refine Ev.step (fun k => ?_) hr
      simp only [impl_rowOf.l0, Option.bind_some]
      rw [if_pos (by omega), if_pos (by omega), if_pos (by omega), e1, if_pos (by omega), e2, e3, if_neg (by omega), w1 i (by omega)]
      rfl
theorem make_ev (n v : Nat) (hn : n ≤ 60) (hv : v ≤ 9223372036854775807) : Ev (fun k => spec_rwMake.f k (n : Int) (v : Int)) (txt (mk n v)) := by
  have := make_loop n v [] hn (by simp; omega) hv
  rw [List.append_nil] at this
  exact this
theorem rowOf_ev (n v : Nat) (hn : n ≤ 60) (hv : v ≤ 9223372036854775807) : Ev (fun k => impl_rowOf.f k (n : Int) (v : Int)) (txt (mk n v)) := by
  refine Ev.congr (fun k => ?_) (rowOf_loop n v hn hv n 0 (List.replicate n 0) (by simp) (by omega) (by simp [ints]))
  simp only [impl_rowOf.f, Option.bind_some]
  rw [if_pos (by omega), if_pos (by omega)]
  simp
theorem FnExactRowOfNumber : laws_FnExactRowOfNumber.Pure := by
  intro a0 a1 _ w1'
  refine Ev.rounds (r := true) ?_
  have hx := (bounds_i64 w1').2
  by_cases h1 : 1 ≤ a0
  · by_cases h2 : a0 ≤ 60
    · have h0 : 0 ≤ a0 := by omega
      by_cases h3 : 0 ≤ a1
      · by_cases h4 : a1 ≤ wrap64 ((shl .i64 1 a0) - 1)
        · obtain ⟨n, rfl⟩ := Int.eq_ofNat_of_zero_le h0
          obtain ⟨v, rfl⟩ := Int.eq_ofNat_of_zero_le h3
          have hm := make_ev n v (by omega) (by omega)
          have hr := rowOf_ev n v (by omega) (by omega)
          simp only [laws_FnExactRowOfNumber.f, spec_RowOfNumber.f, impl_RowOfNumber.f, spec_l1In.f, impl_in.f, ge_iff_le, h1, h2, h0, h3, h4, if_true, decide_true, Option.bind_some]
          refine Ev.bind (Ev.bind hm (Ev.now _)) ?_
          refine Ev.bind (Ev.bind hr (Ev.now _)) ?_
          simp only [if_true, bne_self_eq_false, Bool.false_eq_true, if_false]
          exact Ev.now _
        · simp only [laws_FnExactRowOfNumber.f, spec_RowOfNumber.f, impl_RowOfNumber.f, spec_l1In.f, impl_in.f, ge_iff_le, h1, h2, h0, h3, h4, if_true, decide_true, decide_false, Option.bind_some, Bool.false_eq_true, if_false, bne_self_eq_false]
          exact Ev.now _
      · simp only [laws_FnExactRowOfNumber.f, spec_RowOfNumber.f, impl_RowOfNumber.f, spec_l1In.f, impl_in.f, ge_iff_le, h1, h2, h0, h3, if_true, decide_true, Option.bind_some, Bool.false_eq_true, if_false, bne_self_eq_false]
        exact Ev.now _
    · simp only [laws_FnExactRowOfNumber.f, spec_RowOfNumber.f, impl_RowOfNumber.f, spec_l1In.f, impl_in.f, ge_iff_le, h1, h2, if_true, decide_false, Option.bind_some, Bool.false_eq_true, if_false, bne_self_eq_false]
      exact Ev.now _
  · simp only [laws_FnExactRowOfNumber.f, spec_RowOfNumber.f, impl_RowOfNumber.f, spec_l1In.f, impl_in.f, ge_iff_le, h1, Option.bind_some, Bool.false_eq_true, if_false, bne_self_eq_false, if_true]
    exact Ev.now _

end Go.Proofs.Ytdiocekaicjapaa.Pure
