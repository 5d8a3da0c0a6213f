/- Plain laws of heights for the law on who is seen: who is seen is taller than all before,next taller ones are the nearest,pairs have all between them shorter,mirrored rows are seen from behind: lists alone,no program. -/
import Derived.Test.YtleacijhpkogpadHSFL
import Derived.Test.YtleacijhpkogpadHGood
import Derived.Test.YtleacijhpkogpadHLR
import Derived.Test.YtleacijhpkogpadHCBS
import Derived.Test.YtleacijhpkogpadHSpecF
import Derived.Test.YtleacijhpkogpadPFnHeightsRisex22
set_option linter.unusedVariables false
set_option linter.unusedSimpArgs false
namespace Go.Proofs.Ytleacijhpkogpad.HBigP
open Go.RowKit YtleacijhpkogpadW.PrintWords YtleacijhpkogpadW.PrintLast YtleacijhpkogpadW.PrintMore HImpl HSpecG HSeen HMax

/-! the greatest -/
theorem maxL_lt : ∀ (l : List Int) (m b : Int),maxL l m < b ↔ m < b ∧ ∀ x ∈ l,x < b
  | [],m,b => by simp [maxL]
  | h :: t,m,b => by
    rw [maxL,maxL_lt t]
    constructor
    · rintro ⟨h1,h2⟩
      refine ⟨by split at h1 <;> omega,fun x hx => ?_⟩
      rcases List.mem_cons.1 hx with rfl | hx
      · split at h1 <;> omega
      · exact h2 x hx
    · rintro ⟨h1,h2⟩
      have h3 := h2 h (List.mem_cons_self ..)
      exact ⟨by split <;> omega,fun x hx => h2 x (List.mem_cons_of_mem _ hx)⟩
theorem maxL_le (l : List Int) (m b : Int) : maxL l m ≤ b ↔ m ≤ b ∧ ∀ x ∈ l,x ≤ b := by
  have h := maxL_lt l m (b + 1)
  constructor
  · intro h1
    have h2 := h.1 (by omega)
    exact ⟨by omega,fun x hx => by have := h2.2 x hx; omega⟩
  · rintro ⟨h1,h2⟩
    have := h.2 ⟨by omega,fun x hx => by have := h2 x hx; omega⟩
    omega
theorem maxL_ge (l : List Int) (m : Int) : m ≤ maxL l m := ((maxL_le l m _).1 (Int.le_refl _)).1
/-! who is seen -/
theorem seenR_mem : ∀ (t : List Int) (i : Nat) (m x : Int),x ∈ seenR t i m ↔ ∃ j : Nat,x = ((i + j : Nat) : Int) ∧ ∃ h,t[j]? = some h ∧ maxL (t.take j) m < h
  | [],i,m,x => by simp [seenR]
  | h :: t,i,m,x => by
    have hs : (∃ j : Nat,x = ((i + j : Nat) : Int) ∧ ∃ h',(h :: t)[j]? = some h' ∧ maxL ((h :: t).take j) m < h') ↔ (x = (i : Int) ∧ m < h) ∨ ∃ j : Nat,x = ((i + 1 + j : Nat) : Int) ∧ ∃ h',t[j]? = some h' ∧ maxL (t.take j) (if m > h then m else h) < h' := by
      constructor
      · rintro ⟨j,h1,h',h2,h3⟩
        cases j with
        | zero =>
          simp only [List.getElem?_cons_zero,Option.some.injEq] at h2
          subst h2
          exact .inl ⟨by simpa using h1,by simpa [maxL] using h3⟩
        | succ j => exact .inr ⟨j,by rw [h1]; omega,h',by simpa using h2,by simpa [maxL] using h3⟩
      · rintro (⟨h1,h2⟩ | ⟨j,h1,h',h2,h3⟩)
        · exact ⟨0,by simpa using h1,h,by simp,by simpa [maxL] using h2⟩
        · exact ⟨j + 1,by rw [h1]; omega,h',by simpa using h2,by simpa [maxL] using h3⟩
    rw [hs,seenR]
    by_cases c : h > m
    · rw [if_pos c,List.mem_cons,seenR_mem t (i + 1) h x,if_neg (by omega)]
      have : m < h := c
      simp [this]
    · rw [if_neg c,seenR_mem t (i + 1) m x]
      have hn : ¬ m < h := by omega
      have e : (if m > h then m else h) = m := by split <;> omega
      rw [e]; simp [hn]
theorem seenR_lt : ∀ (t : List Int) (i : Nat) (m : Int),(seenR t i m).Pairwise (· < ·)
  | [],_,_ => List.Pairwise.nil
  | h :: t,i,m => by
    rw [seenR]
    split
    · rw [List.pairwise_cons]
      refine ⟨fun x hx => ?_,seenR_lt t (i + 1) h⟩
      obtain ⟨j,rfl,_⟩ := (seenR_mem _ _ _ _).1 hx
      omega
    · exact seenR_lt t (i + 1) m
theorem seenR_last : ∀ (t : List Int) (i : Nat) (m : Int),(seenR t i m = [] ∧ maxL t m = m) ∨ ∃ j : Nat,(seenR t i m).getLast? = some ((i + j : Nat) : Int) ∧ t[j]? = some (maxL t m)
  | [],_,_ => .inl ⟨rfl,rfl⟩
  | h :: t,i,m => by
    rw [seenR,maxL]
    by_cases c : h > m
    · rw [if_pos c,if_neg (by omega)]
      refine .inr ?_
      rcases seenR_last t (i + 1) h with ⟨h1,h2⟩ | ⟨j,h1,h2⟩
      · exact ⟨0,by rw [h1]; rfl,by rw [h2]; rfl⟩
      · refine ⟨j + 1,?_,by simpa using h2⟩
        rw [List.getLast?_cons,h1,show i + 1 + j = i + (j + 1) by omega]; rfl
    · rw [if_neg c,show (if m > h then m else h) = m by split <;> omega]
      rcases seenR_last t (i + 1) m with ⟨h1,h2⟩ | ⟨j,h1,h2⟩
      · exact .inl ⟨h1,h2⟩
      · exact .inr ⟨j + 1,by rw [h1,show i + 1 + j = i + (j + 1) by omega],by simpa using h2⟩
theorem rd_some {l : List Int} {j : Nat} {x : Int} (h : l[j]? = some x) : rd l (j : Int) = x := by
  obtain ⟨hlt,rfl⟩ := List.getElem?_eq_some_iff.1 h
  exact rd_nat l j hlt
theorem some_rd {l : List Int} {j : Nat} (h : j < l.length) : l[j]? = some (rd l (j : Int)) := by
  rw [rd_nat l j h]; exact List.getElem?_eq_getElem h
theorem getLast_rd {l : List Int} {x : Int} (h : l.getLast? = some x) : 0 < l.length ∧ rd l ((l.length : Int) - 1) = x := by
  have h1 : 0 < l.length := by
    cases l with
    | nil => cases h
    | cons a t => simp
  refine ⟨h1,?_⟩
  rw [List.getLast?_eq_getElem?] at h
  have := rd_some h
  rw [show ((l.length : Int) - 1) = ((l.length - 1 : Nat) : Int) by omega]
  exact this
theorem seen_facts (l : List Int) (h1 : 1 ≤ l.length) (hp : ∀ x ∈ l, 1 ≤ x) : 0 < (seenR l 0 0).length ∧ rd (seenR l 0 0) 0 = 0 ∧
    ∃ j : Nat,j < l.length ∧ rd (seenR l 0 0) (((seenR l 0 0).length : Int) - 1) = (j : Int) ∧ rd l (j : Int) = maxL l 0 := by
  match l,h1 with
  | a :: t,_ =>
    have ha := hp a (List.mem_cons_self ..)
    have e : seenR (a :: t) 0 0 = ((0 : Nat) : Int) :: seenR t 1 a := by rw [seenR,if_pos (by omega)]
    rcases seenR_last (a :: t) 0 0 with ⟨h2,_⟩ | ⟨j,h2,h3⟩
    · rw [e] at h2; cases h2
    · have h4 := getLast_rd h2
      refine ⟨h4.1,by rw [e]; rfl,j,?_,by rw [h4.2,Nat.zero_add],rd_some h3⟩
      exact (List.getElem?_eq_some_iff.1 h3).1
theorem seen_in (l : List Int) (x : Int) (h : x ∈ seenR l 0 0) : 0 ≤ x ∧ x < (l.length : Int) := by
  obtain ⟨j,rfl,_,h2,_⟩ := (seenR_mem _ _ _ _).1 h
  have := (List.getElem?_eq_some_iff.1 h2).1
  omega
end Go.Proofs.Ytleacijhpkogpad.HBigP
/- Plain laws of heights for the law on rising: no mountain is shorter than who rises,a mirrored row's mountain is as long,ranks add up and are disordered as the heights are: lists alone,no program. -/
namespace Go.Proofs.Ytleacijhpkogpad.HRiseP
open Go.RowKit YtleacijhpkogpadW.PrintWords YtleacijhpkogpadW.PrintLast YtleacijhpkogpadW.PrintMore HMtn HRank HDis

theorem rd_some {l : List Int} {j : Nat} {x : Int} (h : l[j]? = some x) : rd l (j : Int) = x := by
  simp [rd,List.getD_eq_getElem?_getD,h]
theorem some_rd {l : List Int} {j : Nat} (h : j < l.length) : l[j]? = some (rd l (j : Int)) := by
  simp [rd,List.getD_eq_getElem?_getD,List.getElem?_eq_getElem h]
theorem rd_get {l : List Int} {j : Nat} (h : j < l.length) : rd l (j : Int) = l[j] := rd_some (List.getElem?_eq_getElem h)

/-! who rises -/
theorem pick_mem (l r : List Int) : ∀ (d i : Nat) (due h x : Int),x ∈ HLR.pick l r i d due h → ∃ j : Nat,x = (j : Int) ∧ i ≤ j ∧ j < i + d ∧ h < rd l (j : Int)
  | 0,i,due,h,x,hx => by simp [HLR.pick] at hx
  | d + 1,i,due,h,x,hx => by
    rw [HLR.pick] at hx
    split at hx
    · split at hx
      · rename_i c
        rcases List.mem_cons.1 hx with rfl | hx
        · exact ⟨i,rfl,Nat.le_refl _,by omega,c⟩
        · obtain ⟨j,h1,h2,h3,h4⟩ := pick_mem l r d (i + 1) _ _ x hx
          exact ⟨j,h1,by omega,by omega,by omega⟩
      · obtain ⟨j,h1,h2,h3,h4⟩ := pick_mem l r d (i + 1) _ _ x hx
        exact ⟨j,h1,by omega,by omega,h4⟩
    · obtain ⟨j,h1,h2,h3,h4⟩ := pick_mem l r d (i + 1) _ _ x hx
      exact ⟨j,h1,by omega,by omega,h4⟩
theorem pick_rise (l r : List Int) : ∀ (d i : Nat) (due h : Int),(HLR.pick l r i d due h).Pairwise (fun a b => a < b ∧ rd l a < rd l b)
  | 0,i,due,h => by simp [HLR.pick]
  | d + 1,i,due,h => by
    rw [HLR.pick]
    split
    · split
      · rw [List.pairwise_cons]
        refine ⟨fun x hx => ?_,pick_rise l r d (i + 1) _ _⟩
        obtain ⟨j,rfl,h2,h3,h4⟩ := pick_mem l r d (i + 1) _ _ x hx
        exact ⟨by omega,h4⟩
      · exact pick_rise l r d (i + 1) _ _
    · exact pick_rise l r d (i + 1) _ _
theorem pick_some (l r : List Int) : ∀ (d i : Nat) (due h : Int) (j : Nat),i ≤ j → j < i + d → rd r (j : Int) = due → h < rd l (j : Int) → HLR.pick l r i d due h ≠ []
  | 0,i,due,h,j,h1,h2,_,_ => by omega
  | d + 1,i,due,h,j,h1,h2,h3,h4 => by
    rw [HLR.pick]
    by_cases c : rd r (i : Int) = due ∧ rd l (i : Int) > h
    · rw [if_pos c.1,if_pos c.2]; simp
    · have hne : i ≠ j := by rintro rfl; exact c ⟨h3,h4⟩
      have ih := pick_some l r d (i + 1) due h j (by omega) (by omega) h3 h4
      split
      · split
        · rename_i c1 c2; exact absurd ⟨c1,c2⟩ c
        · exact ih
      · exact ih
theorem maxL_in : ∀ (l : List Int) (m : Int),HMax.maxL l m = m ∨ HMax.maxL l m ∈ l
  | [],m => .inl rfl
  | h :: t,m => by
    rw [HMax.maxL]
    split
    · rcases maxL_in t m with e | e
      · exact .inl e
      · exact .inr (List.mem_cons_of_mem _ e)
    · rcases maxL_in t h with e | e
      · exact .inr (by rw [e]; exact List.mem_cons_self ..)
      · exact .inr (List.mem_cons_of_mem _ e)
theorem long_some (l : List Int) (h1 : 1 ≤ l.length) (hp : ∀ x ∈ l,1 ≤ x) : HLR.longL l ≠ [] := by
  unfold HLR.longL
  have hl := HLR.risL_len l
  have h0 : 0 < (HLR.risL l).length := by omega
  have hm := HLR.risL_mem l
  rcases maxL_in (HLR.risL l) 0 with e | e
  · exfalso
    have h2 := hm _ (List.getElem_mem h0)
    have h3 : ∀ (t : List Int) (m : Int),(∀ x ∈ t,1 ≤ x) → 0 < t.length → 1 ≤ HMax.maxL t m := by
      intro t
      induction t with
      | nil => intro m _ h; simp at h
      | cons a t ih =>
        intro m ht _
        have := ht a (List.mem_cons_self ..)
        rw [HMax.maxL]
        cases t with
        | nil => simp only [HMax.maxL]; split <;> omega
        | cons b t => exact ih _ (fun x hx => ht x (List.mem_cons_of_mem _ hx)) (by simp)
    have := h3 (HLR.risL l) 0 (fun x hx => (hm x hx).1) h0
    omega
  · obtain ⟨j,hj,hje⟩ := List.getElem_of_mem e
    refine pick_some l _ l.length 0 _ 0 j (Nat.zero_le _) (by omega) (by rw [rd_get hj]; exact hje) ?_
    have := hp _ (List.getElem_mem (show j < l.length by omega))
    rw [rd_get (show j < l.length by omega)]
    omega

/-! mountains -/
theorem bst_ge (p : Int → Bool) : ∀ (t : List (Int × Int)) (o c : Int),(o,c) ∈ t → p o = true → c ≤ bst p t
  | [],_,_,h,_ => by cases h
  | (a,b) :: t,o,c,h,hp => by
    rw [bst]
    rcases List.mem_cons.1 h with e | h
    · obtain ⟨rfl,rfl⟩ := Prod.mk.inj e
      rw [if_pos hp]; omega
    · have := bst_ge p t o c h hp
      split <;> omega
def upE (l : List Int) (i : Nat) : Int := hdF ((l.take (i + 1)).reverse)
theorem up_step (l : List Int) (j i : Nat) (hj : j < i) (hi : i < l.length) (h : rd l (j : Int) < rd l (i : Int)) : upE l j + 1 ≤ upE l i := by
  unfold upE
  have e : (l.take (i + 1)).reverse = rd l (i : Int) :: (l.take i).reverse := by
    rw [List.take_succ_eq_append_getElem hi,List.reverse_append,rd_get hi]; rfl
  rw [e,hdF_cons]
  have hl : (l.take i).length = i := by rw [List.length_take]; omega
  have ht : ((l.take i).reverse).length = i := by rw [List.length_reverse,hl]
  have hf : (falL (l.take i).reverse).length = i := by rw [falL_len,ht]
  have hp : i - 1 - j < ((l.take i).reverse).length := by omega
  have hd : (l.take i).reverse.drop (i - 1 - j) = (l.take (j + 1)).reverse := by
    rw [List.drop_reverse,hl,List.take_take]
    congr 2
    omega
  have Ab := falL_rd (l.take i).reverse (i - 1 - j) hp
  rw [hd] at Ab
  have Aa : rd (l.take i).reverse ((i - 1 - j : Nat) : Int) = rd l (j : Int) := by
    refine rd_some ?_
    rw [List.getElem?_reverse (by omega),hl,show i - 1 - (i - 1 - j) = j by omega,List.getElem?_take,if_pos hj]
    exact some_rd (by omega)
  have := bst_ge (fun o => decide (o < rd l (i : Int))) ((l.take i).reverse.zip (falL (l.take i).reverse)) (rd l (j : Int)) (hdF ((l.take (j + 1)).reverse)) (by
    rw [← Aa,← Ab,rd_get hp,rd_get (show i - 1 - j < (falL (l.take i).reverse).length by omega)]
    have hz : i - 1 - j < ((l.take i).reverse.zip (falL (l.take i).reverse)).length := by rw [List.length_zip]; omega
    rw [← List.getElem_zip (h := hz)]
    exact List.getElem_mem hz) (decide_eq_true h)
  omega
theorem chain (l : List Int) : ∀ (t : List Int) (a : Nat),(((a : Int)) :: t).Pairwise (fun a b => a < b ∧ rd l a < rd l b) → a < l.length → (∀ x ∈ t,∃ j : Nat,x = (j : Int) ∧ j < l.length) → ∃ b : Nat,b < l.length ∧ upE l a + (t.length : Int) ≤ upE l b
  | [],a,_,ha,_ => ⟨a,ha,by simp⟩
  | x :: t,a,hp,ha,hm => by
    obtain ⟨c,rfl,hc⟩ := hm x (List.mem_cons_self ..)
    rw [List.pairwise_cons] at hp
    have h1 := hp.1 (c : Int) (List.mem_cons_self ..)
    obtain ⟨b,hb,h2⟩ := chain l t c hp.2 hc (fun x hx => hm x (List.mem_cons_of_mem _ hx))
    have h3 := up_step l a c (by omega) hc h1.2
    exact ⟨b,hb,by rw [List.length_cons]; omega⟩
theorem mtn_ge (l : List Int) : ∀ (d i : Nat) (m : Int),m ≤ mtn l i d m ∧ ∀ k,i ≤ k → k < i + d → hdF ((l.take (k + 1)).reverse) + hdF (l.drop k) - 1 ≤ mtn l i d m
  | 0,i,m => ⟨Int.le_refl _,fun k h1 h2 => by omega⟩
  | d + 1,i,m => by
    have ih := mtn_ge l d (i + 1) (if m > hdF ((l.take (i + 1)).reverse) + hdF (l.drop i) - 1 then m else hdF ((l.take (i + 1)).reverse) + hdF (l.drop i) - 1)
    rw [mtn]
    refine ⟨?_,fun k h1 h2 => ?_⟩
    · have := ih.1
      generalize mtn l (i + 1) d _ = z at *
      split at this <;> omega
    · by_cases e : k = i
      · subst e
        have := ih.1
        generalize mtn l (k + 1) d _ = z at *
        split at this <;> omega
      · exact ih.2 k (by omega) (by omega)
theorem mtn_le (l : List Int) (B : Int) : ∀ (d i : Nat) (m : Int),m ≤ B → (∀ k,i ≤ k → k < i + d → hdF ((l.take (k + 1)).reverse) + hdF (l.drop k) - 1 ≤ B) → mtn l i d m ≤ B
  | 0,i,m,h,_ => h
  | d + 1,i,m,h,hk => by
    rw [mtn]
    have := hk i (Nat.le_refl _) (by omega)
    exact mtn_le l B d (i + 1) _ (by split <;> omega) (fun k h1 h2 => hk k (by omega) (by omega))
theorem mtn_rev_le (l : List Int) : mtn l.reverse 0 l.length 0 ≤ mtn l 0 l.length 0 := by
  refine mtn_le _ _ _ _ _ (mtn_ge l l.length 0 0).1 (fun k _ hk => ?_)
  rw [Nat.zero_add] at hk
  have h := (mtn_ge l l.length 0 0).2 (l.length - 1 - k) (Nat.zero_le _) (by omega)
  rw [List.take_reverse,List.reverse_reverse,List.drop_reverse,show l.length - (k + 1) = l.length - 1 - k by omega]
  rw [show l.length - 1 - k + 1 = l.length - k by omega] at h
  omega
theorem mtn_rev (l : List Int) : mtn l.reverse 0 l.length 0 = mtn l 0 l.length 0 := by
  have h1 := mtn_rev_le l
  have h2 := mtn_rev_le l.reverse
  rw [List.reverse_reverse,List.length_reverse] at h2
  omega
theorem long_mtn (l : List Int) : ((HLR.longL l).length : Int) ≤ mtn l 0 l.length 0 := by
  have hr := pick_rise l (HLR.risL l) l.length 0 (HMax.maxL (HLR.risL l) 0) 0
  have hm := pick_mem l (HLR.risL l) l.length 0 (HMax.maxL (HLR.risL l) 0) 0
  change (HLR.longL l).Pairwise _ at hr
  change ∀ x,x ∈ HLR.longL l → _ at hm
  have h0 := (mtn_ge l l.length 0 0)
  match hL : HLR.longL l with
  | [] => have := h0.1; simp; omega
  | x :: t =>
    rw [hL] at hr hm
    obtain ⟨a,rfl,_,ha,_⟩ := hm x (List.mem_cons_self ..)
    rw [Nat.zero_add] at ha
    obtain ⟨b,hb,h1⟩ := chain l t a hr ha (fun x hx => by obtain ⟨j,h1,_,h3,_⟩ := hm x (List.mem_cons_of_mem _ hx); exact ⟨j,h1,by omega⟩)
    have h2 := h0.2 b (Nat.zero_le _) (by omega)
    have h3 := mtn_bd l b hb
    have h4 := mtn_bd l a ha
    unfold upE at h1
    rw [List.length_cons]
    omega

/-! ranks -/
def sm (f : Nat → Nat) : Nat → Nat
  | 0 => 0
  | n + 1 => sm f n + f n
theorem sm_head (f : Nat → Nat) : ∀ n,sm f (n + 1) = f 0 + sm (fun k => f (k + 1)) n
  | 0 => by simp [sm]
  | n + 1 => by rw [sm,sm_head f n,sm]; omega
theorem sm_congr {f g : Nat → Nat} : ∀ n,(∀ k,k < n → f k = g k) → sm f n = sm g n
  | 0,_ => rfl
  | n + 1,h => by rw [sm,sm,sm_congr n (fun k hk => h k (by omega)),h n (by omega)]
theorem sm_le {f g : Nat → Nat} : ∀ n,(∀ k,k < n → f k ≤ g k) → sm f n ≤ sm g n
  | 0,_ => Nat.le_refl _
  | n + 1,h => by have := sm_le n (fun k hk => h k (by omega)); have := h n (by omega); rw [sm,sm]; omega
theorem sm_lt {f g : Nat → Nat} : ∀ n,(∀ k,k < n → f k ≤ g k) → ∀ q,q < n → f q < g q → sm f n < sm g n
  | 0,_,_,h,_ => by omega
  | n + 1,h,q,hq,hl => by
    rw [sm,sm]
    by_cases e : q = n
    · subst e
      have := sm_le (f := f) (g := g) q (fun k hk => h k (by omega))
      omega
    · have := sm_lt n (fun k hk => h k (by omega)) q (by omega) hl
      have := h n (by omega)
      omega
theorem sm_add (f g : Nat → Nat) : ∀ n,sm (fun k => f k + g k) n = sm f n + sm g n
  | 0 => rfl
  | n + 1 => by rw [sm,sm_add f g n,sm,sm]; omega
theorem sm_const : ∀ n,sm (fun _ => 1) n = n
  | 0 => rfl
  | n + 1 => by rw [sm,sm_const n]
def bb (l : List Int) (q k : Nat) : Nat := if rd l (q : Int) < rd l (k : Int) then 1 else if rd l (q : Int) = rd l (k : Int) then (if q < k then 1 else 0) else 0
theorem bb_le (l : List Int) (q k : Nat) : bb l q k ≤ 1 := by unfold bb; split <;> (try split) <;> (try split) <;> omega
theorem bb_self (l : List Int) (k : Nat) : bb l k k = 0 := by unfold bb; rw [if_neg (by omega),if_pos rfl,if_neg (by omega)]
theorem bb_two (l : List Int) (q k : Nat) (h : q ≠ k) : bb l q k + bb l k q = 1 := by
  unfold bb
  by_cases h1 : rd l (q : Int) < rd l (k : Int)
  · rw [if_pos h1,if_neg (by omega),if_neg (by omega)]
  · by_cases h2 : rd l (q : Int) = rd l (k : Int)
    · rw [if_neg h1,if_pos h2,if_neg (show ¬ rd l (k : Int) < rd l (q : Int) by omega),if_pos h2.symm]
      by_cases h3 : q < k
      · rw [if_pos h3,if_neg (by omega)]
      · rw [if_neg h3,if_pos (by omega)]
    · rw [if_neg h1,if_neg h2,if_pos (by omega)]
theorem bb_trans (l : List Int) (q k p : Nat) (h1 : bb l q k = 1) (h2 : bb l k p = 1) : bb l q p = 1 := by
  unfold bb at *
  by_cases a : rd l (q : Int) < rd l (p : Int)
  · rw [if_pos a]
  · rw [if_neg a]
    split at h1
    · split at h2
      · omega
      · split at h2
        · omega
        · omega
    · split at h1
      · split at h2
        · omega
        · split at h2
          · rw [if_pos (by omega)]
            split at h1
            · split at h2
              · rw [if_pos (by omega)]
              · omega
            · omega
          · omega
      · omega
def rk (l : List Int) (k : Nat) : Nat := sm (fun q => bb l q k) l.length
theorem rk_lt (l : List Int) (q k : Nat) (hq : q < l.length) (h : bb l q k = 1) : rk l q < rk l k := by
  unfold rk
  refine sm_lt l.length (fun p hp => ?_) q hq (by rw [bb_self,h]; omega)
  have h1 := bb_le l p q
  by_cases e : bb l p q = 1
  · rw [e,bb_trans l p q k e h]; exact Nat.le_refl _
  · have : bb l p q = 0 := by omega
    rw [this]; exact Nat.zero_le _
theorem rk_ne (l : List Int) (q k : Nat) (hq : q < l.length) (hk : k < l.length) (h : q ≠ k) : rk l q ≠ rk l k := by
  have := bb_two l q k h
  have h1 := bb_le l q k
  by_cases e : bb l q k = 1
  · have := rk_lt l q k hq e; omega
  · have := rk_lt l k q hk (by omega); omega
theorem rk_bd (l : List Int) (k : Nat) (hk : k < l.length) : rk l k < l.length := by
  have h : rk l k < sm (fun _ => 1) l.length := sm_lt l.length (fun p _ => bb_le l p k) k hk (by rw [bb_self]; omega)
  rwa [sm_const] at h
theorem rk_gt (l : List Int) (q k : Nat) (hq : q < k) (hk : k < l.length) : rk l q > rk l k ↔ rd l (q : Int) > rd l (k : Int) := by
  constructor
  · intro h
    by_cases c : rd l (q : Int) > rd l (k : Int)
    · exact c
    · exfalso
      have e : bb l q k = 1 := by
        unfold bb
        by_cases d : rd l (q : Int) < rd l (k : Int)
        · rw [if_pos d]
        · rw [if_neg d,if_pos (by omega),if_pos hq]
      have := rk_lt l q k (by omega) e
      omega
  · intro h
    exact rk_lt l k q hk (by unfold bb; rw [if_pos (by omega)])
theorem sm2 (f : Nat → Nat → Nat) (h0 : ∀ k,f k k = 0) (h1 : ∀ q k,q ≠ k → f q k + f k q = 1) : ∀ n,2 * sm (fun k => sm (fun q => f q k) n) n + n = n * n
  | 0 => rfl
  | n + 1 => by
    have ih := sm2 f h0 h1 n
    have Aa : sm (fun k => sm (fun q => f q k) (n + 1)) (n + 1) = sm (fun k => sm (fun q => f q k) n) n + (sm (fun k => f n k) n + (sm (fun q => f q n) n + f n n)) := by
      rw [sm,show (fun k => sm (fun q => f q k) (n + 1)) = fun k => sm (fun q => f q k) n + f n k from rfl,sm_add,sm]
      have ee : sm (f n) n = sm (fun k => f n k) n := rfl
      omega
    have Ab : sm (fun k => f n k) n + sm (fun q => f q n) n = n := by
      rw [← sm_add]
      refine (sm_congr n (fun k hk => ?_)).trans (sm_const n)
      exact h1 n k (by omega)
    have Ac : (n + 1) * (n + 1) = n * n + 2 * n + 1 := by simp only [Nat.add_mul,Nat.mul_add,Nat.one_mul,Nat.mul_one]; omega
    rw [Aa,h0 n,Ac]
    omega
theorem cnt_sm (i : Nat) (h : Int) : ∀ (t : List Int) (j : Nat),cntR t j i h = sm (fun q => if rd t (q : Int) < h then 1 else if rd t (q : Int) = h then (if j + q < i then 1 else 0) else 0) t.length
  | [],j => rfl
  | o :: t,j => by
    rw [cntR,cnt_sm i h t (j + 1),List.length_cons,sm_head]
    congr 1
    refine sm_congr _ (fun k hk => ?_)
    have e : rd (o :: t) ((k + 1 : Nat) : Int) = rd t (k : Int) := rd_some (by rw [List.getElem?_cons_succ]; exact some_rd hk)
    rw [e,show j + 1 + k = j + (k + 1) by omega]
theorem ranksR_rd (l : List Int) : ∀ (t : List Int) (i k : Nat),k < t.length → rd (ranksR l t i) (k : Int) = ((cntR l 0 (i + k) (rd t (k : Int)) : Nat) : Int)
  | [],i,k,h => by simp at h
  | a :: t,i,0,_ => rfl
  | a :: t,i,k + 1,h => by
    have hk : k < t.length := by simpa using h
    have e : rd (a :: t) ((k + 1 : Nat) : Int) = rd t (k : Int) := rd_some (by rw [List.getElem?_cons_succ]; exact some_rd hk)
    have Ab : rd (ranksR l (a :: t) i) ((k + 1 : Nat) : Int) = rd (ranksR l t (i + 1)) (k : Int) := rd_some (by
      rw [ranksR,List.getElem?_cons_succ]; exact some_rd (by rw [ranksR_len]; exact hk))
    rw [e,Ab,ranksR_rd l t (i + 1) k hk,show i + 1 + k = i + (k + 1) by omega]
def rksL (l : List Int) : List Int := ranksR l l 0
theorem rksL_len (l : List Int) : (rksL l).length = l.length := ranksR_len l l 0
theorem rksL_rd (l : List Int) (k : Nat) (h : k < l.length) : rd (rksL l) (k : Int) = (rk l k : Int) := by
  unfold rksL rk
  rw [ranksR_rd l l 0 k h,cnt_sm]
  congr 1
  refine sm_congr _ (fun q _ => ?_)
  unfold bb
  rw [Nat.zero_add,Nat.zero_add]
def sumI (l : List Int) : Nat → Int
  | 0 => 0
  | n + 1 => sumI l n + rd l (n : Int)
theorem rks_sum (l : List Int) : ∀ n,n ≤ l.length → sumI (rksL l) n = (sm (rk l) n : Int)
  | 0,_ => rfl
  | n + 1,h => by rw [sumI,rks_sum l n (by omega),rksL_rd l n (by omega),sm]; omega
theorem rks_total (l : List Int) : 2 * sm (rk l) l.length + l.length = l.length * l.length := sm2 (bb l) (bb_self l) (bb_two l) l.length
theorem disR_same (a b : Int) : ∀ (t s : List Int),t.length = s.length → (∀ k : Nat,k < t.length → (a > rd t (k : Int) ↔ b > rd s (k : Int))) → disR a t = disR b s
  | [],[],_,_ => rfl
  | [],_ :: _,h,_ => by simp at h
  | _ :: _,[],h,_ => by simp at h
  | x :: t,y :: s,hl,h => by
    have hl2 : t.length = s.length := by simpa using hl
    have ih := disR_same a b t s hl2 (fun k hk => by
      have := h (k + 1) (by simp; omega)
      have Aa : rd (x :: t) ((k + 1 : Nat) : Int) = rd t (k : Int) := rd_some (by rw [List.getElem?_cons_succ]; exact some_rd hk)
      have Ab : rd (y :: s) ((k + 1 : Nat) : Int) = rd s (k : Int) := rd_some (by rw [List.getElem?_cons_succ]; exact some_rd (by omega))
      rwa [Aa,Ab] at this)
    have h0 : a > x ↔ b > y := h 0 (by simp)
    rw [disR,disR,ih]
    by_cases c : a > x
    · rw [if_pos c,if_pos (h0.1 c)]
    · rw [if_neg c,if_neg (fun d => c (h0.2 d))]
theorem disL_same : ∀ (t s : List Int),t.length = s.length → (∀ q k : Nat,q < k → k < t.length → (rd t (q : Int) > rd t (k : Int) ↔ rd s (q : Int) > rd s (k : Int))) → disL t = disL s
  | [],[],_,_ => rfl
  | [],_ :: _,h,_ => by simp at h
  | _ :: _,[],h,_ => by simp at h
  | x :: t,y :: s,hl,h => by
    have hl2 : t.length = s.length := by simpa using hl
    have Aa : ∀ k : Nat,k < t.length → rd (x :: t) ((k + 1 : Nat) : Int) = rd t (k : Int) := fun k hk => rd_some (by rw [List.getElem?_cons_succ]; exact some_rd hk)
    have Ab : ∀ k : Nat,k < s.length → rd (y :: s) ((k + 1 : Nat) : Int) = rd s (k : Int) := fun k hk => rd_some (by rw [List.getElem?_cons_succ]; exact some_rd hk)
    rw [disL,disL]
    congr 1
    · refine disR_same x y t s hl2 (fun k hk => ?_)
      have := h 0 (k + 1) (by omega) (by simp; omega)
      rw [Aa k hk,Ab k (by omega)] at this
      exact this
    · refine disL_same t s hl2 (fun q k hq hk => ?_)
      have := h (q + 1) (k + 1) (by omega) (by simp; omega)
      rwa [Aa k hk,Ab k (by omega),Aa q (by omega),Ab q (by omega)] at this
theorem rks_dis (l : List Int) : disL (rksL l) = disL l := by
  refine disL_same _ _ (rksL_len l) (fun q k hq hk => ?_)
  rw [rksL_len] at hk
  rw [rksL_rd l q (by omega),rksL_rd l k hk,← rk_gt l q k hq hk]
  omega
end Go.Proofs.Ytleacijhpkogpad.HRiseP
/- Plain laws of heights for the law on rising,continued: orders by who is seen: their counts add up,and those that are found are counted: lists alone,no program. -/
namespace Go.Proofs.Ytleacijhpkogpad.HRiseQ
open Go.RowKit YtleacijhpkogpadW.PrintWords YtleacijhpkogpadW.PrintLast YtleacijhpkogpadW.PrintMore HPlain HRiseP HFind HSeen

theorem has_iff (s : List Int) (h : Int) : HHas.has s h = true ↔ h ∈ s := by
  simp [HHas.has]
theorem seenC_sym : ∀ n l r,seenC n l r = seenC n r l
  | 0,l,r => by
    rw [seenC,seenC]
    by_cases h : l = 1 ∧ r = 1
    · rw [if_pos h,if_pos ⟨h.2,h.1⟩]
    · rw [if_neg h,if_neg (fun z => h ⟨z.2,z.1⟩)]
  | n + 1,l,r => by
    rw [seenC,seenC,seenC_sym n (l - 1) r,seenC_sym n l (r - 1),seenC_sym n l r]
    by_cases h : l = 0 ∨ r = 0
    · rw [if_pos h,if_pos h.symm]
    · rw [if_neg h,if_neg (fun z => h z.symm)]; omega
theorem seenC_big : ∀ n l r,n + 1 < r → seenC n l r = 0
  | 0,l,r,h => by rw [seenC,if_neg (by omega)]
  | n + 1,l,r,h => by
    rw [seenC]
    split
    · rfl
    · rw [seenC_big n (l - 1) r (by omega),seenC_big n l (r - 1) (by omega),seenC_big n l r (by omega),Nat.mul_zero]
theorem seenC_big_l (n l r : Nat) (h : n + 1 < l) : seenC n l r = 0 := by rw [seenC_sym]; exact seenC_big n r l h
theorem seenC_pos : ∀ n l r,1 ≤ l → 1 ≤ r → l + r ≤ n + 2 → (n = 0 ∨ 3 ≤ l + r) → 1 ≤ seenC n l r
  | 0,l,r,h1,h2,h3,_ => by rw [seenC,if_pos (by omega)]; exact Nat.le_refl _
  | n + 1,l,r,h1,h2,h3,h4 => by
    rw [seenC,if_neg (by omega)]
    by_cases a : 2 ≤ l ∧ (n = 0 ∨ 4 ≤ l + r)
    · have := seenC_pos n (l - 1) r (by omega) h2 (by omega) (by omega)
      omega
    · by_cases b : 2 ≤ r ∧ (n = 0 ∨ 4 ≤ l + r)
      · have := seenC_pos n l (r - 1) h1 (by omega) (by omega) (by omega)
        omega
      · have := seenC_pos n l r h1 h2 (by omega) (by omega)
        have := Nat.mul_le_mul (show 1 ≤ n by omega) this
        omega

/-! the counts add up -/
def rowS (n i : Nat) : Nat := sm (fun j => seenC n i j) (n + 2)
theorem rowS_zero (n : Nat) : rowS n 0 = 0 := by
  have h : sm (fun j => seenC n 0 j) (n + 2) = sm (fun _ => 0) (n + 2) := sm_congr _ (fun k _ => seenC_zero_l n k)
  have h2 : ∀ m,sm (fun _ => 0) m = 0 := fun m => by
    induction m with
    | zero => rfl
    | succ m ih => rw [sm,ih]
  exact h.trans (h2 _)
theorem rowS_big (n : Nat) : rowS n (n + 2) = 0 := by
  have h : sm (fun j => seenC n (n + 2) j) (n + 2) = sm (fun _ => 0) (n + 2) := sm_congr _ (fun k _ => seenC_big_l n _ k (by omega))
  have h2 : ∀ m,sm (fun _ => 0) m = 0 := fun m => by
    induction m with
    | zero => rfl
    | succ m ih => rw [sm,ih]
  exact h.trans (h2 _)
theorem sm_mul (c : Nat) (f : Nat → Nat) : ∀ n,sm (fun k => c * f k) n = c * sm f n
  | 0 => by simp [sm]
  | n + 1 => by rw [sm,sm_mul c f n,sm,Nat.mul_add]
theorem rowS_step (n i : Nat) : rowS (n + 1) (i + 1) = rowS n i + (n + 1) * rowS n (i + 1) := by
  unfold rowS
  rw [show n + 1 + 2 = (n + 2) + 1 by omega,sm_head,seenC_zero_r,Nat.zero_add]
  have h : ∀ k,k < n + 2 → seenC (n + 1) (i + 1) (k + 1) = (seenC n i (k + 1) + seenC n (i + 1) k) + n * seenC n (i + 1) (k + 1) := fun k _ => by
    rw [seenC,if_neg (by omega)]; rfl
  rw [sm_congr _ h,sm_add (fun k => seenC n i (k + 1) + seenC n (i + 1) k),sm_add (fun k => seenC n i (k + 1)),sm_mul]
  have Aa : sm (fun k => seenC n i (k + 1)) (n + 2) = sm (fun j => seenC n i j) (n + 2) := by
    have a := sm_head (fun j => seenC n i j) (n + 2)
    rw [sm,seenC_zero_r,seenC_big n i (n + 2) (by omega)] at a
    omega
  have Ab : sm (fun k => seenC n (i + 1) (k + 1)) (n + 2) = sm (fun j => seenC n (i + 1) j) (n + 2) := by
    have a := sm_head (fun j => seenC n (i + 1) j) (n + 2)
    rw [sm,seenC_zero_r,seenC_big n (i + 1) (n + 2) (by omega)] at a
    omega
  rw [Aa,Ab,Nat.add_mul,Nat.one_mul]
  show _ + sm (fun j => seenC n (i + 1) j) (n + 2) + _ = _
  omega
def allS (n : Nat) : Nat := sm (rowS n) (n + 2)
def allW (n : Nat) : Nat := sm (fun i => i * rowS n i) (n + 2)
theorem allS_step (n : Nat) : allS (n + 1) = (n + 2) * allS n := by
  unfold allS
  rw [show n + 1 + 2 = (n + 2) + 1 by omega,sm_head,rowS_zero,Nat.zero_add,sm_congr _ (fun k _ => rowS_step n k),sm_add (rowS n),sm_mul]
  have a := sm_head (rowS n) (n + 2)
  rw [sm,rowS_zero,rowS_big] at a
  have e : sm (fun k => rowS n (k + 1)) (n + 2) = sm (rowS n) (n + 2) := by omega
  rw [e,Nat.add_mul,Nat.add_mul]; omega
theorem allW_step (n : Nat) : allW (n + 1) = (n + 2) * allW n + allS n := by
  unfold allW allS
  rw [show n + 1 + 2 = (n + 2) + 1 by omega,sm_head,Nat.zero_mul,Nat.zero_add]
  have h : ∀ k,k < n + 2 → (k + 1) * rowS (n + 1) (k + 1) = (k * rowS n k + rowS n k) + (n + 1) * ((k + 1) * rowS n (k + 1)) := fun k _ => by
    rw [rowS_step,Nat.mul_add,Nat.add_mul,Nat.one_mul,Nat.mul_left_comm]
  rw [sm_congr _ h,sm_add (fun k => k * rowS n k + rowS n k),sm_add (fun k => k * rowS n k),sm_mul]
  have a := sm_head (fun i => i * rowS n i) (n + 2)
  rw [sm,rowS_big,Nat.zero_mul,Nat.mul_zero] at a
  have e : sm (fun k => (k + 1) * rowS n (k + 1)) (n + 2) = sm (fun i => i * rowS n i) (n + 2) := by omega
  rw [e]
  have Ab : sm (fun k => rowS n k) (n + 2) = sm (rowS n) (n + 2) := rfl
  have Ac : sm (fun k => k * rowS n k) (n + 2) = sm (fun i => i * rowS n i) (n + 2) := rfl
  rw [Ac,Ab]
  generalize sm (fun i => i * rowS n i) (n + 2) = A
  generalize sm (rowS n) (n + 2) = B
  have e4 : (n + 2) * A = (n + 1) * A + A := Nat.succ_mul _ _
  omega
theorem allS_zero : allS 0 = 1 := by decide
theorem allW_zero : allW 0 = 1 := by decide

/-! the first order -/
theorem scan_got {g : Int → Option (List Int)} : ∀ (c : Nat) (h : Int) (o : List Int),scan g c h = some o → ∃ h',h ≤ h' ∧ h' < h + (c : Int) ∧ g h' = some o
  | 0,_,_,e => by simp [scan] at e
  | c + 1,h,o,e => by
    rw [scan] at e
    cases hx : g h with
    | some o' => rw [hx] at e; simp only [Option.some.injEq] at e; subst e; exact ⟨h,Int.le_refl _,by omega,hx⟩
    | none =>
      rw [hx] at e
      obtain ⟨h',h1,h2,h3⟩ := scan_got c _ _ e
      exact ⟨h',by omega,by omega,h3⟩
theorem look_got (n : Nat) (L R : Int) : ∀ (d : Nat) (s o : List Int), s.Nodup → (∀ x ∈ s, 1 ≤ x ∧ x ≤ (n : Int)) → HFind.look n L R d s = some o →
    o.Nodup ∧ (∀ x ∈ o,1 ≤ x ∧ x ≤ (n : Int)) ∧ ((seenR o 0 0).length : Int) = L ∧ ((seenR o.reverse 0 0).length : Int) = R
  | 0,s,o,hd,hb,e => by
    rw [HFind.look] at e
    split at e
    · rename_i c
      simp only [Option.some.injEq] at e
      subst e
      exact ⟨hd,hb,c.1,c.2⟩
    · simp at e
  | d + 1,s,o,hd,hb,e => by
    rw [HFind.look] at e
    obtain ⟨h,h1,h2,h3⟩ := scan_got _ _ _ e
    split at h3
    · simp at h3
    · rename_i c
      refine look_got n L R d _ o ?_ ?_ h3
      · rw [List.nodup_append]
        refine ⟨hd,by simp,fun a ha b hb' Ab => ?_⟩
        have Ac : b = h := by simpa using hb'
        exact c ((has_iff s h).2 (by rw [← Ac,← Ab]; exact ha))
      · intro x hx
        rcases List.mem_append.1 hx with hx | hx
        · exact hb x hx
        · have : x = h := by simpa using hx
          rw [this]; omega
theorem inc_len : ∀ (xs : List Int) (a b : Int),xs.Pairwise (· < ·) → (∀ x ∈ xs,a ≤ x ∧ x ≤ b) → a ≤ b + 1 → (xs.length : Int) ≤ b - a + 1
  | [],a,b,_,_,h => by simp; omega
  | x :: t,a,b,hp,hm,h => by
    rw [List.pairwise_cons] at hp
    have hx := hm x (List.mem_cons_self ..)
    have ih := inc_len t (x + 1) b hp.2 (fun y hy => ⟨by have := hp.1 y hy; omega,(hm y (List.mem_cons_of_mem _ hy)).2⟩) (by omega)
    rw [List.length_cons]; omega
theorem last_ge : ∀ (xs : List Int) (z : Int),xs.Pairwise (· < ·) → xs.getLast? = some z → ∀ x ∈ xs,x ≤ z
  | [],z,_,h,_,hx => by cases hx
  | [a],z,_,h,x,hx => by
    have Aa : a = z := by simpa using h
    have Ab : x = a := by simpa using hx
    omega
  | a :: b :: t,z,hp,h,x,hx => by
    rw [List.pairwise_cons] at hp
    have h2 : (b :: t).getLast? = some z := by rw [List.getLast?_cons_cons] at h; exact h
    rcases List.mem_cons.1 hx with rfl | hx
    · have h3 := last_ge (b :: t) z hp.2 h2 b (List.mem_cons_self ..)
      have h4 := hp.1 b (List.mem_cons_self ..)
      omega
    · exact last_ge (b :: t) z hp.2 h2 x hx
theorem seen_upto (o : List Int) (h1 : 1 ≤ o.length) (hp : ∀ x ∈ o,1 ≤ x) : ∃ p : Nat,o[p]? = some (HMax.maxL o 0) ∧ 1 ≤ (seenR o 0 0).length ∧ (seenR o 0 0).length ≤ p + 1 ∧ ((seenR o 0 0).length = 1 → p = 0) := by
  obtain ⟨f1,f2,j,f3,f4,f5⟩ := HBigP.seen_facts o h1 hp
  rcases HBigP.seenR_last o 0 0 with ⟨h2,_⟩ | ⟨p,h2,h3⟩
  · rw [h2] at f1; simp at f1
  · have hg := HBigP.getLast_rd h2
    refine ⟨p,h3,f1,?_,fun e => ?_⟩
    · have := inc_len (seenR o 0 0) 0 (p : Int) (HBigP.seenR_lt o 0 0) (fun x hx => ⟨(HBigP.seen_in o x hx).1,by have := last_ge _ _ (HBigP.seenR_lt o 0 0) h2 x hx; omega⟩) (by omega)
      omega
    · have h4 := hg.2
      rw [e] at h4
      rw [show ((1 : Nat) : Int) - 1 = 0 by rfl,f2] at h4
      omega
theorem first_count (o : List Int) (n : Nat) (hn : o.length = n + 1) (hd : o.Nodup) (hp : ∀ x ∈ o,1 ≤ x) : 1 ≤ seenC n (seenR o 0 0).length (seenR o.reverse 0 0).length := by
  obtain ⟨p,a1,a2,a3,a4⟩ := seen_upto o (by omega) hp
  obtain ⟨q,b1,b2,b3,b4⟩ := seen_upto o.reverse (by rw [List.length_reverse]; omega) (fun x hx => hp x (List.mem_reverse.1 hx))
  have hm : HMax.maxL o.reverse 0 = HMax.maxL o 0 := by
    have hle : ∀ b,HMax.maxL o.reverse 0 ≤ b ↔ HMax.maxL o 0 ≤ b := fun b => by rw [HBigP.maxL_le,HBigP.maxL_le]; simp
    have a1 := (hle (HMax.maxL o 0)).2 (Int.le_refl _)
    have a2 := (hle (HMax.maxL o.reverse 0)).1 (Int.le_refl _)
    omega
  rw [hm] at b1
  have hp2 := (List.getElem?_eq_some_iff.1 a1).1
  have hq2 := (List.getElem?_eq_some_iff.1 b1).1
  rw [List.length_reverse] at hq2
  rw [List.getElem?_reverse hq2] at b1
  have e : p = o.length - 1 - q := (List.getElem?_inj hp2 hd).1 (a1.trans b1.symm)
  refine seenC_pos n _ _ a2 b2 (by omega) ?_
  by_cases h0 : n = 0
  · exact .inl h0
  · right
    by_cases h3 : (seenR o 0 0).length = 1
    · have := a4 h3
      by_cases h4 : (seenR o.reverse 0 0).length = 1
      · have := b4 h4; omega
      · omega
    · omega
end Go.Proofs.Ytleacijhpkogpad.HRiseQ
/- How many are seen in the mean: the table,as both bodies compute it; what it has to do with the counts of orders. -/
namespace Go.Proofs.Ytleacijhpkogpad.HMean
open Go.RowKit YtleacijhpkogpadW.PrintWords YtleacijhpkogpadW.PrintLast YtleacijhpkogpadW.PrintMore PFnHeightsRise HPlain HRiseP HRiseQ

def tab : Nat → Nat × Nat
  | 0 => (1,1) | 1 => (3,2) | 2 => (11,6) | 3 => (25,12) | 4 => (137,60) | 5 => (49,20) | 6 => (363,140) | 7 => (761,280) | 8 => (7129,2520) | 9 => (7381,2520)
  | 10 => (83711,27720) | 11 => (86021,27720) | 12 => (1145993,360360) | 13 => (1171733,360360) | _ => (1195757,360360)
theorem impl_tab : ∀ n : Fin 15,impl_MeanSeen.f 60 ((n.val + 1 : Nat) : Int) = some (((tab n.val).1 : Int),((tab n.val).2 : Int),true) := by decide +kernel
theorem spec_tab : ∀ n : Fin 15,spec_MeanSeen.f 60 ((n.val + 1 : Nat) : Int) = some (((tab n.val).1 : Int),((tab n.val).2 : Int),true) := by decide +kernel
def fS : Nat → Nat
  | 0 => 1
  | n + 1 => (n + 2) * fS n
def fW : Nat → Nat
  | 0 => 1
  | n + 1 => (n + 2) * fW n + fS n
theorem allS_is : ∀ n,allS n = fS n
  | 0 => allS_zero
  | n + 1 => by rw [allS_step,allS_is n,fS]
theorem allW_is : ∀ n,allW n = fW n
  | 0 => allW_zero
  | n + 1 => by rw [allW_step,allW_is n,allS_is n,fW]
theorem tab_facts : ∀ n : Fin 15,1 ≤ (tab n.val).2 ∧ fS n.val % (tab n.val).2 = 0 ∧ fW n.val = fS n.val / (tab n.val).2 * (tab n.val).1 ∧ fS n.val ≤ 1307674368000 ∧ fW n.val ≤ 100000000000000 := by decide +kernel
theorem mean_pack (p : Int) (w : World) : ∃ (num den : Int) (g : Bool), (∀ W, Below w.heap.size w W → Calls Try.prog 50 #[.int .i64 p] W fun e w' => e = .returned (.tuple #[.int .i64 num, .int .i64 den, .bool g]) ∧ Drawn0 W w') ∧ (∀ W, Below w.heap.size w W → Calls Try.prog 51 #[.int .i64 p] W fun e w' => e = .returned (.tuple #[.int .i64 num, .int .i64 den, .bool g]) ∧ Drawn0 W w') ∧
    (g = true → ∃ n N D : Nat,p = ((n + 1 : Nat) : Int) ∧ n ≤ 14 ∧ num = (N : Int) ∧ den = (D : Int) ∧ 1 ≤ D ∧ allS n % D = 0 ∧ allW n = allS n / D * N ∧ allS n ≤ 1307674368000 ∧ allW n ≤ 100000000000000) := by
  by_cases h : 1 ≤ p ∧ p ≤ 15
  · obtain ⟨n,hn⟩ := Int.eq_ofNat_of_zero_le (show 0 ≤ p - 1 by omega)
    obtain rfl : p = ((n + 1 : Nat) : Int) := by omega
    have hn14 : n < 15 := by omega
    have h1 := impl_tab ⟨n,hn14⟩
    have h2 := spec_tab ⟨n,hn14⟩
    have h3 := tab_facts ⟨n,hn14⟩
    simp only at h1 h2 h3
    refine ⟨_,_,true,fun W _ => impl_MeanSeen.calls 60 _ _ _ _ W h1,fun W _ => spec_MeanSeen.calls 60 _ _ _ _ W h2,fun _ => ⟨n,(tab n).1,(tab n).2,rfl,by omega,rfl,rfl,h3.1,?_,?_,?_,?_⟩⟩
    · rw [allS_is]; exact h3.2.1
    · rw [allS_is,allW_is]; exact h3.2.2.1
    · rw [allS_is]; exact h3.2.2.2.1
    · rw [allW_is]; exact h3.2.2.2.2
  · have h1 : impl_MeanSeen.f 0 p = some (0, 0, false) := by
      unfold impl_MeanSeen.f impl_in.f
      by_cases a : p ≥ 1 <;> by_cases b : p ≤ 15 <;> simp [a,b] <;> omega
    have h2 : spec_MeanSeen.f 0 p = some (0,0,false) := by
      unfold spec_MeanSeen.f spec_l1In.f
      by_cases a : p ≥ 1 <;> by_cases b : p ≤ 15 <;> simp [a,b] <;> omega
    exact ⟨0,0,false,fun W _ => impl_MeanSeen.calls 0 _ _ _ _ W h1,fun W _ => spec_MeanSeen.calls 0 _ _ _ _ W h2,fun e => by cases e⟩
end Go.Proofs.Ytleacijhpkogpad.HMean
