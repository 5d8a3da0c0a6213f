/- A list copied and turned: the walks of slices.Clone and impl.mirrored over the printed walk of slices.Reverse. -/
import Derived.Test.YtleacijhpkogpadPFnHeightsRisex2
import Derived.WalkSpells
import Derived.Lib.SliceRun
import Derived.Shelf.Abstract
import Derived.Test.YtleacijhpkogpadPFnHeightsRisex1
import Derived.Test.YtleacijhpkogpadPFnHeightsRisex7
import Derived.Deep.QuietTactic
import Derived.IntWalk
import Derived.WalkKit
set_option linter.unusedVariables false
set_option linter.unusedSimpArgs false
set_option maxHeartbeats 8000000
set_option maxRecDepth 100000
namespace Go.Proofs.Ytleacijhpkogpad.HClone
open Go.RowKit YtleacijhpkogpadW.PrintWords YtleacijhpkogpadW.PrintLast YtleacijhpkogpadW.PrintMore PFnHeightsRise

theorem info_int : (Try.prog.info? 3).map (fun i => (i.zero,i.size,i.bytes)) = some (some (.int .i64 0),1,8) := by kernel_rfl
theorem clone_calls (A0 : Option Addr) (c0 : Nat) (l : List Int) (hl : l.length ≤ 1048576) (w : World) (hr0 : Kd.C (Kd.int .i64) w A0 l.length l) :
    Calls Try.prog 68 #[.slice A0 l.length c0] w fun e w' => ∃ v : Value,e = .returned v ∧ Kd.R (Kd.int .i64) 3 w' w.heap.size (fun _ => True) v l ∧ Below w.heap.size w w' := by
  have HR0 := Aside0.mk hr0
  have HL := Aside0.mk hl
  clear hr0 hl
  have HB := Aside0.mk (Below.refl w.heap.size w)
  cases A0 with
  | none =>
    have Aa : l = [] := by
      have := HR0.out.2.2
      rcases Nat.eq_zero_or_pos l.length with h0 | h0
      · exact List.eq_nil_of_length_eq_zero h0
      · obtain ⟨ad,e,_⟩ := this h0
        cases e
    subst Aa
    have heq := fun (w : World) => Go.Lib.run_eql_slice_nil (P := Try.prog) w 24 3 none 0 c0 0 0 Try.underlying24
    go_enter Try.func68,Try.ntmps68
    go_wp2
    go_ret
    exact ⟨_,rfl,Kd.R_nil _ _ _ _ _,HB.out⟩
  | some ad0 =>
    have heq := fun (w : World) => Go.Lib.run_eql_slice_nil (P := Try.prog) w 24 3 (some ad0) l.length c0 0 0 Try.underlying24
    go_enter Try.func68,Try.ntmps68
    go_wp2_with (first | ((with_reducible refine gate_dst (N := 5) rfl ?_); refine Kd.R_lit (Kd.int .i64) (w0 := w) w.heap.size 3 ?hg (N := 5) ?hd (xs := ([] : List Int)) (inner := []) (ok := fun _ => True) (okp := fun _ => True) ?hr ?hp (fun _ hk => hk) trivial (Below.refl _ _) (Nat.le_refl _) (by simp) ?_; (case hd => rfl); (case hg => rfl); (case hr => first | (go_simp; done) | (go_simp; rfl)); (case hp => exact (Reps.none _ _)); intro v1 w1 ho hb hg_ hnew_; have HO := Aside0.mk ho; have HBn := Aside0.mk hb; clear ho hb hg_ hnew_ HB; have HB := HBn; clear HBn) | ((with_reducible refine gate_builtin (b := .append) (xs := #[.tmp 5,.tmp 6]) rfl ?_); at_builtin; refine Kd.R_append_rows (Kd.int .i64) (w0 := w) w.heap.size rfl (.tmp 5) (.tmp 6) 24 3 (.int .i64 0) 8 rfl Try.underlying24 info_int rfl (by decide) (by omega) v1 [] l _ _ _ (fun _ => True) (fun _ => False) rfl rfl ?aO ?aR (fun _ _ h => h) (fun _ h => h.elim) (fun _ _ => trivial) ?aB ?aS ?aL ?_; (case aR => exact (Kd.C_below HR0.out HB.out)); (case aB => exact (by repeat first|(with_reducible first|exact HB.out|apply below_alloc|apply pw_below_drewN|apply below_drew1)|exact HB.out)); (case aO => exact HO.out); (case aS => exact HB.out.size); (case aL => have := HL.out; simp; omega); intro v2 w2 ho hb hg hat; have HO2 := Aside0.mk ho; have HB2 := Aside0.mk hb; clear ho hb hg hat))
    go_ret
    exact ⟨_,rfl,HO2.out,HB2.out⟩
/-! turned -/
theorem w1 (i : Nat) (h : i ≤ 4611686018427387904) : wrap64 ((i : Int) + 1) = ((i + 1 : Nat) : Int) := by unfold wrap64; omega
theorem wm1 (m : Nat) (h : m ≤ 4611686018427387904) : wrap64 ((m : Int) - 1) = (m : Int) - 1 := by unfold wrap64; omega
theorem rd_nat (l : List Int) (i : Nat) (h : i < l.length) : rd l (i : Int) = l[i] := by
  simp [rd,List.getD_eq_getElem?_getD,List.getElem?_eq_getElem h]
theorem set_mid (p s : List Int) (a b : Int) (m : List Int) : ((p ++ (a :: (m ++ [b])) ++ s).set p.length b).set (p.length + (m.length + 1)) a = (p ++ [b]) ++ m ++ (a :: s) := by
  simp [List.set_append]
theorem rev_loop : ∀ (d : Nat) (mid p s : List Int), mid.length ≤ d → p.length = s.length → (p ++ mid ++ s).length ≤ 1048576 →
    Ev (fun k => slices_Reverse_int_int.l0 k (p ++ mid ++ s) (p.length : Int) ((p.length : Int) + (mid.length : Int) - 1)) (p ++ mid.reverse ++ s) := by
  intro d
  induction d with
  | zero =>
    intro mid p s hm hps hlen
    obtain rfl : mid = [] := List.eq_nil_of_length_eq_zero (by omega)
    refine Ev.step (f := fun _ => some (p ++ [] ++ s)) (fun k => ?_) (Ev.now _)
    simp only [slices_Reverse_int_int.l0]
    rw [if_neg (by simp; try omega)]
  | succ d ih =>
    intro mid p s hm hps hlen
    match mid with
    | [] =>
      refine Ev.step (f := fun _ => some (p ++ [] ++ s)) (fun k => ?_) (Ev.now _)
      simp only [slices_Reverse_int_int.l0]
      rw [if_neg (by simp; try omega)]
    | [a] =>
      refine Ev.step (f := fun _ => some (p ++ [a] ++ s)) (fun k => ?_) (Ev.now _)
      simp only [slices_Reverse_int_int.l0]
      rw [if_neg (by simp; try omega)]
    | a :: c :: t =>
      obtain ⟨m,b,hmb⟩ : ∃ m b,c :: t = m ++ [b] := ⟨(c :: t).dropLast,(c :: t).getLast (by simp),(List.dropLast_concat_getLast (by simp)).symm⟩
      rw [hmb] at hm hlen ⊢
      simp only [List.length_cons,List.length_append,List.length_nil] at hm hlen
      have hr := ih m (p ++ [b]) (a :: s) (by omega) (by simp; omega) (by simp; omega)
      have e : (p ++ [b]) ++ m.reverse ++ (a :: s) = p ++ (a :: (m ++ [b])).reverse ++ s := by simp
      rw [e] at hr
      have hfull : (p ++ a :: (m ++ [b]) ++ s).length = p.length + (m.length + 2) + s.length := by simp; omega
      have r1 : rd (p ++ a :: (m ++ [b]) ++ s) (p.length : Int) = a := by
        rw [rd_nat _ _ (by omega)]
        simp
      have r2 : rd (p ++ a :: (m ++ [b]) ++ s) ((p.length + (m.length + 1) : Nat) : Int) = b := by
        rw [rd_nat _ _ (by omega)]
        simp [List.getElem_append]
      refine Ev.step (fun k => ?_) hr
      simp only [slices_Reverse_int_int.l0]
      have ej : (p.length : Int) + ((a :: (m ++ [b])).length : Int) - 1 = ((p.length + (m.length + 1) : Nat) : Int) := by simp; omega
      rw [ej,r1,r2,hfull,if_pos (by omega),if_pos (by omega),if_pos (by omega),if_pos (by omega),if_pos (by omega),w1 p.length (by omega),wm1 _ (by omega)]
      rw [show ((p.length : Int)).toNat = p.length by omega,show (((p.length + (m.length + 1) : Nat) : Int)).toNat = p.length + (m.length + 1) by omega,set_mid]
      congr 1
      · simp
      · simp; omega
theorem rev_ev (l : List Int) (hl : l.length ≤ 1048576) : Ev (fun k => slices_Reverse_int_int.f k l) l.reverse := by
  have h := rev_loop l.length l [] [] (by omega) rfl (by simpa using hl)
  simp only [List.nil_append,List.append_nil,List.length_nil] at h
  refine Ev.congr (fun k => ?_) h
  simp only [slices_Reverse_int_int.f]
  rw [wm1 l.length (by omega)]
  congr 1
  omega
theorem rev_calls (v : Value) (l : List Int) (hl : l.length ≤ 1048576) (w0 w : World) (hB : Below w0.heap.size w0 w) (ho : Kd.R (Kd.int .i64) 3 w w0.heap.size (fun _ => True) v l) :
    Calls Try.prog 88 #[v] w fun e w' => e = .returned (.tuple #[]) ∧ Kd.R (Kd.int .i64) 3 w' w0.heap.size (fun _ => True) v l.reverse ∧ Below w0.heap.size w0 w' := by
  obtain ⟨k,hk⟩ := (rev_ev l hl).rounds
  refine (slices_Reverse_int_int.calls k (fun _ => True) v l l.reverse w0 w hB ho hk).mono ?_
  rintro e w' ⟨rfl,h1,h2,_⟩
  exact ⟨rfl,Kd.R_mono h1 (fun _ _ => trivial),h2⟩
theorem mirrored_calls (A0 : Option Addr) (c0 : Nat) (l : List Int) (hl : l.length ≤ 1048576) (w : World) (hr0 : Kd.C (Kd.int .i64) w A0 l.length l) :
    Calls Try.prog 55 #[.slice A0 l.length c0] w fun e w' => ∃ v : Value,e = .returned v ∧ Kd.R (Kd.int .i64) 3 w' w.heap.size (fun _ => True) v l.reverse ∧ Below w.heap.size w w' := by
  have HR0 := Aside0.mk hr0
  have HL := Aside0.mk hl
  clear hr0 hl
  go_enter Try.func55,Try.ntmps55
  go_wp2_with fail
  refine (clone_calls A0 c0 l HL.out _ HR0.out).mono ?_
  rintro e w1 ⟨v,rfl,ho,hb⟩
  have HO := Aside0.mk ho
  have HB := Aside0.mk hb
  clear ho hb
  go_wp2_with fail
  refine (rev_calls v l HL.out w _ HB.out HO.out).mono ?_
  rintro e w2 ⟨rfl,ho,hb⟩
  have HO2 := Aside0.mk ho
  have HB2 := Aside0.mk hb
  clear ho hb HO HB
  go_wp2_with fail
  go_ret
  exact ⟨_,rfl,HO2.out,HB2.out⟩
end Go.Proofs.Ytleacijhpkogpad.HClone
/- Are numbers heights,as the program tells it: the walks of slices.IndexFunc,ContainsFunc,impl.areHeights and its closure. -/
namespace Go.Proofs.Ytleacijhpkogpad.HImpl
open Go.RowKit YtleacijhpkogpadW.PrintWords YtleacijhpkogpadW.PrintLast YtleacijhpkogpadW.PrintMore PFnHeightsRise

def idxF (p : Int → Bool) : List Int → Int → Int
  | [],_ => -1
  | x :: xs,i => if p x = true then i else idxF p xs (i + 1)
theorem idxF_step (p : Int → Bool) (l : List Int) (i : Int) (h0 : 0 ≤ i) (h1 : i < (l.length : Int)) :
    idxF p (l.drop i.toNat) i = if p (rd l i) = true then i else idxF p (l.drop (i + 1).toNat) (i + 1) := by
  have hlt : i.toNat < l.length := by omega
  have e : (i + 1).toNat = i.toNat + 1 := by omega
  have e2 : rd l i = l[i.toNat] := by simp [rd,List.getD_eq_getElem?_getD,List.getElem?_eq_getElem hlt]
  rw [e,List.drop_eq_getElem_cons hlt,e2]
  rfl
theorem indexFunc_calls (p : Int → Bool) (g : Nat) (lb : Array Value) (eg : ∀ args w, (callFunc g args).run Try.prog w = .ok (.enter g args) w) (A0 : Option Addr) (c0 : Nat) (l0 : List Int) (w : World)
    (hr0 : Kd.C (Kd.int .i64) w A0 l0.length l0) (hl : l0.length ≤ 4611686018427387904)
    (hp : ∀ (x : Int) (q : Nat),Calls Try.prog g (#[.int .i64 x] ++ lb) (w.drewN q) fun e w' => e = .returned (.bool (p x)) ∧ ∃ q',w' = (w.drewN q).drewN q') :
    Calls Try.prog 59 #[.slice A0 l0.length c0,.func (.func g) #[] lb] w fun e w' => e = .returned (.int .i64 (idxF p l0 0)) ∧ Drawn0 w w' := by
  have HR0 := Aside0.mk hr0
  clear hr0
  have HP := Aside0.mk hp
  clear hp
  go_enter Try.func59,Try.ntmps59
  go_wp2
  go_loopg [5,8] l0.length (fun kq v5 v8 w' => ∃ (i : Int),0 ≤ i ∧ i ≤ (l0.length : Int) ∧ (l0.length : Int) - i = (kq : Int) ∧ v8 = .int .i64 i ∧ Aside0 (idxF p (l0.drop i.toNat) i = idxF p l0 0) ∧ Drawn0 w w')
  case atStart => exact ⟨0,by omega,by omega,by omega,rfl,⟨rfl⟩,Drawn0.refl _⟩
  case round =>
    obtain ⟨i,hi0,hi1,hk,rfl,HA,⟨m1,rfl⟩⟩ := hrel
    by_cases hlt : i < (l0.length : Int)
    · have hst := Aside0.mk (idxF_step p l0 i hi0 hlt)
      obtain ⟨ad,ead,hx⟩ := Kd.at_int HR0.out i hi0 hlt
      cases ead
      have hcall := Aside0.mk (HP.out (rd l0 i))
      generalize hy : rd l0 i = y at hx hst hcall
      clear hy
      cases hq : p y with
      | true =>
        have hc2 : ∀ q : Nat,Calls Try.prog g (#[.int .i64 y] ++ lb) (w.drewN q) fun e w' => e = .returned (.bool true) ∧ ∃ q',w' = (w.drewN q).drewN q' := by
          intro q; have := hcall.out q; rw [hq] at this; exact this
        have HQ := Aside0.mk hq
        clear hq
        go_wp2_with (go_at_fn g; refine (hc2 _).mono ?_; rintro e w' ⟨rfl,q',rfl⟩)
        go_ret
        refine ⟨?_,by repeat (first | exact Drawn0.refl _ | apply Drawn0.step)⟩
        rw [← HA.out,hst.out,HQ.out]; rfl
      | false =>
        have hc2 : ∀ q : Nat,Calls Try.prog g (#[.int .i64 y] ++ lb) (w.drewN q) fun e w' => e = .returned (.bool false) ∧ ∃ q',w' = (w.drewN q).drewN q' := by
          intro q; have := hcall.out q; rw [hq] at this; exact this
        have HQ := Aside0.mk hq
        clear hq
        go_wp2_with (go_at_fn g; refine (hc2 _).mono ?_; rintro e w' ⟨rfl,q',rfl⟩)
        go_roundg (l0.length - (i + 1).toNat)
        case measure => omega
        case rel => exact ⟨i + 1,by omega,by omega,by omega,by first | rfl | go_num,⟨by rw [← HA.out,hst.out,HQ.out]; rfl⟩,by repeat (first | exact Drawn0.refl _ | apply Drawn0.step)⟩
    · have e : i = (l0.length : Int) := by omega
      have H2 : Aside0 (idxF p l0 0 = -1) := ⟨by rw [← HA.out,e]; simp [idxF]⟩
      have c4b0 : decide (i < (l0.length : Int)) = false := decide_eq_false hlt
      clear e hlt hk hi1 hi0
      go_wp2
      go_ret
      exact ⟨by rw [H2.out]; first | rfl | (simp; done),by repeat (first | exact Drawn0.refl _ | apply Drawn0.step)⟩
theorem idxF_any (p : Int → Bool) : ∀ (l : List Int) (i : Int),0 ≤ i → decide (0 ≤ idxF p l i) = l.any p
  | [],i,_ => by simp [idxF]
  | x :: xs,i,h => by
    have ih := idxF_any p xs (i + 1) (by omega)
    by_cases hx : p x = true
    · have e : idxF p (x :: xs) i = i := by simp [idxF,hx]
      rw [e]; simp [hx,h]
    · have e : idxF p (x :: xs) i = idxF p xs (i + 1) := by simp [idxF,hx]
      rw [e,ih]; simp [hx]
theorem areHeights_1_calls (x : Int) (w : World) :
    Calls Try.prog 87 #[.int .i64 x] w fun e w' => e = .returned (.bool (!(decide (1 ≤ x) && decide (x ≤ 100)))) ∧ ∃ q',w' = w.drewN q' := by
  have hin := Aside0.mk (impl_in.calls x 1 100 (decide (1 ≤ x) && decide (x ≤ 100)) w (by
    unfold impl_in.f
    by_cases h1 : 1 ≤ x <;> simp [h1]))
  generalize (decide (1 ≤ x) && decide (x ≤ 100)) = b at hin
  go_enter Try.func87,Try.ntmps87
  go_wp2_with (go_at_call 67; refine hin.out.mono ?_; rintro e w' ⟨rfl,⟨nd,rfl⟩⟩)
  go_ret
  exact ⟨rfl,nd,rfl⟩
theorem containsFunc_calls (A0 : Option Addr) (c0 : Nat) (l0 : List Int) (w : World) (hr0 : Kd.C (Kd.int .i64) w A0 l0.length l0) (hl : l0.length ≤ 4611686018427387904) :
    Calls Try.prog 86 #[.slice A0 l0.length c0,.func (.func 87) #[] #[]] w fun e w' => e = .returned (.bool (l0.any fun x => !(decide (1 ≤ x) && decide (x ≤ 100)))) ∧ Drawn0 w w' := by
  have eg := Aside0.mk (enters_ (P := Try.prog) Try.func87 (by kernel_rfl) rfl)
  have hI := Aside0.mk (indexFunc_calls (fun x => !(decide (1 ≤ x) && decide (x ≤ 100))) 87 #[] eg.out A0 c0 l0 w hr0 hl (fun x q => areHeights_1_calls x (w.drewN q)))
  have hA := Aside0.mk (idxF_any (fun x => !(decide (1 ≤ x) && decide (x ≤ 100))) l0 0 (by omega))
  generalize (l0.any fun x => !(decide (1 ≤ x) && decide (x ≤ 100))) = b at hA
  generalize idxF (fun x => !(decide (1 ≤ x) && decide (x ≤ 100))) l0 0 = i at hI hA
  have hb : decide (0 ≤ i) = b := hA.out
  clear hA eg
  subst hb
  go_enter Try.func86,Try.ntmps86
  go_wp2_with (go_at_call 59; refine hI.out.mono ?_; rintro e w' ⟨rfl,⟨nd,rfl⟩⟩)
  go_ret
  exact ⟨rfl,⟨nd,rfl⟩⟩
theorem are_calls (A0 : Option Addr) (c0 : Nat) (l0 : List Int) (w : World) (hr0 : Kd.C (Kd.int .i64) w A0 l0.length l0) (hc0 : l0.length ≤ c0) :
    Calls Try.prog 53 #[.slice A0 l0.length c0] w fun e w' => e = .returned (.bool (decide (1 ≤ l0.length) && decide (l0.length ≤ 40) && l0.all (fun h => decide (1 ≤ h) && decide (h ≤ 100)))) ∧ Drawn0 w w' := by
  by_cases c1 : 1 ≤ l0.length ∧ l0.length ≤ 40
  · have hin := Aside0.mk (fun W => impl_in.calls (l0.length : Int) 1 40 true W (by
      unfold impl_in.f
      rw [if_pos (by omega)]
      simp; omega))
    have hC := Aside0.mk (fun n => containsFunc_calls A0 c0 l0 (w.drewN n) (Kd.C_drewN hr0 n) (by omega))
    have hv : Aside0 ((decide (1 ≤ l0.length) && decide (l0.length ≤ 40) && l0.all (fun h => decide (1 ≤ h) && decide (h ≤ 100))) = !(l0.any fun x => !(decide (1 ≤ x) && decide (x ≤ 100)))) := ⟨by
      rw [decide_eq_true c1.1,decide_eq_true c1.2]
      simp [List.not_any_eq_all_not]⟩
    generalize (decide (1 ≤ l0.length) && decide (l0.length ≤ 40) && l0.all (fun h => decide (1 ≤ h) && decide (h ≤ 100))) = r at hv ⊢
    generalize (l0.any fun x => !(decide (1 ≤ x) && decide (x ≤ 100))) = b at hC hv
    have hr := hv.out
    clear hv hr0
    subst hr
    clear c1 hc0
    go_enter Try.func53,Try.ntmps53
    go_wp2_with (first | (go_at_call 67; refine (hin.out _).mono ?_; rintro e w' ⟨rfl,⟨nd,rfl⟩⟩) | (go_at_call 86; refine (hC.out _).mono ?_; rintro e w' ⟨rfl,⟨nd2,rfl⟩⟩))
    go_ret
    exact ⟨rfl,by repeat (first | exact Drawn0.refl _ | apply Drawn0.step)⟩
  · have hin := Aside0.mk (fun W => impl_in.calls (l0.length : Int) 1 40 false W (by
      unfold impl_in.f
      split
      · simp; omega
      · rfl))
    have hv : Aside0 ((decide (1 ≤ l0.length) && decide (l0.length ≤ 40) && l0.all (fun h => decide (1 ≤ h) && decide (h ≤ 100))) = false) := ⟨by
      rcases Nat.lt_or_ge l0.length 1 with h | h
      · simp; omega
      · simp; omega⟩
    rw [hv.out]
    clear hv hr0 hc0 c1
    go_enter Try.func53,Try.ntmps53
    go_wp2_with (go_at_call 67; refine (hin.out _).mono ?_; rintro e w' ⟨rfl,⟨nd,rfl⟩⟩)
    go_ret
    exact ⟨rfl,by repeat (first | exact Drawn0.refl _ | apply Drawn0.step)⟩
/-! who are heights -/
def good (l : List Int) : Bool := decide (1 ≤ l.length) && decide (l.length ≤ 40) && l.all (fun h => decide (1 ≤ h) && decide (h ≤ 100))
theorem good_len {l : List Int} (h : good l = true) : 1 ≤ l.length ∧ l.length ≤ 40 := by
  unfold good at h
  simp only [Bool.and_eq_true,decide_eq_true_eq] at h
  exact h.1
theorem good_mem {l : List Int} (h : good l = true) : ∀ x ∈ l,1 ≤ x ∧ x ≤ 100 := by
  unfold good at h
  simp only [Bool.and_eq_true,decide_eq_true_eq,List.all_eq_true] at h
  exact h.2
theorem are_is (A0 : Option Addr) (c0 : Nat) (l : List Int) (b : Bool) (hb : good l = b) (w : World) (hr0 : Kd.C (Kd.int .i64) w A0 l.length l) (hc0 : l.length ≤ c0) :
    Calls Try.prog 53 #[.slice A0 l.length c0] w fun e w' => e = .returned (.bool b) ∧ Drawn0 w w' := by
  subst hb
  exact are_calls A0 c0 l w hr0 hc0
end Go.Proofs.Ytleacijhpkogpad.HImpl
/- Are numbers heights,as the reference tells it; a list copied: contracts over the printed walks of spec.heGood and laws.toIntS. -/
namespace Go.Proofs.Ytleacijhpkogpad.HSpecG
open Go.RowKit YtleacijhpkogpadW.PrintWords YtleacijhpkogpadW.PrintLast YtleacijhpkogpadW.PrintMore PFnHeightsRise HImpl

/-! plain words -/
theorem w1 (i : Nat) (h : i ≤ 4611686018427387904) : wrap64 ((i : Int) + 1) = ((i + 1 : Nat) : Int) := by unfold wrap64; omega
theorem rd_nat (l : List Int) (i : Nat) (h : i < l.length) : rd l (i : Int) = l[i] := by
  simp [rd,List.getD_eq_getElem?_getD,List.getElem?_eq_getElem h]
theorem drop_cons (l : List Int) (i : Nat) (h : i < l.length) : l.drop i = rd l (i : Int) :: l.drop (i + 1) := by
  rw [List.drop_eq_getElem_cons h,rd_nat l i h]
theorem all_ev (l : List Int) (hl : l.length ≤ 1048576) : ∀ (d i : Nat), i + d = l.length →
    Ev (fun k => spec_l1All.l0 k 1 100 l (l.length : Int) (i : Int)) ((l.drop i).all (fun h => decide (1 ≤ h) && decide (h ≤ 100))) := by
  intro d
  induction d with
  | zero =>
    intro i hi
    refine Ev.step (f := fun _ => some ((l.drop i).all (fun h => decide (1 ≤ h) && decide (h ≤ 100)))) (fun k => ?_) (Ev.now _)
    simp only [spec_l1All.l0]
    rw [if_neg (by omega),List.drop_eq_nil_of_le (by omega)]
    rfl
  | succ d ih =>
    intro i hi
    have hlt : i < l.length := by omega
    rw [drop_cons l i hlt]
    simp only [List.all_cons]
    by_cases h1 : 1 ≤ rd l (i : Int)
    · by_cases h2 : rd l (i : Int) ≤ 100
      · have hr := ih (i + 1) (by omega)
        rw [decide_eq_true h1,decide_eq_true h2]
        refine Ev.step (f := fun k => spec_l1All.l0 k 1 100 l (l.length : Int) ((i + 1 : Nat) : Int)) (fun k => ?_) hr
        simp only [spec_l1All.l0,spec_l1In.f]
        rw [if_pos (by omega),if_pos (by omega),if_pos (by omega),if_pos (by omega),w1 i (by omega)]
        simp [h2]
      · refine Ev.step (f := fun _ => some false) (fun k => ?_) ?_
        · simp only [spec_l1All.l0,spec_l1In.f]
          rw [if_pos (by omega),if_pos (by omega),if_pos (by omega),if_pos (by omega)]
          simp [h2]
        · rw [decide_eq_false h2,Bool.and_false,Bool.false_and]; exact Ev.now _
    · refine Ev.step (f := fun _ => some false) (fun k => ?_) ?_
      · simp only [spec_l1All.l0,spec_l1In.f]
        rw [if_pos (by omega),if_pos (by omega),if_pos (by omega),if_neg (by omega)]
        simp
      · rw [decide_eq_false h1,Bool.false_and,Bool.false_and]; exact Ev.now _
theorem good_ev (l : List Int) (hl : l.length ≤ 1048576) : Ev (fun k => spec_heGood.f k l) (good l) := by
  unfold good
  by_cases h1 : 1 ≤ l.length
  · by_cases h2 : l.length ≤ 40
    · refine Ev.congr (f := fun k => (spec_l1All.f k l 1 100).bind fun t => some t) (fun k => ?_) ?_
      · simp only [spec_heGood.f,spec_l1In.f]
        rw [if_pos (by omega)]
        simp only [Option.bind_some]
        rw [if_pos (by simp; omega)]
      · refine Ev.bind (a := l.all (fun h => decide (1 ≤ h) && decide (h ≤ 100))) ?_ ?_
        · exact all_ev l hl l.length 0 (by omega)
        · rw [decide_eq_true h1,decide_eq_true h2]; exact Ev.now _
    · refine Ev.congr (f := fun _ => some false) (fun k => ?_) ?_
      · simp only [spec_heGood.f,spec_l1In.f]
        rw [if_pos (by omega)]
        simp only [Option.bind_some]
        rw [if_neg (by simp; omega)]
      · rw [decide_eq_false h2,Bool.and_false,Bool.false_and]; exact Ev.now _
  · refine Ev.congr (f := fun _ => some false) (fun k => ?_) ?_
    · simp only [spec_heGood.f,spec_l1In.f]
      rw [if_neg (by omega)]
      rfl
    · rw [decide_eq_false h1,Bool.false_and,Bool.false_and]; exact Ev.now _
theorem good_is (A0 : Option Addr) (c0 : Nat) (l : List Int) (hl : l.length ≤ 1048576) (b : Bool) (hb : good l = b) (w : World) (h0 : Kd.C (Kd.int .i64) w A0 l.length l) (hc0 : l.length ≤ c0) :
    Calls Try.prog 56 #[.slice A0 l.length c0] w fun e w' => e = .returned (.bool b) ∧ Drawn0 w w' := by
  subst hb
  obtain ⟨k,hk⟩ := (good_ev l hl).rounds
  exact spec_heGood.calls k A0 c0 l _ w h0 hc0 hk
end Go.Proofs.Ytleacijhpkogpad.HSpecG
/- The greatest of a list: the walk of slices.Max. -/
namespace Go.Proofs.Ytleacijhpkogpad.HMax
open Go.RowKit YtleacijhpkogpadW.PrintWords YtleacijhpkogpadW.PrintLast YtleacijhpkogpadW.PrintMore HSpecG
attribute [local go_sem] max2_int max_two

def maxL : List Int → Int → Int
  | [],m => m
  | h :: t,m => maxL t (if m > h then m else h)
theorem max_calls (A0 : Option Addr) (c0 : Nat) (l : List Int) (h1 : 1 ≤ l.length) (hl : l.length ≤ 1048576) (w : World) (h0 : Kd.C (Kd.int .i64) w A0 l.length l) :
    Calls Try.prog 71 #[.slice A0 l.length c0] w fun e w' => e = .returned (.int .i64 (maxL (l.drop 1) (rd l 0))) ∧ Below w.heap.size w w' := by
  have HB := Aside0.mk (Below.refl w.heap.size w)
  have HC := Aside0.mk h0
  obtain ⟨ad,e,hx0⟩ := Kd.at_int h0 0 (by omega) (by omega)
  cases e
  replace hx0 : w.cell? ad = some (.int .i64 (rd l 0)) := by
    have Aa : ad.add (Int.toNat 0) = ad := by cases ad; rfl
    rw [← Aa]; exact hx0
  generalize rd l 0 = y at hx0
  obtain ⟨T,hT⟩ : ∃ T,maxL (l.drop 1) y = T := ⟨_,rfl⟩
  rw [hT]
  have HE0 := Aside0.mk hT
  clear h0 hT
  go_enter Try.func71,Try.ntmps71
  go_wp2_with fail
  go_loopg [3,4] l.length (fun kq v3 v4 w' => ∃ (j : Nat) (m : Int),v3 = .int .i64 m ∧ v4 = .int .i64 (j : Int) ∧ Aside0 (kq + j = l.length + 1) ∧ Aside0 (maxL (l.drop j) m = T) ∧ Aside0 (Below w.heap.size w w'))
  case atStart => exact ⟨1,y,rfl,rfl,⟨by omega⟩,HE0,HB⟩
  case round =>
    clear HB HE0
    obtain ⟨j,m,rfl,rfl,HK,HE,HB⟩ := hrel
    by_cases hj : j < l.length
    · obtain ⟨ad2,e,hx⟩ := Kd.at_int HC.out (j : Int) (by omega) (by omega)
      cases e
      rw [Int.toNat_natCast] at hx
      have HE2 : Aside0 (maxL (l.drop (j + 1)) (if m > rd l (j : Int) then m else rd l (j : Int)) = T) := ⟨by
        have := HE.out
        rw [drop_cons l j hj,maxL] at this
        exact this⟩
      generalize rd l (j : Int) = x at hx HE2
      replace hx := pw_cell_below HB.out hx
      clear HE
      by_cases c : m < x
      · have HE3 : Aside0 (maxL (l.drop (j + 1)) x = T) := ⟨by have := HE2.out; rw [if_neg (by omega)] at this; exact this⟩
        go_wp2_with fail
        go_roundg (l.length - j)
        case measure => have := HK.out; omega
        case rel => exact ⟨j + 1,x,rfl,rfl,⟨by have := HK.out; omega⟩,HE3,HB⟩
      · have HE3 : Aside0 (maxL (l.drop (j + 1)) m = T) := ⟨by
          have := HE2.out
          by_cases c2 : m > x
          · rw [if_pos c2] at this; exact this
          · rw [if_neg c2,show x = m by omega] at this; exact this⟩
        go_wp2_with fail
        go_roundg (l.length - j)
        case measure => have := HK.out; omega
        case rel => exact ⟨j + 1,m,rfl,rfl,⟨by have := HK.out; omega⟩,HE3,HB⟩
    · have hT := HE.out
      rw [List.drop_eq_nil_of_le (by omega),maxL] at hT
      clear HE
      subst hT
      go_wp2_with fail
      go_ret
      exact ⟨rfl,(by repeat first|(with_reducible first|exact HB.out|apply below_alloc|apply pw_below_drewN|apply below_drew1)|exact HB.out)⟩
end Go.Proofs.Ytleacijhpkogpad.HMax
/- Words for the walks of the great laws on heights: addresses,parts of a slice,a slice written out. -/
namespace Go.Proofs.Ytleacijhpkogpad.HW
open Go.RowKit YtleacijhpkogpadW.PrintWords YtleacijhpkogpadW.PrintLast YtleacijhpkogpadW.PrintMore

theorem drop_ (A0 : Option Addr) (c0 : Nat) (l : List Int) (i : Nat) (hi : i ≤ l.length) (hc0 : l.length ≤ c0) :
    ∃ (A' : Option Addr) (c' : Nat),(∀ W : World,(Instr.slice 24 (.slice A0 l.length c0) (some (.int .i64 (i : Int))) none none).run Try.prog W = .ok (.slice A' (l.drop i).length c') W) ∧ (∀ W,Kd.C (Kd.int .i64) W A0 l.length l → Kd.C (Kd.int .i64) W A' (l.drop i).length (l.drop i)) ∧ (l.drop i).length ≤ c' := by
  obtain ⟨i010,hi010,_,hsz10,_⟩ := info_parts HClone.info_int
  obtain ⟨A',h1,h2,h3⟩ := print_drop_of (P := Try.prog) (Value.int .i64) 0 24 3 .i64 Try.underlying24 hi010 hsz10 A0 c0 l (i : Int) (by omega) (by omega) hc0
  rw [Int.toNat_natCast] at h1 h2 h3
  exact ⟨A',_,h1,fun W h => Kd.C_of_reads (h1 := fun _ => rfl) (h2 W (Kd.reads_of_C h)),h3⟩
/-! A call that only draws,met in a region that only reads,which begins in a world that has drawn. -/
end Go.Proofs.Ytleacijhpkogpad.HW
/- Words for the walk of the law on who rises: lists cut,products of small numbers. -/
namespace Go.Proofs.Ytleacijhpkogpad.HWR
open Go.RowKit YtleacijhpkogpadW.PrintWords YtleacijhpkogpadW.PrintLast YtleacijhpkogpadW.PrintMore

theorem rd_n (l : List Int) (i : Nat) (h : i < l.length) : rd l (i : Int) = l[i] := by
  simp [rd,List.getD_eq_getElem?_getD,List.getElem?_eq_getElem h]
theorem drop_c (l : List Int) (i : Nat) (h : i < l.length) : l.drop i = rd l (i : Int) :: l.drop (i + 1) := by
  rw [List.drop_eq_getElem_cons h,rd_n l i h]
theorem rd_drop (l : List Int) (i j : Nat) : rd (l.drop i) (j : Int) = rd l ((i + j : Nat) : Int) := by
  unfold rd
  rw [Int.toNat_natCast,Int.toNat_natCast,List.getD_eq_getElem?_getD,List.getD_eq_getElem?_getD,List.getElem?_drop]
theorem mul_w (x y : Nat) (h : x * y ≤ 4611686018427387904) : IntKind.i64.wrap ((x : Int) * (y : Int)) = ((x * y : Nat) : Int) := by
  rw [← Int.natCast_mul]
  exact IntWalk.i64_in _ (by omega)
theorem add_w (x y : Nat) (h : x + y ≤ 4611686018427387904) : IntKind.i64.wrap ((x : Int) + (y : Int)) = ((x + y : Nat) : Int) := by
  rw [IntWalk.i64_in _ (by omega)]
  omega
end Go.Proofs.Ytleacijhpkogpad.HWR
/- Parts of a function's code,taken out of the translation by their places: for great functions that are walked in several theorems. -/
namespace Go.Proofs.Ytleacijhpkogpad.Part
open Go

def condAt (s : Nat) : Code → Option Code
  | .cond c a b => (match c with | .tmp k => if k = s then some (.cond c a b) else (condAt s a).or (condAt s b) | _ => (condAt s a).or (condAt s b))
  | .seq a b => (condAt s a).or (condAt s b)
  | .block _ c => condAt s c
  | .loop c => condAt s c
  | .scope c => condAt s c
  | _ => none
def seqAt (n : Nat) : Code → Option Code
  | .seq a b => (match a with | .region k ops d => if k = n then some (.seq (.region k ops d) b) else (seqAt n a).or (seqAt n b) | _ => (seqAt n a).or (seqAt n b))
  | .cond _ a b => (seqAt n a).or (seqAt n b)
  | .block _ c => seqAt n c
  | .loop c => seqAt n c
  | .scope c => seqAt n c
  | _ => none
def regAt (n : Nat) : Code → Option Code
  | .region k ops d => if k = n then some (.region k ops d) else none
  | .seq a b => (regAt n a).or (regAt n b)
  | .cond _ a b => (regAt n a).or (regAt n b)
  | .block _ c => regAt n c
  | .loop c => regAt n c
  | .scope c => regAt n c
  | _ => none
def headReg : Code → Option Nat
  | .region k _ _ => some k
  | .seq a _ => headReg a
  | _ => none
def fromAt (n : Nat) : Code → Option Code
  | .seq a b => if headReg a = some n then some (.seq a b) else (fromAt n a).or (fromAt n b)
  | .cond _ a b => (fromAt n a).or (fromAt n b)
  | .block _ c => fromAt n c
  | .loop c => fromAt n c
  | .scope c => fromAt n c
  | _ => none
noncomputable def fromOf (f : Func) (n : Nat) : Code := (f.body.bind (fromAt n)).getD .skip
noncomputable def condOf (f : Func) (s : Nat) : Code := (f.body.bind (condAt s)).getD .skip
noncomputable def seqOf (f : Func) (n : Nat) : Code := (f.body.bind (seqAt n)).getD .skip
noncomputable def regOf (f : Func) (n : Nat) : Code := (f.body.bind (regAt n)).getD .skip
end Go.Proofs.Ytleacijhpkogpad.Part
