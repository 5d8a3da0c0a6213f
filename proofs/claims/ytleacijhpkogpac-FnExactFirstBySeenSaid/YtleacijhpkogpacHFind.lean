/- The first order so seen: the closure of impl.FirstBySeen, which calls itself: the walk. -/
import Derived.Test.YtleacijhpkogpacHLeaf
namespace Go.Proofs.Ytleacijhpkogpac.HFind
open Go.RowKit Go.Proofs.YtleacijhpkogpacW.PrintWords Go.Proofs.YtleacijhpkogpacW.PrintLast Go.Proofs.YtleacijhpkogpacW.PrintMore Go.Proofs.Ytleacijhpkogpac.HClone Go.Proofs.Ytleacijhpkogpac.HSeen Go.Proofs.Ytleacijhpkogpac.HHas
set_option linter.unusedVariables false
set_option linter.unusedSimpArgs false

set_option maxHeartbeats 16000000 in
set_option maxRecDepth 100000 in
theorem find_calls (n : Nat) (hn : 1 ≤ n ∧ n ≤ 8) (L R : Int) (a b c dd : Nat) : ∀ (d : Nat) (s : List Int), s.length + d = n → ∀ (base : Nat) (u : Value) (w : World), base ≤ w.heap.size →
    Kd.R (Kd.int .i64) 3 w base (fun _ => True) u s → w.cell? ⟨a, 0, none⟩ = some (.int .i64 (n : Int)) → w.cell? ⟨b, 0, none⟩ = some (.int .i64 L) → w.cell? ⟨c, 0, none⟩ = some (.int .i64 R) →
    w.cell? ⟨dd, 0, none⟩ = some (.func (.func FB) #[] (PS a b c dd)) →
    Calls Try.prog FB (#[u] ++ PS a b c dd) w fun e w' => ∃ v, e = .returned v ∧ Ret base w' v (look n L R d s) ∧ Below w.heap.size w w' := by
  intro d
  induction d with
  | zero => exact fun s hs base u w hbase hu ha hb hc hd => leaf_calls n hn L R a b c dd s hs base u w hbase hu ha hb hc
  | succ d ih =>
  intro s hs base u w hbase hu ha hb hc hd
  have HBS := Aside0.mk hbase
  have HB := Aside0.mk (Below.refl w.heap.size w)
  obtain ⟨A, cp, eu, hcp, hC⟩ := Kd.R_reads hu
  subst eu
  have HC := Aside0.mk hC
  have HIH := Aside0.mk (fun (h : Int) (W : World) (v : Value) (hW : Below w.heap.size w W) (hv : Kd.R (Kd.int .i64) 3 W w.heap.size (fun _ => True) v (s ++ [h])) =>
    show Calls Try.prog 63 #[v, .pointer (some ⟨a, 0, none⟩), .pointer (some ⟨b, 0, none⟩), .pointer (some ⟨c, 0, none⟩), .pointer (some ⟨dd, 0, none⟩)] W (fun e w' => ∃ v, e = .returned v ∧ Ret w.heap.size w' v (look n L R d (s ++ [h])) ∧ Below W.heap.size W w') from ih (s ++ [h]) (by simp; omega) w.heap.size v W hW.size hv (pw_cell_below hW ha) (pw_cell_below hW hb) (pw_cell_below hW hc) (pw_cell_below hW hd))
  have HF := Aside0.mk (fun W' (hW : Below w.heap.size w W') => (pw_cell_below hW hd : W'.cell? ⟨dd, 0, none⟩ = some (.func (.func 63) #[] #[.pointer (some ⟨a, 0, none⟩), .pointer (some ⟨b, 0, none⟩), .pointer (some ⟨c, 0, none⟩), .pointer (some ⟨dd, 0, none⟩)])))
  have HFA := Aside0.mk (fun W' (hW : Below w.heap.size w W') => pw_cell_below hW ha)
  have HCON := Aside0.mk (fun (x : Int) (r : Bool) (hr : has s x = r) W hW => contains_calls A cp s x r hr (by omega) W hW)
  have HCLONE := Aside0.mk (fun W hW => clone_calls A cp s (by omega) W hW)
  have HN := Aside0.mk hn
  have HS := Aside0.mk hs
  have hE : ((s.length : Int) == (n : Int)) = false := by rw [beq_eq_false_iff_ne]; omega
  have hT : look n L R (d + 1) s = scan (fun h => if has s h = true then none else look n L R d (s ++ [h])) n ((0 + 1 : Nat) : Int) := rfl
  generalize look n L R (d + 1) s = T at hT
  have HT := Aside0.mk hT
  have heq := fun (W : World) (p : Option Addr) (x y : Nat) => run_neq_slice_nil_any (P := Try.prog) W 25 3 p x y 0 0 Try.underlying25
  have eg := enters_ (P := Try.prog) Try.func63 (by kernel_rfl) rfl
  clear hT hs hn ih hb hc hd hu hC hbase
  go_enter Try.func63, Try.ntmps63
  go_wp2
  go_loopg [7, 8] n (fun kq v7 v8 w' => ∃ i : Nat, v7 = .int .i64 ((i + 1 : Nat) : Int) ∧ Aside0 (kq + i = n) ∧ Aside0 (T = scan (fun h => if has s h = true then none else look n L R d (s ++ [h])) (n - i) ((i + 1 : Nat) : Int)) ∧ Aside0 (Below w.heap.size w w'))
  case atStart => exact ⟨0, rfl, ⟨rfl⟩, HT, HB⟩
  case round =>
    clear HB HT
    obtain ⟨i, rfl, HK, HT, HB⟩ := hrel
    have hca := HFA.out _ HB.out
    by_cases hi : i < n
    · have hle : decide (((i + 1 : Nat) : Int) ≤ (n : Int)) = true := by simp; omega
      have hT := HT.out
      rw [show n - i = (n - (i + 1)) + 1 by omega, scan] at hT
      cases hq : has s ((i + 1 : Nat) : Int) with
      | true =>
        have HCO := Aside0.mk (HCON.out _ _ hq)
        simp only [hq, if_true] at hT
        have HT2 := Aside0.mk hT
        clear hT HT hq
        go_wp2_with (go_at_call 66; refine (HCO.out _ (Kd.C_below HC.out (by repeat (first | (with_reducible first | exact HB.out | apply below_alloc | apply pw_below_drewN | apply below_drew1) | exact HB.out)))).mono ?_; rintro e w' ⟨rfl, ⟨nd, rfl⟩⟩)
        go_roundg (n - (i + 1))
        case measure => have := HK.out; omega
        case rel => exact ⟨i + 1, by first | rfl | (simp; have := HN.out; unfold wrap64; omega) | (simp; done), ⟨by omega⟩, ⟨by rw [HT2.out, show ((i + 1 + 1 : Nat) : Int) = ((i + 1 : Nat) : Int) + 1 by omega]⟩, ⟨(by repeat (first | (with_reducible first | exact HB.out | apply below_alloc | apply pw_below_drewN | apply below_drew1) | exact HB.out))⟩⟩
      | false =>
        have HCO := Aside0.mk (HCON.out _ _ hq)
        simp only [hq] at hT
        rw [if_neg (by simp)] at hT
        have HIH1 := Aside0.mk (HIH.out ((i + 1 : Nat) : Int))
        generalize hO : look n L R d (s ++ [((i + 1 : Nat) : Int)]) = o at hT HIH1
        have HO := Aside0.mk hO
        clear hO
        cases o with
        | none =>
          have HT2 := Aside0.mk hT
          clear hT HT hq
          go_wp2_with (go_at_call 66; refine (HCO.out _ (Kd.C_below HC.out (by repeat (first | (with_reducible first | exact HB.out | apply below_alloc | apply pw_below_drewN | apply below_drew1) | exact HB.out)))).mono ?_; rintro e w' ⟨rfl, ⟨nd, rfl⟩⟩)
          go_region_held3 (fun w' => w'.cell? ⟨dd, 0, none⟩ = some (.func (.func 63) #[] #[.pointer (some ⟨a, 0, none⟩), .pointer (some ⟨b, 0, none⟩), .pointer (some ⟨c, 0, none⟩), .pointer (some ⟨dd, 0, none⟩)])) (first | exact HF.out _ (by repeat (first | (with_reducible first | exact HB.out | apply below_alloc | apply pw_below_drewN | apply below_drew1) | exact HB.out)) | go_keep) (first | (go_at_call 67; (with_reducible refine (HCLONE.out _ ?side1).mono ?_); (case side1 => exact Kd.C_below HC.out (by repeat (first | (with_reducible first | exact HB.out | apply below_alloc | apply pw_below_drewN | apply below_drew1) | exact HB.out))); rintro e w1 ⟨v1, rfl, ho, hb1⟩; have HO1 := Aside0.mk (Kd.R_lower ho (below_size (by repeat (first | (with_reducible first | exact HB.out | apply below_alloc | apply pw_below_drewN | apply below_drew1) | exact HB.out)))); have HBn := Aside0.mk (below_step (by repeat (first | (with_reducible first | exact HB.out | apply below_alloc | apply pw_below_drewN | apply below_drew1) | exact HB.out)) hb1); have HX := Aside0.mk (fun (g : Nat) x hh => C_one (g := g) (x := x) (pw_cell_below hb1 hh)); clear ho hb1 HB; have HB := HBn; clear HBn) | (refine Kd.R_append_rows_step (Kd.int .i64) (w0 := w) w.heap.size rfl (.tmp 37) (.tmp 39) 25 3 (.int .i64 0) 8 rfl Try.underlying25 info_int rfl (by decide) (by omega) v1 s [((i + 1 : Nat) : Int)] _ 1 1 (fun _ => True) (fun _ => False) rfl rfl ?aO ?aR (fun _ _ h => h) (fun _ h => h.elim) (fun _ _ => trivial) ?aB ?aS ?aL ?_; (case aO => exact (by (with_reducible repeat (first | apply Kd.R_alloc | apply Kd.R_drewN | apply Kd.R_drew)); exact HO1.out)); (case aR => first | exact C_one ((World.cell?_alloc_new _ _ _ _).trans rfl) | exact HX.out _ _ ((World.cell?_alloc_new _ _ _ _).trans rfl) | exact C_one (by simp; done) | exact HX.out _ _ (by simp; done)); (case aB => exact (by repeat (first | (with_reducible first | exact HB.out | apply below_alloc | apply pw_below_drewN | apply below_drew1) | exact HB.out))); (case aS => exact (below_size (by repeat (first | (with_reducible first | exact HB.out | apply below_alloc | apply pw_below_drewN | apply below_drew1) | exact HB.out)))); (case aL => have := HS.out; have := HN.out; omega); intro v2 w2 ho hb2 hg2 hat2; have HO2 := Aside0.mk ho; have HBn := Aside0.mk hb2; clear ho hb2 hg2 hat2 HB; have HB := HBn; clear HBn) | (go_at_call 63; (with_reducible refine (HIH1.out _ v2 ?side1 ?side2).mono ?_); (case side1 => exact (by repeat (first | (with_reducible first | exact HB.out | apply below_alloc | apply pw_below_drewN | apply below_drew1) | exact HB.out))); (case side2 => exact (by (with_reducible repeat (first | apply Kd.R_alloc | apply Kd.R_drewN | apply Kd.R_drew)); exact HO2.out)); rintro e w5 ⟨v5, rfl, hr5, hb5⟩; (have e5 : v5 = .slice none 0 0 := hr5); subst e5; clear hr5; have HBn := Aside0.mk (below_step (by repeat (first | (with_reducible first | exact HB.out | apply below_alloc | apply pw_below_drewN | apply below_drew1) | exact HB.out)) hb5); clear hb5 HB; have HB := HBn; clear HBn))
          all_goals go_wp2
          all_goals go_roundg (n - (i + 1))
          all_goals first | (have := HK.out; omega; done) | exact ⟨i + 1, by first | rfl | (simp; have := HN.out; unfold wrap64; omega) | (simp; done), ⟨by omega⟩, ⟨by rw [HT2.out, show ((i + 1 + 1 : Nat) : Int) = ((i + 1 : Nat) : Int) + 1 by omega]⟩, ⟨(by repeat (first | (with_reducible first | exact HB.out | apply below_alloc | apply pw_below_drewN | apply below_drew1) | exact HB.out))⟩⟩
        | some r =>
          have HRL : Aside0 (0 < r.length) := ⟨by have := look_len n L R d (s ++ [((i + 1 : Nat) : Int)]) (by have := HS.out; simp; omega) r HO.out; have := HN.out; omega⟩
          have HT2 := Aside0.mk hT
          clear hT HT hq HO
          go_wp2_with (go_at_call 66; refine (HCO.out _ (Kd.C_below HC.out (by repeat (first | (with_reducible first | exact HB.out | apply below_alloc | apply pw_below_drewN | apply below_drew1) | exact HB.out)))).mono ?_; rintro e w' ⟨rfl, ⟨nd, rfl⟩⟩)
          go_region_held3 (fun w' => w'.cell? ⟨dd, 0, none⟩ = some (.func (.func 63) #[] #[.pointer (some ⟨a, 0, none⟩), .pointer (some ⟨b, 0, none⟩), .pointer (some ⟨c, 0, none⟩), .pointer (some ⟨dd, 0, none⟩)])) (first | exact HF.out _ (by repeat (first | (with_reducible first | exact HB.out | apply below_alloc | apply pw_below_drewN | apply below_drew1) | exact HB.out)) | go_keep) (first | (go_at_call 67; (with_reducible refine (HCLONE.out _ ?side1).mono ?_); (case side1 => exact Kd.C_below HC.out (by repeat (first | (with_reducible first | exact HB.out | apply below_alloc | apply pw_below_drewN | apply below_drew1) | exact HB.out))); rintro e w1 ⟨v1, rfl, ho, hb1⟩; have HO1 := Aside0.mk (Kd.R_lower ho (below_size (by repeat (first | (with_reducible first | exact HB.out | apply below_alloc | apply pw_below_drewN | apply below_drew1) | exact HB.out)))); have HBn := Aside0.mk (below_step (by repeat (first | (with_reducible first | exact HB.out | apply below_alloc | apply pw_below_drewN | apply below_drew1) | exact HB.out)) hb1); have HX := Aside0.mk (fun (g : Nat) x hh => C_one (g := g) (x := x) (pw_cell_below hb1 hh)); clear ho hb1 HB; have HB := HBn; clear HBn) | (refine Kd.R_append_rows_step (Kd.int .i64) (w0 := w) w.heap.size rfl (.tmp 37) (.tmp 39) 25 3 (.int .i64 0) 8 rfl Try.underlying25 info_int rfl (by decide) (by omega) v1 s [((i + 1 : Nat) : Int)] _ 1 1 (fun _ => True) (fun _ => False) rfl rfl ?aO ?aR (fun _ _ h => h) (fun _ h => h.elim) (fun _ _ => trivial) ?aB ?aS ?aL ?_; (case aO => exact (by (with_reducible repeat (first | apply Kd.R_alloc | apply Kd.R_drewN | apply Kd.R_drew)); exact HO1.out)); (case aR => first | exact C_one ((World.cell?_alloc_new _ _ _ _).trans rfl) | exact HX.out _ _ ((World.cell?_alloc_new _ _ _ _).trans rfl) | exact C_one (by simp; done) | exact HX.out _ _ (by simp; done)); (case aB => exact (by repeat (first | (with_reducible first | exact HB.out | apply below_alloc | apply pw_below_drewN | apply below_drew1) | exact HB.out))); (case aS => exact (below_size (by repeat (first | (with_reducible first | exact HB.out | apply below_alloc | apply pw_below_drewN | apply below_drew1) | exact HB.out)))); (case aL => have := HS.out; have := HN.out; omega); intro v2 w2 ho hb2 hg2 hat2; have HO2 := Aside0.mk ho; have HBn := Aside0.mk hb2; clear ho hb2 hg2 hat2 HB; have HB := HBn; clear HBn) | (go_at_call 63; (with_reducible refine (HIH1.out _ v2 ?side1 ?side2).mono ?_); (case side1 => exact (by repeat (first | (with_reducible first | exact HB.out | apply below_alloc | apply pw_below_drewN | apply below_drew1) | exact HB.out))); (case side2 => exact (by (with_reducible repeat (first | apply Kd.R_alloc | apply Kd.R_drewN | apply Kd.R_drew)); exact HO2.out)); rintro e w5 ⟨v5, rfl, hr5, hb5⟩; have HR5 := Aside0.mk hr5; obtain ⟨g5, c5, e5, _, _, _⟩ := Kd.R_form hr5 HRL.out; subst e5; clear hr5; have HBn := Aside0.mk (below_step (by repeat (first | (with_reducible first | exact HB.out | apply below_alloc | apply pw_below_drewN | apply below_drew1) | exact HB.out)) hb5); clear hb5 HB; have HB := HBn; clear HBn))
          all_goals go_wp2
          all_goals go_ret
          all_goals exact ⟨_, rfl, by rw [HT2.out]; exact Kd.R_lower HR5.out HBS.out, (by repeat (first | (with_reducible first | exact HB.out | apply below_alloc | apply pw_below_drewN | apply below_drew1) | exact HB.out))⟩
    · have hle : decide (((i + 1 : Nat) : Int) ≤ (n : Int)) = false := by simp; omega
      have HT2 : Aside0 (T = none) := ⟨by rw [HT.out, show n - i = 0 by omega]; rfl⟩
      clear HT
      go_wp2
      go_ret
      exact ⟨_, rfl, by rw [HT2.out]; rfl, (by repeat (first | (with_reducible first | exact HB.out | apply below_alloc | apply pw_below_drewN | apply below_drew1) | exact HB.out))⟩
end Go.Proofs.Ytleacijhpkogpac.HFind
