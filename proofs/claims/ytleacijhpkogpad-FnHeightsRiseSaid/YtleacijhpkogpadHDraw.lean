/- What is drawn from bytes (spec.l1Cur: next,pick,one,among),told by bounds. -/
import Derived.Test.YtleacijhpkogpadHGood
import Derived.Deep.QuietTactic
import Derived.BigQuiet
import Derived.OwnWalk
import Derived.IntWalk
import Derived.Lib.SliceRun
set_option linter.unusedVariables false
set_option linter.unusedSimpArgs false
set_option maxHeartbeats 8000000
set_option maxRecDepth 100000
namespace Go.Proofs.Ytleacijhpkogpad.HDraw
open Go.RowKit YtleacijhpkogpadW.PrintWords YtleacijhpkogpadW.PrintLast YtleacijhpkogpadW.PrintMore

def okB (s : List Int) : Prop := ∀ x ∈ s,0 ≤ x ∧ x ≤ 255
theorem okB_rd {s : List Int} (h : okB s) (i : Int) (h0 : 0 ≤ i) (h1 : i < (s.length : Int)) : 0 ≤ rd s i ∧ rd s i ≤ 255 := by
  obtain ⟨n,rfl⟩ := Int.eq_ofNat_of_zero_le h0
  have hn : n < s.length := by omega
  have e : rd s (n : Int) = s[n] := by simp [rd,List.getD_eq_getElem?_getD,List.getElem?_eq_getElem hn]
  rw [e]
  exact h _ (List.getElem_mem hn)
theorem and_255 (v : Int) : 0 ≤ Go.bits .and .u64 v 255 ∧ Go.bits .and .u64 v 255 ≤ 255 := by
  have hb : (BitVec.ofInt 64 v &&& BitVec.ofInt 64 255).toNat ≤ 255 := by
    rw [BitVec.toNat_and]
    have e : (BitVec.ofInt 64 255).toNat = 255 := by decide
    rw [e]
    exact Nat.and_le_right
  have e : Go.bits .and .u64 v 255 = IntKind.u64.wrap ((BitVec.ofInt 64 v &&& BitVec.ofInt 64 255).toNat : Int) := rfl
  rw [e]
  have e2 : IntKind.u64.wrap ((BitVec.ofInt 64 v &&& BitVec.ofInt 64 255).toNat : Int) = ((BitVec.ofInt 64 v &&& BitVec.ofInt 64 255).toNat : Int) := by
    rw [IntKind.wrap_u64]
    omega
  rw [e2]
  omega
theorem and_w (v : Int) : 0 ≤ wrap64 (Go.bits .and .u64 v 255) ∧ wrap64 (Go.bits .and .u64 v 255) ≤ 255 := by
  have := and_255 v
  have e : wrap64 (Go.bits .and .u64 v 255) = Go.bits .and .u64 v 255 := by unfold wrap64; omega
  rw [e]; exact this
def Cur (w0 W : World) (g : Nat) (s : List Int) (a : Int) : Prop := ∃ (A0 : Option Addr) (c0 : Nat) (b : Int),W.heap[g]? = some (.cells #[.slice A0 s.length c0,.int .i64 a,.int .u64 b] 59 (0,0)) ∧ w0.heap.size ≤ g ∧ Kd.C (Kd.int .u8) w0 A0 s.length s
theorem Cur.ge {w0 W : World} {g : Nat} {s : List Int} {a : Int} (h : Cur w0 W g s a) : w0.heap.size ≤ g := by
  obtain ⟨_,_,_,_,h,_⟩ := h; exact h
theorem Cur.lt {w0 W : World} {g : Nat} {s : List Int} {a : Int} (h : Cur w0 W g s a) : g < W.heap.size := by
  obtain ⟨_,_,_,h,_,_⟩ := h; exact blk_lt h
theorem Cur.below {w0 W W1 : World} {g : Nat} {s : List Int} {a : Int} (h : Cur w0 W g s a) (hb : Below W.heap.size W W1) : Cur w0 W1 g s a := by
  obtain ⟨A0,c0,b,h1,h2,h3⟩ := h; exact ⟨A0,c0,b,blk_below h1 hb,h2,h3⟩
theorem Cur.grown {w0 W W1 : World} {g : Nat} {s : List Int} {a : Int} {row : Option Nat} (h : Cur w0 W g s a) (hg : W.grownBy W1 row) (hne : some g ≠ row) : Cur w0 W1 g s a := by
  obtain ⟨A0,c0,b,h1,h2,h3⟩ := h; exact ⟨A0,c0,b,blk_grown h1 hg hne,h2,h3⟩
theorem Cur.alloc {w0 W : World} {g : Nat} {s : List Int} {a : Int} (h : Cur w0 W g s a) (o : Obj) : Cur w0 (W.alloc o) g s a := h.below (below_alloc (Below.refl _ _) o)
theorem Cur.drewN {w0 W : World} {g : Nat} {s : List Int} {a : Int} (h : Cur w0 W g s a) (n : Nat) : Cur w0 (W.drewN n) g s a := h
theorem Cur.set1 {w0 W : World} {g : Nat} {s : List Int} {a : Int} (h : Cur w0 W g s a) (x : Int) : Cur w0 (W.setCell ⟨g,1,none⟩ (.int .i64 x)) g s x := by
  obtain ⟨A0,c0,b,h1,h2,h3⟩ := h
  exact ⟨A0,c0,b,by simpa using blk_set h1 1 (.int .i64 x),h2,h3⟩
theorem Cur.set2 {w0 W : World} {g : Nat} {s : List Int} {a : Int} (h : Cur w0 W g s a) (x : Int) : Cur w0 (W.setCell ⟨g,2,none⟩ (.int .u64 x)) g s a := by
  obtain ⟨A0,c0,b,h1,h2,h3⟩ := h
  exact ⟨A0,c0,x,by simpa using blk_set h1 2 (.int .u64 x),h2,h3⟩
theorem Cur.new (w0 W : World) (A0 : Option Addr) (c0 : Nat) (s : List Int) (hB : Below w0.heap.size w0 W) (hr0 : Kd.C (Kd.int .u8) w0 A0 s.length s) : Cur w0 (W.alloc (.cells #[.slice A0 s.length c0,.int .i64 0,.int .u64 0] 59)) W.heap.size s 0 :=
  ⟨A0,c0,0,by simpa using heap_alloc_new W _,hB.size,hr0⟩
theorem keep_then {W W1 W2 : World} {g : Nat} (h : KeepBut W W1 g none) (k : KeepBut W1 W2 g none) : KeepBut W W2 g none := h.trans k (.inl rfl)
theorem next_calls (g : Nat) (s : List Int) (a : Int) (hs : okB s) (ha : 0 ≤ a ∧ a ≤ 1000000000) (w0 w : World) (hI : Cur w0 w g s a) (hB : Below w0.heap.size w0 w) :
    Calls Try.prog 90 #[.pointer (some ⟨g,0,none⟩)] w fun e w' => ∃ r,e = .returned (.int .i64 r) ∧ (0 ≤ r ∧ r ≤ 255) ∧ Cur w0 w' g s (a + 1) ∧ Below w0.heap.size w0 w' ∧ KeepBut w w' g none := by
  have HI := Aside0.mk hI
  have HK := Aside0.mk (KeepBut.refl w g none)
  have HB := Aside0.mk hB
  obtain ⟨A0,c0,b,hb,hg,hC⟩ := hI
  have hc0 : w.cell? ⟨g,0,none⟩ = some (.slice A0 s.length c0) := (blk_cell hb 0).trans rfl
  have hc1 : w.cell? ⟨g,1,none⟩ = some (.int .i64 a) := (blk_cell hb 1).trans rfl
  have hc2 : w.cell? ⟨g,2,none⟩ = some (.int .u64 b) := (blk_cell hb 2).trans rfl
  have hf1 := blk_frozen hb 1
  have hf2 := blk_frozen hb 2
  have hw : IntKind.i64.wrap (a + 1) = a + 1 := IntWalk.i64_in _ (by omega)
  by_cases c : a < (s.length : Int)
  · have hr := okB_rd hs a ha.1 c
    obtain ⟨ad,e,hx⟩ := Kd.at_int hC a ha.1 c
    cases e
    replace hx := pw_cell_below HB.out hx
    obtain ⟨n,rfl⟩ := Int.eq_ofNat_of_zero_le ha.1
    rw [Int.toNat_natCast] at hx
    generalize rd s (n : Int) = x at hx hr
    have d1 : decide ((n : Int) < (s.length : Int)) = true := decide_eq_true c
    have d2 : decide (n < s.length) = true := decide_eq_true (by omega)
    have d3 : decide ((n : Int) + 1 ≤ (s.length : Int)) = true := decide_eq_true (by omega)
    have d4 : IntKind.i64.wrap x = x := IntWalk.i64_in _ (by omega)
    have HR := Aside0.mk hr
    clear hb hg hC hs hB
    go_enter Try.func90,Try.ntmps90
    go_wp2
    repeat (go_quiet (fail); try go_wp2)
    go_ret
    exact ⟨x,rfl,HR.out,by repeat (first | (with_reducible first | exact HI.out | apply Cur.alloc | apply Cur.drewN | apply Cur.set2 | apply Cur.set1) | exact HI.out),by repeat (first | (with_reducible first | exact HB.out | apply below_alloc | apply pw_below_drewN | apply below_drew1 | refine below_set ?_ (Cur.ge HI.out)) | exact HB.out),by repeat (first | (with_reducible first | exact HK.out | apply KeepBut.set_ | apply keep_drewN | apply keep_drew | apply keep_alloc) | exact HK.out)⟩
  · have d1 : decide (a < (s.length : Int)) = false := decide_eq_false c
    have d3 : decide (a + 1 ≤ (s.length : Int)) = false := decide_eq_false (by omega)
    clear hb hg hC hs hB
    go_enter Try.func90,Try.ntmps90
    go_wp2
    repeat (go_quiet (fail); try go_wp2)
    go_ret
    exact ⟨_,rfl,and_w _,by repeat (first | (with_reducible first | exact HI.out | apply Cur.alloc | apply Cur.drewN | apply Cur.set2 | apply Cur.set1) | exact HI.out),by repeat (first | (with_reducible first | exact HB.out | apply below_alloc | apply pw_below_drewN | apply below_drew1 | refine below_set ?_ (Cur.ge HI.out)) | exact HB.out),by repeat (first | (with_reducible first | exact HK.out | apply KeepBut.set_ | apply keep_drewN | apply keep_drew | apply keep_alloc) | exact HK.out)⟩
theorem pick_calls (g : Nat) (s : List Int) (a n : Int) (hs : okB s) (ha : 0 ≤ a ∧ a ≤ 100000000) (hn : n ≤ 1000000) (w0 w : World) (hI : Cur w0 w g s a) (hB : Below w0.heap.size w0 w) :
    Calls Try.prog 65 #[.pointer (some ⟨g,0,none⟩),.int .i64 n] w fun e w' => ∃ r a',e = .returned (.int .i64 r) ∧ (0 ≤ r ∧ (r < n ∨ (n ≤ 1 ∧ r = 0))) ∧ (a ≤ a' ∧ a' ≤ a + 2) ∧ Cur w0 w' g s a' ∧ Below w0.heap.size w0 w' ∧ KeepBut w w' g none := by
  have HI := Aside0.mk hI
  have HK := Aside0.mk (KeepBut.refl w g none)
  have HB := Aside0.mk hB
  have HS := Aside0.mk hs
  have HA := Aside0.mk ha
  have HN := Aside0.mk hn
  by_cases c : n ≤ 1
  · have d1 : decide (n ≤ 1) = true := decide_eq_true c
    have HC := Aside0.mk c
    clear hs hI hB ha hn c
    go_enter Try.func65,Try.ntmps65
    go_wp2
    go_ret
    exact ⟨0,a,rfl,⟨by omega,.inr ⟨HC.out,rfl⟩⟩,⟨by omega,by omega⟩,HI.out,HB.out,HK.out⟩
  · have d1 : decide (n ≤ 1) = false := decide_eq_false c
    have HC := Aside0.mk c
    have N1 := Aside0.mk (fun W (h1 : Cur w0 W g s a) (h2 : Below w0.heap.size w0 W) => next_calls g s a hs (by omega) w0 W h1 h2)
    by_cases d : 200 < n
    · have d2 : decide (200 < n) = true := decide_eq_true d
      have N2 := Aside0.mk (fun W (h1 : Cur w0 W g s (a + 1)) (h2 : Below w0.heap.size w0 W) => next_calls g s (a + 1) hs (by omega) w0 W h1 h2)
      have hz : (n == 0) = false := beq_eq_false_iff_ne.mpr (by omega)
      have hp : 0 < n := by omega
      clear hs hI hB ha hn c d
      go_enter Try.func65,Try.ntmps65
      go_wp2_with fail
      refine (N1.out _ (by repeat (first | (with_reducible first | exact HI.out | apply Cur.alloc | apply Cur.drewN | apply Cur.set2 | apply Cur.set1) | exact HI.out)) (by repeat (first | (with_reducible first | exact HB.out | apply below_alloc | apply pw_below_drewN | apply below_drew1 | refine below_set ?_ (Cur.ge HI.out)) | exact HB.out))).mono ?_
      rintro e w1 ⟨r1,rfl,hr1,hi,hb,hk⟩
      clear HI HB
      have HI := Aside0.mk hi
      have HB := Aside0.mk hb
      have HKn := Aside0.mk (keep_then HK.out hk)
      clear hi hb hk HK
      have HK := HKn
      clear HKn
      have hm : IntKind.i64.wrap (r1 * 256) = r1 * 256 := IntWalk.i64_in _ (by omega)
      go_wp2_with fail
      refine (N2.out _ (by repeat (first | (with_reducible first | exact HI.out | apply Cur.alloc | apply Cur.drewN | apply Cur.set2 | apply Cur.set1) | exact HI.out)) (by repeat (first | (with_reducible first | exact HB.out | apply below_alloc | apply pw_below_drewN | apply below_drew1 | refine below_set ?_ (Cur.ge HI.out)) | exact HB.out))).mono ?_
      rintro e w2 ⟨r2,rfl,hr2,hi,hb,hk⟩
      clear HI HB
      have HI := Aside0.mk hi
      have HB := Aside0.mk hb
      have HKn := Aside0.mk (keep_then HK.out hk)
      clear hi hb hk HK
      have HK := HKn
      clear HKn
      have hv : IntKind.i64.wrap (r1 * 256 + r2) = r1 * 256 + r2 := IntWalk.i64_in _ (by omega)
      have h0 : 0 ≤ r1 * 256 + r2 := by omega
      have HT := Aside0.mk (And.intro (Int.emod_nonneg (r1 * 256 + r2) (show n ≠ 0 by omega)) (Int.emod_lt_of_pos (r1 * 256 + r2) hp))
      go_wp2_with fail
      go_ret
      exact ⟨(r1 * 256 + r2) % n,a + 1 + 1,by first | rfl | (simp; done) | (rw [Int.tmod_eq_emod_of_nonneg h0]),⟨HT.out.1,.inl HT.out.2⟩,⟨by omega,by omega⟩,HI.out,HB.out,HK.out⟩
    · have d2 : decide (200 < n) = false := decide_eq_false d
      have hz : (n == 0) = false := beq_eq_false_iff_ne.mpr (by omega)
      have hp : 0 < n := by omega
      clear hs hI hB ha hn c d
      go_enter Try.func65,Try.ntmps65
      go_wp2_with fail
      refine (N1.out _ (by repeat (first | (with_reducible first | exact HI.out | apply Cur.alloc | apply Cur.drewN | apply Cur.set2 | apply Cur.set1) | exact HI.out)) (by repeat (first | (with_reducible first | exact HB.out | apply below_alloc | apply pw_below_drewN | apply below_drew1 | refine below_set ?_ (Cur.ge HI.out)) | exact HB.out))).mono ?_
      rintro e w1 ⟨r1,rfl,hr1,hi,hb,hk⟩
      clear HI HB
      have HI := Aside0.mk hi
      have HB := Aside0.mk hb
      have HKn := Aside0.mk (keep_then HK.out hk)
      clear hi hb hk HK
      have HK := HKn
      clear HKn
      have h0 : 0 ≤ r1 := hr1.1
      have HT := Aside0.mk (And.intro (Int.emod_nonneg r1 (show n ≠ 0 by omega)) (Int.emod_lt_of_pos r1 hp))
      go_wp2_with fail
      go_ret
      exact ⟨r1 % n,a + 1,by first | rfl | (simp; done) | (rw [Int.tmod_eq_emod_of_nonneg h0]),⟨HT.out.1,.inl HT.out.2⟩,⟨by omega,by omega⟩,HI.out,HB.out,HK.out⟩
theorem among_calls (g : Nat) (s : List Int) (a : Int) (A1 : Option Addr) (c1 : Nat) (l : List Int) (hs : okB s) (ha : 0 ≤ a ∧ a ≤ 100000000) (hl : 1 ≤ l.length ∧ l.length ≤ 1000) (w0 w : World) (hI : Cur w0 w g s a) (hB : Below w0.heap.size w0 w)
    (hC : Kd.C (Kd.int .i64) w A1 l.length l) (hf : ∀ ad,A1 = some ad → ad.block ≠ g) (hx : ∀ (W : World),KeepBut w W g none → Kd.C (Kd.int .i64) W A1 l.length l) :
    Calls Try.prog 66 #[.pointer (some ⟨g,0,none⟩),.slice A1 l.length c1] w fun e w' => ∃ r a',e = .returned (.int .i64 r) ∧ (a ≤ a' ∧ a' ≤ a + 2) ∧ Cur w0 w' g s a' ∧ Below w0.heap.size w0 w' ∧ KeepBut w w' g none := by
  have HI := Aside0.mk hI
  have HB := Aside0.mk hB
  have HX := Aside0.mk hx
  have N1 := Aside0.mk (fun W (h1 : Cur w0 W g s a) (h2 : Below w0.heap.size w0 W) => pick_calls g s a (l.length : Int) hs ha (by omega) w0 W h1 h2)
  clear hs hI hB ha hC hf hx
  go_enter Try.func66,Try.ntmps66
  go_wp2_with fail
  refine (N1.out _ (by repeat (first | (with_reducible first | exact HI.out | apply Cur.alloc | apply Cur.drewN | apply Cur.set2 | apply Cur.set1) | exact HI.out)) (by repeat (first | (with_reducible first | exact HB.out | apply below_alloc | apply pw_below_drewN | apply below_drew1 | refine below_set ?_ (Cur.ge HI.out)) | exact HB.out))).mono ?_
  rintro e w1 ⟨r1,a1,rfl,hr1,ha1,hi,hb,hk⟩
  have HA1 := Aside0.mk ha1
  clear HI HB ha1
  have HI := Aside0.mk hi
  have HB := Aside0.mk hb
  have HK := Aside0.mk hk
  clear hi hb
  have h0 : 0 ≤ r1 := hr1.1
  have h1 : r1 < (l.length : Int) := by omega
  obtain ⟨ad,e,hx1⟩ := Kd.at_int (HX.out w1 hk) r1 h0 h1
  cases e
  obtain ⟨n,rfl⟩ := Int.eq_ofNat_of_zero_le h0
  rw [Int.toNat_natCast] at hx1
  have h2 : n < l.length := by omega
  clear hk hr1 hl
  go_wp2_with fail
  go_ret
  exact ⟨_,a1,rfl,HA1.out,HI.out,HB.out,HK.out⟩
theorem lits (W : World) (xs : List Int) (hx : xs.length ≤ 1000) : Kd.C (Kd.int .i64) (W.alloc (.cells (nums .i64 xs).toArray 3)) (some ⟨W.heap.size,0,none⟩) xs.length xs := by
  have h := own_lit W W.heap.size 3 .i64 xs (Nat.le_refl _) (by omega)
  obtain ⟨A,c,e,hr⟩ := own_reads h
  cases e
  exact Kd.C_of_reads (enc := Value.int .i64) (d := (0 : Int)) (h1 := fun _ => rfl) hr
theorem lits_keep (W V : World) (xs : List Int) (hx : xs.length ≤ 1000) {g : Nat} (hg : g < W.heap.size) (hk : KeepBut (W.alloc (.cells (nums .i64 xs).toArray 3)) V g none) : Kd.C (Kd.int .i64) V (some ⟨W.heap.size,0,none⟩) xs.length xs := by
  have h := own_lit W W.heap.size 3 .i64 xs (Nat.le_refl _) (by omega)
  have h2 := hk.own h (by simp [Value.ownBlock]; omega) (by simp [Value.ownBlock])
  obtain ⟨A,c,e,hr⟩ := own_reads h2
  cases e
  exact Kd.C_of_reads (enc := Value.int .i64) (d := (0 : Int)) (h1 := fun _ => rfl) hr
end Go.Proofs.Ytleacijhpkogpad.HDraw
/- What is drawn from bytes,continued: heights (spec.l1Cur.heights). -/
namespace Go.Proofs.Ytleacijhpkogpad.HDraw
open Go.RowKit YtleacijhpkogpadW.PrintWords YtleacijhpkogpadW.PrintLast YtleacijhpkogpadW.PrintMore

theorem keepR {W W1 : World} {base g : Nat} {v : Value} {xs : List Int} (h : Kd.R (Kd.int .i64) 3 W base (fun k => k ≠ g) v xs) (hk : KeepBut W W1 g none) : Kd.R (Kd.int .i64) 3 W1 base (fun k => k ≠ g) v xs := Kd.R_keep h hk (fun _ h => h)
def HPost (w0 : World) (g : Nat) (s : List Int) (e : Ending) (w' : World) : Prop := ∃ (v : Value) (L : List Int) (a : Int),e = .returned v ∧ L.length ≤ 42 ∧ (0 ≤ a ∧ a ≤ 1000) ∧ Kd.R (Kd.int .i64) 3 w' w0.heap.size (fun k => k ≠ g) v L ∧ Cur w0 w' g s a ∧ Below w0.heap.size w0 w'
theorem heights_calls (g : Nat) (s : List Int) (hs : okB s) (w0 w : World) (hI : Cur w0 w g s 0) (hB : Below w0.heap.size w0 w) :
    Calls Try.prog 64 #[.pointer (some ⟨g,0,none⟩)] w fun e w' => HPost w0 g s e w' := by
  have HS := Aside0.mk hs
  have HI := Aside0.mk hI
  have HB := Aside0.mk hB
  have HA : Aside0 ((0 : Int) ≤ 0 ∧ (0 : Int) ≤ 0) := ⟨by omega,by omega⟩
  have HO : Aside0 (Kd.R (Kd.int .i64) 3 w w0.heap.size (fun k => k ≠ g) (.slice none 0 0) []) := ⟨Kd.R_nil _ _ _ _ _⟩
  clear hs hI hB
  go_enter Try.func64,Try.ntmps64
  go_wp2_with fail
  refine (pick_calls g s 0 9 HS.out (by have := HA.out; omega) (by omega) w0 _ (by repeat (first | (with_reducible first | exact HI.out | apply Cur.alloc | apply Cur.drewN | apply Cur.set2 | apply Cur.set1) | exact HI.out)) (by repeat (first | (with_reducible first | exact HB.out | apply below_alloc | apply pw_below_drewN | apply below_drew1 | refine below_set ?_ (Cur.ge HI.out)) | exact HB.out))).mono ?_
  rintro e w1 ⟨r1,a1,rfl,hr1,ha1,hi,hb,hk⟩
  have HAn := Aside0.mk (show 0 ≤ a1 ∧ a1 ≤ 2 by have := HA.out; omega)
  have p1 : 0 ≤ r1 := hr1.1
  have q1 : r1 < 9 := by omega
  have HA1 := Aside0.mk (And.intro ha1 HA.out)
  have HOn := Aside0.mk (keepR HO.out hk)
  clear HI HB HO HA ha1
  have HI := Aside0.mk hi
  have HB := Aside0.mk hb
  have HO := HOn
  have HA := HAn
  clear hi hb hk HOn HAn
  obtain ⟨n1,hn1⟩ := Int.eq_ofNat_of_zero_le (show 0 ≤ 1 + r1 by omega)
  have HE := Aside0.mk hn1
  have HN1 := Aside0.mk (show n1 ≤ 9 by omega)
  clear hr1 hn1
  go_wp2_with fail
  go_loopg [3,4] n1 (fun kq v3 v4 w' => ∃ (n : Nat) (out : List Int) (a : Int),v4 = .int .i64 (n : Int) ∧ Aside0 (kq = n) ∧ Aside0 (out.length + n ≤ 9) ∧ Aside0 (0 ≤ a ∧ a + 2 * (n : Int) ≤ 100) ∧ Aside0 (Kd.R (Kd.int .i64) 3 w' w0.heap.size (fun k => k ≠ g) v3 out) ∧ Aside0 (Cur w0 w' g s a) ∧ Aside0 (Below w0.heap.size w0 w'))
  case atStart => exact ⟨n1,[],a1,by rw [HE.out],⟨rfl⟩,⟨by have := HN1.out; simp; omega⟩,⟨by have := HA.out; omega,by have := HA.out; have := HN1.out; omega⟩,HO,HI,HB⟩
  case round =>
    clear HO HI HB HA HA1 HN1 HE
    obtain ⟨n,out,a,rfl,HK,HL0,HA0,HO,HI,HB⟩ := hrel
    have HA := Aside0.mk (show 0 ≤ a ∧ a ≤ 100 by have := HA0.out; omega)
    have HL := Aside0.mk (show out.length ≤ 40 by have := HL0.out; omega)
    by_cases hn : 0 < n
    · have d1 : decide ((0 : Int) < (n : Int)) = true := decide_eq_true (by omega)
      have d2 : decide (0 < n) = true := decide_eq_true hn
      have HN := Aside0.mk hn
      clear hn
      go_wp2_with fail
      refine (pick_calls g s a 7 HS.out (by have := HA.out; omega) (by omega) w0 _ (by repeat (first | (with_reducible first | exact HI.out | apply Cur.alloc | apply Cur.drewN | apply Cur.set2 | apply Cur.set1) | exact HI.out)) (by repeat (first | (with_reducible first | exact HB.out | apply below_alloc | apply pw_below_drewN | apply below_drew1 | refine below_set ?_ (Cur.ge HI.out)) | exact HB.out))).mono ?_
      rintro e w2 ⟨r2,a2,rfl,hr2,ha2,hi,hb,hk⟩
      have HAn := Aside0.mk (show 0 ≤ a2 ∧ a2 ≤ 102 by have := HA.out; omega)
      have p2 : 0 ≤ r2 := hr2.1
      have q2 : r2 < 7 := by omega
      have HA2 := Aside0.mk (And.intro ha2 HA.out)
      have HOn := Aside0.mk (keepR HO.out hk)
      clear HI HB HO HA ha2
      have HI := Aside0.mk hi
      have HB := Aside0.mk hb
      have HO := HOn
      have HA := HAn
      clear hi hb hk HOn HAn
      clear hr2
      go_wp2_with ((with_reducible refine gate_builtin (b := .append) (xs := #[.tmp 12,.tmp 16]) rfl ?_); at_builtin; refine Kd.R_append (Kd.int .i64) (w0 := w0) w0.heap.size rfl (.tmp 12) (.tmp 16) 24 3 (.int .i64 0) 8 rfl Try.underlying24 HClone.info_int rfl (by decide) (by omega) u3 out (1 + r2) [.int .i64 (1 + r2)] (fun k => k ≠ g) (fun _ => False) rfl rfl ?aP (fun _ hk => hk.elim) (fun k hk => by have := Cur.lt HI.out; omega) ?aO ?aB ?aS ?aL ?_; (case aP => exact rfl); (case aO => exact HO.out); (case aB => exact HB.out); (case aS => exact HB.out.size); (case aL => have := HL.out; omega); intro v3 w3 ho hb hg hat; have HIn := Aside0.mk (Cur.grown HI.out hg (fun h => HO.out.1 g h.symm rfl)); have HOn := Aside0.mk ho; have HBn := Aside0.mk hb; clear ho hb hg hat HO HB HI; have HO := HOn; have HB := HBn; have HI := HIn; clear HOn HBn HIn)
      obtain ⟨m,hm⟩ : ∃ m,n = m + 1 := ⟨n - 1,by have := HN.out; omega⟩
      subst hm
      have HW4 := Aside0.mk (show wrap64 (m : Int) = (m : Int) by have := HL0.out; unfold wrap64; omega)
      try go_wp2_with fail
      go_roundg m
      case measure => have := HK.out; omega
      case rel => exact ⟨m,out ++ [1 + r2],a2,by first | rfl | (simp; done) | (simp; exact HW4.out),⟨rfl⟩,⟨by have := HL0.out; simp; omega⟩,⟨by have := HA.out; omega,by have := HA2.out; have := HA0.out; omega⟩,HO,HI,HB⟩
    · have d1 : decide ((0 : Int) < (n : Int)) = false := decide_eq_false (by omega)
      have d2 : decide (0 < n) = false := decide_eq_false hn
      clear hn HK HL0
      go_wp2_with fail
      refine (pick_calls g s a 16 HS.out (by have := HA.out; omega) (by omega) w0 _ (by repeat (first | (with_reducible first | exact HI.out | apply Cur.alloc | apply Cur.drewN | apply Cur.set2 | apply Cur.set1) | exact HI.out)) (by repeat (first | (with_reducible first | exact HB.out | apply below_alloc | apply pw_below_drewN | apply below_drew1 | refine below_set ?_ (Cur.ge HI.out)) | exact HB.out))).mono ?_
      rintro e w4 ⟨r4,a4,rfl,hr4,ha4,hi,hb,hk⟩
      have HAn := Aside0.mk (show 0 ≤ a4 ∧ a4 ≤ 102 by have := HA.out; omega)
      have p4 : 0 ≤ r4 := hr4.1
      have q4 : r4 < 16 := by omega
      have HA4 := Aside0.mk (And.intro ha4 HA.out)
      have HOn := Aside0.mk (keepR HO.out hk)
      clear HI HB HO HA ha4
      have HI := Aside0.mk hi
      have HB := Aside0.mk hb
      have HO := HOn
      have HA := HAn
      clear hi hb hk HOn HAn
      by_cases c0 : r4 = 0
      · subst c0
        go_wp2_with fail
        go_ret
        exact ⟨_,[],a4,rfl,by simp,by have := HA.out; omega,Kd.R_nil _ _ _ _ _,by repeat (first | (with_reducible first | exact HI.out | apply Cur.alloc | apply Cur.drewN | apply Cur.set2 | apply Cur.set1) | exact HI.out),by repeat (first | (with_reducible first | exact HB.out | apply below_alloc | apply pw_below_drewN | apply below_drew1 | refine below_set ?_ (Cur.ge HI.out)) | exact HB.out)⟩
      · have e0 : (r4 == 0) = false := beq_eq_false_iff_ne.mpr c0
        by_cases c1 : r4 = 1
        · subst c1
          have HAL := Aside0.mk (fun W (h1 : Cur w0 W g s a4) (h2 : Below w0.heap.size w0 W) => among_calls g s a4 (some ⟨W.heap.size,0,none⟩) 6 [-1,0,1,100,101,4611686018427387904] HS.out (by have := HA.out; omega) (by simp) w0 (W.alloc (.cells (nums .i64 [-1,0,1,100,101,4611686018427387904]).toArray 3)) (Cur.alloc h1 _) (below_alloc h2 _)
            (lits W _ (by simp)) (fun ad e => by cases e; exact (Nat.ne_of_gt (Cur.lt h1))) (fun V hk => lits_keep W V _ (by simp) (Cur.lt h1) hk))
          simp only [nums,List.map,List.length_cons,List.length_nil] at HAL
          go_wp2_with fail
          refine (HAL.out _ (by repeat (first | (with_reducible first | exact HI.out | apply Cur.alloc | apply Cur.drewN | apply Cur.set2 | apply Cur.set1) | exact HI.out)) (by repeat (first | (with_reducible first | exact HB.out | apply below_alloc | apply pw_below_drewN | apply below_drew1 | refine below_set ?_ (Cur.ge HI.out)) | exact HB.out))).mono ?_
          rintro e w5 ⟨r5,a5,rfl,ha5,hi,hb,hk⟩
          have HA5 := Aside0.mk (show 0 ≤ a5 ∧ a5 ≤ 104 by have := HA.out; omega)
          have HOn := Aside0.mk (keepR (Kd.R_alloc HO.out _) hk)
          clear HI HB HO HA ha5 HAL
          have HI := Aside0.mk hi
          have HB := Aside0.mk hb
          have HO := HOn
          clear hi hb hk HOn
          go_wp2_with ((with_reducible refine gate_builtin (b := .append) (xs := #[.tmp 24,.tmp 28]) rfl ?_); at_builtin; refine Kd.R_append (Kd.int .i64) (w0 := w0) w0.heap.size rfl (.tmp 24) (.tmp 28) 24 3 (.int .i64 0) 8 rfl Try.underlying24 HClone.info_int rfl (by decide) (by omega) u3 out r5 [.int .i64 r5] (fun k => k ≠ g) (fun _ => False) rfl rfl ?aP (fun _ hk => hk.elim) (fun k hk => by have := Cur.lt HI.out; omega) ?aO ?aB ?aS ?aL ?_; (case aP => exact rfl); (case aO => exact HO.out); (case aB => exact HB.out); (case aS => exact HB.out.size); (case aL => have := HL.out; omega); intro v6 w6 ho hb hg hat; have HIn := Aside0.mk (Cur.grown HI.out hg (fun h => HO.out.1 g h.symm rfl)); have HOn := Aside0.mk ho; have HBn := Aside0.mk hb; clear ho hb hg hat HO HB HI; have HO := HOn; have HB := HBn; have HI := HIn; clear HOn HBn HIn)
          try go_wp2_with fail
          go_ret
          exact ⟨_,out ++ [r5],a5,rfl,by have := HL.out; simp; omega,by have := HA5.out; omega,HO.out,by repeat (first | (with_reducible first | exact HI.out | apply Cur.alloc | apply Cur.drewN | apply Cur.set2 | apply Cur.set1) | exact HI.out),by repeat (first | (with_reducible first | exact HB.out | apply below_alloc | apply pw_below_drewN | apply below_drew1 | refine below_set ?_ (Cur.ge HI.out)) | exact HB.out)⟩
        · have e1 : (r4 == 1) = false := beq_eq_false_iff_ne.mpr c1
          by_cases c2 : r4 = 2
          · subst c2
            clear c0 c1 hr4 p4 q4
            go_wp2_with fail
            go_loopg [3] (42 - out.length) (fun kq v3 w' => ∃ (o2 : List Int) (b : Int),Aside0 (kq + o2.length = 42) ∧ Aside0 (o2.length ≤ 41) ∧ Aside0 (0 ≤ b ∧ b + 4 * (kq : Int) ≤ 400) ∧ Aside0 (Kd.R (Kd.int .i64) 3 w' w0.heap.size (fun k => k ≠ g) v3 o2) ∧ Aside0 (Cur w0 w' g s b) ∧ Aside0 (Below w0.heap.size w0 w'))
            case atStart => exact ⟨out,a4,⟨by have := HL.out; omega⟩,⟨by have := HL.out; omega⟩,⟨by have := HA.out; omega,by have := HA.out; omega⟩,HO,HI,HB⟩
            case round =>
              clear HO HI HB HA HL
              obtain ⟨o2,b,HK,HL,HA0,HO,HI,HB⟩ := hrel
              have HA := Aside0.mk (show 0 ≤ b ∧ b ≤ 400 by have := HA0.out; omega)
              obtain ⟨A3,k3,rfl⟩ := Kd.R_slice HO.out
              go_wp2_with fail
              refine (pick_calls g s b 2 HS.out (by have := HA.out; omega) (by omega) w0 _ (by repeat (first | (with_reducible first | exact HI.out | apply Cur.alloc | apply Cur.drewN | apply Cur.set2 | apply Cur.set1) | exact HI.out)) (by repeat (first | (with_reducible first | exact HB.out | apply below_alloc | apply pw_below_drewN | apply below_drew1 | refine below_set ?_ (Cur.ge HI.out)) | exact HB.out))).mono ?_
              rintro e w7 ⟨r7,a7,rfl,hr7,ha7,hi,hb,hk⟩
              have HAn := Aside0.mk (show 0 ≤ a7 ∧ a7 ≤ 402 by have := HA.out; omega)
              have p7 : 0 ≤ r7 := hr7.1
              have q7 : r7 < 2 := by omega
              have HA7 := Aside0.mk (And.intro ha7 HA.out)
              have HOn := Aside0.mk (keepR HO.out hk)
              clear HI HB HO HA ha7
              have HI := Aside0.mk hi
              have HB := Aside0.mk hb
              have HO := HOn
              have HA := HAn
              clear hi hb hk HOn HAn
              by_cases c3 : (o2.length : Int) < 40 + r7
              · have d3 : decide ((o2.length : Int) < 40 + r7) = true := decide_eq_true c3
                have HC3 := Aside0.mk (show o2.length ≤ 40 by omega)
                have HA7b := Aside0.mk (show a7 ≤ b + 2 by have := HA7.out; omega)
                clear c3 hr7
                go_wp2_with fail
                refine (pick_calls g s a7 100 HS.out (by have := HA.out; omega) (by omega) w0 _ (by repeat (first | (with_reducible first | exact HI.out | apply Cur.alloc | apply Cur.drewN | apply Cur.set2 | apply Cur.set1) | exact HI.out)) (by repeat (first | (with_reducible first | exact HB.out | apply below_alloc | apply pw_below_drewN | apply below_drew1 | refine below_set ?_ (Cur.ge HI.out)) | exact HB.out))).mono ?_
                rintro e w8 ⟨r8,a8,rfl,hr8,ha8,hi,hb,hk⟩
                have HAn := Aside0.mk (show 0 ≤ a8 ∧ a8 ≤ 404 by have := HA.out; omega)
                have p8 : 0 ≤ r8 := hr8.1
                have q8 : r8 < 100 := by omega
                have HA8 := Aside0.mk (And.intro ha8 HA.out)
                have HOn := Aside0.mk (keepR HO.out hk)
                clear HI HB HO HA ha8
                have HI := Aside0.mk hi
                have HB := Aside0.mk hb
                have HO := HOn
                have HA := HAn
                clear hi hb hk HOn HAn
                have HA8b := Aside0.mk (show a8 ≤ b + 4 by have := HA7b.out; have := HA8.out; omega)
                clear hr8
                go_wp2_with ((with_reducible refine gate_builtin (b := .append) (xs := #[.tmp 38,.tmp 42]) rfl ?_); at_builtin; refine Kd.R_append (Kd.int .i64) (w0 := w0) w0.heap.size rfl (.tmp 38) (.tmp 42) 24 3 (.int .i64 0) 8 rfl Try.underlying24 HClone.info_int rfl (by decide) (by omega) (.slice A3 o2.length k3) o2 (1 + r8) [.int .i64 (1 + r8)] (fun k => k ≠ g) (fun _ => False) rfl rfl ?aP (fun _ hk => hk.elim) (fun k hk => by have := Cur.lt HI.out; omega) ?aO ?aB ?aS ?aL ?_; (case aP => exact rfl); (case aO => exact HO.out); (case aB => exact HB.out); (case aS => exact HB.out.size); (case aL => have := HL.out; omega); intro v9 w9 ho hb hg hat; have HIn := Aside0.mk (Cur.grown HI.out hg (fun h => HO.out.1 g h.symm rfl)); have HOn := Aside0.mk ho; have HBn := Aside0.mk hb; clear ho hb hg hat HO HB HI; have HO := HOn; have HB := HBn; have HI := HIn; clear HOn HBn HIn)
                try go_wp2_with fail
                go_roundg (42 - (o2.length + 1))
                case measure => have := HK.out; have := HC3.out; omega
                case rel => exact ⟨o2 ++ [1 + r8],a8,⟨by have := HC3.out; simp; omega⟩,⟨by have := HC3.out; simp; omega⟩,⟨by have := HA.out; omega,by have := HA8b.out; have := HA0.out; have := HK.out; have := HC3.out; omega⟩,HO,HI,HB⟩
              · have d3 : decide ((o2.length : Int) < 40 + r7) = false := decide_eq_false c3
                clear c3 hr7
                go_wp2_with fail
                go_ret
                exact ⟨_,o2,a7,rfl,by have := HL.out; omega,by have := HA.out; omega,HO.out,by repeat (first | (with_reducible first | exact HI.out | apply Cur.alloc | apply Cur.drewN | apply Cur.set2 | apply Cur.set1) | exact HI.out),by repeat (first | (with_reducible first | exact HB.out | apply below_alloc | apply pw_below_drewN | apply below_drew1 | refine below_set ?_ (Cur.ge HI.out)) | exact HB.out)⟩
          · have e2 : (r4 == 2) = false := beq_eq_false_iff_ne.mpr c2
            clear hr4 p4 q4 c0 c1 c2
            go_wp2_with fail
            go_ret
            exact ⟨_,out,a4,rfl,by have := HL.out; omega,by have := HA.out; omega,HO.out,by repeat (first | (with_reducible first | exact HI.out | apply Cur.alloc | apply Cur.drewN | apply Cur.set2 | apply Cur.set1) | exact HI.out),by repeat (first | (with_reducible first | exact HB.out | apply below_alloc | apply pw_below_drewN | apply below_drew1 | refine below_set ?_ (Cur.ge HI.out)) | exact HB.out)⟩
def LPost (w : World) (e : Ending) (w' : World) : Prop := ∃ (v : Value) (L : List Int),e = .returned v ∧ L.length ≤ 42 ∧ Kd.R (Kd.int .i64) 3 w' w.heap.size (fun _ => True) v L ∧ Below w.heap.size w w'
theorem draw_are (A0 : Option Addr) (c0 : Nat) (s : List Int) (hs : okB s) (w : World) (hC : Kd.C (Kd.int .u8) w A0 s.length s) :
    Calls Try.prog 52 #[.slice A0 s.length c0] w fun e w' => LPost w e w' := by
  have HH := Aside0.mk (heights_calls w.heap.size s hs w _ (Cur.new w w A0 c0 s (Below.refl _ _) hC) (below_alloc (Below.refl _ _) _))
  clear hs hC
  go_enter Try.func52,Try.ntmps52
  go_wp2_with fail
  refine HH.out.mono ?_
  rintro e w1 ⟨v,Lv,a,rfl,hL,ha,ho,hi,hb⟩
  have HL := Aside0.mk hL
  have HO := Aside0.mk ho
  have HB := Aside0.mk hb
  clear hL ha ho hi hb
  go_wp2_with fail
  go_ret
  exact ⟨_,Lv,rfl,HL.out,Kd.R_mono HO.out (fun _ _ => trivial),HB.out⟩

end Go.Proofs.Ytleacijhpkogpad.HDraw
/- The draws of the law on who rises (FnHeightsRise): DrawLongestRising,DrawCountBySeen,DrawFirstBySeen,DrawMeanSeen. -/
namespace Go.Proofs.Ytleacijhpkogpad.HDraw
open Go.RowKit YtleacijhpkogpadW.PrintWords YtleacijhpkogpadW.PrintLast YtleacijhpkogpadW.PrintMore

theorem draw_rise (A0 : Option Addr) (c0 : Nat) (s : List Int) (hs : okB s) (w : World) (hC : Kd.C (Kd.int .u8) w A0 s.length s) :
    Calls Try.prog 31 #[.slice A0 s.length c0] w fun e w' => LPost w e w' := by
  have HH := Aside0.mk (draw_are A0 c0 s hs w hC)
  clear hs hC
  go_enter Try.func31,Try.ntmps31
  go_wp2_with fail
  refine HH.out.mono ?_
  rintro e w1 ⟨v,Lv,rfl,hL,ho,hb⟩
  have HL := Aside0.mk hL
  have HO := Aside0.mk ho
  have HB := Aside0.mk hb
  clear hL ho hb
  go_wp2_with fail
  go_ret
  exact ⟨_,Lv,rfl,HL.out,HO.out,HB.out⟩
theorem one_calls (g : Nat) (s : List Int) (a n : Int) (hs : okB s) (ha : 0 ≤ a ∧ a ≤ 100000000) (hn : n ≤ 1000000) (w0 w : World) (hI : Cur w0 w g s a) (hB : Below w0.heap.size w0 w) :
    Calls Try.prog 80 #[.pointer (some ⟨g,0,none⟩),.int .i64 n] w fun e w' => ∃ (b : Bool) (a' : Int),e = .returned (.bool b) ∧ (a ≤ a' ∧ a' ≤ a + 2) ∧ Cur w0 w' g s a' ∧ Below w0.heap.size w0 w' := by
  have HI := Aside0.mk hI
  have HB := Aside0.mk hB
  have N1 := Aside0.mk (fun W (h1 : Cur w0 W g s a) (h2 : Below w0.heap.size w0 W) => pick_calls g s a n hs ha hn w0 W h1 h2)
  clear hs hI hB ha hn
  go_enter Try.func80,Try.ntmps80
  go_wp2_with fail
  refine (N1.out _ (by repeat (first | (with_reducible first | exact HI.out | apply Cur.alloc | apply Cur.drewN | apply Cur.set2 | apply Cur.set1) | exact HI.out)) (by repeat (first | (with_reducible first | exact HB.out | apply below_alloc | apply pw_below_drewN | apply below_drew1 | refine below_set ?_ (Cur.ge HI.out)) | exact HB.out))).mono ?_
  rintro e w1 ⟨r1,a1,rfl,hr1,ha1,hi,hb,hk⟩
  have HA1 := Aside0.mk ha1
  clear HI HB ha1 hr1 hk
  have HI := Aside0.mk hi
  have HB := Aside0.mk hb
  clear hi hb
  go_wp2_with fail
  go_ret
  exact ⟨_,a1,rfl,HA1.out,HI.out,HB.out⟩
theorem ranked_calls (g : Nat) (s : List Int) (a : Int) (hs : okB s) (ha : 0 ≤ a ∧ a ≤ 100) (w0 w : World) (hI : Cur w0 w g s a) (hB : Below w0.heap.size w0 w) :
    Calls Try.prog 76 #[.pointer (some ⟨g,0,none⟩)] w fun e w' => ∃ (m x y : Int),e = .returned (.tuple #[.int .i64 m,.int .i64 x,.int .i64 y]) ∧ Below w0.heap.size w0 w' := by
  have HI := Aside0.mk hI
  have HB := Aside0.mk hB
  have HS := Aside0.mk hs
  have HA := Aside0.mk ha
  clear hs hI hB ha
  go_enter Try.func76,Try.ntmps76
  go_wp2_with fail
  refine (one_calls g s a 10 HS.out (by have := HA.out; omega) (by omega) w0 _ (by repeat (first | (with_reducible first | exact HI.out | apply Cur.alloc | apply Cur.drewN | apply Cur.set2 | apply Cur.set1) | exact HI.out)) (by repeat (first | (with_reducible first | exact HB.out | apply below_alloc | apply pw_below_drewN | apply below_drew1 | refine below_set ?_ (Cur.ge HI.out)) | exact HB.out))).mono ?_
  rintro e wo ⟨b,ao,rfl,hao,hi,hb⟩
  have HAn := Aside0.mk (show 0 ≤ ao ∧ ao ≤ 200 by have := HA.out; omega)
  clear HI HB HA hao
  have HI := Aside0.mk hi
  have HB := Aside0.mk hb
  have HA := HAn
  clear hi hb HAn
  cases b with
  | true =>
    go_wp2_with fail
    have HAL := Aside0.mk (fun W (h1 : Cur w0 W g s ao) (h2 : Below w0.heap.size w0 W) => among_calls g s ao (some ⟨W.heap.size,0,none⟩) 7 [-1,0,1,8,9,15,16] HS.out (by have := HA.out; omega) (by simp) w0 (W.alloc (.cells (nums .i64 [-1,0,1,8,9,15,16]).toArray 3)) (Cur.alloc h1 _) (below_alloc h2 _) (lits W _ (by simp)) (fun ad e => by cases e; exact (Nat.ne_of_gt (Cur.lt h1))) (fun V hk => lits_keep W V _ (by simp) (Cur.lt h1) hk))
    simp only [nums,List.map,List.length_cons,List.length_nil] at HAL
    go_wp2_with fail
    refine (HAL.out _ (by repeat (first | (with_reducible first | exact HI.out | apply Cur.alloc | apply Cur.drewN | apply Cur.set2 | apply Cur.set1) | exact HI.out)) (by repeat (first | (with_reducible first | exact HB.out | apply below_alloc | apply pw_below_drewN | apply below_drew1 | refine below_set ?_ (Cur.ge HI.out)) | exact HB.out))).mono ?_
    rintro e w1 ⟨r1,a1,rfl,ha1,hi,hb,hk⟩
    have HAn := Aside0.mk (show 0 ≤ a1 ∧ a1 ≤ 300 by have := HA.out; omega)
    clear HI HB HA ha1 HAL hk
    have HI := Aside0.mk hi
    have HB := Aside0.mk hb
    have HA := HAn
    clear hi hb HAn
    have HAL := Aside0.mk (fun W (h1 : Cur w0 W g s a1) (h2 : Below w0.heap.size w0 W) => among_calls g s a1 (some ⟨W.heap.size,0,none⟩) 6 [-1,0,1,2,15,16] HS.out (by have := HA.out; omega) (by simp) w0 (W.alloc (.cells (nums .i64 [-1,0,1,2,15,16]).toArray 3)) (Cur.alloc h1 _) (below_alloc h2 _) (lits W _ (by simp)) (fun ad e => by cases e; exact (Nat.ne_of_gt (Cur.lt h1))) (fun V hk => lits_keep W V _ (by simp) (Cur.lt h1) hk))
    simp only [nums,List.map,List.length_cons,List.length_nil] at HAL
    go_wp2_with fail
    refine (HAL.out _ (by repeat (first | (with_reducible first | exact HI.out | apply Cur.alloc | apply Cur.drewN | apply Cur.set2 | apply Cur.set1) | exact HI.out)) (by repeat (first | (with_reducible first | exact HB.out | apply below_alloc | apply pw_below_drewN | apply below_drew1 | refine below_set ?_ (Cur.ge HI.out)) | exact HB.out))).mono ?_
    rintro e w2 ⟨r2,a2,rfl,ha2,hi,hb,hk⟩
    have HAn := Aside0.mk (show 0 ≤ a2 ∧ a2 ≤ 400 by have := HA.out; omega)
    clear HI HB HA ha2 HAL hk
    have HI := Aside0.mk hi
    have HB := Aside0.mk hb
    have HA := HAn
    clear hi hb HAn
    have HAL := Aside0.mk (fun W (h1 : Cur w0 W g s a2) (h2 : Below w0.heap.size w0 W) => among_calls g s a2 (some ⟨W.heap.size,0,none⟩) 6 [-1,0,1,2,15,16] HS.out (by have := HA.out; omega) (by simp) w0 (W.alloc (.cells (nums .i64 [-1,0,1,2,15,16]).toArray 3)) (Cur.alloc h1 _) (below_alloc h2 _) (lits W _ (by simp)) (fun ad e => by cases e; exact (Nat.ne_of_gt (Cur.lt h1))) (fun V hk => lits_keep W V _ (by simp) (Cur.lt h1) hk))
    simp only [nums,List.map,List.length_cons,List.length_nil] at HAL
    go_wp2_with fail
    refine (HAL.out _ (by repeat (first | (with_reducible first | exact HI.out | apply Cur.alloc | apply Cur.drewN | apply Cur.set2 | apply Cur.set1) | exact HI.out)) (by repeat (first | (with_reducible first | exact HB.out | apply below_alloc | apply pw_below_drewN | apply below_drew1 | refine below_set ?_ (Cur.ge HI.out)) | exact HB.out))).mono ?_
    rintro e w3 ⟨r3,a3,rfl,ha3,hi,hb,hk⟩
    have HAn := Aside0.mk (show 0 ≤ a3 ∧ a3 ≤ 500 by have := HA.out; omega)
    clear HI HB HA ha3 HAL hk
    have HI := Aside0.mk hi
    have HB := Aside0.mk hb
    have HA := HAn
    clear hi hb HAn
    go_wp2_with fail
    go_ret3
    exact ⟨_,_,_,rfl,by repeat (first | (with_reducible first | exact HB.out | apply below_alloc | apply pw_below_drewN | apply below_drew1 | refine below_set ?_ (Cur.ge HI.out)) | exact HB.out)⟩
  | false =>
    have HK := Aside0.mk (KeepBut.refl wo g none)
    go_wp2_with fail
    refine (pick_calls g s ao 9 HS.out (by have := HA.out; omega) (by omega) w0 _ (by repeat (first | (with_reducible first | exact HI.out | apply Cur.alloc | apply Cur.drewN | apply Cur.set2 | apply Cur.set1) | exact HI.out)) (by repeat (first | (with_reducible first | exact HB.out | apply below_alloc | apply pw_below_drewN | apply below_drew1 | refine below_set ?_ (Cur.ge HI.out)) | exact HB.out))).mono ?_
    rintro e w1 ⟨r1,a1,rfl,hr1,ha1,hi,hb,hk⟩
    have HAn := Aside0.mk (show 0 ≤ a1 ∧ a1 ≤ 300 by have := HA.out; omega)
    have p1 : 0 ≤ r1 := hr1.1
    have q1 : r1 < 9 := by omega
    have HKn := Aside0.mk (keep_then HK.out hk)
    clear HI HB HK HA ha1 hr1
    have HI := Aside0.mk hi
    have HB := Aside0.mk hb
    have HK := HKn
    have HA := HAn
    clear hi hb hk HKn HAn
    have hv1 : IntKind.i64.wrap (1 + r1) = 1 + r1 := IntWalk.i64_in _ (by omega)
    go_wp2_with fail
    refine (pick_calls g s a1 6 HS.out (by have := HA.out; omega) (by omega) w0 _ (by repeat (first | (with_reducible first | exact HI.out | apply Cur.alloc | apply Cur.drewN | apply Cur.set2 | apply Cur.set1) | exact HI.out)) (by repeat (first | (with_reducible first | exact HB.out | apply below_alloc | apply pw_below_drewN | apply below_drew1 | refine below_set ?_ (Cur.ge HI.out)) | exact HB.out))).mono ?_
    rintro e w2 ⟨r2,a2,rfl,hr2,ha2,hi,hb,hk⟩
    have HAn := Aside0.mk (show 0 ≤ a2 ∧ a2 ≤ 400 by have := HA.out; omega)
    have p2 : 0 ≤ r2 := hr2.1
    have q2 : r2 < 6 := by omega
    have HKn := Aside0.mk (keep_then HK.out hk)
    clear HI HB HK HA ha2 hr2
    have HI := Aside0.mk hi
    have HB := Aside0.mk hb
    have HK := HKn
    have HA := HAn
    clear hi hb hk HKn HAn
    go_wp2_with fail
    refine (pick_calls g s a2 5 HS.out (by have := HA.out; omega) (by omega) w0 _ (by repeat (first | (with_reducible first | exact HI.out | apply Cur.alloc | apply Cur.drewN | apply Cur.set2 | apply Cur.set1) | exact HI.out)) (by repeat (first | (with_reducible first | exact HB.out | apply below_alloc | apply pw_below_drewN | apply below_drew1 | refine below_set ?_ (Cur.ge HI.out)) | exact HB.out))).mono ?_
    rintro e w3 ⟨r3,a3,rfl,hr3,ha3,hi,hb,hk⟩
    have HAn := Aside0.mk (show 0 ≤ a3 ∧ a3 ≤ 500 by have := HA.out; omega)
    have p3 : 0 ≤ r3 := hr3.1
    have q3 : r3 < 5 := by omega
    have HKn := Aside0.mk (keep_then HK.out hk)
    clear HI HB HK HA ha3 hr3
    have HI := Aside0.mk hi
    have HB := Aside0.mk hb
    have HK := HKn
    have HA := HAn
    clear hi hb hk HKn HAn
    go_wp2_with fail
    go_ret3
    exact ⟨_,_,_,rfl,by repeat (first | (with_reducible first | exact HB.out | apply below_alloc | apply pw_below_drewN | apply below_drew1 | refine below_set ?_ (Cur.ge HI.out)) | exact HB.out)⟩
theorem draw_count (A0 : Option Addr) (c0 : Nat) (s : List Int) (hs : okB s) (w : World) (hC : Kd.C (Kd.int .u8) w A0 s.length s) :
    Calls Try.prog 43 #[.slice A0 s.length c0] w fun e w' => ∃ (m x y : Int),e = .returned (.tuple #[.int .i64 m,.int .i64 x,.int .i64 y]) ∧ Below w.heap.size w w' := by
  have HS := Aside0.mk hs
  have HI := Aside0.mk (Cur.new w w A0 c0 s (Below.refl _ _) hC)
  have HB := Aside0.mk (below_alloc (Below.refl w.heap.size w) (.cells #[.slice A0 s.length c0,.int .i64 0,.int .u64 0] 59))
  have HA := Aside0.mk (show (0 : Int) ≤ 0 ∧ (0 : Int) ≤ 0 by omega)
  clear hs hC
  go_enter Try.func43,Try.ntmps43
  go_wp2_with fail
  refine (ranked_calls w.heap.size s 0 HS.out (by omega) w _ (by repeat (first | (with_reducible first | exact HI.out | apply Cur.alloc | apply Cur.drewN | apply Cur.set2 | apply Cur.set1) | exact HI.out)) (by repeat (first | (with_reducible first | exact HB.out | apply below_alloc | apply pw_below_drewN | apply below_drew1 | refine below_set ?_ (Cur.ge HI.out)) | exact HB.out))).mono ?_
  rintro e w1 ⟨m,x,y,rfl,hb⟩
  have HBn := Aside0.mk hb
  clear HB HI HA hb
  go_wp2_with fail
  go_ret3
  exact ⟨m,x,y,rfl,HBn.out⟩
theorem draw_first (A0 : Option Addr) (c0 : Nat) (s : List Int) (hs : okB s) (w : World) (hC : Kd.C (Kd.int .u8) w A0 s.length s) :
    Calls Try.prog 46 #[.slice A0 s.length c0] w fun e w' => ∃ (m x y : Int),e = .returned (.tuple #[.int .i64 m,.int .i64 x,.int .i64 y]) ∧ Below w.heap.size w w' := by
  have HS := Aside0.mk hs
  have HI := Aside0.mk (Cur.new w w A0 c0 s (Below.refl _ _) hC)
  have HB := Aside0.mk (below_alloc (Below.refl w.heap.size w) (.cells #[.slice A0 s.length c0,.int .i64 0,.int .u64 0] 59))
  have HA := Aside0.mk (show (0 : Int) ≤ 0 ∧ (0 : Int) ≤ 0 by omega)
  clear hs hC
  go_enter Try.func46,Try.ntmps46
  go_wp2_with fail
  refine (one_calls w.heap.size s 0 6 HS.out (by have := HA.out; omega) (by omega) w _ (by repeat (first | (with_reducible first | exact HI.out | apply Cur.alloc | apply Cur.drewN | apply Cur.set2 | apply Cur.set1) | exact HI.out)) (by repeat (first | (with_reducible first | exact HB.out | apply below_alloc | apply pw_below_drewN | apply below_drew1 | refine below_set ?_ (Cur.ge HI.out)) | exact HB.out))).mono ?_
  rintro e wo ⟨b,ao,rfl,hao,hi,hb⟩
  have HAn := Aside0.mk (show 0 ≤ ao ∧ ao ≤ 10 by have := HA.out; omega)
  clear HI HB HA hao
  have HI := Aside0.mk hi
  have HB := Aside0.mk hb
  have HA := HAn
  clear hi hb HAn
  cases b with
  | true =>
    go_wp2_with fail
    refine (ranked_calls w.heap.size s ao HS.out (by have := HA.out; omega) w _ (by repeat (first | (with_reducible first | exact HI.out | apply Cur.alloc | apply Cur.drewN | apply Cur.set2 | apply Cur.set1) | exact HI.out)) (by repeat (first | (with_reducible first | exact HB.out | apply below_alloc | apply pw_below_drewN | apply below_drew1 | refine below_set ?_ (Cur.ge HI.out)) | exact HB.out))).mono ?_
    rintro e w1 ⟨m,x,y,rfl,hb⟩
    have HBn := Aside0.mk hb
    clear HB HI HA hb
    go_wp2_with fail
    go_ret3
    exact ⟨m,x,y,rfl,HBn.out⟩
  | false =>
    have HK := Aside0.mk (KeepBut.refl wo w.heap.size none)
    go_wp2_with fail
    refine (pick_calls w.heap.size s ao 6 HS.out (by have := HA.out; omega) (by omega) w _ (by repeat (first | (with_reducible first | exact HI.out | apply Cur.alloc | apply Cur.drewN | apply Cur.set2 | apply Cur.set1) | exact HI.out)) (by repeat (first | (with_reducible first | exact HB.out | apply below_alloc | apply pw_below_drewN | apply below_drew1 | refine below_set ?_ (Cur.ge HI.out)) | exact HB.out))).mono ?_
    rintro e w1 ⟨r1,a1,rfl,hr1,ha1,hi,hb,hk⟩
    have HAn := Aside0.mk (show 0 ≤ a1 ∧ a1 ≤ 20 by have := HA.out; omega)
    have p1 : 0 ≤ r1 := hr1.1
    have q1 : r1 < 6 := by omega
    have HKn := Aside0.mk (keep_then HK.out hk)
    clear HI HB HK HA ha1 hr1
    have HI := Aside0.mk hi
    have HB := Aside0.mk hb
    have HK := HKn
    have HA := HAn
    clear hi hb hk HKn HAn
    have hv1 : IntKind.i64.wrap (1 + r1) = 1 + r1 := IntWalk.i64_in _ (by omega)
    go_wp2_with fail
    refine (pick_calls w.heap.size s a1 4 HS.out (by have := HA.out; omega) (by omega) w _ (by repeat (first | (with_reducible first | exact HI.out | apply Cur.alloc | apply Cur.drewN | apply Cur.set2 | apply Cur.set1) | exact HI.out)) (by repeat (first | (with_reducible first | exact HB.out | apply below_alloc | apply pw_below_drewN | apply below_drew1 | refine below_set ?_ (Cur.ge HI.out)) | exact HB.out))).mono ?_
    rintro e w2 ⟨r2,a2,rfl,hr2,ha2,hi,hb,hk⟩
    have HAn := Aside0.mk (show 0 ≤ a2 ∧ a2 ≤ 30 by have := HA.out; omega)
    have p2 : 0 ≤ r2 := hr2.1
    have q2 : r2 < 4 := by omega
    have HKn := Aside0.mk (keep_then HK.out hk)
    clear HI HB HK HA ha2 hr2
    have HI := Aside0.mk hi
    have HB := Aside0.mk hb
    have HK := HKn
    have HA := HAn
    clear hi hb hk HKn HAn
    have hv2 : IntKind.i64.wrap (1 + r2) = 1 + r2 := IntWalk.i64_in _ (by omega)
    go_wp2_with fail
    refine (pick_calls w.heap.size s a2 3 HS.out (by have := HA.out; omega) (by omega) w _ (by repeat (first | (with_reducible first | exact HI.out | apply Cur.alloc | apply Cur.drewN | apply Cur.set2 | apply Cur.set1) | exact HI.out)) (by repeat (first | (with_reducible first | exact HB.out | apply below_alloc | apply pw_below_drewN | apply below_drew1 | refine below_set ?_ (Cur.ge HI.out)) | exact HB.out))).mono ?_
    rintro e w3 ⟨r3,a3,rfl,hr3,ha3,hi,hb,hk⟩
    have HAn := Aside0.mk (show 0 ≤ a3 ∧ a3 ≤ 40 by have := HA.out; omega)
    have p3 : 0 ≤ r3 := hr3.1
    have q3 : r3 < 3 := by omega
    have HKn := Aside0.mk (keep_then HK.out hk)
    clear HI HB HK HA ha3 hr3
    have HI := Aside0.mk hi
    have HB := Aside0.mk hb
    have HK := HKn
    have HA := HAn
    clear hi hb hk HKn HAn
    have hv3 : IntKind.i64.wrap (1 + r3) = 1 + r3 := IntWalk.i64_in _ (by omega)
    go_wp2_with fail
    go_ret3
    exact ⟨_,_,_,rfl,by repeat (first | (with_reducible first | exact HB.out | apply below_alloc | apply pw_below_drewN | apply below_drew1 | refine below_set ?_ (Cur.ge HI.out)) | exact HB.out)⟩
theorem draw_mean (A0 : Option Addr) (c0 : Nat) (s : List Int) (hs : okB s) (w : World) (hC : Kd.C (Kd.int .u8) w A0 s.length s) :
    Calls Try.prog 49 #[.slice A0 s.length c0] w fun e w' => ∃ pp : Int,e = .returned (.int .i64 pp) ∧ Below w.heap.size w w' := by
  have HS := Aside0.mk hs
  have HI := Aside0.mk (Cur.new w w A0 c0 s (Below.refl _ _) hC)
  have HB := Aside0.mk (below_alloc (Below.refl w.heap.size w) (.cells #[.slice A0 s.length c0,.int .i64 0,.int .u64 0] 59))
  have HA := Aside0.mk (show (0 : Int) ≤ 0 ∧ (0 : Int) ≤ 0 by omega)
  clear hs hC
  go_enter Try.func49,Try.ntmps49
  have HK := Aside0.mk (KeepBut.refl (w.alloc (.cells #[.slice A0 s.length c0,.int .i64 0,.int .u64 0] 59)) w.heap.size none)
  go_wp2_with fail
  refine (pick_calls w.heap.size s 0 18 HS.out (by have := HA.out; omega) (by omega) w _ (by repeat (first | (with_reducible first | exact HI.out | apply Cur.alloc | apply Cur.drewN | apply Cur.set2 | apply Cur.set1) | exact HI.out)) (by repeat (first | (with_reducible first | exact HB.out | apply below_alloc | apply pw_below_drewN | apply below_drew1 | refine below_set ?_ (Cur.ge HI.out)) | exact HB.out))).mono ?_
  rintro e w1 ⟨r1,a1,rfl,hr1,ha1,hi,hb,hk⟩
  have HAn := Aside0.mk (show 0 ≤ a1 ∧ a1 ≤ 20 by have := HA.out; omega)
  have p1 : 0 ≤ r1 := hr1.1
  have q1 : r1 < 18 := by omega
  have HKn := Aside0.mk (keep_then HK.out hk)
  clear HI HB HK HA ha1 hr1
  have HI := Aside0.mk hi
  have HB := Aside0.mk hb
  have HK := HKn
  have HA := HAn
  clear hi hb hk HKn HAn
  have hv : IntKind.i64.wrap (r1 - 1) = r1 - 1 := IntWalk.i64_in _ (by omega)
  go_wp2_with fail
  go_ret
  exact ⟨_,rfl,by repeat (first | (with_reducible first | exact HB.out | apply below_alloc | apply pw_below_drewN | apply below_drew1 | refine below_set ?_ (Cur.ge HI.out)) | exact HB.out)⟩
end Go.Proofs.Ytleacijhpkogpad.HDraw
