/- A tick, as the reference makes it: the walk of spec.rwTick, over the printed contract of spec.rwPairs. -/
import Derived.Test.YtleacijhpkogpabDoorPFnRowsRestOfAllx18
import Derived.Test.YtleacijhpkogpabDoorRPlain
import Derived.Test.YtleacijhpkogpabDoorPFnRowsRestOfAllx0
namespace Go.Proofs.YtleacijhpkogpabDoor.RSpec
open Go.RowKit Go.Proofs.YtleacijhpkogpabDoorW.PrintWords Go.Proofs.YtleacijhpkogpabDoorW.PrintLast Go.Proofs.YtleacijhpkogpabDoorW.PrintMore Go.Proofs.YtleacijhpkogpabDoor.PFnRowsRestOfAll Go.Proofs.YtleacijhpkogpabDoor.RPlain
set_option linter.unusedVariables false
set_option linter.unusedSimpArgs false

/-! plain words -/
theorem w1 (i : Nat) (h : i ≤ 4611686018427387904) : wrap64 ((i : Int) + 1) = ((i + 1 : Nat) : Int) := by unfold wrap64; omega
theorem rd_nat (l : List Int) (i : Nat) (h : i < l.length) : rd l (i : Int) = l[i] := by
  simp [rd, List.getD_eq_getElem?_getD, List.getElem?_eq_getElem h]
theorem drop_cons (l : List Int) (i : Nat) (h : i < l.length) : l.drop i = rd l (i : Int) :: l.drop (i + 1) := by
  rw [List.drop_eq_getElem_cons h, rd_nat l i h]
theorem bt_at' (s : ByteArray) (i : Nat) (h : i < s.data.toList.length) : bt s (i : Int) = ((s.data.toList[i]).toNat : Int) := by
  have h2 : i < s.size := by rw [sz]; exact h
  unfold bt
  rw [dif_pos (show ((i : Nat) : Int).toNat < s.size by simpa using h2)]
  rfl
theorem bt_eq (s : ByteArray) (i : Nat) (h : i < s.data.toList.length) (c : UInt8) : (bt s (i : Int) = (c.toNat : Int)) ↔ s.data.toList[i] = c := by
  rw [bt_at' s i h]
  constructor
  · intro e
    exact UInt8.toNat_inj.1 (by omega)
  · intro e
    rw [e]
theorem bt_60 (s : ByteArray) (i : Nat) (h : i < s.data.toList.length) : (bt s (i : Int) = 60) ↔ s.data.toList[i] = 60 := bt_eq s i h 60
theorem bt_62 (s : ByteArray) (i : Nat) (h : i < s.data.toList.length) : (bt s (i : Int) = 62) ↔ s.data.toList[i] = 62 := bt_eq s i h 62
theorem pairs_loop (s : ByteArray) (hs : s.size ≤ 1048576) : ∀ (d i : Nat) (acc : List Int), i + d = s.size → acc.length ≤ i →
    Ev (fun k => spec_rwPairs.l0 k s acc (i : Int)) (acc ++ prs i (s.data.toList.drop i)) := by
  have hz := sz s
  intro d
  induction d with
  | zero =>
    intro i acc hi ha
    refine Ev.step (f := fun _ => some acc) (fun k => ?_) ?_
    · simp only [spec_rwPairs.l0]
      rw [w1 i (by omega), if_neg (by omega)]
    · rw [prs_end _ _ (by omega), List.append_nil]
      exact Ev.now _
  | succ d ih =>
    intro i acc hi ha
    by_cases hl : i + 1 < s.size
    · have h1 : i < s.data.toList.length := by omega
      have h2 : i + 1 < s.data.toList.length := by omega
      rw [prs_drop _ i h2]
      by_cases c1 : s.data.toList[i] = 62
      · by_cases c2 : s.data.toList[i + 1] = 60
        · have hr := ih (i + 1) (acc ++ [(i : Int)]) (by omega) (by simp; omega)
          rw [if_pos ⟨c1, c2⟩]
          rw [List.append_assoc] at hr
          refine Ev.step (f := fun k => spec_rwPairs.l0 k s (acc ++ [(i : Int)]) ((i + 1 : Nat) : Int)) (fun k => ?_) hr
          simp only [spec_rwPairs.l0]
          rw [w1 i (by omega), if_pos (by omega), if_pos (by omega), if_pos (by omega), if_pos ((bt_62 s i h1).2 c1), if_pos (by omega), if_pos ((bt_60 s (i + 1) h2).2 c2), if_pos (by omega)]
        · rw [if_neg (fun h => c2 h.2)]
          refine Ev.step (f := fun k => spec_rwPairs.l0 k s acc ((i + 1 : Nat) : Int)) (fun k => ?_) (ih (i + 1) acc (by omega) (by omega))
          simp only [spec_rwPairs.l0]
          rw [w1 i (by omega), if_pos (by omega), if_pos (by omega), if_pos (by omega), if_pos ((bt_62 s i h1).2 c1), if_pos (by omega), if_neg (fun e => c2 ((bt_60 s (i + 1) h2).1 e))]
      · rw [if_neg (fun h => c1 h.1)]
        refine Ev.step (f := fun k => spec_rwPairs.l0 k s acc ((i + 1 : Nat) : Int)) (fun k => ?_) (ih (i + 1) acc (by omega) (by omega))
        simp only [spec_rwPairs.l0]
        rw [w1 i (by omega), if_pos (by omega), if_pos (by omega), if_pos (by omega), if_neg (fun e => c1 ((bt_62 s i h1).1 e))]
    · refine Ev.step (f := fun _ => some acc) (fun k => ?_) ?_
      · simp only [spec_rwPairs.l0]
        rw [w1 i (by omega), if_neg (by omega)]
      · rw [prs_end _ _ (by omega), List.append_nil]
        exact Ev.now _
theorem pairs_ev (s : ByteArray) (hs : s.size ≤ 1048576) : Ev (fun k => spec_rwPairs.f k s) (prs 0 s.data.toList) := by
  have := pairs_loop s hs s.size 0 [] (by omega) (by simp)
  simpa [spec_rwPairs.f] using this
/-- Who face each other, by a contract on lists. -/
theorem pairs_calls (s : ByteArray) (hs : s.size ≤ 1048576) (w : World) :
    Calls Tryd.prog 62 #[.string s] w fun e w' => ∃ v : Value, e = .returned v ∧ Kd.R (Kd.int .i64) 3 w' w.heap.size (fun _ => True) v (prs 0 s.data.toList) ∧ Below w.heap.size w w' := by
  obtain ⟨k, hk⟩ := (pairs_ev s hs).rounds
  exact spec_rwPairs.calls k s _ w hk
/-- The row behind the first ticks of a list of places. -/
def curL (l : List UInt8) (ps : List Int) (j : Nat) : List UInt8 := (ps.take j).foldl (fun l x => putL x.toNat l) l
theorem curL_succ (l : List UInt8) (ps : List Int) (j : Nat) (h : j < ps.length) : curL l ps (j + 1) = putL (ps[j]).toNat (curL l ps j) := by
  unfold curL
  rw [List.take_succ_eq_append_getElem h, List.foldl_append]; rfl
theorem curL_len (l : List UInt8) (ps : List Int) (hx : ∀ x ∈ ps, 0 ≤ x ∧ x + 2 ≤ (l.length : Int)) : ∀ j, j ≤ ps.length → (curL l ps j).length = l.length
  | 0, _ => by simp [curL]
  | j + 1, h => by
    have hlt : j < ps.length := by omega
    have hm := hx ps[j] (List.getElem_mem hlt)
    have ih := curL_len l ps hx j (by omega)
    rw [curL_succ l ps j hlt, putL_len _ _ (by omega), ih]
set_option maxHeartbeats 4000000 in
set_option maxRecDepth 100000 in
theorem tick_calls (s : ByteArray) (hs : s.size ≤ 1048576) (w : World) :
    Calls Tryd.prog 63 #[.string s] w fun e w' => e = .returned (.string (bs (tkB s.data.toList))) ∧ Below w.heap.size w w' := by
  have HP := Aside0.mk (fun W => pairs_calls s hs W)
  have HX := Aside0.mk (prs_mem 0 s.data.toList)
  have HE : Aside0 (curL s.data.toList (prs 0 s.data.toList) (prs 0 s.data.toList).length = tkB s.data.toList) := ⟨by
    unfold curL; rw [List.take_length]
    have := fold_prs s.data.toList []
    simpa using this⟩
  have HL : Aside0 (s.data.toList.length ≤ 1048576) := ⟨by rw [← sz]; exact hs⟩
  have HS : Aside0 (bs s.data.toList = s) := ⟨rfl⟩
  have hl0 := prs_len 0 s.data.toList
  generalize s.data.toList = l at *
  generalize tkB l = res at *
  generalize hps : prs 0 l = ps at *
  clear hps
  have HPL : Aside0 (ps.length ≤ 1048576) := ⟨by have := HL.out; omega⟩
  clear hl0 hs
  have HB := Aside0.mk (Below.refl w.heap.size w)
  go_enter Tryd.func63, Tryd.ntmps63
  go_wp2_with (go_at_call 62; refine (HP.out _).mono ?_; rintro e w3 ⟨v, rfl, ho, hb⟩; obtain ⟨A, c, rfl, hlc, hC⟩ := Kd.R_reads ho; have HC := Aside0.mk hC; have HB3 := Aside0.mk hb; clear ho hC hb HB; have HB := HB3; clear HB3)
  go_loopg [0, 8] ps.length (fun kq v0 v8 w' => ∃ j : Nat, v0 = .string (bs (curL l ps j)) ∧ v8 = .int .i64 (j : Int) ∧ Aside0 (kq + j = ps.length) ∧ Aside0 ((Kd.int .i64).C w' A ps.length ps) ∧ Aside0 (Below w.heap.size w w'))
  case atStart => exact ⟨0, by rw [show curL l ps 0 = l from rfl, HS.out], rfl, ⟨rfl⟩, HC, ⟨(by repeat (first | (with_reducible first | exact HB.out | apply below_alloc | apply pw_below_drewN | apply below_drew1) | exact HB.out))⟩⟩
  case round =>
    clear HC HB
    obtain ⟨j, rfl, rfl, HK, HC, HB⟩ := hrel
    by_cases hj : j < ps.length
    · have hm := HX.out ps[j] (List.getElem_mem hj)
      have hcl := curL_len l ps (fun x h => by have := HX.out x h; omega) j (by omega)
      obtain ⟨n, hn⟩ := Int.eq_ofNat_of_zero_le (show 0 ≤ ps[j] by omega)
      have hle : n + 2 ≤ (curL l ps j).length := by omega
      have HS := Aside0.mk (curL_succ l ps j hj)
      obtain ⟨ad, e, hc⟩ := Kd.at_int HC.out (j : Int) (by omega) (by omega)
      cases e
      rw [rd_nat ps j hj, hn, Int.toNat_natCast] at hc
      have HPB := Aside0.mk (put_bytes (curL l ps j) n hle)
      rw [hn] at HS
      have hlL := HL.out
      have hsz : (bs (curL l ps j)).size = l.length := hcl
      clear hm hn hcl
      have hle' : n + 2 ≤ (bs (curL l ps j)).size := hle
      clear hle
      have h0 : (n : Int) ≤ ((bs (curL l ps j)).size : Int) := by omega
      have h1 : ((n : Int) + 2) ≤ ((bs (curL l ps j)).size : Int) := by omega
      have h3 : (bs (curL l ps j)).size ≤ 1048576 := by omega
      have hj3 : j ≤ 1048576 := by have := HPL.out; omega
      clear hlL hsz
      generalize hy : bs (curL l ps j) = y at *
      clear hy
      have hw : IntKind.i64.wrap ((n : Int) + 2) = (n : Int) + 2 := IntWalk.i64_in _ (by omega)
      have hsz1 : (y.extract 0 n).size = n := by rw [ByteArray.size_extract]; omega
      go_wp2
      go_quiet (fail)
      go_wp2
      go_roundg (ps.length - (j + 1))
      case measure => have := HK.out; omega
      case rel => refine ⟨j + 1, ?_, ?_, ⟨by have := HK.out; omega⟩, ⟨?_⟩, ⟨(by repeat (first | (with_reducible first | exact HB.out | apply below_alloc | apply pw_below_drewN | apply below_drew1) | exact HB.out))⟩⟩
                  · rw [HS.out]; exact congrArg Value.string HPB.out
                  · rfl
                  · exact Kd.C_below HC.out (pw_below_drewN (Below.refl _ _) _)
    · have hje : (j : Int) = (ps.length : Int) := by have := HK.out; omega
      go_wp2
      go_ret
      have hjj : j = ps.length := by omega
      exact ⟨by rw [hjj, HE.out]; rfl, (by repeat (first | (with_reducible first | exact HB.out | apply below_alloc | apply pw_below_drewN | apply below_drew1) | exact HB.out))⟩
end Go.Proofs.YtleacijhpkogpabDoor.RSpec
/- How a row comes to rest, as the reference tells it: the walk of spec.rwRest. -/
namespace Go.Proofs.YtleacijhpkogpabDoor.RSpec
open Go.RowKit Go.Proofs.YtleacijhpkogpabDoorW.PrintWords Go.Proofs.YtleacijhpkogpabDoorW.PrintLast Go.Proofs.YtleacijhpkogpabDoorW.PrintMore Go.Proofs.YtleacijhpkogpabDoor.RPlain
set_option linter.unusedVariables false
set_option linter.unusedSimpArgs false
set_option maxHeartbeats 4000000 in
set_option maxRecDepth 100000 in
theorem rest_calls (l : List UInt8) (hl : l.length ≤ 1000) (w : World) :
    Calls Tryd.prog 78 #[.string (bs l)] w fun e w' => e = .returned (.tuple #[.string (bs (histL l).1), .int .i64 ((histL l).2.length : Int)]) ∧ Below w.heap.size w w' := by
  have HB := Aside0.mk (Below.refl w.heap.size w)
  have HL := Aside0.mk hl
  have HN := Aside0.mk (hist_bound l hl)
  clear hl
  go_enter Tryd.func78, Tryd.ntmps78
  go_wp2
  go_loopg [0, 4] (invB l) (fun kq v0 v4 w' => ∃ (l1 : List UInt8) (n : Nat), v0 = .string (bs l1) ∧ v4 = .int .i64 (n : Int) ∧ Aside0 (invB l1 = kq) ∧ Aside0 (l1.length ≤ 1000) ∧ Aside0 ((histL l1).1 = (histL l).1) ∧ Aside0 (n + (histL l1).2.length = (histL l).2.length) ∧ Aside0 (Below w.heap.size w w'))
  case atStart => exact ⟨l, 0, rfl, rfl, ⟨rfl⟩, HL, ⟨rfl⟩, ⟨Nat.zero_add _⟩, ⟨(by repeat (first | (with_reducible first | exact HB.out | apply below_alloc | apply pw_below_drewN | apply below_drew1) | exact HB.out))⟩⟩
  case round =>
    clear HB HL
    obtain ⟨l1, n, rfl, rfl, HK, HL, H1, H2, HB⟩ := hrel
    have HP := Aside0.mk (fun W => pairs_calls (bs l1) (by have := HL.out; rw [bs_size]; omega) W)
    have HT := Aside0.mk (fun W => tick_calls (bs l1) (by have := HL.out; rw [bs_size]; omega) W)
    cases c : hasB l1 with
    | true =>
      have hps := prs_pos 0 l1 c
      have HI := Aside0.mk ((inv_tk l1).2 c)
      have HS := Aside0.mk (histL_step c)
      have HTL := Aside0.mk (tkB_len l1)
      have hn : n ≤ 1000000 := by have := H2.out; have := HN.out; omega
      clear c
      change Aside0 (∀ W : World, Calls Tryd.prog 62 #[.string (bs l1)] W fun e w' => ∃ v : Value, e = .returned v ∧ Kd.R (Kd.int .i64) 3 w' W.heap.size (fun _ => True) v (prs 0 l1) ∧ Below W.heap.size W w') at HP
      change Aside0 (∀ W : World, Calls Tryd.prog 63 #[.string (bs l1)] W fun e w' => e = .returned (.string (bs (tkB l1))) ∧ Below W.heap.size W w') at HT
      generalize prs 0 l1 = ps at HP hps
      generalize hb1 : bs l1 = b1 at HP HT ⊢
      have HB1 := Aside0.mk hb1
      clear hb1
      go_wp2_with (first
        | (go_at_call 62; refine (HP.out _).mono ?_; rintro e w3 ⟨v, rfl, ho, hb⟩; obtain ⟨A, cc, rfl, hlc, hC⟩ := Kd.R_reads ho; have HBn := Aside0.mk (below_step (by repeat (first | (with_reducible first | exact HB.out | apply below_alloc | apply pw_below_drewN | apply below_drew1) | exact HB.out)) hb); clear ho hb hC HB; have HB := HBn; clear HBn)
        | (go_at_call 63; refine (HT.out _).mono ?_; rintro e w4 ⟨rfl, hb⟩; have HBn := Aside0.mk (below_step (by repeat (first | (with_reducible first | exact HB.out | apply below_alloc | apply pw_below_drewN | apply below_drew1) | exact HB.out)) hb); clear hb HB; have HB := HBn; clear HBn))
      go_roundg (invB (tkB l1))
      case measure => have := HI.out; have := HK.out; omega
      case rel => exact ⟨tkB l1, n + 1, rfl, rfl, ⟨rfl⟩, ⟨by rw [HTL.out]; exact HL.out⟩, ⟨by have := H1.out; rw [HS.out] at this; exact this⟩, ⟨by have := H2.out; rw [HS.out, List.length_cons] at this; show n + 1 + (histL (tkB l1)).2.length = _; omega⟩, ⟨(by repeat (first | (with_reducible first | exact HB.out | apply below_alloc | apply pw_below_drewN | apply below_drew1) | exact HB.out))⟩⟩
    | false =>
      have hps := prs_none 0 l1 c
      have HS := Aside0.mk (histL_rest c)
      clear c HT
      change Aside0 (∀ W : World, Calls Tryd.prog 62 #[.string (bs l1)] W fun e w' => ∃ v : Value, e = .returned v ∧ Kd.R (Kd.int .i64) 3 w' W.heap.size (fun _ => True) v (prs 0 l1) ∧ Below W.heap.size W w') at HP
      rw [hps] at HP
      clear hps
      generalize hb1 : bs l1 = b1 at HP ⊢
      have HB1 := Aside0.mk hb1
      clear hb1
      go_wp2_with (go_at_call 62; refine (HP.out _).mono ?_; rintro e w3 ⟨v, rfl, ho, hb⟩; obtain ⟨A, cc, rfl, hlc, hC⟩ := Kd.R_reads ho; have HBn := Aside0.mk (below_step (by repeat (first | (with_reducible first | exact HB.out | apply below_alloc | apply pw_below_drewN | apply below_drew1) | exact HB.out)) hb); clear ho hb hC HB; have HB := HBn; clear HBn)
      go_ret2
      have h1 := H1.out
      have h2 := H2.out
      rw [HS.out] at h1 h2
      refine ⟨?_, (by repeat (first | (with_reducible first | exact HB.out | apply below_alloc | apply pw_below_drewN | apply below_drew1) | exact HB.out))⟩
      rw [← h1, ← h2, ← HB1.out]
      rfl
end Go.Proofs.YtleacijhpkogpabDoor.RSpec
/- The row by its number, as the program makes it: the walk of impl.rowOf. -/
namespace Go.Proofs.YtleacijhpkogpabDoor.RImpl
open Go.RowKit Go.Proofs.YtleacijhpkogpabDoorW.PrintWords Go.Proofs.YtleacijhpkogpabDoorW.PrintLast Go.Proofs.YtleacijhpkogpabDoorW.PrintMore Go.Proofs.YtleacijhpkogpabDoor.RPlain
set_option linter.unusedVariables false
set_option linter.unusedSimpArgs false

theorem info_byte : (Tryd.prog.info? 5).map (fun i => (i.zero, i.size, i.bytes)) = some (some (.int .u8 0), 1, 1) := by kernel_rfl
theorem strOf_ints (l : List Nat) : strOfNums (intsN l) = txt l := by
  unfold strOfNums intsN txt
  rw [List.map_map]
  congr 2
theorem and_one (v : Int) (h0 : 0 ≤ v) (h1 : v ≤ 9223372036854775807) : Go.bits .and .i64 v 1 = v % 2 := by
  obtain ⟨n, rfl⟩ := Int.eq_ofNat_of_zero_le h0
  have hb : (BitVec.ofInt 64 (n : Int) &&& BitVec.ofInt 64 1).toNat = n % 2 := by
    rw [BitVec.toNat_and, BitVec.toNat_ofInt, BitVec.toNat_ofInt]
    have e1 : ((n : Int) % ((2 ^ 64 : Nat) : Int)).toNat = n := by omega
    have e2 : ((1 : Int) % ((2 ^ 64 : Nat) : Int)).toNat = 1 := by decide
    rw [e1, e2, Nat.and_one_is_mod]
  show IntKind.i64.wrap ((BitVec.ofInt 64 (n : Int) &&& BitVec.ofInt 64 1).toNat : Int) = (n : Int) % 2
  rw [hb, i64_w]
  unfold wrap64
  omega
theorem bit_one (v m : Nat) (hv : v ≤ 9223372036854775807) : Go.bits .and .i64 ((v : Int) / 2 ^ m) 1 = ((v / 2 ^ m % 2 : Nat) : Int) := by
  have e : (v : Int) / 2 ^ m = ((v / 2 ^ m : Nat) : Int) := by push_cast; rfl
  have hle : v / 2 ^ m ≤ v := Nat.div_le_self _ _
  rw [e]
  generalize v / 2 ^ m = q at *
  rw [and_one _ (by omega) (by omega)]; omega
set_option maxHeartbeats 4000000 in
set_option maxRecDepth 100000 in
theorem rowOf_calls (n v : Nat) (hn : 1 ≤ n ∧ n ≤ 60) (hv : v ≤ 4611686018427387904) (w : World) :
    Calls Tryd.prog 69 #[.int .i64 (n : Int), .int .i64 (v : Int)] w fun e w' => e = .returned (.string (bs (mkL n v))) ∧ Below w.heap.size w w' := by
  have HB := Aside0.mk (Below.refl w.heap.size w)
  obtain ⟨hn1, hn⟩ := hn
  go_enter Tryd.func69, Tryd.ntmps69
  go_wp2_with ((with_reducible refine gate_dst (N := 8) rfl ?_); refine Kd.R_make (Kd.int .u8) (w0 := w) w.heap.size 5 rfl (N := 8) rfl 50 _ _ rfl (n : Int) rfl rfl Tryd.underlying50 (.int .u8 0) 1 info_byte rfl (by decide) (by omega) 0 (ok := fun _ => True) (okp := fun _ => True) rfl (fun _ hk => hk) trivial (by omega) (by omega) (by repeat (first | (with_reducible first | exact HB.out | apply below_alloc | apply pw_below_drewN | apply below_drew1) | exact HB.out)) (below_size (by repeat (first | (with_reducible first | exact HB.out | apply below_alloc | apply pw_below_drewN | apply below_drew1) | exact HB.out))) ?_; intro v1 w5 ho hb hg hnew; rw [Int.toNat_natCast, ← rowX_zero n v] at ho; obtain ⟨g, c, e, gb, gl, HG⟩ := Kd.R_form ho (by rw [rowX_len _ _ _ (by omega)]; omega); rw [rowX_len _ _ _ (by omega)] at e; subst e; have HO := Aside0.mk ho; have HBn := Aside0.mk hb; have GB := Aside0.mk gb; clear ho hb hg hnew HB gb gl HG; have HB := HBn; clear HBn)
  go_loopg [11] n (fun kq v11 w' => ∃ j : Nat, v11 = .int .i64 (j : Int) ∧ Aside0 (kq + j = n) ∧ Aside0 (Kd.R (Kd.int .u8) 5 w' w.heap.size (fun _ => True) (.slice (some ⟨g, 0, none⟩) n c) (rowX n v j)) ∧ Aside0 (Below w.heap.size w w'))
  case atStart => exact ⟨0, rfl, ⟨rfl⟩, HO, ⟨(by repeat (first | (with_reducible first | exact HB.out | apply below_alloc | apply pw_below_drewN | apply below_drew1) | exact HB.out))⟩⟩
  case round =>
    clear HO HB
    obtain ⟨j, rfl, HK, HO, HB⟩ := hrel
    by_cases hj : j < n
    · obtain ⟨hx, hf⟩ := Kd.R_celln 0 HO.out (j : Int) (by omega) (by omega)
      replace hx : wr.cell? ⟨g, j, none⟩ = some (.int .u8 (rd (rowX n v j) (j : Int))) := hx
      replace hf : wr.frozen? ⟨g, j, none⟩ = false := hf
      generalize rd (rowX n v j) (j : Int) = q at hx
      have HX := Aside0.mk (rowX_step n v j hj)
      have HP1 := Aside0.mk (Kd.R_putg HO.out (j : Int) 60)
      have hb1 := bit_one v (n - 1 - j) (by omega)
      by_cases hb : v / 2 ^ (n - 1 - j) % 2 = 1
      · have hbb : (Go.bits .and .i64 ((v : Int) / 2 ^ (n - 1 - j)) 1 == 1) = true := beq_iff_eq.mpr (by rw [hb1, hb]; rfl)
        have HP2 := Aside0.mk (Kd.R_putg HP1.out.1 (j : Int) 62)
        have HS : Aside0 (sgn (v / 2 ^ (n - 1 - j)) = 62) := ⟨by unfold sgn; rw [if_pos hb]⟩
        clear hb1 hb
        go_wp2
        go_roundg (n - (j + 1))
        case measure => have := HK.out; omega
        case rel => exact ⟨j + 1, rfl, ⟨by have := HK.out; omega⟩, ⟨by have h1 := HP2.out.1; rw [Int.toNat_natCast, List.set_set] at h1; have h2 := HX.out; rw [HS.out] at h2; rw [← h2]; exact h1⟩, ⟨below_set (below_set HB.out GB.out) GB.out⟩⟩
      · have hbb : (Go.bits .and .i64 ((v : Int) / 2 ^ (n - 1 - j)) 1 == 1) = false := beq_eq_false_iff_ne.mpr (by rw [hb1]; omega)
        have HS : Aside0 (sgn (v / 2 ^ (n - 1 - j)) = 60) := ⟨by unfold sgn; rw [if_neg hb]⟩
        clear hb1 hb
        go_wp2
        go_roundg (n - (j + 1))
        case measure => have := HK.out; omega
        case rel => exact ⟨j + 1, rfl, ⟨by have := HK.out; omega⟩, ⟨by have h1 := HP1.out.1; rw [Int.toNat_natCast] at h1; have h2 := HX.out; rw [HS.out] at h2; rw [← h2]; exact h1⟩, ⟨below_set HB.out GB.out⟩⟩
    · have hjj : j = n := by have := HK.out; omega
      have hcv := own_string (P := Tryd.prog) Tryd.underlying50 Tryd.underlying5 Tryd.underlying9 (Kd.own_of_R HO.out)
      have HR : Aside0 (strOfNums (rowX n v j) = bs (mkL n v)) := ⟨by rw [hjj, rowX_full, strOf_ints]; rfl⟩
      rw [HR.out] at hcv
      go_wp2
      go_ret
      exact ⟨rfl, (by repeat (first | (with_reducible first | exact HB.out | apply below_alloc | apply pw_below_drewN | apply below_drew1) | exact HB.out))⟩
end Go.Proofs.YtleacijhpkogpabDoor.RImpl
