/- The row by its number, as the program makes it: the walk of impl.rowOf. -/
import Derived.Test.YtleacijhpkogpabDoorRPlain
import Derived.Test.YtleacijhpkogpabDoorPFnRowsBeforeOfAllx0
namespace Go.Proofs.YtleacijhpkogpabDoor.RImpl
open Go.RowKit Go.Proofs.YtleacijhpkogpabDoorW.PrintWords Go.Proofs.YtleacijhpkogpabDoorW.PrintLast Go.Proofs.YtleacijhpkogpabDoorW.PrintMore Go.Proofs.YtleacijhpkogpabDoor.RPlain
set_option linter.unusedVariables false
set_option linter.unusedSimpArgs false

theorem info_byte : (Tryd.prog.info? 5).map (fun i => (i.zero, i.size, i.bytes)) = some (some (.int .u8 0), 1, 1) := by kernel_rfl
theorem strOf_ints (l : List Nat) : strOfNums (intsN l) = txt l := by
  unfold strOfNums intsN txt
  rw [List.map_map]
  congr 2
theorem and_one (v : Int) (h0 : 0 ≤ v) (h1 : v ≤ 9223372036854775807) : Go.bits .and .i64 v 1 = v % 2 := by
  obtain ⟨n, rfl⟩ := Int.eq_ofNat_of_zero_le h0
  have hb : (BitVec.ofInt 64 (n : Int) &&& BitVec.ofInt 64 1).toNat = n % 2 := by
    rw [BitVec.toNat_and, BitVec.toNat_ofInt, BitVec.toNat_ofInt]
    have e1 : ((n : Int) % ((2 ^ 64 : Nat) : Int)).toNat = n := by omega
    have e2 : ((1 : Int) % ((2 ^ 64 : Nat) : Int)).toNat = 1 := by decide
    rw [e1, e2, Nat.and_one_is_mod]
  show IntKind.i64.wrap ((BitVec.ofInt 64 (n : Int) &&& BitVec.ofInt 64 1).toNat : Int) = (n : Int) % 2
  rw [hb, i64_w]
  unfold wrap64
  omega
theorem bit_one (v m : Nat) (hv : v ≤ 9223372036854775807) : Go.bits .and .i64 ((v : Int) / 2 ^ m) 1 = ((v / 2 ^ m % 2 : Nat) : Int) := by
  have e : (v : Int) / 2 ^ m = ((v / 2 ^ m : Nat) : Int) := by push_cast; rfl
  have hle : v / 2 ^ m ≤ v := Nat.div_le_self _ _
  rw [e]
  generalize v / 2 ^ m = q at *
  rw [and_one _ (by omega) (by omega)]; omega
set_option maxHeartbeats 4000000 in
set_option maxRecDepth 100000 in
theorem rowOf_calls (n v : Nat) (hn : 1 ≤ n ∧ n ≤ 60) (hv : v ≤ 4611686018427387904) (w : World) :
    Calls Tryd.prog 69 #[.int .i64 (n : Int), .int .i64 (v : Int)] w fun e w' => e = .returned (.string (bs (mkL n v))) ∧ Below w.heap.size w w' := by
  have HB := Aside0.mk (Below.refl w.heap.size w)
  obtain ⟨hn1, hn⟩ := hn
  go_enter Tryd.func69, Tryd.ntmps69
  go_wp2_with ((with_reducible refine gate_dst (N := 8) rfl ?_); refine Kd.R_make (Kd.int .u8) (w0 := w) w.heap.size 5 rfl (N := 8) rfl 50 _ _ rfl (n : Int) rfl rfl Tryd.underlying50 (.int .u8 0) 1 info_byte rfl (by decide) (by omega) 0 (ok := fun _ => True) (okp := fun _ => True) rfl (fun _ hk => hk) trivial (by omega) (by omega) (by repeat (first | (with_reducible first | exact HB.out | apply below_alloc | apply pw_below_drewN | apply below_drew1) | exact HB.out)) (below_size (by repeat (first | (with_reducible first | exact HB.out | apply below_alloc | apply pw_below_drewN | apply below_drew1) | exact HB.out))) ?_; intro v1 w5 ho hb hg hnew; rw [Int.toNat_natCast, ← rowX_zero n v] at ho; obtain ⟨g, c, e, gb, gl, HG⟩ := Kd.R_form ho (by rw [rowX_len _ _ _ (by omega)]; omega); rw [rowX_len _ _ _ (by omega)] at e; subst e; have HO := Aside0.mk ho; have HBn := Aside0.mk hb; have GB := Aside0.mk gb; clear ho hb hg hnew HB gb gl HG; have HB := HBn; clear HBn)
  go_loopg [11] n (fun kq v11 w' => ∃ j : Nat, v11 = .int .i64 (j : Int) ∧ Aside0 (kq + j = n) ∧ Aside0 (Kd.R (Kd.int .u8) 5 w' w.heap.size (fun _ => True) (.slice (some ⟨g, 0, none⟩) n c) (rowX n v j)) ∧ Aside0 (Below w.heap.size w w'))
  case atStart => exact ⟨0, rfl, ⟨rfl⟩, HO, ⟨(by repeat (first | (with_reducible first | exact HB.out | apply below_alloc | apply pw_below_drewN | apply below_drew1) | exact HB.out))⟩⟩
  case round =>
    clear HO HB
    obtain ⟨j, rfl, HK, HO, HB⟩ := hrel
    by_cases hj : j < n
    · obtain ⟨hx, hf⟩ := Kd.R_celln 0 HO.out (j : Int) (by omega) (by omega)
      replace hx : wr.cell? ⟨g, j, none⟩ = some (.int .u8 (rd (rowX n v j) (j : Int))) := hx
      replace hf : wr.frozen? ⟨g, j, none⟩ = false := hf
      generalize rd (rowX n v j) (j : Int) = q at hx
      have HX := Aside0.mk (rowX_step n v j hj)
      have HP1 := Aside0.mk (Kd.R_putg HO.out (j : Int) 60)
      have hb1 := bit_one v (n - 1 - j) (by omega)
      by_cases hb : v / 2 ^ (n - 1 - j) % 2 = 1
      · have hbb : (Go.bits .and .i64 ((v : Int) / 2 ^ (n - 1 - j)) 1 == 1) = true := beq_iff_eq.mpr (by rw [hb1, hb]; rfl)
        have HP2 := Aside0.mk (Kd.R_putg HP1.out.1 (j : Int) 62)
        have HS : Aside0 (sgn (v / 2 ^ (n - 1 - j)) = 62) := ⟨by unfold sgn; rw [if_pos hb]⟩
        clear hb1 hb
        go_wp2
        go_roundg (n - (j + 1))
        case measure => have := HK.out; omega
        case rel => exact ⟨j + 1, rfl, ⟨by have := HK.out; omega⟩, ⟨by have h1 := HP2.out.1; rw [Int.toNat_natCast, List.set_set] at h1; have h2 := HX.out; rw [HS.out] at h2; rw [← h2]; exact h1⟩, ⟨below_set (below_set HB.out GB.out) GB.out⟩⟩
      · have hbb : (Go.bits .and .i64 ((v : Int) / 2 ^ (n - 1 - j)) 1 == 1) = false := beq_eq_false_iff_ne.mpr (by rw [hb1]; omega)
        have HS : Aside0 (sgn (v / 2 ^ (n - 1 - j)) = 60) := ⟨by unfold sgn; rw [if_neg hb]⟩
        clear hb1 hb
        go_wp2
        go_roundg (n - (j + 1))
        case measure => have := HK.out; omega
        case rel => exact ⟨j + 1, rfl, ⟨by have := HK.out; omega⟩, ⟨by have h1 := HP1.out.1; rw [Int.toNat_natCast] at h1; have h2 := HX.out; rw [HS.out] at h2; rw [← h2]; exact h1⟩, ⟨below_set HB.out GB.out⟩⟩
    · have hjj : j = n := by have := HK.out; omega
      have hcv := own_string (P := Tryd.prog) Tryd.underlying50 Tryd.underlying5 Tryd.underlying9 (Kd.own_of_R HO.out)
      have HR : Aside0 (strOfNums (rowX n v j) = bs (mkL n v)) := ⟨by rw [hjj, rowX_full, strOf_ints]; rfl⟩
      rw [HR.out] at hcv
      go_wp2
      go_ret
      exact ⟨rfl, (by repeat (first | (with_reducible first | exact HB.out | apply below_alloc | apply pw_below_drewN | apply below_drew1) | exact HB.out))⟩
end Go.Proofs.YtleacijhpkogpabDoor.RImpl
