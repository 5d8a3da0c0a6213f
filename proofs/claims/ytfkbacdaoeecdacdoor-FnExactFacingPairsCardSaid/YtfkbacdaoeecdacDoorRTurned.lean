/- The row in which each looks to the other side, as the program makes it: the walk of impl.turned over strings.Map's contract. -/
import Derived.Test.YtfkbacdaoeecdacDoorMl
import Derived.Test.YtfkbacdaoeecdacDoorRPlain2
import Derived.Test.YtfkbacdaoeecdacDoorPFnExactTickRowx0
import Derived.WalkSpells
import Derived.Shelf.Abstract
namespace Go.Proofs.YtfkbacdaoeecdacDoor.RImpl
open Go.RowKit Go.Proofs.YtfkbacdaoeecdacDoorW.PrintWords Go.Proofs.YtfkbacdaoeecdacDoorW.PrintLast Go.Proofs.YtfkbacdaoeecdacDoorW.PrintMore Go.Shelf Go.Proofs.YtfkbacdaoeecdacDoor.RPlain
set_option linter.unusedVariables false
set_option linter.unusedSimpArgs false

set_option maxHeartbeats 1600000 in
theorem turned_1_calls (x : Nat) (hx : x ≤ 1114111) (w : World) :
    Calls Tryd.prog 38 #[.int .i32 (x : Int)] w fun e w' => e = .returned (.int .i32 (122 - (x : Int))) ∧ Below w.heap.size w w' := by
  have hw : Aside0 (wrap32 (122 - (x : Int)) = 122 - (x : Int)) := ⟨by
    unfold wrap32; omega⟩
  generalize hv : (122 - (x : Int)) = v at hw ⊢
  generalize (x : Int) = y at hv
  clear hx
  go_enter Tryd.func38, Tryd.ntmps38
  go_wp2
  go_ret
  refine ⟨?_, by repeat (first | exact Below.refl _ _ | apply pw_below_drewN | apply below_drew)⟩
  first | rfl | (simp only [hv, hw.out]; done) | (simp [hv]; exact hw.out) | exact hw.out
set_option maxHeartbeats 1600000 in
set_option maxRecDepth 100000 in
theorem turned_calls (l : List UInt8) (hl : l.length < 1000000) (ha : l.all (fun b => b == 60 || b == 62) = true) (w : World) (hML : ML w) :
    Calls Tryd.prog 30 #[.string (bs l)] w fun e w' => e = .returned (.string (bs (l.map otherB))) ∧ Below w.heap.size w w' := by
  obtain ⟨_, hT⟩ := hML
  have hz : (bs l).size = l.length := rfl
  have hC := Aside0.mk (show Calls Tryd.prog 37 #[.func (.func 38) #[] #[], .string (bs l)] w (fun e w' => e = .returned (.string ⟨(Lib.mapD (fun x => 122 - x) l).toArray⟩) ∧ Below w.heap.size w w') from
    Any.strings_Map_grows Tryd.lays230 Tryd.Builder_Extra_230 38 #[] (enters_ (P := Tryd.prog) Tryd.func38 (by kernel_rfl) rfl) (fun x => 122 - x) (bs l) w (by omega)
      (fun W x hx _ => turned_1_calls x hx W) (fun x hx => by omega) hT)
  have hv : Aside0 ((⟨(Lib.mapD (fun x => 122 - x) l).toArray⟩ : ByteArray) = bs (l.map otherB)) := ⟨by rw [mapD_other l ha]; rfl⟩
  rw [hv.out] at hC
  clear hv hT hl ha hz
  generalize bs (l.map otherB) = r at hC ⊢
  generalize bs l = x at hC ⊢
  go_enter Tryd.func30, Tryd.ntmps30
  go_wp2_with (go_at_call 37; refine hC.out.mono ?_; rintro e w' ⟨rfl, hB⟩)
  go_ret
  exact ⟨rfl, hB⟩
end Go.Proofs.YtfkbacdaoeecdacDoor.RImpl
