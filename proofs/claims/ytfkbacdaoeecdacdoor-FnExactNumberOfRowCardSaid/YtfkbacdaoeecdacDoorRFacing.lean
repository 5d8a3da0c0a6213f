/- Who face each other, as the program tells it: a contract over the printed walk of impl.facing. -/
import Derived.Test.YtfkbacdaoeecdacDoorPFnExactFacingPairsx11
import Derived.Test.YtfkbacdaoeecdacDoorRGood
namespace Go.Proofs.YtfkbacdaoeecdacDoor.RImpl
open Go.RowKit Go.Proofs.YtfkbacdaoeecdacDoorW.PrintWords Go.Proofs.YtfkbacdaoeecdacDoorW.PrintLast Go.Proofs.YtfkbacdaoeecdacDoorW.PrintMore Go.Proofs.YtfkbacdaoeecdacDoor.PFnExactFacingPairs Go.Proofs.YtfkbacdaoeecdacDoor.RPlain Go.Proofs.YtfkbacdaoeecdacDoor.RGood
set_option linter.unusedVariables false
set_option linter.unusedSimpArgs false

/-! the program's own list of who face each other -/
theorem facing_loop (s : ByteArray) (hs : s.size ≤ 1048576) (h0 : 1 ≤ s.size) : ∀ (d i : Nat) (acc : List Int), i + d + 1 = s.size → acc.length ≤ i →
    Ev (fun k => impl_facing.l0 k s acc ((s.size - 1 : Nat) : Int) (i : Int)) (acc ++ prs i (s.data.toList.drop i)) := by
  have hz := sz s
  intro d
  induction d with
  | zero =>
    intro i acc hi ha
    refine Ev.step (f := fun _ => some acc) (fun k => ?_) ?_
    · simp only [impl_facing.l0]
      rw [if_neg (by omega)]
    · rw [prs_end _ _ (by omega), List.append_nil]
      exact Ev.now _
  | succ d ih =>
    intro i acc hi ha
    have h1 : i < s.data.toList.length := by omega
    have h2 : i + 1 < s.data.toList.length := by omega
    rw [prs_drop _ i h2]
    by_cases c1 : s.data.toList[i] = 62
    · by_cases c2 : s.data.toList[i + 1] = 60
      · have hr := ih (i + 1) (acc ++ [(i : Int)]) (by omega) (by simp; omega)
        rw [if_pos ⟨c1, c2⟩]
        rw [List.append_assoc] at hr
        refine Ev.step (f := fun k => impl_facing.l0 k s (acc ++ [(i : Int)]) ((s.size - 1 : Nat) : Int) ((i + 1 : Nat) : Int)) (fun k => ?_) hr
        simp only [impl_facing.l0]
        rw [w1 i (by omega), if_pos (by omega), if_pos (by omega), if_pos (by omega), if_pos ((bt_62 s i h1).2 c1), if_pos (by omega), if_pos (by omega), if_pos ((bt_60 s (i + 1) h2).2 c2), if_pos (by omega)]
      · rw [if_neg (fun h => c2 h.2)]
        refine Ev.step (f := fun k => impl_facing.l0 k s acc ((s.size - 1 : Nat) : Int) ((i + 1 : Nat) : Int)) (fun k => ?_) (ih (i + 1) acc (by omega) (by omega))
        simp only [impl_facing.l0]
        rw [w1 i (by omega), if_pos (by omega), if_pos (by omega), if_pos (by omega), if_pos ((bt_62 s i h1).2 c1), if_pos (by omega), if_pos (by omega), if_neg (fun e => c2 ((bt_60 s (i + 1) h2).1 e))]
    · rw [if_neg (fun h => c1 h.1)]
      refine Ev.step (f := fun k => impl_facing.l0 k s acc ((s.size - 1 : Nat) : Int) ((i + 1 : Nat) : Int)) (fun k => ?_) (ih (i + 1) acc (by omega) (by omega))
      simp only [impl_facing.l0]
      rw [w1 i (by omega), if_pos (by omega), if_pos (by omega), if_pos (by omega), if_neg (fun e => c1 ((bt_62 s i h1).1 e))]
theorem facing_ev (s : ByteArray) (hs : s.size ≤ 1048576) (h0 : 1 ≤ s.size) : Ev (fun k => impl_facing.f k s) (prs 0 s.data.toList) := by
  have := facing_loop s hs h0 (s.size - 1) 0 [] (by omega) (by simp)
  refine Ev.congr (fun k => ?_) this
  unfold impl_facing.f
  congr 1
  unfold wrap64
  omega
theorem facing_calls (l : List UInt8) (hl : 1 ≤ l.length ∧ l.length ≤ 1048576) (w : World) :
    Calls Tryd.prog 27 #[.string (bs l)] w fun e w' => ∃ v : Value, e = .returned v ∧ Kd.R (Kd.int .i64) 3 w' w.heap.size (fun _ => True) v (prs 0 l) ∧ Below w.heap.size w w' := by
  have hz : (bs l).size = l.length := rfl
  obtain ⟨k, hk⟩ := (facing_ev (bs l) (by omega) (by omega)).rounds
  exact impl_facing.calls k (bs l) _ w hk
end Go.Proofs.YtfkbacdaoeecdacDoor.RImpl
