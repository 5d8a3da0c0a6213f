/- Parts of a function's code, taken out of the translation by their places: for great functions that are walked in several theorems. -/
import Derived.WalkKit
namespace Go.Proofs.YtleacijhpkogpabDoor.Part
open Go

/-- The 'if' whose test lies in a slot. -/
def condAt (s : Nat) : Code → Option Code
  | .cond c a b => (match c with | .tmp k => if k = s then some (.cond c a b) else (condAt s a).or (condAt s b) | _ => (condAt s a).or (condAt s b))
  | .seq a b => (condAt s a).or (condAt s b)
  | .block _ c => condAt s c
  | .loop c => condAt s c
  | .scope c => condAt s c
  | _ => none
/-- From a region on, to the end of its sequence. -/
def seqAt (n : Nat) : Code → Option Code
  | .seq a b => (match a with | .region k ops d => if k = n then some (.seq (.region k ops d) b) else (seqAt n a).or (seqAt n b) | _ => (seqAt n a).or (seqAt n b))
  | .cond _ a b => (seqAt n a).or (seqAt n b)
  | .block _ c => seqAt n c
  | .loop c => seqAt n c
  | .scope c => seqAt n c
  | _ => none
/-- A region alone. -/
def regAt (n : Nat) : Code → Option Code
  | .region k ops d => if k = n then some (.region k ops d) else none
  | .seq a b => (regAt n a).or (regAt n b)
  | .cond _ a b => (regAt n a).or (regAt n b)
  | .block _ c => regAt n c
  | .loop c => regAt n c
  | .scope c => regAt n c
  | _ => none
noncomputable def condOf (f : Func) (s : Nat) : Code := (f.body.bind (condAt s)).getD .skip
noncomputable def seqOf (f : Func) (n : Nat) : Code := (f.body.bind (seqAt n)).getD .skip
noncomputable def regOf (f : Func) (n : Nat) : Code := (f.body.bind (regAt n)).getD .skip
end Go.Proofs.YtleacijhpkogpabDoor.Part
