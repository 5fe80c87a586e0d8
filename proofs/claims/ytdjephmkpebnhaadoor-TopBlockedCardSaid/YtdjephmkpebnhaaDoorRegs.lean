/- A region out of a function's code; a post that asks for the normal end alone. -/
import Derived.Test.YtdjephmkpebnhaaDoorProg
import Derived.WalkKit
namespace Go.Proofs.YtdjephmkpebnhaaDoor
open Go.RowKit

def regionOf (n : Nat) : Code → Option Code
  | .region k ops d => if k = n then some (.region k ops d) else none
  | .seq a b => match regionOf n a with
    | some c => some c
    | none => regionOf n b
  | .block _ c => regionOf n c
  | .scope c => regionOf n c
  | .loop c => regionOf n c
  | .cond _ a b => match regionOf n a with
    | some c => some c
    | none => regionOf n b
  | _ => none

/-- The normal end alone. -/
def Qn (K : Act → World → Prop) : Exit → Act → World → Prop
  | .normal, a, w => K a w
  | _, _, _ => False

theorem Qn.to {P : Program} {c : Code} {Q : Exit → Act → World → Prop} {a : Act} {w : World} (h : Code.wp P c (Qn (Q .normal)) a w) : Code.wp P c Q a w :=
  Code.wp_mono (fun e a w h => by cases e <;> first | exact h | exact h.elim) h
end Go.Proofs.YtdjephmkpebnhaaDoor
