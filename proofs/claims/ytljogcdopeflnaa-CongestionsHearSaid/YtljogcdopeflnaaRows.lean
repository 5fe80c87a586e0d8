/-
  No cell of these rows narrows 'for every input' (looked for: loops, veiled, ifaces, maps, wideKeys, modest, calm, conditions, laid).
  DERIVED. THE GIVEN ROWS OF THIS SEAT. 6 by the template 'for every input the law returns true; each argument reads behind the call as it read before'; 0 by the template 'total and deterministic' (their statements: YtljogcdopeflnaaTotals.lean).
  GIVEN WITH THE SEED: the statements are not yours to turn. If you find one false, say at which input.
  Laid BY PROGRAM, IN A SANDBOX (cutbox-rows.mjs): the forced cells as the released guide's own fill.sh prints them over the translation 27ac02701e749497… (all of the seat's roots in one cut). By AI agents, Wed Nov 11 2026. No macro, syntax, notation, axiom, sorry.
-/
import Derived.Test.YtljogcdopeflnaaChecked
import GoSem.Claim
import GoSem.ClaimJoined
import GoSem.ClaimMapViews
import Derived.JoinedTies
import Derived.KernelRfl
namespace Go.Proofs.Ytljogcdopeflnaa
/- THE CELL 'sum', in the pinned program and in every row, IS THE sha256 OF THE DUMP (.gsa) THAT YtljogcdopeflnaaProg.lean LOADS. Nothing in Lean hashes anything: it is a label: what it is worth is what the hold of that sum in a sandbox is worth. -/
noncomputable def Try.pinned : Pinned := { name := "ytljogcdopeflnaa", sum := "27ac02701e7494975bed3966fd79827298269068307041a6ce58e5d478bf94f1", checked := Try.checked }
namespace Rows
def none {H : Type} : Left H := { results := [], args := [] }

/-- 'pointcodelaw19.CongestionsSet': WHATEVER THE INPUT: true; the input reads as it did. -/
def congestionsSetSpec : ChangeSpec := { name := "congestionsSet", fn := fun _ => fun
  | [d1, d2] => { results := [.lit (.bool true)], args := [d1, d2] }
  | _ => none }
def congestionsSetRow : OpenClaim := { program := "ytljogcdopeflnaa", sum := "27ac02701e7494975bed3966fd79827298269068307041a6ce58e5d478bf94f1", func := "pointcode/pointcodelaw19.CongestionsSet", spec := "congestionsSet", unfollowed := true, recurses := true, apart := false }
def CongestionsSetSaid : Prop := congestionsSetRow.holds Try.pinned (OpenSpec.ofChange congestionsSetSpec)

/-- ITS FALSE NEIGHBOUR: 'it returns false'. Refute it at one input. -/
def congestionsSetWrong : ChangeSpec := { name := "congestionsSet", fn := fun _ => fun
  | [d1, d2] => { results := [.lit (.bool false)], args := [d1, d2] }
  | _ => none }
def CongestionsSetWrongFalsely : Prop := congestionsSetRow.holds Try.pinned (OpenSpec.ofChange congestionsSetWrong)

/-- 'pointcodelaw19.CongestionsCalm': WHATEVER THE INPUT: true; the input reads as it did. -/
def congestionsCalmSpec : ChangeSpec := { name := "congestionsCalm", fn := fun _ => fun
  | [d1, d2] => { results := [.lit (.bool true)], args := [d1, d2] }
  | _ => none }
def congestionsCalmRow : OpenClaim := { program := "ytljogcdopeflnaa", sum := "27ac02701e7494975bed3966fd79827298269068307041a6ce58e5d478bf94f1", func := "pointcode/pointcodelaw19.CongestionsCalm", spec := "congestionsCalm", unfollowed := true, recurses := true, apart := false }
def CongestionsCalmSaid : Prop := congestionsCalmRow.holds Try.pinned (OpenSpec.ofChange congestionsCalmSpec)

/-- ITS FALSE NEIGHBOUR: 'it returns false'. Refute it at one input. -/
def congestionsCalmWrong : ChangeSpec := { name := "congestionsCalm", fn := fun _ => fun
  | [d1, d2] => { results := [.lit (.bool false)], args := [d1, d2] }
  | _ => none }
def CongestionsCalmWrongFalsely : Prop := congestionsCalmRow.holds Try.pinned (OpenSpec.ofChange congestionsCalmWrong)

/-- 'pointcodelaw19.CongestionsSheds': WHATEVER THE INPUT: true; the input reads as it did. -/
def congestionsShedsSpec : ChangeSpec := { name := "congestionsSheds", fn := fun _ => fun
  | [d1, d2] => { results := [.lit (.bool true)], args := [d1, d2] }
  | _ => none }
def congestionsShedsRow : OpenClaim := { program := "ytljogcdopeflnaa", sum := "27ac02701e7494975bed3966fd79827298269068307041a6ce58e5d478bf94f1", func := "pointcode/pointcodelaw19.CongestionsSheds", spec := "congestionsSheds", unfollowed := true, recurses := true, apart := false }
def CongestionsShedsSaid : Prop := congestionsShedsRow.holds Try.pinned (OpenSpec.ofChange congestionsShedsSpec)

/-- ITS FALSE NEIGHBOUR: 'it returns false'. Refute it at one input. -/
def congestionsShedsWrong : ChangeSpec := { name := "congestionsSheds", fn := fun _ => fun
  | [d1, d2] => { results := [.lit (.bool false)], args := [d1, d2] }
  | _ => none }
def CongestionsShedsWrongFalsely : Prop := congestionsShedsRow.holds Try.pinned (OpenSpec.ofChange congestionsShedsWrong)

/-- 'pointcodelaw19.CongestionsHear': WHATEVER THE INPUT: true; the input reads as it did. -/
def congestionsHearSpec : ChangeSpec := { name := "congestionsHear", fn := fun _ => fun
  | [d1, d2] => { results := [.lit (.bool true)], args := [d1, d2] }
  | _ => none }
def congestionsHearRow : OpenClaim := { program := "ytljogcdopeflnaa", sum := "27ac02701e7494975bed3966fd79827298269068307041a6ce58e5d478bf94f1", func := "pointcode/pointcodelaw19.CongestionsHear", spec := "congestionsHear", unfollowed := true, recurses := true, apart := false }
def CongestionsHearSaid : Prop := congestionsHearRow.holds Try.pinned (OpenSpec.ofChange congestionsHearSpec)

/-- ITS FALSE NEIGHBOUR: 'it returns false'. Refute it at one input. -/
def congestionsHearWrong : ChangeSpec := { name := "congestionsHear", fn := fun _ => fun
  | [d1, d2] => { results := [.lit (.bool false)], args := [d1, d2] }
  | _ => none }
def CongestionsHearWrongFalsely : Prop := congestionsHearRow.holds Try.pinned (OpenSpec.ofChange congestionsHearWrong)

/-- 'pointcodelaw19.CongestionsTime': WHATEVER THE INPUT: true; the input reads as it did. -/
def congestionsTimeSpec : ChangeSpec := { name := "congestionsTime", fn := fun _ => fun
  | [d1, d2, d3] => { results := [.lit (.bool true)], args := [d1, d2, d3] }
  | _ => none }
def congestionsTimeRow : OpenClaim := { program := "ytljogcdopeflnaa", sum := "27ac02701e7494975bed3966fd79827298269068307041a6ce58e5d478bf94f1", func := "pointcode/pointcodelaw19.CongestionsTime", spec := "congestionsTime", unfollowed := true, recurses := true, apart := false }
def CongestionsTimeSaid : Prop := congestionsTimeRow.holds Try.pinned (OpenSpec.ofChange congestionsTimeSpec)

/-- ITS FALSE NEIGHBOUR: 'it returns false'. Refute it at one input. -/
def congestionsTimeWrong : ChangeSpec := { name := "congestionsTime", fn := fun _ => fun
  | [d1, d2, d3] => { results := [.lit (.bool false)], args := [d1, d2, d3] }
  | _ => none }
def CongestionsTimeWrongFalsely : Prop := congestionsTimeRow.holds Try.pinned (OpenSpec.ofChange congestionsTimeWrong)

/-- 'pointcodelaw19.CongestionsErrors': WHATEVER THE INPUT: true; the input reads as it did. -/
def congestionsErrorsSpec : ChangeSpec := { name := "congestionsErrors", fn := fun _ => fun
  | [d1, d2, d3] => { results := [.lit (.bool true)], args := [d1, d2, d3] }
  | _ => none }
def congestionsErrorsRow : OpenClaim := { program := "ytljogcdopeflnaa", sum := "27ac02701e7494975bed3966fd79827298269068307041a6ce58e5d478bf94f1", func := "pointcode/pointcodelaw19.CongestionsErrors", spec := "congestionsErrors", unfollowed := true, recurses := true, apart := false }
def CongestionsErrorsSaid : Prop := congestionsErrorsRow.holds Try.pinned (OpenSpec.ofChange congestionsErrorsSpec)

/-- ITS FALSE NEIGHBOUR: 'it returns false'. Refute it at one input. -/
def congestionsErrorsWrong : ChangeSpec := { name := "congestionsErrors", fn := fun _ => fun
  | [d1, d2, d3] => { results := [.lit (.bool false)], args := [d1, d2, d3] }
  | _ => none }
def CongestionsErrorsWrongFalsely : Prop := congestionsErrorsRow.holds Try.pinned (OpenSpec.ofChange congestionsErrorsWrong)

/- THE SECOND FORM. 'bulk': how many values and letters a reading holds, each counted each time it is reached (what is shared counts as often as it is met; a slice's spare places count too). A statement '..UptoSaid' is the law's where the arguments, and the package variables that the reading takes, are together of bulk at most 1048576: NARROWER than '..Said'. Prove '..Said' where nothing that the law and all that it calls make is longer than what came in: it says more and counts as full. Else prove '..UptoSaid'. A law counts once. -/
mutual
def uptoBulk {H : Type} : DataW H → Nat
  | .lit (.string bytes) => bytes.length + 1
  | .lit _ => 1
  | .nil => 1
  | .ptr d => uptoBulk d + 1
  | .slice elems spare => uptoBulkAll elems + uptoBulkAll spare + 1
  | .agg parts => uptoBulkAll parts + 1
  | .iface _ d => uptoBulk d + 1
  | .map entries => uptoBulkEntries entries + 1
  | .held _ => 1
def uptoBulkAll {H : Type} : List (DataW H) → Nat
  | [] => 0
  | d :: r => uptoBulk d + uptoBulkAll r
def uptoBulkEntries {H : Type} : List (Lit × DataW H) → Nat
  | [] => 0
  | x :: r => uptoBulkEntry x + uptoBulkEntries r
def uptoBulkEntry {H : Type} : Lit × DataW H → Nat
  | (.string bytes, d) => bytes.length + uptoBulk d + 1
  | (_, d) => uptoBulk d + 1
 end
def uptoSmall : (H : Type) → List (DataW H) → Bool := fun _ ds => decide (uptoBulkAll ds ≤ 1048576)
def OpenSpec.upto (s : _root_.Go.ChangeSpec) : _root_.Go.OpenSpec := { _root_.Go.OpenSpec.ofChange s with cond := some uptoSmall }

/-- 'pointcodelaw19.CongestionsSet', WHERE WHAT IT READS IS OF BULK AT MOST 1048576: true; the input reads as it did. -/
def congestionsSetUptoRow : OpenClaim := { program := "ytljogcdopeflnaa", sum := "27ac02701e7494975bed3966fd79827298269068307041a6ce58e5d478bf94f1", func := "pointcode/pointcodelaw19.CongestionsSet", spec := "congestionsSet", unfollowed := true, recurses := true, apart := false, narrowed := true }
def CongestionsSetUptoSaid : Prop := congestionsSetUptoRow.holds Try.pinned (OpenSpec.upto congestionsSetSpec)

/-- 'pointcodelaw19.CongestionsCalm', WHERE WHAT IT READS IS OF BULK AT MOST 1048576: true; the input reads as it did. -/
def congestionsCalmUptoRow : OpenClaim := { program := "ytljogcdopeflnaa", sum := "27ac02701e7494975bed3966fd79827298269068307041a6ce58e5d478bf94f1", func := "pointcode/pointcodelaw19.CongestionsCalm", spec := "congestionsCalm", unfollowed := true, recurses := true, apart := false, narrowed := true }
def CongestionsCalmUptoSaid : Prop := congestionsCalmUptoRow.holds Try.pinned (OpenSpec.upto congestionsCalmSpec)

/-- 'pointcodelaw19.CongestionsSheds', WHERE WHAT IT READS IS OF BULK AT MOST 1048576: true; the input reads as it did. -/
def congestionsShedsUptoRow : OpenClaim := { program := "ytljogcdopeflnaa", sum := "27ac02701e7494975bed3966fd79827298269068307041a6ce58e5d478bf94f1", func := "pointcode/pointcodelaw19.CongestionsSheds", spec := "congestionsSheds", unfollowed := true, recurses := true, apart := false, narrowed := true }
def CongestionsShedsUptoSaid : Prop := congestionsShedsUptoRow.holds Try.pinned (OpenSpec.upto congestionsShedsSpec)

/-- 'pointcodelaw19.CongestionsHear', WHERE WHAT IT READS IS OF BULK AT MOST 1048576: true; the input reads as it did. -/
def congestionsHearUptoRow : OpenClaim := { program := "ytljogcdopeflnaa", sum := "27ac02701e7494975bed3966fd79827298269068307041a6ce58e5d478bf94f1", func := "pointcode/pointcodelaw19.CongestionsHear", spec := "congestionsHear", unfollowed := true, recurses := true, apart := false, narrowed := true }
def CongestionsHearUptoSaid : Prop := congestionsHearUptoRow.holds Try.pinned (OpenSpec.upto congestionsHearSpec)

/-- 'pointcodelaw19.CongestionsTime', WHERE WHAT IT READS IS OF BULK AT MOST 1048576: true; the input reads as it did. -/
def congestionsTimeUptoRow : OpenClaim := { program := "ytljogcdopeflnaa", sum := "27ac02701e7494975bed3966fd79827298269068307041a6ce58e5d478bf94f1", func := "pointcode/pointcodelaw19.CongestionsTime", spec := "congestionsTime", unfollowed := true, recurses := true, apart := false, narrowed := true }
def CongestionsTimeUptoSaid : Prop := congestionsTimeUptoRow.holds Try.pinned (OpenSpec.upto congestionsTimeSpec)

/-- 'pointcodelaw19.CongestionsErrors', WHERE WHAT IT READS IS OF BULK AT MOST 1048576: true; the input reads as it did. -/
def congestionsErrorsUptoRow : OpenClaim := { program := "ytljogcdopeflnaa", sum := "27ac02701e7494975bed3966fd79827298269068307041a6ce58e5d478bf94f1", func := "pointcode/pointcodelaw19.CongestionsErrors", spec := "congestionsErrors", unfollowed := true, recurses := true, apart := false, narrowed := true }
def CongestionsErrorsUptoSaid : Prop := congestionsErrorsUptoRow.holds Try.pinned (OpenSpec.upto congestionsErrorsSpec)

end Rows
end Go.Proofs.Ytljogcdopeflnaa
