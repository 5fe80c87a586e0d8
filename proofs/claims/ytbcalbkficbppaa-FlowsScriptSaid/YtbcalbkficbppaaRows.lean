/-
  No cell of these rows narrows 'for every input' (looked for: loops, veiled, ifaces, maps, wideKeys, modest, calm, conditions, laid).
  DERIVED. THE GIVEN ROWS OF THIS SEAT. 7 by the template 'for every input the law returns true; each argument reads behind the call as it read before'; 0 by the template 'total and deterministic' (their statements: YtbcalbkficbppaaTotals.lean).
  GIVEN WITH THE SEED: the statements are not yours to turn. If you find one false, say at which input.
  Laid BY PROGRAM, IN A SANDBOX (cutbox-rows.mjs): the forced cells as the released guide's own fill.sh prints them over the translation 3258d87b505dc09b… (all of the seat's roots in one cut). By AI agents, Wed Nov 11 2026. No macro, syntax, notation, axiom, sorry.
-/
import Derived.Test.YtbcalbkficbppaaChecked
import GoSem.Claim
import GoSem.ClaimJoined
import GoSem.ClaimMapViews
import Derived.JoinedTies
import Derived.KernelRfl
namespace Go.Proofs.Ytbcalbkficbppaa
/- THE CELL 'sum', in the pinned program and in every row, IS THE sha256 OF THE DUMP (.gsa) THAT YtbcalbkficbppaaProg.lean LOADS. Nothing in Lean hashes anything: it is a label: what it is worth is what the hold of that sum in a sandbox is worth. -/
noncomputable def Try.pinned : Pinned := { name := "ytbcalbkficbppaa", sum := "3258d87b505dc09b7419e857fa1c748636f3e22073904025f3651c4428fba487", checked := Try.checked }
namespace Rows
def none {H : Type} : Left H := { results := [], args := [] }

/-- 'pointcodelaw10.FlowsBusy': WHATEVER THE INPUT: true; the input reads as it did. -/
def flowsBusySpec : ChangeSpec := { name := "flowsBusy", fn := fun _ => fun
  | [d1, d2, d3] => { results := [.lit (.bool true)], args := [d1, d2, d3] }
  | _ => none }
def flowsBusyRow : OpenClaim := { program := "ytbcalbkficbppaa", sum := "3258d87b505dc09b7419e857fa1c748636f3e22073904025f3651c4428fba487", func := "pointcode/pointcodelaw10.FlowsBusy", spec := "flowsBusy", apart := false }
def FlowsBusySaid : Prop := flowsBusyRow.holds Try.pinned (OpenSpec.ofChange flowsBusySpec)

/-- ITS FALSE NEIGHBOUR: 'it returns false'. Refute it at one input. -/
def flowsBusyWrong : ChangeSpec := { name := "flowsBusy", fn := fun _ => fun
  | [d1, d2, d3] => { results := [.lit (.bool false)], args := [d1, d2, d3] }
  | _ => none }
def FlowsBusyWrongFalsely : Prop := flowsBusyRow.holds Try.pinned (OpenSpec.ofChange flowsBusyWrong)

/-- 'pointcodelaw10.FlowsPair': WHATEVER THE INPUT: true; the input reads as it did. -/
def flowsPairSpec : ChangeSpec := { name := "flowsPair", fn := fun _ => fun
  | [d1, d2, d3] => { results := [.lit (.bool true)], args := [d1, d2, d3] }
  | _ => none }
def flowsPairRow : OpenClaim := { program := "ytbcalbkficbppaa", sum := "3258d87b505dc09b7419e857fa1c748636f3e22073904025f3651c4428fba487", func := "pointcode/pointcodelaw10.FlowsPair", spec := "flowsPair", apart := false }
def FlowsPairSaid : Prop := flowsPairRow.holds Try.pinned (OpenSpec.ofChange flowsPairSpec)

/-- ITS FALSE NEIGHBOUR: 'it returns false'. Refute it at one input. -/
def flowsPairWrong : ChangeSpec := { name := "flowsPair", fn := fun _ => fun
  | [d1, d2, d3] => { results := [.lit (.bool false)], args := [d1, d2, d3] }
  | _ => none }
def FlowsPairWrongFalsely : Prop := flowsPairRow.holds Try.pinned (OpenSpec.ofChange flowsPairWrong)

/-- 'pointcodelaw10.FlowsLevel': WHATEVER THE INPUT: true; the input reads as it did. -/
def flowsLevelSpec : ChangeSpec := { name := "flowsLevel", fn := fun _ => fun
  | [d1, d2, d3] => { results := [.lit (.bool true)], args := [d1, d2, d3] }
  | _ => none }
def flowsLevelRow : OpenClaim := { program := "ytbcalbkficbppaa", sum := "3258d87b505dc09b7419e857fa1c748636f3e22073904025f3651c4428fba487", func := "pointcode/pointcodelaw10.FlowsLevel", spec := "flowsLevel", apart := false }
def FlowsLevelSaid : Prop := flowsLevelRow.holds Try.pinned (OpenSpec.ofChange flowsLevelSpec)

/-- ITS FALSE NEIGHBOUR: 'it returns false'. Refute it at one input. -/
def flowsLevelWrong : ChangeSpec := { name := "flowsLevel", fn := fun _ => fun
  | [d1, d2, d3] => { results := [.lit (.bool false)], args := [d1, d2, d3] }
  | _ => none }
def FlowsLevelWrongFalsely : Prop := flowsLevelRow.holds Try.pinned (OpenSpec.ofChange flowsLevelWrong)

/-- 'pointcodelaw10.FlowsLevels': WHATEVER THE INPUT: true; the input reads as it did. -/
def flowsLevelsSpec : ChangeSpec := { name := "flowsLevels", fn := fun _ => fun
  | [d1, d2] => { results := [.lit (.bool true)], args := [d1, d2] }
  | _ => none }
def flowsLevelsRow : OpenClaim := { program := "ytbcalbkficbppaa", sum := "3258d87b505dc09b7419e857fa1c748636f3e22073904025f3651c4428fba487", func := "pointcode/pointcodelaw10.FlowsLevels", spec := "flowsLevels", apart := false }
def FlowsLevelsSaid : Prop := flowsLevelsRow.holds Try.pinned (OpenSpec.ofChange flowsLevelsSpec)

/-- ITS FALSE NEIGHBOUR: 'it returns false'. Refute it at one input. -/
def flowsLevelsWrong : ChangeSpec := { name := "flowsLevels", fn := fun _ => fun
  | [d1, d2] => { results := [.lit (.bool false)], args := [d1, d2] }
  | _ => none }
def FlowsLevelsWrongFalsely : Prop := flowsLevelsRow.holds Try.pinned (OpenSpec.ofChange flowsLevelsWrong)

/-- 'pointcodelaw10.FlowsScript': WHATEVER THE INPUT: true; the input reads as it did. -/
def flowsScriptSpec : ChangeSpec := { name := "flowsScript", fn := fun _ => fun
  | [d1, d2] => { results := [.lit (.bool true)], args := [d1, d2] }
  | _ => none }
def flowsScriptRow : OpenClaim := { program := "ytbcalbkficbppaa", sum := "3258d87b505dc09b7419e857fa1c748636f3e22073904025f3651c4428fba487", func := "pointcode/pointcodelaw10.FlowsScript", spec := "flowsScript", apart := false }
def FlowsScriptSaid : Prop := flowsScriptRow.holds Try.pinned (OpenSpec.ofChange flowsScriptSpec)

/-- ITS FALSE NEIGHBOUR: 'it returns false'. Refute it at one input. -/
def flowsScriptWrong : ChangeSpec := { name := "flowsScript", fn := fun _ => fun
  | [d1, d2] => { results := [.lit (.bool false)], args := [d1, d2] }
  | _ => none }
def FlowsScriptWrongFalsely : Prop := flowsScriptRow.holds Try.pinned (OpenSpec.ofChange flowsScriptWrong)

/-- 'pointcodelaw10.FlowsWait': WHATEVER THE INPUT: true; the input reads as it did. -/
def flowsWaitSpec : ChangeSpec := { name := "flowsWait", fn := fun _ => fun
  | [d1, d2] => { results := [.lit (.bool true)], args := [d1, d2] }
  | _ => none }
def flowsWaitRow : OpenClaim := { program := "ytbcalbkficbppaa", sum := "3258d87b505dc09b7419e857fa1c748636f3e22073904025f3651c4428fba487", func := "pointcode/pointcodelaw10.FlowsWait", spec := "flowsWait", apart := false }
def FlowsWaitSaid : Prop := flowsWaitRow.holds Try.pinned (OpenSpec.ofChange flowsWaitSpec)

/-- ITS FALSE NEIGHBOUR: 'it returns false'. Refute it at one input. -/
def flowsWaitWrong : ChangeSpec := { name := "flowsWait", fn := fun _ => fun
  | [d1, d2] => { results := [.lit (.bool false)], args := [d1, d2] }
  | _ => none }
def FlowsWaitWrongFalsely : Prop := flowsWaitRow.holds Try.pinned (OpenSpec.ofChange flowsWaitWrong)

/-- 'pointcodelaw10.FlowsErrors': WHATEVER THE INPUT: true; the input reads as it did. -/
def flowsErrorsSpec : ChangeSpec := { name := "flowsErrors", fn := fun _ => fun
  | [d1, d2] => { results := [.lit (.bool true)], args := [d1, d2] }
  | _ => none }
def flowsErrorsRow : OpenClaim := { program := "ytbcalbkficbppaa", sum := "3258d87b505dc09b7419e857fa1c748636f3e22073904025f3651c4428fba487", func := "pointcode/pointcodelaw10.FlowsErrors", spec := "flowsErrors", apart := false }
def FlowsErrorsSaid : Prop := flowsErrorsRow.holds Try.pinned (OpenSpec.ofChange flowsErrorsSpec)

/-- ITS FALSE NEIGHBOUR: 'it returns false'. Refute it at one input. -/
def flowsErrorsWrong : ChangeSpec := { name := "flowsErrors", fn := fun _ => fun
  | [d1, d2] => { results := [.lit (.bool false)], args := [d1, d2] }
  | _ => none }
def FlowsErrorsWrongFalsely : Prop := flowsErrorsRow.holds Try.pinned (OpenSpec.ofChange flowsErrorsWrong)

/- THE SECOND FORM. 'bulk': how many values and letters a reading holds, each counted each time it is reached (what is shared counts as often as it is met; a slice's spare places count too). A statement '..UptoSaid' is the law's where the arguments, and the package variables that the reading takes, are together of bulk at most 1048576: NARROWER than '..Said'. Prove '..Said' where nothing that the law and all that it calls make is longer than what came in: it says more and counts as full. Else prove '..UptoSaid'. A law counts once. -/
mutual
def uptoBulk {H : Type} : DataW H → Nat
  | .lit (.string bytes) => bytes.length + 1
  | .lit _ => 1
  | .nil => 1
  | .ptr d => uptoBulk d + 1
  | .slice elems spare => uptoBulkAll elems + uptoBulkAll spare + 1
  | .agg parts => uptoBulkAll parts + 1
  | .iface _ d => uptoBulk d + 1
  | .map entries => uptoBulkEntries entries + 1
  | .held _ => 1
def uptoBulkAll {H : Type} : List (DataW H) → Nat
  | [] => 0
  | d :: r => uptoBulk d + uptoBulkAll r
def uptoBulkEntries {H : Type} : List (Lit × DataW H) → Nat
  | [] => 0
  | x :: r => uptoBulkEntry x + uptoBulkEntries r
def uptoBulkEntry {H : Type} : Lit × DataW H → Nat
  | (.string bytes, d) => bytes.length + uptoBulk d + 1
  | (_, d) => uptoBulk d + 1
 end
def uptoSmall : (H : Type) → List (DataW H) → Bool := fun _ ds => decide (uptoBulkAll ds ≤ 1048576)
def OpenSpec.upto (s : _root_.Go.ChangeSpec) : _root_.Go.OpenSpec := { _root_.Go.OpenSpec.ofChange s with cond := some uptoSmall }

/-- 'pointcodelaw10.FlowsBusy', WHERE WHAT IT READS IS OF BULK AT MOST 1048576: true; the input reads as it did. -/
def flowsBusyUptoRow : OpenClaim := { program := "ytbcalbkficbppaa", sum := "3258d87b505dc09b7419e857fa1c748636f3e22073904025f3651c4428fba487", func := "pointcode/pointcodelaw10.FlowsBusy", spec := "flowsBusy", apart := false, narrowed := true }
def FlowsBusyUptoSaid : Prop := flowsBusyUptoRow.holds Try.pinned (OpenSpec.upto flowsBusySpec)

/-- 'pointcodelaw10.FlowsPair', WHERE WHAT IT READS IS OF BULK AT MOST 1048576: true; the input reads as it did. -/
def flowsPairUptoRow : OpenClaim := { program := "ytbcalbkficbppaa", sum := "3258d87b505dc09b7419e857fa1c748636f3e22073904025f3651c4428fba487", func := "pointcode/pointcodelaw10.FlowsPair", spec := "flowsPair", apart := false, narrowed := true }
def FlowsPairUptoSaid : Prop := flowsPairUptoRow.holds Try.pinned (OpenSpec.upto flowsPairSpec)

/-- 'pointcodelaw10.FlowsLevel', WHERE WHAT IT READS IS OF BULK AT MOST 1048576: true; the input reads as it did. -/
def flowsLevelUptoRow : OpenClaim := { program := "ytbcalbkficbppaa", sum := "3258d87b505dc09b7419e857fa1c748636f3e22073904025f3651c4428fba487", func := "pointcode/pointcodelaw10.FlowsLevel", spec := "flowsLevel", apart := false, narrowed := true }
def FlowsLevelUptoSaid : Prop := flowsLevelUptoRow.holds Try.pinned (OpenSpec.upto flowsLevelSpec)

/-- 'pointcodelaw10.FlowsLevels', WHERE WHAT IT READS IS OF BULK AT MOST 1048576: true; the input reads as it did. -/
def flowsLevelsUptoRow : OpenClaim := { program := "ytbcalbkficbppaa", sum := "3258d87b505dc09b7419e857fa1c748636f3e22073904025f3651c4428fba487", func := "pointcode/pointcodelaw10.FlowsLevels", spec := "flowsLevels", apart := false, narrowed := true }
def FlowsLevelsUptoSaid : Prop := flowsLevelsUptoRow.holds Try.pinned (OpenSpec.upto flowsLevelsSpec)

/-- 'pointcodelaw10.FlowsScript', WHERE WHAT IT READS IS OF BULK AT MOST 1048576: true; the input reads as it did. -/
def flowsScriptUptoRow : OpenClaim := { program := "ytbcalbkficbppaa", sum := "3258d87b505dc09b7419e857fa1c748636f3e22073904025f3651c4428fba487", func := "pointcode/pointcodelaw10.FlowsScript", spec := "flowsScript", apart := false, narrowed := true }
def FlowsScriptUptoSaid : Prop := flowsScriptUptoRow.holds Try.pinned (OpenSpec.upto flowsScriptSpec)

/-- 'pointcodelaw10.FlowsWait', WHERE WHAT IT READS IS OF BULK AT MOST 1048576: true; the input reads as it did. -/
def flowsWaitUptoRow : OpenClaim := { program := "ytbcalbkficbppaa", sum := "3258d87b505dc09b7419e857fa1c748636f3e22073904025f3651c4428fba487", func := "pointcode/pointcodelaw10.FlowsWait", spec := "flowsWait", apart := false, narrowed := true }
def FlowsWaitUptoSaid : Prop := flowsWaitUptoRow.holds Try.pinned (OpenSpec.upto flowsWaitSpec)

/-- 'pointcodelaw10.FlowsErrors', WHERE WHAT IT READS IS OF BULK AT MOST 1048576: true; the input reads as it did. -/
def flowsErrorsUptoRow : OpenClaim := { program := "ytbcalbkficbppaa", sum := "3258d87b505dc09b7419e857fa1c748636f3e22073904025f3651c4428fba487", func := "pointcode/pointcodelaw10.FlowsErrors", spec := "flowsErrors", apart := false, narrowed := true }
def FlowsErrorsUptoSaid : Prop := flowsErrorsUptoRow.holds Try.pinned (OpenSpec.upto flowsErrorsSpec)

end Rows
end Go.Proofs.Ytbcalbkficbppaa
