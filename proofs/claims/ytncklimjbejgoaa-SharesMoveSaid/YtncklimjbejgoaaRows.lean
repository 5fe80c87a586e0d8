/-
  No cell of these rows narrows 'for every input' (looked for: loops, veiled, ifaces, maps, wideKeys, modest, calm, conditions, laid).
  DERIVED. THE GIVEN ROWS OF THIS SEAT. 5 by the template 'for every input the law returns true; each argument reads behind the call as it read before'; 0 by the template 'total and deterministic' (their statements: YtncklimjbejgoaaTotals.lean).
  GIVEN WITH THE SEED: the statements are not yours to turn. If you find one false, say at which input.
  Laid BY PROGRAM, IN A SANDBOX (cutbox-rows.mjs): the forced cells as the released guide's own fill.sh prints them over the translation 000fe8978362fff1… (all of the seat's roots in one cut). By AI agents, Wed Nov 11 2026. No macro, syntax, notation, axiom, sorry.
-/
import Derived.Test.YtncklimjbejgoaaChecked
import GoSem.Claim
import GoSem.ClaimJoined
import GoSem.ClaimMapViews
import Derived.JoinedTies
import Derived.KernelRfl
namespace Go.Proofs.Ytncklimjbejgoaa
/- THE CELL 'sum', in the pinned program and in every row, IS THE sha256 OF THE DUMP (.gsa) THAT YtncklimjbejgoaaProg.lean LOADS. Nothing in Lean hashes anything: it is a label: what it is worth is what the hold of that sum in a sandbox is worth. -/
noncomputable def Try.pinned : Pinned := { name := "ytncklimjbejgoaa", sum := "000fe8978362fff1683ca62425378e4644a23ce8ad560c60e5acf6f6570b9c48", checked := Try.checked }
namespace Rows
def none {H : Type} : Left H := { results := [], args := [] }

/-- 'pointcodelaw14.SharesNext': WHATEVER THE INPUT: true; the input reads as it did. -/
def sharesNextSpec : ChangeSpec := { name := "sharesNext", fn := fun _ => fun
  | [d1, d2, d3] => { results := [.lit (.bool true)], args := [d1, d2, d3] }
  | _ => none }
def sharesNextRow : OpenClaim := { program := "ytncklimjbejgoaa", sum := "000fe8978362fff1683ca62425378e4644a23ce8ad560c60e5acf6f6570b9c48", func := "pointcode/pointcodelaw14.SharesNext", spec := "sharesNext", unfollowed := true, recurses := true, apart := false }
def SharesNextSaid : Prop := sharesNextRow.holds Try.pinned (OpenSpec.ofChange sharesNextSpec)

/-- ITS FALSE NEIGHBOUR: 'it returns false'. Refute it at one input. -/
def sharesNextWrong : ChangeSpec := { name := "sharesNext", fn := fun _ => fun
  | [d1, d2, d3] => { results := [.lit (.bool false)], args := [d1, d2, d3] }
  | _ => none }
def SharesNextWrongFalsely : Prop := sharesNextRow.holds Try.pinned (OpenSpec.ofChange sharesNextWrong)

/-- 'pointcodelaw14.SharesLink': WHATEVER THE INPUT: true; the input reads as it did. -/
def sharesLinkSpec : ChangeSpec := { name := "sharesLink", fn := fun _ => fun
  | [d1, d2, d3] => { results := [.lit (.bool true)], args := [d1, d2, d3] }
  | _ => none }
def sharesLinkRow : OpenClaim := { program := "ytncklimjbejgoaa", sum := "000fe8978362fff1683ca62425378e4644a23ce8ad560c60e5acf6f6570b9c48", func := "pointcode/pointcodelaw14.SharesLink", spec := "sharesLink", unfollowed := true, recurses := true, apart := false }
def SharesLinkSaid : Prop := sharesLinkRow.holds Try.pinned (OpenSpec.ofChange sharesLinkSpec)

/-- ITS FALSE NEIGHBOUR: 'it returns false'. Refute it at one input. -/
def sharesLinkWrong : ChangeSpec := { name := "sharesLink", fn := fun _ => fun
  | [d1, d2, d3] => { results := [.lit (.bool false)], args := [d1, d2, d3] }
  | _ => none }
def SharesLinkWrongFalsely : Prop := sharesLinkRow.holds Try.pinned (OpenSpec.ofChange sharesLinkWrong)

/-- 'pointcodelaw14.SharesTables': WHATEVER THE INPUT: true; the input reads as it did. -/
def sharesTablesSpec : ChangeSpec := { name := "sharesTables", fn := fun _ => fun
  | [d1, d2, d3] => { results := [.lit (.bool true)], args := [d1, d2, d3] }
  | _ => none }
def sharesTablesRow : OpenClaim := { program := "ytncklimjbejgoaa", sum := "000fe8978362fff1683ca62425378e4644a23ce8ad560c60e5acf6f6570b9c48", func := "pointcode/pointcodelaw14.SharesTables", spec := "sharesTables", unfollowed := true, recurses := true, apart := false }
def SharesTablesSaid : Prop := sharesTablesRow.holds Try.pinned (OpenSpec.ofChange sharesTablesSpec)

/-- ITS FALSE NEIGHBOUR: 'it returns false'. Refute it at one input. -/
def sharesTablesWrong : ChangeSpec := { name := "sharesTables", fn := fun _ => fun
  | [d1, d2, d3] => { results := [.lit (.bool false)], args := [d1, d2, d3] }
  | _ => none }
def SharesTablesWrongFalsely : Prop := sharesTablesRow.holds Try.pinned (OpenSpec.ofChange sharesTablesWrong)

/-- 'pointcodelaw14.SharesMove': WHATEVER THE INPUT: true; the input reads as it did. -/
def sharesMoveSpec : ChangeSpec := { name := "sharesMove", fn := fun _ => fun
  | [d1, d2, d3] => { results := [.lit (.bool true)], args := [d1, d2, d3] }
  | _ => none }
def sharesMoveRow : OpenClaim := { program := "ytncklimjbejgoaa", sum := "000fe8978362fff1683ca62425378e4644a23ce8ad560c60e5acf6f6570b9c48", func := "pointcode/pointcodelaw14.SharesMove", spec := "sharesMove", unfollowed := true, recurses := true, apart := false }
def SharesMoveSaid : Prop := sharesMoveRow.holds Try.pinned (OpenSpec.ofChange sharesMoveSpec)

/-- ITS FALSE NEIGHBOUR: 'it returns false'. Refute it at one input. -/
def sharesMoveWrong : ChangeSpec := { name := "sharesMove", fn := fun _ => fun
  | [d1, d2, d3] => { results := [.lit (.bool false)], args := [d1, d2, d3] }
  | _ => none }
def SharesMoveWrongFalsely : Prop := sharesMoveRow.holds Try.pinned (OpenSpec.ofChange sharesMoveWrong)

/-- 'pointcodelaw14.SharesEven': WHATEVER THE INPUT: true; the input reads as it did. -/
def sharesEvenSpec : ChangeSpec := { name := "sharesEven", fn := fun _ => fun
  | [d] => { results := [.lit (.bool true)], args := [d] }
  | _ => none }
def sharesEvenRow : OpenClaim := { program := "ytncklimjbejgoaa", sum := "000fe8978362fff1683ca62425378e4644a23ce8ad560c60e5acf6f6570b9c48", func := "pointcode/pointcodelaw14.SharesEven", spec := "sharesEven", unfollowed := true, recurses := true, apart := false }
def SharesEvenSaid : Prop := sharesEvenRow.holds Try.pinned (OpenSpec.ofChange sharesEvenSpec)

/-- ITS FALSE NEIGHBOUR: 'it returns false'. Refute it at one input. -/
def sharesEvenWrong : ChangeSpec := { name := "sharesEven", fn := fun _ => fun
  | [d] => { results := [.lit (.bool false)], args := [d] }
  | _ => none }
def SharesEvenWrongFalsely : Prop := sharesEvenRow.holds Try.pinned (OpenSpec.ofChange sharesEvenWrong)

/- THE SECOND FORM. 'bulk': how many values and letters a reading holds, each counted each time it is reached (what is shared counts as often as it is met; a slice's spare places count too). A statement '..UptoSaid' is the law's where the arguments, and the package variables that the reading takes, are together of bulk at most 1048576: NARROWER than '..Said'. Prove '..Said' where nothing that the law and all that it calls make is longer than what came in: it says more and counts as full. Else prove '..UptoSaid'. A law counts once. -/
mutual
def uptoBulk {H : Type} : DataW H → Nat
  | .lit (.string bytes) => bytes.length + 1
  | .lit _ => 1
  | .nil => 1
  | .ptr d => uptoBulk d + 1
  | .slice elems spare => uptoBulkAll elems + uptoBulkAll spare + 1
  | .agg parts => uptoBulkAll parts + 1
  | .iface _ d => uptoBulk d + 1
  | .map entries => uptoBulkEntries entries + 1
  | .held _ => 1
def uptoBulkAll {H : Type} : List (DataW H) → Nat
  | [] => 0
  | d :: r => uptoBulk d + uptoBulkAll r
def uptoBulkEntries {H : Type} : List (Lit × DataW H) → Nat
  | [] => 0
  | x :: r => uptoBulkEntry x + uptoBulkEntries r
def uptoBulkEntry {H : Type} : Lit × DataW H → Nat
  | (.string bytes, d) => bytes.length + uptoBulk d + 1
  | (_, d) => uptoBulk d + 1
 end
def uptoSmall : (H : Type) → List (DataW H) → Bool := fun _ ds => decide (uptoBulkAll ds ≤ 1048576)
def OpenSpec.upto (s : _root_.Go.ChangeSpec) : _root_.Go.OpenSpec := { _root_.Go.OpenSpec.ofChange s with cond := some uptoSmall }

/-- 'pointcodelaw14.SharesNext', WHERE WHAT IT READS IS OF BULK AT MOST 1048576: true; the input reads as it did. -/
def sharesNextUptoRow : OpenClaim := { program := "ytncklimjbejgoaa", sum := "000fe8978362fff1683ca62425378e4644a23ce8ad560c60e5acf6f6570b9c48", func := "pointcode/pointcodelaw14.SharesNext", spec := "sharesNext", unfollowed := true, recurses := true, apart := false, narrowed := true }
def SharesNextUptoSaid : Prop := sharesNextUptoRow.holds Try.pinned (OpenSpec.upto sharesNextSpec)

/-- 'pointcodelaw14.SharesLink', WHERE WHAT IT READS IS OF BULK AT MOST 1048576: true; the input reads as it did. -/
def sharesLinkUptoRow : OpenClaim := { program := "ytncklimjbejgoaa", sum := "000fe8978362fff1683ca62425378e4644a23ce8ad560c60e5acf6f6570b9c48", func := "pointcode/pointcodelaw14.SharesLink", spec := "sharesLink", unfollowed := true, recurses := true, apart := false, narrowed := true }
def SharesLinkUptoSaid : Prop := sharesLinkUptoRow.holds Try.pinned (OpenSpec.upto sharesLinkSpec)

/-- 'pointcodelaw14.SharesTables', WHERE WHAT IT READS IS OF BULK AT MOST 1048576: true; the input reads as it did. -/
def sharesTablesUptoRow : OpenClaim := { program := "ytncklimjbejgoaa", sum := "000fe8978362fff1683ca62425378e4644a23ce8ad560c60e5acf6f6570b9c48", func := "pointcode/pointcodelaw14.SharesTables", spec := "sharesTables", unfollowed := true, recurses := true, apart := false, narrowed := true }
def SharesTablesUptoSaid : Prop := sharesTablesUptoRow.holds Try.pinned (OpenSpec.upto sharesTablesSpec)

/-- 'pointcodelaw14.SharesMove', WHERE WHAT IT READS IS OF BULK AT MOST 1048576: true; the input reads as it did. -/
def sharesMoveUptoRow : OpenClaim := { program := "ytncklimjbejgoaa", sum := "000fe8978362fff1683ca62425378e4644a23ce8ad560c60e5acf6f6570b9c48", func := "pointcode/pointcodelaw14.SharesMove", spec := "sharesMove", unfollowed := true, recurses := true, apart := false, narrowed := true }
def SharesMoveUptoSaid : Prop := sharesMoveUptoRow.holds Try.pinned (OpenSpec.upto sharesMoveSpec)

/-- 'pointcodelaw14.SharesEven', WHERE WHAT IT READS IS OF BULK AT MOST 1048576: true; the input reads as it did. -/
def sharesEvenUptoRow : OpenClaim := { program := "ytncklimjbejgoaa", sum := "000fe8978362fff1683ca62425378e4644a23ce8ad560c60e5acf6f6570b9c48", func := "pointcode/pointcodelaw14.SharesEven", spec := "sharesEven", unfollowed := true, recurses := true, apart := false, narrowed := true }
def SharesEvenUptoSaid : Prop := sharesEvenUptoRow.holds Try.pinned (OpenSpec.upto sharesEvenSpec)

end Rows
end Go.Proofs.Ytncklimjbejgoaa
