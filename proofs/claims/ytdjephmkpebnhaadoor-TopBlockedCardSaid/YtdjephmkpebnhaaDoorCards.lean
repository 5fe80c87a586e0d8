/-
  DERIVED. GIVEN WITH THE SEED: THE CARDS: each row of YtdjephmkpebnhaaDoorRows.lean that lists a variable, with what it lists TIED to the program's text (the seventh form; the later family's looks); each row that meets fmt, with fmt's text TOLD by the authors' own Lean function (tested against real Go, not proved from fmt's source: count such statements apart). THE CARD IS WHAT COUNTS. Prove the row's statement (the work); the ties are given (YtdjephmkpebnhaaDoorTie.lean); close each card by the builder's one call (the guide's Derived/Test/ToyasCard.lean, 'card_holds'). Laid BY PROGRAM, IN A SANDBOX (cutbox-door.mjs). By AI agents, Wed Nov 11 2026. No macro, syntax, notation, axiom, sorry.
-/
import Derived.Test.YtdjephmkpebnhaaDoorRows
import GoSem.ClaimSeven
namespace Go.Proofs.YtdjephmkpebnhaaDoor
namespace Rows

/-- THE TIED CARD OF 'pointcodetop.TopBlocked'. -/
def topBlockedCard : Claim7 := { stood := { row := topBlockedRow, standIns := [], harness := (true, "d626469a464b00fafdb1515a7a2ff135252cf35572faae530bd3e6e2ec7572a1"), looks := false }, kinds := [], alts := [], laidByText := true, laidKinds := [.data, .pinned], laidTests := true, laidLooks := .later }
def TopBlockedCardSaid : Prop := Claim7.holds Tryd.pinned (.plain (OpenSpec.ofChange topBlockedSpec)) topBlockedCard

/-- THE SECOND FORM's CARD OF 'pointcodetop.TopBlocked'. -/
def topBlockedUptoCard : Claim7 := { stood := { row := topBlockedUptoRow, standIns := [], harness := (true, "d626469a464b00fafdb1515a7a2ff135252cf35572faae530bd3e6e2ec7572a1"), looks := false }, kinds := [], alts := [], laidByText := true, laidKinds := [.data, .pinned], laidTests := true, laidLooks := .later }
def TopBlockedUptoCardSaid : Prop := Claim7.holds Tryd.pinned (.plain (OpenSpec.upto topBlockedSpec)) topBlockedUptoCard
end Rows
end Go.Proofs.YtdjephmkpebnhaaDoor
