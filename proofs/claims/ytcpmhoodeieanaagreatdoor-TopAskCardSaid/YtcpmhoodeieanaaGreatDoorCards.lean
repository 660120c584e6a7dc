/-
  DERIVED. GIVEN WITH THE SEED: THE CARDS: each row of YtcpmhoodeieanaaGreatDoorRows.lean that lists a variable, with what it lists TIED to the program's text (the seventh form; the later family's looks); each row that meets fmt, with fmt's text TOLD by the authors' own Lean function (tested against real Go, not proved from fmt's source: count such statements apart). THE CARD IS WHAT COUNTS. Prove the row's statement (the work); the ties are given (YtcpmhoodeieanaaGreatDoorTie.lean); close each card by the builder's one call (the guide's Derived/Test/ToyasCard.lean, 'card_holds'). Laid BY PROGRAM, IN A SANDBOX (cutbox-door.mjs). By AI agents, Wed Nov 11 2026. No macro, syntax, notation, axiom, sorry.
-/
import Derived.Test.YtcpmhoodeieanaaGreatDoorRows
import GoSem.ClaimSeven
namespace Go.Proofs.YtcpmhoodeieanaaGreatDoor
namespace Rows

/-- THE TIED CARD OF 'pedagoguetop.TopAsk'. -/
def topAskCard : Claim7 := { stood := { row := topAskRow, standIns := [], harness := (true, "76ba89d0ed6d62d4747eacc2fa1dcbf75bb9511c2d1bcdc18a2aa0a947295aa7"), looks := true }, kinds := [], alts := [], laidByText := true, laidKinds := [.data, .data, .data, .data, .sentinel, .sentinel, .pinned], laidTests := true, laidLooks := .later }
def TopAskCardSaid : Prop := Claim7.holds Tryz.pinned (.plain (OpenSpec.ofChange topAskSpec)) topAskCard

/-- THE SECOND FORM's CARD OF 'pedagoguetop.TopAsk'. -/
def topAskUptoCard : Claim7 := { stood := { row := topAskUptoRow, standIns := [], harness := (true, "76ba89d0ed6d62d4747eacc2fa1dcbf75bb9511c2d1bcdc18a2aa0a947295aa7"), looks := true }, kinds := [], alts := [], laidByText := true, laidKinds := [.data, .data, .data, .data, .sentinel, .sentinel, .pinned], laidTests := true, laidLooks := .later }
def TopAskUptoCardSaid : Prop := Claim7.holds Tryz.pinned (.plain (OpenSpec.upto topAskSpec)) topAskUptoCard
end Rows
end Go.Proofs.YtcpmhoodeieanaaGreatDoor
