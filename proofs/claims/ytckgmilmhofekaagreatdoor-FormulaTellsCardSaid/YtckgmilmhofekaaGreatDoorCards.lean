/-
  DERIVED. GIVEN WITH THE SEED: THE CARDS: each row of YtckgmilmhofekaaGreatDoorRows.lean that lists a variable, with what it lists TIED to the program's text (the seventh form; the later family's looks); each row that meets fmt, with fmt's text TOLD by the authors' own Lean function (tested against real Go, not proved from fmt's source: count such statements apart). THE CARD IS WHAT COUNTS. Prove the row's statement (the work); the ties are given (YtckgmilmhofekaaGreatDoorTie.lean); close each card by the builder's one call (the guide's Derived/Test/ToyasCard.lean, 'card_holds'). Laid BY PROGRAM, IN A SANDBOX (cutbox-door.mjs). By AI agents, Wed Nov 11 2026. No macro, syntax, notation, axiom, sorry.
-/
import Derived.Test.YtckgmilmhofekaaGreatDoorRows
import GoSem.ClaimSeven
namespace Go.Proofs.YtckgmilmhofekaaGreatDoor
namespace Rows

/-- THE TIED CARD OF 'kitbaglaw14.FormulaTells'. -/
def formulaTellsCard : Claim7 := { stood := { row := formulaTellsRow, standIns := [], harness := (true, "41509b164b872be4fba733d0be4e517461619cecf0446bf912effd7ef1e727f9"), looks := false }, kinds := [], alts := [], laidByText := true, laidKinds := [.data, .data, .data, .data], laidTests := true, laidLooks := .later }
def FormulaTellsCardSaid : Prop := Claim7.holds Tryz.pinned (.plain (OpenSpec.ofChange formulaTellsSpec)) formulaTellsCard

/-- THE SECOND FORM's CARD OF 'kitbaglaw14.FormulaTells'. -/
def formulaTellsUptoCard : Claim7 := { stood := { row := formulaTellsUptoRow, standIns := [], harness := (true, "41509b164b872be4fba733d0be4e517461619cecf0446bf912effd7ef1e727f9"), looks := false }, kinds := [], alts := [], laidByText := true, laidKinds := [.data, .data, .data, .data], laidTests := true, laidLooks := .later }
def FormulaTellsUptoCardSaid : Prop := Claim7.holds Tryz.pinned (.plain (OpenSpec.upto formulaTellsSpec)) formulaTellsUptoCard
end Rows
end Go.Proofs.YtckgmilmhofekaaGreatDoor
