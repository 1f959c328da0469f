/-
  DERIVED. GIVEN WITH THE SEED: THE CARDS: each row of YtlinegodpoihoaaGreatDoorRows.lean that lists a variable, with what it lists TIED to the program's text (the seventh form; the later family's looks); each row that meets fmt, with fmt's text TOLD by the authors' own Lean function (tested against real Go, not proved from fmt's source: count such statements apart). THE CARD IS WHAT COUNTS. Prove the row's statement (the work); the ties are given (YtlinegodpoihoaaGreatDoorTie.lean); close each card by the builder's one call (the guide's Derived/Test/ToyasCard.lean, 'card_holds'). Laid BY PROGRAM, IN A SANDBOX (cutbox-door.mjs). By AI agents, Wed Nov 11 2026. No macro, syntax, notation, axiom, sorry.
-/
import Derived.Test.YtlinegodpoihoaaGreatDoorRows
import GoSem.ClaimSeven
namespace Go.Proofs.YtlinegodpoihoaaGreatDoor
namespace Rows

/-- THE TIED CARD OF 'kitbaglaw04.BigTells'. -/
def bigTellsCard : Claim7 := { stood := { row := bigTellsRow, standIns := [], harness := (true, "2f59ce053e2fed5acfc15007b0f30f4a487186bb49a2dfe8d4804d0cbded95e9"), looks := false }, kinds := [], alts := [], laidByText := true, laidKinds := [.data, .data, .data, .data, .pinned], laidTests := true, laidLooks := .later }
def BigTellsCardSaid : Prop := Claim7.holds Tryz.pinned (.plain (OpenSpec.ofChange bigTellsSpec)) bigTellsCard

/-- THE SECOND FORM's CARD OF 'kitbaglaw04.BigTells'. -/
def bigTellsUptoCard : Claim7 := { stood := { row := bigTellsUptoRow, standIns := [], harness := (true, "2f59ce053e2fed5acfc15007b0f30f4a487186bb49a2dfe8d4804d0cbded95e9"), looks := false }, kinds := [], alts := [], laidByText := true, laidKinds := [.data, .data, .data, .data, .pinned], laidTests := true, laidLooks := .later }
def BigTellsUptoCardSaid : Prop := Claim7.holds Tryz.pinned (.plain (OpenSpec.upto bigTellsSpec)) bigTellsUptoCard
end Rows
end Go.Proofs.YtlinegodpoihoaaGreatDoor
