/-
  DERIVED. GIVEN WITH THE SEED: THE CARDS: each row of YtckgmilmhofekaaDoorRows.lean that lists a variable, with what it lists TIED to the program's text (the seventh form; the later family's looks); each row that meets fmt, with fmt's text TOLD by the authors' own Lean function (tested against real Go, not proved from fmt's source: count such statements apart). THE CARD IS WHAT COUNTS. Prove the row's statement (the work); the ties are given (YtckgmilmhofekaaDoorTie.lean); close each card by the builder's one call (the guide's Derived/Test/ToyasCard.lean, 'card_holds'). Laid BY PROGRAM, IN A SANDBOX (cutbox-door.mjs). By AI agents, Wed Nov 11 2026. No macro, syntax, notation, axiom, sorry.
-/
import Derived.Test.YtckgmilmhofekaaDoorRows
import GoSem.ClaimSeven
namespace Go.Proofs.YtckgmilmhofekaaDoor
namespace Rows

/-- THE TIED CARD OF 'kitbaglaw14.FormulaBack'. -/
def formulaBackCard : Claim7 := { stood := { row := formulaBackRow, standIns := [], harness := (true, "01db5ff10d82562476d116dda51456ea1187b7da2842f86c0e56362e49b21b4a"), looks := false }, kinds := [], alts := [], laidByText := true, laidKinds := [.data, .data, .data, .data], laidTests := true, laidLooks := .later }
def FormulaBackCardSaid : Prop := Claim7.holds Tryd.pinned (.plain (OpenSpec.ofChange formulaBackSpec)) formulaBackCard

/-- THE TIED CARD OF 'kitbaglaw14.FormulaWraps'. -/
def formulaWrapsCard : Claim7 := { stood := { row := formulaWrapsRow, standIns := [], harness := (true, "01db5ff10d82562476d116dda51456ea1187b7da2842f86c0e56362e49b21b4a"), looks := false }, kinds := [], alts := [], laidByText := true, laidKinds := [.data, .data, .data, .data], laidTests := true, laidLooks := .later }
def FormulaWrapsCardSaid : Prop := Claim7.holds Tryd.pinned (.plain (OpenSpec.ofChange formulaWrapsSpec)) formulaWrapsCard

/-- THE TIED CARD OF 'kitbaglaw14.FormulaParts'. -/
def formulaPartsCard : Claim7 := { stood := { row := formulaPartsRow, standIns := [], harness := (true, "01db5ff10d82562476d116dda51456ea1187b7da2842f86c0e56362e49b21b4a"), looks := false }, kinds := [], alts := [], laidByText := true, laidKinds := [.data, .data, .data, .data], laidTests := true, laidLooks := .later }
def FormulaPartsCardSaid : Prop := Claim7.holds Tryd.pinned (.plain (OpenSpec.ofChange formulaPartsSpec)) formulaPartsCard

/-- THE SECOND FORM's CARD OF 'kitbaglaw14.FormulaBack'. -/
def formulaBackUptoCard : Claim7 := { stood := { row := formulaBackUptoRow, standIns := [], harness := (true, "01db5ff10d82562476d116dda51456ea1187b7da2842f86c0e56362e49b21b4a"), looks := false }, kinds := [], alts := [], laidByText := true, laidKinds := [.data, .data, .data, .data], laidTests := true, laidLooks := .later }
def FormulaBackUptoCardSaid : Prop := Claim7.holds Tryd.pinned (.plain (OpenSpec.upto formulaBackSpec)) formulaBackUptoCard

/-- THE SECOND FORM's CARD OF 'kitbaglaw14.FormulaWraps'. -/
def formulaWrapsUptoCard : Claim7 := { stood := { row := formulaWrapsUptoRow, standIns := [], harness := (true, "01db5ff10d82562476d116dda51456ea1187b7da2842f86c0e56362e49b21b4a"), looks := false }, kinds := [], alts := [], laidByText := true, laidKinds := [.data, .data, .data, .data], laidTests := true, laidLooks := .later }
def FormulaWrapsUptoCardSaid : Prop := Claim7.holds Tryd.pinned (.plain (OpenSpec.upto formulaWrapsSpec)) formulaWrapsUptoCard

/-- THE SECOND FORM's CARD OF 'kitbaglaw14.FormulaParts'. -/
def formulaPartsUptoCard : Claim7 := { stood := { row := formulaPartsUptoRow, standIns := [], harness := (true, "01db5ff10d82562476d116dda51456ea1187b7da2842f86c0e56362e49b21b4a"), looks := false }, kinds := [], alts := [], laidByText := true, laidKinds := [.data, .data, .data, .data], laidTests := true, laidLooks := .later }
def FormulaPartsUptoCardSaid : Prop := Claim7.holds Tryd.pinned (.plain (OpenSpec.upto formulaPartsSpec)) formulaPartsUptoCard
end Rows
end Go.Proofs.YtckgmilmhofekaaDoor
