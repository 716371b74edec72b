/-
  DERIVED. GIVEN WITH THE SEED: THE CARDS: each row of YtbhjggbijkjmnaaGreatDoorRows.lean that lists a variable, with what it lists TIED to the program's text (the seventh form; the later family's looks); each row that meets fmt, with fmt's text TOLD by the authors' own Lean function (tested against real Go, not proved from fmt's source: count such statements apart). THE CARD IS WHAT COUNTS. Prove the row's statement (the work); the ties are given (YtbhjggbijkjmnaaGreatDoorTie.lean); close each card by the builder's one call (the guide's Derived/Test/ToyasCard.lean, 'card_holds'). Laid BY PROGRAM, IN A SANDBOX (cutbox-door.mjs). By AI agents, Wed Nov 11 2026. No macro, syntax, notation, axiom, sorry.
-/
import Derived.Test.YtbhjggbijkjmnaaGreatDoorRows
import GoSem.ClaimSeven
namespace Go.Proofs.YtbhjggbijkjmnaaGreatDoor
namespace Rows

/-- THE TIED CARD OF 'morainelaw12.TreeSteps'. -/
def treeStepsCard : Claim7 := { stood := { row := treeStepsRow, standIns := [], harness := (true, "067799c442ed9430a19705abeecdb71890bd7b381099f450cffa26af33512d50"), looks := true }, kinds := [], alts := [], laidByText := true, laidKinds := [.data, .pinned], laidTests := true, laidLooks := .later }
def TreeStepsCardSaid : Prop := Claim7.holds Tryz.pinned (.plain (OpenSpec.ofChange treeStepsSpec)) treeStepsCard

/-- THE TIED CARD OF 'morainelaw12.TreeRaw'. -/
def treeRawCard : Claim7 := { stood := { row := treeRawRow, standIns := [], harness := (true, "067799c442ed9430a19705abeecdb71890bd7b381099f450cffa26af33512d50"), looks := true }, kinds := [], alts := [], laidByText := true, laidKinds := [.data, .pinned], laidTests := true, laidLooks := .later }
def TreeRawCardSaid : Prop := Claim7.holds Tryz.pinned (.plain (OpenSpec.ofChange treeRawSpec)) treeRawCard

/-- THE SECOND FORM's CARD OF 'morainelaw12.TreeSteps'. -/
def treeStepsUptoCard : Claim7 := { stood := { row := treeStepsUptoRow, standIns := [], harness := (true, "067799c442ed9430a19705abeecdb71890bd7b381099f450cffa26af33512d50"), looks := true }, kinds := [], alts := [], laidByText := true, laidKinds := [.data, .pinned], laidTests := true, laidLooks := .later }
def TreeStepsUptoCardSaid : Prop := Claim7.holds Tryz.pinned (.plain (OpenSpec.upto treeStepsSpec)) treeStepsUptoCard

/-- THE SECOND FORM's CARD OF 'morainelaw12.TreeRaw'. -/
def treeRawUptoCard : Claim7 := { stood := { row := treeRawUptoRow, standIns := [], harness := (true, "067799c442ed9430a19705abeecdb71890bd7b381099f450cffa26af33512d50"), looks := true }, kinds := [], alts := [], laidByText := true, laidKinds := [.data, .pinned], laidTests := true, laidLooks := .later }
def TreeRawUptoCardSaid : Prop := Claim7.holds Tryz.pinned (.plain (OpenSpec.upto treeRawSpec)) treeRawUptoCard
end Rows
end Go.Proofs.YtbhjggbijkjmnaaGreatDoor
