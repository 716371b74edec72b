/-
  DERIVED. GIVEN WITH THE SEED: THE CARDS: each row of YtllfjmmdackgdaaDoorRows.lean that lists a variable, with what it lists TIED to the program's text (the seventh form; the later family's looks); each row that meets fmt, with fmt's text TOLD by the authors' own Lean function (tested against real Go, not proved from fmt's source: count such statements apart). THE CARD IS WHAT COUNTS. Prove the row's statement (the work); the ties are given (YtllfjmmdackgdaaDoorTie.lean); close each card by the builder's one call (the guide's Derived/Test/ToyasCard.lean, 'card_holds'). Laid BY PROGRAM, IN A SANDBOX (cutbox-door.mjs). By AI agents, Wed Nov 11 2026. No macro, syntax, notation, axiom, sorry.
-/
import Derived.Test.YtllfjmmdackgdaaDoorRows
import GoSem.ClaimSeven
namespace Go.Proofs.YtllfjmmdackgdaaDoor
namespace Rows

/-- THE TIED CARD OF 'morainelaw10.PathParts'. -/
def pathPartsCard : Claim7 := { stood := { row := pathPartsRow, standIns := [], harness := (true, "c20ddc6f1c96fbed28b0ab424a184b1a33f5594ccb0d087f1c0adb6cda501cc3"), looks := true }, kinds := [], alts := [], laidByText := true, laidKinds := [.data, .pinned], laidTests := true, laidLooks := .later }
def PathPartsCardSaid : Prop := Claim7.holds Tryd.pinned (.plain (OpenSpec.ofChange pathPartsSpec)) pathPartsCard

/-- THE TIED CARD OF 'morainelaw10.PathJoins'. -/
def pathJoinsCard : Claim7 := { stood := { row := pathJoinsRow, standIns := [], harness := (true, "c20ddc6f1c96fbed28b0ab424a184b1a33f5594ccb0d087f1c0adb6cda501cc3"), looks := true }, kinds := [], alts := [], laidByText := true, laidKinds := [.data, .pinned], laidTests := true, laidLooks := .later }
def PathJoinsCardSaid : Prop := Claim7.holds Tryd.pinned (.plain (OpenSpec.ofChange pathJoinsSpec)) pathJoinsCard

/-- THE TIED CARD OF 'morainelaw10.PathWithin'. -/
def pathWithinCard : Claim7 := { stood := { row := pathWithinRow, standIns := [], harness := (true, "c20ddc6f1c96fbed28b0ab424a184b1a33f5594ccb0d087f1c0adb6cda501cc3"), looks := true }, kinds := [], alts := [], laidByText := true, laidKinds := [.data, .pinned], laidTests := true, laidLooks := .later }
def PathWithinCardSaid : Prop := Claim7.holds Tryd.pinned (.plain (OpenSpec.ofChange pathWithinSpec)) pathWithinCard

/-- THE TIED CARD OF 'morainelaw10.PathFronts'. -/
def pathFrontsCard : Claim7 := { stood := { row := pathFrontsRow, standIns := [], harness := (true, "c20ddc6f1c96fbed28b0ab424a184b1a33f5594ccb0d087f1c0adb6cda501cc3"), looks := true }, kinds := [], alts := [], laidByText := true, laidKinds := [.data, .pinned], laidTests := true, laidLooks := .later }
def PathFrontsCardSaid : Prop := Claim7.holds Tryd.pinned (.plain (OpenSpec.ofChange pathFrontsSpec)) pathFrontsCard

/-- THE TIED CARD OF 'morainelaw12.TreeRight'. -/
def treeRightCard : Claim7 := { stood := { row := treeRightRow, standIns := [], harness := (true, "c20ddc6f1c96fbed28b0ab424a184b1a33f5594ccb0d087f1c0adb6cda501cc3"), looks := true }, kinds := [], alts := [], laidByText := true, laidKinds := [.data, .pinned], laidTests := true, laidLooks := .later }
def TreeRightCardSaid : Prop := Claim7.holds Tryd.pinned (.plain (OpenSpec.ofChange treeRightSpec)) treeRightCard

/-- THE TIED CARD OF 'morainelaw12.TreeWrites'. -/
def treeWritesCard : Claim7 := { stood := { row := treeWritesRow, standIns := [], harness := (true, "c20ddc6f1c96fbed28b0ab424a184b1a33f5594ccb0d087f1c0adb6cda501cc3"), looks := true }, kinds := [], alts := [], laidByText := true, laidKinds := [.data, .pinned], laidTests := true, laidLooks := .later }
def TreeWritesCardSaid : Prop := Claim7.holds Tryd.pinned (.plain (OpenSpec.ofChange treeWritesSpec)) treeWritesCard

/-- THE TIED CARD OF 'morainelaw12.TreeRenames'. -/
def treeRenamesCard : Claim7 := { stood := { row := treeRenamesRow, standIns := [], harness := (true, "c20ddc6f1c96fbed28b0ab424a184b1a33f5594ccb0d087f1c0adb6cda501cc3"), looks := true }, kinds := [], alts := [], laidByText := true, laidKinds := [.data, .pinned], laidTests := true, laidLooks := .later }
def TreeRenamesCardSaid : Prop := Claim7.holds Tryd.pinned (.plain (OpenSpec.ofChange treeRenamesSpec)) treeRenamesCard

/-- THE TIED CARD OF 'morainelaw12.TreeUndone'. -/
def treeUndoneCard : Claim7 := { stood := { row := treeUndoneRow, standIns := [], harness := (true, "c20ddc6f1c96fbed28b0ab424a184b1a33f5594ccb0d087f1c0adb6cda501cc3"), looks := true }, kinds := [], alts := [], laidByText := true, laidKinds := [.data, .pinned], laidTests := true, laidLooks := .later }
def TreeUndoneCardSaid : Prop := Claim7.holds Tryd.pinned (.plain (OpenSpec.ofChange treeUndoneSpec)) treeUndoneCard

/-- THE TIED CARD OF 'morainelaw12.TreeReads'. -/
def treeReadsCard : Claim7 := { stood := { row := treeReadsRow, standIns := [], harness := (true, "c20ddc6f1c96fbed28b0ab424a184b1a33f5594ccb0d087f1c0adb6cda501cc3"), looks := true }, kinds := [], alts := [], laidByText := true, laidKinds := [.data, .pinned], laidTests := true, laidLooks := .later }
def TreeReadsCardSaid : Prop := Claim7.holds Tryd.pinned (.plain (OpenSpec.ofChange treeReadsSpec)) treeReadsCard

/-- THE TIED CARD OF 'morainelaw12.TreeTruncs'. -/
def treeTruncsCard : Claim7 := { stood := { row := treeTruncsRow, standIns := [], harness := (true, "c20ddc6f1c96fbed28b0ab424a184b1a33f5594ccb0d087f1c0adb6cda501cc3"), looks := true }, kinds := [], alts := [], laidByText := true, laidKinds := [.data, .pinned], laidTests := true, laidLooks := .later }
def TreeTruncsCardSaid : Prop := Claim7.holds Tryd.pinned (.plain (OpenSpec.ofChange treeTruncsSpec)) treeTruncsCard

/-- THE TIED CARD OF 'morainelaw12.TreeLinks'. -/
def treeLinksCard : Claim7 := { stood := { row := treeLinksRow, standIns := [], harness := (true, "c20ddc6f1c96fbed28b0ab424a184b1a33f5594ccb0d087f1c0adb6cda501cc3"), looks := true }, kinds := [], alts := [], laidByText := true, laidKinds := [.data, .pinned], laidTests := true, laidLooks := .later }
def TreeLinksCardSaid : Prop := Claim7.holds Tryd.pinned (.plain (OpenSpec.ofChange treeLinksSpec)) treeLinksCard

/-- THE TIED CARD OF 'morainelaw12.TreeLists'. -/
def treeListsCard : Claim7 := { stood := { row := treeListsRow, standIns := [], harness := (true, "c20ddc6f1c96fbed28b0ab424a184b1a33f5594ccb0d087f1c0adb6cda501cc3"), looks := true }, kinds := [], alts := [], laidByText := true, laidKinds := [.data, .pinned], laidTests := true, laidLooks := .later }
def TreeListsCardSaid : Prop := Claim7.holds Tryd.pinned (.plain (OpenSpec.ofChange treeListsSpec)) treeListsCard

/-- THE SECOND FORM's CARD OF 'morainelaw10.PathParts'. -/
def pathPartsUptoCard : Claim7 := { stood := { row := pathPartsUptoRow, standIns := [], harness := (true, "c20ddc6f1c96fbed28b0ab424a184b1a33f5594ccb0d087f1c0adb6cda501cc3"), looks := true }, kinds := [], alts := [], laidByText := true, laidKinds := [.data, .pinned], laidTests := true, laidLooks := .later }
def PathPartsUptoCardSaid : Prop := Claim7.holds Tryd.pinned (.plain (OpenSpec.upto pathPartsSpec)) pathPartsUptoCard

/-- THE SECOND FORM's CARD OF 'morainelaw10.PathJoins'. -/
def pathJoinsUptoCard : Claim7 := { stood := { row := pathJoinsUptoRow, standIns := [], harness := (true, "c20ddc6f1c96fbed28b0ab424a184b1a33f5594ccb0d087f1c0adb6cda501cc3"), looks := true }, kinds := [], alts := [], laidByText := true, laidKinds := [.data, .pinned], laidTests := true, laidLooks := .later }
def PathJoinsUptoCardSaid : Prop := Claim7.holds Tryd.pinned (.plain (OpenSpec.upto pathJoinsSpec)) pathJoinsUptoCard

/-- THE SECOND FORM's CARD OF 'morainelaw10.PathWithin'. -/
def pathWithinUptoCard : Claim7 := { stood := { row := pathWithinUptoRow, standIns := [], harness := (true, "c20ddc6f1c96fbed28b0ab424a184b1a33f5594ccb0d087f1c0adb6cda501cc3"), looks := true }, kinds := [], alts := [], laidByText := true, laidKinds := [.data, .pinned], laidTests := true, laidLooks := .later }
def PathWithinUptoCardSaid : Prop := Claim7.holds Tryd.pinned (.plain (OpenSpec.upto pathWithinSpec)) pathWithinUptoCard

/-- THE SECOND FORM's CARD OF 'morainelaw10.PathFronts'. -/
def pathFrontsUptoCard : Claim7 := { stood := { row := pathFrontsUptoRow, standIns := [], harness := (true, "c20ddc6f1c96fbed28b0ab424a184b1a33f5594ccb0d087f1c0adb6cda501cc3"), looks := true }, kinds := [], alts := [], laidByText := true, laidKinds := [.data, .pinned], laidTests := true, laidLooks := .later }
def PathFrontsUptoCardSaid : Prop := Claim7.holds Tryd.pinned (.plain (OpenSpec.upto pathFrontsSpec)) pathFrontsUptoCard

/-- THE SECOND FORM's CARD OF 'morainelaw12.TreeRight'. -/
def treeRightUptoCard : Claim7 := { stood := { row := treeRightUptoRow, standIns := [], harness := (true, "c20ddc6f1c96fbed28b0ab424a184b1a33f5594ccb0d087f1c0adb6cda501cc3"), looks := true }, kinds := [], alts := [], laidByText := true, laidKinds := [.data, .pinned], laidTests := true, laidLooks := .later }
def TreeRightUptoCardSaid : Prop := Claim7.holds Tryd.pinned (.plain (OpenSpec.upto treeRightSpec)) treeRightUptoCard

/-- THE SECOND FORM's CARD OF 'morainelaw12.TreeWrites'. -/
def treeWritesUptoCard : Claim7 := { stood := { row := treeWritesUptoRow, standIns := [], harness := (true, "c20ddc6f1c96fbed28b0ab424a184b1a33f5594ccb0d087f1c0adb6cda501cc3"), looks := true }, kinds := [], alts := [], laidByText := true, laidKinds := [.data, .pinned], laidTests := true, laidLooks := .later }
def TreeWritesUptoCardSaid : Prop := Claim7.holds Tryd.pinned (.plain (OpenSpec.upto treeWritesSpec)) treeWritesUptoCard

/-- THE SECOND FORM's CARD OF 'morainelaw12.TreeRenames'. -/
def treeRenamesUptoCard : Claim7 := { stood := { row := treeRenamesUptoRow, standIns := [], harness := (true, "c20ddc6f1c96fbed28b0ab424a184b1a33f5594ccb0d087f1c0adb6cda501cc3"), looks := true }, kinds := [], alts := [], laidByText := true, laidKinds := [.data, .pinned], laidTests := true, laidLooks := .later }
def TreeRenamesUptoCardSaid : Prop := Claim7.holds Tryd.pinned (.plain (OpenSpec.upto treeRenamesSpec)) treeRenamesUptoCard

/-- THE SECOND FORM's CARD OF 'morainelaw12.TreeUndone'. -/
def treeUndoneUptoCard : Claim7 := { stood := { row := treeUndoneUptoRow, standIns := [], harness := (true, "c20ddc6f1c96fbed28b0ab424a184b1a33f5594ccb0d087f1c0adb6cda501cc3"), looks := true }, kinds := [], alts := [], laidByText := true, laidKinds := [.data, .pinned], laidTests := true, laidLooks := .later }
def TreeUndoneUptoCardSaid : Prop := Claim7.holds Tryd.pinned (.plain (OpenSpec.upto treeUndoneSpec)) treeUndoneUptoCard

/-- THE SECOND FORM's CARD OF 'morainelaw12.TreeReads'. -/
def treeReadsUptoCard : Claim7 := { stood := { row := treeReadsUptoRow, standIns := [], harness := (true, "c20ddc6f1c96fbed28b0ab424a184b1a33f5594ccb0d087f1c0adb6cda501cc3"), looks := true }, kinds := [], alts := [], laidByText := true, laidKinds := [.data, .pinned], laidTests := true, laidLooks := .later }
def TreeReadsUptoCardSaid : Prop := Claim7.holds Tryd.pinned (.plain (OpenSpec.upto treeReadsSpec)) treeReadsUptoCard

/-- THE SECOND FORM's CARD OF 'morainelaw12.TreeTruncs'. -/
def treeTruncsUptoCard : Claim7 := { stood := { row := treeTruncsUptoRow, standIns := [], harness := (true, "c20ddc6f1c96fbed28b0ab424a184b1a33f5594ccb0d087f1c0adb6cda501cc3"), looks := true }, kinds := [], alts := [], laidByText := true, laidKinds := [.data, .pinned], laidTests := true, laidLooks := .later }
def TreeTruncsUptoCardSaid : Prop := Claim7.holds Tryd.pinned (.plain (OpenSpec.upto treeTruncsSpec)) treeTruncsUptoCard

/-- THE SECOND FORM's CARD OF 'morainelaw12.TreeLinks'. -/
def treeLinksUptoCard : Claim7 := { stood := { row := treeLinksUptoRow, standIns := [], harness := (true, "c20ddc6f1c96fbed28b0ab424a184b1a33f5594ccb0d087f1c0adb6cda501cc3"), looks := true }, kinds := [], alts := [], laidByText := true, laidKinds := [.data, .pinned], laidTests := true, laidLooks := .later }
def TreeLinksUptoCardSaid : Prop := Claim7.holds Tryd.pinned (.plain (OpenSpec.upto treeLinksSpec)) treeLinksUptoCard

/-- THE SECOND FORM's CARD OF 'morainelaw12.TreeLists'. -/
def treeListsUptoCard : Claim7 := { stood := { row := treeListsUptoRow, standIns := [], harness := (true, "c20ddc6f1c96fbed28b0ab424a184b1a33f5594ccb0d087f1c0adb6cda501cc3"), looks := true }, kinds := [], alts := [], laidByText := true, laidKinds := [.data, .pinned], laidTests := true, laidLooks := .later }
def TreeListsUptoCardSaid : Prop := Claim7.holds Tryd.pinned (.plain (OpenSpec.upto treeListsSpec)) treeListsUptoCard
end Rows
end Go.Proofs.YtllfjmmdackgdaaDoor
