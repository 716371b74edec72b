/-
  No cell of these rows narrows 'for every input' (looked for: loops, veiled, ifaces, maps, wideKeys, modest, calm, conditions, laid).
  DERIVED. THE GIVEN ROWS OF THIS SEAT. 5 by the template 'for every input the law returns true; each argument reads behind the call as it read before'; 0 by the template 'total and deterministic' (their statements: YtllfjmmdackgdaaTotals.lean).
  GIVEN WITH THE SEED: the statements are not yours to turn. If you find one false, say at which input.
  Laid BY PROGRAM, IN A SANDBOX (cutbox-rows.mjs): the forced cells as the released guide's own fill.sh prints them over the translation 97c0401fead93386… (all of the seat's roots in one cut). By AI agents, Wed Nov 11 2026. No macro, syntax, notation, axiom, sorry.
-/
import Derived.Test.YtllfjmmdackgdaaChecked
import GoSem.Claim
import GoSem.ClaimJoined
import GoSem.ClaimMapViews
import Derived.JoinedTies
import Derived.KernelRfl
namespace Go.Proofs.Ytllfjmmdackgdaa
/- THE CELL 'sum', in the pinned program and in every row, IS THE sha256 OF THE DUMP (.gsa) THAT YtllfjmmdackgdaaProg.lean LOADS. Nothing in Lean hashes anything: it is a label: what it is worth is what the hold of that sum in a sandbox is worth. -/
noncomputable def Try.pinned : Pinned := { name := "ytllfjmmdackgdaa", sum := "97c0401fead933861a2d6f2bb55b6f0990892c620c5fe3ec351677c075067f3a", checked := Try.checked }
namespace Rows
def none {H : Type} : Left H := { results := [], args := [] }

/-- 'morainelaw11.DirentLists': WHATEVER THE INPUT: true; the input reads as it did. -/
def direntListsSpec : ChangeSpec := { name := "direntLists", fn := fun _ => fun
  | [d1, d2] => { results := [.lit (.bool true)], args := [d1, d2] }
  | _ => none }
def direntListsRow : OpenClaim := { program := "ytllfjmmdackgdaa", sum := "97c0401fead933861a2d6f2bb55b6f0990892c620c5fe3ec351677c075067f3a", func := "moraine/morainelaw11.DirentLists", spec := "direntLists", inPlace := ["internal/bytealg.IndexByteString", "internal/bytealg.abigen_runtime_cmpstring"], unfollowed := true, recurses := true, apart := false }
def DirentListsSaid : Prop := direntListsRow.holds Try.pinned (OpenSpec.ofChange direntListsSpec)

/-- ITS FALSE NEIGHBOUR: 'it returns false'. Refute it at one input. -/
def direntListsWrong : ChangeSpec := { name := "direntLists", fn := fun _ => fun
  | [d1, d2] => { results := [.lit (.bool false)], args := [d1, d2] }
  | _ => none }
def DirentListsWrongFalsely : Prop := direntListsRow.holds Try.pinned (OpenSpec.ofChange direntListsWrong)

/-- 'morainelaw11.DirentPuts': WHATEVER THE INPUT: true; the input reads as it did. -/
def direntPutsSpec : ChangeSpec := { name := "direntPuts", fn := fun _ => fun
  | [d1, d2] => { results := [.lit (.bool true)], args := [d1, d2] }
  | _ => none }
def direntPutsRow : OpenClaim := { program := "ytllfjmmdackgdaa", sum := "97c0401fead933861a2d6f2bb55b6f0990892c620c5fe3ec351677c075067f3a", func := "moraine/morainelaw11.DirentPuts", spec := "direntPuts", inPlace := ["internal/bytealg.IndexByteString", "internal/bytealg.abigen_runtime_cmpstring"], unfollowed := true, recurses := true, apart := false }
def DirentPutsSaid : Prop := direntPutsRow.holds Try.pinned (OpenSpec.ofChange direntPutsSpec)

/-- ITS FALSE NEIGHBOUR: 'it returns false'. Refute it at one input. -/
def direntPutsWrong : ChangeSpec := { name := "direntPuts", fn := fun _ => fun
  | [d1, d2] => { results := [.lit (.bool false)], args := [d1, d2] }
  | _ => none }
def DirentPutsWrongFalsely : Prop := direntPutsRow.holds Try.pinned (OpenSpec.ofChange direntPutsWrong)

/-- 'morainelaw11.DirentOrder': WHATEVER THE INPUT: true; the input reads as it did. -/
def direntOrderSpec : ChangeSpec := { name := "direntOrder", fn := fun _ => fun
  | [d] => { results := [.lit (.bool true)], args := [d] }
  | _ => none }
def direntOrderRow : OpenClaim := { program := "ytllfjmmdackgdaa", sum := "97c0401fead933861a2d6f2bb55b6f0990892c620c5fe3ec351677c075067f3a", func := "moraine/morainelaw11.DirentOrder", spec := "direntOrder", inPlace := ["internal/bytealg.IndexByteString", "internal/bytealg.abigen_runtime_cmpstring"], unfollowed := true, recurses := true, apart := false }
def DirentOrderSaid : Prop := direntOrderRow.holds Try.pinned (OpenSpec.ofChange direntOrderSpec)

/-- ITS FALSE NEIGHBOUR: 'it returns false'. Refute it at one input. -/
def direntOrderWrong : ChangeSpec := { name := "direntOrder", fn := fun _ => fun
  | [d] => { results := [.lit (.bool false)], args := [d] }
  | _ => none }
def DirentOrderWrongFalsely : Prop := direntOrderRow.holds Try.pinned (OpenSpec.ofChange direntOrderWrong)

/-- 'morainelaw11.DirentCodes': WHATEVER THE INPUT: true; the input reads as it did. -/
def direntCodesSpec : ChangeSpec := { name := "direntCodes", fn := fun _ => fun
  | [d1, d2] => { results := [.lit (.bool true)], args := [d1, d2] }
  | _ => none }
def direntCodesRow : OpenClaim := { program := "ytllfjmmdackgdaa", sum := "97c0401fead933861a2d6f2bb55b6f0990892c620c5fe3ec351677c075067f3a", func := "moraine/morainelaw11.DirentCodes", spec := "direntCodes", inPlace := ["internal/bytealg.IndexByteString", "internal/bytealg.abigen_runtime_cmpstring"], unfollowed := true, recurses := true, apart := false }
def DirentCodesSaid : Prop := direntCodesRow.holds Try.pinned (OpenSpec.ofChange direntCodesSpec)

/-- ITS FALSE NEIGHBOUR: 'it returns false'. Refute it at one input. -/
def direntCodesWrong : ChangeSpec := { name := "direntCodes", fn := fun _ => fun
  | [d1, d2] => { results := [.lit (.bool false)], args := [d1, d2] }
  | _ => none }
def DirentCodesWrongFalsely : Prop := direntCodesRow.holds Try.pinned (OpenSpec.ofChange direntCodesWrong)

/-- 'morainelaw11.DirentBack': WHATEVER THE INPUT: true; the input reads as it did. -/
def direntBackSpec : ChangeSpec := { name := "direntBack", fn := fun _ => fun
  | [d1, d2] => { results := [.lit (.bool true)], args := [d1, d2] }
  | _ => none }
def direntBackRow : OpenClaim := { program := "ytllfjmmdackgdaa", sum := "97c0401fead933861a2d6f2bb55b6f0990892c620c5fe3ec351677c075067f3a", func := "moraine/morainelaw11.DirentBack", spec := "direntBack", inPlace := ["internal/bytealg.IndexByteString", "internal/bytealg.abigen_runtime_cmpstring"], unfollowed := true, recurses := true, apart := false }
def DirentBackSaid : Prop := direntBackRow.holds Try.pinned (OpenSpec.ofChange direntBackSpec)

/-- ITS FALSE NEIGHBOUR: 'it returns false'. Refute it at one input. -/
def direntBackWrong : ChangeSpec := { name := "direntBack", fn := fun _ => fun
  | [d1, d2] => { results := [.lit (.bool false)], args := [d1, d2] }
  | _ => none }
def DirentBackWrongFalsely : Prop := direntBackRow.holds Try.pinned (OpenSpec.ofChange direntBackWrong)

/- THE SECOND FORM. 'bulk': how many values and letters a reading holds, each counted each time it is reached (what is shared counts as often as it is met; a slice's spare places count too). A statement '..UptoSaid' is the law's where the arguments, and the package variables that the reading takes, are together of bulk at most 1048576: NARROWER than '..Said'. Prove '..Said' where nothing that the law and all that it calls make is longer than what came in: it says more and counts as full. Else prove '..UptoSaid'. A law counts once. -/
mutual
def uptoBulk {H : Type} : DataW H → Nat
  | .lit (.string bytes) => bytes.length + 1
  | .lit _ => 1
  | .nil => 1
  | .ptr d => uptoBulk d + 1
  | .slice elems spare => uptoBulkAll elems + uptoBulkAll spare + 1
  | .agg parts => uptoBulkAll parts + 1
  | .iface _ d => uptoBulk d + 1
  | .map entries => uptoBulkEntries entries + 1
  | .held _ => 1
def uptoBulkAll {H : Type} : List (DataW H) → Nat
  | [] => 0
  | d :: r => uptoBulk d + uptoBulkAll r
def uptoBulkEntries {H : Type} : List (Lit × DataW H) → Nat
  | [] => 0
  | x :: r => uptoBulkEntry x + uptoBulkEntries r
def uptoBulkEntry {H : Type} : Lit × DataW H → Nat
  | (.string bytes, d) => bytes.length + uptoBulk d + 1
  | (_, d) => uptoBulk d + 1
 end
def uptoSmall : (H : Type) → List (DataW H) → Bool := fun _ ds => decide (uptoBulkAll ds ≤ 1048576)
def OpenSpec.upto (s : _root_.Go.ChangeSpec) : _root_.Go.OpenSpec := { _root_.Go.OpenSpec.ofChange s with cond := some uptoSmall }

/-- 'morainelaw11.DirentLists', WHERE WHAT IT READS IS OF BULK AT MOST 1048576: true; the input reads as it did. -/
def direntListsUptoRow : OpenClaim := { program := "ytllfjmmdackgdaa", sum := "97c0401fead933861a2d6f2bb55b6f0990892c620c5fe3ec351677c075067f3a", func := "moraine/morainelaw11.DirentLists", spec := "direntLists", inPlace := ["internal/bytealg.IndexByteString", "internal/bytealg.abigen_runtime_cmpstring"], unfollowed := true, recurses := true, apart := false, narrowed := true }
def DirentListsUptoSaid : Prop := direntListsUptoRow.holds Try.pinned (OpenSpec.upto direntListsSpec)

/-- 'morainelaw11.DirentPuts', WHERE WHAT IT READS IS OF BULK AT MOST 1048576: true; the input reads as it did. -/
def direntPutsUptoRow : OpenClaim := { program := "ytllfjmmdackgdaa", sum := "97c0401fead933861a2d6f2bb55b6f0990892c620c5fe3ec351677c075067f3a", func := "moraine/morainelaw11.DirentPuts", spec := "direntPuts", inPlace := ["internal/bytealg.IndexByteString", "internal/bytealg.abigen_runtime_cmpstring"], unfollowed := true, recurses := true, apart := false, narrowed := true }
def DirentPutsUptoSaid : Prop := direntPutsUptoRow.holds Try.pinned (OpenSpec.upto direntPutsSpec)

/-- 'morainelaw11.DirentOrder', WHERE WHAT IT READS IS OF BULK AT MOST 1048576: true; the input reads as it did. -/
def direntOrderUptoRow : OpenClaim := { program := "ytllfjmmdackgdaa", sum := "97c0401fead933861a2d6f2bb55b6f0990892c620c5fe3ec351677c075067f3a", func := "moraine/morainelaw11.DirentOrder", spec := "direntOrder", inPlace := ["internal/bytealg.IndexByteString", "internal/bytealg.abigen_runtime_cmpstring"], unfollowed := true, recurses := true, apart := false, narrowed := true }
def DirentOrderUptoSaid : Prop := direntOrderUptoRow.holds Try.pinned (OpenSpec.upto direntOrderSpec)

/-- 'morainelaw11.DirentCodes', WHERE WHAT IT READS IS OF BULK AT MOST 1048576: true; the input reads as it did. -/
def direntCodesUptoRow : OpenClaim := { program := "ytllfjmmdackgdaa", sum := "97c0401fead933861a2d6f2bb55b6f0990892c620c5fe3ec351677c075067f3a", func := "moraine/morainelaw11.DirentCodes", spec := "direntCodes", inPlace := ["internal/bytealg.IndexByteString", "internal/bytealg.abigen_runtime_cmpstring"], unfollowed := true, recurses := true, apart := false, narrowed := true }
def DirentCodesUptoSaid : Prop := direntCodesUptoRow.holds Try.pinned (OpenSpec.upto direntCodesSpec)

/-- 'morainelaw11.DirentBack', WHERE WHAT IT READS IS OF BULK AT MOST 1048576: true; the input reads as it did. -/
def direntBackUptoRow : OpenClaim := { program := "ytllfjmmdackgdaa", sum := "97c0401fead933861a2d6f2bb55b6f0990892c620c5fe3ec351677c075067f3a", func := "moraine/morainelaw11.DirentBack", spec := "direntBack", inPlace := ["internal/bytealg.IndexByteString", "internal/bytealg.abigen_runtime_cmpstring"], unfollowed := true, recurses := true, apart := false, narrowed := true }
def DirentBackUptoSaid : Prop := direntBackUptoRow.holds Try.pinned (OpenSpec.upto direntBackSpec)

end Rows
end Go.Proofs.Ytllfjmmdackgdaa
