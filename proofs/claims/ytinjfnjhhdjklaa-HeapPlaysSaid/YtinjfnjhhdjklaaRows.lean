/-
  No cell of these rows narrows 'for every input' (looked for: loops, veiled, ifaces, maps, wideKeys, modest, calm, conditions, laid).
  DERIVED. THE GIVEN ROWS OF THIS SEAT. 6 by the template 'for every input the law returns true; each argument reads behind the call as it read before'; 0 by the template 'total and deterministic' (their statements: YtinjfnjhhdjklaaTotals.lean).
  GIVEN WITH THE SEED: the statements are not yours to turn. If you find one false, say at which input.
  Laid BY PROGRAM, IN A SANDBOX (cutbox-rows.mjs): the forced cells as the released guide's own fill.sh prints them over the translation 93411221360ef1ff… (all of the seat's roots in one cut). By AI agents, Wed Nov 11 2026. No macro, syntax, notation, axiom, sorry.
-/
import Derived.Test.YtinjfnjhhdjklaaChecked
import GoSem.Claim
import GoSem.ClaimJoined
import GoSem.ClaimMapViews
import Derived.JoinedTies
import Derived.KernelRfl
namespace Go.Proofs.Ytinjfnjhhdjklaa
/- THE CELL 'sum', in the pinned program and in every row, IS THE sha256 OF THE DUMP (.gsa) THAT YtinjfnjhhdjklaaProg.lean LOADS. Nothing in Lean hashes anything: it is a label: what it is worth is what the hold of that sum in a sandbox is worth. -/
noncomputable def Try.pinned : Pinned := { name := "ytinjfnjhhdjklaa", sum := "93411221360ef1ff95fec8d21c4e92ac8a95ce6bbd6493c608a96e8726f8cf8e", checked := Try.checked }
namespace Rows
def none {H : Type} : Left H := { results := [], args := [] }

/-- 'outpostlaw13.HeapSorts': WHATEVER THE INPUT: true; the input reads as it did. -/
def heapSortsSpec : ChangeSpec := { name := "heapSorts", fn := fun _ => fun
  | [d1, d2] => { results := [.lit (.bool true)], args := [d1, d2] }
  | _ => none }
def heapSortsRow : OpenClaim := { program := "ytinjfnjhhdjklaa", sum := "93411221360ef1ff95fec8d21c4e92ac8a95ce6bbd6493c608a96e8726f8cf8e", func := "outpost/outpostlaw13.HeapSorts", spec := "heapSorts", unfollowed := true, recurses := true, apart := false }
def HeapSortsSaid : Prop := heapSortsRow.holds Try.pinned (OpenSpec.ofChange heapSortsSpec)

/-- ITS FALSE NEIGHBOUR: 'it returns false'. Refute it at one input. -/
def heapSortsWrong : ChangeSpec := { name := "heapSorts", fn := fun _ => fun
  | [d1, d2] => { results := [.lit (.bool false)], args := [d1, d2] }
  | _ => none }
def HeapSortsWrongFalsely : Prop := heapSortsRow.holds Try.pinned (OpenSpec.ofChange heapSortsWrong)

/-- 'outpostlaw13.HeapMark': WHATEVER THE INPUT: true; the input reads as it did. -/
def heapMarkSpec : ChangeSpec := { name := "heapMark", fn := fun _ => fun
  | [d1, d2] => { results := [.lit (.bool true)], args := [d1, d2] }
  | _ => none }
def heapMarkRow : OpenClaim := { program := "ytinjfnjhhdjklaa", sum := "93411221360ef1ff95fec8d21c4e92ac8a95ce6bbd6493c608a96e8726f8cf8e", func := "outpost/outpostlaw13.HeapMark", spec := "heapMark", unfollowed := true, recurses := true, apart := false }
def HeapMarkSaid : Prop := heapMarkRow.holds Try.pinned (OpenSpec.ofChange heapMarkSpec)

/-- ITS FALSE NEIGHBOUR: 'it returns false'. Refute it at one input. -/
def heapMarkWrong : ChangeSpec := { name := "heapMark", fn := fun _ => fun
  | [d1, d2] => { results := [.lit (.bool false)], args := [d1, d2] }
  | _ => none }
def HeapMarkWrongFalsely : Prop := heapMarkRow.holds Try.pinned (OpenSpec.ofChange heapMarkWrong)

/-- 'outpostlaw13.HeapWalks': WHATEVER THE INPUT: true; the input reads as it did. -/
def heapWalksSpec : ChangeSpec := { name := "heapWalks", fn := fun _ => fun
  | [d1, d2, d3] => { results := [.lit (.bool true)], args := [d1, d2, d3] }
  | _ => none }
def heapWalksRow : OpenClaim := { program := "ytinjfnjhhdjklaa", sum := "93411221360ef1ff95fec8d21c4e92ac8a95ce6bbd6493c608a96e8726f8cf8e", func := "outpost/outpostlaw13.HeapWalks", spec := "heapWalks", unfollowed := true, recurses := true, apart := false }
def HeapWalksSaid : Prop := heapWalksRow.holds Try.pinned (OpenSpec.ofChange heapWalksSpec)

/-- ITS FALSE NEIGHBOUR: 'it returns false'. Refute it at one input. -/
def heapWalksWrong : ChangeSpec := { name := "heapWalks", fn := fun _ => fun
  | [d1, d2, d3] => { results := [.lit (.bool false)], args := [d1, d2, d3] }
  | _ => none }
def HeapWalksWrongFalsely : Prop := heapWalksRow.holds Try.pinned (OpenSpec.ofChange heapWalksWrong)

/-- 'outpostlaw13.HeapPlays': WHATEVER THE INPUT: true; the input reads as it did. -/
def heapPlaysSpec : ChangeSpec := { name := "heapPlays", fn := fun _ => fun
  | [d1, d2] => { results := [.lit (.bool true)], args := [d1, d2] }
  | _ => none }
def heapPlaysRow : OpenClaim := { program := "ytinjfnjhhdjklaa", sum := "93411221360ef1ff95fec8d21c4e92ac8a95ce6bbd6493c608a96e8726f8cf8e", func := "outpost/outpostlaw13.HeapPlays", spec := "heapPlays", unfollowed := true, recurses := true, apart := false }
def HeapPlaysSaid : Prop := heapPlaysRow.holds Try.pinned (OpenSpec.ofChange heapPlaysSpec)

/-- ITS FALSE NEIGHBOUR: 'it returns false'. Refute it at one input. -/
def heapPlaysWrong : ChangeSpec := { name := "heapPlays", fn := fun _ => fun
  | [d1, d2] => { results := [.lit (.bool false)], args := [d1, d2] }
  | _ => none }
def HeapPlaysWrongFalsely : Prop := heapPlaysRow.holds Try.pinned (OpenSpec.ofChange heapPlaysWrong)

/-- 'outpostlaw13.HeapTwo': WHATEVER THE INPUT: true; the input reads as it did. -/
def heapTwoSpec : ChangeSpec := { name := "heapTwo", fn := fun _ => fun
  | [d1, d2, d3, d4] => { results := [.lit (.bool true)], args := [d1, d2, d3, d4] }
  | _ => none }
def heapTwoRow : OpenClaim := { program := "ytinjfnjhhdjklaa", sum := "93411221360ef1ff95fec8d21c4e92ac8a95ce6bbd6493c608a96e8726f8cf8e", func := "outpost/outpostlaw13.HeapTwo", spec := "heapTwo", unfollowed := true, recurses := true, apart := false }
def HeapTwoSaid : Prop := heapTwoRow.holds Try.pinned (OpenSpec.ofChange heapTwoSpec)

/-- ITS FALSE NEIGHBOUR: 'it returns false'. Refute it at one input. -/
def heapTwoWrong : ChangeSpec := { name := "heapTwo", fn := fun _ => fun
  | [d1, d2, d3, d4] => { results := [.lit (.bool false)], args := [d1, d2, d3, d4] }
  | _ => none }
def HeapTwoWrongFalsely : Prop := heapTwoRow.holds Try.pinned (OpenSpec.ofChange heapTwoWrong)

/-- 'outpostlaw13.HeapNil': WHATEVER THE INPUT: true; the input reads as it did. -/
def heapNilSpec : ChangeSpec := { name := "heapNil", fn := fun _ => fun
  | [d] => { results := [.lit (.bool true)], args := [d] }
  | _ => none }
def heapNilRow : OpenClaim := { program := "ytinjfnjhhdjklaa", sum := "93411221360ef1ff95fec8d21c4e92ac8a95ce6bbd6493c608a96e8726f8cf8e", func := "outpost/outpostlaw13.HeapNil", spec := "heapNil", unfollowed := true, recurses := true, apart := false }
def HeapNilSaid : Prop := heapNilRow.holds Try.pinned (OpenSpec.ofChange heapNilSpec)

/-- ITS FALSE NEIGHBOUR: 'it returns false'. Refute it at one input. -/
def heapNilWrong : ChangeSpec := { name := "heapNil", fn := fun _ => fun
  | [d] => { results := [.lit (.bool false)], args := [d] }
  | _ => none }
def HeapNilWrongFalsely : Prop := heapNilRow.holds Try.pinned (OpenSpec.ofChange heapNilWrong)

/- THE SECOND FORM. 'bulk': how many values and letters a reading holds, each counted each time it is reached (what is shared counts as often as it is met; a slice's spare places count too). A statement '..UptoSaid' is the law's where the arguments, and the package variables that the reading takes, are together of bulk at most 1048576: NARROWER than '..Said'. Prove '..Said' where nothing that the law and all that it calls make is longer than what came in: it says more and counts as full. Else prove '..UptoSaid'. A law counts once. -/
mutual
def uptoBulk {H : Type} : DataW H → Nat
  | .lit (.string bytes) => bytes.length + 1
  | .lit _ => 1
  | .nil => 1
  | .ptr d => uptoBulk d + 1
  | .slice elems spare => uptoBulkAll elems + uptoBulkAll spare + 1
  | .agg parts => uptoBulkAll parts + 1
  | .iface _ d => uptoBulk d + 1
  | .map entries => uptoBulkEntries entries + 1
  | .held _ => 1
def uptoBulkAll {H : Type} : List (DataW H) → Nat
  | [] => 0
  | d :: r => uptoBulk d + uptoBulkAll r
def uptoBulkEntries {H : Type} : List (Lit × DataW H) → Nat
  | [] => 0
  | x :: r => uptoBulkEntry x + uptoBulkEntries r
def uptoBulkEntry {H : Type} : Lit × DataW H → Nat
  | (.string bytes, d) => bytes.length + uptoBulk d + 1
  | (_, d) => uptoBulk d + 1
 end
def uptoSmall : (H : Type) → List (DataW H) → Bool := fun _ ds => decide (uptoBulkAll ds ≤ 1048576)
def OpenSpec.upto (s : _root_.Go.ChangeSpec) : _root_.Go.OpenSpec := { _root_.Go.OpenSpec.ofChange s with cond := some uptoSmall }

/-- 'outpostlaw13.HeapSorts', WHERE WHAT IT READS IS OF BULK AT MOST 1048576: true; the input reads as it did. -/
def heapSortsUptoRow : OpenClaim := { program := "ytinjfnjhhdjklaa", sum := "93411221360ef1ff95fec8d21c4e92ac8a95ce6bbd6493c608a96e8726f8cf8e", func := "outpost/outpostlaw13.HeapSorts", spec := "heapSorts", unfollowed := true, recurses := true, apart := false, narrowed := true }
def HeapSortsUptoSaid : Prop := heapSortsUptoRow.holds Try.pinned (OpenSpec.upto heapSortsSpec)

/-- 'outpostlaw13.HeapMark', WHERE WHAT IT READS IS OF BULK AT MOST 1048576: true; the input reads as it did. -/
def heapMarkUptoRow : OpenClaim := { program := "ytinjfnjhhdjklaa", sum := "93411221360ef1ff95fec8d21c4e92ac8a95ce6bbd6493c608a96e8726f8cf8e", func := "outpost/outpostlaw13.HeapMark", spec := "heapMark", unfollowed := true, recurses := true, apart := false, narrowed := true }
def HeapMarkUptoSaid : Prop := heapMarkUptoRow.holds Try.pinned (OpenSpec.upto heapMarkSpec)

/-- 'outpostlaw13.HeapWalks', WHERE WHAT IT READS IS OF BULK AT MOST 1048576: true; the input reads as it did. -/
def heapWalksUptoRow : OpenClaim := { program := "ytinjfnjhhdjklaa", sum := "93411221360ef1ff95fec8d21c4e92ac8a95ce6bbd6493c608a96e8726f8cf8e", func := "outpost/outpostlaw13.HeapWalks", spec := "heapWalks", unfollowed := true, recurses := true, apart := false, narrowed := true }
def HeapWalksUptoSaid : Prop := heapWalksUptoRow.holds Try.pinned (OpenSpec.upto heapWalksSpec)

/-- 'outpostlaw13.HeapPlays', WHERE WHAT IT READS IS OF BULK AT MOST 1048576: true; the input reads as it did. -/
def heapPlaysUptoRow : OpenClaim := { program := "ytinjfnjhhdjklaa", sum := "93411221360ef1ff95fec8d21c4e92ac8a95ce6bbd6493c608a96e8726f8cf8e", func := "outpost/outpostlaw13.HeapPlays", spec := "heapPlays", unfollowed := true, recurses := true, apart := false, narrowed := true }
def HeapPlaysUptoSaid : Prop := heapPlaysUptoRow.holds Try.pinned (OpenSpec.upto heapPlaysSpec)

/-- 'outpostlaw13.HeapTwo', WHERE WHAT IT READS IS OF BULK AT MOST 1048576: true; the input reads as it did. -/
def heapTwoUptoRow : OpenClaim := { program := "ytinjfnjhhdjklaa", sum := "93411221360ef1ff95fec8d21c4e92ac8a95ce6bbd6493c608a96e8726f8cf8e", func := "outpost/outpostlaw13.HeapTwo", spec := "heapTwo", unfollowed := true, recurses := true, apart := false, narrowed := true }
def HeapTwoUptoSaid : Prop := heapTwoUptoRow.holds Try.pinned (OpenSpec.upto heapTwoSpec)

/-- 'outpostlaw13.HeapNil', WHERE WHAT IT READS IS OF BULK AT MOST 1048576: true; the input reads as it did. -/
def heapNilUptoRow : OpenClaim := { program := "ytinjfnjhhdjklaa", sum := "93411221360ef1ff95fec8d21c4e92ac8a95ce6bbd6493c608a96e8726f8cf8e", func := "outpost/outpostlaw13.HeapNil", spec := "heapNil", unfollowed := true, recurses := true, apart := false, narrowed := true }
def HeapNilUptoSaid : Prop := heapNilUptoRow.holds Try.pinned (OpenSpec.upto heapNilSpec)

end Rows
end Go.Proofs.Ytinjfnjhhdjklaa
