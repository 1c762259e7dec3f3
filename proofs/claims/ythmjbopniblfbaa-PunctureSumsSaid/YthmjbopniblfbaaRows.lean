/-
  No cell of these rows narrows 'for every input' (looked for: loops, veiled, ifaces, maps, wideKeys, modest, calm, conditions, laid).
  DERIVED. THE GIVEN ROWS OF THIS SEAT. 9 by the template 'for every input the law returns true; each argument reads behind the call as it read before'; 0 by the template 'total and deterministic' (their statements: YthmjbopniblfbaaTotals.lean).
  GIVEN WITH THE SEED: the statements are not yours to turn. If you find one false, say at which input.
  Laid BY PROGRAM, IN A SANDBOX (cutbox-rows.mjs): the forced cells as the released guide's own fill.sh prints them over the translation ca71009c1f22b2e6… (all of the seat's roots in one cut). By AI agents, Wed Nov 11 2026. No macro, syntax, notation, axiom, sorry.
-/
import Derived.Test.YthmjbopniblfbaaChecked
import GoSem.Claim
import GoSem.ClaimJoined
import GoSem.ClaimMapViews
import Derived.JoinedTies
import Derived.KernelRfl
namespace Go.Proofs.Ythmjbopniblfbaa
/- THE CELL 'sum', in the pinned program and in every row, IS THE sha256 OF THE DUMP (.gsa) THAT YthmjbopniblfbaaProg.lean LOADS. Nothing in Lean hashes anything: it is a label: what it is worth is what the hold of that sum in a sandbox is worth. -/
noncomputable def Try.pinned : Pinned := { name := "ythmjbopniblfbaa", sum := "ca71009c1f22b2e6abe0970873c24b630a6b519431b4ad8367a608cc22080391", checked := Try.checked }
namespace Rows
def none {H : Type} : Left H := { results := [], args := [] }

/-- 'outpostlaw34.PunctureCuts': WHATEVER THE INPUT: true; the input reads as it did. -/
def punctureCutsSpec : ChangeSpec := { name := "punctureCuts", fn := fun _ => fun
  | [d1, d2, d3] => { results := [.lit (.bool true)], args := [d1, d2, d3] }
  | _ => none }
def punctureCutsRow : OpenClaim := { program := "ythmjbopniblfbaa", sum := "ca71009c1f22b2e6abe0970873c24b630a6b519431b4ad8367a608cc22080391", func := "outpost/outpostlaw34.PunctureCuts", spec := "punctureCuts", unfollowed := true, recurses := true, apart := false }
def PunctureCutsSaid : Prop := punctureCutsRow.holds Try.pinned (OpenSpec.ofChange punctureCutsSpec)

/-- ITS FALSE NEIGHBOUR: 'it returns false'. Refute it at one input. -/
def punctureCutsWrong : ChangeSpec := { name := "punctureCuts", fn := fun _ => fun
  | [d1, d2, d3] => { results := [.lit (.bool false)], args := [d1, d2, d3] }
  | _ => none }
def PunctureCutsWrongFalsely : Prop := punctureCutsRow.holds Try.pinned (OpenSpec.ofChange punctureCutsWrong)

/-- 'outpostlaw34.PunctureFills': WHATEVER THE INPUT: true; the input reads as it did. -/
def punctureFillsSpec : ChangeSpec := { name := "punctureFills", fn := fun _ => fun
  | [d] => { results := [.lit (.bool true)], args := [d] }
  | _ => none }
def punctureFillsRow : OpenClaim := { program := "ythmjbopniblfbaa", sum := "ca71009c1f22b2e6abe0970873c24b630a6b519431b4ad8367a608cc22080391", func := "outpost/outpostlaw34.PunctureFills", spec := "punctureFills", unfollowed := true, recurses := true, apart := false }
def PunctureFillsSaid : Prop := punctureFillsRow.holds Try.pinned (OpenSpec.ofChange punctureFillsSpec)

/-- ITS FALSE NEIGHBOUR: 'it returns false'. Refute it at one input. -/
def punctureFillsWrong : ChangeSpec := { name := "punctureFills", fn := fun _ => fun
  | [d] => { results := [.lit (.bool false)], args := [d] }
  | _ => none }
def PunctureFillsWrongFalsely : Prop := punctureFillsRow.holds Try.pinned (OpenSpec.ofChange punctureFillsWrong)

/-- 'outpostlaw34.PunctureBack': WHATEVER THE INPUT: true; the input reads as it did. -/
def punctureBackSpec : ChangeSpec := { name := "punctureBack", fn := fun _ => fun
  | [d] => { results := [.lit (.bool true)], args := [d] }
  | _ => none }
def punctureBackRow : OpenClaim := { program := "ythmjbopniblfbaa", sum := "ca71009c1f22b2e6abe0970873c24b630a6b519431b4ad8367a608cc22080391", func := "outpost/outpostlaw34.PunctureBack", spec := "punctureBack", unfollowed := true, recurses := true, apart := false }
def PunctureBackSaid : Prop := punctureBackRow.holds Try.pinned (OpenSpec.ofChange punctureBackSpec)

/-- ITS FALSE NEIGHBOUR: 'it returns false'. Refute it at one input. -/
def punctureBackWrong : ChangeSpec := { name := "punctureBack", fn := fun _ => fun
  | [d] => { results := [.lit (.bool false)], args := [d] }
  | _ => none }
def PunctureBackWrongFalsely : Prop := punctureBackRow.holds Try.pinned (OpenSpec.ofChange punctureBackWrong)

/-- 'outpostlaw34.PunctureTells': WHATEVER THE INPUT: true; the input reads as it did. -/
def punctureTellsSpec : ChangeSpec := { name := "punctureTells", fn := fun _ => fun
  | [d1, d2, d3, d4] => { results := [.lit (.bool true)], args := [d1, d2, d3, d4] }
  | _ => none }
def punctureTellsRow : OpenClaim := { program := "ythmjbopniblfbaa", sum := "ca71009c1f22b2e6abe0970873c24b630a6b519431b4ad8367a608cc22080391", func := "outpost/outpostlaw34.PunctureTells", spec := "punctureTells", unfollowed := true, recurses := true, apart := false }
def PunctureTellsSaid : Prop := punctureTellsRow.holds Try.pinned (OpenSpec.ofChange punctureTellsSpec)

/-- ITS FALSE NEIGHBOUR: 'it returns false'. Refute it at one input. -/
def punctureTellsWrong : ChangeSpec := { name := "punctureTells", fn := fun _ => fun
  | [d1, d2, d3, d4] => { results := [.lit (.bool false)], args := [d1, d2, d3, d4] }
  | _ => none }
def PunctureTellsWrongFalsely : Prop := punctureTellsRow.holds Try.pinned (OpenSpec.ofChange punctureTellsWrong)

/-- 'outpostlaw34.PunctureCounts': WHATEVER THE INPUT: true; the input reads as it did. -/
def punctureCountsSpec : ChangeSpec := { name := "punctureCounts", fn := fun _ => fun
  | [d1, d2, d3] => { results := [.lit (.bool true)], args := [d1, d2, d3] }
  | _ => none }
def punctureCountsRow : OpenClaim := { program := "ythmjbopniblfbaa", sum := "ca71009c1f22b2e6abe0970873c24b630a6b519431b4ad8367a608cc22080391", func := "outpost/outpostlaw34.PunctureCounts", spec := "punctureCounts", unfollowed := true, recurses := true, apart := false }
def PunctureCountsSaid : Prop := punctureCountsRow.holds Try.pinned (OpenSpec.ofChange punctureCountsSpec)

/-- ITS FALSE NEIGHBOUR: 'it returns false'. Refute it at one input. -/
def punctureCountsWrong : ChangeSpec := { name := "punctureCounts", fn := fun _ => fun
  | [d1, d2, d3] => { results := [.lit (.bool false)], args := [d1, d2, d3] }
  | _ => none }
def PunctureCountsWrongFalsely : Prop := punctureCountsRow.holds Try.pinned (OpenSpec.ofChange punctureCountsWrong)

/-- 'outpostlaw34.PunctureWidens': WHATEVER THE INPUT: true; the input reads as it did. -/
def punctureWidensSpec : ChangeSpec := { name := "punctureWidens", fn := fun _ => fun
  | [d] => { results := [.lit (.bool true)], args := [d] }
  | _ => none }
def punctureWidensRow : OpenClaim := { program := "ythmjbopniblfbaa", sum := "ca71009c1f22b2e6abe0970873c24b630a6b519431b4ad8367a608cc22080391", func := "outpost/outpostlaw34.PunctureWidens", spec := "punctureWidens", unfollowed := true, recurses := true, apart := false }
def PunctureWidensSaid : Prop := punctureWidensRow.holds Try.pinned (OpenSpec.ofChange punctureWidensSpec)

/-- ITS FALSE NEIGHBOUR: 'it returns false'. Refute it at one input. -/
def punctureWidensWrong : ChangeSpec := { name := "punctureWidens", fn := fun _ => fun
  | [d] => { results := [.lit (.bool false)], args := [d] }
  | _ => none }
def PunctureWidensWrongFalsely : Prop := punctureWidensRow.holds Try.pinned (OpenSpec.ofChange punctureWidensWrong)

/-- 'outpostlaw34.PunctureProblems': WHATEVER THE INPUT: true; the input reads as it did. -/
def punctureProblemsSpec : ChangeSpec := { name := "punctureProblems", fn := fun _ => fun
  | [d] => { results := [.lit (.bool true)], args := [d] }
  | _ => none }
def punctureProblemsRow : OpenClaim := { program := "ythmjbopniblfbaa", sum := "ca71009c1f22b2e6abe0970873c24b630a6b519431b4ad8367a608cc22080391", func := "outpost/outpostlaw34.PunctureProblems", spec := "punctureProblems", unfollowed := true, recurses := true, apart := false }
def PunctureProblemsSaid : Prop := punctureProblemsRow.holds Try.pinned (OpenSpec.ofChange punctureProblemsSpec)

/-- ITS FALSE NEIGHBOUR: 'it returns false'. Refute it at one input. -/
def punctureProblemsWrong : ChangeSpec := { name := "punctureProblems", fn := fun _ => fun
  | [d] => { results := [.lit (.bool false)], args := [d] }
  | _ => none }
def PunctureProblemsWrongFalsely : Prop := punctureProblemsRow.holds Try.pinned (OpenSpec.ofChange punctureProblemsWrong)

/-- 'outpostlaw34.PunctureAll': WHATEVER THE INPUT: true; the input reads as it did. -/
def punctureAllSpec : ChangeSpec := { name := "punctureAll", fn := fun _ => fun
  | [d1, d2, d3] => { results := [.lit (.bool true)], args := [d1, d2, d3] }
  | _ => none }
def punctureAllRow : OpenClaim := { program := "ythmjbopniblfbaa", sum := "ca71009c1f22b2e6abe0970873c24b630a6b519431b4ad8367a608cc22080391", func := "outpost/outpostlaw34.PunctureAll", spec := "punctureAll", unfollowed := true, recurses := true, apart := false }
def PunctureAllSaid : Prop := punctureAllRow.holds Try.pinned (OpenSpec.ofChange punctureAllSpec)

/-- ITS FALSE NEIGHBOUR: 'it returns false'. Refute it at one input. -/
def punctureAllWrong : ChangeSpec := { name := "punctureAll", fn := fun _ => fun
  | [d1, d2, d3] => { results := [.lit (.bool false)], args := [d1, d2, d3] }
  | _ => none }
def PunctureAllWrongFalsely : Prop := punctureAllRow.holds Try.pinned (OpenSpec.ofChange punctureAllWrong)

/-- 'outpostlaw34.PunctureSums': WHATEVER THE INPUT: true; the input reads as it did. -/
def punctureSumsSpec : ChangeSpec := { name := "punctureSums", fn := fun _ => fun
  | [d] => { results := [.lit (.bool true)], args := [d] }
  | _ => none }
def punctureSumsRow : OpenClaim := { program := "ythmjbopniblfbaa", sum := "ca71009c1f22b2e6abe0970873c24b630a6b519431b4ad8367a608cc22080391", func := "outpost/outpostlaw34.PunctureSums", spec := "punctureSums", unfollowed := true, recurses := true, apart := false }
def PunctureSumsSaid : Prop := punctureSumsRow.holds Try.pinned (OpenSpec.ofChange punctureSumsSpec)

/-- ITS FALSE NEIGHBOUR: 'it returns false'. Refute it at one input. -/
def punctureSumsWrong : ChangeSpec := { name := "punctureSums", fn := fun _ => fun
  | [d] => { results := [.lit (.bool false)], args := [d] }
  | _ => none }
def PunctureSumsWrongFalsely : Prop := punctureSumsRow.holds Try.pinned (OpenSpec.ofChange punctureSumsWrong)

/- THE SECOND FORM. 'bulk': how many values and letters a reading holds, each counted each time it is reached (what is shared counts as often as it is met; a slice's spare places count too). A statement '..UptoSaid' is the law's where the arguments, and the package variables that the reading takes, are together of bulk at most 1048576: NARROWER than '..Said'. Prove '..Said' where nothing that the law and all that it calls make is longer than what came in: it says more and counts as full. Else prove '..UptoSaid'. A law counts once. -/
mutual
def uptoBulk {H : Type} : DataW H → Nat
  | .lit (.string bytes) => bytes.length + 1
  | .lit _ => 1
  | .nil => 1
  | .ptr d => uptoBulk d + 1
  | .slice elems spare => uptoBulkAll elems + uptoBulkAll spare + 1
  | .agg parts => uptoBulkAll parts + 1
  | .iface _ d => uptoBulk d + 1
  | .map entries => uptoBulkEntries entries + 1
  | .held _ => 1
def uptoBulkAll {H : Type} : List (DataW H) → Nat
  | [] => 0
  | d :: r => uptoBulk d + uptoBulkAll r
def uptoBulkEntries {H : Type} : List (Lit × DataW H) → Nat
  | [] => 0
  | x :: r => uptoBulkEntry x + uptoBulkEntries r
def uptoBulkEntry {H : Type} : Lit × DataW H → Nat
  | (.string bytes, d) => bytes.length + uptoBulk d + 1
  | (_, d) => uptoBulk d + 1
 end
def uptoSmall : (H : Type) → List (DataW H) → Bool := fun _ ds => decide (uptoBulkAll ds ≤ 1048576)
def OpenSpec.upto (s : _root_.Go.ChangeSpec) : _root_.Go.OpenSpec := { _root_.Go.OpenSpec.ofChange s with cond := some uptoSmall }

/-- 'outpostlaw34.PunctureCuts', WHERE WHAT IT READS IS OF BULK AT MOST 1048576: true; the input reads as it did. -/
def punctureCutsUptoRow : OpenClaim := { program := "ythmjbopniblfbaa", sum := "ca71009c1f22b2e6abe0970873c24b630a6b519431b4ad8367a608cc22080391", func := "outpost/outpostlaw34.PunctureCuts", spec := "punctureCuts", unfollowed := true, recurses := true, apart := false, narrowed := true }
def PunctureCutsUptoSaid : Prop := punctureCutsUptoRow.holds Try.pinned (OpenSpec.upto punctureCutsSpec)

/-- 'outpostlaw34.PunctureFills', WHERE WHAT IT READS IS OF BULK AT MOST 1048576: true; the input reads as it did. -/
def punctureFillsUptoRow : OpenClaim := { program := "ythmjbopniblfbaa", sum := "ca71009c1f22b2e6abe0970873c24b630a6b519431b4ad8367a608cc22080391", func := "outpost/outpostlaw34.PunctureFills", spec := "punctureFills", unfollowed := true, recurses := true, apart := false, narrowed := true }
def PunctureFillsUptoSaid : Prop := punctureFillsUptoRow.holds Try.pinned (OpenSpec.upto punctureFillsSpec)

/-- 'outpostlaw34.PunctureBack', WHERE WHAT IT READS IS OF BULK AT MOST 1048576: true; the input reads as it did. -/
def punctureBackUptoRow : OpenClaim := { program := "ythmjbopniblfbaa", sum := "ca71009c1f22b2e6abe0970873c24b630a6b519431b4ad8367a608cc22080391", func := "outpost/outpostlaw34.PunctureBack", spec := "punctureBack", unfollowed := true, recurses := true, apart := false, narrowed := true }
def PunctureBackUptoSaid : Prop := punctureBackUptoRow.holds Try.pinned (OpenSpec.upto punctureBackSpec)

/-- 'outpostlaw34.PunctureTells', WHERE WHAT IT READS IS OF BULK AT MOST 1048576: true; the input reads as it did. -/
def punctureTellsUptoRow : OpenClaim := { program := "ythmjbopniblfbaa", sum := "ca71009c1f22b2e6abe0970873c24b630a6b519431b4ad8367a608cc22080391", func := "outpost/outpostlaw34.PunctureTells", spec := "punctureTells", unfollowed := true, recurses := true, apart := false, narrowed := true }
def PunctureTellsUptoSaid : Prop := punctureTellsUptoRow.holds Try.pinned (OpenSpec.upto punctureTellsSpec)

/-- 'outpostlaw34.PunctureCounts', WHERE WHAT IT READS IS OF BULK AT MOST 1048576: true; the input reads as it did. -/
def punctureCountsUptoRow : OpenClaim := { program := "ythmjbopniblfbaa", sum := "ca71009c1f22b2e6abe0970873c24b630a6b519431b4ad8367a608cc22080391", func := "outpost/outpostlaw34.PunctureCounts", spec := "punctureCounts", unfollowed := true, recurses := true, apart := false, narrowed := true }
def PunctureCountsUptoSaid : Prop := punctureCountsUptoRow.holds Try.pinned (OpenSpec.upto punctureCountsSpec)

/-- 'outpostlaw34.PunctureWidens', WHERE WHAT IT READS IS OF BULK AT MOST 1048576: true; the input reads as it did. -/
def punctureWidensUptoRow : OpenClaim := { program := "ythmjbopniblfbaa", sum := "ca71009c1f22b2e6abe0970873c24b630a6b519431b4ad8367a608cc22080391", func := "outpost/outpostlaw34.PunctureWidens", spec := "punctureWidens", unfollowed := true, recurses := true, apart := false, narrowed := true }
def PunctureWidensUptoSaid : Prop := punctureWidensUptoRow.holds Try.pinned (OpenSpec.upto punctureWidensSpec)

/-- 'outpostlaw34.PunctureProblems', WHERE WHAT IT READS IS OF BULK AT MOST 1048576: true; the input reads as it did. -/
def punctureProblemsUptoRow : OpenClaim := { program := "ythmjbopniblfbaa", sum := "ca71009c1f22b2e6abe0970873c24b630a6b519431b4ad8367a608cc22080391", func := "outpost/outpostlaw34.PunctureProblems", spec := "punctureProblems", unfollowed := true, recurses := true, apart := false, narrowed := true }
def PunctureProblemsUptoSaid : Prop := punctureProblemsUptoRow.holds Try.pinned (OpenSpec.upto punctureProblemsSpec)

/-- 'outpostlaw34.PunctureAll', WHERE WHAT IT READS IS OF BULK AT MOST 1048576: true; the input reads as it did. -/
def punctureAllUptoRow : OpenClaim := { program := "ythmjbopniblfbaa", sum := "ca71009c1f22b2e6abe0970873c24b630a6b519431b4ad8367a608cc22080391", func := "outpost/outpostlaw34.PunctureAll", spec := "punctureAll", unfollowed := true, recurses := true, apart := false, narrowed := true }
def PunctureAllUptoSaid : Prop := punctureAllUptoRow.holds Try.pinned (OpenSpec.upto punctureAllSpec)

/-- 'outpostlaw34.PunctureSums', WHERE WHAT IT READS IS OF BULK AT MOST 1048576: true; the input reads as it did. -/
def punctureSumsUptoRow : OpenClaim := { program := "ythmjbopniblfbaa", sum := "ca71009c1f22b2e6abe0970873c24b630a6b519431b4ad8367a608cc22080391", func := "outpost/outpostlaw34.PunctureSums", spec := "punctureSums", unfollowed := true, recurses := true, apart := false, narrowed := true }
def PunctureSumsUptoSaid : Prop := punctureSumsUptoRow.holds Try.pinned (OpenSpec.upto punctureSumsSpec)

end Rows
end Go.Proofs.Ythmjbopniblfbaa
