/-
  No cell of these rows narrows 'for every input' (looked for: loops, veiled, ifaces, maps, wideKeys, modest, calm, conditions, laid).
  DERIVED. THE GIVEN ROWS OF THIS SEAT. 13 by the template 'for every input the law returns true; each argument reads behind the call as it read before'; 0 by the template 'total and deterministic' (their statements: YtofdnjlcnpaecaaTotals.lean).
  GIVEN WITH THE SEED: the statements are not yours to turn. If you find one false, say at which input.
  Laid BY PROGRAM, IN A SANDBOX (cutbox-rows.mjs): the forced cells as the released guide's own fill.sh prints them over the translation f6e579ef3274b6b5… (all of the seat's roots in one cut). By AI agents, Wed Nov 11 2026. No macro, syntax, notation, axiom, sorry.
-/
import Derived.Test.YtofdnjlcnpaecaaChecked
import GoSem.Claim
import GoSem.ClaimJoined
import GoSem.ClaimMapViews
import Derived.JoinedTies
import Derived.KernelRfl
namespace Go.Proofs.Ytofdnjlcnpaecaa
/- THE CELL 'sum', in the pinned program and in every row, IS THE sha256 OF THE DUMP (.gsa) THAT YtofdnjlcnpaecaaProg.lean LOADS. Nothing in Lean hashes anything: it is a label: what it is worth is what the hold of that sum in a sandbox is worth. -/
noncomputable def Try.pinned : Pinned := { name := "ytofdnjlcnpaecaa", sum := "f6e579ef3274b6b542e79388a6a02e3f1219fe41ab7d4ad131309f04d6fead05", checked := Try.checked }
namespace Rows
def none {H : Type} : Left H := { results := [], args := [] }

/-- 'outpostlaw02.PolyProducts': WHATEVER THE INPUT: true; the input reads as it did. -/
def polyProductsSpec : ChangeSpec := { name := "polyProducts", fn := fun _ => fun
  | [d1, d2] => { results := [.lit (.bool true)], args := [d1, d2] }
  | _ => none }
def polyProductsRow : OpenClaim := { program := "ytofdnjlcnpaecaa", sum := "f6e579ef3274b6b542e79388a6a02e3f1219fe41ab7d4ad131309f04d6fead05", func := "outpost/outpostlaw02.PolyProducts", spec := "polyProducts", unfollowed := true, recurses := true, apart := false }
def PolyProductsSaid : Prop := polyProductsRow.holds Try.pinned (OpenSpec.ofChange polyProductsSpec)

/-- ITS FALSE NEIGHBOUR: 'it returns false'. Refute it at one input. -/
def polyProductsWrong : ChangeSpec := { name := "polyProducts", fn := fun _ => fun
  | [d1, d2] => { results := [.lit (.bool false)], args := [d1, d2] }
  | _ => none }
def PolyProductsWrongFalsely : Prop := polyProductsRow.holds Try.pinned (OpenSpec.ofChange polyProductsWrong)

/-- 'outpostlaw02.PolyRing': WHATEVER THE INPUT: true; the input reads as it did. -/
def polyRingSpec : ChangeSpec := { name := "polyRing", fn := fun _ => fun
  | [d] => { results := [.lit (.bool true)], args := [d] }
  | _ => none }
def polyRingRow : OpenClaim := { program := "ytofdnjlcnpaecaa", sum := "f6e579ef3274b6b542e79388a6a02e3f1219fe41ab7d4ad131309f04d6fead05", func := "outpost/outpostlaw02.PolyRing", spec := "polyRing", unfollowed := true, recurses := true, apart := false }
def PolyRingSaid : Prop := polyRingRow.holds Try.pinned (OpenSpec.ofChange polyRingSpec)

/-- ITS FALSE NEIGHBOUR: 'it returns false'. Refute it at one input. -/
def polyRingWrong : ChangeSpec := { name := "polyRing", fn := fun _ => fun
  | [d] => { results := [.lit (.bool false)], args := [d] }
  | _ => none }
def PolyRingWrongFalsely : Prop := polyRingRow.holds Try.pinned (OpenSpec.ofChange polyRingWrong)

/-- 'outpostlaw02.PolyDerived': WHATEVER THE INPUT: true; the input reads as it did. -/
def polyDerivedSpec : ChangeSpec := { name := "polyDerived", fn := fun _ => fun
  | [d1, d2] => { results := [.lit (.bool true)], args := [d1, d2] }
  | _ => none }
def polyDerivedRow : OpenClaim := { program := "ytofdnjlcnpaecaa", sum := "f6e579ef3274b6b542e79388a6a02e3f1219fe41ab7d4ad131309f04d6fead05", func := "outpost/outpostlaw02.PolyDerived", spec := "polyDerived", unfollowed := true, recurses := true, apart := false }
def PolyDerivedSaid : Prop := polyDerivedRow.holds Try.pinned (OpenSpec.ofChange polyDerivedSpec)

/-- ITS FALSE NEIGHBOUR: 'it returns false'. Refute it at one input. -/
def polyDerivedWrong : ChangeSpec := { name := "polyDerived", fn := fun _ => fun
  | [d1, d2] => { results := [.lit (.bool false)], args := [d1, d2] }
  | _ => none }
def PolyDerivedWrongFalsely : Prop := polyDerivedRow.holds Try.pinned (OpenSpec.ofChange polyDerivedWrong)

/-- 'outpostlaw02.PolyTurns': WHATEVER THE INPUT: true; the input reads as it did. -/
def polyTurnsSpec : ChangeSpec := { name := "polyTurns", fn := fun _ => fun
  | [d1, d2] => { results := [.lit (.bool true)], args := [d1, d2] }
  | _ => none }
def polyTurnsRow : OpenClaim := { program := "ytofdnjlcnpaecaa", sum := "f6e579ef3274b6b542e79388a6a02e3f1219fe41ab7d4ad131309f04d6fead05", func := "outpost/outpostlaw02.PolyTurns", spec := "polyTurns", unfollowed := true, recurses := true, apart := false }
def PolyTurnsSaid : Prop := polyTurnsRow.holds Try.pinned (OpenSpec.ofChange polyTurnsSpec)

/-- ITS FALSE NEIGHBOUR: 'it returns false'. Refute it at one input. -/
def polyTurnsWrong : ChangeSpec := { name := "polyTurns", fn := fun _ => fun
  | [d1, d2] => { results := [.lit (.bool false)], args := [d1, d2] }
  | _ => none }
def PolyTurnsWrongFalsely : Prop := polyTurnsRow.holds Try.pinned (OpenSpec.ofChange polyTurnsWrong)

/-- 'outpostlaw02.PolyReversed': WHATEVER THE INPUT: true; the input reads as it did. -/
def polyReversedSpec : ChangeSpec := { name := "polyReversed", fn := fun _ => fun
  | [d] => { results := [.lit (.bool true)], args := [d] }
  | _ => none }
def polyReversedRow : OpenClaim := { program := "ytofdnjlcnpaecaa", sum := "f6e579ef3274b6b542e79388a6a02e3f1219fe41ab7d4ad131309f04d6fead05", func := "outpost/outpostlaw02.PolyReversed", spec := "polyReversed", unfollowed := true, recurses := true, apart := false }
def PolyReversedSaid : Prop := polyReversedRow.holds Try.pinned (OpenSpec.ofChange polyReversedSpec)

/-- ITS FALSE NEIGHBOUR: 'it returns false'. Refute it at one input. -/
def polyReversedWrong : ChangeSpec := { name := "polyReversed", fn := fun _ => fun
  | [d] => { results := [.lit (.bool false)], args := [d] }
  | _ => none }
def PolyReversedWrongFalsely : Prop := polyReversedRow.holds Try.pinned (OpenSpec.ofChange polyReversedWrong)

/-- 'outpostlaw02.PolyPowers': WHATEVER THE INPUT: true; the input reads as it did. -/
def polyPowersSpec : ChangeSpec := { name := "polyPowers", fn := fun _ => fun
  | [d] => { results := [.lit (.bool true)], args := [d] }
  | _ => none }
def polyPowersRow : OpenClaim := { program := "ytofdnjlcnpaecaa", sum := "f6e579ef3274b6b542e79388a6a02e3f1219fe41ab7d4ad131309f04d6fead05", func := "outpost/outpostlaw02.PolyPowers", spec := "polyPowers", unfollowed := true, recurses := true, apart := false }
def PolyPowersSaid : Prop := polyPowersRow.holds Try.pinned (OpenSpec.ofChange polyPowersSpec)

/-- ITS FALSE NEIGHBOUR: 'it returns false'. Refute it at one input. -/
def polyPowersWrong : ChangeSpec := { name := "polyPowers", fn := fun _ => fun
  | [d] => { results := [.lit (.bool false)], args := [d] }
  | _ => none }
def PolyPowersWrongFalsely : Prop := polyPowersRow.holds Try.pinned (OpenSpec.ofChange polyPowersWrong)

/-- 'outpostlaw02.PolyFactors': WHATEVER THE INPUT: true; the input reads as it did. -/
def polyFactorsSpec : ChangeSpec := { name := "polyFactors", fn := fun _ => fun
  | [d] => { results := [.lit (.bool true)], args := [d] }
  | _ => none }
def polyFactorsRow : OpenClaim := { program := "ytofdnjlcnpaecaa", sum := "f6e579ef3274b6b542e79388a6a02e3f1219fe41ab7d4ad131309f04d6fead05", func := "outpost/outpostlaw02.PolyFactors", spec := "polyFactors", unfollowed := true, recurses := true, apart := false }
def PolyFactorsSaid : Prop := polyFactorsRow.holds Try.pinned (OpenSpec.ofChange polyFactorsSpec)

/-- ITS FALSE NEIGHBOUR: 'it returns false'. Refute it at one input. -/
def polyFactorsWrong : ChangeSpec := { name := "polyFactors", fn := fun _ => fun
  | [d] => { results := [.lit (.bool false)], args := [d] }
  | _ => none }
def PolyFactorsWrongFalsely : Prop := polyFactorsRow.holds Try.pinned (OpenSpec.ofChange polyFactorsWrong)

/-- 'outpostlaw02.PolyOneWay': WHATEVER THE INPUT: true; the input reads as it did. -/
def polyOneWaySpec : ChangeSpec := { name := "polyOneWay", fn := fun _ => fun
  | [d1, d2] => { results := [.lit (.bool true)], args := [d1, d2] }
  | _ => none }
def polyOneWayRow : OpenClaim := { program := "ytofdnjlcnpaecaa", sum := "f6e579ef3274b6b542e79388a6a02e3f1219fe41ab7d4ad131309f04d6fead05", func := "outpost/outpostlaw02.PolyOneWay", spec := "polyOneWay", unfollowed := true, recurses := true, apart := false }
def PolyOneWaySaid : Prop := polyOneWayRow.holds Try.pinned (OpenSpec.ofChange polyOneWaySpec)

/-- ITS FALSE NEIGHBOUR: 'it returns false'. Refute it at one input. -/
def polyOneWayWrong : ChangeSpec := { name := "polyOneWay", fn := fun _ => fun
  | [d1, d2] => { results := [.lit (.bool false)], args := [d1, d2] }
  | _ => none }
def PolyOneWayWrongFalsely : Prop := polyOneWayRow.holds Try.pinned (OpenSpec.ofChange polyOneWayWrong)

/-- 'outpostlaw02.PolyCycles': WHATEVER THE INPUT: true; the input reads as it did. -/
def polyCyclesSpec : ChangeSpec := { name := "polyCycles", fn := fun _ => fun
  | [d1, d2] => { results := [.lit (.bool true)], args := [d1, d2] }
  | _ => none }
def polyCyclesRow : OpenClaim := { program := "ytofdnjlcnpaecaa", sum := "f6e579ef3274b6b542e79388a6a02e3f1219fe41ab7d4ad131309f04d6fead05", func := "outpost/outpostlaw02.PolyCycles", spec := "polyCycles", unfollowed := true, recurses := true, apart := false }
def PolyCyclesSaid : Prop := polyCyclesRow.holds Try.pinned (OpenSpec.ofChange polyCyclesSpec)

/-- ITS FALSE NEIGHBOUR: 'it returns false'. Refute it at one input. -/
def polyCyclesWrong : ChangeSpec := { name := "polyCycles", fn := fun _ => fun
  | [d1, d2] => { results := [.lit (.bool false)], args := [d1, d2] }
  | _ => none }
def PolyCyclesWrongFalsely : Prop := polyCyclesRow.holds Try.pinned (OpenSpec.ofChange polyCyclesWrong)

/-- 'outpostlaw02.PolyDivides': WHATEVER THE INPUT: true; the input reads as it did. -/
def polyDividesSpec : ChangeSpec := { name := "polyDivides", fn := fun _ => fun
  | [d1, d2] => { results := [.lit (.bool true)], args := [d1, d2] }
  | _ => none }
def polyDividesRow : OpenClaim := { program := "ytofdnjlcnpaecaa", sum := "f6e579ef3274b6b542e79388a6a02e3f1219fe41ab7d4ad131309f04d6fead05", func := "outpost/outpostlaw02.PolyDivides", spec := "polyDivides", unfollowed := true, recurses := true, apart := false }
def PolyDividesSaid : Prop := polyDividesRow.holds Try.pinned (OpenSpec.ofChange polyDividesSpec)

/-- ITS FALSE NEIGHBOUR: 'it returns false'. Refute it at one input. -/
def polyDividesWrong : ChangeSpec := { name := "polyDivides", fn := fun _ => fun
  | [d1, d2] => { results := [.lit (.bool false)], args := [d1, d2] }
  | _ => none }
def PolyDividesWrongFalsely : Prop := polyDividesRow.holds Try.pinned (OpenSpec.ofChange polyDividesWrong)

/-- 'outpostlaw02.PolyOrders': WHATEVER THE INPUT: true; the input reads as it did. -/
def polyOrdersSpec : ChangeSpec := { name := "polyOrders", fn := fun _ => fun
  | [d] => { results := [.lit (.bool true)], args := [d] }
  | _ => none }
def polyOrdersRow : OpenClaim := { program := "ytofdnjlcnpaecaa", sum := "f6e579ef3274b6b542e79388a6a02e3f1219fe41ab7d4ad131309f04d6fead05", func := "outpost/outpostlaw02.PolyOrders", spec := "polyOrders", unfollowed := true, recurses := true, apart := false }
def PolyOrdersSaid : Prop := polyOrdersRow.holds Try.pinned (OpenSpec.ofChange polyOrdersSpec)

/-- ITS FALSE NEIGHBOUR: 'it returns false'. Refute it at one input. -/
def polyOrdersWrong : ChangeSpec := { name := "polyOrders", fn := fun _ => fun
  | [d] => { results := [.lit (.bool false)], args := [d] }
  | _ => none }
def PolyOrdersWrongFalsely : Prop := polyOrdersRow.holds Try.pinned (OpenSpec.ofChange polyOrdersWrong)

/-- 'outpostlaw02.PolyCommon': WHATEVER THE INPUT: true; the input reads as it did. -/
def polyCommonSpec : ChangeSpec := { name := "polyCommon", fn := fun _ => fun
  | [d] => { results := [.lit (.bool true)], args := [d] }
  | _ => none }
def polyCommonRow : OpenClaim := { program := "ytofdnjlcnpaecaa", sum := "f6e579ef3274b6b542e79388a6a02e3f1219fe41ab7d4ad131309f04d6fead05", func := "outpost/outpostlaw02.PolyCommon", spec := "polyCommon", unfollowed := true, recurses := true, apart := false }
def PolyCommonSaid : Prop := polyCommonRow.holds Try.pinned (OpenSpec.ofChange polyCommonSpec)

/-- ITS FALSE NEIGHBOUR: 'it returns false'. Refute it at one input. -/
def polyCommonWrong : ChangeSpec := { name := "polyCommon", fn := fun _ => fun
  | [d] => { results := [.lit (.bool false)], args := [d] }
  | _ => none }
def PolyCommonWrongFalsely : Prop := polyCommonRow.holds Try.pinned (OpenSpec.ofChange polyCommonWrong)

/-- 'outpostlaw02.PolyFermat': WHATEVER THE INPUT: true; the input reads as it did. -/
def polyFermatSpec : ChangeSpec := { name := "polyFermat", fn := fun _ => fun
  | [d1, d2] => { results := [.lit (.bool true)], args := [d1, d2] }
  | _ => none }
def polyFermatRow : OpenClaim := { program := "ytofdnjlcnpaecaa", sum := "f6e579ef3274b6b542e79388a6a02e3f1219fe41ab7d4ad131309f04d6fead05", func := "outpost/outpostlaw02.PolyFermat", spec := "polyFermat", unfollowed := true, recurses := true, apart := false }
def PolyFermatSaid : Prop := polyFermatRow.holds Try.pinned (OpenSpec.ofChange polyFermatSpec)

/-- ITS FALSE NEIGHBOUR: 'it returns false'. Refute it at one input. -/
def polyFermatWrong : ChangeSpec := { name := "polyFermat", fn := fun _ => fun
  | [d1, d2] => { results := [.lit (.bool false)], args := [d1, d2] }
  | _ => none }
def PolyFermatWrongFalsely : Prop := polyFermatRow.holds Try.pinned (OpenSpec.ofChange polyFermatWrong)

/- THE SECOND FORM. 'bulk': how many values and letters a reading holds, each counted each time it is reached (what is shared counts as often as it is met; a slice's spare places count too). A statement '..UptoSaid' is the law's where the arguments, and the package variables that the reading takes, are together of bulk at most 1048576: NARROWER than '..Said'. Prove '..Said' where nothing that the law and all that it calls make is longer than what came in: it says more and counts as full. Else prove '..UptoSaid'. A law counts once. -/
mutual
def uptoBulk {H : Type} : DataW H → Nat
  | .lit (.string bytes) => bytes.length + 1
  | .lit _ => 1
  | .nil => 1
  | .ptr d => uptoBulk d + 1
  | .slice elems spare => uptoBulkAll elems + uptoBulkAll spare + 1
  | .agg parts => uptoBulkAll parts + 1
  | .iface _ d => uptoBulk d + 1
  | .map entries => uptoBulkEntries entries + 1
  | .held _ => 1
def uptoBulkAll {H : Type} : List (DataW H) → Nat
  | [] => 0
  | d :: r => uptoBulk d + uptoBulkAll r
def uptoBulkEntries {H : Type} : List (Lit × DataW H) → Nat
  | [] => 0
  | x :: r => uptoBulkEntry x + uptoBulkEntries r
def uptoBulkEntry {H : Type} : Lit × DataW H → Nat
  | (.string bytes, d) => bytes.length + uptoBulk d + 1
  | (_, d) => uptoBulk d + 1
 end
def uptoSmall : (H : Type) → List (DataW H) → Bool := fun _ ds => decide (uptoBulkAll ds ≤ 1048576)
def OpenSpec.upto (s : _root_.Go.ChangeSpec) : _root_.Go.OpenSpec := { _root_.Go.OpenSpec.ofChange s with cond := some uptoSmall }

/-- 'outpostlaw02.PolyProducts', WHERE WHAT IT READS IS OF BULK AT MOST 1048576: true; the input reads as it did. -/
def polyProductsUptoRow : OpenClaim := { program := "ytofdnjlcnpaecaa", sum := "f6e579ef3274b6b542e79388a6a02e3f1219fe41ab7d4ad131309f04d6fead05", func := "outpost/outpostlaw02.PolyProducts", spec := "polyProducts", unfollowed := true, recurses := true, apart := false, narrowed := true }
def PolyProductsUptoSaid : Prop := polyProductsUptoRow.holds Try.pinned (OpenSpec.upto polyProductsSpec)

/-- 'outpostlaw02.PolyRing', WHERE WHAT IT READS IS OF BULK AT MOST 1048576: true; the input reads as it did. -/
def polyRingUptoRow : OpenClaim := { program := "ytofdnjlcnpaecaa", sum := "f6e579ef3274b6b542e79388a6a02e3f1219fe41ab7d4ad131309f04d6fead05", func := "outpost/outpostlaw02.PolyRing", spec := "polyRing", unfollowed := true, recurses := true, apart := false, narrowed := true }
def PolyRingUptoSaid : Prop := polyRingUptoRow.holds Try.pinned (OpenSpec.upto polyRingSpec)

/-- 'outpostlaw02.PolyDerived', WHERE WHAT IT READS IS OF BULK AT MOST 1048576: true; the input reads as it did. -/
def polyDerivedUptoRow : OpenClaim := { program := "ytofdnjlcnpaecaa", sum := "f6e579ef3274b6b542e79388a6a02e3f1219fe41ab7d4ad131309f04d6fead05", func := "outpost/outpostlaw02.PolyDerived", spec := "polyDerived", unfollowed := true, recurses := true, apart := false, narrowed := true }
def PolyDerivedUptoSaid : Prop := polyDerivedUptoRow.holds Try.pinned (OpenSpec.upto polyDerivedSpec)

/-- 'outpostlaw02.PolyTurns', WHERE WHAT IT READS IS OF BULK AT MOST 1048576: true; the input reads as it did. -/
def polyTurnsUptoRow : OpenClaim := { program := "ytofdnjlcnpaecaa", sum := "f6e579ef3274b6b542e79388a6a02e3f1219fe41ab7d4ad131309f04d6fead05", func := "outpost/outpostlaw02.PolyTurns", spec := "polyTurns", unfollowed := true, recurses := true, apart := false, narrowed := true }
def PolyTurnsUptoSaid : Prop := polyTurnsUptoRow.holds Try.pinned (OpenSpec.upto polyTurnsSpec)

/-- 'outpostlaw02.PolyReversed', WHERE WHAT IT READS IS OF BULK AT MOST 1048576: true; the input reads as it did. -/
def polyReversedUptoRow : OpenClaim := { program := "ytofdnjlcnpaecaa", sum := "f6e579ef3274b6b542e79388a6a02e3f1219fe41ab7d4ad131309f04d6fead05", func := "outpost/outpostlaw02.PolyReversed", spec := "polyReversed", unfollowed := true, recurses := true, apart := false, narrowed := true }
def PolyReversedUptoSaid : Prop := polyReversedUptoRow.holds Try.pinned (OpenSpec.upto polyReversedSpec)

/-- 'outpostlaw02.PolyPowers', WHERE WHAT IT READS IS OF BULK AT MOST 1048576: true; the input reads as it did. -/
def polyPowersUptoRow : OpenClaim := { program := "ytofdnjlcnpaecaa", sum := "f6e579ef3274b6b542e79388a6a02e3f1219fe41ab7d4ad131309f04d6fead05", func := "outpost/outpostlaw02.PolyPowers", spec := "polyPowers", unfollowed := true, recurses := true, apart := false, narrowed := true }
def PolyPowersUptoSaid : Prop := polyPowersUptoRow.holds Try.pinned (OpenSpec.upto polyPowersSpec)

/-- 'outpostlaw02.PolyFactors', WHERE WHAT IT READS IS OF BULK AT MOST 1048576: true; the input reads as it did. -/
def polyFactorsUptoRow : OpenClaim := { program := "ytofdnjlcnpaecaa", sum := "f6e579ef3274b6b542e79388a6a02e3f1219fe41ab7d4ad131309f04d6fead05", func := "outpost/outpostlaw02.PolyFactors", spec := "polyFactors", unfollowed := true, recurses := true, apart := false, narrowed := true }
def PolyFactorsUptoSaid : Prop := polyFactorsUptoRow.holds Try.pinned (OpenSpec.upto polyFactorsSpec)

/-- 'outpostlaw02.PolyOneWay', WHERE WHAT IT READS IS OF BULK AT MOST 1048576: true; the input reads as it did. -/
def polyOneWayUptoRow : OpenClaim := { program := "ytofdnjlcnpaecaa", sum := "f6e579ef3274b6b542e79388a6a02e3f1219fe41ab7d4ad131309f04d6fead05", func := "outpost/outpostlaw02.PolyOneWay", spec := "polyOneWay", unfollowed := true, recurses := true, apart := false, narrowed := true }
def PolyOneWayUptoSaid : Prop := polyOneWayUptoRow.holds Try.pinned (OpenSpec.upto polyOneWaySpec)

/-- 'outpostlaw02.PolyCycles', WHERE WHAT IT READS IS OF BULK AT MOST 1048576: true; the input reads as it did. -/
def polyCyclesUptoRow : OpenClaim := { program := "ytofdnjlcnpaecaa", sum := "f6e579ef3274b6b542e79388a6a02e3f1219fe41ab7d4ad131309f04d6fead05", func := "outpost/outpostlaw02.PolyCycles", spec := "polyCycles", unfollowed := true, recurses := true, apart := false, narrowed := true }
def PolyCyclesUptoSaid : Prop := polyCyclesUptoRow.holds Try.pinned (OpenSpec.upto polyCyclesSpec)

/-- 'outpostlaw02.PolyDivides', WHERE WHAT IT READS IS OF BULK AT MOST 1048576: true; the input reads as it did. -/
def polyDividesUptoRow : OpenClaim := { program := "ytofdnjlcnpaecaa", sum := "f6e579ef3274b6b542e79388a6a02e3f1219fe41ab7d4ad131309f04d6fead05", func := "outpost/outpostlaw02.PolyDivides", spec := "polyDivides", unfollowed := true, recurses := true, apart := false, narrowed := true }
def PolyDividesUptoSaid : Prop := polyDividesUptoRow.holds Try.pinned (OpenSpec.upto polyDividesSpec)

/-- 'outpostlaw02.PolyOrders', WHERE WHAT IT READS IS OF BULK AT MOST 1048576: true; the input reads as it did. -/
def polyOrdersUptoRow : OpenClaim := { program := "ytofdnjlcnpaecaa", sum := "f6e579ef3274b6b542e79388a6a02e3f1219fe41ab7d4ad131309f04d6fead05", func := "outpost/outpostlaw02.PolyOrders", spec := "polyOrders", unfollowed := true, recurses := true, apart := false, narrowed := true }
def PolyOrdersUptoSaid : Prop := polyOrdersUptoRow.holds Try.pinned (OpenSpec.upto polyOrdersSpec)

/-- 'outpostlaw02.PolyCommon', WHERE WHAT IT READS IS OF BULK AT MOST 1048576: true; the input reads as it did. -/
def polyCommonUptoRow : OpenClaim := { program := "ytofdnjlcnpaecaa", sum := "f6e579ef3274b6b542e79388a6a02e3f1219fe41ab7d4ad131309f04d6fead05", func := "outpost/outpostlaw02.PolyCommon", spec := "polyCommon", unfollowed := true, recurses := true, apart := false, narrowed := true }
def PolyCommonUptoSaid : Prop := polyCommonUptoRow.holds Try.pinned (OpenSpec.upto polyCommonSpec)

/-- 'outpostlaw02.PolyFermat', WHERE WHAT IT READS IS OF BULK AT MOST 1048576: true; the input reads as it did. -/
def polyFermatUptoRow : OpenClaim := { program := "ytofdnjlcnpaecaa", sum := "f6e579ef3274b6b542e79388a6a02e3f1219fe41ab7d4ad131309f04d6fead05", func := "outpost/outpostlaw02.PolyFermat", spec := "polyFermat", unfollowed := true, recurses := true, apart := false, narrowed := true }
def PolyFermatUptoSaid : Prop := polyFermatUptoRow.holds Try.pinned (OpenSpec.upto polyFermatSpec)

end Rows
end Go.Proofs.Ytofdnjlcnpaecaa
