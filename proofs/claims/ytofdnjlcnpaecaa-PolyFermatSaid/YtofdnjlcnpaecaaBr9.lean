/- Small words on contracts that answer after some rounds. No condition. -/
import Derived.Test.YtofdnjlcnpaecaaBr8
namespace Go.Proofs.Ytofdnjlcnpaecaa.P
open Go.RowKit Go.Proofs.YtofdnjlcnpaecaaW.PrintWords Go.Proofs.YtofdnjlcnpaecaaW.PrintLast Go.Proofs.YtofdnjlcnpaecaaW.PrintMore
theorem Ev.all {α : Type} {f : Nat → Option α} {r : α} (h : ∀ k, f k = some r) : Ev f r := ⟨0, fun n _ => h n⟩
end Go.Proofs.Ytofdnjlcnpaecaa.P
