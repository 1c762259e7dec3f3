/- The plain statement of PolyTurns: a word turned around is the reference's. No condition. -/
import Derived.Test.YtofdnjlcnpaecaaPPolyTurns
import Derived.Test.YtofdnjlcnpaecaaBr12
set_option linter.unusedVariables false
namespace Go.Proofs.Ytofdnjlcnpaecaa.Pure
open Go.RowKit Go.Proofs.Ytofdnjlcnpaecaa.P Go.Proofs.YtofdnjlcnpaecaaW.PrintWords Go.Proofs.YtofdnjlcnpaecaaW.PrintLast

theorem PolyTurns : outpostlaw02_PolyTurns.Pure := by
  intro a0 n h0 h1
  obtain ⟨a, rfl, ha⟩ := u64_nat h0
  refine Ev.rounds (g := fun k => outpostlaw02_PolyTurns.f k (a : Int) n) ?_
  unfold outpostlaw02_PolyTurns.f
  by_cases hk : rvOk a n
  · obtain ⟨k1, k2, k3⟩ := hk
    obtain ⟨m, rfl⟩ : ∃ m : Nat, n = m := ⟨n.toNat, by omega⟩
    exact Ev.bind (poly_Reverse.ev ha (by omega) k3) (Ev.bind (outpostref02_Reverse.ev ha (by omega) k3) (Ev.pos rfl (Ev.some_bind rfl (Ev.pos rfl (Ev.live (Ev.now _))))))
  · exact Ev.bind (poly_Reverse.bad ha hk) (Ev.bind (outpostref02_Reverse.bad ha hk) (Ev.pos rfl (Ev.some_bind rfl (Ev.pos rfl (Ev.live (Ev.now _))))))
end Go.Proofs.Ytofdnjlcnpaecaa.Pure
