/- The plain statement of PolyOrders: orders and primitive polynomials are the reference's. No condition. -/
import Derived.Test.YtofdnjlcnpaecaaPPolyOrders
import Derived.Test.YtofdnjlcnpaecaaBr18
set_option linter.unusedVariables false
namespace Go.Proofs.Ytofdnjlcnpaecaa.Pure
open Go.RowKit Go.Proofs.Ytofdnjlcnpaecaa.P Go.Proofs.YtofdnjlcnpaecaaW.PrintWords Go.Proofs.YtofdnjlcnpaecaaW.PrintLast

theorem PolyOrders : outpostlaw02_PolyOrders.Pure := by
  intro a0 h0
  obtain ⟨a, rfl, ha⟩ := u64_nat h0
  refine Ev.rounds (g := fun k => outpostlaw02_PolyOrders.f k (a : Int)) ?_
  unfold outpostlaw02_PolyOrders.f
  obtain ⟨n, e, o1, o2⟩ := orders ha
  obtain ⟨b, e', p1, p2⟩ := primitives ha
  refine Ev.bind o1 (Ev.bind o2 (Ev.bind p1 (Ev.bind p2 (Ev.pos rfl (Ev.some_bind rfl (Ev.pos rfl (Ev.pos ?_ (Ev.some_bind rfl (Ev.pos rfl (Ev.live (Ev.now _)))))))))))
  exact beq_self_eq_true b
end Go.Proofs.Ytofdnjlcnpaecaa.Pure
