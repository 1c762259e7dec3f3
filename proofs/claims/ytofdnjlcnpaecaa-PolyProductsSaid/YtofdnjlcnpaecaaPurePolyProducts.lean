/- Statement PolyProducts: for every a and b the program's product, degree and derivative are the reference's. No condition. -/
import Derived.Test.YtofdnjlcnpaecaaP7
import Derived.Test.YtofdnjlcnpaecaaBr7
namespace Go.Proofs.Ytofdnjlcnpaecaa.Pure
open Go.RowKit Go.Proofs.Ytofdnjlcnpaecaa.P Go.Proofs.YtofdnjlcnpaecaaW.PrintWords Go.Proofs.YtofdnjlcnpaecaaW.PrintLast

theorem PolyProducts : outpostlaw02_PolyProducts.Pure := by
  intro a0 a1 h0 h1
  obtain ⟨a, rfl, ha⟩ := u64_nat h0
  obtain ⟨b, rfl, hb⟩ := u64_nat h1
  refine Ev.rounds (g := fun k => outpostlaw02_PolyProducts.f k (a : Int) (b : Int)) ?_
  unfold outpostlaw02_PolyProducts.f
  refine Ev.bind (poly_Mul.ev ha hb) (Ev.bind (outpostref02_Mul.ev ha hb) (Ev.pos rfl (Ev.pos rfl ?_)))
  refine Ev.bind (poly_Degree.ev ha) (Ev.bind (outpostref02_Degree.ev ha) (Ev.pos rfl ?_))
  refine Ev.some_bind (poly_Derive.eq ha) (Ev.bind (outpostref02_Derive.ev ha) (Ev.pos rfl ?_))
  exact Ev.live (Ev.now _)

end Go.Proofs.Ytofdnjlcnpaecaa.Pure
