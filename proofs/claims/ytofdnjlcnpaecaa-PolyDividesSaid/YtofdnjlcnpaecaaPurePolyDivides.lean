/- The plain statement of PolyDivides: division, the greatest common divisor and Bezout's numbers are the reference's. No condition. -/
import Derived.Test.YtofdnjlcnpaecaaBr10
set_option linter.unusedVariables false
namespace Go.Proofs.Ytofdnjlcnpaecaa.Pure
open Go.RowKit Go.Proofs.Ytofdnjlcnpaecaa.P Go.Proofs.YtofdnjlcnpaecaaW.PrintWords Go.Proofs.YtofdnjlcnpaecaaW.PrintLast

theorem PolyDivides : outpostlaw02_PolyDivides.Pure := by
  intro a0 a1 h0 h1
  obtain ⟨a, rfl, ha⟩ := u64_nat h0
  obtain ⟨b, rfl, hb⟩ := u64_nat h1
  refine Ev.rounds (g := fun k => outpostlaw02_PolyDivides.f k (a : Int) (b : Int)) ?_
  unfold outpostlaw02_PolyDivides.f
  obtain ⟨u, v, hu, hv, huv, e1, e2⟩ := bezouts ha hb
  obtain ⟨q, r, e, e3, e4⟩ : ∃ q r e : Int, Ev (fun k => poly_Div.f k (a : Int) (b : Int)) (q, r, e) ∧ Ev (fun k => outpostref02_Div.f k (a : Int) (b : Int)) (q, r, e) := by
    by_cases h : b = 0
    · subst h
      exact ⟨0, 0, 20, Ev.all fun k => poly_Div.zero k _, Ev.all fun k => by unfold outpostref02_Div.f; rw [if_pos (show ((0 : Nat) : Int) = 0 from rfl)]⟩
    · exact ⟨_, _, _, poly_Div.ev ha h hb, by
        unfold outpostref02_Div.f
        exact Ev.neg (cast_ne h) (Ev.bind (whole0 ha h hb) (Ev.now _))⟩
  refine Ev.bind e3 (Ev.bind e4 (Ev.bind e1 (Ev.bind e2 (Ev.pos rfl (Ev.pos rfl (Ev.some_bind rfl (Ev.pos rfl ?_)))))))
  refine Ev.bind (poly_Gcd.ev b a ha hb) (Ev.bind (outpostref02_Gcd.ev b a ha hb) (Ev.pos rfl (Ev.pos rfl (Ev.pos rfl (Ev.pos rfl ?_)))))
  exact Ev.live (Ev.now _)

end Go.Proofs.Ytofdnjlcnpaecaa.Pure
