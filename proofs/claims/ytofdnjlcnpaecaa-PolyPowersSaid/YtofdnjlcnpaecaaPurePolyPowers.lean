/- The plain statement of PolyPowers: product and power of a residue are the reference's. No condition. -/
import Derived.Test.YtofdnjlcnpaecaaP12
import Derived.Test.YtofdnjlcnpaecaaBr9
namespace Go.Proofs.Ytofdnjlcnpaecaa.Pure
open Go.RowKit Go.Proofs.Ytofdnjlcnpaecaa.P Go.Proofs.YtofdnjlcnpaecaaW.PrintWords Go.Proofs.YtofdnjlcnpaecaaW.PrintLast

theorem PolyPowers : ∀ a0 a1 a2 a3 : Int, (Lit.int .u64 a0).wf = true → (Lit.int .u64 a1).wf = true → (Lit.int .u64 a2).wf = true → (Lit.int .u64 a3).wf = true → ∃ k, outpostlaw02_PolyPowers.f k a0 a1 a2 a3 = some true := by
  intro a0 a1 a2 a3 h0 h1 h2 h3
  obtain ⟨a, rfl, ha⟩ := u64_nat h0
  obtain ⟨b, rfl, hb⟩ := u64_nat h1
  obtain ⟨n, rfl, hn⟩ := u64_nat h2
  obtain ⟨m, rfl, hm⟩ := u64_nat h3
  refine Ev.rounds (g := fun k => outpostlaw02_PolyPowers.f k (a : Int) (b : Int) (n : Int) (m : Int)) ?_
  unfold outpostlaw02_PolyPowers.f
  by_cases m0 : m = 0
  · subst m0
    have z1 : Ev (fun k => poly_MulMod.f k (a : Int) (b : Int) ((0 : Nat) : Int)) (0, 20) := Ev.all fun k => by unfold poly_MulMod.f; rw [if_pos (show ((0 : Nat) : Int) = 0 from rfl)]
    have z2 : Ev (fun k => outpostref02_MulMod.f k (a : Int) (b : Int) ((0 : Nat) : Int)) (0, 20) := Ev.all fun k => by unfold outpostref02_MulMod.f; rw [if_pos (show ((0 : Nat) : Int) = 0 from rfl)]
    have z3 : Ev (fun k => poly_PowMod.f k (a : Int) (n : Int) ((0 : Nat) : Int)) (0, 20) := Ev.all fun k => by unfold poly_PowMod.f; rw [if_pos (Int.natCast_nonneg n), if_pos (show ((0 : Nat) : Int) = 0 from rfl)]
    have z4 : Ev (fun k => outpostref02_PowMod.f k (a : Int) (n : Int) ((0 : Nat) : Int)) (0, 20) := Ev.all fun k => by unfold outpostref02_PowMod.f; rw [if_pos (show ((0 : Nat) : Int) = 0 from rfl)]
    refine Ev.bind z1 (Ev.bind z2 (Ev.bind z3 (Ev.bind z4 (Ev.pos rfl ?_))))
    refine Ev.some_bind rfl (Ev.pos rfl (Ev.pos rfl (Ev.some_bind rfl (Ev.pos rfl ?_))))
    exact Ev.live (Ev.now _)
  · refine Ev.bind (poly_MulMod.ev ha hb m0 hm) (Ev.bind (outpostref02_MulMod.ev ha hb m0 hm) (Ev.bind (poly_PowMod.ev ha hn m0 hm) (Ev.bind (outpostref02_PowMod.ev ha hn m0 hm) (Ev.pos rfl ?_))))
    refine Ev.some_bind rfl (Ev.pos rfl (Ev.pos rfl (Ev.some_bind rfl (Ev.pos rfl ?_))))
    exact Ev.live (Ev.now _)

end Go.Proofs.Ytofdnjlcnpaecaa.Pure
