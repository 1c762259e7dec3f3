/- The plain statement of PolyFermat: Fermat's law modulo an irreducible polynomial. No condition. -/
import Derived.Test.YtofdnjlcnpaecaaPPolyFermat
import Derived.Test.YtofdnjlcnpaecaaBr14
set_option linter.unusedVariables false
namespace Go.Proofs.Ytofdnjlcnpaecaa.Pure
open Go.RowKit Go.Proofs.Ytofdnjlcnpaecaa.P Go.Proofs.YtofdnjlcnpaecaaW.PrintWords Go.Proofs.YtofdnjlcnpaecaaW.PrintLast

theorem pw_pow (a n : Nat) : pw a n = Gf.pow a n := by
  induction n with
  | zero => rfl
  | succ n ih => rw [pw, Gf.pow, ih]
theorem PolyFermat : outpostlaw02_PolyFermat.Pure := by
  intro a0 a1 h0 h1
  obtain ⟨p, rfl, hp⟩ := u64_nat h0
  obtain ⟨x, rfl, hx⟩ := u64_nat h1
  refine Ev.rounds (g := fun k => outpostlaw02_PolyFermat.f k (p : Int) (x : Int)) ?_
  unfold outpostlaw02_PolyFermat.f
  have dull : Ev (fun k => outpostlaw02_PolyFermat.j0 k (p : Int) (x : Int) true) true := by
    refine Ev.step (f := fun k => (outpostlaw02_live.f k).bind fun t439 => (some t439)) (fun k => ?_) (Ev.live (Ev.now _))
    simp only [outpostlaw02_PolyFermat.j0]; rfl
  by_cases hk : 2 ≤ p ∧ p.log2 ≤ 32
  · obtain ⟨k1, k2⟩ := hk
    obtain ⟨t, ht, hi⟩ := poly_Irreducible.ev k1 k2 hp
    refine Ev.bind ht (Ev.some_bind rfl (Ev.pos rfl ?_))
    cases t with
    | false => exact dull
    | true =>
      have hirr := hi.1 rfl
      have hne := hirr.ne
      have hl := Gf.log2_pos k1
      have hd := poly_Degree.ev hp
      rw [dg_pos hne] at hd
      refine Ev.step (f := fun k => ((poly_Div.f k (x : Int) (p : Int)).bind fun bt440 => ((poly_Degree.f k (p : Int)).bind fun t443 => (if t443 < 1 then (outpostlaw02_PolyFermat.j1 k (p : Int) (x : Int) bt440.2.1 bt440.2.2 t443 true) else (outpostlaw02_PolyFermat.j1 k (p : Int) (x : Int) bt440.2.1 bt440.2.2 t443 (decide (t443 > 32))))))) (fun k => ?_) ?_
      · show outpostlaw02_PolyFermat.j0 (k + 1) (p : Int) (x : Int) false = _
        simp only [outpostlaw02_PolyFermat.j0]; rw [if_neg (by decide)]
      · refine Ev.bind (poly_Div.ev hx hne hp) (Ev.bind hd (Ev.neg (by omega) ?_))
        rw [decide_eq_false (by omega)]
        have hs := shl_one (s := p.log2) (by omega)
        refine Ev.step (f := fun k => ((poly_PowMod.f k (x : Int) ((2 ^ p.log2 : Nat) : Int) (p : Int)).bind fun bt444 => ((outpostlaw02_num.f 0).bind fun t446 => (if t446 = 0 then ((outpostlaw02_num.f bt444.2).bind fun t447 => (if t447 = 0 then (if bt444.1 = ((Gf.rem x p : Nat) : Int) then ((outpostlaw02_live.f k).bind fun t448 => (some t448)) else (some false)) else (some false))) else (some false))))) (fun k => ?_) ?_
        · simp only [outpostlaw02_PolyFermat.j1]
          rw [if_neg (by decide), wrapu_nat (x := p.log2) (by omega), if_pos (by omega), hs.1]
        · refine Ev.bind (poly_PowMod.ev hx hs.2 hne hp) (Ev.some_bind rfl (Ev.pos rfl (Ev.some_bind rfl (Ev.pos rfl (Ev.pos ?_ (Ev.live (Ev.now _)))))))
          show ((Gf.rem (pw x (2 ^ p.log2)) p : Nat) : Int) = ((Gf.rem x p : Nat) : Int)
          have hf := Gf.fermat hirr x
          rw [Gf.sq_pow, ← pw_pow] at hf
          rw [(Gf.rem_eq_iff hne).2 hf]
  · exact Ev.bind (poly_Irreducible.bad hk hp) (Ev.some_bind rfl (Ev.neg (by decide) dull))
end Go.Proofs.Ytofdnjlcnpaecaa.Pure
