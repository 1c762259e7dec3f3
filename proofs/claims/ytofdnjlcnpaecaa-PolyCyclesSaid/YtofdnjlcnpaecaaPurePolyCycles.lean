/- The plain statement of PolyCycles: the powers of x go around with its order. No condition. -/
import Derived.Test.YtofdnjlcnpaecaaPPolyCycles
import Derived.Test.YtofdnjlcnpaecaaBr13
set_option linter.unusedVariables false
namespace Go.Proofs.Ytofdnjlcnpaecaa.Pure
open Go.RowKit Go.Proofs.Ytofdnjlcnpaecaa.P Go.Proofs.YtofdnjlcnpaecaaW.PrintWords Go.Proofs.YtofdnjlcnpaecaaW.PrintLast

theorem PolyCycles : outpostlaw02_PolyCycles.Pure := by
  intro a0 a1 h0 h1
  obtain ⟨a, rfl, ha⟩ := u64_nat h0
  obtain ⟨n, rfl, hn⟩ := u64_nat h1
  refine Ev.rounds (g := fun k => outpostlaw02_PolyCycles.f k (a : Int) (n : Int)) ?_
  unfold outpostlaw02_PolyCycles.f
  by_cases hb : a = 0 ∨ 20 < a.log2
  · exact Ev.bind (poly_Order.bad ha hb) (Ev.some_bind rfl (Ev.neg (by decide) (Ev.live (Ev.now _))))
  · have ha0 : a ≠ 0 := fun e => hb (Or.inl e)
    have h20 : a.log2 ≤ 20 := Nat.le_of_not_lt fun e => hb (Or.inr e)
    by_cases h2 : a % 2 = 0
    · exact Ev.bind (poly_Order.even ha ha0 h2 h20) (Ev.some_bind rfl (Ev.neg (by decide) (Ev.live (Ev.now _))))
    · have h2' : a % 2 = 1 := by omega
      obtain ⟨N, hN, hle⟩ := Gf.ord_exists h2'
      have hb : N ≤ 1048576 := Nat.le_trans hle (Nat.pow_le_pow_right (n := 2) (by decide) h20)
      have hpos := hN.pos
      have hw : IntKind.u64.wrap (N : Int) = (N : Int) := wrapu_nat (by omega)
      have hmod : Int.tmod (n : Int) (N : Int) = ((n % N : Nat) : Int) := by rw [Int.ofNat_tmod]
      have hle2 : n % N ≤ n := Nat.mod_le _ _
      have hsub : IntKind.u64.wrap ((n : Int) - ((n % N : Nat) : Int)) = ((n - n % N : Nat) : Int) := by
        rw [wrapu_int (by omega) (by omega)]; omega
      refine Ev.bind (poly_Order.ev ha h2' h20 hN hb) (Ev.some_bind rfl (Ev.pos rfl (Ev.neg ?_ (Ev.bind (poly_Div.ev (by decide) ha0 ha) (Ev.bind (poly_PowMod.ev (a := 2) (by decide) hn ha0 ha) ?_)))))
      · show ¬ (N : Int) < 1; omega
      · show Ev (fun k => if IntKind.u64.wrap (N : Int) = 0 then none else ((poly_PowMod.f k 2 (IntKind.u64.wrap ((n : Int) - (Int.tmod (n : Int) (IntKind.u64.wrap (N : Int))))) (a : Int)).bind fun bt321 => ((outpostlaw02_num.f 0).bind fun t323 => (if t323 = 0 then ((outpostlaw02_num.f bt321.2).bind fun t324 => (if t324 = 0 then (if bt321.1 = ((Gf.rem 1 a : Nat) : Int) then (if (((((Gf.rem (pw 2 n) a : Nat) : Int)) == ((Gf.rem 1 a : Nat) : Int)) == ((Int.tmod (n : Int) (IntKind.u64.wrap (N : Int))) == 0)) = true then ((outpostlaw02_live.f k).bind fun t325 => (some t325)) else (some false)) else (some false)) else (some false))) else (some false))))) true
        rw [hw, hmod, hsub]
        refine Ev.neg (by omega) (Ev.bind (poly_PowMod.ev (a := 2) (by decide) (by omega) ha0 ha) (Ev.some_bind rfl (Ev.pos rfl (Ev.some_bind rfl (Ev.pos rfl (Ev.pos ?_ (Ev.pos ?_ (Ev.live (Ev.now _)))))))))
        · show ((Gf.rem (pw 2 (n - n % N)) a : Nat) : Int) = ((Gf.rem 1 a : Nat) : Int)
          rw [pw_two, (Gf.ord_iff ha0 hN (n - n % N)).2 ?_]
          have := Nat.div_add_mod n N
          rw [show n - n % N = N * (n / N) by omega, Nat.mul_mod_right]
        · rw [pw_two]
          have hi := Gf.ord_iff ha0 hN n
          by_cases hz : n % N = 0
          · rw [hi.2 hz, hz]; simp
          · have h3 : ¬ Gf.rem (2 ^ n) a = Gf.rem 1 a := fun e => hz (hi.1 e)
            have h4 : (((Gf.rem (2 ^ n) a : Nat) : Int) == ((Gf.rem 1 a : Nat) : Int)) = false := by rw [beq_eq_false_iff_ne]; omega
            have h5 : (((n % N : Nat) : Int) == 0) = false := by rw [beq_eq_false_iff_ne]; omega
            rw [h4, h5]; rfl
end Go.Proofs.Ytofdnjlcnpaecaa.Pure
