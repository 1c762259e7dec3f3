/- The plain statement of PolyCommon: the greatest common divisor is one, and it goes with products. No condition. -/
import Derived.Test.YtofdnjlcnpaecaaBr10
import Derived.Test.YtofdnjlcnpaecaaPPolyCommon
set_option linter.unusedVariables false
namespace Go.Proofs.Ytofdnjlcnpaecaa.Pure
open Go.RowKit Go.Proofs.Ytofdnjlcnpaecaa.P Go.Proofs.YtofdnjlcnpaecaaW.PrintWords Go.Proofs.YtofdnjlcnpaecaaW.PrintLast

theorem divides.ev {d a : Nat} (hd : d < 18446744073709551616) (ha : a < 18446744073709551616) : ∃ t : Bool, Ev (fun k => outpostlaw02_divides.f k (d : Int) (a : Int)) t ∧ (t = true ↔ Gf.Dvd d a) := by
  by_cases h : d = 0
  · subst h
    refine ⟨((a : Int) == 0), Ev.all fun k => by unfold outpostlaw02_divides.f; rw [if_pos (show ((0 : Nat) : Int) = 0 from rfl)], ?_⟩
    rw [Gf.zero_dvd, beq_iff_eq]; omega
  · refine ⟨(((Gf.rem a d : Nat) : Int) == 0), ?_, ?_⟩
    · unfold outpostlaw02_divides.f
      refine Ev.neg (cast_ne h) (Ev.bind (poly_Div.ev ha h hd) (Ev.some_bind rfl (Ev.pos rfl (Ev.now _))))
    · rw [Gf.dvd_iff_rem h, beq_iff_eq]; omega
theorem gcd_lt64 {a b : Nat} (ha : a < 18446744073709551616) (hb : b < 18446744073709551616) : Gf.gcd a b < 18446744073709551616 := by
  by_cases h : b = 0
  · subst h; rw [Gf.gcd_zero]; exact ha
  · have h1 := Gf.log2_le_of_dvd h (Gf.gcd_dvd_right a b)
    have h2 := log2_le63 h hb
    exact lt64_of (n := (Gf.gcd a b).log2 + 1) (by omega) (Gf.lt_pow_log2 _)
theorem low_of_hi {a c : Nat} (h : hi a c = 0) : lo a c = Gf.mul a c := by
  have := whole_mul a c
  rw [h, whole_zero] at this; exact this
theorem common_j1 {a b c : Nat} (ha : a < 18446744073709551616) (hb : b < 18446744073709551616) (hc : c < 18446744073709551616) :
    Ev (fun k => outpostlaw02_PolyCommon.j1 k (a : Int) (b : Int) (c : Int) ((Gf.gcd a b : Nat) : Int) false) true := by
  have hg := gcd_lt64 ha hb
  refine Ev.step (f := fun k => ((poly_Mul.f k (a : Int) (c : Int)).bind fun bt429 => ((poly_Mul.f k (b : Int) (c : Int)).bind fun bt431 => ((poly_Mul.f k ((Gf.gcd a b : Nat) : Int) (c : Int)).bind fun bt433 => (if bt429.1 = 0 then (if bt431.1 = 0 then (if bt433.1 = 0 then ((poly_Gcd.f k bt429.2 bt431.2).bind fun t435 => (some (t435 == bt433.2))) else (some false)) else (some true)) else (some true)))))) (fun k => ?_) ?_
  · simp only [outpostlaw02_PolyCommon.j1]; rw [if_neg (by decide)]
  · refine Ev.bind (poly_Mul.ev ha hc) (Ev.bind (poly_Mul.ev hb hc) (Ev.bind (poly_Mul.ev hg hc) ?_))
    by_cases h1 : hi a c = 0
    · by_cases h2 : hi b c = 0
      · have hgc : Gf.mul (Gf.gcd a b) c = Gf.gcd (lo a c) (lo b c) := by
          rw [low_of_hi h1, low_of_hi h2, Gf.gcd_mul]
        have hg2 := gcd_lt64 (lo_lt a c) (lo_lt b c)
        have h3 : hi (Gf.gcd a b) c = 0 := by unfold hi; rw [hgc]; exact Nat.div_eq_of_lt hg2
        refine Ev.pos (cast_zero h1) (Ev.pos (cast_zero h2) (Ev.pos (cast_zero h3) (Ev.bind (poly_Gcd.ev _ _ (lo_lt a c) (lo_lt b c)) ?_)))
        rw [← hgc, low_of_hi h3]
        exact Ev.all fun k => by simp
      · exact Ev.pos (cast_zero h1) (Ev.neg (cast_ne h2) (Ev.now _))
    · exact Ev.neg (cast_ne h1) (Ev.now _)
theorem common_j0 {a b c : Nat} (ha : a < 18446744073709551616) (hb : b < 18446744073709551616) (hc : c < 18446744073709551616) :
    Ev (fun k => outpostlaw02_PolyCommon.j0 k (a : Int) (b : Int) (c : Int) ((Gf.gcd a b : Nat) : Int) false) true := by
  have hg := gcd_lt64 ha hb
  have fin := common_j1 ha hb hc
  obtain ⟨t1, e1, h1⟩ := divides.ev hc ha
  obtain ⟨t2, e2, h2⟩ := divides.ev hc hb
  obtain ⟨t3, e3, h3⟩ := divides.ev hc hg
  refine Ev.step (f := fun k => (outpostlaw02_divides.f k (c : Int) (a : Int)).bind fun t426 => (if t426 = true then ((outpostlaw02_divides.f k (c : Int) (b : Int)).bind fun t427 => (if t427 = true then ((outpostlaw02_divides.f k (c : Int) ((Gf.gcd a b : Nat) : Int)).bind fun t428 => (outpostlaw02_PolyCommon.j1 k (a : Int) (b : Int) (c : Int) ((Gf.gcd a b : Nat) : Int) (!t428))) else (outpostlaw02_PolyCommon.j1 k (a : Int) (b : Int) (c : Int) ((Gf.gcd a b : Nat) : Int) false))) else (outpostlaw02_PolyCommon.j1 k (a : Int) (b : Int) (c : Int) ((Gf.gcd a b : Nat) : Int) false))) (fun k => ?_) ?_
  · simp only [outpostlaw02_PolyCommon.j0]; rw [if_neg (by decide)]
  · refine Ev.bind e1 ?_
    by_cases c1 : t1 = true
    · refine Ev.pos c1 (Ev.bind e2 ?_)
      by_cases c2 : t2 = true
      · refine Ev.pos c2 (Ev.bind e3 ?_)
        have : t3 = true := h3.2 (Gf.dvd_gcd (h1.1 c1) (h2.1 c2))
        subst this
        exact fin
      · exact Ev.neg c2 fin
    · exact Ev.neg c1 fin
theorem PolyCommon : ∀ a0 a1 a2 : Int, (Lit.int .u64 a0).wf = true → (Lit.int .u64 a1).wf = true → (Lit.int .u64 a2).wf = true → ∃ k, outpostlaw02_PolyCommon.f k a0 a1 a2 = some true := by
  intro a0 a1 a2 h0 h1 h2
  obtain ⟨a, rfl, ha⟩ := u64_nat h0
  obtain ⟨b, rfl, hb⟩ := u64_nat h1
  obtain ⟨c, rfl, hc⟩ := u64_nat h2
  refine Ev.rounds (g := fun k => outpostlaw02_PolyCommon.f k (a : Int) (b : Int) (c : Int)) ?_
  unfold outpostlaw02_PolyCommon.f
  obtain ⟨u, v, hu, hv, huv, e1, e2⟩ := bezouts ha hb
  have hg := gcd_lt64 ha hb
  have hx : hi u a = hi v b := by
    have h3 : hi u a ^^^ hi v b = 0 := by
      unfold hi; rw [← xor_div64, huv]; exact Nat.div_eq_of_lt hg
    exact Gf.xor_eq_zero.1 h3
  have hl : lo u a ^^^ lo v b = Gf.gcd a b := by
    unfold lo; rw [← xor_mod64, huv]; exact Nat.mod_eq_of_lt hg
  refine Ev.bind (poly_Gcd.ev b a ha hb) (Ev.bind e1 (Ev.bind (poly_Mul.ev hu ha) (Ev.bind (poly_Mul.ev hv hb) (Ev.pos rfl (Ev.pos (by rw [hx]) (Ev.pos (by rw [xor64 (lo_lt u a) (lo_lt v b), hl]) ?_))))))
  obtain ⟨t1, d1, k1⟩ := divides.ev hg ha
  obtain ⟨t2, d2, k2⟩ := divides.ev hg hb
  exact Ev.bind d1 (Ev.pos (k1.2 (Gf.gcd_dvd_left a b)) (Ev.bind d2 (Ev.pos (k2.2 (Gf.gcd_dvd_right a b)) (Ev.live (common_j0 ha hb hc)))))
end Go.Proofs.Ytofdnjlcnpaecaa.Pure
