/- The plain statement of PolyFactors: factors and irreducible ones are the reference's, whatever is written into a list that was answered. No condition. -/
import Derived.Test.YtofdnjlcnpaecaaPPolyFactors
import Derived.Test.YtofdnjlcnpaecaaBr17
set_option linter.unusedVariables false
namespace Go.Proofs.Ytofdnjlcnpaecaa.Pure
open Go.RowKit Go.Proofs.Ytofdnjlcnpaecaa.P Go.Proofs.YtofdnjlcnpaecaaW.PrintWords Go.Proofs.YtofdnjlcnpaecaaW.PrintLast

theorem factors_l1 {a e : Int} {r : List S40} (hr : r.length < 1000000000000) (hf : Ev (fun k => poly_Factor.f k a) (r, e)) : ∀ d i : Nat, i + d = 64 → ∀ x3 : List S40, x3.length ≤ 1000000000000 + i →
    Ev (fun k => outpostlaw02_PolyFactors.l1 k a x3 r r (i : Int)) true := by
  intro d
  induction d with
  | zero =>
    intro i h x3 hx
    refine Ev.step (f := fun k => (poly_Factor.f k a).bind fun bt306 => ((outpostlaw02_factors.f k r r).bind fun t310 => (if t310 = true then ((outpostlaw02_factors.f k bt306.1 r).bind fun t311 => (some t311)) else (some false)))) (fun k => ?_) ?_
    · simp only [outpostlaw02_PolyFactors.l1]; rw [if_neg (by omega)]
    · exact Ev.bind hf (Ev.bind (outpostlaw02_factors.same hr) (Ev.pos rfl (Ev.bind (outpostlaw02_factors.same hr) (Ev.now _))))
  | succ d ih =>
    intro i h x3 hx
    refine Ev.step (fun k => ?_) (ih (i + 1) (by omega) (x3 ++ [⟨98, -2⟩]) (by simp; omega))
    simp only [outpostlaw02_PolyFactors.l1]
    have e : wrap64 ((i : Int) + 1) = ((i + 1 : Nat) : Int) := by unfold wrap64; omega
    rw [if_pos (by omega), if_pos (by omega), e]
theorem factors_l0 {a e : Int} {r : List S40} (hr : r.length < 1000000000000) (hf : Ev (fun k => poly_Factor.f k a) (r, e)) : ∀ d i : Nat, ∀ x3 : List S40, i + d = x3.length → x3.length = r.length →
    Ev (fun k => outpostlaw02_PolyFactors.l0 k a x3 r r (i : Int)) true := by
  intro d
  induction d with
  | zero =>
    intro i x3 h hx
    refine Ev.step (fun k => ?_) (factors_l1 hr hf 64 0 (by omega) x3 (by omega))
    simp only [outpostlaw02_PolyFactors.l0]
    rw [if_neg (by omega)]; rfl
  | succ d ih =>
    intro i x3 h hx
    refine Ev.step (fun k => ?_) (ih (i + 1) (x3.set i ⟨99, -1⟩) (by simp; omega) (by simp; omega))
    simp only [outpostlaw02_PolyFactors.l0]
    have e : wrap64 ((i : Int) + 1) = ((i + 1 : Nat) : Int) := by unfold wrap64; omega
    rw [if_pos (by omega), if_pos (by omega), e, Int.toNat_natCast]
theorem PolyFactors : outpostlaw02_PolyFactors.Pure := by
  intro a0 h0
  obtain ⟨a, rfl, ha⟩ := u64_nat h0
  refine Ev.rounds (g := fun k => outpostlaw02_PolyFactors.f k (a : Int)) ?_
  unfold outpostlaw02_PolyFactors.f
  obtain ⟨r, e, hr, f1, f2⟩ : ∃ (r : List S40) (e : Int), r.length < 1000000000000 ∧ Ev (fun k => poly_Factor.f k (a : Int)) (r, e) ∧ Ev (fun k => outpostref02_Factor.f k (a : Int)) (r, e) := by
    by_cases h0 : a = 0
    · subst h0; exact ⟨_, _, by simp, poly_Factor.zero, outpostref02_Factor.zero⟩
    · by_cases h32 : a.log2 ≤ 32
      · obtain ⟨r, g1, e1⟩ := poly_Factor.ev h0 h32
        obtain ⟨s, g2, e2⟩ := outpostref02_Factor.ev h0 h32
        obtain rfl := g1.eq g2
        have := g1.length h0 h32
        exact ⟨r, 0, by omega, e1, e2⟩
      · exact ⟨_, _, by simp, poly_Factor.long h0 ha (by omega), outpostref02_Factor.long h0 ha (by omega)⟩
  obtain ⟨b, e', i1, i2⟩ : ∃ (b : Bool) (e : Int), Ev (fun k => poly_Irreducible.f k (a : Int)) (b, e) ∧ Ev (fun k => outpostref02_Irreducible.f k (a : Int)) (b, e) := by
    by_cases hk : 2 ≤ a ∧ a.log2 ≤ 32
    · obtain ⟨t, e1, k1⟩ := poly_Irreducible.ev hk.1 hk.2 ha
      obtain ⟨s, e2, k2⟩ := outpostref02_Irreducible.ev hk.1 hk.2
      have : t = s := by rw [Bool.eq_iff_iff, k1, k2]
      subst this
      exact ⟨t, 0, e1, e2⟩
    · exact ⟨_, _, poly_Irreducible.bad hk ha, outpostref02_Irreducible.bad hk ha⟩
  refine Ev.bind f1 (Ev.bind f1 (Ev.bind f2 (Ev.bind i1 (Ev.bind i2 (Ev.some_bind rfl (Ev.pos rfl (Ev.bind (outpostlaw02_factors.same hr) (Ev.pos rfl (Ev.bind (outpostlaw02_factors.same hr) (Ev.pos rfl (Ev.neg ?_ (Ev.some_bind rfl (Ev.pos rfl (Ev.live ?_))))))))))))))
  · simp
  · refine Ev.step (fun k => ?_) (factors_l0 hr f1 r.length 0 r (by omega) rfl)
    simp only [outpostlaw02_PolyFactors.j0]; rfl
end Go.Proofs.Ytofdnjlcnpaecaa.Pure
