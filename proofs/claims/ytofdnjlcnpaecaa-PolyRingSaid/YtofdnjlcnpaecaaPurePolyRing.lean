/- The plain statement of PolyRing: products commute and are distributed over sums; a product without a first half is divided by its factor. No condition. -/
import Derived.Test.YtofdnjlcnpaecaaP8
import Derived.Test.YtofdnjlcnpaecaaBr8
namespace Go.Proofs.Ytofdnjlcnpaecaa.Pure
open Go.RowKit Go.Proofs.Ytofdnjlcnpaecaa.P Go.Proofs.YtofdnjlcnpaecaaW.PrintWords Go.Proofs.YtofdnjlcnpaecaaW.PrintLast

theorem PolyRing : ∀ a0 a1 a2 : Int, (Lit.int .u64 a0).wf = true → (Lit.int .u64 a1).wf = true → (Lit.int .u64 a2).wf = true → ∃ k, outpostlaw02_PolyRing.f k a0 a1 a2 = some true := by
  intro a0 a1 a2 h0 h1 h2
  obtain ⟨a, rfl, ha⟩ := u64_nat h0
  obtain ⟨b, rfl, hb⟩ := u64_nat h1
  obtain ⟨c, rfl, hc⟩ := u64_nat h2
  refine Ev.rounds (g := fun k => outpostlaw02_PolyRing.f k (a : Int) (b : Int) (c : Int)) ?_
  unfold outpostlaw02_PolyRing.f
  have hx : Go.bits .xor .u64 (b : Int) (c : Int) = ((b ^^^ c : Nat) : Int) := xor64 hb hc
  rw [hx]
  have e1 : hi b a = hi a b := by unfold hi; rw [Gf.mul_comm]
  have e2 : lo b a = lo a b := by unfold lo; rw [Gf.mul_comm]
  have e3 : hi a (b ^^^ c) = hi a b ^^^ hi a c := by unfold hi; rw [Gf.mul_xor, xor_div64]
  have e4 : lo a (b ^^^ c) = lo a b ^^^ lo a c := by unfold lo; rw [Gf.mul_xor, xor_mod64]
  refine Ev.bind (poly_Mul.ev ha hb) (Ev.bind (poly_Mul.ev hb ha) (Ev.bind (poly_Mul.ev ha hc) (Ev.bind (poly_Mul.ev ha (xor64_lt hb hc)) ?_)))
  refine Ev.pos (by rw [e1]) (Ev.pos (by rw [e2]) (Ev.pos (by rw [xor64 (hi_lt ha hb) (hi_lt ha hc), e3]) (Ev.pos (by rw [xor64 (lo_lt a b) (lo_lt a c), e4]) ?_)))
  refine Ev.live ?_
  have fin : ∀ t : Bool, Ev (fun n => outpostlaw02_PolyRing.j1 n (a : Int) (b : Int) ((lo a b : Nat) : Int) true) true := fun _ => by
    refine Ev.step (f := fun _ => some true) (fun k => ?_) (Ev.now _)
    simp only [outpostlaw02_PolyRing.j1, if_true]
  by_cases hh : hi a b = 0
  · by_cases ha0 : a = 0
    · refine Ev.step (f := fun k => outpostlaw02_PolyRing.j1 k (a : Int) (b : Int) ((lo a b : Nat) : Int) true) (fun k => ?_) (fin true)
      simp only [outpostlaw02_PolyRing.j0]
      rw [if_neg (by decide), if_pos (by rw [hh]; rfl)]
      have : ((a : Int) == 0) = true := by rw [ha0]; rfl
      rw [this]
    · have hlo : lo a b = Gf.mul b a := by
        have := whole_mul a b
        rw [hh, whole_zero] at this
        rw [this, Gf.mul_comm]
      have hd : Gf.IsDiv (lo a b) a b 0 := ⟨by rw [hlo, Nat.xor_zero], Nat.two_pow_pos _⟩
      have h3 := poly_Div.ev (lo_lt a b) ha0 ha
      rw [hd.quo_eq ha0, hd.rem_eq ha0] at h3
      have h4 : Ev (fun k => outpostlaw02_PolyRing.j1 k (a : Int) (b : Int) ((lo a b : Nat) : Int) false) true := by
        refine Ev.step (fun k => ?_) (Ev.bind h3 (f := fun k bt163 => ((outpostlaw02_num.f bt163.2.2).bind fun t166 => (if t166 = 0 then (if bt163.1 = (b : Int) then (some (bt163.2.1 == 0)) else (some false)) else (some false)))) (Ev.now true |>.congr fun k => ?_))
        · simp only [outpostlaw02_PolyRing.j1]
          rw [if_neg (by decide)]
        · simp [outpostlaw02_num.f]
      refine Ev.step (fun k => ?_) h4
      simp only [outpostlaw02_PolyRing.j0]
      rw [if_neg (by decide), if_pos (by rw [hh]; rfl)]
      have : ((a : Int) == 0) = false := beq_eq_false_iff_ne.2 (cast_ne ha0)
      rw [this]
  · refine Ev.step (f := fun k => outpostlaw02_PolyRing.j1 k (a : Int) (b : Int) ((lo a b : Nat) : Int) true) (fun k => ?_) (fin true)
    simp only [outpostlaw02_PolyRing.j0]
    rw [if_neg (by decide), if_neg (cast_ne hh)]

end Go.Proofs.Ytofdnjlcnpaecaa.Pure
