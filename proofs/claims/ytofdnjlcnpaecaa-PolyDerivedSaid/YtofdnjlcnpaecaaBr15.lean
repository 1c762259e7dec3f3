/- The rest of a division, the reference's way. No condition. -/
import Derived.Test.YtofdnjlcnpaecaaBr10
import Derived.Test.YtofdnjlcnpaecaaP12
set_option linter.unusedVariables false
namespace Go.Proofs.Ytofdnjlcnpaecaa.P
open Go.RowKit Go.Proofs.YtofdnjlcnpaecaaW.PrintWords Go.Proofs.YtofdnjlcnpaecaaW.PrintLast Go.Proofs.YtofdnjlcnpaecaaW.PrintMore
theorem outpostref02_Rest.ev_l0 {b R : Nat} (hb : b ≠ 0) (hb64 : b < 18446744073709551616) : ∀ (m : Nat) (x : Nat), m ≤ 64 → x < 2 ^ m → Gf.rem x b = R →
    Ev (fun k => outpostref02_Rest.l0 k (x : Int) (b : Int) (b.log2 : Int) ((m : Int) - 1)) (R : Int) := by
  intro m
  have hd := log2_le63 hb hb64
  induction m with
  | zero =>
    intro x hm hx hr
    have hx0 : x = 0 := by have : x < 1 := hx; omega
    subst hx0
    rw [Gf.rem_zero b hb] at hr
    refine Ev.step (f := fun _ => some (R : Int)) (fun k => ?_) (Ev.now _)
    simp only [outpostref02_Rest.l0]
    rw [if_neg (by omega), ← hr]
  | succ m ih =>
    intro x hm hx hr
    have hx64 := lt64_of hm hx
    have e0 : ((m + 1 : Nat) : Int) - 1 = (m : Int) := by omega
    rw [e0]
    by_cases hle : b.log2 ≤ m
    · have hbit := outpostref02_Bit.eq (i := m) hx64 (by omega)
      have e1 : wrap64 ((m : Int) - 1) = (m : Int) - 1 := wrap_pred m (by omega)
      by_cases ht : x.testBit m = true
      · have hge : 2 ^ m ≤ x := by
          by_cases h : x < 2 ^ m
          · rw [Nat.testBit_lt_two_pow h] at ht; exact absurd ht (by decide)
          · omega
        have hsh := bshift (s := m - b.log2) hb (show b.log2 + (m - b.log2) = m by omega)
        have hlt := xor_cancel_top hge hx hsh.1 hsh.2
        have hb2 : b * 2 ^ (m - b.log2) < 18446744073709551616 := lt64_of hm hsh.2
        have e2 : IntKind.u64.wrap (wrap64 ((m : Int) - (b.log2 : Int))) = ((m - b.log2 : Nat) : Int) := by
          rw [wrap_sub m b.log2 hle (by omega)]; exact wrapu_nat (by omega)
        have hrem : Gf.rem (x ^^^ b * 2 ^ (m - b.log2)) b = R := by
          rw [Gf.rem_xor _ _ _ hb, ← Gf.pow_two_mul, Gf.rem_mul_self _ _ hb, Nat.xor_zero, hr]
        refine Ev.step (fun k => ?_) (ih (x ^^^ b * 2 ^ (m - b.log2)) (by omega) hlt hrem)
        simp only [outpostref02_Rest.l0]
        rw [if_pos (show (m : Int) ≥ (b.log2 : Int) by omega), hbit, ht, Option.bind_some, if_pos (show (((if true then 1 else 0 : Nat) : Nat) : Int) = 1 by rfl), e2, if_pos (by omega), shl64, Nat.mod_eq_of_lt hb2, xor64 hx64 hb2, e1]
      · have ht' : x.testBit m = false := by simpa using ht
        refine Ev.step (fun k => ?_) (ih x (by omega) (lt_of_no_bit hx ht') hr)
        simp only [outpostref02_Rest.l0]
        rw [if_pos (show (m : Int) ≥ (b.log2 : Int) by omega), hbit, ht', Option.bind_some, if_neg (show ¬ (((if false = true then 1 else 0 : Nat) : Nat) : Int) = 1 by decide), e1]
    · have hlt : x < 2 ^ b.log2 := Nat.lt_of_lt_of_le hx (Nat.pow_le_pow_right (by decide) (by omega))
      rw [Gf.rem_of_lt hb hlt] at hr
      refine Ev.step (f := fun _ => some (R : Int)) (fun k => ?_) (Ev.now _)
      simp only [outpostref02_Rest.l0]
      rw [if_neg (by omega), hr]
theorem outpostref02_Rest.ev {x b : Nat} (hx : x < 18446744073709551616) (hb : b ≠ 0) (hb64 : b < 18446744073709551616) : Ev (fun k => outpostref02_Rest.f k (x : Int) (b : Int)) ((Gf.rem x b : Nat) : Int) := by
  unfold outpostref02_Rest.f
  refine Ev.bind (outpostref02_Degree.ev hb64) (Ev.bind (outpostref02_Degree.ev hx) ?_)
  have h1 := dg_ge x
  have h2 := dg_lt64 hx
  have h := outpostref02_Rest.ev_l0 hb hb64 (dg x + 1).toNat x (by omega) dg_bound rfl
  rw [show (((dg x + 1).toNat : Nat) : Int) - 1 = dg x by omega] at h
  rw [dg_pos hb]
  exact h
end Go.Proofs.Ytofdnjlcnpaecaa.P
