/- Inverses of a residue: they are unique; quotients and rests of common multiples. No condition. -/
import Derived.Test.YtofdnjlcnpaecaaGf2
namespace Gf
theorem dvd_small {m a : Nat} (hm : m ≠ 0) (h : Dvd m a) (hl : a < 2 ^ m.log2) : a = 0 := by
  rw [dvd_iff_rem hm, rem_of_lt hm hl] at h; exact h
/-- p is the inverse of x modulo m, and it is reduced. -/
structure Inv (x m p : Nat) : Prop where
  lt : p < 2 ^ m.log2
  dvd : Dvd m (mul p x ^^^ 1)
theorem inv_diff (x p q : Nat) : mul p (mul q x ^^^ 1) ^^^ mul q (mul p x ^^^ 1) = p ^^^ q := by
  rw [mul_xor, mul_xor, mul_one, mul_one, mul_left_comm p q x, Nat.xor_assoc, xor_left_comm p, ← Nat.xor_assoc, Nat.xor_self, Nat.zero_xor]
theorem Inv.unique {x m p q : Nat} (hm : m ≠ 0) (hp : Inv x m p) (hq : Inv x m q) : p = q := by
  have h : Dvd m (p ^^^ q) := by rw [← inv_diff x p q]; exact dvd_xor (dvd_mul p hq.dvd) (dvd_mul q hp.dvd)
  exact xor_eq_zero.1 (dvd_small hm h (xor_lt hp.lt hq.lt))
theorem dvd_rem {a m : Nat} (hm : m ≠ 0) : Dvd m (rem a m ^^^ a) := by
  rw [dvd_iff_rem hm, rem_xor _ _ _ hm, rem_rem _ _ hm, Nat.xor_self]
/-- a step of Euclid's way. -/
theorem inv_step {x m r s p q : Nat} (hm : m ≠ 0) (hs : s ≠ 0) (h1 : Dvd m (mul p x ^^^ r)) (h2 : Dvd m (mul q x ^^^ s)) :
    Dvd m (mul (p ^^^ rem (mul (quo r s) q) m) x ^^^ rem r s) := by
  have e : rem r s = r ^^^ mul (quo r s) s := by
    have h := div_eq r s hs
    exact ((xor_eq_iff.1 (show rem r s ^^^ mul (quo r s) s = r by rw [Nat.xor_comm]; exact h.symm)))
  generalize quo r s = k at *
  generalize hw : rem (mul k q) m = w
  have h3 : Dvd m (w ^^^ mul k q) := by rw [← hw]; exact dvd_rem hm
  have h4 : Dvd m (mul (w ^^^ mul k q) x) := by rw [mul_comm]; exact dvd_mul x h3
  have h5 := dvd_mul k h2
  have h6 := dvd_xor h1 (dvd_xor h4 h5)
  rw [e]
  have hh : mul p x ^^^ r ^^^ (mul (w ^^^ mul k q) x ^^^ mul k (mul q x ^^^ s)) = mul (p ^^^ w) x ^^^ (r ^^^ mul k s) := by
    rw [xor_mul, xor_mul, mul_xor, mul_assoc]
    generalize mul p x = A; generalize mul w x = B; generalize mul k (mul q x) = C; generalize mul k s = D
    apply Nat.eq_of_testBit_eq; intro i; simp only [Nat.testBit_xor]
    cases A.testBit i <;> cases B.testBit i <;> cases C.testBit i <;> cases D.testBit i <;> cases r.testBit i <;> rfl
  rw [← hh]; exact h6
theorem inv_reduce {x m r p : Nat} (hm : m ≠ 0) (h : Dvd m (mul p x ^^^ r)) : Dvd m (mul (rem p m) x ^^^ r) := by
  have h1 : Dvd m (mul (rem p m ^^^ p) x) := by rw [mul_comm]; exact dvd_mul x (dvd_rem hm)
  have h2 := dvd_xor h1 h
  rw [xor_mul, Nat.xor_assoc, ← Nat.xor_assoc (mul p x), Nat.xor_self, Nat.zero_xor] at h2
  exact h2
theorem div_common {r s g : Nat} (hs : s ≠ 0) (hg : g ≠ 0) : quo (mul r g) (mul s g) = quo r s ∧ rem (mul r g) (mul s g) = mul (rem r s) g := by
  have hd : IsDiv (mul r g) (mul s g) (quo r s) (mul (rem r s) g) := by
    refine ⟨?_, ?_⟩
    · conv => lhs; rw [div_eq r s hs]
      rw [xor_mul, mul_assoc]
    · rw [log2_mul hs hg]
      have h1 := rem_lt r s hs
      exact mul_lt h1 (lt_pow_log2 g)
  have hsg := mul_ne_zero hs hg
  exact ⟨hd.quo_eq hsg, hd.rem_eq hsg⟩
theorem quo_mul {a b : Nat} (hb : b ≠ 0) : quo (mul a b) b = a := IsDiv.quo_eq hb ⟨by simp, Nat.two_pow_pos _⟩
theorem quo_dvd {a b : Nat} (hb : b ≠ 0) (h : Dvd b a) : a = mul (quo a b) b := by
  obtain ⟨c, rfl⟩ := h; rw [quo_mul hb]
/-- the cofactors of the greatest common divisor are prime to each other. -/
theorem cofactors {a b : Nat} (hb : b ≠ 0) : gcd (quo a (gcd a b)) (quo b (gcd a b)) = 1 := by
  have hg := gcd_ne_zero (a := a) (Or.inr hb)
  have ha' := quo_dvd hg (gcd_dvd_left a b)
  have hb' := quo_dvd hg (gcd_dvd_right a b)
  have h := gcd_mul (quo a (gcd a b)) (quo b (gcd a b)) (gcd a b)
  rw [← ha', ← hb'] at h
  have h2 : mul (gcd a b) 1 = mul (gcd a b) (gcd (quo a (gcd a b)) (quo b (gcd a b))) := by rw [mul_one, mul_comm]; exact h
  exact (mul_left_cancel hg h2).symm
end Gf
