/- The formal derivative, and what it tells of squares. Plain Lean, no program. No condition. -/
import Derived.Test.YtofdnjlcnpaecaaGf
set_option linter.unusedVariables false
namespace Gf
def der (a : Nat) : Nat := if h : a = 0 then 0 else (a / 2) ^^^ (2 * der (a / 2))
termination_by a
decreasing_by omega
theorem der_zero : der 0 = 0 := by unfold der; simp
theorem der_step (a : Nat) : der a = (a / 2) ^^^ (2 * der (a / 2)) := by
  by_cases h : a = 0
  · subst h; rw [show (0 : Nat) / 2 = 0 by rfl, der_zero]; rfl
  · rw [der, dif_neg h]
theorem der_two (p : Nat) : der (2 * p) = p ^^^ 2 * der p := by
  rw [der_step, show 2 * p / 2 = p by omega]
theorem der_one : der 1 = 0 := by rw [der_step, show (1 : Nat) / 2 = 0 by rfl, der_zero]; rfl
theorem xor_swap4 (A B C D : Nat) : A ^^^ B ^^^ (C ^^^ D) = A ^^^ C ^^^ (B ^^^ D) := by
  apply Nat.eq_of_testBit_eq; intro i; simp only [Nat.testBit_xor]
  cases A.testBit i <;> cases B.testBit i <;> cases C.testBit i <;> cases D.testBit i <;> rfl
theorem der_xor (a : Nat) : ∀ b, der (a ^^^ b) = der a ^^^ der b := by
  induction a using Nat.strongRecOn with
  | _ a ih =>
    intro b
    by_cases h : a = 0
    · subst h; rw [der_zero, Nat.zero_xor, Nat.zero_xor]
    · rw [der_step, der_step a, der_step b, xor_div_two, ih (a / 2) (by omega), two_mul_xor, xor_swap4]
theorem der_mul (a : Nat) : ∀ b, der (mul a b) = mul (der a) b ^^^ mul a (der b) := by
  induction a using Nat.strongRecOn with
  | _ a ih =>
    intro b
    by_cases h : a = 0
    · subst h; rw [mul_zero_left, der_zero, mul_zero_left, mul_zero_left]; rfl
    · have h1 := ih (a / 2) (by omega) b
      rw [mul_step a b, der_xor, der_two, h1, mul_step a (der b), der_step a, xor_mul, mul_two_left, two_mul_xor]
      have e : der (if a % 2 = 1 then b else 0) = (if a % 2 = 1 then der b else 0) := by
        split
        · rfl
        · exact der_zero
      rw [e]
      generalize (if a % 2 = 1 then der b else 0) = A
      generalize mul (a / 2) b = B; generalize 2 * mul (der (a / 2)) b = C; generalize 2 * mul (a / 2) (der b) = D
      apply Nat.eq_of_testBit_eq; intro i; simp only [Nat.testBit_xor]
      cases A.testBit i <;> cases B.testBit i <;> cases C.testBit i <;> cases D.testBit i <;> rfl
theorem der_bit : ∀ (t a : Nat), (der a).testBit t = (a.testBit (t + 1) && decide (t % 2 = 0)) := by
  intro t
  induction t with
  | zero => intro a; rw [der_step, Nat.testBit_xor, Nat.testBit_succ]; simp
  | succ t ih =>
    intro a
    have e : (2 * der (a / 2)).testBit (t + 1) = (der (a / 2)).testBit t := by rw [Nat.testBit_succ]; congr 1; omega
    rw [der_step, Nat.testBit_xor, e, ih, Nat.testBit_succ a (t + 1)]
    by_cases h : t % 2 = 0
    · rw [decide_eq_true h, decide_eq_false (show ¬ (t + 1) % 2 = 0 by omega)]; cases (a / 2).testBit (t + 1) <;> rfl
    · rw [decide_eq_false h, decide_eq_true (show (t + 1) % 2 = 0 by omega)]; cases (a / 2).testBit (t + 1) <;> rfl
theorem der_lt {a : Nat} (h : 2 ≤ a) : der a < 2 ^ a.log2 := by
  have h1 := log2_pos h
  apply Nat.lt_pow_two_of_testBit
  intro i hi
  rw [der_bit, Nat.testBit_lt_two_pow (Nat.lt_of_lt_of_le (lt_pow_log2 a) (Nat.pow_le_pow_right (by decide) (by omega)))]
  rfl
/-- what has no derivative is a square. -/
theorem square_of_der (a : Nat) : der a = 0 → ∃ s, a = mul s s := by
  induction a using Nat.strongRecOn with
  | _ a ih =>
    intro h
    by_cases h0 : a = 0
    · exact ⟨0, by rw [h0, mul_zero_left]⟩
    · rw [der_step] at h
      have h1 : a / 2 = 2 * der (a / 2) := xor_eq_zero.1 h
      generalize hp : der (a / 2) = p at *
      rw [h1, der_two] at hp
      have h2 : der p = 0 := by
        have h3 : 2 * der p = 0 := by
          have h4 := xor_xor_cancel p (2 * der p)
          rw [hp, Nat.xor_self] at h4
          exact h4.symm
        omega
      obtain ⟨s, hs⟩ := ih p (by omega) h2
      refine ⟨(if a % 2 = 1 then 1 else 0) ^^^ 2 * s, ?_⟩
      rw [square_xor, mul_two_left, mul_two_right, ← hs, ← h1]
      conv => lhs; rw [halves a]
      congr 1
      split
      · rw [one_mul]
      · rw [mul_zero_left]
theorem irr_der {p : Nat} (hp : Irr p) : ¬ Dvd p (der p) := fun h => by
  have h1 := dvd_small hp.ne h (der_lt hp.two)
  obtain ⟨s, hs⟩ := square_of_der p h1
  have h2 := hp.two
  rcases hp.dvd (show Dvd s p from ⟨s, hs⟩) with e | e
  · rw [e, one_mul] at hs; omega
  · rw [e] at hs
    have h3 : mul p p = mul p 1 := by rw [mul_one]; exact hs.symm
    have := mul_left_cancel hp.ne h3
    omega
/-- a square divides it just when it and its derivative have something in common. -/
theorem square_iff {a : Nat} (ha : a ≠ 0) : (∃ p, Irr p ∧ 2 ≤ val p a) ↔ gcd a (der a) ≠ 1 := by
  constructor
  · rintro ⟨p, hp, hv⟩ h
    have hd := (val_pos hp.two ha).1 (by omega)
    obtain ⟨q1, q2, q3⟩ := quo_lt hp.two ha hd
    have hv2 := val_step hp.two q1
    rw [← q3] at hv2
    have hd2 := (val_pos hp.two q1).1 (by omega)
    have h1 : Dvd p (der a) := by
      rw [q3, der_mul]
      refine dvd_xor (dvd_mul_left p _) ?_
      rw [mul_comm]; exact dvd_mul _ hd2
    have h2 := dvd_gcd hd h1
    rw [h] at h2
    exact hp.not_one h2
  · intro h
    have hg := gcd_ne_zero (a := a) (b := der a) (Or.inl ha)
    obtain ⟨p, hp, hd⟩ := exists_irr (show 2 ≤ gcd a (der a) by omega)
    have d1 := dvd_trans hd (gcd_dvd_left a (der a))
    have d2 := dvd_trans hd (gcd_dvd_right a (der a))
    obtain ⟨q1, q2, q3⟩ := quo_lt hp.two ha d1
    have hv2 := val_step hp.two q1
    rw [← q3] at hv2
    refine ⟨p, hp, ?_⟩
    rw [q3, der_mul] at d2
    have h3 := (dvd_xor_left (dvd_mul_left p (der (quo a p)))).1 d2
    rcases hp.prime h3 with h4 | h4
    · have := (val_pos hp.two q1).2 h4; omega
    · exact absurd h4 (irr_der hp)
end Gf
