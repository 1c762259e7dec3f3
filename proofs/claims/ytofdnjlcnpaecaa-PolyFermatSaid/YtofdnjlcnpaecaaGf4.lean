/- The order of x modulo an odd polynomial. Plain Lean, no program. No condition. -/
import Derived.Test.YtofdnjlcnpaecaaGf3
set_option linter.unusedVariables false
namespace Gf
theorem pigeon : ∀ (N : Nat) (f : Nat → Nat), (∀ i, i ≤ N → f i < N) → ∃ i j, i < j ∧ j ≤ N ∧ f i = f j
  | 0, f, h => absurd (h 0 (Nat.le_refl 0)) (Nat.not_lt_zero _)
  | N + 1, f, h => by
    by_cases hc : ∃ i, i < N + 1 ∧ f i = f (N + 1)
    · obtain ⟨i, hi, he⟩ := hc
      exact ⟨i, N + 1, hi, Nat.le_refl _, he⟩
    · have hne : ∀ i, i < N + 1 → f i ≠ f (N + 1) := fun i hi he => hc ⟨i, hi, he⟩
      have hl := h (N + 1) (Nat.le_refl _)
      obtain ⟨i, j, hij, hj, he⟩ := pigeon N (fun i => if f i > f (N + 1) then f i - 1 else f i) (fun i hi => by
        have h1 := h i (by omega)
        have h2 := hne i (by omega)
        show (if f i > f (N + 1) then f i - 1 else f i) < N
        split <;> omega)
      refine ⟨i, j, hij, by omega, ?_⟩
      have h1 := hne i (by omega)
      have h2 := hne j (by omega)
      have he' : (if f i > f (N + 1) then f i - 1 else f i) = (if f j > f (N + 1) then f j - 1 else f j) := he
      split at he' <;> split at he' <;> omega
theorem least (P : Nat → Prop) : ∀ n, P n → ∃ m, m ≤ n ∧ P m ∧ ∀ j, j < m → ¬ P j := by
  intro n
  induction n using Nat.strongRecOn with
  | _ n ih =>
    intro h
    by_cases hc : ∃ j, j < n ∧ P j
    · obtain ⟨j, hj, hp⟩ := hc
      obtain ⟨m, h1, h2⟩ := ih j hj hp
      exact ⟨m, by omega, h2⟩
    · exact ⟨n, Nat.le_refl n, h, fun j hj hp => hc ⟨j, hj, hp⟩⟩
theorem mul_odd (a b : Nat) : mul a b % 2 = a % 2 * (b % 2) := by
  rw [mul_step, xor_mod_two]
  have : 2 * mul (a / 2) b % 2 = 0 := by omega
  rw [this]
  split
  · rename_i h; rw [h]; omega
  · rename_i h; have : a % 2 = 0 := by omega
    rw [this]; omega
/-- an odd one that divides x c divides c. -/
theorem odd_dvd_two {a c : Nat} (ha : a % 2 = 1) (h : Dvd a (2 * c)) : Dvd a c := by
  obtain ⟨q, hq⟩ := h
  have h1 := mul_odd q a
  rw [← hq, ha] at h1
  have h2 : q % 2 = 0 := by omega
  refine ⟨q / 2, ?_⟩
  have h3 : q = 2 * (q / 2) := by omega
  rw [h3, mul_two_left] at hq
  omega
theorem odd_dvd_pow {a : Nat} (ha : a % 2 = 1) : ∀ (i c : Nat), Dvd a (mul (2 ^ i) c) → Dvd a c
  | 0, c, h => by rwa [Nat.pow_zero, one_mul] at h
  | i + 1, c, h => by
    rw [Nat.pow_succ, Nat.mul_comm, mul_two_left] at h
    exact odd_dvd_pow ha i c (odd_dvd_two ha h)
/-- n is the order of x modulo a. -/
structure Ord (a n : Nat) : Prop where
  pos : 1 ≤ n
  one : rem (2 ^ n) a = rem 1 a
  least : ∀ j, 1 ≤ j → j < n → rem (2 ^ j) a ≠ rem 1 a
theorem rem_eq_iff {a b m : Nat} (hm : m ≠ 0) : rem a m = rem b m ↔ Dvd m (a ^^^ b) := by
  rw [dvd_iff_rem hm, rem_xor _ _ _ hm, xor_eq_zero]
theorem pow_mul_pow (i j : Nat) : mul (2 ^ i) (2 ^ j) = 2 ^ (i + j) := by rw [mul_pow_two, Nat.pow_add]
theorem ord_exists {a : Nat} (ha : a % 2 = 1) : ∃ n, Ord a n ∧ n ≤ 2 ^ a.log2 := by
  have hm : a ≠ 0 := by omega
  obtain ⟨i, j, hij, hj, he⟩ := pigeon (2 ^ a.log2) (fun i => rem (2 ^ i) a) (fun i _ => rem_lt _ a hm)
  have h1 : Dvd a (mul (2 ^ i) (1 ^^^ 2 ^ (j - i))) := by
    rw [mul_xor, mul_one, pow_mul_pow, show i + (j - i) = j by omega]
    exact (rem_eq_iff hm).1 he
  have h2 := odd_dvd_pow ha i _ h1
  obtain ⟨n, hn, ⟨hp1, hp2⟩, hl⟩ := Gf.least (fun n => 1 ≤ n ∧ rem (2 ^ n) a = rem 1 a) (j - i) ⟨by omega, ((rem_eq_iff hm).2 h2).symm⟩
  exact ⟨n, ⟨hp1, hp2, fun j h1 h2 h3 => hl j h2 ⟨h1, h3⟩⟩, by omega⟩
theorem rem_twice {a x : Nat} (ha : a ≠ 0) : rem (2 * rem x a) a = rem (2 * x) a := by
  have h := rem_mul_right 2 x a ha
  rwa [show (2 : Nat) = 2 * 1 by rfl, mul_two_left, mul_two_left, one_mul, one_mul] at h
theorem rem_pow_step {a i : Nat} (ha : a ≠ 0) : rem (2 * rem (2 ^ i) a) a = rem (2 ^ (i + 1)) a := by
  rw [rem_twice ha, Nat.pow_succ, Nat.mul_comm]
/-- a step of the reference: one more doubling, taken off when it is too long. -/
theorem rem_double {a x : Nat} (ha : a ≠ 0) (hx : x < 2 ^ a.log2) : rem (2 * x) a = if 2 ^ a.log2 ≤ 2 * x then 2 * x ^^^ a else 2 * x := by
  split
  · rename_i h
    refine IsDiv.rem_eq (q := 1) ha ⟨?_, ?_⟩
    · rw [one_mul, Nat.xor_comm, Nat.xor_assoc, Nat.xor_self, Nat.xor_zero]
    · by_cases hlt : 2 * x ^^^ a < 2 ^ a.log2
      · exact hlt
      · exfalso
        have h1 : 2 * x < 2 ^ (a.log2 + 1) := by rw [Nat.pow_succ]; omega
        have h2 := top_bit h h1
        have h3 := top_bit (pow_log2_le ha) (lt_pow_log2 a)
        have h4 : 2 * x ^^^ a < 2 ^ (a.log2 + 1) := xor_lt h1 (lt_pow_log2 a)
        have h5 := top_bit (Nat.le_of_not_lt hlt) h4
        rw [Nat.testBit_xor, h2, h3] at h5
        exact absurd h5 (by decide)
  · rename_i h; exact rem_of_lt ha (by omega)
theorem ord_mul {a n : Nat} (ha : a ≠ 0) (h : Ord a n) (m k : Nat) : rem (2 ^ (n * k + m)) a = rem (2 ^ m) a := by
  induction k with
  | zero => rw [Nat.mul_zero, Nat.zero_add]
  | succ k ih =>
    rw [Nat.mul_succ, show n * k + n + m = n + (n * k + m) by omega, ← pow_mul_pow, ← rem_mul_left _ _ _ ha, h.one, rem_mul_left _ _ _ ha, one_mul, ih]
theorem ord_iff {a n : Nat} (ha : a ≠ 0) (h : Ord a n) (m : Nat) : rem (2 ^ m) a = rem 1 a ↔ m % n = 0 := by
  have e := ord_mul ha h (m % n) (m / n)
  rw [Nat.div_add_mod] at e
  rw [e]
  have hn := h.pos
  constructor
  · intro h1
    by_cases h0 : m % n = 0
    · exact h0
    · exact absurd h1 (h.least _ (by omega) (Nat.mod_lt _ (by omega)))
  · intro h0; rw [h0, Nat.pow_zero]
end Gf
