/- What the functions of this seat come to, in plain Lean, part 1. No condition. -/
import Derived.Test.YthmjbopniblfbaaG1
import Derived.IntWalk
set_option linter.unusedVariables false
set_option linter.unusedSimpArgs false
/- Polynomials over the field of two elements: their ring, divisors, factors, residues. Plain Lean, no program. No condition. -/
set_option linter.unusedVariables false
/-! Polynomials over the field of two elements, as natural numbers: sums are exclusive ors; the product; degrees. Plain Lean, no program. -/
namespace Gf

/-- the product -/
def mul (a b : Nat) : Nat := if h : a = 0 then 0 else (if a % 2 = 1 then b else 0) ^^^ (2 * mul (a / 2) b)
termination_by a
decreasing_by omega

theorem mul_zero_left (b : Nat) : mul 0 b = 0 := by unfold mul; simp
theorem mul_step (a b : Nat) : mul a b = (if a % 2 = 1 then b else 0) ^^^ (2 * mul (a / 2) b) := by
  by_cases h : a = 0
  · subst h; simp [mul_zero_left]
  · rw [mul]; simp [h]

/-! ### exclusive or -/
theorem xor_zero (a : Nat) : a ^^^ 0 = a := Nat.xor_zero a
theorem xor_left_comm (a b c : Nat) : a ^^^ (b ^^^ c) = b ^^^ (a ^^^ c) := by rw [← Nat.xor_assoc, Nat.xor_comm a b, Nat.xor_assoc]
theorem xor_xor_cancel (a b : Nat) : a ^^^ (a ^^^ b) = b := by rw [← Nat.xor_assoc, Nat.xor_self, Nat.zero_xor]
theorem xor_eq_zero {a b : Nat} : a ^^^ b = 0 ↔ a = b := by
  constructor
  · intro h
    have := congrArg (fun x => x ^^^ b) h
    simpa [Nat.xor_assoc] using this
  · rintro rfl; exact Nat.xor_self a
theorem xor_right_inj {a b c : Nat} (h : a ^^^ c = b ^^^ c) : a = b := by
  have := congrArg (fun x => x ^^^ c) h
  simpa [Nat.xor_assoc] using this
theorem xor_left_inj {a b c : Nat} (h : c ^^^ a = c ^^^ b) : a = b := by
  rw [Nat.xor_comm c a, Nat.xor_comm c b] at h; exact xor_right_inj h
theorem xor_eq_iff {a b c : Nat} : a ^^^ b = c ↔ a = c ^^^ b := by
  constructor
  · rintro rfl; rw [Nat.xor_assoc, Nat.xor_self, Nat.xor_zero]
  · rintro rfl; rw [Nat.xor_assoc, Nat.xor_self, Nat.xor_zero]
theorem two_mul_xor (a b : Nat) : 2 * (a ^^^ b) = 2 * a ^^^ 2 * b := by
  have h := Nat.shiftLeft_xor_distrib (a := a) (b := b) (i := 1)
  simpa [Nat.shiftLeft_eq, Nat.mul_comm] using h
theorem xor_div_two (a b : Nat) : (a ^^^ b) / 2 = a / 2 ^^^ b / 2 := by
  have h := Nat.shiftRight_xor_distrib (a := a) (b := b) (i := 1)
  simpa [Nat.shiftRight_eq_div_pow] using h
theorem xor_mod_two (a b : Nat) : (a ^^^ b) % 2 = (a % 2 + b % 2) % 2 := by
  have h := Nat.testBit_xor (x := a) (y := b) (i := 0)
  simp only [Nat.testBit_zero] at h
  rcases Nat.mod_two_eq_zero_or_one (a ^^^ b) with h3 | h3 <;> rcases Nat.mod_two_eq_zero_or_one a with h1 | h1 <;> rcases Nat.mod_two_eq_zero_or_one b with h2 | h2 <;> rw [h1, h2, h3] at h ⊢ <;> simp at h ⊢
theorem even_xor_one (a : Nat) : 2 * a ^^^ 1 = 2 * a + 1 := by
  have h1 := xor_div_two (2 * a) 1
  have h2 := xor_mod_two (2 * a) 1
  have h3 : 2 * a / 2 = a := by omega
  have h4 : 1 / 2 = 0 := by omega
  rw [h3, h4, Nat.xor_zero] at h1
  omega
theorem halves (a : Nat) : a = (if a % 2 = 1 then 1 else 0) ^^^ 2 * (a / 2) := by
  rcases Nat.mod_two_eq_zero_or_one a with h | h
  · rw [if_neg (by omega), Nat.zero_xor]; omega
  · rw [if_pos h, Nat.xor_comm, even_xor_one]; omega

/-! ### the ring -/
theorem mul_zero (a : Nat) : mul a 0 = 0 := by
  induction a using Nat.strongRecOn with
  | _ a ih =>
    by_cases h : a = 0
    · subst h; exact mul_zero_left 0
    · rw [mul_step, ih (a / 2) (by omega)]; simp
theorem one_mul (b : Nat) : mul 1 b = b := by rw [mul_step]; simp [mul_zero_left]
theorem mul_xor (a b c : Nat) : mul a (b ^^^ c) = mul a b ^^^ mul a c := by
  induction a using Nat.strongRecOn with
  | _ a ih =>
    by_cases h : a = 0
    · subst h; simp [mul_zero_left]
    · rw [mul_step, mul_step a b, mul_step a c, ih (a / 2) (by omega), two_mul_xor]
      split
      · ac_rfl
      · simp
theorem mul_two_right (a b : Nat) : mul a (2 * b) = 2 * mul a b := by
  induction a using Nat.strongRecOn with
  | _ a ih =>
    by_cases h : a = 0
    · subst h; simp [mul_zero_left]
    · rw [mul_step, mul_step a b, ih (a / 2) (by omega), two_mul_xor]
      split <;> simp
theorem mul_two_left (a b : Nat) : mul (2 * a) b = 2 * mul a b := by
  rw [mul_step]
  have h1 : ¬ (2 * a) % 2 = 1 := by omega
  have h2 : 2 * a / 2 = a := by omega
  rw [if_neg h1, h2, Nat.zero_xor]
theorem xor_mul (a b c : Nat) : mul (a ^^^ b) c = mul a c ^^^ mul b c := by
  induction a using Nat.strongRecOn generalizing b with
  | _ a ih =>
    by_cases h : a = 0
    · subst h; simp [mul_zero_left]
    · rw [mul_step (a ^^^ b), mul_step a, mul_step b, xor_div_two, ih (a / 2) (by omega), two_mul_xor, xor_mod_two]
      rcases Nat.mod_two_eq_zero_or_one a with h1 | h1 <;> rcases Nat.mod_two_eq_zero_or_one b with h2 | h2 <;> simp [h1, h2]
      · rw [xor_left_comm]
      · rw [Nat.xor_assoc]
      · have : c ^^^ 2 * mul (a / 2) c ^^^ (c ^^^ 2 * mul (b / 2) c) = (c ^^^ c) ^^^ (2 * mul (a / 2) c ^^^ 2 * mul (b / 2) c) := by ac_rfl
        rw [this, Nat.xor_self, Nat.zero_xor]
theorem mul_one (a : Nat) : mul a 1 = a := by
  induction a using Nat.strongRecOn with
  | _ a ih =>
    by_cases h : a = 0
    · subst h; exact mul_zero_left 1
    · rw [mul_step, ih (a / 2) (by omega), ← halves]
theorem mul_comm (a b : Nat) : mul a b = mul b a := by
  induction a using Nat.strongRecOn with
  | _ a ih =>
    by_cases h : a = 0
    · subst h; rw [mul_zero_left, mul_zero]
    · rw [mul_step, ih (a / 2) (by omega), ← mul_two_right]
      conv => rhs; rw [halves a, mul_xor]
      split
      · rw [mul_one]
      · rw [mul_zero]
theorem mul_assoc (a b c : Nat) : mul (mul a b) c = mul a (mul b c) := by
  induction a using Nat.strongRecOn with
  | _ a ih =>
    by_cases h : a = 0
    · subst h; simp [mul_zero_left]
    · rw [mul_step a b, xor_mul, mul_two_left, ih (a / 2) (by omega), mul_step a (mul b c)]
      split
      · rfl
      · simp [mul_zero_left]
theorem mul_left_comm (a b c : Nat) : mul a (mul b c) = mul b (mul a c) := by rw [← mul_assoc, mul_comm a b, mul_assoc]

/-! ### sizes: a < 2 ^ n says that the degree is below n -/
theorem xor_lt {a b n : Nat} (ha : a < 2 ^ n) (hb : b < 2 ^ n) : a ^^^ b < 2 ^ n := Nat.xor_lt_two_pow ha hb
theorem xor_top {a b n : Nat} (ha : a < 2 ^ n) (h1 : 2 ^ n ≤ b) (h2 : b < 2 ^ (n + 1)) : 2 ^ n ≤ a ^^^ b ∧ a ^^^ b < 2 ^ (n + 1) := by
  have hlt : a ^^^ b < 2 ^ (n + 1) := xor_lt (Nat.lt_trans ha (Nat.pow_lt_pow_right (by omega) (by omega))) h2
  refine ⟨?_, hlt⟩
  rcases Nat.lt_or_ge (a ^^^ b) (2 ^ n) with h | h
  · have : a ^^^ (a ^^^ b) < 2 ^ n := xor_lt ha h
    rw [xor_xor_cancel] at this
    omega
  · exact h
theorem top_bit {a n : Nat} (h1 : 2 ^ n ≤ a) (h2 : a < 2 ^ (n + 1)) : a.testBit n = true := by
  have e : a / 2 ^ n = 1 := Nat.div_eq_of_lt_le (by omega) (by rw [Nat.pow_succ] at h2; omega)
  rw [Nat.testBit_eq_decide_div_mod_eq, e]; rfl
theorem log2_eq {a n : Nat} (h1 : 2 ^ n ≤ a) (h2 : a < 2 ^ (n + 1)) : a.log2 = n := by
  have h0 : a ≠ 0 := by have := Nat.two_pow_pos n; omega
  exact (Nat.log2_eq_iff h0).2 ⟨h1, h2⟩
theorem pow_log2_le {a : Nat} (h : a ≠ 0) : 2 ^ a.log2 ≤ a := Nat.log2_self_le h
theorem lt_pow_log2 (a : Nat) : a < 2 ^ (a.log2 + 1) := Nat.lt_log2_self
theorem log2_lt {a n : Nat} (h : a ≠ 0) : a.log2 < n ↔ a < 2 ^ n := Nat.log2_lt h
theorem log2_div_two {a : Nat} (h : 2 ≤ a) : (a / 2).log2 + 1 = a.log2 := by
  rw [Nat.log2_def a, if_pos h]

theorem mul_size {a b : Nat} (ha : a ≠ 0) (hb : b ≠ 0) : 2 ^ (a.log2 + b.log2) ≤ mul a b ∧ mul a b < 2 ^ (a.log2 + b.log2 + 1) := by
  induction a using Nat.strongRecOn with
  | _ a ih =>
    by_cases h1 : a = 1
    · subst h1
      have : Nat.log2 1 = 0 := by decide
      rw [one_mul, this, Nat.zero_add]
      exact ⟨pow_log2_le hb, lt_pow_log2 b⟩
    · have h2 : 2 ≤ a := by omega
      obtain ⟨i1, i2⟩ := ih (a / 2) (by omega) (by omega)
      have hl := log2_div_two h2
      have e1 : a.log2 + b.log2 = ((a / 2).log2 + b.log2) + 1 := by omega
      rw [mul_step, e1]
      refine xor_top ?_ ?_ ?_
      · split
        · exact Nat.lt_of_lt_of_le (lt_pow_log2 b) (Nat.pow_le_pow_right (by omega) (by omega))
        · exact Nat.two_pow_pos _
      · rw [Nat.pow_succ]; omega
      · rw [Nat.pow_succ 2 (_ + 1)]; omega
theorem mul_ne_zero {a b : Nat} (ha : a ≠ 0) (hb : b ≠ 0) : mul a b ≠ 0 := by
  have := (mul_size ha hb).1
  have := Nat.two_pow_pos (a.log2 + b.log2)
  omega
theorem log2_mul {a b : Nat} (ha : a ≠ 0) (hb : b ≠ 0) : (mul a b).log2 = a.log2 + b.log2 := log2_eq (mul_size ha hb).1 (mul_size ha hb).2
theorem mul_eq_zero {a b : Nat} : mul a b = 0 ↔ a = 0 ∨ b = 0 := by
  constructor
  · intro h
    by_cases ha : a = 0
    · exact .inl ha
    · by_cases hb : b = 0
      · exact .inr hb
      · exact absurd h (mul_ne_zero ha hb)
  · rintro (rfl | rfl)
    · exact mul_zero_left b
    · exact mul_zero a
theorem mul_left_cancel {a b c : Nat} (ha : a ≠ 0) (h : mul a b = mul a c) : b = c := by
  have : mul a (b ^^^ c) = 0 := by rw [mul_xor, h, Nat.xor_self]
  rcases mul_eq_zero.1 this with h' | h'
  · exact absurd h' ha
  · exact xor_eq_zero.1 h'
theorem mul_lt {a b n m : Nat} (ha : a < 2 ^ n) (hb : b < 2 ^ (m + 1)) : mul a b < 2 ^ (n + m) := by
  by_cases h1 : a = 0
  · subst h1; rw [mul_zero_left]; exact Nat.two_pow_pos _
  by_cases h2 : b = 0
  · subst h2; rw [mul_zero]; exact Nat.two_pow_pos _
  have l1 : a.log2 < n := (log2_lt h1).2 ha
  have l2 : b.log2 < m + 1 := (log2_lt h2).2 hb
  exact Nat.lt_of_lt_of_le (mul_size h1 h2).2 (Nat.pow_le_pow_right (by omega) (by omega))

/-! ### powers of x -/
theorem mul_pow_two (a n : Nat) : mul a (2 ^ n) = a * 2 ^ n := by
  induction n with
  | zero => simp [mul_one]
  | succ n ih => rw [Nat.pow_succ, Nat.mul_comm (2 ^ n) 2, mul_two_right, ih]; ac_rfl
theorem pow_two_mul (a n : Nat) : mul (2 ^ n) a = a * 2 ^ n := by rw [mul_comm, mul_pow_two]

/-! ### division, with its uniqueness -/
/-- what is told of a quotient and a remainder -/
structure IsDiv (a b q r : Nat) : Prop where
  eq : a = mul q b ^^^ r
  lt : r < 2 ^ b.log2
theorem IsDiv.unique {a b q r q' r' : Nat} (hb : b ≠ 0) (h : IsDiv a b q r) (h' : IsDiv a b q' r') : q = q' ∧ r = r' := by
  have e : mul (q ^^^ q') b = r ^^^ r' := by
    rw [xor_mul]
    have := h.eq.symm.trans h'.eq
    have e2 : mul q b ^^^ mul q' b ^^^ (r ^^^ r') = (mul q b ^^^ r) ^^^ (mul q' b ^^^ r') := by ac_rfl
    rw [this, Nat.xor_self] at e2
    exact xor_eq_zero.1 e2
  have hlt : mul (q ^^^ q') b < 2 ^ b.log2 := by rw [e]; exact xor_lt h.lt h'.lt
  have hq : q ^^^ q' = 0 := by
    by_cases hz : q ^^^ q' = 0
    · exact hz
    · have := (mul_size hz hb).1
      have := Nat.pow_le_pow_right (n := 2) (by omega) (show b.log2 ≤ (q ^^^ q').log2 + b.log2 by omega)
      omega
  have hr : r ^^^ r' = 0 := by rw [← e, hq, mul_zero_left]
  exact ⟨xor_eq_zero.1 hq, xor_eq_zero.1 hr⟩

theorem div_exists (b : Nat) (hb : b ≠ 0) (n a : Nat) (ha : a < 2 ^ n) : ∃ q r, IsDiv a b q r := by
  induction n generalizing a with
  | zero =>
    refine ⟨0, 0, ?_, Nat.two_pow_pos _⟩
    simp [mul_zero_left]; omega
  | succ n ih =>
    rcases Nat.lt_or_ge a (2 ^ n) with h | h
    · exact ih a h
    · by_cases hd : n < b.log2
      · refine ⟨0, a, by simp [mul_zero_left], Nat.lt_of_lt_of_le ha (Nat.pow_le_pow_right (by omega) (by omega))⟩
      · have e : mul (2 ^ (n - b.log2)) b = b * 2 ^ (n - b.log2) := pow_two_mul _ _
        have hs1 : 2 ^ n ≤ b * 2 ^ (n - b.log2) := by
          have := Nat.mul_le_mul_right (2 ^ (n - b.log2)) (pow_log2_le hb)
          rwa [← Nat.pow_add, Nat.add_sub_cancel' (by omega)] at this
        have hs2 : b * 2 ^ (n - b.log2) < 2 ^ (n + 1) := by
          have := Nat.mul_lt_mul_of_pos_right (lt_pow_log2 b) (Nat.two_pow_pos (n - b.log2))
          rwa [← Nat.pow_add, show b.log2 + 1 + (n - b.log2) = n + 1 by omega] at this
        have hlt : a ^^^ b * 2 ^ (n - b.log2) < 2 ^ n := by
          rcases Nat.lt_or_ge (a ^^^ b * 2 ^ (n - b.log2)) (2 ^ n) with h' | h'
          · exact h'
          · have h3 := xor_lt ha hs2
            -- both have the bit n: their sum has not
            have t1 := top_bit h ha
            have t2 := top_bit hs1 hs2
            have t3 := top_bit h' h3
            rw [Nat.testBit_xor, t1, t2] at t3
            simp at t3
        obtain ⟨q, r, hqr⟩ := ih _ hlt
        refine ⟨2 ^ (n - b.log2) ^^^ q, r, ?_, hqr.lt⟩
        rw [xor_mul, e, Nat.xor_assoc, ← hqr.eq, Nat.xor_comm a, xor_xor_cancel]
theorem div_all (a b : Nat) (hb : b ≠ 0) : ∃ q r, IsDiv a b q r := div_exists b hb (a.log2 + 1) a (lt_pow_log2 a)
open Classical in
/-- the quotient; the remainder (of nothing by 0) -/
noncomputable def quo (a b : Nat) : Nat := if hb : b = 0 then 0 else Classical.choose (div_all a b hb)
open Classical in
noncomputable def rem (a b : Nat) : Nat := if hb : b = 0 then a else Classical.choose (Classical.choose_spec (div_all a b hb))
theorem isDiv (a b : Nat) (hb : b ≠ 0) : IsDiv a b (quo a b) (rem a b) := by
  unfold quo rem
  rw [dif_neg hb, dif_neg hb]
  exact Classical.choose_spec (Classical.choose_spec (div_all a b hb))
theorem IsDiv.quo_eq {a b q r : Nat} (hb : b ≠ 0) (h : IsDiv a b q r) : quo a b = q := ((isDiv a b hb).unique hb h).1
theorem IsDiv.rem_eq {a b q r : Nat} (hb : b ≠ 0) (h : IsDiv a b q r) : rem a b = r := ((isDiv a b hb).unique hb h).2
theorem rem_lt (a b : Nat) (hb : b ≠ 0) : rem a b < 2 ^ b.log2 := (isDiv a b hb).lt
theorem rem_lt' (a b : Nat) (hb : b ≠ 0) : rem a b < b := Nat.lt_of_lt_of_le (rem_lt a b hb) (pow_log2_le hb)
theorem div_eq (a b : Nat) (hb : b ≠ 0) : a = mul (quo a b) b ^^^ rem a b := (isDiv a b hb).eq
theorem rem_of_lt {a b : Nat} (hb : b ≠ 0) (h : a < 2 ^ b.log2) : rem a b = a := IsDiv.rem_eq (q := 0) hb ⟨by simp [mul_zero_left], h⟩
theorem rem_zero (b : Nat) (hb : b ≠ 0) : rem 0 b = 0 := rem_of_lt hb (Nat.two_pow_pos _)
theorem rem_xor (a c b : Nat) (hb : b ≠ 0) : rem (a ^^^ c) b = rem a b ^^^ rem c b := by
  refine IsDiv.rem_eq (q := quo a b ^^^ quo c b) hb ⟨?_, xor_lt (rem_lt a b hb) (rem_lt c b hb)⟩
  rw [xor_mul]
  conv => lhs; rw [div_eq a b hb, div_eq c b hb]
  ac_rfl
theorem rem_rem (a b : Nat) (hb : b ≠ 0) : rem (rem a b) b = rem a b := rem_of_lt hb (rem_lt a b hb)
theorem rem_mul_self (c b : Nat) (hb : b ≠ 0) : rem (mul c b) b = 0 := IsDiv.rem_eq (q := c) hb ⟨by simp, Nat.two_pow_pos _⟩
theorem rem_mul_left (a c b : Nat) (hb : b ≠ 0) : rem (mul (rem a b) c) b = rem (mul a c) b := by
  conv => rhs; rw [div_eq a b hb, xor_mul, mul_assoc, mul_comm b c, ← mul_assoc, rem_xor _ _ _ hb, rem_mul_self _ _ hb, Nat.zero_xor]
theorem rem_mul_right (a c b : Nat) (hb : b ≠ 0) : rem (mul a (rem c b)) b = rem (mul a c) b := by
  rw [mul_comm, rem_mul_left _ _ _ hb, mul_comm]

end Gf

/- From some number of rounds on. No condition. -/
namespace Go.Eng.Pu
open Go Go.Eng Go.Proofs
def Ev {α : Type} (f : Nat → Option α) (v : α) : Prop := ∃ K, ∀ k, K ≤ k → f k = some v
theorem Ev.of_succ {α : Type} {f g : Nat → Option α} {v : α} (h : ∀ k, f (k + 1) = g k) (hg : Ev g v) : Ev f v := by
  obtain ⟨K, hK⟩ := hg
  refine ⟨K + 1, fun k hk => ?_⟩
  obtain ⟨j, rfl⟩ : ∃ j, k = j + 1 := ⟨k - 1, by omega⟩
  rw [h]; exact hK j (by omega)
theorem Ev.now {α : Type} {f : Nat → Option α} {v : α} (h : ∀ k, f (k + 1) = some v) : Ev f v := Ev.of_succ (g := fun _ => some v) h ⟨0, fun _ _ => rfl⟩
theorem wi {n : Int} (h0 : -9223372036854775808 ≤ n) (h : n ≤ 9223372036854775807) : IntKind.wrap IntKind.i64 n = n := by rw [IntKind.wrap_i64]; omega
theorem wu {n : Int} (h0 : 0 ≤ n) (h : n < 18446744073709551616) : IntKind.wrap IntKind.u64 n = n := by exact IntWalk.u64_in n ⟨h0, by omega⟩
theorem w1 : IntKind.wrap IntKind.i64 (0 + 1) = 1 := by decide
theorem w2 : IntKind.wrap IntKind.i64 (1 + 1) = 2 := by decide
theorem w3 : IntKind.wrap IntKind.i64 (2 + 1) = 3 := by decide
theorem w4 : IntKind.wrap IntKind.i64 (3 + 1) = 4 := by decide
theorem shr_lt {x : Int} (h0 : 0 ≤ x) (h1 : x < 18446744073709551616) {s : Nat} (hs : s ≤ 64) : shr' IntKind.u64 x (s : Int) = x / 2 ^ s := by
  unfold shr'
  rw [show min (Int.toNat (s : Int)) IntKind.u64.bits = s from by rw [Int.toNat_natCast]; exact Nat.min_eq_left hs]
  rw [Int.fdiv_eq_ediv_of_nonneg _ (Int.le_of_lt (Int.pow_pos (by omega)))]
theorem and_one {x : Int} (h0 : 0 ≤ x) (h1 : x < 18446744073709551616) : IntKind.wrap IntKind.u64 (((BitVec.ofInt 64 x &&& BitVec.ofInt 64 1).toNat : Nat) : Int) = x % 2 := by
  obtain ⟨n, rfl⟩ := Int.eq_ofNat_of_zero_le h0
  have e : (BitVec.ofInt 64 (n : Int) &&& BitVec.ofInt 64 1).toNat = n % 2 := by
    rw [BitVec.toNat_and, BitVec.toNat_ofInt, BitVec.toNat_ofInt]
    rw [show ((n : Int) % ((2 ^ 64 : Nat) : Int)).toNat = n from by omega, show ((1 : Int) % ((2 ^ 64 : Nat) : Int)).toNat = 1 from by decide, Nat.and_one_is_mod]
  rw [e, wu (by omega) (by omega)]; omega
theorem or_zero {x y : Int} (hx0 : 0 ≤ x) (hx1 : x < 18446744073709551616) (hy0 : 0 ≤ y) (hy1 : y < 18446744073709551616) :
    (IntKind.wrap IntKind.u64 (((BitVec.ofInt 64 x ||| BitVec.ofInt 64 y).toNat : Nat) : Int) = 0 ↔ x = 0 ∧ y = 0) ∧ 0 ≤ IntKind.wrap IntKind.u64 (((BitVec.ofInt 64 x ||| BitVec.ofInt 64 y).toNat : Nat) : Int) ∧ IntKind.wrap IntKind.u64 (((BitVec.ofInt 64 x ||| BitVec.ofInt 64 y).toNat : Nat) : Int) < 18446744073709551616 := by
  obtain ⟨n, rfl⟩ := Int.eq_ofNat_of_zero_le hx0
  obtain ⟨m, rfl⟩ := Int.eq_ofNat_of_zero_le hy0
  have e : (BitVec.ofInt 64 (n : Int) ||| BitVec.ofInt 64 (m : Int)).toNat = n ||| m := by
    rw [BitVec.toNat_or, BitVec.toNat_ofInt, BitVec.toNat_ofInt]
    rw [show ((n : Int) % ((2 ^ 64 : Nat) : Int)).toNat = n from by omega, show ((m : Int) % ((2 ^ 64 : Nat) : Int)).toNat = m from by omega]
  have hlt : n ||| m < 2 ^ 64 := Nat.or_lt_two_pow (by omega) (by omega)
  rw [e, wu (by omega) (by omega)]
  refine ⟨?_, by omega, by omega⟩
  constructor
  · intro h
    have h : n ||| m = 0 := by omega
    have := Nat.or_eq_zero_iff.1 h
    omega
  · rintro ⟨h1, h2⟩
    have h1 : n = 0 := by omega
    have h2 : m = 0 := by omega
    subst h1 h2; rfl
/-- Is the i-th symbol of the step t kept? -/
def kb (per : Int) (keep : List Int) (i t : Int) : Bool := decide (keep.getD i.toNat 0 / 2 ^ (t % per).toNat % 2 = 1)
structure Pat (per : Int) (keep : List Int) : Prop where
  len : keep.length = 3
  u64 : ∀ x ∈ keep, 0 ≤ x ∧ x < 18446744073709551616
  lo : 1 ≤ per
  hi : per ≤ 64
theorem Pat.at {per : Int} {keep : List Int} (h : Pat per keep) {i : Nat} (hi : i < 3) : 0 ≤ keep.getD i 0 ∧ keep.getD i 0 < 18446744073709551616 := by
  have h1 : i < keep.length := by rw [h.len]; exact hi
  rw [List.getD_eq_getElem?_getD, List.getElem?_eq_getElem h1]
  exact h.u64 _ (List.getElem_mem h1)
theorem bit_ok {per : Int} {keep : List Int} (h : Pat per keep) {i t : Int} (hi0 : 0 ≤ i) (hi : i < 3) (ht : 0 ≤ t) :
    IntKind.wrap IntKind.u64 (((BitVec.ofInt 64 (shr' IntKind.u64 (keep.getD (i.toNat * 1) 0) (t.tmod per)) &&& BitVec.ofInt 64 1).toNat : Nat) : Int) = keep.getD i.toNat 0 / 2 ^ (t % per).toNat % 2 := by
  obtain ⟨a, b⟩ := h.at (i := i.toNat) (by omega)
  have hl := h.lo; have hh := h.hi
  have hm0 : 0 ≤ t % per := Int.emod_nonneg _ (by omega)
  have hm1 : t % per < per := Int.emod_lt_of_pos _ (by omega)
  rw [Nat.mul_one, Int.tmod_eq_emod_of_nonneg ht]
  obtain ⟨s, hs⟩ := Int.eq_ofNat_of_zero_le hm0
  rw [hs, shr_lt a b (by omega), Int.toNat_natCast]
  have hd0 : 0 ≤ keep.getD i.toNat 0 / 2 ^ s := Int.ediv_nonneg a (Int.le_of_lt (Int.pow_pos (by omega)))
  have hd1 : keep.getD i.toNat 0 / 2 ^ s ≤ keep.getD i.toNat 0 := Int.ediv_le_self _ a
  exact and_one hd0 (by omega)
theorem keep63 {per : Int} {keep : List Int} (h : Pat per keep) {i t : Int} (hi0 : 0 ≤ i) (hi : i < 3) (ht : 0 ≤ t) : F63 (t, i, (), ()) ((per, keep, ()), ()) = some (kb per keep i t, (per, keep, ()), ()) := by
  have hl := h.lo
  have hm : ¬ t.tmod per < 0 := by rw [Int.tmod_eq_emod_of_nonneg ht]; have := Int.emod_nonneg t (b := per) (by omega); omega
  simp only [F63]
  rw [if_pos ⟨hi0, hi⟩, if_pos (show i.toNat * 1 < 3 by omega), if_neg (show ¬ per = 0 by omega), if_neg hm, bit_ok h hi0 hi ht]
  congr 2
  unfold kb
  rcases Int.emod_two_eq (keep.getD i.toNat 0 / 2 ^ (t % per).toNat) with e | e <;> rw [e] <;> rfl
theorem keep42 {per : Int} {keep : List Int} (h : Pat per keep) {i t : Int} (hi0 : 0 ≤ i) (hi : i < 3) (ht : 0 ≤ t) : F42 ((per, keep, ()), i, t, ()) () = some (kb per keep i t, ()) := by
  have hl := h.lo; have hh := h.hi
  have hm0 : 0 ≤ t % per := Int.emod_nonneg _ (by omega)
  have hm1 : t % per < per := Int.emod_lt_of_pos _ (by omega)
  have hw : IntKind.wrap IntKind.u64 (t.tmod per) = t.tmod per := by rw [Int.tmod_eq_emod_of_nonneg ht]; exact wu hm0 (by omega)
  simp only [F42]
  rw [if_pos ⟨hi0, hi⟩, if_pos (show i.toNat * 1 < 3 by omega), if_neg (show ¬ per = 0 by omega), hw, if_neg (show ¬ t.tmod per < 0 by rw [Int.tmod_eq_emod_of_nonneg ht]; omega), bit_ok h hi0 hi ht]
  rfl
end Go.Eng.Pu

/- What the plain functions of puncture come to: counts, checks, rates. No condition. -/
namespace Go.Eng.Pu
open Go Go.Eng Go.Proofs
theorem v1 : IntKind.wrap IntKind.i64 1 = 1 := by decide
theorem v2 : IntKind.wrap IntKind.i64 2 = 2 := by decide
theorem v3 : IntKind.wrap IntKind.i64 3 = 3 := by decide
theorem v4 : IntKind.wrap IntKind.i64 4 = 4 := by decide
/-- How many of the first r symbols of the step t are kept. -/
def row1 (per : Int) (keep : List Int) (t : Int) : Nat → Int
  | 0 => 0
  | i + 1 => row1 per keep t i + if kb per keep i t then 1 else 0
/-- .. of the first s steps. -/
def tot (per : Int) (keep : List Int) (r : Nat) : Nat → Int
  | 0 => 0
  | s + 1 => tot per keep r s + row1 per keep s r
theorem row1_le (per : Int) (keep : List Int) (t : Int) : ∀ r, 0 ≤ row1 per keep t r ∧ row1 per keep t r ≤ r
  | 0 => ⟨Int.le_refl _, Int.le_refl _⟩
  | r + 1 => by have := row1_le per keep t r; simp only [row1]; split <;> omega
theorem tot_le (per : Int) (keep : List Int) (r : Nat) : ∀ s, 0 ≤ tot per keep r s ∧ tot per keep r s ≤ r * s
  | 0 => ⟨Int.le_refl _, by simp [tot]⟩
  | s + 1 => by
    have h1 := tot_le per keep r s; have h2 := row1_le per keep s r
    simp only [tot]
    rw [show ((s + 1 : Nat) : Int) = (s : Int) + 1 by omega, Int.mul_add]; omega
theorem tot3 {per : Int} {keep : List Int} {r : Nat} (hr : r ≤ 3) {s : Nat} (hs : s ≤ 1000000) : 0 ≤ tot per keep r s ∧ tot per keep r s ≤ 3000000 := by
  have h := tot_le per keep r s
  have : (r : Int) * s ≤ 3 * 1000000 := Int.mul_le_mul (by omega) (by omega) (by omega) (by omega)
  omega
section
variable {per : Int} {keep : List Int} (h : Pat per keep)
include h
theorem in45 {r : Nat} (hr : r ≤ 3) {S t : Nat} (hS : S ≤ 1000000) (ht : t < S) : ∀ (d j : Nat) (n : Int) (k : Nat) (_ : j + d = r) (_ : 0 ≤ n) (_ : n + d ≤ 4000000),
    L45_7 (k + d + 1) ((r : Int), ((), ()), n, (t : Int), (S : Int), (t : Int), (r : Int), (j : Int), ()) ((per, keep, ()), ()) = L45_4 k ((r : Int), ((), ()), n + (row1 per keep t r - row1 per keep t j), (S : Int), ((t + 1 : Nat) : Int), ()) ((per, keep, ()), ()) := by
  intro d
  induction d with
  | zero =>
    intro j n k hj hn hn'
    have hj : j = r := by omega
    subst hj
    rw [L45_7]
    rw [if_neg (by simp), wi (by omega) (by omega), Int.sub_self, Int.add_zero, show (t : Int) + 1 = ((t + 1 : Nat) : Int) by omega]
  | succ d ih =>
    intro j n k hj hn hn'
    rw [show k + (d + 1) + 1 = (k + d + 1) + 1 by omega, L45_7]
    rw [if_pos (by simp; omega), keep63 h (by omega) (by omega) (by omega)]
    simp only [Option.bind_some]
    have hj1 : IntKind.wrap IntKind.i64 ((j : Int) + 1) = ((j + 1 : Nat) : Int) := wi (by omega) (by omega)
    have hr1 : row1 per keep t (j + 1) = row1 per keep t j + if kb per keep j t then 1 else 0 := rfl
    rw [hj1]
    split
    · rename_i hk
      rw [wi (by omega) (by omega), ih (j + 1) (n + 1) k (by omega) (by omega) (by omega), hr1, if_pos hk, show n + 1 + (row1 per keep t r - (row1 per keep t j + 1)) = n + (row1 per keep t r - row1 per keep t j) by omega]
    · rename_i hk
      rw [ih (j + 1) n k (by omega) (by omega) (by omega), hr1, if_neg hk, Int.add_zero]
theorem out45 {r : Nat} (hr : r ≤ 3) {S : Nat} (hS : S ≤ 1000000) : ∀ (d t : Nat) (k : Nat), t + d = S →
    L45_4 (k + d * (r + 2) + 1) ((r : Int), ((), ()), tot per keep r t, (S : Int), (t : Int), ()) ((per, keep, ()), ()) = some (tot per keep r S, ())
  | 0, t, k, ht => by
    have ht : t = S := by omega
    subst ht
    rw [L45_4, if_neg (by simp)]
  | d + 1, t, k, ht => by
    have hb := tot3 (per := per) (keep := keep) hr (s := t) (by omega)
    rw [L45_4, if_pos (by simp; omega)]
    rw [show k + (d + 1) * (r + 2) = (k + d * (r + 2) + 1) + r + 1 by rw [Nat.succ_mul]; omega]
    have := in45 h hr hS (t := t) (by omega) r 0 (tot per keep r t) (k + d * (r + 2) + 1) (by omega) hb.1 (by omega)
    refine this.trans ?_
    have e : tot per keep r t + (row1 per keep t r - row1 per keep t 0) = tot per keep r (t + 1) := by simp [tot, row1]
    rw [e]
    exact out45 hr hS d (t + 1) k (by omega)
theorem count_ok {r S : Nat} (hr : r ≤ 3) (hS : S ≤ 1000000) : ∃ K, ∀ k, K ≤ k → F45 k ((per, keep, ()), (r : Int), (S : Int), ()) () = some (tot per keep r S, ()) := by
  refine ⟨S * (r + 2) + 1, fun k hk => ?_⟩
  obtain ⟨j, rfl⟩ : ∃ j, k = j + S * (r + 2) + 1 := ⟨k - (S * (r + 2) + 1), by omega⟩
  exact out45 h hr hS S 0 j (by omega)
theorem in46 {r : Nat} (hr : r ≤ 3) {S t : Nat} (hS : S ≤ 1000000) (ht : t < S) : ∀ (d j : Nat) (n : Int) (k : Nat) (_ : j + d = r) (_ : 0 ≤ n) (_ : n + d ≤ 4000000),
    L46_6 (k + d + 1) ((r : Int), (S : Int), (), n, (t : Int), (j : Int), ()) ((per, keep, ()), ()) = L46_3 k ((r : Int), (S : Int), (), n + (row1 per keep t r - row1 per keep t j), ((t + 1 : Nat) : Int), ()) ((per, keep, ()), ()) := by
  intro d
  induction d with
  | zero =>
    intro j n k hj hn hn'
    have hj : j = r := by omega
    subst hj
    rw [L46_6]
    rw [if_neg (by simp), wi (by omega) (by omega), Int.sub_self, Int.add_zero, show (t : Int) + 1 = ((t + 1 : Nat) : Int) by omega]
  | succ d ih =>
    intro j n k hj hn hn'
    rw [show k + (d + 1) + 1 = (k + d + 1) + 1 by omega, L46_6]
    rw [if_pos (by simp; omega), keep42 h (by omega) (by omega) (by omega)]
    simp only [Option.bind_some]
    have hj1 : IntKind.wrap IntKind.i64 ((j : Int) + 1) = ((j + 1 : Nat) : Int) := wi (by omega) (by omega)
    have hr1 : row1 per keep t (j + 1) = row1 per keep t j + if kb per keep j t then 1 else 0 := rfl
    rw [hj1]
    split
    · rename_i hk
      rw [wi (by omega) (by omega), ih (j + 1) (n + 1) k (by omega) (by omega) (by omega), hr1, if_pos hk, show n + 1 + (row1 per keep t r - (row1 per keep t j + 1)) = n + (row1 per keep t r - row1 per keep t j) by omega]
    · rename_i hk
      rw [ih (j + 1) n k (by omega) (by omega) (by omega), hr1, if_neg hk, Int.add_zero]
theorem out46 {r : Nat} (hr : r ≤ 3) {S : Nat} (hS : S ≤ 1000000) : ∀ (d t : Nat) (k : Nat), t + d = S →
    L46_3 (k + d * (r + 2) + 1) ((r : Int), (S : Int), (), tot per keep r t, (t : Int), ()) ((per, keep, ()), ()) = some (tot per keep r S, ())
  | 0, t, k, ht => by
    have ht : t = S := by omega
    subst ht
    rw [L46_3, if_neg (by simp)]
  | d + 1, t, k, ht => by
    have hb := tot3 (per := per) (keep := keep) hr (s := t) (by omega)
    rw [L46_3, if_pos (by simp; omega)]
    rw [show k + (d + 1) * (r + 2) = (k + d * (r + 2) + 1) + r + 1 by rw [Nat.succ_mul]; omega]
    have := in46 h hr hS (t := t) (by omega) r 0 (tot per keep r t) (k + d * (r + 2) + 1) (by omega) hb.1 (by omega)
    refine this.trans ?_
    have e : tot per keep r t + (row1 per keep t r - row1 per keep t 0) = tot per keep r (t + 1) := by simp [tot, row1]
    rw [e]
    exact out46 hr hS d (t + 1) k (by omega)
theorem sent_ok {r S : Nat} (hr : r ≤ 3) (hS : S ≤ 1000000) : ∃ K, ∀ k, K ≤ k → F46 k ((per, keep, ()), (r : Int), (S : Int), ()) () = some (tot per keep r S, ()) := by
  refine ⟨S * (r + 2) + 1, fun k hk => ?_⟩
  obtain ⟨j, rfl⟩ : ∃ j, k = j + S * (r + 2) + 1 := ⟨k - (S * (r + 2) + 1), by omega⟩
  exact out46 h hr hS S 0 j (by omega)
end
/-! ### checks -/
def bad (per rate : Int) (i : Int) (v : Int) : Bool := (decide (rate ≤ i) && !decide (v = 0)) || (decide (per < 64) && !decide (v / 2 ^ per.toNat = 0))
def chk (per : Int) (x y z rate : Int) : Int :=
  if rate ≠ 2 ∧ rate ≠ 3 then 1
  else if per < 1 ∨ 64 < per then 340
  else if bad per rate 0 x || (bad per rate 1 y || bad per rate 2 z) then 340
  else if x = 0 ∧ y = 0 ∧ z = 0 then 340 else 0
theorem chk29 {per x y z rate : Int} (hx : 0 ≤ x ∧ x < 18446744073709551616) (hy : 0 ≤ y ∧ y < 18446744073709551616) (hz : 0 ≤ z ∧ z < 18446744073709551616) (k : Nat) :
    F29 (k + 5) ((per, [x, y, z], ()), rate, ()) () = some (chk per x y z rate, ()) := by
  by_cases hp : per < 1 ∨ 64 < per
  · by_cases h2 : rate = 2
    · subst h2; rcases hp with hp | hp <;> simp [F29, chk, hp] <;> omega
    · by_cases h3 : rate = 3
      · subst h3; rcases hp with hp | hp <;> simp [F29, chk, hp] <;> omega
      · simp [F29, chk, h2, h3]
  · obtain ⟨p, rfl⟩ := Int.eq_ofNat_of_zero_le (show 0 ≤ per by omega)
    have hw : IntKind.wrap IntKind.u64 (p : Int) = (p : Int) := wu (by omega) (by omega)
    have e : ∀ v : Int, 0 ≤ v → v < 18446744073709551616 → shr' IntKind.u64 v (p : Int) = v / 2 ^ p := fun v a b => shr_lt a b (by omega)
    have e0 : shr' IntKind.u64 0 (p : Int) = 0 := by rw [e 0 (by omega) (by omega)]; simp
    have ex := e x hx.1 hx.2
    have ey := e y hy.1 hy.2
    have ez := e z hz.1 hz.2
    have hp0 : ¬ ((p : Int) < 0) := by omega
    have hp1 : ¬ ((p : Int) < 1) := by omega
    have hp2 : ¬ (64 < (p : Int)) := by omega
    by_cases h64 : (p : Int) < 64 <;> by_cases x0 : x = 0 <;> by_cases y0 : y = 0 <;> by_cases z0 : z = 0 <;> by_cases xs : x / 2 ^ p = 0 <;> by_cases ys : y / 2 ^ p = 0 <;> by_cases zs : z / 2 ^ p = 0 <;> 
    (by_cases h2 : rate = 2
     · subst h2; simp [F29, L29_7, chk, bad, hw, e0, ex, ey, ez, hp0, hp1, hp2, v1, v2, v3, h64, x0, y0, z0, xs, ys, zs]
     · by_cases h3 : rate = 3
       · subst h3; simp [F29, L29_7, chk, bad, hw, e0, ex, ey, ez, hp0, hp1, hp2, v1, v2, v3, h64, x0, y0, z0, xs, ys, zs]
       · simp [F29, chk, h2, h3])
end Go.Eng.Pu

/- What the plain functions of puncture come to: the program's check, names, rates. No condition. -/
namespace Go.Eng.Pu
open Go Go.Eng Go.Proofs
def wh (per x y z rate : Int) : Bool := decide (rate = 2) && (decide (per = 2 ∧ x = 1 ∧ y = 3 ∧ z = 0) || (decide (per = 3 ∧ x = 5 ∧ y = 3 ∧ z = 0) || (decide (per = 5 ∧ x = 21 ∧ y = 11 ∧ z = 0) || decide (per = 7 ∧ x = 81 ∧ y = 47 ∧ z = 0))))
theorem whole48 {per x y z rate : Int} (k : Nat) : F48 (k + 6) ((per, [x, y, z], ()), rate, ()) () = some (wh per x y z rate, ()) := by
  by_cases h2 : rate = 2
  · subst h2
    by_cases a1 : (2 = per ∧ [1, 3, 0] = [x, y, z])
    · obtain ⟨rfl, h⟩ := a1; cases h; rfl
    by_cases a2 : (3 = per ∧ [5, 3, 0] = [x, y, z])
    · obtain ⟨rfl, h⟩ := a2; cases h; rfl
    by_cases a3 : (5 = per ∧ [21, 11, 0] = [x, y, z])
    · obtain ⟨rfl, h⟩ := a3; cases h; rfl
    by_cases a4 : (7 = per ∧ [81, 47, 0] = [x, y, z])
    · obtain ⟨rfl, h⟩ := a4; cases h; rfl
    have hw : wh per x y z 2 = false := by
      simp only [List.cons.injEq] at a1 a2 a3 a4
      simp only [wh, decide_true, Bool.true_and, Bool.or_eq_false_iff, decide_eq_false_iff_not]
      refine ⟨fun h => a1 ?_, fun h => a2 ?_, fun h => a3 ?_, fun h => a4 ?_⟩ <;> (obtain ⟨rfl, rfl, rfl, rfl⟩ := h; simp)
    rw [hw]
    simp [F48, F47, L48_2, v1, v2, v3, v4, List.replicate]
    simp only [List.cons.injEq] at a1 a2 a3 a4
    simp only [and_true] at a1 a2 a3 a4
    rw [if_neg a1, if_neg a2, if_neg a3, if_neg a4]
  · have hw : wh per x y z rate = false := by simp [wh, h2]
    rw [hw]
    simp [F48, F47, L48_2, v1, v2, v3, v4, h2]
theorem orU_zero {x y : Int} (hx : 0 ≤ x ∧ x < 18446744073709551616) (hy : 0 ≤ y ∧ y < 18446744073709551616) :
    (IntKind.wrap IntKind.u64 (((BitVec.ofInt 64 x ||| BitVec.ofInt 64 y).toNat : Nat) : Int) = 0 ↔ x = 0 ∧ y = 0) := (or_zero hx.1 hx.2 hy.1 hy.2).1
def orU (x y : Int) : Int := IntKind.wrap IntKind.u64 (((BitVec.ofInt 64 x ||| BitVec.ofInt 64 y).toNat : Nat) : Int)
theorem orU_in {x y : Int} (hx : 0 ≤ x ∧ x < 18446744073709551616) (hy : 0 ≤ y ∧ y < 18446744073709551616) : 0 ≤ orU x y ∧ orU x y < 18446744073709551616 := (or_zero hx.1 hx.2 hy.1 hy.2).2
theorem orU_def (x y : Int) : IntKind.wrap IntKind.u64 (((BitVec.ofInt 64 x ||| BitVec.ofInt 64 y).toNat : Nat) : Int) = orU x y := rfl
theorem F28_eq {per x y z rate : Int} (k : Nat) : F28 (k + 6) ((per, [x, y, z], ()), rate, ()) () = if rate ≠ 2 ∧ rate ≠ 3 then some (1, ()) else if wh per x y z rate = true then some (0, ()) else if per < 1 ∨ 64 < per then some (340, ()) else
    L28_9 (k + 6) (k + 6) (rate, (), 0, [x, y, z], 0, ()) ((per, [x, y, z], ()), ()) := by
  have hF := whole48 (per := per) (x := x) (y := y) (z := z) (rate := rate) k
  simp only [F28]
  rw [hF]
  simp only [Option.bind_some]
  by_cases h2 : rate = 2
  · subst h2
    by_cases h4 : per < 1 <;> by_cases h5 : 64 < per <;> simp [h4, h5]
  · by_cases h3 : rate = 3
    · subst h3
      by_cases h4 : per < 1 <;> by_cases h5 : 64 < per <;> simp [h4, h5]
    · simp [h2, h3]
theorem L28_step {p rate acc v : Int} {keep keep' : List Int} {K : Nat} (k i : Nat) (hi : i < 3) (hv : keep.getD i 0 = v) (ex : shr' IntKind.u64 v p = v / 2 ^ p.toNat) (hp0 : ¬ p < 0) :
    L28_9 K (k + 1) (rate, (), acc, keep, (i : Int), ()) ((p, keep', ()), ()) = if bad p rate i v = true then some (340, ()) else L28_9 K k (rate, (), orU acc v, keep, ((i + 1 : Nat) : Int), ()) ((p, keep', ()), ()) := by
  rw [L28_9]
  simp only [orU_def, Int.toNat_natCast, hv, ex]
  rw [show IntKind.wrap IntKind.i64 ((i : Int) + 1) = ((i + 1 : Nat) : Int) from wi (by omega) (by omega), if_pos (show decide ((i : Int) < 3) = true by simp; omega), if_pos (show 0 ≤ (i : Int) ∧ (i : Int) < 3 by omega)]
  clear hv ex
  unfold bad
  by_cases h1 : rate ≤ (i : Int) <;> by_cases h2 : v = 0 <;> by_cases h3 : p < 64 <;> by_cases h4 : v / 2 ^ p.toNat = 0 <;> (try (subst h2; simp at h4; done)) <;> simp [h1, h2, h3, h4, hp0]
theorem L28_eq {p x y z rate : Int} {K : Nat} (k : Nat) (ex : shr' IntKind.u64 x p = x / 2 ^ p.toNat) (ey : shr' IntKind.u64 y p = y / 2 ^ p.toNat) (ez : shr' IntKind.u64 z p = z / 2 ^ p.toNat) (hp0 : ¬ p < 0) :
    L28_9 K (k + 4) (rate, (), 0, [x, y, z], 0, ()) ((p, [x, y, z], ()), ()) = some (if bad p rate 0 x || (bad p rate 1 y || bad p rate 2 z) then 340 else if orU (orU (orU 0 x) y) z = 0 then 340 else 0, ()) := by
  have h0 := L28_step (K := K) (p := p) (rate := rate) (acc := 0) (keep := [x, y, z]) (keep' := [x, y, z]) (k + 3) 0 (by omega) rfl ex hp0
  have h1 := L28_step (K := K) (p := p) (rate := rate) (acc := orU 0 x) (keep := [x, y, z]) (keep' := [x, y, z]) (k + 2) 1 (by omega) rfl ey hp0
  have h2 := L28_step (K := K) (p := p) (rate := rate) (acc := orU (orU 0 x) y) (keep := [x, y, z]) (keep' := [x, y, z]) (k + 1) 2 (by omega) rfl ez hp0
  have h3 : L28_9 K (k + 1) (rate, (), orU (orU (orU 0 x) y) z, [x, y, z], ((2 + 1 : Nat) : Int), ()) ((p, [x, y, z], ()), ()) = some (if orU (orU (orU 0 x) y) z = 0 then 340 else 0, ()) := by
    rw [L28_9, if_neg (by simp)]; by_cases hq : orU (orU (orU 0 x) y) z = 0 <;> simp [hq]
  refine h0.trans ?_
  show (if bad p rate ((0 : Nat) : Int) x = true then some (340, ()) else _) = _
  cases b0 : bad p rate ((0 : Nat) : Int) x
  · rw [if_neg (by simp)]
    refine h1.trans ?_
    show (if bad p rate ((1 : Nat) : Int) y = true then some (340, ()) else _) = _
    cases b1 : bad p rate ((1 : Nat) : Int) y
    · rw [if_neg (by simp)]
      refine h2.trans ?_
      show (if bad p rate ((2 : Nat) : Int) z = true then some (340, ()) else _) = _
      cases b2 : bad p rate ((2 : Nat) : Int) z
      · rw [if_neg (by simp)]
        refine h3.trans ?_
        rfl
      · rfl
    · rfl
  · rfl
theorem chk28 {per x y z rate : Int} (hx : 0 ≤ x ∧ x < 18446744073709551616) (hy : 0 ≤ y ∧ y < 18446744073709551616) (hz : 0 ≤ z ∧ z < 18446744073709551616) (k : Nat) :
    F28 (k + 6) ((per, [x, y, z], ()), rate, ()) () = some (chk per x y z rate, ()) := by
  have hwh : wh per x y z rate = true → chk per x y z rate = 0 := by
    intro h
    simp only [wh, Bool.and_eq_true, Bool.or_eq_true, decide_eq_true_eq] at h
    obtain ⟨rfl, h | h | h | h⟩ := h <;> (obtain ⟨rfl, rfl, rfl, rfl⟩ := h; decide)
  rw [F28_eq]
  by_cases hr : rate ≠ 2 ∧ rate ≠ 3
  · rw [if_pos hr]; unfold chk; rw [if_pos hr]
  rw [if_neg hr]
  cases hw : wh per x y z rate with
  | true => rw [if_pos rfl, hwh hw]
  | false =>
    rw [if_neg (by simp)]
    unfold chk
    rw [if_neg hr]
    by_cases hp : per < 1 ∨ 64 < per
    · rw [if_pos hp, if_pos hp]
    rw [if_neg hp, if_neg hp]
    obtain ⟨p, rfl⟩ := Int.eq_ofNat_of_zero_le (show 0 ≤ per by omega)
    have e : ∀ v : Int, 0 ≤ v → v < 18446744073709551616 → shr' IntKind.u64 v (p : Int) = v / 2 ^ ((p : Int).toNat) := fun v a b => by rw [Int.toNat_natCast]; exact shr_lt a b (by omega)
    have o1 := orU_in (x := 0) (by omega) hx
    have o2 := orU_in o1 hy
    have q3 : orU (orU (orU 0 x) y) z = 0 ↔ x = 0 ∧ y = 0 ∧ z = 0 := by
      rw [show orU (orU (orU 0 x) y) z = 0 ↔ _ from orU_zero o2 hz, show orU (orU 0 x) y = 0 ↔ _ from orU_zero o1 hy, show orU 0 x = 0 ↔ _ from orU_zero (by omega) hx]
      simp only [true_and]
      constructor
      · rintro ⟨⟨a, b⟩, c⟩; exact ⟨a, b, c⟩
      · rintro ⟨a, b, c⟩; exact ⟨⟨a, b⟩, c⟩
    rw [L28_eq (k + 2) (e x hx.1 hx.2) (e y hy.1 hy.2) (e z hz.1 hz.2) (by omega)]
    simp only [q3]
end Go.Eng.Pu

/- What the plain functions of puncture come to: rates, names, what is sent. No condition. -/
namespace Go.Eng.Pu
open Go Go.Eng Go.Proofs
theorem tmod_nat (a b : Nat) : (a : Int).tmod b = ((a % b : Nat) : Int) := by
  rw [Int.tmod_eq_emod_of_nonneg (by omega)]; exact (Int.natCast_emod a b).symm
theorem gcd24 {n per : Int} {keep : List Int} {K : Nat} : ∀ (b a k : Nat), 0 < a → L24_6 K (k + b + 1) ((), n, (a : Int), (b : Int), ()) ((per, keep, ()), ()) =
    some ((IntKind.wrap IntKind.i64 (Int.tdiv per (Nat.gcd a b : Nat)), IntKind.wrap IntKind.i64 (Int.tdiv n (Nat.gcd a b : Nat)), 0, ()), ()) := by
  intro b
  induction b using Nat.strongRecOn with
  | ind b ih =>
    intro a k ha
    rw [L24_6]
    rcases Nat.eq_zero_or_pos b with hb | hb
    · subst hb
      rw [if_neg (by simp), if_neg (show ¬ (a : Int) = 0 by omega), if_neg (show ¬ (a : Int) = 0 by omega), Nat.gcd_zero_right]
    · rw [if_pos (show decide ((0 : Int) < b) = true by simp; omega), if_neg (show ¬ (b : Int) = 0 by omega), tmod_nat]
      have hlt := Nat.mod_lt a hb
      have := ih (a % b) hlt b (k + b - a % b - 1) hb
      rw [show k + b - a % b - 1 + a % b + 1 = k + b by omega] at this
      rw [this, Nat.gcd_comm b, ← Nat.gcd_rec, Nat.gcd_comm]
theorem down25 {K : Nat} {a b : Nat} (ha : 0 < a) (ha' : a ≤ 1000000) : ∀ (d c k : Nat), c = Nat.gcd a b + d → c ≤ a → L25_8 K (k + d + 1) ((a : Int), (b : Int), (c : Int), ()) () =
    some ((IntKind.wrap IntKind.i64 (Int.tdiv a (Nat.gcd a b : Nat)), IntKind.wrap IntKind.i64 (Int.tdiv b (Nat.gcd a b : Nat)), 0, ()), ()) := by
  have hg : 0 < Nat.gcd a b := Nat.gcd_pos_of_pos_left _ ha
  intro d
  induction d with
  | zero =>
    intro c k hc hca
    have hc : c = Nat.gcd a b := by omega
    subst hc
    rw [L25_8, tmod_nat, tmod_nat, Nat.mod_eq_zero_of_dvd (Nat.gcd_dvd_left a b), Nat.mod_eq_zero_of_dvd (Nat.gcd_dvd_right a b)]
    have h0 : ¬ ((Nat.gcd a b : Nat) : Int) = 0 := by omega
    simp only [if_neg h0]
    rfl
  | succ d ih =>
    intro c k hc hca
    have h0 : ¬ (c : Int) = 0 := by omega
    rw [show k + (d + 1) + 1 = (k + d + 1) + 1 by omega, L25_8, tmod_nat, tmod_nat, show IntKind.wrap IntKind.i64 ((c : Int) - 1) = ((c - 1 : Nat) : Int) from by rw [wi (by omega) (by omega)]; omega, ih (c - 1) k (by omega) (by omega), if_neg h0]
    by_cases h1 : decide (((a % c : Nat) : Int) = 0) = true
    · by_cases h2 : decide (((b % c : Nat) : Int) = 0) = true
      · exfalso
        have e1 : a % c = 0 := by simp only [decide_eq_true_eq] at h1; omega
        have e2 : b % c = 0 := by simp only [decide_eq_true_eq] at h2; omega
        have := Nat.le_of_dvd hg (Nat.dvd_gcd (Nat.dvd_of_mod_eq_zero e1) (Nat.dvd_of_mod_eq_zero e2))
        omega
      · rw [if_pos h1, if_neg h0, if_neg h2]
    · rw [if_neg h1]
/-- A pattern that is well. -/
theorem chk_pat {per x y z rate : Int} (hx : 0 ≤ x ∧ x < 18446744073709551616) (hy : 0 ≤ y ∧ y < 18446744073709551616) (hz : 0 ≤ z ∧ z < 18446744073709551616) (h : chk per x y z rate = 0) : Pat per [x, y, z] ∧ (rate = 2 ∨ rate = 3) := by
  unfold chk at h
  by_cases h1 : rate ≠ 2 ∧ rate ≠ 3
  · rw [if_pos h1] at h; cases h
  rw [if_neg h1] at h
  by_cases h2 : per < 1 ∨ 64 < per
  · rw [if_pos h2] at h; cases h
  refine ⟨⟨rfl, fun v hv => ?_, by omega, by omega⟩, by omega⟩
  simp only [List.mem_cons, List.not_mem_nil, or_false] at hv
  rcases hv with rfl | rfl | rfl <;> assumption
theorem rate_cases {rate : Int} (h : rate = 2 ∨ rate = 3) : ∃ r : Nat, rate = r ∧ 0 < r ∧ r ≤ 3 := by
  rcases h with rfl | rfl
  · exact ⟨2, rfl, by omega, by omega⟩
  · exact ⟨3, rfl, by omega, by omega⟩
section
variable {per x y z rate : Int} (hx : 0 ≤ x ∧ x < 18446744073709551616) (hy : 0 ≤ y ∧ y < 18446744073709551616) (hz : 0 ≤ z ∧ z < 18446744073709551616)
include hx hy hz
/-- What both rates come to. -/
theorem rate_ok : ∃ a b c : Int, ∃ K, ∀ k, K ≤ k → F24 k ((per, [x, y, z], ()), rate, ()) () = some ((a, b, c, ()), ()) ∧ F25 k ((per, [x, y, z], ()), rate, ()) () = some ((a, b, c, ()), ()) := by
  have e28 := fun k => chk28 (per := per) (rate := rate) hx hy hz k
  have e29 := fun k => chk29 (per := per) (rate := rate) hx hy hz k
  by_cases hc : chk per x y z rate = 0
  · obtain ⟨hp, hr⟩ := chk_pat hx hy hz hc
    obtain ⟨r, rfl, hr0, hr3⟩ := rate_cases hr
    have hlo := hp.lo
    have hhi := hp.hi
    obtain ⟨p, rfl⟩ := Int.eq_ofNat_of_zero_le (show 0 ≤ per by omega)
    obtain ⟨K1, h1⟩ := count_ok hp hr3 (S := p) (by omega)
    obtain ⟨K2, h2⟩ := sent_ok hp hr3 (S := p) (by omega)
    obtain ⟨n, hn⟩ := Int.eq_ofNat_of_zero_le (tot_le (p : Int) [x, y, z] r p).1
    refine ⟨IntKind.wrap IntKind.i64 (Int.tdiv p (Nat.gcd p n : Nat)), IntKind.wrap IntKind.i64 (Int.tdiv n (Nat.gcd p n : Nat)), 0, K1 + K2 + p + n + 10, fun k hk => ⟨?_, ?_⟩⟩
    · simp only [F24]
      rw [show k = k - 6 + 6 by omega, e28, hc, ← show k = k - 6 + 6 by omega]
      simp only [Option.bind_some, decide_true, Bool.not_true, Bool.false_eq_true, if_false]
      rw [h1 k (by omega)]
      simp only [Option.bind_some]
      rw [hn]
      have := gcd24 (n := (n : Int)) (per := (p : Int)) (keep := [x, y, z]) (K := k) n p (k - n - 1) (by omega)
      rw [show k - n - 1 + n + 1 = k by omega] at this
      exact this
    · simp only [F25]
      rw [show k = k - 5 + 5 by omega, e29, hc, ← show k = k - 5 + 5 by omega]
      simp only [Option.bind_some, decide_true, Bool.not_true, Bool.false_eq_true, if_false]
      rw [h2 k (by omega)]
      simp only [Option.bind_some]
      rw [hn]
      have hg := Nat.gcd_le_left n (show 0 < p by omega)
      have := down25 (K := k) (a := p) (b := n) (by omega) (by omega) (p - Nat.gcd p n) p (k - (p - Nat.gcd p n) - 1) (by omega) (Nat.le_refl _)
      rw [show k - (p - Nat.gcd p n) - 1 + (p - Nat.gcd p n) + 1 = k by omega] at this
      exact this
  · refine ⟨0, 0, chk per x y z rate, 10, fun k hk => ⟨?_, ?_⟩⟩
    · simp only [F24]
      rw [show k = k - 6 + 6 by omega, e28]
      simp [hc]
    · simp only [F25]
      rw [show k = k - 5 + 5 by omega, e29]
      simp [hc]
/-- What both tell of so many steps. -/
theorem sent2_ok {steps : Int} : ∃ n e : Int, ∃ K, ∀ k, K ≤ k → F26 k ((per, [x, y, z], ()), rate, steps, ()) () = some ((n, e, ()), ()) ∧ F27 k ((per, [x, y, z], ()), rate, steps, ()) () = some ((n, e, ()), ()) := by
  have e28 := fun k => chk28 (per := per) (rate := rate) hx hy hz k
  have e29 := fun k => chk29 (per := per) (rate := rate) hx hy hz k
  by_cases hc : chk per x y z rate = 0
  · obtain ⟨hp, hr⟩ := chk_pat hx hy hz hc
    obtain ⟨r, rfl, hr0, hr3⟩ := rate_cases hr
    by_cases hs : steps < 0 ∨ 1055 < steps
    · refine ⟨0, 1, 10, fun k hk => ⟨?_, ?_⟩⟩
      · simp only [F26]
        rw [show k = k - 6 + 6 by omega, e28, hc]
        rcases hs with hs | hs
        · simp [hs]
        · simp [hs]
      · simp only [F27]
        rw [show k = k - 5 + 5 by omega, e29, hc]
        rcases hs with hs | hs
        · simp [hs]
        · simp [hs]
    · obtain ⟨s, rfl⟩ := Int.eq_ofNat_of_zero_le (show 0 ≤ steps by omega)
      obtain ⟨K1, h1⟩ := count_ok hp hr3 (S := s) (by omega)
      obtain ⟨K2, h2⟩ := sent_ok hp hr3 (S := s) (by omega)
      have q1 : ¬ ((s : Int) < 0) := by omega
      have q2 : ¬ (1055 < (s : Int)) := by omega
      refine ⟨tot per [x, y, z] r s, 0, K1 + K2 + 10, fun k hk => ⟨?_, ?_⟩⟩
      · simp only [F26]
        rw [show k = k - 6 + 6 by omega, e28, hc, ← show k = k - 6 + 6 by omega, h1 k (by omega)]
        simp [q1, q2]
      · simp only [F27]
        rw [show k = k - 5 + 5 by omega, e29, hc, ← show k = k - 5 + 5 by omega, h2 k (by omega)]
        simp [q1, q2]
  · refine ⟨0, chk per x y z rate, 10, fun k hk => ⟨?_, ?_⟩⟩
    · simp only [F26]
      rw [show k = k - 6 + 6 by omega, e28]
      simp [hc]
    · simp only [F27]
      rw [show k = k - 5 + 5 by omega, e29]
      simp [hc]
end
theorem named_ok (s : List Int) (k : Nat) : F22 (k + 6) (s, ()) () = F23 (s, ()) () := by
  by_cases h1 : s = [114, 50, 51]
  · subst h1; rfl
  by_cases h2 : s = [114, 51, 52]
  · subst h2; rfl
  by_cases h3 : s = [114, 53, 54]
  · subst h3; rfl
  by_cases h4 : s = [114, 55, 56]
  · subst h4; rfl
  have e : ∀ t : List Int, ¬ s = t → ¬ t = s := fun t h h' => h h'.symm
  simp [F22, F23, F47, L22_2, v1, v2, v3, v4, h1, h2, h3, h4, e _ h1, e _ h2, e _ h3, e _ h4]
theorem named_some (s : List Int) : ∃ a b c, F23 (s, ()) () = some (((a, b, ()), c, ()), ()) := by
  simp only [F23]
  repeat' split
  all_goals exact ⟨_, _, _, rfl⟩
theorem live_ok (k : Nat) : F19 (k + 30) () () = some (true, ()) := by rfl
theorem tells {per x y z rate steps : Int} {name : List Int} (hx : 0 ≤ x ∧ x < 18446744073709551616) (hy : 0 ≤ y ∧ y < 18446744073709551616) (hz : 0 ≤ z ∧ z < 18446744073709551616) :
    ∃ k, F6 k ((per, [x, y, z], ()), rate, steps, name, ()) () = some (true, ()) := by
  obtain ⟨a, b, c, K1, h1⟩ := rate_ok (per := per) (rate := rate) hx hy hz
  obtain ⟨n, e, K2, h2⟩ := sent2_ok (per := per) (rate := rate) (steps := steps) hx hy hz
  obtain ⟨q, w, u, hn⟩ := named_some name
  refine ⟨K1 + K2 + 40, ?_⟩
  have e28 := chk28 (per := per) (rate := rate) hx hy hz (K1 + K2 + 34)
  have e29 := chk29 (per := per) (rate := rate) hx hy hz (K1 + K2 + 35)
  have e22 := named_ok name (K1 + K2 + 34)
  have el := live_ok (K1 + K2 + 10)
  simp only [show K1 + K2 + 34 + 6 = K1 + K2 + 40 by omega, show K1 + K2 + 35 + 5 = K1 + K2 + 40 by omega, show K1 + K2 + 10 + 30 = K1 + K2 + 40 by omega] at e28 e29 e22 el
  simp only [F6]
  rw [e22, hn, (h1 _ (show K1 ≤ K1 + K2 + 40 by omega)).1, (h1 _ (show K1 ≤ K1 + K2 + 40 by omega)).2, (h2 _ (show K2 ≤ K1 + K2 + 40 by omega)).1, (h2 _ (show K2 ≤ K1 + K2 + 40 by omega)).2, e28, e29, el]
  simp [F15]
end Go.Eng.Pu

/- What the plain functions of puncture come to: cuts; counts. No condition. -/
namespace Go.Eng.Pu
open Go Go.Eng Go.Proofs
/-- Is the k-th symbol of a row kept? -/
def kat (per : Int) (keep : List Int) (r k : Nat) : Bool := kb per keep ((k % r : Nat) : Int) ((k / r : Nat) : Int)
def picks (per : Int) (keep : List Int) (r : Nat) : List Int → Nat → List Int
  | [], _ => []
  | x :: l, k => (if kat per keep r k then [x] else []) ++ picks per keep r l (k + 1)
/-- How many of the first k symbols are kept. -/
def cntF (per : Int) (keep : List Int) (r : Nat) : Nat → Nat
  | 0 => 0
  | k + 1 => cntF per keep r k + if kat per keep r k then 1 else 0
theorem picks_len (per : Int) (keep : List Int) (r : Nat) : ∀ (l : List Int) (k : Nat), (picks per keep r l k).length + cntF per keep r k = cntF per keep r (k + l.length)
  | [], k => by simp [picks]
  | x :: l, k => by
    have := picks_len per keep r l (k + 1)
    simp only [picks, List.length_append, List.length_cons]
    rw [show k + (l.length + 1) = k + 1 + l.length by omega, ← this]
    simp only [cntF]
    split <;> simp <;> omega
theorem cntF_row (per : Int) (keep : List Int) {r s : Nat} (hr : 0 < r) : ∀ j, j ≤ r → (cntF per keep r (r * s + j) : Int) = cntF per keep r (r * s) + row1 per keep s j
  | 0, _ => by simp [row1]
  | j + 1, hj => by
    rw [← Nat.add_assoc]
    simp only [cntF, row1]
    have e : kat per keep r (r * s + j) = kb per keep j s := by
      unfold kat
      rw [Nat.mul_add_mod, Nat.mod_eq_of_lt (by omega), Nat.mul_add_div hr, Nat.div_eq_of_lt (by omega), Nat.add_zero]
    rw [e, Int.natCast_add, cntF_row per keep hr j (by omega)]
    split <;> simp <;> omega
theorem cntF_tot (per : Int) (keep : List Int) {r : Nat} (hr : 0 < r) : ∀ s, (cntF per keep r (r * s) : Int) = tot per keep r s
  | 0 => rfl
  | s + 1 => by rw [Nat.mul_succ, cntF_row per keep hr r (Nat.le_refl _), cntF_tot per keep hr s]; rfl
theorem tdiv_nat (a b : Nat) : (a : Int).tdiv b = ((a / b : Nat) : Int) := by
  rw [Int.tdiv_eq_ediv_of_nonneg (by omega)]; exact (Int.natCast_ediv a b).symm
section
variable {per : Int} {keep : List Int} (h : Pat per keep)
include h
theorem keep63' {r k : Nat} (hr0 : 0 < r) (hr : r ≤ 3) (hk : k ≤ 9223372036854775807) : F63 (IntKind.wrap IntKind.i64 (Int.tdiv (k : Int) (r : Int)), Int.tmod (k : Int) (r : Int), (), ()) ((per, keep, ()), ()) = some (kat per keep r k, (per, keep, ()), ()) := by
  have h1 := Nat.mod_lt k hr0
  have h2 := Nat.div_le_self k r
  rw [tdiv_nat, tmod_nat]
  unfold kat
  generalize k / r = q at *
  generalize k % r = m at *
  rw [wi (by omega) (by omega)]
  exact keep63 h (by omega) (by omega) (by omega)
theorem loop13 {r : Nat} (hr0 : 0 < r) (hr : r ≤ 3) {K : Nat} : ∀ (l2 l1 acc : List Int) (k : Nat) (_ : acc.length ≤ l1.length) (_ : l1.length + l2.length ≤ 140737488355328),
    L13_9 K (k + l2.length + 1) ((r : Int), ((), ()), (), l1 ++ l2, ((l1 ++ l2).length : Int), (l1.length : Int), ()) ((per, keep, ()), acc, ()) = some (((), 0, ()), acc ++ picks per keep r l2 l1.length, ()) := by
  intro l2
  induction l2 with
  | nil =>
    intro l1 acc k ha hl
    rw [L13_9, if_neg (by simp)]; simp [picks]
  | cons x l2 ih =>
    intro l1 acc k ha hl
    simp only [List.length_cons] at hl
    have ih' := ih (l1 ++ [x])
    rw [show (l1 ++ [x]) ++ l2 = l1 ++ x :: l2 by simp, show ((l1 ++ [x]).length : Int) = (l1.length : Int) + 1 by simp, show (l1 ++ [x]).length = l1.length + 1 by simp] at ih'
    rw [show k + (x :: l2).length + 1 = (k + l2.length + 1) + 1 by simp; omega, L13_9]
    have e1 : IntKind.wrap IntKind.i64 ((l1.length : Int) + 1) = (l1.length : Int) + 1 := wi (by omega) (by omega)
    have hr' : ¬ (r : Int) = 0 := by omega
    rw [if_pos (show decide ((l1.length : Int) < ((l1 ++ x :: l2).length : Int)) = true by simp; omega), if_pos (show (0 : Int) ≤ (l1.length : Int) ∧ (l1.length : Int) < ((l1 ++ x :: l2).length : Int) by simp; omega), if_neg hr', if_neg hr', keep63' h hr0 hr (by omega), e1]
    simp only [Option.bind_some]
    split
    · rename_i hk
      rw [if_pos (show (acc.length + 1) * 1 ≤ 140737488355328 by omega), ih' _ _ (by simp; omega) (by omega)]
      simp [picks, hk]
    · rename_i hk
      rw [ih' _ _ (by omega) (by omega)]
      simp [picks, hk]
end
/-- What Cut comes to. -/
theorem cut_ok {per x y z : Int} (hx : 0 ≤ x ∧ x < 18446744073709551616) (hy : 0 ≤ y ∧ y < 18446744073709551616) (hz : 0 ≤ z ∧ z < 18446744073709551616) {r : Nat} (hr0 : 0 < r) (hr : r ≤ 3) (hc : chk per x y z r = 0) {l : List Int} (hl : l.length ≤ 140737488355328) (hd : l.length % r = 0) :
    ∃ K, ∀ k, K ≤ k → F13 k ((per, [x, y, z], ()), (r : Int), l, ()) () = some (((), 0, ()), picks per [x, y, z] r l 0, ()) := by
  obtain ⟨hp, _⟩ := chk_pat hx hy hz hc
  refine ⟨l.length + 10, fun k hk => ?_⟩
  have e28 := chk28 (per := per) (rate := r) hx hy hz (k - 6)
  rw [show k - 6 + 6 = k by omega, hc] at e28
  have hr' : ¬ (r : Int) = 0 := by omega
  simp only [F13]
  rw [e28]
  simp only [Option.bind_some, decide_true, Bool.not_true, Bool.false_eq_true, if_false]
  rw [if_neg hr', tmod_nat, hd]
  simp only [F43, Option.bind_some]
  have := loop13 hp hr0 hr (K := k) l [] [] (k - l.length - 1) (Nat.le_refl _) (by simpa using hl)
  rw [show k - l.length - 1 + l.length + 1 = k by omega] at this
  simpa using this
theorem rate_val {per x y z : Int} (hx : 0 ≤ x ∧ x < 18446744073709551616) (hy : 0 ≤ y ∧ y < 18446744073709551616) (hz : 0 ≤ z ∧ z < 18446744073709551616) {r p n : Nat} (hper : per = p) (hr : r ≤ 3) (hc : chk per x y z r = 0) (hn : tot per [x, y, z] r p = n) :
    ∃ K, ∀ k, K ≤ k → F24 k ((per, [x, y, z], ()), (r : Int), ()) () = some ((((p / Nat.gcd p n : Nat) : Int), ((n / Nat.gcd p n : Nat) : Int), 0, ()), ()) := by
  obtain ⟨hp, _⟩ := chk_pat hx hy hz hc
  subst hper
  have hlo := hp.lo
  have hhi := hp.hi
  obtain ⟨K1, h1⟩ := count_ok hp hr (S := p) (by omega)
  have hb := tot3 (per := (p : Int)) (keep := [x, y, z]) hr (s := p) (by omega)
  refine ⟨K1 + p + n + 10, fun k hk => ?_⟩
  have e28 := chk28 (per := (p : Int)) (rate := r) hx hy hz (k - 6)
  rw [show k - 6 + 6 = k by omega, hc] at e28
  simp only [F24]
  rw [e28]
  simp only [Option.bind_some, decide_true, Bool.not_true, Bool.false_eq_true, if_false]
  rw [h1 k (by omega)]
  simp only [Option.bind_some]
  rw [hn]
  have := gcd24 (n := (n : Int)) (per := (p : Int)) (keep := [x, y, z]) (K := k) n p (k - n - 1) (by omega)
  rw [show k - n - 1 + n + 1 = k by omega, tdiv_nat, tdiv_nat] at this
  have q1 := Nat.div_le_self p (Nat.gcd p n)
  have q2 := Nat.div_le_self n (Nat.gcd p n)
  generalize p / Nat.gcd p n = a1 at *
  generalize n / Nat.gcd p n = a2 at *
  rw [wi (by omega) (by omega), wi (by omega) (by omega)] at this
  exact this
theorem sent_val {per x y z : Int} (hx : 0 ≤ x ∧ x < 18446744073709551616) (hy : 0 ≤ y ∧ y < 18446744073709551616) (hz : 0 ≤ z ∧ z < 18446744073709551616) {r s : Nat} (hr : r ≤ 3) (hc : chk per x y z r = 0) (hs : s ≤ 1055) :
    ∃ K, ∀ k, K ≤ k → F26 k ((per, [x, y, z], ()), (r : Int), (s : Int), ()) () = some ((tot per [x, y, z] r s, 0, ()), ()) := by
  obtain ⟨hp, _⟩ := chk_pat hx hy hz hc
  obtain ⟨K1, h1⟩ := count_ok hp hr (S := s) (by omega)
  have q1 : ¬ ((s : Int) < 0) := by omega
  have q2 : ¬ (1055 < (s : Int)) := by omega
  refine ⟨K1 + 10, fun k hk => ?_⟩
  have e28 := chk28 (per := per) (rate := r) hx hy hz (k - 6)
  rw [show k - 6 + 6 = k by omega, hc] at e28
  simp only [F26]
  rw [e28, h1 k (by omega)]
  simp [q1, q2]
/-- Whole periods are alike. -/
theorem row1_per {p : Nat} {keep : List Int} (t : Nat) : ∀ r, row1 (p : Int) keep ((t + p : Nat) : Int) r = row1 (p : Int) keep (t : Int) r
  | 0 => rfl
  | r + 1 => by
    have e : kb (p : Int) keep r ((t + p : Nat) : Int) = kb (p : Int) keep r (t : Int) := by
      unfold kb
      rw [show ((t + p : Nat) : Int) = (t : Int) + p by omega, Int.add_emod_right]
    simp only [row1]; rw [row1_per t r, e]
theorem tot_add {p : Nat} {keep : List Int} {r : Nat} : ∀ s, tot (p : Int) keep r (s + p) = tot (p : Int) keep r s + tot (p : Int) keep r p
  | 0 => by simp [tot]
  | s + 1 => by
    rw [show s + 1 + p = (s + p) + 1 by omega]
    simp only [tot]
    rw [tot_add s, row1_per]; omega
theorem tot_mul {p : Nat} {keep : List Int} {r : Nat} : ∀ q : Nat, tot (p : Int) keep r (q * p) = q * tot (p : Int) keep r p
  | 0 => by simp [tot]
  | q + 1 => by rw [Nat.succ_mul, tot_add, tot_mul q]; rw [show ((q + 1 : Nat) : Int) = (q : Int) + 1 by omega, Int.add_mul, Int.one_mul]
/-- A number that isn't 0 has a bit. -/
theorem has_bit : ∀ (p : Nat) (v : Nat), v ≠ 0 → v < 2 ^ p → ∃ t, t < p ∧ v / 2 ^ t % 2 = 1
  | 0, v, h0, h1 => by omega
  | p + 1, v, h0, h1 => by
    by_cases ho : v % 2 = 1
    · exact ⟨0, by omega, by simpa using ho⟩
    · obtain ⟨t, ht, hv⟩ := has_bit p (v / 2) (by omega) (by rw [Nat.pow_succ] at h1; omega)
      refine ⟨t + 1, by omega, ?_⟩
      rw [Nat.pow_succ, Nat.mul_comm, ← Nat.div_div_eq_div_mul]; exact hv
theorem row1_pos {per : Int} {keep : List Int} {t : Int} {i : Nat} (hb : kb per keep i t = true) : ∀ r, i < r → 1 ≤ row1 per keep t r
  | 0, h => by omega
  | r + 1, h => by
    have := (row1_le per keep t r).1
    simp only [row1]
    by_cases hi : i = r
    · subst hi; rw [if_pos hb]; omega
    · have := row1_pos hb r (by omega); split <;> omega
theorem tot_pos {per : Int} {keep : List Int} {r : Nat} {t : Nat} (h : 1 ≤ row1 per keep t r) : ∀ s, t < s → 1 ≤ tot per keep r s
  | 0, h => by omega
  | s + 1, hs => by
    have h1 := (tot_le per keep r s).1
    have h2 := (row1_le per keep s r).1
    simp only [tot]
    by_cases hi : t = s
    · subst hi; omega
    · have := tot_pos h s (by omega); omega
theorem chk_pos {x y z : Int} {p r : Nat} (hx : 0 ≤ x ∧ x < 18446744073709551616) (hy : 0 ≤ y ∧ y < 18446744073709551616) (hz : 0 ≤ z ∧ z < 18446744073709551616) (hc : chk (p : Int) x y z r = 0) : 1 ≤ tot (p : Int) [x, y, z] r p := by
  obtain ⟨hp, hr⟩ := chk_pat hx hy hz hc
  have hlo := hp.lo
  have hhi := hp.hi
  unfold chk at hc
  rw [if_neg (by omega), if_neg (by omega)] at hc
  have key : ∀ (i : Nat) (v : Int), i < 3 → [x, y, z].getD i 0 = v → 0 ≤ v → v < 18446744073709551616 → v ≠ 0 → bad (p : Int) (r : Int) i v = false → 1 ≤ tot (p : Int) [x, y, z] r p := by
    intro i v hi hv v0 v1 vn hb
    simp only [bad, Bool.or_eq_false_iff, Bool.and_eq_false_iff, decide_eq_false_iff_not, Bool.not_eq_false', decide_eq_true_eq] at hb
    obtain ⟨n, rfl⟩ := Int.eq_ofNat_of_zero_le v0
    have hir : i < r := by
      rcases hb.1 with h | h
      · omega
      · exact (vn h).elim
    have hlt : n < 2 ^ p := by
      rcases hb.2 with h | h
      · have : p = 64 := by omega
        subst this; omega
      · rw [Int.toNat_natCast] at h
        have h : ((n / 2 ^ p : Nat) : Int) = 0 := by rw [Int.natCast_ediv]; simpa using h
        have h : n / 2 ^ p = 0 := by omega
        rcases (Nat.div_eq_zero_iff).1 h with h | h
        · have := Nat.pow_pos (n := p) (show 0 < 2 by omega); omega
        · exact h
    obtain ⟨t, ht, hbt⟩ := has_bit p n (by omega) hlt
    refine tot_pos (t := t) (row1_pos (i := i) ?_ r hir) p ht
    unfold kb
    rw [Int.toNat_natCast, hv, show (t : Int) % (p : Int) = t from Int.emod_eq_of_lt (by omega) (by omega), Int.toNat_natCast]
    have : (((n / 2 ^ t % 2 : Nat)) : Int) = (n : Int) / 2 ^ t % 2 := by rw [Int.natCast_emod, Int.natCast_ediv]; simp
    rw [← this, hbt]; rfl
  cases b0 : bad (p : Int) r 0 x with
  | true => rw [b0] at hc; simp at hc
  | false =>
    cases b1 : bad (p : Int) r 1 y with
    | true => rw [b0, b1] at hc; simp at hc
    | false =>
      cases b2 : bad (p : Int) r 2 z with
      | true => rw [b0, b1, b2] at hc; simp at hc
      | false =>
        rw [b0, b1, b2] at hc
        simp only [Bool.or_self, Bool.false_eq_true, if_false] at hc
        by_cases x0 : x = 0
        · by_cases y0 : y = 0
          · by_cases z0 : z = 0
            · rw [if_pos ⟨x0, y0, z0⟩] at hc; cases hc
            · exact key 2 z (by omega) rfl hz.1 hz.2 z0 b2
          · exact key 1 y (by omega) rfl hy.1 hy.2 y0 b1
        · exact key 0 x (by omega) rfl hx.1 hx.2 x0 b0
theorem counts {per x y z rate periods : Int} (hx : 0 ≤ x ∧ x < 18446744073709551616) (hy : 0 ≤ y ∧ y < 18446744073709551616) (hz : 0 ≤ z ∧ z < 18446744073709551616) :
    ∃ k, F7 k ((per, [x, y, z], ()), rate, periods, ()) () = some (true, ()) := by
  have el := fun k => live_ok k
  have e29 := fun k => chk29 (per := per) (rate := rate) hx hy hz k
  have none_ok : ∀ k, 30 ≤ k → (Option.bind (F19 k () ()) fun val => some (val.1, ())) = (some (true, ()) : Option (Bool × Unit)) := fun k hk => by
    have := el (k - 30); rw [show k - 30 + 30 = k by omega] at this; rw [this]; rfl
  by_cases hc : chk per x y z rate = 0
  · by_cases hneg : periods < 0
    · refine ⟨40, ?_⟩
      simp only [F7]
      rw [show (40 : Nat) = 35 + 5 by omega, e29, hc]
      simp only [Option.bind_some, decide_true, Bool.not_true, Bool.false_eq_true, if_false]
      rw [if_pos (by simpa using hneg)]
      exact none_ok _ (by omega)
    obtain ⟨hp, hr⟩ := chk_pat hx hy hz hc
    obtain ⟨r, rfl, hr0, hr3⟩ := rate_cases hr
    have hlo := hp.lo
    have hhi := hp.hi
    obtain ⟨p, rfl⟩ := Int.eq_ofNat_of_zero_le (show 0 ≤ per by omega)
    obtain ⟨q, rfl⟩ := Int.eq_ofNat_of_zero_le (show 0 ≤ periods by omega)
    have hp0 : ¬ (p : Int) = 0 := by omega
    have hw1 : IntKind.wrap IntKind.i64 (Int.tdiv 1055 (p : Int)) = ((1055 / p : Nat) : Int) := by
      have := tdiv_nat 1055 p
      have e : ((1055 : Nat) : Int) = 1055 := rfl
      rw [e] at this
      have := Nat.div_le_self 1055 p
      rw [‹Int.tdiv 1055 (p : Int) = _›]
      generalize 1055 / p = a at *
      exact wi (by omega) (by omega)
    by_cases hbig : (1055 / p : Nat) < q
    · refine ⟨40, ?_⟩
      simp only [F7]
      rw [show (40 : Nat) = 35 + 5 by omega, e29, hc]
      simp only [Option.bind_some, decide_true, Bool.not_true, Bool.false_eq_true, if_false]
      rw [if_neg (by simp), if_neg hp0, hw1, if_pos (by simp only [decide_eq_true_eq]; omega)]
      exact none_ok _ (by omega)
    · have hqp : q * p ≤ 1055 := by
        have h1 : q ≤ 1055 / p := by omega
        have := Nat.mul_le_mul_right p h1
        have := Nat.div_mul_le_self 1055 p
        omega
      have hrqp : r * q * p ≤ 3165 := by
        rw [Nat.mul_assoc]
        have := Nat.mul_le_mul hr3 hqp
        omega
      have hq1 : q ≤ 1055 := by
        have : q * 1 ≤ q * p := Nat.mul_le_mul_left _ (by omega)
        omega
      have hrq : r * q ≤ 3165 := by
        have := Nat.mul_le_mul hr3 hq1; omega
      obtain ⟨n1, hn1⟩ := Int.eq_ofNat_of_zero_le (tot_le (p : Int) [x, y, z] r p).1
      have hb1 := tot3 (per := (p : Int)) (keep := [x, y, z]) hr3 (s := p) (by omega)
      obtain ⟨K1, h1⟩ := sent_val hx hy hz hr3 hc hqp
      obtain ⟨K2, h2⟩ := sent_val hx hy hz hr3 hc (s := p) (by omega)
      obtain ⟨K3, h3⟩ := cut_ok hx hy hz hr0 hr3 hc (l := List.replicate (r * q * p) 0) (by simp; omega) (by rw [List.length_replicate, Nat.mul_assoc]; exact Nat.mul_mod_right r (q * p))
      obtain ⟨K4, h4⟩ := rate_val hx hy hz (p := p) rfl hr3 hc hn1
      have hpos := chk_pos hx hy hz hc
      refine ⟨K1 + K2 + K3 + K4 + 40, ?_⟩
      have e29' := e29 (K1 + K2 + K3 + K4 + 35)
      rw [show K1 + K2 + K3 + K4 + 35 + 5 = K1 + K2 + K3 + K4 + 40 by omega, hc] at e29'
      generalize hk : K1 + K2 + K3 + K4 + 40 = k at *
      have w1 : IntKind.wrap IntKind.i64 ((q : Int) * (p : Int)) = ((q * p : Nat) : Int) := by rw [Int.natCast_mul]; exact wi (by omega) (by rw [← Int.natCast_mul]; omega)
      have w2 : IntKind.wrap IntKind.i64 ((r : Int) * (q : Int)) = ((r * q : Nat) : Int) := by rw [Int.natCast_mul]; exact wi (by rw [← Int.natCast_mul]; omega) (by rw [← Int.natCast_mul]; omega)
      have w3 : IntKind.wrap IntKind.i64 (((r * q : Nat) : Int) * (p : Int)) = ((r * q * p : Nat) : Int) := by rw [← Int.natCast_mul]; exact wi (by omega) (by omega)
      simp only [F7]
      rw [e29']
      simp only [Option.bind_some, decide_true, Bool.not_true, Bool.false_eq_true, if_false]
      rw [if_neg (by simp), if_neg hp0, hw1, if_neg (by simp only [decide_eq_true_eq]; omega), w1, w2, w3, h1 k (by omega), h2 k (by omega)]
      simp only [Option.bind_some]
      rw [if_pos (show (0 : Int) ≤ ((r * q * p : Nat) : Int) ∧ ((r * q * p : Nat) : Int) ≤ ((r * q * p : Nat) : Int) ∧ ((r * q * p : Nat) : Int) * 1 ≤ 140737488355328 by omega), Int.toNat_natCast, h3 k (by omega), h4 k (by omega)]
      have hlive := el (k - 30)
      rw [show k - 30 + 30 = k by omega] at hlive
      have hlen : ((picks (p : Int) [x, y, z] r (List.replicate (r * q * p) 0) 0).length : Int) = tot (p : Int) [x, y, z] r (q * p) := by
        have := picks_len (p : Int) [x, y, z] r (List.replicate (r * q * p) 0) 0
        rw [List.length_replicate, Nat.zero_add, Nat.mul_assoc] at this
        rw [← cntF_tot (p : Int) [x, y, z] hr0, ← this]
        simp [cntF, Nat.mul_assoc]
      have hb2 := tot3 (per := (p : Int)) (keep := [x, y, z]) hr3 (s := q * p) (by omega)
      have hmul := tot_mul (p := p) (keep := [x, y, z]) (r := r) q
      have hw4 : IntKind.wrap IntKind.i64 ((q : Int) * tot (p : Int) [x, y, z] r p) = tot (p : Int) [x, y, z] r (q * p) := by rw [← hmul]; exact wi (by omega) (by omega)
      have hn0 : 0 < n1 := by omega
      have hp1 : 0 < p := by omega
      have g0 : 0 < Nat.gcd p n1 := Nat.gcd_pos_of_pos_left _ hp1
      have d1 : 1 ≤ p / Nat.gcd p n1 := Nat.div_pos (Nat.gcd_le_left _ hp1) g0
      have d2 : 1 ≤ n1 / Nat.gcd p n1 := Nat.div_pos (Nat.gcd_le_right _ hn0) g0
      have hcross : p / Nat.gcd p n1 * n1 = n1 / Nat.gcd p n1 * p := by
        have a1 := Nat.div_mul_cancel (Nat.gcd_dvd_left p n1)
        have a2 := Nat.div_mul_cancel (Nat.gcd_dvd_right p n1)
        generalize p / Nat.gcd p n1 = u at *
        generalize n1 / Nat.gcd p n1 = v at *
        generalize Nat.gcd p n1 = g at *
        calc u * n1 = u * (v * g) := by rw [a2]
          _ = v * (u * g) := Nat.mul_left_comm u v g
          _ = v * p := by rw [a1]
      have hcross' : ((p / Nat.gcd p n1 : Nat) : Int) * (n1 : Int) = ((n1 / Nat.gcd p n1 : Nat) : Int) * (p : Int) := by rw [← Int.natCast_mul, ← Int.natCast_mul, hcross]
      have d1' : (1 : Int) ≤ ((p / Nat.gcd p n1 : Nat) : Int) := by omega
      have d2' : (1 : Int) ≤ ((n1 / Nat.gcd p n1 : Nat) : Int) := by omega
      generalize ((p / Nat.gcd p n1 : Nat) : Int) = u at *
      generalize ((n1 / Nat.gcd p n1 : Nat) : Int) = v at *
      simp only [Option.bind_some, F15, decide_true, if_true, hw4, hlen]
      rw [hn1, hcross', if_pos (by simp only [decide_eq_true_eq]; omega), if_pos (by simp only [decide_eq_true_eq]; omega), if_pos (by simp), hlive]
      rfl
  · refine ⟨40, ?_⟩
    simp only [F7]
    rw [show (40 : Nat) = 35 + 5 by omega, e29]
    simp only [Option.bind_some]
    rw [if_pos (by simp [hc])]
    exact none_ok _ (by omega)
end Go.Eng.Pu

/- PunctureWidens in plain Lean. No condition. -/
namespace Go.Eng.Pu
open Go Go.Eng Go.Proofs
/-- An entry that is well. -/
def wellT (n : Int) (m : List Int) (b r : Nat) : Prop := -4096 ≤ m.getD (b * 16 + r) 0 ∧ m.getD (b * 16 + r) 0 ≤ 4096 ∧ (n ≤ (r : Int) → m.getD (b * 16 + r) 0 = 0)
section
variable {n : Int} {m : List Int}
theorem row32 {b : Nat} (hb : b < 2) {d : Nat} : ∀ (r : Nat), r + d = 16 → ∀ {c0 : Int} {K0 : Nat} {G : Prop}, (∀ k, K0 ≤ k → L32_4 k ((), ((b + 1 : Nat) : Int), ()) ((n, m, ()), ()) = some (c0, ())) → (c0 = 0 ↔ G) → c0 = 0 ∨ c0 = 100 →
    ∃ c, (∀ k, K0 + d + 1 ≤ k → L32_7 k ((), (b : Int), (r : Int), ()) ((n, m, ()), ()) = some (c, ())) ∧ (c = 0 ↔ (∀ r', r ≤ r' → r' < 16 → wellT n m b r') ∧ G) ∧ (c = 0 ∨ c = 100) := by
  induction d with
  | zero =>
    intro r hr c0 K0 G h0 hG hc
    refine ⟨c0, fun k hk => ?_, ?_, hc⟩
    · obtain ⟨j, rfl⟩ : ∃ j, k = j + 1 := ⟨k - 1, by omega⟩
      rw [L32_7, if_neg (show ¬ decide ((r : Int) < 16) = true by simp; omega), wi (n := (b : Int) + 1) (by omega) (by omega), show (b : Int) + 1 = ((b + 1 : Nat) : Int) by omega]
      exact h0 j (by omega)
    · rw [hG]; constructor
      · exact fun g => ⟨fun r' h1 h2 => by omega, g⟩
      · exact fun g => g.2
  | succ d ih =>
    intro r hr c0 K0 G h0 hG hc
    obtain ⟨c1, h1, h2, h3⟩ := ih (r + 1) (by omega) h0 hG hc
    have idx : (Int.toNat (b : Int)) * 16 + (Int.toNat (r : Int)) * 1 = b * 16 + r := by simp
    have step : ∀ j, L32_7 (j + 1) ((), (b : Int), (r : Int), ()) ((n, m, ()), ()) = if m.getD (b * 16 + r) 0 < -4096 then some (100, ()) else if 4096 < m.getD (b * 16 + r) 0 then some (100, ()) else if n ≤ (r : Int) then (if ¬ m.getD (b * 16 + r) 0 = 0 then some (100, ()) else L32_7 j ((), (b : Int), ((r + 1 : Nat) : Int), ()) ((n, m, ()), ())) else L32_7 j ((), (b : Int), ((r + 1 : Nat) : Int), ()) ((n, m, ()), ()) := fun j => by
      rw [L32_7, if_pos (show decide ((r : Int) < 16) = true by simp; omega), if_pos (show (0 : Int) ≤ (b : Int) ∧ (b : Int) < 2 by omega), if_pos (show (0 : Int) ≤ (r : Int) ∧ (r : Int) < 16 by omega), idx, if_pos (show b * 16 + r < 32 by omega), wi (n := (r : Int) + 1) (by omega) (by omega), show (r : Int) + 1 = ((r + 1 : Nat) : Int) by omega]
      simp only [decide_eq_true_eq, Bool.not_eq_true', decide_eq_false_iff_not]
    have split' : (∀ r', r ≤ r' → r' < 16 → wellT n m b r') ↔ wellT n m b r ∧ ∀ r', r + 1 ≤ r' → r' < 16 → wellT n m b r' := by
      constructor
      · exact fun h => ⟨h r (Nat.le_refl _) (by omega), fun r' a b => h r' (by omega) b⟩
      · rintro ⟨a, b⟩ r' c d
        rcases Nat.eq_or_lt_of_le c with rfl | c
        · exact a
        · exact b r' c d
    by_cases hw : wellT n m b r
    · refine ⟨c1, fun k hk => ?_, ?_, h3⟩
      · obtain ⟨j, rfl⟩ : ∃ j, k = j + 1 := ⟨k - 1, by omega⟩
        rw [step, if_neg (by have := hw.1; omega), if_neg (by have := hw.2.1; omega)]
        by_cases hn : n ≤ (r : Int)
        · rw [if_pos hn, if_neg (fun h => h (hw.2.2 hn))]; exact h1 j (by omega)
        · rw [if_neg hn]; exact h1 j (by omega)
      · rw [h2, split']; simp [hw]
    · refine ⟨100, fun k hk => ?_, ?_, .inr rfl⟩
      · obtain ⟨j, rfl⟩ : ∃ j, k = j + 1 := ⟨k - 1, by omega⟩
        rw [step]
        by_cases a : m.getD (b * 16 + r) 0 < -4096
        · rw [if_pos a]
        · rw [if_neg a]
          by_cases a2 : 4096 < m.getD (b * 16 + r) 0
          · rw [if_pos a2]
          · rw [if_neg a2]
            by_cases hn : n ≤ (r : Int)
            · rw [if_pos hn]
              by_cases a3 : m.getD (b * 16 + r) 0 = 0
              · exact (hw ⟨by omega, by omega, fun _ => a3⟩).elim
              · rw [if_pos a3]
            · exact (hw ⟨by omega, by omega, fun h => (hn h).elim⟩).elim
      · constructor
        · intro h; cases h
        · rw [split']; exact fun h => (hw h.1.1).elim
theorem all32 : ∃ c K, (∀ k, K ≤ k → L32_4 k ((), 0, ()) ((n, m, ()), ()) = some (c, ())) ∧ (c = 0 ↔ ∀ b r, b < 2 → r < 16 → wellT n m b r) ∧ (c = 0 ∨ c = 100) := by
  have h2 : ∀ k, 1 ≤ k → L32_4 k ((), ((1 + 1 : Nat) : Int), ()) ((n, m, ()), ()) = some (0, ()) := fun k hk => by
    obtain ⟨j, rfl⟩ : ∃ j, k = j + 1 := ⟨k - 1, by omega⟩
    rw [L32_4, if_neg (by decide)]
  obtain ⟨c1, a1, b1, d1⟩ := row32 (n := n) (m := m) (b := 1) (by omega) (d := 16) 0 rfl (G := True) h2 (by simp) (.inl rfl)
  have h1 : ∀ k, 19 ≤ k → L32_4 k ((), ((0 + 1 : Nat) : Int), ()) ((n, m, ()), ()) = some (c1, ()) := fun k hk => by
    obtain ⟨j, rfl⟩ : ∃ j, k = j + 1 := ⟨k - 1, by omega⟩
    rw [L32_4, if_pos (by decide)]; exact a1 j (by omega)
  obtain ⟨c0, a0, b0, d0⟩ := row32 (n := n) (m := m) (b := 0) (by omega) (d := 16) 0 rfl h1 b1 d1
  refine ⟨c0, 40, fun k hk => ?_, ?_, d0⟩
  · obtain ⟨j, rfl⟩ : ∃ j, k = j + 1 := ⟨k - 1, by omega⟩
    rw [L32_4, if_pos (by decide)]; exact a0 j (by omega)
  · rw [b0]
    constructor
    · rintro ⟨p, q, _⟩ b r hb hr
      rcases (show b = 0 ∨ b = 1 by omega) with rfl | rfl
      · exact p r (Nat.zero_le _) hr
      · exact q r (Nat.zero_le _) hr
    · exact fun h => ⟨fun r _ hr => h 0 r (by omega) hr, fun r _ hr => h 1 r (by omega) hr, trivial⟩
theorem row_get {b r : Nat} (hr : r < 16) : List.getD (List.take 16 (List.drop (b * 16) m)) r 0 = m.getD (b * 16 + r) 0 := by
  simp [List.getD_eq_getElem?_getD, List.getElem?_take, hr, List.getElem?_drop]
/-- Both checks go in step. -/
theorem both49 : ∀ k, (∀ b r : Nat, b < 2 → r ≤ 16 → L49_7 k ((), m, (b : Int), List.take 16 (List.drop (b * 16) m), (r : Int), ()) ((n, m, ()), ()) = L32_7 k ((), (b : Int), (r : Int), ()) ((n, m, ()), ())) ∧
    ∀ b : Nat, b ≤ 2 → L49_4 k ((), m, (b : Int), ()) ((n, m, ()), ()) = L32_4 k ((), (b : Int), ()) ((n, m, ()), ())
  | 0 => ⟨fun _ _ _ _ => rfl, fun _ _ => rfl⟩
  | k + 1 => by
    obtain ⟨h7, h4⟩ := both49 k
    constructor
    · intro b r hb hr
      have idx : (Int.toNat (b : Int)) * 16 + (Int.toNat (r : Int)) * 1 = b * 16 + r := by simp
      have e1 : IntKind.wrap IntKind.i64 ((b : Int) + 1) = ((b + 1 : Nat) : Int) := by rw [wi (by omega) (by omega)]; omega
      have e2 : IntKind.wrap IntKind.i64 ((r : Int) + 1) = ((r + 1 : Nat) : Int) := by rw [wi (by omega) (by omega)]; omega
      rw [L49_7, L32_7, e1, e2, h4 (b + 1) (by omega), idx]
      by_cases h16 : r < 16
      · rw [Int.toNat_natCast, row_get h16, if_pos (show decide ((r : Int) < 16) = true by simp; omega), if_pos (show decide ((r : Int) < 16) = true by simp; omega), if_pos (show (0 : Int) ≤ (r : Int) ∧ (r : Int) < 16 by omega), if_pos (show (0 : Int) ≤ (b : Int) ∧ (b : Int) < 2 by omega), if_pos (show (0 : Int) ≤ (r : Int) ∧ (r : Int) < 16 by omega), if_pos (show b * 16 + r < 32 by omega), h7 b (r + 1) hb (by omega)]
      · rw [if_neg (show ¬ decide ((r : Int) < 16) = true by simp; omega), if_neg (show ¬ decide ((r : Int) < 16) = true by simp; omega)]
    · intro b hb
      rw [L49_4, L32_4]
      by_cases h2 : b < 2
      · have := h7 b 0 h2 (by omega)
        have this : L49_7 k ((), m, (b : Int), List.take 16 (List.drop (b * 16) m), 0, ()) ((n, m, ()), ()) = L32_7 k ((), (b : Int), 0, ()) ((n, m, ()), ()) := this
        rw [if_pos (show decide ((b : Int) < 2) = true by simp; omega), if_pos (show decide ((b : Int) < 2) = true by simp; omega), if_pos (show (0 : Int) ≤ (b : Int) ∧ (b : Int) < 2 by omega), Int.toNat_natCast, this]
      · rw [if_neg (show ¬ decide ((b : Int) < 2) = true by simp; omega), if_neg (show ¬ decide ((b : Int) < 2) = true by simp; omega)]
theorem same49 (k : Nat) : F49 k ((n, m, ()), ()) () = F32 k ((n, m, ()), ()) () := by
  have h := (both49 (n := n) (m := m) k).2 0 (by omega)
  have h : L49_4 k ((), m, 0, ()) ((n, m, ()), ()) = L32_4 k ((), 0, ()) ((n, m, ()), ()) := h
  simp only [F49, F32, h]
theorem chk32 : ∃ c K, (∀ k, K ≤ k → F32 k ((n, m, ()), ()) () = some (c, ())) ∧ (c = 0 ↔ 2 ≤ n ∧ n ≤ 16 ∧ ∀ b r, b < 2 → r < 16 → wellT n m b r) := by
  obtain ⟨c, K, h1, h2, h3⟩ := all32 (n := n) (m := m)
  by_cases a : n < 2
  · refine ⟨100, 0, fun k _ => ?_, ?_⟩
    · simp only [F32]; rw [if_pos (by simpa using a)]
    · constructor
      · intro h; cases h
      · rintro ⟨h, _⟩; omega
  · by_cases b : 16 < n
    · refine ⟨100, 0, fun k _ => ?_, ?_⟩
      · simp only [F32]; rw [if_neg (by simpa using a), if_pos (by simpa using b)]
      · constructor
        · intro h; cases h
        · rintro ⟨_, h, _⟩; omega
    · refine ⟨c, K, fun k hk => ?_, ?_⟩
      · simp only [F32]; rw [if_neg (by simpa using a), if_neg (by simpa using b)]; exact h1 k hk
      · rw [h2]; constructor
        · exact fun h => ⟨by omega, by omega, h⟩
        · exact fun h => h.2.2
theorem widens : ∃ k, F8 k ((n, m, ()), ()) () = some (true, ()) := by
  obtain ⟨c, K1, h1, g1⟩ := chk32 (n := n) (m := m)
  obtain ⟨c', K2, h2, g2⟩ := chk32 (n := n + 1) (m := m)
  have hlive : ∀ k, 30 ≤ k → F19 k () () = some (true, ()) := fun k hk => by have := live_ok (k - 30); rwa [show k - 30 + 30 = k by omega] at this
  refine ⟨K1 + K2 + 30, ?_⟩
  generalize hk : K1 + K2 + 30 = k
  have e1 := h1 k (by omega)
  have e2 := h2 k (by omega)
  have e3 := hlive k (by omega)
  simp only [F8, F30, F31]
  rw [same49, e1]
  simp only [Option.bind_some]
  by_cases hc : c = 0
  · by_cases h16 : n = 16
    · simp [hc, h16, F15, e3]
    · have hn := g1.1 hc
      have hc' : c' = 0 := g2.2 ⟨by omega, by omega, fun b r hb hr => by
        obtain ⟨q1, q2, q3⟩ := hn.2.2 b r hb hr
        exact ⟨q1, q2, fun h => q3 (by omega)⟩⟩
      have ew : IntKind.wrap IntKind.i64 (n + 1) = n + 1 := wi (by omega) (by omega)
      simp [hc, h16, F15, e3, ew, e2, hc']
  · simp [hc, F15, e3]
end
end Go.Eng.Pu

/- What the plain functions of puncture come to: fills; there and back. No condition. -/
namespace Go.Eng.Pu
open Go Go.Eng Go.Proofs
def fills (per : Int) (keep : List Int) (r : Nat) (lv : Int) : Nat → Nat → List Int → List Int
  | 0, _, _ => []
  | n + 1, k, w => if kat per keep r k then w.headD 0 :: fills per keep r lv n (k + 1) w.tail else lv :: fills per keep r lv n (k + 1) w
theorem fills_len (per : Int) (keep : List Int) (r : Nat) (lv : Int) : ∀ n k w, (fills per keep r lv n k w).length = n
  | 0, k, w => rfl
  | n + 1, k, w => by simp only [fills]; split <;> simp [fills_len per keep r lv n]
theorem set_at (pre : List Int) (n : Nat) (x : Int) : List.set (pre ++ List.replicate (n + 1) 0) pre.length x = (pre ++ [x]) ++ List.replicate n 0 := by
  rw [List.set_append, if_neg (by omega), Nat.sub_self, List.replicate_succ]; simp
theorem set_last (pre : List Int) (l : List Int) (x y : Int) : List.set ((pre ++ [x]) ++ l) pre.length y = (pre ++ [y]) ++ l := by
  rw [List.append_assoc, List.set_append, if_neg (by omega), Nat.sub_self]; simp
theorem cntF_mono (per : Int) (keep : List Int) (r k : Nat) : ∀ n, cntF per keep r k ≤ cntF per keep r (k + n)
  | 0 => Nat.le_refl _
  | n + 1 => Nat.le_trans (cntF_mono per keep r k n) (by rw [← Nat.add_assoc]; simp only [cntF]; omega)
theorem wu8 {n : Int} (h0 : 0 ≤ n) (h : n ≤ 255) : IntKind.wrap IntKind.u8 n = n := IntWalk.u8_in n ⟨h0, h⟩
section
variable {per : Int} {keep : List Int} (h : Pat per keep)
include h
theorem loop18 {r : Nat} (hr0 : 0 < r) (hr : r ≤ 3) {lv : Int} (l0 : 0 ≤ lv) (l1 : lv ≤ 255) {K : Nat} : ∀ (n : Nat) (pre w1 w2 : List Int) (kk : Nat) (_ : pre.length + n ≤ 1000000) (_ : w1.length + w2.length ≤ 1000000) (_ : cntF per keep r (pre.length + n) = cntF per keep r pre.length + w2.length),
    L20_18 K (kk + n + 1) ((r : Int), lv, w1 ++ w2, ((), ()), (), (w1.length : Int), ((pre.length + n : Nat) : Int), (pre.length : Int), ()) ((per, keep, ()), pre ++ List.replicate n 0, ()) = some (((), 0, ()), pre ++ fills per keep r lv n pre.length w2, ()) := by
  intro n
  induction n with
  | zero =>
    intro pre w1 w2 kk hp hw hcn
    rw [L20_18, if_neg (by simp)]; simp [fills]
  | succ n ih =>
    intro pre w1 w2 kk hp hw hcn
    rw [show kk + (n + 1) + 1 = (kk + n + 1) + 1 by omega, L20_18]
    have hr' : ¬ (r : Int) = 0 := by omega
    have hlen : (pre ++ List.replicate (n + 1) (0 : Int)).length = pre.length + (n + 1) := by simp
    have e1 : IntKind.wrap IntKind.i64 ((pre.length : Int) + 1) = (pre.length : Int) + 1 := wi (by omega) (by omega)
    have e2 : IntKind.wrap IntKind.i64 ((w1.length : Int) + 1) = (w1.length : Int) + 1 := wi (by omega) (by omega)
    rw [if_pos (show decide ((pre.length : Int) < ((pre.length + (n + 1) : Nat) : Int)) = true by simp; omega), if_pos (show (0 : Int) ≤ (pre.length : Int) ∧ (pre.length : Int) < ((pre ++ List.replicate (n + 1) (0 : Int)).length : Int) by rw [hlen]; omega), Int.toNat_natCast,
      if_pos (show pre.length < (pre ++ List.replicate (n + 1) (0 : Int)).length by rw [hlen]; omega), if_neg hr', if_neg hr', keep63' h hr0 hr (by omega), e1, e2, wu8 l0 l1, set_at, set_last]
    simp only [Option.bind_some]
    have hlen2 : ((pre ++ [lv]) ++ List.replicate n (0 : Int)).length = pre.length + (n + 1) := by simp only [List.length_append, List.length_singleton, List.length_replicate]; omega
    rw [show pre.length + (n + 1) = (pre.length + 1) + n by omega] at hcn
    by_cases hk : kat per keep r pre.length = true
    · have hc1 : cntF per keep r (pre.length + 1) = cntF per keep r pre.length + 1 := by simp only [cntF]; rw [if_pos hk]
      have hmono := cntF_mono per keep r (pre.length + 1) n
      match w2, hcn, hw with
      | [], hcn, hw => simp at hcn; omega
      | a :: w2, hcn, hw =>
        simp only [List.length_cons] at hcn hw
        have ih' := ih (pre ++ [a]) (w1 ++ [a]) w2 kk (by simp; omega) (by simp; omega) (by simp only [List.length_append, List.length_singleton]; omega)
        simp only [List.length_append, List.length_singleton, Int.natCast_add, Int.natCast_one] at ih'
        rw [if_pos hk, if_pos (show (0 : Int) ≤ (w1.length : Int) ∧ (w1.length : Int) < ((w1 ++ a :: w2).length : Int) by simp; omega), if_pos (show (0 : Int) ≤ (pre.length : Int) ∧ (pre.length : Int) < (((pre ++ [lv]) ++ List.replicate n (0 : Int)).length : Int) by rw [hlen2]; omega), if_pos (by rw [hlen2]; omega)]
        rw [Int.toNat_natCast, show List.getD (w1 ++ a :: w2) w1.length 0 = a by simp [List.getD_eq_getElem?_getD]]
        rw [show (w1 ++ [a]) ++ w2 = w1 ++ a :: w2 by simp] at ih'
        have e3 : ((pre.length + (n + 1) : Nat) : Int) = (pre.length : Int) + 1 + (n : Int) := by omega
        rw [e3, ih']
        simp [fills, hk]
    · have hc1 : cntF per keep r (pre.length + 1) = cntF per keep r pre.length := by simp only [cntF]; rw [if_neg hk]; rfl
      have ih' := ih (pre ++ [lv]) w1 w2 kk (by simp; omega) hw (by simp only [List.length_append, List.length_singleton]; omega)
      simp only [List.length_append, List.length_singleton, Int.natCast_add, Int.natCast_one] at ih'
      have e3 : ((pre.length + (n + 1) : Nat) : Int) = (pre.length : Int) + 1 + (n : Int) := by omega
      rw [if_neg hk, e3, ih']
      simp [fills, hk]
end
theorem loop9 {per : Int} {keep : List Int} {r : Nat} (hr : r ≤ 3) {lv : Int} {S : Nat} (hS : S ≤ 1055) {w : List Int} (hw8 : ∀ x ∈ w, 0 ≤ x ∧ x ≤ 255) (hwl : w.length ≤ 1000000) {K : Nat} : ∀ (l2 p2 : List Int) (kk : Nat) (_ : w = p2 ++ l2),
    L20_9 K (kk + l2.length + 1) ((r : Int), lv, (S : Int), w, (), w, (w.length : Int), (p2.length : Int), ()) ((per, keep, ()), ()) =
      if (∀ x ∈ l2, x < lv) then L20_18 K kk ((r : Int), lv, w, ((), ()), (), 0, ((r * S : Nat) : Int), 0, ()) ((per, keep, ()), List.replicate (r * S) 0, ()) else some (((), 91, ()), [], ()) := by
  intro l2
  induction l2 with
  | nil =>
    intro p2 kk hw
    have hrS : r * S ≤ 3165 := by have := Nat.mul_le_mul hr hS; omega
    have e1 : IntKind.wrap IntKind.i64 ((r : Int) * (S : Int)) = ((r * S : Nat) : Int) := by rw [← Int.natCast_mul]; exact wi (by omega) (by omega)
    subst hw
    rw [if_pos (by simp), show kk + ([] : List Int).length + 1 = kk + 1 from rfl, L20_9, if_neg (by simp)]
    simp only [F43, Option.bind_some, e1]
    rw [if_pos (by omega), Int.toNat_natCast, List.length_replicate]
  | cons x l2 ih =>
    intro p2 kk hw
    have ih' := ih (p2 ++ [x]) kk (by simp [hw])
    simp only [List.length_append, List.length_singleton, Int.natCast_add, Int.natCast_one] at ih'
    have hlen : w.length = p2.length + (l2.length + 1) := by rw [hw]; simp
    have hx := hw8 x (by rw [hw]; simp)
    have hget : List.getD w p2.length 0 = x := by rw [hw]; simp [List.getD_eq_getElem?_getD]
    rw [show kk + (x :: l2).length + 1 = (kk + l2.length + 1) + 1 by simp; omega, L20_9, if_pos (show decide ((p2.length : Int) < (w.length : Int)) = true by simp; omega), if_pos (show (0 : Int) ≤ (p2.length : Int) ∧ (p2.length : Int) < (w.length : Int) by omega), Int.toNat_natCast, hget, wi (n := x) (by omega) (by omega), wi (n := (p2.length : Int) + 1) (by omega) (by omega)]
    by_cases hlt : x < lv
    · rw [if_neg (show ¬ decide (lv ≤ x) = true by simp; omega), ih']
      by_cases ha : ∀ y ∈ l2, y < lv
      · rw [if_pos ha, if_pos (by simpa [hlt] using ha)]
      · rw [if_neg ha, if_neg (by simpa [hlt] using ha)]
    · rw [if_pos (show decide (lv ≤ x) = true by simp; omega), if_neg (by simp [hlt])]
/-- What Fill comes to. -/
theorem fill_ok {per x y z rate lv steps : Int} {w : List Int} (hx : 0 ≤ x ∧ x < 18446744073709551616) (hy : 0 ≤ y ∧ y < 18446744073709551616) (hz : 0 ≤ z ∧ z < 18446744073709551616) (hw8 : ∀ x ∈ w, 0 ≤ x ∧ x ≤ 255) :
    ∃ K e l, (∀ k, K ≤ k → F20 k ((per, [x, y, z], ()), rate, lv, steps, w, ()) () = some (((), e, ()), l, ())) ∧
      (e = 0 → chk per x y z rate = 0 ∧ 2 ≤ lv ∧ lv ≤ 15 ∧ (∀ v ∈ w, v < lv) ∧ ∃ r S : Nat, rate = r ∧ 0 < r ∧ r ≤ 3 ∧ steps = S ∧ S ≤ 1055 ∧ (w.length : Int) = tot per [x, y, z] r S ∧ l = fills per [x, y, z] r lv (r * S) 0 w) ∧
      (e ≠ 0 → ¬ (chk per x y z rate = 0 ∧ 2 ≤ lv ∧ lv ≤ 15 ∧ (∀ v ∈ w, v < lv) ∧ ∃ r S : Nat, rate = r ∧ steps = S ∧ S ≤ 1055 ∧ (w.length : Int) = tot per [x, y, z] r S)) := by
  have e28 := fun k => chk28 (per := per) (rate := rate) hx hy hz k
  by_cases hc : chk per x y z rate = 0
  · by_cases hb : lv < 2 ∨ 15 < lv ∨ steps < 0 ∨ 1055 < steps
    · refine ⟨10, 1, [], fun k hk => ?_, (fun h => by cases h), fun _ h => ?_⟩
      · simp only [F20]
        rw [show k = k - 6 + 6 by omega, e28, hc]
        simp only [Option.bind_some, decide_true, Bool.not_true, Bool.false_eq_true, if_false]
        by_cases h1 : lv < 2
        · simp [h1]
        · by_cases h2 : 15 < lv
          · simp [h1, h2]
          · by_cases h3 : steps < 0
            · simp [h1, h2, h3]
            · have h4 : 1055 < steps := by omega
              simp [h1, h2, h3, h4]
      · obtain ⟨_, a, b, _, r, S, _, rfl, c, _⟩ := h; omega
    · obtain ⟨hp, hr⟩ := chk_pat hx hy hz hc
      obtain ⟨r, rfl, hr0, hr3⟩ := rate_cases hr
      obtain ⟨S, rfl⟩ := Int.eq_ofNat_of_zero_le (show 0 ≤ steps by omega)
      obtain ⟨K1, h1⟩ := count_ok hp hr3 (S := S) (by omega)
      have b1 : ¬ lv < 2 := by omega
      have b2 : ¬ 15 < lv := by omega
      have b3 : ¬ (S : Int) < 0 := by omega
      have b4 : ¬ 1055 < (S : Int) := by omega
      have hrS : r * S ≤ 3165 := by have := Nat.mul_le_mul hr3 (show S ≤ 1055 by omega); omega
      have hb3 := tot3 (per := per) (keep := [x, y, z]) hr3 (s := S) (by omega)
      have head : ∀ k, K1 + 10 ≤ k → F20 k ((per, [x, y, z], ()), (r : Int), lv, (S : Int), w, ()) () = if (!decide ((w.length : Int) = tot per [x, y, z] r S)) = true then some (((), 5, ()), [], ()) else L20_9 k k ((r : Int), lv, (S : Int), w, (), w, (w.length : Int), 0, ()) ((per, [x, y, z], ()), ()) := fun k hk => by
        have e28' := e28 (k - 6)
        rw [show k - 6 + 6 = k by omega, hc] at e28'
        simp only [F20]
        rw [e28', h1 k (by omega)]
        simp [b1, b2, b3, b4]
      by_cases hn : (w.length : Int) = tot per [x, y, z] r S
      · have hwl : w.length ≤ 1000000 := by
          have := tot_le per [x, y, z] r S
          have e : ((r * S : Nat) : Int) = (r : Int) * S := Int.natCast_mul r S
          omega
        have h9 := fun K kk => loop9 (per := per) (keep := [x, y, z]) hr3 (lv := lv) (S := S) (by omega) hw8 hwl (K := K) w [] kk rfl
        by_cases hlv : ∀ v ∈ w, v < lv
        · refine ⟨K1 + 20 + w.length + r * S, 0, fills per [x, y, z] r lv (r * S) 0 w, fun k hk => ?_, fun _ => ⟨hc, by omega, by omega, hlv, r, S, rfl, hr0, hr3, rfl, by omega, hn, rfl⟩, fun h => by cases h rfl⟩
          rw [head k (by omega), if_neg (by simp [hn])]
          have := h9 k (k - w.length - 1)
          rw [show k - w.length - 1 + w.length + 1 = k by omega, if_pos hlv] at this
          refine this.trans ?_
          have h18 := loop18 hp hr0 hr3 (lv := lv) (by omega) (by omega) (K := k) (r * S) [] [] w (k - w.length - 1 - r * S - 1) (by simpa using (by omega : r * S ≤ 1000000)) (by simpa using hwl) (by
            have := cntF_tot per [x, y, z] hr0 S
            simp only [List.length_nil, Nat.zero_add]
            simp only [cntF]; omega)
          rw [show k - w.length - 1 - r * S - 1 + r * S + 1 = k - w.length - 1 by omega] at h18
          simpa using h18
        · refine ⟨K1 + 20 + w.length, 91, [], fun k hk => ?_, (fun h => by cases h), fun _ h => hlv h.2.2.2.1⟩
          rw [head k (by omega), if_neg (by simp [hn])]
          have := h9 k (k - w.length - 1)
          rw [show k - w.length - 1 + w.length + 1 = k by omega, if_neg hlv] at this
          exact this
      · refine ⟨K1 + 10, 5, [], fun k hk => ?_, (fun h => by cases h), fun _ h => ?_⟩
        · rw [head k hk, if_pos (by simp [hn])]
        · obtain ⟨_, _, _, _, r', S', e1, e2, _, e3⟩ := h
          have : r' = r := by omega
          have : S' = S := by omega
          subst r' S'; exact hn e3
  · refine ⟨10, chk per x y z rate, [], fun k hk => ?_, fun h => (hc h).elim, fun _ h => hc h.1⟩
    simp only [F20]
    rw [show k = k - 6 + 6 by omega, e28]
    simp [hc]
end Go.Eng.Pu

/- There and back. No condition. -/
namespace Go.Eng.Pu
open Go Go.Eng Go.Proofs
def marks : Nat → Nat → List Int
  | _, 0 => []
  | i, d + 1 => (200 + i : Int) :: marks (i + 1) d
theorem lent_loop {w : List Int} : ∀ (d i : Nat) (a : List Int) (k : Nat) (_ : i + d = 8) (_ : w.length ≤ a.length) (_ : a.length + d ≤ 140737488355328),
    L12_3 (k + d + 1) (w, (), (i : Int), ()) (a, ()) = some ((0, w.length), a ++ marks i d, ()) := by
  intro d
  induction d with
  | zero =>
    intro i a k hi hw ha
    rw [L12_3, if_neg (show ¬ decide ((i : Int) < 8) = true by simp; omega), if_pos (show (0 : Int) ≤ (w.length : Int) ∧ (w.length : Int) ≤ (a.length : Int) by omega)]
    simp [marks]
  | succ d ih =>
    intro i a k hi hw ha
    rw [show k + (d + 1) + 1 = (k + d + 1) + 1 by omega, L12_3, if_pos (show decide ((i : Int) < 8) = true by simp; omega), if_pos (show (a.length + 1) * 1 ≤ 140737488355328 by omega), wi (n := (i : Int) + 1) (by omega) (by omega), wi (n := 200 + (i : Int)) (by omega) (by omega), wu8 (by omega) (by omega)]
    have := ih (i + 1) (a ++ [(200 + i : Int)]) k (by omega) (by simp; omega) (by simp; omega)
    rw [show ((i + 1 : Nat) : Int) = (i : Int) + 1 by omega] at this
    rw [this]; simp [marks]
theorem lent_ok {w : List Int} (hw : w.length ≤ 140737488351232) (k : Nat) : F12 (k + 9) (w, ()) () = some ((0, w.length), w ++ marks 0 8, ()) := by
  simp only [F12]
  rw [if_pos (by omega)]
  exact lent_loop 8 0 w k (by omega) (Nat.le_refl _) (by omega)
def ov (per : Int) (keep : List Int) (r : Nat) (lv : Int) : List Int → Nat → List Int
  | [], _ => []
  | x :: l, k => (if kat per keep r k then x else lv) :: ov per keep r lv l (k + 1)
theorem fills_picks (per : Int) (keep : List Int) (r : Nat) (lv : Int) : ∀ (l : List Int) (k : Nat), fills per keep r lv l.length k (picks per keep r l k) = ov per keep r lv l k
  | [], k => rfl
  | x :: l, k => by
    simp only [List.length_cons, fills, picks, ov]
    by_cases h : kat per keep r k = true
    · simp [h, fills_picks per keep r lv l]
    · simp [h, fills_picks per keep r lv l]
theorem picks_fills (per : Int) (keep : List Int) (r : Nat) (lv : Int) : ∀ (n k : Nat) (w : List Int), cntF per keep r (k + n) = cntF per keep r k + w.length → picks per keep r (fills per keep r lv n k w) k = w
  | 0, k, w, h => by
    have : w = [] := List.eq_nil_of_length_eq_zero (by rw [Nat.add_zero] at h; omega)
    subst this; rfl
  | n + 1, k, w, h => by
    rw [show k + (n + 1) = (k + 1) + n by omega] at h
    simp only [fills]
    by_cases hk : kat per keep r k = true
    · have hc1 : cntF per keep r (k + 1) = cntF per keep r k + 1 := by simp only [cntF]; rw [if_pos hk]
      have hmono := cntF_mono per keep r (k + 1) n
      match w, h with
      | [], h => simp at h; omega
      | a :: w, h =>
        rw [if_pos hk]
        simp only [picks, hk, if_true, List.headD_cons, List.tail_cons, List.singleton_append]
        rw [picks_fills per keep r lv n (k + 1) w (by simp at h; omega)]
    · have hc1 : cntF per keep r (k + 1) = cntF per keep r k := by simp only [cntF]; rw [if_neg hk]; rfl
      rw [if_neg hk]
      simp only [picks]
      rw [if_neg hk, picks_fills per keep r lv n (k + 1) w (by omega)]; rfl
theorem picks_mem (per : Int) (keep : List Int) (r : Nat) {x : Int} : ∀ {l : List Int} {k : Nat}, x ∈ picks per keep r l k → x ∈ l
  | [], k, h => by simp [picks] at h
  | y :: l, k, h => by
    simp only [picks, List.mem_append] at h
    rcases h with h | h
    · split at h
      · simp at h; subst h; exact List.mem_cons_self ..
      · simp at h
    · exact List.mem_cons_of_mem _ (picks_mem per keep r h)
/-- Two rows, one of which says nothing where the other one does. -/
def Fit (lv : Int) : List Int → List Int → List Int → Prop
  | [], [], [] => True
  | a :: la, x :: lx, d :: ld => (0 ≤ x ∧ x < lv) ∧ (0 ≤ a) ∧ ((d = x ∧ a < lv) ∨ (d = lv ∧ a = lv)) ∧ Fit lv la lx ld
  | _, _, _ => False
theorem fit_ok (per : Int) (keep : List Int) (r : Nat) (lv : Int) (h0 : 0 ≤ lv) : ∀ (l : List Int) (k : Nat) (w : List Int), (∀ x ∈ l, 0 ≤ x ∧ x < lv) → (∀ x ∈ w, 0 ≤ x ∧ x < lv) → cntF per keep r (k + l.length) = cntF per keep r k + w.length →
    Fit lv (fills per keep r lv l.length k w) l (ov per keep r lv l k)
  | [], k, w, hl, hw, h => trivial
  | x :: l, k, w, hl, hw, h => by
    simp only [List.length_cons] at h
    rw [show k + (l.length + 1) = (k + 1) + l.length by omega] at h
    simp only [List.length_cons, fills, ov]
    by_cases hk : kat per keep r k = true
    · have hc1 : cntF per keep r (k + 1) = cntF per keep r k + 1 := by simp only [cntF]; rw [if_pos hk]
      have hmono := cntF_mono per keep r (k + 1) l.length
      match w, h, hw with
      | [], h, hw => simp at h; omega
      | a :: w, h, hw =>
        rw [if_pos hk, if_pos hk]
        exact ⟨hl x (by simp), (hw a (by simp)).1, .inl ⟨rfl, (hw a (by simp)).2⟩, fit_ok per keep r lv h0 l (k + 1) w (fun y hy => hl y (List.mem_cons_of_mem _ hy)) (fun y hy => hw y (List.mem_cons_of_mem _ hy)) (by simp at h; omega)⟩
    · have hc1 : cntF per keep r (k + 1) = cntF per keep r k := by simp only [cntF]; rw [if_neg hk]; rfl
      rw [if_neg hk, if_neg hk]
      exact ⟨hl x (by simp), h0, .inr ⟨rfl, rfl⟩, fit_ok per keep r lv h0 l (k + 1) w (fun y hy => hl y (List.mem_cons_of_mem _ hy)) hw (by omega)⟩
theorem loop517 {per rate lv steps : Int} {keep w : List Int} (hlv : lv ≤ 15) {K : Nat} (hK : F19 K () () = some (true, ())) : ∀ (a2 x2 d2 a1 x1 d1 : List Int) (k : Nat), Fit lv a2 x2 d2 → a1.length = x1.length → x1.length = d1.length → d1.length + d2.length ≤ 1000000 →
    L5_17 K (k + d2.length + 1) ((), (), (), (), (d1.length : Int), ()) ((per, keep, rate, lv, steps, w, ()), a1 ++ a2, x1 ++ x2, d1 ++ d2, ()) = some (true, ())
  | [], [], [], a1, x1, d1, k, hf, h1, h2, hb => by
    rw [show k + ([] : List Int).length + 1 = k + 1 from rfl, L5_17, if_neg (by simp), hK]; rfl
  | a :: a2, x :: x2, d :: d2, a1, x1, d1, k, hf, h1, h2, hb => by
    obtain ⟨⟨x0, xl⟩, a0, hd, hf'⟩ := hf
    simp only [List.length_cons] at hb
    have ih := loop517 (per := per) (rate := rate) (steps := steps) (keep := keep) (w := w) hlv hK a2 x2 d2 (a1 ++ [a]) (x1 ++ [x]) (d1 ++ [d]) k hf' (by simp; omega) (by simp; omega) (by simp; omega)
    rw [show (d1 ++ [d]).length = d1.length + 1 by simp, show (a1 ++ [a]) ++ a2 = a1 ++ a :: a2 by simp, show (x1 ++ [x]) ++ x2 = x1 ++ x :: x2 by simp, show (d1 ++ [d]) ++ d2 = d1 ++ d :: d2 by simp, show ((d1.length + 1 : Nat) : Int) = (d1.length : Int) + 1 by omega] at ih
    have gd : List.getD (d1 ++ d :: d2) d1.length 0 = d := by simp [List.getD_eq_getElem?_getD]
    have gx : List.getD (x1 ++ x :: x2) d1.length 0 = x := by rw [← h2]; simp [List.getD_eq_getElem?_getD]
    have ga : List.getD (a1 ++ a :: a2) d1.length 0 = a := by rw [← h2, ← h1]; simp [List.getD_eq_getElem?_getD]
    have ld : d1.length < (d1 ++ d :: d2).length := by simp
    have lx : d1.length < (x1 ++ x :: x2).length := by simp; omega
    have la : d1.length < (a1 ++ a :: a2).length := by simp; omega
    have ld' : (0 : Int) ≤ (d1.length : Int) ∧ (d1.length : Int) < ((d1 ++ d :: d2).length : Int) := by omega
    have lx' : (0 : Int) ≤ (d1.length : Int) ∧ (d1.length : Int) < ((x1 ++ x :: x2).length : Int) := by omega
    have la' : (0 : Int) ≤ (d1.length : Int) ∧ (d1.length : Int) < ((a1 ++ a :: a2).length : Int) := by omega
    have wd : IntKind.wrap IntKind.i64 d = d := wi (by omega) (by omega)
    have wa : IntKind.wrap IntKind.i64 a = a := wi (by omega) (by omega)
    have w1 : IntKind.wrap IntKind.i64 ((d1.length : Int) + 1) = (d1.length : Int) + 1 := wi (by omega) (by omega)
    rw [show k + (d :: d2).length + 1 = (k + d2.length + 1) + 1 by simp; omega, L5_17]
    simp only [Int.toNat_natCast, gd, gx, ga, wd, wa, w1]
    rw [if_pos (show decide ((d1.length : Int) < ((d1 ++ d :: d2).length : Int)) = true by simp only [decide_eq_true_eq]; omega)]
    simp only [if_pos ld, if_pos lx, if_pos la, if_pos ld', if_pos lx', if_pos la']
    rcases hd with ⟨rfl, ha⟩ | ⟨rfl, rfl⟩
    · have n1 : ¬ d = lv := by omega
      have n2 : ¬ a = lv := by omega
      simp [n1, n2, ih]
    · have n1 : ¬ a = x := by omega
      simp [n1, ih]
end Go.Eng.Pu

/- ApartBytes, Stays, R.Cut. No condition. -/
set_option linter.unusedVariables false
namespace Go.Eng.Pu
open Go Go.Eng Go.Proofs
theorem inN {i n : Nat} (h : i < n) : (0 : Int) ≤ (i : Int) ∧ (i : Int) < (n : Int) := by omega
theorem bind_of {α β : Type} {o : Option α} {v : α} {f : α → Option β} {r : Option β} (h : o = some v) (h2 : f v = r) : Option.bind o f = r := by rw [h]; exact h2
theorem add1 {i : Nat} (hi : i < 4611686018427387904) : IntKind.wrap IntKind.i64 ((i : Int) + (1 : Int)) = ((i + 1 : Nat) : Int) := by
  rw [wi (by omega) (by omega)]; omega
theorem dlt {i n : Nat} (h : i < n) : decide ((i : Int) < (n : Int)) = true := by rw [decide_eq_true_eq]; omega
theorem ndlt {i n : Nat} (h : n ≤ i) : ¬ decide ((i : Int) < (n : Int)) = true := by rw [decide_eq_true_eq]; omega
theorem nd_t {p : Prop} [Decidable p] (h : p) : ¬ (!decide p) = true := by rw [decide_eq_true h]; decide
def mk (i j : Int) : Int := IntKind.wrap IntKind.u8 (IntKind.wrap IntKind.i64 (IntKind.wrap IntKind.i64 (IntKind.wrap IntKind.i64 ((31 : Int) * i) + IntKind.wrap IntKind.i64 ((7 : Int) * j)) + (1 : Int)))
theorem getD_set {l : List Int} {i j : Nat} {v : Int} (hi : i < l.length) : (l.set i v).getD j 0 = if j = i then v else l.getD j 0 := by
  simp only [List.getD_eq_getElem?_getD, List.getElem?_set]
  by_cases h : j = i
  · subst h; rw [if_pos rfl, if_pos hi, if_pos rfl]; rfl
  · rw [if_neg (Ne.symm h), if_neg h]
/-- A row that is written from j on, up to m. -/
def Wr (i : Int) (m j : Nat) (l l' : List Int) : Prop := l'.length = l.length ∧ ∀ t, t < m → (j ≤ t → l'.getD t 0 = mk i (t : Int)) ∧ (t < j → l'.getD t 0 = l.getD t 0)
theorem Wr.step {i : Int} {m j : Nat} {l l' : List Int} (hj : j < m) (hm : m ≤ l.length) (h : Wr i m (j + 1) (l.set j (mk i (j : Int))) l') : Wr i m j l l' := by
  refine ⟨by rw [h.1, List.length_set], fun t ht => ⟨fun h1 => ?_, fun h1 => ?_⟩⟩
  · by_cases e : t = j
    · subst e
      rw [(h.2 t ht).2 (Nat.lt_succ_self _), getD_set (by omega), if_pos rfl]
    · exact (h.2 t ht).1 (by omega)
  · rw [(h.2 t ht).2 (by omega), getD_set (by omega), if_neg (by omega)]
section
variable {n : Nat}
theorem w5_0 {B G : List Int} : ∀ (d j : Nat) (A : List Int) (k : Nat), j + d = A.length → A.length ≤ 1000000000000000 → ∃ A', Wr 0 A.length j A A' ∧ L18_5 (k + d + 1) ((0, 3), 0, (j : Int), ()) (((), (), (0, n), ()), A, B, G, ()) = L18_2 k ((0, 3), 1, ()) (((), (), (0, n), ()), A', B, G, ())
  | 0, j, A, k, hj, hL => by
    refine ⟨A, ⟨rfl, fun t ht => ⟨fun h => by omega, fun _ => rfl⟩⟩, ?_⟩
    rw [L18_5]
    refine (if_pos ⟨rfl, by decide, by decide⟩).trans ((if_pos rfl).trans ((if_neg (ndlt (show A.length ≤ j by omega))).trans ?_))
    rfl
  | d + 1, j, A, k, hj, hL => by
    have h : j < A.length := by omega
    have hw : IntKind.wrap IntKind.i64 ((j : Int) + (1 : Int)) = ((j + 1 : Nat) : Int) := add1 (by omega)
    obtain ⟨A', h1, h2⟩ := w5_0 d (j + 1) (A.set j (mk 0 (j : Int))) k (by rw [List.length_set]; omega) (by rw [List.length_set]; omega)
    refine ⟨A', Wr.step h (Nat.le_refl _) (by rw [List.length_set] at h1; exact h1), ?_⟩
    rw [← h2, show k + (d + 1) + 1 = (k + d + 1) + 1 by omega, L18_5]
    refine (if_pos ⟨rfl, by decide, by decide⟩).trans ((if_pos rfl).trans ((if_pos (dlt h)).trans ((if_pos ⟨rfl, by decide, by decide⟩).trans ((if_pos rfl).trans (?_)))))
    refine bind_of (v := (mk 0 (j : Int), ())) rfl ((if_pos (inN h)).trans ((if_pos h).trans ?_))
    rw [hw]; rfl
theorem w5_1 {A G : List Int} : ∀ (d j : Nat) (B : List Int) (k : Nat), j + d = B.length → B.length ≤ 1000000000000000 → ∃ B', Wr 1 B.length j B B' ∧ L18_5 (k + d + 1) ((0, 3), 1, (j : Int), ()) (((), (), (0, n), ()), A, B, G, ()) = L18_2 k ((0, 3), 2, ()) (((), (), (0, n), ()), A, B', G, ())
  | 0, j, B, k, hj, hL => by
    refine ⟨B, ⟨rfl, fun t ht => ⟨fun h => by omega, fun _ => rfl⟩⟩, ?_⟩
    rw [L18_5]
    refine (if_pos ⟨rfl, by decide, by decide⟩).trans ((if_neg (by decide)).trans ((if_pos rfl).trans ((if_neg (ndlt (show B.length ≤ j by omega))).trans ?_)))
    rfl
  | d + 1, j, B, k, hj, hL => by
    have h : j < B.length := by omega
    have hw : IntKind.wrap IntKind.i64 ((j : Int) + (1 : Int)) = ((j + 1 : Nat) : Int) := add1 (by omega)
    obtain ⟨B', h1, h2⟩ := w5_1 d (j + 1) (B.set j (mk 1 (j : Int))) k (by rw [List.length_set]; omega) (by rw [List.length_set]; omega)
    refine ⟨B', Wr.step h (Nat.le_refl _) (by rw [List.length_set] at h1; exact h1), ?_⟩
    rw [← h2, show k + (d + 1) + 1 = (k + d + 1) + 1 by omega, L18_5]
    refine (if_pos ⟨rfl, by decide, by decide⟩).trans ((if_neg (by decide)).trans ((if_pos rfl).trans ((if_pos (dlt h)).trans ((if_pos ⟨rfl, by decide, by decide⟩).trans ((if_neg (by decide)).trans ((if_pos rfl).trans (?_)))))))
    refine bind_of (v := (mk 1 (j : Int), ())) rfl ((if_pos (inN h)).trans ((if_pos h).trans ?_))
    rw [hw]; rfl
theorem w5_2 {A B : List Int} : ∀ (d j : Nat) (G : List Int) (k : Nat) (hn : n ≤ G.length), j + d = n → n ≤ 1000000000000000 → ∃ G', Wr 2 n j G G' ∧ L18_5 (k + d + 1) ((0, 3), 2, (j : Int), ()) (((), (), (0, n), ()), A, B, G, ()) = L18_2 k ((0, 3), 3, ()) (((), (), (0, n), ()), A, B, G', ())
  | 0, j, G, k, hn, hj, hL => by
    refine ⟨G, ⟨rfl, fun t ht => ⟨fun h => by omega, fun _ => rfl⟩⟩, ?_⟩
    rw [L18_5]
    refine (if_pos ⟨rfl, by decide, by decide⟩).trans ((if_neg (by decide)).trans ((if_neg (by decide)).trans ((if_pos rfl).trans ((if_neg (ndlt (show n ≤ j by omega))).trans ?_))))
    rfl
  | d + 1, j, G, k, hn, hj, hL => by
    have h : j < n := by omega
    have hw : IntKind.wrap IntKind.i64 ((j : Int) + (1 : Int)) = ((j + 1 : Nat) : Int) := add1 (by omega)
    obtain ⟨G', h1, h2⟩ := w5_2 d (j + 1) (G.set j (mk 2 (j : Int))) k (by rw [List.length_set]; exact hn) (by omega) (by omega)
    refine ⟨G', Wr.step h hn h1, ?_⟩
    rw [← h2, show k + (d + 1) + 1 = (k + d + 1) + 1 by omega, L18_5]
    refine (if_pos ⟨rfl, by decide, by decide⟩).trans ((if_neg (by decide)).trans ((if_neg (by decide)).trans ((if_pos rfl).trans ((if_pos (dlt h)).trans ((if_pos ⟨rfl, by decide, by decide⟩).trans ((if_neg (by decide)).trans ((if_neg (by decide)).trans ((if_pos rfl).trans (?_)))))))))
    refine bind_of (v := (mk 2 (j : Int), ())) rfl ((if_pos (inN h)).trans ((if_pos (show 0 + j < G.length by omega)).trans ?_))
    rw [hw]
    show L18_5 _ _ (((), (), (0, n), ()), A, B, List.set G (0 + j) (mk 2 (j : Int)), ()) = _
    rw [Nat.zero_add]
theorem r20_0 {A B G : List Int} (hr : ∀ t, t < A.length → A.getD t 0 = mk 0 (t : Int)) (hL : A.length ≤ 1000000000000000) : ∀ (d j k : Nat), j + d = A.length → L18_20 (k + d + 1) ((0, 3), 0, (j : Int), ()) (((), (), (0, n), ()), A, B, G, ()) = L18_17 k ((0, 3), 1, ()) (((), (), (0, n), ()), A, B, G, ())
  | 0, j, k, hj => by
    rw [L18_20]
    refine (if_pos ⟨rfl, by decide, by decide⟩).trans ((if_pos rfl).trans ((if_neg (ndlt (show A.length ≤ j by omega))).trans ?_))
    rfl
  | d + 1, j, k, hj => by
    have h : j < A.length := by omega
    have hw : IntKind.wrap IntKind.i64 ((j : Int) + (1 : Int)) = ((j + 1 : Nat) : Int) := add1 (by omega)
    have h2 := r20_0 (A := A) (B := B) (G := G) hr hL d (j + 1) k (by omega)
    rw [← h2, show k + (d + 1) + 1 = (k + d + 1) + 1 by omega, L18_20]
    refine (if_pos ⟨rfl, by decide, by decide⟩).trans ((if_pos rfl).trans ((if_pos (dlt h)).trans ((if_pos ⟨rfl, by decide, by decide⟩).trans ((if_pos rfl).trans ((if_pos (inN h)).trans ((if_pos h).trans ?_))))))
    refine bind_of (v := (mk 0 (j : Int), ())) rfl ((if_neg (nd_t ?_)).trans ?_)
    · exact hr j h
    · rw [hw]
theorem r20_1 {A B G : List Int} (hr : ∀ t, t < B.length → B.getD t 0 = mk 1 (t : Int)) (hL : B.length ≤ 1000000000000000) : ∀ (d j k : Nat), j + d = B.length → L18_20 (k + d + 1) ((0, 3), 1, (j : Int), ()) (((), (), (0, n), ()), A, B, G, ()) = L18_17 k ((0, 3), 2, ()) (((), (), (0, n), ()), A, B, G, ())
  | 0, j, k, hj => by
    rw [L18_20]
    refine (if_pos ⟨rfl, by decide, by decide⟩).trans ((if_neg (by decide)).trans ((if_pos rfl).trans ((if_neg (ndlt (show B.length ≤ j by omega))).trans ?_)))
    rfl
  | d + 1, j, k, hj => by
    have h : j < B.length := by omega
    have hw : IntKind.wrap IntKind.i64 ((j : Int) + (1 : Int)) = ((j + 1 : Nat) : Int) := add1 (by omega)
    have h2 := r20_1 (A := A) (B := B) (G := G) hr hL d (j + 1) k (by omega)
    rw [← h2, show k + (d + 1) + 1 = (k + d + 1) + 1 by omega, L18_20]
    refine (if_pos ⟨rfl, by decide, by decide⟩).trans ((if_neg (by decide)).trans ((if_pos rfl).trans ((if_pos (dlt h)).trans ((if_pos ⟨rfl, by decide, by decide⟩).trans ((if_neg (by decide)).trans ((if_pos rfl).trans ((if_pos (inN h)).trans ((if_pos h).trans ?_))))))))
    refine bind_of (v := (mk 1 (j : Int), ())) rfl ((if_neg (nd_t ?_)).trans ?_)
    · exact hr j h
    · rw [hw]
theorem r20_2 {A B G : List Int} (hr : ∀ t, t < n → G.getD t 0 = mk 2 (t : Int)) (hn : n ≤ G.length) (hL : n ≤ 1000000000000000) : ∀ (d j k : Nat), j + d = n → L18_20 (k + d + 1) ((0, 3), 2, (j : Int), ()) (((), (), (0, n), ()), A, B, G, ()) = L18_17 k ((0, 3), 3, ()) (((), (), (0, n), ()), A, B, G, ())
  | 0, j, k, hj => by
    rw [L18_20]
    refine (if_pos ⟨rfl, by decide, by decide⟩).trans ((if_neg (by decide)).trans ((if_neg (by decide)).trans ((if_pos rfl).trans ((if_neg (ndlt (show n ≤ j by omega))).trans ?_))))
    rfl
  | d + 1, j, k, hj => by
    have h : j < n := by omega
    have hw : IntKind.wrap IntKind.i64 ((j : Int) + (1 : Int)) = ((j + 1 : Nat) : Int) := add1 (by omega)
    have h2 := r20_2 (A := A) (B := B) (G := G) hr hn hL d (j + 1) k (by omega)
    rw [← h2, show k + (d + 1) + 1 = (k + d + 1) + 1 by omega, L18_20]
    refine (if_pos ⟨rfl, by decide, by decide⟩).trans ((if_neg (by decide)).trans ((if_neg (by decide)).trans ((if_pos rfl).trans ((if_pos (dlt h)).trans ((if_pos ⟨rfl, by decide, by decide⟩).trans ((if_neg (by decide)).trans ((if_neg (by decide)).trans ((if_pos rfl).trans ((if_pos (inN h)).trans ((if_pos (show 0 + j < G.length by omega)).trans ?_))))))))))
    refine bind_of (v := (mk 2 (j : Int), ())) rfl ((if_neg (nd_t ?_)).trans ?_)
    · show G.getD (0 + j) 0 = _
      rw [Nat.zero_add]; exact hr j h
    · rw [hw]
theorem end17 {A B G : List Int} (k : Nat) : L18_17 (k + 1) ((0, 3), 3, ()) (((), (), (0, n), ()), A, B, G, ()) = some (true, ((), (), (0, n), ()), A, B, G, ()) := by
  rw [L18_17]; exact if_neg (by decide)
theorem at17 {A B G : List Int} (k : Nat) {i : Int} (h : i < 3) : L18_17 (k + 1) ((0, 3), i, ()) (((), (), (0, n), ()), A, B, G, ()) = L18_20 k ((0, 3), i, 0, ()) (((), (), (0, n), ()), A, B, G, ()) := by
  rw [L18_17]; exact if_pos (decide_eq_true h)
theorem at2 {A B G : List Int} (k : Nat) {i : Int} (h : i < 3) : L18_2 (k + 1) ((0, 3), i, ()) (((), (), (0, n), ()), A, B, G, ()) = L18_5 k ((0, 3), i, 0, ()) (((), (), (0, n), ()), A, B, G, ()) := by
  rw [L18_2]; exact if_pos (decide_eq_true h)
theorem end2 {A B G : List Int} (k : Nat) : L18_2 (k + 1) ((0, 3), 3, ()) (((), (), (0, n), ()), A, B, G, ()) = L18_9 k ((0, 3), 0, ()) (((), (), (0, n), ()), A, B, G, ()) := by
  rw [L18_2]; exact if_neg (by decide)
/-- What is grown leaves the lists as they were. -/
theorem mid9 {A B G : List Int} (k : Nat) (hA : A.length ≤ 140737488351232) (hB : B.length ≤ 140737488351232) (hn : n ≤ 140737488351232) (hG : n ≤ G.length) : ∃ G', n ≤ G'.length ∧ (∀ t, t < n → G'.getD t 0 = G.getD t 0) ∧
    L18_9 (k + 4) ((0, 3), 0, ()) (((), (), (0, n), ()), A, B, G, ()) = L18_17 k ((0, 3), 0, ()) (((), (), (0, n), ()), A, B, G', ()) := by
  refine ⟨List.take (0 + n) G ++ (List.replicate (min 40 (G.length - (0 + n))) (254 : Int) ++ List.drop (0 + n + 40) G), ?_, ?_, ?_⟩
  rotate_right
  · rw [L18_9]
    refine (if_pos (by decide)).trans ((if_pos ⟨rfl, by decide, by decide⟩).trans ((if_pos rfl).trans ((if_pos (by omega)).trans ?_)))
    rw [w1, L18_9]
    refine (if_pos (by decide)).trans ((if_pos ⟨rfl, by decide, by decide⟩).trans ((if_neg (by decide)).trans ((if_pos rfl).trans ((if_pos (by omega)).trans ?_))))
    rw [w2, L18_9]
    refine (if_pos (by decide)).trans ((if_pos ⟨rfl, by decide, by decide⟩).trans ((if_neg (by decide)).trans ((if_neg (by decide)).trans ((if_pos rfl).trans ((if_pos (by omega)).trans ?_)))))
    rw [w3, L18_9]
    exact if_neg (by decide)
  · rw [Nat.zero_add, List.length_append, List.length_take]; omega
  · intro t ht
    rw [Nat.zero_add, List.getD_eq_getElem?_getD, List.getElem?_append_left (by rw [List.length_take]; omega), List.getElem?_take, if_pos ht, ← List.getD_eq_getElem?_getD]
/-- No two lists share anything. -/
theorem apart_ok {A B G : List Int} (hA : A.length ≤ 140737488351232) (hB : B.length ≤ 140737488351232) (hn : n ≤ 140737488351232) (hG : n ≤ G.length) : ∃ K, ∀ k, K ≤ k → ∃ A' B' G', F18 k ((0, 3), ()) (((), (), (0, n), ()), A, B, G, ()) = some (true, ((), (), (0, n), ()), A', B', G', ()) := by
  refine ⟨2 * (A.length + B.length + n) + 30, fun k hk => ?_⟩
  obtain ⟨c, rfl⟩ : ∃ c, k = c + 1 + n + 1 + 1 + B.length + 1 + 1 + A.length + 1 + 1 + 4 + 1 + n + 1 + 1 + B.length + 1 + 1 + A.length + 1 + 1 := ⟨k - (2 * (A.length + B.length + n) + 18), by omega⟩
  obtain ⟨A', a1, a2⟩ := w5_0 (B := B) (G := G) (n := n) A.length 0 A (c + 1 + n + 1 + 1 + B.length + 1 + 1 + A.length + 1 + 1 + 4 + 1 + n + 1 + 1 + B.length + 1 + 1) (by omega) (by omega)
  obtain ⟨B', b1, b2⟩ := w5_1 (A := A') (G := G) (n := n) B.length 0 B (c + 1 + n + 1 + 1 + B.length + 1 + 1 + A.length + 1 + 1 + 4 + 1 + n + 1 + 1) (by omega) (by omega)
  obtain ⟨G', g1, g2⟩ := w5_2 (A := A') (B := B') (n := n) n 0 G (c + 1 + n + 1 + 1 + B.length + 1 + 1 + A.length + 1 + 1 + 4 + 1) hG (by omega) (by omega)
  obtain ⟨G2, z1, z2, z3⟩ := mid9 (n := n) (A := A') (B := B') (G := G') (c + 1 + n + 1 + 1 + B.length + 1 + 1 + A.length + 1 + 1) (by rw [a1.1]; exact hA) (by rw [b1.1]; exact hB) hn (by rw [g1.1]; exact hG)
  have ra := r20_0 (n := n) (A := A') (B := B') (G := G2) (fun t ht => (a1.2 t (by rw [a1.1] at ht; exact ht)).1 (Nat.zero_le _)) (by rw [a1.1]; omega) A'.length 0 (c + 1 + n + 1 + 1 + B.length + 1 + 1) (by omega)
  have rb := r20_1 (n := n) (A := A') (B := B') (G := G2) (fun t ht => (b1.2 t (by rw [b1.1] at ht; exact ht)).1 (Nat.zero_le _)) (by rw [b1.1]; omega) B'.length 0 (c + 1 + n + 1 + 1) (by omega)
  have rg := r20_2 (n := n) (A := A') (B := B') (G := G2) (fun t ht => by rw [z2 t ht]; exact (g1.2 t ht).1 (Nat.zero_le _)) z1 (by omega) n 0 (c + 1) (by omega)
  rw [a1.1] at ra
  rw [b1.1] at rb
  refine ⟨A', B', G2, ?_⟩
  show L18_2 _ ((0, 3), 0, ()) _ = _
  rw [at2 _ (by decide)]
  refine a2.trans ?_
  rw [at2 _ (by decide)]
  refine b2.trans ?_
  rw [at2 _ (by decide)]
  refine g2.trans ?_
  refine (end2 _).trans ?_
  refine z3.trans ?_
  rw [at17 _ (by decide)]
  refine ra.trans ?_
  rw [at17 _ (by decide)]
  refine rb.trans ?_
  rw [at17 _ (by decide)]
  refine rg.trans ?_
  exact end17 _
end
end Go.Eng.Pu

/- ApartBytes of two lists. No condition. -/
set_option linter.unusedVariables false
namespace Go.Eng.Pu
open Go Go.Eng Go.Proofs
section
variable {n : Nat}
theorem v5_0 {G : List Int} : ∀ (d j : Nat) (A : List Int) (k : Nat), j + d = A.length → A.length ≤ 1000000000000000 → ∃ A', Wr 0 A.length j A A' ∧ L18p_5 (k + d + 1) ((0, 2), 0, (j : Int), ()) (((), (0, n), ()), A, G, ()) = L18p_2 k ((0, 2), 1, ()) (((), (0, n), ()), A', G, ())
  | 0, j, A, k, hj, hL => by
    refine ⟨A, ⟨rfl, fun t ht => ⟨fun h => by omega, fun _ => rfl⟩⟩, ?_⟩
    rw [L18p_5]
    refine (if_pos ⟨rfl, by decide, by decide⟩).trans ((if_pos rfl).trans ((if_neg (ndlt (show A.length ≤ j by omega))).trans ?_))
    rfl
  | d + 1, j, A, k, hj, hL => by
    have h : j < A.length := by omega
    have hw : IntKind.wrap IntKind.i64 ((j : Int) + (1 : Int)) = ((j + 1 : Nat) : Int) := add1 (by omega)
    obtain ⟨A', h1, h2⟩ := v5_0 d (j + 1) (A.set j (mk 0 (j : Int))) k (by rw [List.length_set]; omega) (by rw [List.length_set]; omega)
    refine ⟨A', Wr.step h (Nat.le_refl _) (by rw [List.length_set] at h1; exact h1), ?_⟩
    rw [← h2, show k + (d + 1) + 1 = (k + d + 1) + 1 by omega, L18p_5]
    refine (if_pos ⟨rfl, by decide, by decide⟩).trans ((if_pos rfl).trans ((if_pos (dlt h)).trans ((if_pos ⟨rfl, by decide, by decide⟩).trans ((if_pos rfl).trans (?_)))))
    refine bind_of (v := (mk 0 (j : Int), ())) rfl ((if_pos (inN h)).trans ((if_pos h).trans ?_))
    rw [hw]; rfl
theorem v5_1 {A : List Int} : ∀ (d j : Nat) (G : List Int) (k : Nat) (hn : n ≤ G.length), j + d = n → n ≤ 1000000000000000 → ∃ G', Wr 1 n j G G' ∧ L18p_5 (k + d + 1) ((0, 2), 1, (j : Int), ()) (((), (0, n), ()), A, G, ()) = L18p_2 k ((0, 2), 2, ()) (((), (0, n), ()), A, G', ())
  | 0, j, G, k, hn, hj, hL => by
    refine ⟨G, ⟨rfl, fun t ht => ⟨fun h => by omega, fun _ => rfl⟩⟩, ?_⟩
    rw [L18p_5]
    refine (if_pos ⟨rfl, by decide, by decide⟩).trans ((if_neg (by decide)).trans ((if_pos rfl).trans ((if_neg (ndlt (show n ≤ j by omega))).trans ?_)))
    rfl
  | d + 1, j, G, k, hn, hj, hL => by
    have h : j < n := by omega
    have hw : IntKind.wrap IntKind.i64 ((j : Int) + (1 : Int)) = ((j + 1 : Nat) : Int) := add1 (by omega)
    obtain ⟨G', h1, h2⟩ := v5_1 d (j + 1) (G.set j (mk 1 (j : Int))) k (by rw [List.length_set]; exact hn) (by omega) (by omega)
    refine ⟨G', Wr.step h hn h1, ?_⟩
    rw [← h2, show k + (d + 1) + 1 = (k + d + 1) + 1 by omega, L18p_5]
    refine (if_pos ⟨rfl, by decide, by decide⟩).trans ((if_neg (by decide)).trans ((if_pos rfl).trans ((if_pos (dlt h)).trans ((if_pos ⟨rfl, by decide, by decide⟩).trans ((if_neg (by decide)).trans ((if_pos rfl).trans (?_)))))))
    refine bind_of (v := (mk 1 (j : Int), ())) rfl ((if_pos (inN h)).trans ((if_pos (show 0 + j < G.length by omega)).trans ?_))
    rw [hw]
    show L18p_5 _ _ (((), (0, n), ()), A, List.set G (0 + j) (mk 1 (j : Int)), ()) = _
    rw [Nat.zero_add]
theorem s20_0 {A G : List Int} (hr : ∀ t, t < A.length → A.getD t 0 = mk 0 (t : Int)) (hL : A.length ≤ 1000000000000000) : ∀ (d j k : Nat), j + d = A.length → L18p_20 (k + d + 1) ((0, 2), 0, (j : Int), ()) (((), (0, n), ()), A, G, ()) = L18p_17 k ((0, 2), 1, ()) (((), (0, n), ()), A, G, ())
  | 0, j, k, hj => by
    rw [L18p_20]
    refine (if_pos ⟨rfl, by decide, by decide⟩).trans ((if_pos rfl).trans ((if_neg (ndlt (show A.length ≤ j by omega))).trans ?_))
    rfl
  | d + 1, j, k, hj => by
    have h : j < A.length := by omega
    have hw : IntKind.wrap IntKind.i64 ((j : Int) + (1 : Int)) = ((j + 1 : Nat) : Int) := add1 (by omega)
    have h2 := s20_0 (A := A) (G := G) hr hL d (j + 1) k (by omega)
    rw [← h2, show k + (d + 1) + 1 = (k + d + 1) + 1 by omega, L18p_20]
    refine (if_pos ⟨rfl, by decide, by decide⟩).trans ((if_pos rfl).trans ((if_pos (dlt h)).trans ((if_pos ⟨rfl, by decide, by decide⟩).trans ((if_pos rfl).trans ((if_pos (inN h)).trans ((if_pos h).trans ?_))))))
    refine bind_of (v := (mk 0 (j : Int), ())) rfl ((if_neg (nd_t ?_)).trans ?_)
    · exact hr j h
    · rw [hw]
theorem s20_1 {A G : List Int} (hr : ∀ t, t < n → G.getD t 0 = mk 1 (t : Int)) (hn : n ≤ G.length) (hL : n ≤ 1000000000000000) : ∀ (d j k : Nat), j + d = n → L18p_20 (k + d + 1) ((0, 2), 1, (j : Int), ()) (((), (0, n), ()), A, G, ()) = L18p_17 k ((0, 2), 2, ()) (((), (0, n), ()), A, G, ())
  | 0, j, k, hj => by
    rw [L18p_20]
    refine (if_pos ⟨rfl, by decide, by decide⟩).trans ((if_neg (by decide)).trans ((if_pos rfl).trans ((if_neg (ndlt (show n ≤ j by omega))).trans ?_)))
    rfl
  | d + 1, j, k, hj => by
    have h : j < n := by omega
    have hw : IntKind.wrap IntKind.i64 ((j : Int) + (1 : Int)) = ((j + 1 : Nat) : Int) := add1 (by omega)
    have h2 := s20_1 (A := A) (G := G) hr hn hL d (j + 1) k (by omega)
    rw [← h2, show k + (d + 1) + 1 = (k + d + 1) + 1 by omega, L18p_20]
    refine (if_pos ⟨rfl, by decide, by decide⟩).trans ((if_neg (by decide)).trans ((if_pos rfl).trans ((if_pos (dlt h)).trans ((if_pos ⟨rfl, by decide, by decide⟩).trans ((if_neg (by decide)).trans ((if_pos rfl).trans ((if_pos (inN h)).trans ((if_pos (show 0 + j < G.length by omega)).trans ?_))))))))
    refine bind_of (v := (mk 1 (j : Int), ())) rfl ((if_neg (nd_t ?_)).trans ?_)
    · show G.getD (0 + j) 0 = _
      rw [Nat.zero_add]; exact hr j h
    · rw [hw]
theorem end17p {A G : List Int} (k : Nat) : L18p_17 (k + 1) ((0, 2), 2, ()) (((), (0, n), ()), A, G, ()) = some (true, ((), (0, n), ()), A, G, ()) := by
  rw [L18p_17]; exact if_neg (by decide)
theorem at17p {A G : List Int} (k : Nat) {i : Int} (h : i < 2) : L18p_17 (k + 1) ((0, 2), i, ()) (((), (0, n), ()), A, G, ()) = L18p_20 k ((0, 2), i, 0, ()) (((), (0, n), ()), A, G, ()) := by
  rw [L18p_17]; exact if_pos (decide_eq_true h)
theorem at2p {A G : List Int} (k : Nat) {i : Int} (h : i < 2) : L18p_2 (k + 1) ((0, 2), i, ()) (((), (0, n), ()), A, G, ()) = L18p_5 k ((0, 2), i, 0, ()) (((), (0, n), ()), A, G, ()) := by
  rw [L18p_2]; exact if_pos (decide_eq_true h)
theorem end2p {A G : List Int} (k : Nat) : L18p_2 (k + 1) ((0, 2), 2, ()) (((), (0, n), ()), A, G, ()) = L18p_9 k ((0, 2), 0, ()) (((), (0, n), ()), A, G, ()) := by
  rw [L18p_2]; exact if_neg (by decide)
theorem mid9p {A G : List Int} (k : Nat) (hA : A.length ≤ 140737488351232) (hn : n ≤ 140737488351232) (hG : n ≤ G.length) : ∃ G', n ≤ G'.length ∧ (∀ t, t < n → G'.getD t 0 = G.getD t 0) ∧
    L18p_9 (k + 3) ((0, 2), 0, ()) (((), (0, n), ()), A, G, ()) = L18p_17 k ((0, 2), 0, ()) (((), (0, n), ()), A, G', ()) := by
  refine ⟨List.take (0 + n) G ++ (List.replicate (min 40 (G.length - (0 + n))) (254 : Int) ++ List.drop (0 + n + 40) G), ?_, ?_, ?_⟩
  rotate_right
  · rw [L18p_9]
    refine (if_pos (by decide)).trans ((if_pos ⟨rfl, by decide, by decide⟩).trans ((if_pos rfl).trans ((if_pos (by omega)).trans ?_)))
    rw [w1, L18p_9]
    refine (if_pos (by decide)).trans ((if_pos ⟨rfl, by decide, by decide⟩).trans ((if_neg (by decide)).trans ((if_pos rfl).trans ((if_pos (by omega)).trans ?_))))
    rw [w2, L18p_9]
    exact if_neg (by decide)
  · rw [Nat.zero_add, List.length_append, List.length_take]; omega
  · intro t ht
    rw [Nat.zero_add, List.getD_eq_getElem?_getD, List.getElem?_append_left (by rw [List.length_take]; omega), List.getElem?_take, if_pos ht, ← List.getD_eq_getElem?_getD]
theorem apart2_ok {A G : List Int} (hA : A.length ≤ 140737488351232) (hn : n ≤ 140737488351232) (hG : n ≤ G.length) : ∃ K, ∀ k, K ≤ k → ∃ A' G', F18p k ((0, 2), ()) (((), (0, n), ()), A, G, ()) = some (true, ((), (0, n), ()), A', G', ()) := by
  refine ⟨2 * (A.length + n) + 30, fun k hk => ?_⟩
  obtain ⟨c, rfl⟩ : ∃ c, k = c + 1 + n + 1 + 1 + A.length + 1 + 1 + 3 + 1 + n + 1 + 1 + A.length + 1 + 1 := ⟨k - (2 * (A.length + n) + 13), by omega⟩
  obtain ⟨A', a1, a2⟩ := v5_0 (G := G) (n := n) A.length 0 A (c + 1 + n + 1 + 1 + A.length + 1 + 1 + 3 + 1 + n + 1 + 1) (by omega) (by omega)
  obtain ⟨G', g1, g2⟩ := v5_1 (A := A') (n := n) n 0 G (c + 1 + n + 1 + 1 + A.length + 1 + 1 + 3 + 1) hG (by omega) (by omega)
  obtain ⟨G2, z1, z2, z3⟩ := mid9p (n := n) (A := A') (G := G') (c + 1 + n + 1 + 1 + A.length + 1 + 1) (by rw [a1.1]; exact hA) hn (by rw [g1.1]; exact hG)
  have ra := s20_0 (n := n) (A := A') (G := G2) (fun t ht => (a1.2 t (by rw [a1.1] at ht; exact ht)).1 (Nat.zero_le _)) (by rw [a1.1]; omega) A'.length 0 (c + 1 + n + 1 + 1) (by omega)
  have rg := s20_1 (n := n) (A := A') (G := G2) (fun t ht => by rw [z2 t ht]; exact (g1.2 t ht).1 (Nat.zero_le _)) z1 (by omega) n 0 (c + 1) (by omega)
  rw [a1.1] at ra
  refine ⟨A', G2, ?_⟩
  show L18p_2 _ ((0, 2), 0, ()) _ = _
  rw [at2p _ (by decide)]
  refine a2.trans ?_
  rw [at2p _ (by decide)]
  refine g2.trans ?_
  refine (end2p _).trans ?_
  refine z3.trans ?_
  rw [at17p _ (by decide)]
  refine ra.trans ?_
  rw [at17p _ (by decide)]
  refine rg.trans ?_
  exact end17p _
end
end Go.Eng.Pu

/- PunctureCuts, plain. No condition. -/
set_option linter.unusedVariables false
namespace Go.Eng.Pu
open Go Go.Eng Go.Proofs
theorem marks_at : ∀ i : Nat, i < 8 → (marks 0 8).getD i 0 = 200 + (i : Int) := by decide
theorem marks_len : (marks 0 8).length = 8 := rfl
theorem lent_at {w : List Int} {i : Nat} (hi : i < 8) : (w ++ marks 0 8).getD (w.length + i) 0 = 200 + (i : Int) := by
  rw [← marks_at i hi, List.getD_eq_getElem?_getD, List.getD_eq_getElem?_getD, List.getElem?_append_right (by omega)]
  congr 2; omega
theorem stays_loop {w : List Int} (hw : w.length ≤ 140737488351232) : ∀ (d i k : Nat), i + d = 8 → L17_3 (k + d + 1) (w, (0, w.length + 8), (i : Int), ()) (w ++ marks 0 8, ()) = some (true, w ++ marks 0 8, ())
  | 0, i, k, hi => by
    have hlen : (w ++ marks 0 8).length = w.length + 8 := by rw [List.length_append, marks_len]
    rw [L17_3]
    refine (if_neg (fun h => absurd (of_decide_eq_true h) (show ¬ ((i : Int) < 8) by omega))).trans ((if_pos (by rw [hlen]; omega)).trans ((if_pos (by rw [hlen]; omega)).trans ?_))
    have e : List.take (Int.toNat (w.length : Int) - 0) (List.drop (0 + 0) (w ++ marks 0 8)) = w := by
      show List.take w.length (w ++ marks 0 8) = w
      rw [List.take_left' rfl]
    rw [e]
    refine (if_pos (by omega)).trans ((if_pos (by omega)).trans ?_)
    rw [decide_eq_true rfl]
  | d + 1, i, k, hi => by
    have hlen : (w ++ marks 0 8).length = w.length + 8 := by rw [List.length_append, marks_len]
    have h1 : IntKind.wrap IntKind.i64 ((w.length : Int) + (i : Int)) = ((w.length + i : Nat) : Int) := by rw [wi (by omega) (by omega)]; omega
    have h2 : IntKind.wrap IntKind.i64 ((i : Int) + (1 : Int)) = ((i + 1 : Nat) : Int) := add1 (by omega)
    have h3 : IntKind.wrap IntKind.u8 (IntKind.wrap IntKind.i64 ((200 : Int) + (i : Int))) = 200 + (i : Int) := by rw [wi (by omega) (by omega), wu8 (by omega) (by omega)]
    rw [show k + (d + 1) + 1 = (k + d + 1) + 1 by omega, L17_3, h1, h2, h3]
    refine (if_pos (decide_eq_true (show (i : Int) < 8 by omega))).trans ((if_pos (by omega)).trans ((if_pos (by rw [hlen]; show 0 + (w.length + i) < _; omega)).trans ((if_neg (nd_t ?_)).trans ?_)))
    · show (w ++ marks 0 8).getD (0 + (w.length + i)) 0 = _
      rw [Nat.zero_add]; exact lent_at (by omega)
    · exact stays_loop hw d (i + 1) k (by omega)
theorem stays_ok {w : List Int} (hw : w.length ≤ 140737488351232) (k : Nat) : F17 (k + 9) ((0, w.length), w, ()) (w ++ marks 0 8, ()) = some (true, w ++ marks 0 8, ()) := by
  have hlen : (w ++ marks 0 8).length = w.length + 8 := by rw [List.length_append, marks_len]
  have h1 : IntKind.wrap IntKind.i64 ((w.length : Int) + (8 : Int)) = ((w.length + 8 : Nat) : Int) := by rw [wi (by omega) (by omega)]; omega
  simp only [F17]
  rw [h1]
  refine (if_pos (by rw [hlen]; omega)).trans ((if_pos (by rw [hlen]; omega)).trans ?_)
  exact stays_loop hw 8 0 k rfl
theorem keep42' {per : Int} {keep : List Int} (h : Pat per keep) {r k : Nat} (hr0 : 0 < r) (hr : r ≤ 3) (hk : k ≤ 9223372036854775807) : F42 ((per, keep, ()), Int.tmod (k : Int) (r : Int), IntKind.wrap IntKind.i64 (Int.tdiv (k : Int) (r : Int)), ()) () = some (kat per keep r k, ()) := by
  have h1 := Nat.mod_lt k hr0
  have h2 := Nat.div_le_self k r
  rw [tdiv_nat, tmod_nat]
  unfold kat
  generalize k / r = q at *
  generalize k % r = m at *
  rw [wi (by omega) (by omega)]
  exact keep42 h (by omega) (by omega) (by omega)
theorem loop14 {per : Int} {keep : List Int} (h : Pat per keep) {r : Nat} (hr0 : 0 < r) (hr : r ≤ 3) {K : Nat} : ∀ (l2 l1 acc : List Int) (k : Nat) (_ : acc.length ≤ l1.length) (_ : l1.length + l2.length ≤ 140737488355328),
    L14_8 K (k + l2.length + 1) ((r : Int), l1 ++ l2, (), (), (l1.length : Int), ()) ((per, keep, ()), acc, ()) = some (((), 0, ()), acc ++ picks per keep r l2 l1.length, ()) := by
  intro l2
  induction l2 with
  | nil =>
    intro l1 acc k ha hl
    rw [L14_8, if_neg (by simp)]; simp [picks]
  | cons x l2 ih =>
    intro l1 acc k ha hl
    simp only [List.length_cons] at hl
    have ih' := ih (l1 ++ [x])
    rw [show (l1 ++ [x]) ++ l2 = l1 ++ x :: l2 by simp, show ((l1 ++ [x]).length : Int) = (l1.length : Int) + 1 by simp, show (l1 ++ [x]).length = l1.length + 1 by simp] at ih'
    rw [show k + (x :: l2).length + 1 = (k + l2.length + 1) + 1 by simp; omega, L14_8]
    have e1 : IntKind.wrap IntKind.i64 ((l1.length : Int) + 1) = (l1.length : Int) + 1 := wi (by omega) (by omega)
    have hr' : ¬ (r : Int) = 0 := by omega
    rw [if_pos (show decide ((l1.length : Int) < ((l1 ++ x :: l2).length : Int)) = true by simp; omega), if_neg hr', if_neg hr', keep42' h hr0 hr (by omega), e1]
    simp only [Option.bind_some]
    split
    · rename_i hk
      rw [if_pos (show (0 : Int) ≤ (l1.length : Int) ∧ (l1.length : Int) < ((l1 ++ x :: l2).length : Int) by simp; omega), if_pos (show (acc.length + 1) * 1 ≤ 140737488355328 by omega), ih' _ _ (by simp; omega) (by omega)]
      simp [picks, hk]
    · rename_i hk
      rw [ih' _ _ (by omega) (by omega)]
      simp [picks, hk]
theorem picks_le (per : Int) (keep : List Int) (r : Nat) : ∀ (l : List Int) (k : Nat), (picks per keep r l k).length ≤ l.length
  | [], k => Nat.le_refl _
  | x :: l, k => by
    have := picks_le per keep r l (k + 1)
    simp only [picks, List.length_append, List.length_cons]
    split <;> simp <;> omega
/-- What both cuts come to. -/
theorem cut2_ok {per x y z rate : Int} (hx : 0 ≤ x ∧ x < 18446744073709551616) (hy : 0 ≤ y ∧ y < 18446744073709551616) (hz : 0 ≤ z ∧ z < 18446744073709551616) {l : List Int} (hl : l.length ≤ 140737488351232) :
    ∃ (e : Int) (c : List Int) (K : Nat), c.length ≤ l.length ∧ ∀ k, K ≤ k → F13 k ((per, [x, y, z], ()), rate, l, ()) () = some (((), e, ()), c, ()) ∧ F14 k ((per, [x, y, z], ()), rate, l, ()) () = some (((), e, ()), c, ()) := by
  have e28 := fun (k : Nat) (hk : 10 ≤ k) => by have := chk28 (per := per) (rate := rate) hx hy hz (k - 6); rwa [show k - 6 + 6 = k by omega] at this
  have e29 := fun (k : Nat) (hk : 10 ≤ k) => by have := chk29 (per := per) (rate := rate) hx hy hz (k - 5); rwa [show k - 5 + 5 = k by omega] at this
  by_cases hc : chk per x y z rate = 0
  · obtain ⟨hp, hr⟩ := chk_pat hx hy hz hc
    obtain ⟨r, rfl, hr0, hr3⟩ := rate_cases hr
    have hr' : ¬ (r : Int) = 0 := by omega
    by_cases hd : l.length % r = 0
    · obtain ⟨K, h13⟩ := cut_ok hx hy hz hr0 hr3 hc (l := l) (by omega) hd
      refine ⟨0, picks per [x, y, z] r l 0, K + l.length + 10, picks_le _ _ _ _ _, fun k hk => ⟨h13 k (by omega), ?_⟩⟩
      simp only [F14]
      rw [e29 k (by omega), hc]
      simp only [Option.bind_some, decide_true, if_true, Bool.not_true, Bool.false_eq_true, if_false]
      rw [if_neg hr', tmod_nat, hd]
      have := loop14 hp hr0 hr3 (K := k) l [] [] (k - l.length - 1) (Nat.le_refl _) (by simp; omega)
      rw [show k - l.length - 1 + l.length + 1 = k by omega] at this
      simpa using this
    · refine ⟨5, [], 10, Nat.zero_le _, fun k hk => ?_⟩
      have hd' : ¬ ((l.length % r : Nat) : Int) = 0 := by omega
      constructor
      · simp only [F13]
        rw [e28 k hk, hc]
        simp only [Option.bind_some, decide_true, Bool.not_true, Bool.false_eq_true, if_false]
        rw [if_neg hr', tmod_nat]
        exact if_pos (by rw [decide_eq_false hd']; rfl)
      · simp only [F14]
        rw [e29 k hk, hc]
        simp only [Option.bind_some, decide_true, if_true, Bool.not_true, Bool.false_eq_true, if_false]
        rw [if_neg hr', tmod_nat]
        exact if_pos (by rw [decide_eq_false hd']; rfl)
  · refine ⟨chk per x y z rate, [], 10, Nat.zero_le _, fun k hk => ?_⟩
    constructor
    · simp only [F13]
      rw [e28 k hk]
      simp [hc]
    · simp only [F14]
      rw [e29 k hk]
      simp [hc]
theorem cuts {per x y z rate : Int} (hx : 0 ≤ x ∧ x < 18446744073709551616) (hy : 0 ≤ y ∧ y < 18446744073709551616) (hz : 0 ≤ z ∧ z < 18446744073709551616) {l : List Int} (hl : l.length ≤ 140737488351232) :
    ∃ k, F3 k ((per, [x, y, z], ()), rate, l, ()) () = some (true, ()) := by
  obtain ⟨e, c, K1, hcl, h1⟩ := cut2_ok (per := per) (rate := rate) hx hy hz hl
  have hlen : (l ++ marks 0 8).length = l.length + 8 := by rw [List.length_append, marks_len]
  obtain ⟨K2, h2⟩ := apart_ok (n := l.length) (A := c) (B := c) (G := l ++ marks 0 8) (by omega) (by omega) (by omega) (by omega)
  refine ⟨K1 + K2 + 40, ?_⟩
  obtain ⟨A', B', G', h18⟩ := h2 (K1 + K2 + 40) (by omega)
  obtain ⟨h13, h14⟩ := h1 (K1 + K2 + 40) (by omega)
  have h12 := lent_ok hl (K1 + K2 + 31)
  have h17 := stays_ok hl (K1 + K2 + 31)
  have h19 := live_ok (K1 + K2 + 10)
  rw [show K1 + K2 + 31 + 9 = K1 + K2 + 40 by omega] at h12 h17
  rw [show K1 + K2 + 10 + 30 = K1 + K2 + 40 by omega] at h19
  generalize K1 + K2 + 40 = k at *
  have et : List.take l.length (List.drop 0 (l ++ marks 0 8)) = l := by rw [List.drop_zero, List.take_left' rfl]
  have h16 : F16 (c, c, ()) () = some (true, ()) := by
    simp only [F16]
    rw [if_pos (by omega), if_pos (by omega), decide_true]
  simp only [F3]
  have h13' : F13 k ((per, [x, y, z], ()), rate, List.take l.length (List.drop 0 (l ++ marks 0 8)), ()) () = some (((), e, ()), c, ()) := by rw [et]; exact h13
  refine bind_of h12 ?_
  refine bind_of h13' ?_
  refine bind_of h13' ?_
  refine bind_of h14 ?_
  refine bind_of (v := (e, ())) rfl ?_
  refine (if_pos (decide_eq_true rfl)).trans ?_
  refine bind_of h16 ?_
  refine (if_pos rfl).trans ?_
  refine bind_of h16 ?_
  refine (if_pos rfl).trans ?_
  refine bind_of h17 ?_
  refine (if_pos rfl).trans ?_
  refine bind_of h18 ?_
  refine (if_pos rfl).trans ?_
  exact bind_of h19 rfl
end Go.Eng.Pu

/- PunctureFills, plain. No condition. -/
set_option linter.unusedVariables false
namespace Go.Eng.Pu
open Go Go.Eng Go.Proofs
theorem loop16 {per : Int} {keep : List Int} (h : Pat per keep) {r S : Nat} (hr0 : 0 < r) (hr : r ≤ 3) (hS : S ≤ 1055) {lv : Int} (l0 : 0 ≤ lv) (l1 : lv ≤ 255) {K : Nat} : ∀ (n k0 : Nat) (acc w1 w2 : List Int) (kk : Nat) (_ : k0 + n = r * S) (_ : acc.length = k0) (_ : w1.length + w2.length ≤ 1000000) (_ : cntF per keep r (k0 + n) = cntF per keep r k0 + w2.length),
    L21_16 K (kk + n + 1) ((r : Int), lv, (S : Int), w1 ++ w2, (), (), (w1.length : Int), (k0 : Int), ()) ((per, keep, ()), acc, ()) = some (((), 0, ()), acc ++ fills per keep r lv n k0 w2, ()) := by
  have hrS : r * S ≤ 3165 := by have := Nat.mul_le_mul hr hS; omega
  have e0 : IntKind.wrap IntKind.i64 ((r : Int) * (S : Int)) = ((r * S : Nat) : Int) := by rw [← Int.natCast_mul]; exact wi (by omega) (by omega)
  intro n
  induction n with
  | zero =>
    intro k0 acc w1 w2 kk hp ha hw hcn
    rw [L21_16, e0]
    refine (if_neg (ndlt (by omega))).trans ?_
    simp [fills]
  | succ n ih =>
    intro k0 acc w1 w2 kk hp ha hw hcn
    have hr' : ¬ (r : Int) = 0 := by omega
    have e1 : IntKind.wrap IntKind.i64 ((k0 : Int) + (1 : Int)) = ((k0 + 1 : Nat) : Int) := add1 (by omega)
    have e2 : IntKind.wrap IntKind.i64 ((w1.length : Int) + (1 : Int)) = ((w1.length + 1 : Nat) : Int) := add1 (by omega)
    rw [show kk + (n + 1) + 1 = (kk + n + 1) + 1 by omega, L21_16, e0, e1, e2, wu8 l0 l1]
    rw [show k0 + (n + 1) = (k0 + 1) + n by omega] at hcn
    refine (if_pos (dlt (by omega))).trans ((if_neg hr').trans ((if_neg hr').trans ?_))
    refine bind_of (keep42' h hr0 hr (by omega)) ?_
    by_cases hk : kat per keep r k0 = true
    · have hc1 : cntF per keep r (k0 + 1) = cntF per keep r k0 + 1 := by simp only [cntF]; rw [if_pos hk]
      have hmono := cntF_mono per keep r (k0 + 1) n
      match w2, hcn, hw with
      | [], hcn, hw => simp at hcn; omega
      | a :: w2, hcn, hw =>
        simp only [List.length_cons] at hcn hw
        have ih' := ih (k0 + 1) (acc ++ [a]) (w1 ++ [a]) w2 kk (by omega) (by simp; omega) (by simp; omega) (by omega)
        rw [show (w1 ++ [a]) ++ w2 = w1 ++ a :: w2 by simp, show (w1 ++ [a]).length = w1.length + 1 by simp] at ih'
        refine (if_pos hk).trans ((if_pos (inN (show w1.length < (w1 ++ a :: w2).length by simp))).trans ((if_pos (show (acc.length + 1) * 1 ≤ 140737488355328 by omega)).trans ?_))
        have hget : List.getD (w1 ++ a :: w2) (Int.toNat (w1.length : Int)) 0 = a := by rw [Int.toNat_natCast]; simp [List.getD_eq_getElem?_getD]
        rw [hget, ih']
        simp [fills, hk]
    · have hc1 : cntF per keep r (k0 + 1) = cntF per keep r k0 := by simp only [cntF]; rw [if_neg hk]; rfl
      have ih' := ih (k0 + 1) (acc ++ [lv]) w1 w2 kk (by omega) (by simp; omega) hw (by omega)
      refine (if_neg hk).trans ((if_pos (show (acc.length + 1) * 1 ≤ 140737488355328 by omega)).trans ?_)
      rw [ih']
      simp [fills, hk]
theorem loop219 {per : Int} {keep : List Int} {r : Nat} {lv : Int} {S : Nat} {w : List Int} (hw8 : ∀ x ∈ w, 0 ≤ x ∧ x ≤ 255) (hwl : w.length ≤ 1000000) {K : Nat} : ∀ (l2 p2 : List Int) (kk : Nat) (_ : w = p2 ++ l2),
    L21_9 K (kk + l2.length + 1) ((r : Int), lv, (S : Int), w, (), (p2.length : Int), ()) ((per, keep, ()), ()) =
      if (∀ x ∈ l2, x < lv) then L21_16 K kk ((r : Int), lv, (S : Int), w, (), (), 0, 0, ()) ((per, keep, ()), [], ()) else some (((), 91, ()), [], ()) := by
  intro l2
  induction l2 with
  | nil =>
    intro p2 kk hw
    subst hw
    rw [if_pos (by simp), show kk + ([] : List Int).length + 1 = kk + 1 from rfl, L21_9, if_neg (by simp)]
  | cons x l2 ih =>
    intro p2 kk hw
    have ih' := ih (p2 ++ [x]) kk (by simp [hw])
    simp only [List.length_append, List.length_singleton, Int.natCast_add, Int.natCast_one] at ih'
    have hlen : w.length = p2.length + (l2.length + 1) := by rw [hw]; simp
    have hx := hw8 x (by rw [hw]; simp)
    have hget : List.getD w p2.length 0 = x := by rw [hw]; simp [List.getD_eq_getElem?_getD]
    rw [show kk + (x :: l2).length + 1 = (kk + l2.length + 1) + 1 by simp; omega, L21_9, if_pos (show decide ((p2.length : Int) < (w.length : Int)) = true by simp; omega), if_pos (show (0 : Int) ≤ (p2.length : Int) ∧ (p2.length : Int) < (w.length : Int) by omega), Int.toNat_natCast, hget, wi (n := x) (by omega) (by omega), wi (n := (p2.length : Int) + 1) (by omega) (by omega)]
    by_cases hlt : x < lv
    · rw [if_neg (show ¬ decide (lv ≤ x) = true by simp; omega), ih']
      by_cases ha : ∀ y ∈ l2, y < lv
      · rw [if_pos ha, if_pos (by simpa [hlt] using ha)]
      · rw [if_neg ha, if_neg (by simpa [hlt] using ha)]
    · rw [if_pos (show decide (lv ≤ x) = true by simp; omega), if_neg (by simp [hlt])]
/-- What both fills come to. -/
theorem fill2_ok {per x y z rate lv steps : Int} {w : List Int} (hx : 0 ≤ x ∧ x < 18446744073709551616) (hy : 0 ≤ y ∧ y < 18446744073709551616) (hz : 0 ≤ z ∧ z < 18446744073709551616) (hw8 : ∀ x ∈ w, 0 ≤ x ∧ x ≤ 255) :
    ∃ (e : Int) (c : List Int) (K : Nat), c.length ≤ 1000000 ∧ ∀ k, K ≤ k → F20 k ((per, [x, y, z], ()), rate, lv, steps, w, ()) () = some (((), e, ()), c, ()) ∧ F21 k ((per, [x, y, z], ()), rate, lv, steps, w, ()) () = some (((), e, ()), c, ()) := by
  have e28 := fun (k : Nat) (hk : 10 ≤ k) => by have := chk28 (per := per) (rate := rate) hx hy hz (k - 6); rwa [show k - 6 + 6 = k by omega] at this
  have e29 := fun (k : Nat) (hk : 10 ≤ k) => by have := chk29 (per := per) (rate := rate) hx hy hz (k - 5); rwa [show k - 5 + 5 = k by omega] at this
  by_cases hc : chk per x y z rate = 0
  · by_cases hb : lv < 2 ∨ 15 < lv ∨ steps < 0 ∨ 1055 < steps
    · refine ⟨1, [], 10, Nat.zero_le _, fun k hk => ?_⟩
      simp only [F20, F21]
      rw [e28 k hk, e29 k hk, hc]
      simp only [Option.bind_some, decide_true, Bool.not_true, Bool.false_eq_true, if_false]
      by_cases h1 : lv < 2
      · simp [h1]
      · by_cases h2 : 15 < lv
        · simp [h1, h2]
        · by_cases h3 : steps < 0
          · simp [h1, h2, h3]
          · have h4 : 1055 < steps := by omega
            simp [h1, h2, h3, h4]
    · obtain ⟨hp, hr⟩ := chk_pat hx hy hz hc
      obtain ⟨r, rfl, hr0, hr3⟩ := rate_cases hr
      obtain ⟨S, rfl⟩ := Int.eq_ofNat_of_zero_le (show 0 ≤ steps by omega)
      obtain ⟨K1, h1⟩ := count_ok hp hr3 (S := S) (by omega)
      obtain ⟨K2, h2⟩ := sent_ok hp hr3 (S := S) (by omega)
      have b1 : ¬ lv < 2 := by omega
      have b2 : ¬ 15 < lv := by omega
      have b3 : ¬ (S : Int) < 0 := by omega
      have b4 : ¬ 1055 < (S : Int) := by omega
      have hrS : r * S ≤ 3165 := by have := Nat.mul_le_mul hr3 (show S ≤ 1055 by omega); omega
      have hb3 := tot3 (per := per) (keep := [x, y, z]) hr3 (s := S) (by omega)
      have head : ∀ k, K1 + 10 ≤ k → F20 k ((per, [x, y, z], ()), (r : Int), lv, (S : Int), w, ()) () = if (!decide ((w.length : Int) = tot per [x, y, z] r S)) = true then some (((), 5, ()), [], ()) else L20_9 k k ((r : Int), lv, (S : Int), w, (), w, (w.length : Int), 0, ()) ((per, [x, y, z], ()), ()) := fun k hk => by
        simp only [F20]
        rw [e28 k (by omega), hc, h1 k (by omega)]
        simp [b1, b2, b3, b4]
      have head2 : ∀ k, K2 + 10 ≤ k → F21 k ((per, [x, y, z], ()), (r : Int), lv, (S : Int), w, ()) () = if (!decide ((w.length : Int) = tot per [x, y, z] r S)) = true then some (((), 5, ()), [], ()) else L21_9 k k ((r : Int), lv, (S : Int), w, (), 0, ()) ((per, [x, y, z], ()), ()) := fun k hk => by
        simp only [F21]
        rw [e29 k (by omega), hc, h2 k (by omega)]
        simp [b1, b2, b3, b4]
      by_cases hn : (w.length : Int) = tot per [x, y, z] r S
      · have hwl : w.length ≤ 1000000 := by
          have := tot_le per [x, y, z] r S
          have e : ((r * S : Nat) : Int) = (r : Int) * S := Int.natCast_mul r S
          omega
        have h9 := fun K kk => loop9 (per := per) (keep := [x, y, z]) hr3 (lv := lv) (S := S) (by omega) hw8 hwl (K := K) w [] kk rfl
        have h9' := fun K kk => loop219 (per := per) (keep := [x, y, z]) (r := r) (lv := lv) (S := S) hw8 hwl (K := K) w [] kk rfl
        by_cases hlv : ∀ v ∈ w, v < lv
        · refine ⟨0, fills per [x, y, z] r lv (r * S) 0 w, K1 + K2 + 20 + w.length + r * S, by rw [fills_len]; omega, fun k hk => ⟨?_, ?_⟩⟩
          · rw [head k (by omega), if_neg (by simp [hn])]
            have := h9 k (k - w.length - 1)
            rw [show k - w.length - 1 + w.length + 1 = k by omega, if_pos hlv] at this
            refine this.trans ?_
            have h18 := loop18 hp hr0 hr3 (lv := lv) (by omega) (by omega) (K := k) (r * S) [] [] w (k - w.length - 1 - r * S - 1) (by simpa using (by omega : r * S ≤ 1000000)) (by simpa using hwl) (by
              have := cntF_tot per [x, y, z] hr0 S
              simp only [List.length_nil, Nat.zero_add]
              simp only [cntF]; omega)
            rw [show k - w.length - 1 - r * S - 1 + r * S + 1 = k - w.length - 1 by omega] at h18
            simpa using h18
          · rw [head2 k (by omega), if_neg (by simp [hn])]
            have := h9' k (k - w.length - 1)
            rw [show k - w.length - 1 + w.length + 1 = k by omega, if_pos hlv] at this
            refine this.trans ?_
            have h16 := loop16 hp hr0 hr3 (S := S) (by omega) (lv := lv) (by omega) (by omega) (K := k) (r * S) 0 [] [] w (k - w.length - 1 - r * S - 1) (Nat.zero_add _) rfl (by simpa using hwl) (by
              have := cntF_tot per [x, y, z] hr0 S
              simp only [Nat.zero_add]
              simp only [cntF]; omega)
            rw [show k - w.length - 1 - r * S - 1 + r * S + 1 = k - w.length - 1 by omega] at h16
            simpa using h16
        · refine ⟨91, [], K1 + K2 + 20 + w.length, Nat.zero_le _, fun k hk => ⟨?_, ?_⟩⟩
          · rw [head k (by omega), if_neg (by simp [hn])]
            have := h9 k (k - w.length - 1)
            rw [show k - w.length - 1 + w.length + 1 = k by omega, if_neg hlv] at this
            exact this
          · rw [head2 k (by omega), if_neg (by simp [hn])]
            have := h9' k (k - w.length - 1)
            rw [show k - w.length - 1 + w.length + 1 = k by omega, if_neg hlv] at this
            exact this
      · refine ⟨5, [], K1 + K2 + 10, Nat.zero_le _, fun k hk => ⟨?_, ?_⟩⟩
        · rw [head k (by omega), if_pos (by simp [hn])]
        · rw [head2 k (by omega), if_pos (by simp [hn])]
  · refine ⟨chk per x y z rate, [], 10, Nat.zero_le _, fun k hk => ?_⟩
    simp only [F20, F21]
    rw [e28 k hk, e29 k hk]
    simp [hc]
theorem all_fills {per x y z rate lv steps : Int} {w : List Int} (hx : 0 ≤ x ∧ x < 18446744073709551616) (hy : 0 ≤ y ∧ y < 18446744073709551616) (hz : 0 ≤ z ∧ z < 18446744073709551616) (hw8 : ∀ x ∈ w, 0 ≤ x ∧ x ≤ 255) (hl : w.length ≤ 140737488351232) :
    ∃ k, F4 k ((per, [x, y, z], rate, lv, steps, w, ()), ()) () = some (true, ()) := by
  obtain ⟨e, c, K1, hcl, h1⟩ := fill2_ok (per := per) (rate := rate) (lv := lv) (steps := steps) hx hy hz hw8
  have hlen : (w ++ marks 0 8).length = w.length + 8 := by rw [List.length_append, marks_len]
  obtain ⟨K2, h2⟩ := apart_ok (n := w.length) (A := c) (B := c) (G := w ++ marks 0 8) (by omega) (by omega) (by omega) (by omega)
  refine ⟨K1 + K2 + 40, ?_⟩
  obtain ⟨A', B', G', h18⟩ := h2 (K1 + K2 + 40) (by omega)
  obtain ⟨h20, h21⟩ := h1 (K1 + K2 + 40) (by omega)
  have h12 := lent_ok hl (K1 + K2 + 31)
  have h17 := stays_ok hl (K1 + K2 + 31)
  have h19 := live_ok (K1 + K2 + 10)
  rw [show K1 + K2 + 31 + 9 = K1 + K2 + 40 by omega] at h12 h17
  rw [show K1 + K2 + 10 + 30 = K1 + K2 + 40 by omega] at h19
  generalize K1 + K2 + 40 = k at *
  have et : List.take w.length (List.drop 0 (w ++ marks 0 8)) = w := by rw [List.drop_zero, List.take_left' rfl]
  have h16 : F16 (c, c, ()) () = some (true, ()) := by
    simp only [F16]
    rw [if_pos (by omega), if_pos (by omega), decide_true]
  have h20' : F20 k ((per, [x, y, z], ()), rate, lv, steps, List.take w.length (List.drop 0 (w ++ marks 0 8)), ()) () = some (((), e, ()), c, ()) := by rw [et]; exact h20
  simp only [F4]
  refine bind_of h12 ?_
  refine bind_of h20' ?_
  refine bind_of h20' ?_
  refine bind_of h21 ?_
  refine bind_of (v := (e, ())) rfl ?_
  refine (if_pos (decide_eq_true rfl)).trans ?_
  refine bind_of h16 ?_
  refine (if_pos rfl).trans ?_
  refine bind_of h16 ?_
  refine (if_pos rfl).trans ?_
  refine bind_of h17 ?_
  refine (if_pos rfl).trans ?_
  refine bind_of h18 ?_
  refine (if_pos rfl).trans ?_
  exact bind_of h19 rfl
end Go.Eng.Pu

/- What the small functions of polynomials over the field of two elements come to. No condition. -/
set_option linter.unusedVariables false
namespace Go.Eng.Pu
open Go Go.Eng Go.Proofs
theorem Ev.bind {α β : Type} {f : Nat → Option α} {a : α} {g : Nat → α → Option β} {r : β} (hf : Ev f a) (hg : Ev (fun n => g n a) r) : Ev (fun n => (f n).bind (g n)) r := by
  obtain ⟨K, h1⟩ := hf
  obtain ⟨L, h2⟩ := hg
  exact ⟨K + L, fun k hk => by show (f k).bind (g k) = _; rw [h1 k (by omega)]; exact h2 k (by omega)⟩
theorem Ev.const {α : Type} {r : α} : Ev (fun _ => some r) r := ⟨0, fun _ _ => rfl⟩
/-! ### words -/
theorem bv {x : Nat} (hx : x < 18446744073709551616) : (BitVec.ofInt 64 (x : Int)).toNat = x := by
  rw [BitVec.toNat_ofInt]; omega
theorem xorw {x y : Nat} (hx : x < 18446744073709551616) (hy : y < 18446744073709551616) : IntKind.wrap IntKind.u64 ((BitVec.toNat (BitVec.ofInt 64 (x : Int) ^^^ BitVec.ofInt 64 (y : Int)) : Nat) : Int) = ((x ^^^ y : Nat) : Int) := by
  rw [BitVec.toNat_xor, bv hx, bv hy]
  have : x ^^^ y < 18446744073709551616 := Nat.xor_lt_two_pow (n := 64) hx hy
  exact wu (by omega) (by omega)
theorem orw {x y : Nat} (hx : x < 18446744073709551616) (hy : y < 18446744073709551616) : IntKind.wrap IntKind.u64 ((BitVec.toNat (BitVec.ofInt 64 (x : Int) ||| BitVec.ofInt 64 (y : Int)) : Nat) : Int) = ((x ||| y : Nat) : Int) := by
  rw [BitVec.toNat_or, bv hx, bv hy]
  have : x ||| y < 18446744073709551616 := Nat.or_lt_two_pow (n := 64) hx hy
  exact wu (by omega) (by omega)
theorem andw1 {x : Nat} (hx : x < 18446744073709551616) : IntKind.wrap IntKind.u64 ((BitVec.toNat (BitVec.ofInt 64 (x : Int) &&& BitVec.ofInt 64 (1 : Int)) : Nat) : Int) = ((x % 2 : Nat) : Int) := by
  have h1 : (BitVec.ofInt 64 (1 : Int)).toNat = 1 := by decide
  rw [BitVec.toNat_and, bv hx, h1, Nat.and_one_is_mod]
  exact wu (by omega) (by omega)
theorem wrapU (n : Int) : IntKind.wrap IntKind.u64 n = n % 18446744073709551616 := rfl
theorem shlw (x : Nat) {n : Nat} (hn : n ≤ 64) : shl' IntKind.u64 (x : Int) (n : Int) = ((x * 2 ^ n % 18446744073709551616 : Nat) : Int) := by
  unfold shl'
  rw [wrapU]
  show (x : Int) * 2 ^ (min n 64) % 18446744073709551616 = _
  rw [Nat.min_eq_left hn]
  have e : ((2 : Int) ^ n) = ((2 ^ n : Nat) : Int) := by simp
  rw [e, ← Int.natCast_mul]
  exact (Int.natCast_emod _ _).symm
theorem shrw {x : Nat} (hx : x < 18446744073709551616) {n : Nat} (hn : n ≤ 64) : shr' IntKind.u64 (x : Int) (n : Int) = ((x / 2 ^ n : Nat) : Int) := by
  rw [shr_lt (by omega) (by omega) hn]
  have e : ((2 : Int) ^ n) = ((2 ^ n : Nat) : Int) := by simp
  rw [e]; exact (Int.natCast_ediv _ _).symm
theorem shr64_lt {x : Nat} (hx : x < 18446744073709551616) (n : Nat) : x / 2 ^ n < 18446744073709551616 := Nat.lt_of_le_of_lt (Nat.div_le_self _ _) hx
theorem xor64_lt {x y : Nat} (hx : x < 18446744073709551616) (hy : y < 18446744073709551616) : x ^^^ y < 18446744073709551616 := Nat.xor_lt_two_pow (n := 64) hx hy
theorem testBit_div (x n : Nat) : x / 2 ^ n % 2 = if x.testBit n then 1 else 0 := by
  rw [Nat.testBit_eq_decide_div_mod_eq]
  rcases Nat.mod_two_eq_zero_or_one (x / 2 ^ n) with h | h <;> simp [h]
theorem xor_mod64 (x y : Nat) : (x ^^^ y) % 18446744073709551616 = x % 18446744073709551616 ^^^ y % 18446744073709551616 := Nat.xor_mod_two_pow (n := 64)
/-! ### degrees -/
def dg (a : Nat) : Int := if a = 0 then -1 else (a.log2 : Int)
def lnz (a : Nat) : Nat := if a = 0 then 0 else a.log2 + 1
theorem len_div {a : Nat} (n : Nat) (h : 2 ^ n ≤ a) : lnz a = lnz (a / 2 ^ n) + n := by
  have h0 := Nat.two_pow_pos n
  have h1 : a / 2 ^ n ≠ 0 := by
    have := Nat.div_pos h h0
    omega
  have h2 : a ≠ 0 := by omega
  unfold lnz
  rw [if_neg h2, if_neg h1]
  have l1 := Nat.log2_self_le h1
  have l2 := Nat.lt_log2_self (n := a / 2 ^ n)
  have : a.log2 = (a / 2 ^ n).log2 + n := by
    refine (Nat.log2_eq_iff h2).2 ⟨?_, ?_⟩
    · rw [Nat.pow_add]
      exact Nat.le_trans (Nat.mul_le_mul_right _ l1) (Nat.div_mul_le_self _ _)
    · have e : (a / 2 ^ n).log2 + n + 1 = ((a / 2 ^ n).log2 + 1) + n := by omega
      rw [e, Nat.pow_add]
      exact (Nat.div_lt_iff_lt_mul h0).1 l2
  omega
theorem len_le {a n : Nat} (h : a < 2 ^ n) : lnz a ≤ n := by
  unfold lnz
  split
  · omega
  · rename_i h0
    have := (Nat.log2_lt h0).2 h
    omega
theorem dg_len (a : Nat) : dg a = (lnz a : Int) - 1 := by unfold dg lnz; split <;> simp
theorem dg_le {a n : Nat} (h : a < 2 ^ n) : dg a < n := by rw [dg_len]; have := len_le h; omega
theorem dg_ge (a : Nat) : -1 ≤ dg a := by rw [dg_len]; omega
theorem dg_lt64 {a : Nat} (h : a < 18446744073709551616) : dg a ≤ 63 := by have := dg_le (n := 64) h; omega
theorem dg_pos {a : Nat} (h : a ≠ 0) : dg a = (a.log2 : Int) := if_neg h
theorem len88 {x : Nat} (hx : x < 4294967296) : F88 ((x : Int), ()) () = some (((lnz x : Nat) : Int), ()) := by
  rw [F88]
  generalize hT : List.map (fun b : UInt8 => ((BitVec.toNat b.1 : Nat) : Int)) _ = T
  have tab : ∀ i : Nat, i < 256 → List.getD T i 0 = ((lnz i : Nat) : Int) := by rw [← hT]; decide +kernel
  have w8 : ∀ i : Nat, i < 256 → IntKind.wrap IntKind.u8 (i : Int) = (i : Int) := fun i hi => IntWalk.u8_in _ ⟨by omega, by omega⟩
  have leaf : ∀ (c i : Nat), c ≤ 100 → i < 256 → (if (0 : Int) ≤ IntKind.wrap IntKind.u8 (i : Int) ∧ IntKind.wrap IntKind.u8 (i : Int) < (256 : Int) then some (IntKind.wrap IntKind.i64 ((c : Int) + IntKind.wrap IntKind.i64 (List.getD T (Int.toNat (IntKind.wrap IntKind.u8 (i : Int))) (0 : Int))), ()) else none) = some (((lnz i + c : Nat) : Int), ()) := fun c i hc hi => by
    have := len_le (n := 8) hi
    rw [w8 i hi, if_pos (by omega), Int.toNat_natCast, tab i hi, wi (n := ((lnz i : Nat) : Int)) (by omega) (by omega), wi (by omega) (by omega)]
    congr 2; omega
  have s16 : shr' IntKind.u64 (x : Int) (16 : Int) = ((x / 2 ^ 16 : Nat) : Int) := shrw (n := 16) (by omega) (by decide)
  have s8 : shr' IntKind.u64 (x : Int) (8 : Int) = ((x / 2 ^ 8 : Nat) : Int) := shrw (n := 8) (by omega) (by decide)
  have s24 : shr' IntKind.u64 ((x / 2 ^ 16 : Nat) : Int) (8 : Int) = ((x / 2 ^ 16 / 2 ^ 8 : Nat) : Int) := shrw (n := 8) (shr64_lt (by omega) 16) (by decide)
  rw [s16, s8, s24]
  refine (if_neg (fun h => absurd (of_decide_eq_true h) (show ¬ (4294967296 : Int) ≤ (x : Int) by omega))).trans ?_
  by_cases h1 : 65536 ≤ x
  · have l1 : lnz x = lnz (x / 2 ^ 16) + 16 := len_div 16 h1
    refine (if_pos (decide_eq_true (show (65536 : Int) ≤ (x : Int) by omega))).trans ?_
    by_cases h2 : 256 ≤ x / 2 ^ 16
    · have l2 : lnz (x / 2 ^ 16) = lnz (x / 2 ^ 16 / 2 ^ 8) + 8 := len_div 8 h2
      refine (if_pos (decide_eq_true (show (256 : Int) ≤ ((x / 2 ^ 16 : Nat) : Int) by omega))).trans ?_
      rw [l1, l2]
      exact leaf 24 _ (by decide) (by omega)
    · refine (if_neg (fun h => absurd (of_decide_eq_true h) (show ¬ (256 : Int) ≤ ((x / 2 ^ 16 : Nat) : Int) by omega))).trans ?_
      rw [l1]
      exact leaf 16 _ (by decide) (by omega)
  · refine (if_neg (fun h => absurd (of_decide_eq_true h) (show ¬ (65536 : Int) ≤ (x : Int) by omega))).trans ?_
    by_cases h2 : 256 ≤ x
    · have l2 : lnz x = lnz (x / 2 ^ 8) + 8 := len_div 8 h2
      refine (if_pos (decide_eq_true (show (256 : Int) ≤ (x : Int) by omega))).trans ?_
      rw [l2]
      exact leaf 8 _ (by decide) (by omega)
    · refine (if_neg (fun h => absurd (of_decide_eq_true h) (show ¬ (256 : Int) ≤ (x : Int) by omega))).trans ?_
      exact leaf 0 _ (by decide) (by omega)
theorem deg87 {x : Nat} (hx : x < 4294967296) : F87 ((x : Int), ()) () = some (dg x, ()) := by
  rw [F87, len88 hx]
  have := len_le (n := 32) hx
  simp only [Option.bind_some]
  rw [wi (by omega) (by omega), dg_len]
theorem deg85 {a : Nat} (ha : a < 18446744073709551616) : Ev (fun k => F85 k ((a : Int), ()) ()) (dg a, ()) := by
  have gen : ∀ (d : Nat) (a : Nat) (n : Int), a < 18446744073709551616 → lnz a = d → -1 ≤ n → n + d ≤ 1000 → Ev (fun k => L85_2 k ((a : Int), n, ()) ()) (n + d, ()) := by
    intro d
    induction d with
    | zero =>
      intro a n ha hl h0 h1
      have : a = 0 := by unfold lnz at hl; split at hl <;> omega
      subst this
      refine Ev.now fun k => ?_
      rw [L85_2]
      refine (if_neg (by decide)).trans ?_
      rw [show n + ((0 : Nat) : Int) = n by omega]
    | succ d ih =>
      intro a n ha hl h0 h1
      have hz : a ≠ 0 := by
        intro e
        rw [e] at hl
        unfold lnz at hl
        simp at hl
      have hlen : lnz a = lnz (a / 2) + 1 := by
        by_cases h1 : a = 1
        · subst h1; decide +kernel
        · have := len_div (a := a) 1 (by omega)
          simpa using this
      have h := ih (a / 2) (n + 1) (by omega) (by omega) (by omega) (by omega)
      rw [show n + 1 + (d : Int) = n + ((d + 1 : Nat) : Int) by omega] at h
      refine Ev.of_succ (fun k => ?_) h
      have s1 : shr' IntKind.u64 (a : Int) (1 : Int) = ((a / 2 : Nat) : Int) := shrw (n := 1) ha (by decide)
      rw [L85_2, s1, wi (n := n + 1) (by omega) (by omega)]
      exact if_pos (by rw [decide_eq_false (show ¬ (a : Int) = 0 by omega)]; rfl)
  have h := gen (lnz a) a (-1) ha rfl (by omega) (by have := len_le (n := 64) ha; omega)
  rw [show -1 + (lnz a : Int) = dg a by rw [dg_len]; omega] at h
  exact h
/-! ### long division -/
theorem xor_cancel_top {a b n : Nat} (ha1 : 2 ^ n ≤ a) (ha2 : a < 2 ^ (n + 1)) (hb1 : 2 ^ n ≤ b) (hb2 : b < 2 ^ (n + 1)) : a ^^^ b < 2 ^ n := by
  rcases Nat.lt_or_ge (a ^^^ b) (2 ^ n) with h | h
  · exact h
  · have t3 := Gf.top_bit h (Gf.xor_lt ha2 hb2)
    rw [Nat.testBit_xor, Gf.top_bit ha1 ha2, Gf.top_bit hb1 hb2] at t3
    simp at t3
theorem lt_of_no_bit {a n : Nat} (h : a < 2 ^ (n + 1)) (hb : a.testBit n = false) : a < 2 ^ n := by
  rcases Nat.lt_or_ge a (2 ^ n) with h' | h'
  · exact h'
  · rw [Gf.top_bit h' h] at hb; cases hb
theorem bshift {b s n : Nat} (hb : b ≠ 0) (hn : b.log2 + s = n) : 2 ^ n ≤ b * 2 ^ s ∧ b * 2 ^ s < 2 ^ (n + 1) := by
  subst hn
  have h0 := Nat.two_pow_pos s
  constructor
  · rw [Nat.pow_add]; exact Nat.mul_le_mul_right _ (Gf.pow_log2_le hb)
  · have e : b.log2 + s + 1 = (b.log2 + 1) + s := by omega
    rw [e, Nat.pow_add]; exact Nat.mul_lt_mul_of_pos_right (Gf.lt_pow_log2 b) h0
theorem pow64 : (2 : Nat) ^ 64 = 18446744073709551616 := by decide
theorem lt64_of {a n : Nat} (hn : n ≤ 64) (h : a < 2 ^ n) : a < 18446744073709551616 := by
  have := Nat.pow_le_pow_right (n := 2) (by omega) hn
  rw [pow64] at this
  omega
theorem log2_le63 {b : Nat} (hb : b ≠ 0) (h : b < 18446744073709551616) : b.log2 ≤ 63 := by
  have := (Nat.log2_lt (n := b) (k := 64) hb).2 h
  omega
/-- The remainder, whatever the quotient's word. -/
theorem long13 {b N : Nat} (hb : b ≠ 0) (hb64 : b < 18446744073709551616) : ∀ (m : Nat) (i : Int) (lo Q q : Nat), i ≤ 63 → -1 ≤ i → i + 1 ≤ m → lo < 2 ^ (i + 1).toNat → q < 18446744073709551616 → N = Gf.mul Q b ^^^ lo →
    ∃ q' : Int, Ev (fun k => L84_13 k ((lo : Int), (b : Int), (q : Int), dg b, i, ()) ()) ((q', ((Gf.rem N b : Nat) : Int), ()), ()) := by
  intro m
  have hl63 := log2_le63 hb hb64
  have stop : ∀ (i : Int) (lo Q q : Nat), i < (b.log2 : Int) → -1 ≤ i → lo < 2 ^ (i + 1).toNat → N = Gf.mul Q b ^^^ lo → ∃ q' : Int, Ev (fun k => L84_13 k ((lo : Int), (b : Int), (q : Int), dg b, i, ()) ()) ((q', ((Gf.rem N b : Nat) : Int), ()), ()) := by
    intro i lo Q q hi h1 hlo hN
    have hd : Gf.IsDiv N b Q lo := ⟨hN, Nat.lt_of_lt_of_le hlo (Nat.pow_le_pow_right (by omega) (by omega))⟩
    rw [hd.rem_eq hb]
    refine ⟨q, Ev.now fun k => ?_⟩
    rw [L84_13]
    exact if_neg (fun h => absurd (of_decide_eq_true h) (show ¬ dg b ≤ i by rw [dg_pos hb]; omega))
  induction m with
  | zero =>
    intro i lo Q q h63 h1 hm hlo hq hN
    exact stop i lo Q q (by omega) h1 hlo hN
  | succ m ih =>
    intro i lo Q q h63 h1 hm hlo hq hN
    by_cases hi : i < (b.log2 : Int)
    · exact stop i lo Q q hi h1 hlo hN
    · obtain ⟨j, rfl⟩ := Int.eq_ofNat_of_zero_le (show 0 ≤ i by omega)
      have e1 : ((j : Int) + 1).toNat = j + 1 := by omega
      rw [e1] at hlo
      have hlo64 : lo < 18446744073709551616 := lt64_of (n := j + 1) (by omega) hlo
      have hw : IntKind.wrap IntKind.i64 ((j : Int) - 1) = (j : Int) - 1 := wi (by omega) (by omega)
      have hw2 : IntKind.wrap IntKind.i64 ((j : Int) - dg b) = ((j - b.log2 : Nat) : Int) := by rw [dg_pos hb, wi (by omega) (by omega)]; omega
      have c1 : dg b ≤ (j : Int) := by rw [dg_pos hb]; omega
      have e3 : ((j : Int) - 1 + 1).toNat = j := by omega
      have hsr := shrw hlo64 (n := j) (by omega)
      have hand := andw1 (shr64_lt hlo64 j)
      rw [testBit_div] at hand
      by_cases hbit : lo.testBit j
      · obtain ⟨s1, s2⟩ := bshift (s := j - b.log2) (n := j) hb (by omega)
        have hlo2 : 2 ^ j ≤ lo := by
          rcases Nat.lt_or_ge lo (2 ^ j) with h' | h'
          · rw [Nat.testBit_lt_two_pow h'] at hbit; cases hbit
          · exact h'
        have hs64 : b * 2 ^ (j - b.log2) < 18446744073709551616 := lt64_of (n := j + 1) (by omega) s2
        have hp64 : 2 ^ (j - b.log2) < 18446744073709551616 := lt64_of (n := j - b.log2 + 1) (by omega) (Nat.pow_lt_pow_right (by omega) (by omega))
        have ho : q ||| 2 ^ (j - b.log2) < 18446744073709551616 := Nat.or_lt_two_pow (n := 64) hq hp64
        obtain ⟨q', h⟩ := ih ((j : Int) - 1) (lo ^^^ b * 2 ^ (j - b.log2)) (Q ^^^ 2 ^ (j - b.log2)) (q ||| 2 ^ (j - b.log2)) (by omega) (by omega) (by omega)
          (by rw [e3]; exact xor_cancel_top hlo2 hlo s1 s2) ho
          (by rw [hN, Gf.xor_mul, Gf.pow_two_mul]
              have : Gf.mul Q b ^^^ b * 2 ^ (j - b.log2) ^^^ (lo ^^^ b * 2 ^ (j - b.log2)) = Gf.mul Q b ^^^ lo ^^^ (b * 2 ^ (j - b.log2) ^^^ b * 2 ^ (j - b.log2)) := by ac_rfl
              rw [this, Nat.xor_self, Nat.xor_zero])
        refine ⟨q', Ev.of_succ (fun k => ?_) h⟩
        have o1 : shl' IntKind.u64 (1 : Int) ((j - b.log2 : Nat) : Int) = ((2 ^ (j - b.log2) : Nat) : Int) := by
          have := shlw 1 (n := j - b.log2) (by omega)
          rw [Nat.one_mul, Nat.mod_eq_of_lt hp64] at this
          exact this
        have o2 : shl' IntKind.u64 (b : Int) ((j - b.log2 : Nat) : Int) = ((b * 2 ^ (j - b.log2) : Nat) : Int) := by
          rw [shlw b (by omega), Nat.mod_eq_of_lt hs64]
        rw [L84_13, hsr, hand, if_pos hbit, hw, hw2, o1, o2, xorw hlo64 hs64, orw hq hp64]
        refine (if_pos (decide_eq_true c1)).trans ((if_neg (show ¬ ((j : Int) < 0) by omega)).trans ((if_pos (by decide)).trans ((if_neg (show ¬ (((j - b.log2 : Nat) : Int) < 0) by omega)).trans (if_neg (show ¬ (((j - b.log2 : Nat) : Int) < 0) by omega)))))
      · have hb0 : lo.testBit j = false := by simpa using hbit
        obtain ⟨q', h⟩ := ih ((j : Int) - 1) lo Q q (by omega) (by omega) (by omega) (by rw [e3]; exact lt_of_no_bit hlo hb0) hq hN
        refine ⟨q', Ev.of_succ (fun k => ?_) h⟩
        rw [L84_13, hsr, hand, if_neg hbit, hw]
        refine (if_pos (decide_eq_true c1)).trans ((if_neg (show ¬ ((j : Int) < 0) by omega)).trans (if_neg (by decide)))
theorem dg_bound {a : Nat} : a < 2 ^ (dg a + 1).toNat := by
  rw [dg_len]
  have e : ((lnz a : Int) - 1 + 1).toNat = lnz a := by omega
  rw [e]
  unfold lnz
  split
  · rename_i h; rw [h]; decide
  · exact Nat.lt_log2_self
theorem rest80 {a b : Nat} (ha : a < 4294967296) (hb : b ≠ 0) (hb32 : b < 4294967296) : Ev (fun k => F80 k ((a : Int), (b : Int), ()) ()) (((Gf.rem a b : Nat) : Int), ()) := by
  have h1 := dg_lt64 (a := a) (by omega)
  have h2 := dg_ge a
  obtain ⟨q', h⟩ := long13 (N := a) hb (by omega) (dg a + 1).toNat (dg a) a 0 0 (by omega) (by omega) (by omega) dg_bound (by decide) (by rw [Gf.mul_zero_left, Nat.zero_xor])
  have h84 : Ev (fun k => F84 k (0, (a : Int), (b : Int), ()) ()) ((q', ((Gf.rem a b : Nat) : Int), ()), ()) := by
    obtain ⟨K, hK⟩ := h
    refine ⟨K + 1, fun k hk => ?_⟩
    obtain ⟨k, rfl⟩ : ∃ m, k = m + 1 := ⟨k - 1, by omega⟩
    show F84 (k + 1) (0, (a : Int), (b : Int), ()) () = _
    rw [F84, deg87 hb32]
    simp only [Option.bind_some]
    have d0 : F87 (0, ()) () = some (-1, ()) := deg87 (x := 0) (by decide)
    rw [d0]
    simp only [Option.bind_some]
    rw [L84_3]
    refine (if_neg (by decide)).trans ?_
    rw [deg87 ha]
    exact hK k (by omega)
  obtain ⟨K, hK⟩ := h84
  refine ⟨K, fun k hk => ?_⟩
  show F80 k ((a : Int), (b : Int), ()) () = _
  have hk' : F84 k (0, (a : Int), (b : Int), ()) () = _ := hK k hk
  rw [F80, hk']; rfl
end Go.Eng.Pu

/- Greatest common divisors, as both have them. No condition. -/
set_option linter.unusedVariables false
namespace Go.Eng.Pu
open Go Go.Eng Go.Proofs
theorem or_eq_xor1 (r t : Nat) (ht : t ≤ 1) : 2 * r ||| t = 2 * r ^^^ t := by
  have h : t = 0 ∨ t = 1 := by omega
  rcases h with rfl | rfl
  · simp
  · apply Nat.eq_of_testBit_eq
    intro j
    rw [Nat.testBit_or, Nat.testBit_xor]
    cases j with
    | zero => simp
    | succ j => simp [Nat.testBit_succ]
theorem two_mul_xor_lt {r t n : Nat} (hr : r < 2 ^ n) (ht : t ≤ 1) : 2 * r ^^^ t < 2 ^ (n + 1) := by
  refine Gf.xor_lt (by rw [Nat.pow_succ]; omega) ?_
  have := Nat.two_pow_pos n
  rw [Nat.pow_succ]; omega
theorem bit_step (N i : Nat) : N / 2 ^ i = 2 * (N / 2 ^ (i + 1)) ^^^ (if N.testBit i then 1 else 0) := by
  have h := testBit_div N i
  have e : N / 2 ^ (i + 1) = N / 2 ^ i / 2 := by rw [Nat.div_div_eq_div_mul, ← Nat.pow_succ]
  rw [← h, e]
  generalize N / 2 ^ i = M
  rcases Nat.mod_two_eq_zero_or_one M with h1 | h1
  · rw [h1, Nat.xor_zero]; omega
  · rw [h1, Gf.even_xor_one]; omega
theorem bit_le (b : Bool) : (if b then 1 else 0 : Nat) ≤ 1 := by cases b <;> simp
theorem Whole.next {b N Q r i : Nat} (hb : b ≠ 0) (hN : N / 2 ^ (i + 1) = Gf.mul Q b ^^^ r) (hr : r < 2 ^ b.log2) :
    (b.log2 = 0 → N / 2 ^ i = Gf.mul (2 * Q ^^^ (if N.testBit i then 1 else 0)) b ^^^ 0 ∧ r = 0) ∧
    (2 * r ^^^ (if N.testBit i then 1 else 0) < 2 ^ (b.log2 + 1)) ∧
    ((2 * r ^^^ (if N.testBit i then 1 else 0)).testBit b.log2 = true → N / 2 ^ i = Gf.mul (2 * Q ^^^ 1) b ^^^ (2 * r ^^^ (if N.testBit i then 1 else 0) ^^^ b) ∧ 2 * r ^^^ (if N.testBit i then 1 else 0) ^^^ b < 2 ^ b.log2) ∧
    ((2 * r ^^^ (if N.testBit i then 1 else 0)).testBit b.log2 = false → N / 2 ^ i = Gf.mul (2 * Q) b ^^^ (2 * r ^^^ (if N.testBit i then 1 else 0)) ∧ 2 * r ^^^ (if N.testBit i then 1 else 0) < 2 ^ b.log2) := by
  have hs := bit_step N i
  have ht := bit_le (N.testBit i)
  have hlt := two_mul_xor_lt (n := b.log2) hr ht
  generalize (if N.testBit i then 1 else 0) = t at hs ht hlt ⊢
  rw [hN, Gf.two_mul_xor, ← Gf.mul_two_left] at hs
  refine ⟨fun h0 => ?_, hlt, fun hb1 => ⟨?_, ?_⟩, fun hb0 => ⟨?_, lt_of_no_bit hlt hb0⟩⟩
  · have hr0 : r = 0 := by rw [h0] at hr; simpa using hr
    have hb1 : b = 1 := by
      have := Gf.lt_pow_log2 b
      rw [h0] at this
      simp at this; omega
    subst hr0 hb1
    refine ⟨?_, rfl⟩
    rw [hs, Gf.mul_one, Gf.mul_one]; simp
  · rw [hs, Gf.xor_mul, Gf.one_mul]
    have : Gf.mul (2 * Q) b ^^^ b ^^^ (2 * r ^^^ t ^^^ b) = Gf.mul (2 * Q) b ^^^ (2 * r ^^^ t) ^^^ (b ^^^ b) := by ac_rfl
    rw [this, Nat.xor_self, Nat.xor_zero, Nat.xor_assoc]
  · have h2 : 2 ^ b.log2 ≤ 2 * r ^^^ t := by
      rcases Nat.lt_or_ge (2 * r ^^^ t) (2 ^ b.log2) with h' | h'
      · rw [Nat.testBit_lt_two_pow h'] at hb1; cases hb1
      · exact h'
    exact xor_cancel_top h2 hlt (Gf.pow_log2_le hb) (Gf.lt_pow_log2 b)
  · rw [hs, Nat.xor_assoc]
theorem bit86 {x i : Nat} (hx : x < 18446744073709551616) (hi : i ≤ 63) : F86 ((x : Int), (i : Int), ()) () = some (((if x.testBit i then 1 else 0 : Nat) : Int), ()) := by
  rw [F86, wu (n := (i : Int)) (by omega) (by omega), shrw hx (by omega), andw1 (shr64_lt hx i), testBit_div]
  exact if_neg (show ¬ (i : Int) < 0 by omega)
theorem whole81 {b N : Nat} (hb : b ≠ 0) (hb64 : b < 18446744073709551616) (hN64 : N < 18446744073709551616) : ∀ (n Q r q : Nat), n ≤ 128 → N / 2 ^ n = Gf.mul Q b ^^^ r → r < 2 ^ b.log2 → q < 18446744073709551616 →
    ∃ q' : Int, ∀ K k, L81_5 K (k + n + 1) (0, (N : Int), (b : Int), (q : Int), (r : Int), dg b, (n : Int) - 1, ()) () = some ((q', ((Gf.rem N b : Nat) : Int), ()), ()) := by
  have hl63 := log2_le63 hb hb64
  intro n
  induction n with
  | zero =>
    intro Q r q hn hN hr hq
    have hd : Gf.IsDiv N b Q r := ⟨by simpa using hN, hr⟩
    refine ⟨q, fun K k => ?_⟩
    rw [hd.rem_eq hb, L81_5]
    exact if_neg (by decide)
  | succ j ih =>
    intro Q r q hn hN hr hq
    obtain ⟨n1, n2, n3, n4⟩ := Whole.next hb hN hr
    have hw : IntKind.wrap IntKind.i64 ((((j + 1 : Nat) : Int) - 1) - 1) = (j : Int) - 1 := by rw [wi (by omega) (by omega)]; omega
    have hr64 : r < 9223372036854775808 := Nat.lt_of_lt_of_le hr (Nat.pow_le_pow_right (n := 2) (by decide) hl63)
    have hr2 : shl' IntKind.u64 (r : Int) (1 : Int) = ((2 * r : Nat) : Int) := by
      have := shlw r (n := 1) (by decide)
      rw [Nat.mod_eq_of_lt (by omega)] at this
      refine this.trans ?_
      congr 1; omega
    have hr3 : 2 * r < 18446744073709551616 := by omega
    have hq2 : shl' IntKind.u64 (q : Int) (1 : Int) = ((q * 2 % 18446744073709551616 : Nat) : Int) := shlw q (n := 1) (by decide)
    have hq3 : q * 2 % 18446744073709551616 < 18446744073709551616 := Nat.mod_lt _ (by decide)
    have inner : ∀ t : Nat, t = (if N.testBit j then 1 else 0) → ∃ q' : Int, ∀ K k, (if decide (dg b = (0 : Int)) = true then
        L81_5 K (k + j + 1) (0, (N : Int), (b : Int), IntKind.wrap IntKind.u64 ((BitVec.toNat (BitVec.ofInt 64 (shl' IntKind.u64 (q : Int) (1 : Int)) ||| BitVec.ofInt 64 (t : Int)) : Nat) : Int), (r : Int), dg b, IntKind.wrap IntKind.i64 ((((j + 1 : Nat) : Int) - 1) - 1), ()) ()
      else Option.bind (F86 (IntKind.wrap IntKind.u64 ((BitVec.toNat (BitVec.ofInt 64 (shl' IntKind.u64 (r : Int) (1 : Int)) ||| BitVec.ofInt 64 (t : Int)) : Nat) : Int), dg b, ()) ()) fun val_1 =>
        if decide (val_1.1 = (1 : Int)) = true then
          L81_5 K (k + j + 1) (0, (N : Int), (b : Int), IntKind.wrap IntKind.u64 ((BitVec.toNat (BitVec.ofInt 64 (shl' IntKind.u64 (q : Int) (1 : Int)) ||| BitVec.ofInt 64 (1 : Int)) : Nat) : Int), IntKind.wrap IntKind.u64 ((BitVec.toNat (BitVec.ofInt 64 (IntKind.wrap IntKind.u64 ((BitVec.toNat (BitVec.ofInt 64 (shl' IntKind.u64 (r : Int) (1 : Int)) ||| BitVec.ofInt 64 (t : Int)) : Nat) : Int)) ^^^ BitVec.ofInt 64 (b : Int)) : Nat) : Int), dg b, IntKind.wrap IntKind.i64 ((((j + 1 : Nat) : Int) - 1) - 1), ()) ()
        else L81_5 K (k + j + 1) (0, (N : Int), (b : Int), shl' IntKind.u64 (q : Int) (1 : Int), IntKind.wrap IntKind.u64 ((BitVec.toNat (BitVec.ofInt 64 (shl' IntKind.u64 (r : Int) (1 : Int)) ||| BitVec.ofInt 64 (t : Int)) : Nat) : Int), dg b, IntKind.wrap IntKind.i64 ((((j + 1 : Nat) : Int) - 1) - 1), ()) ()) = some ((q', ((Gf.rem N b : Nat) : Int), ()), ()) := by
      intro t ht
      rw [← ht] at n1 n2 n3 n4
      have ht1 : t ≤ 1 := by rw [ht]; exact bit_le _
      have ht64 : t < 18446744073709551616 := by omega
      have ho : IntKind.wrap IntKind.u64 ((BitVec.toNat (BitVec.ofInt 64 (shl' IntKind.u64 (r : Int) (1 : Int)) ||| BitVec.ofInt 64 (t : Int)) : Nat) : Int) = ((2 * r ^^^ t : Nat) : Int) := by rw [hr2, orw hr3 ht64, or_eq_xor1 _ _ ht1]
      have hx64 : 2 * r ^^^ t < 18446744073709551616 := xor64_lt hr3 ht64
      rw [ho, hw, hq2, orw hq3 ht64, xorw hx64 hb64]
      have or1 : IntKind.wrap IntKind.u64 ((BitVec.toNat (BitVec.ofInt 64 ((q * 2 % 18446744073709551616 : Nat) : Int) ||| BitVec.ofInt 64 (1 : Int)) : Nat) : Int) = ((q * 2 % 18446744073709551616 ||| 1 : Nat) : Int) := orw (y := 1) hq3 (by decide)
      rw [or1]
      have lt1 : ∀ y : Nat, y < 18446744073709551616 → q * 2 % 18446744073709551616 ||| y < 18446744073709551616 := fun y hy => Nat.or_lt_two_pow (n := 64) hq3 hy
      by_cases h0 : b.log2 = 0
      · obtain ⟨m1, m2⟩ := n1 h0
        subst m2
        obtain ⟨q', h⟩ := ih _ 0 (q * 2 % 18446744073709551616 ||| t) (by omega) m1 (Nat.two_pow_pos _) (lt1 t ht64)
        refine ⟨q', fun K k => ?_⟩
        exact (if_pos (decide_eq_true (by rw [dg_pos hb, h0]; rfl))).trans (h K k)
      · have hd0 : ¬ decide (dg b = (0 : Int)) = true := fun h => by
          have := of_decide_eq_true h
          rw [dg_pos hb] at this; omega
        have h86 : F86 (((2 * r ^^^ t : Nat) : Int), dg b, ()) () = some (((if (2 * r ^^^ t).testBit b.log2 then 1 else 0 : Nat) : Int), ()) := by rw [dg_pos hb]; exact bit86 hx64 (by omega)
        by_cases hbit : (2 * r ^^^ t).testBit b.log2 = true
        · obtain ⟨m1, m2⟩ := n3 hbit
          obtain ⟨q', h⟩ := ih _ _ (q * 2 % 18446744073709551616 ||| 1) (by omega) m1 m2 (lt1 1 (by decide))
          refine ⟨q', fun K k => ?_⟩
          refine (if_neg hd0).trans (bind_of h86 ?_)
          rw [if_pos hbit]
          exact (if_pos (by decide)).trans (h K k)
        · have hb0 : (2 * r ^^^ t).testBit b.log2 = false := by simpa using hbit
          obtain ⟨m1, m2⟩ := n4 hb0
          obtain ⟨q', h⟩ := ih _ _ (q * 2 % 18446744073709551616) (by omega) m1 m2 hq3
          refine ⟨q', fun K k => ?_⟩
          refine (if_neg hd0).trans (bind_of h86 ?_)
          rw [if_neg hbit]
          exact (if_neg (by decide)).trans (h K k)
    have hc1 : ((j + 1 : Nat) : Int) - 1 = (j : Int) := by omega
    by_cases h64 : 64 ≤ j
    · have hbit : N.testBit j = false := Nat.testBit_lt_two_pow (Nat.lt_of_lt_of_le (by rw [pow64]; exact hN64) (Nat.pow_le_pow_right (n := 2) (by decide) h64))
      obtain ⟨q', h⟩ := inner 0 (by rw [hbit]; rfl)
      refine ⟨q', fun K k => ?_⟩
      rw [show k + (j + 1) + 1 = (k + j + 1) + 1 by omega, L81_5]
      have hz : F86 (0, IntKind.wrap IntKind.i64 (((j + 1 : Nat) : Int) - 1 - (64 : Int)), ()) () = some (0, ()) := by
        rw [wi (n := ((j + 1 : Nat) : Int) - 1 - (64 : Int)) (by omega) (by omega), show ((j + 1 : Nat) : Int) - 1 - (64 : Int) = ((j - 64 : Nat) : Int) by omega]
        have := bit86 (x := 0) (i := j - 64) (by decide) (by omega)
        rw [Nat.zero_testBit] at this
        exact this
      refine (if_pos (decide_eq_true (show (0 : Int) ≤ ((j + 1 : Nat) : Int) - 1 by omega))).trans ((if_pos (decide_eq_true (show (64 : Int) ≤ ((j + 1 : Nat) : Int) - 1 by omega))).trans (bind_of hz ?_))
      exact h K k
    · obtain ⟨q', h⟩ := inner _ rfl
      refine ⟨q', fun K k => ?_⟩
      rw [show k + (j + 1) + 1 = (k + j + 1) + 1 by omega, L81_5]
      have hz : F86 ((N : Int), ((j + 1 : Nat) : Int) - 1, ()) () = some (((if N.testBit j then 1 else 0 : Nat) : Int), ()) := by rw [hc1]; exact bit86 hN64 (by omega)
      refine (if_pos (decide_eq_true (show (0 : Int) ≤ ((j + 1 : Nat) : Int) - 1 by omega))).trans ((if_neg (fun h => absurd (of_decide_eq_true h) (show ¬ (64 : Int) ≤ ((j + 1 : Nat) : Int) - 1 by omega))).trans (bind_of hz ?_))
      exact h K k
theorem rem81 {a b : Nat} (ha : a < 4294967296) (hb : b ≠ 0) (hb32 : b < 4294967296) : ∃ q' : Int, Ev (fun k => F81 k (0, (a : Int), (b : Int), ()) ()) ((q', ((Gf.rem a b : Nat) : Int), ()), ()) := by
  obtain ⟨q', h⟩ := whole81 (N := a) hb (by omega) (by omega) 128 0 0 0 (by decide) (by rw [Gf.mul_zero_left, Nat.div_eq_of_lt (Nat.lt_trans ha (by decide))]; rfl) (Nat.two_pow_pos _) (by decide)
  obtain ⟨K1, h1⟩ := deg85 (a := b) (by omega)
  refine ⟨q', K1 + 200, fun k hk => ?_⟩
  show F81 k (0, (a : Int), (b : Int), ()) () = _
  have h1' : F85 k ((b : Int), ()) () = some (dg b, ()) := h1 k (by omega)
  rw [F81, h1']
  have := h k (k - 129)
  rw [show k - 129 + 128 + 1 = k by omega] at this
  exact this
/-- Both find the same divisor. -/
theorem gcd_loop : ∀ (b a : Nat), a < 4294967296 → b < 4294967296 → ∃ (g K0 : Nat), g < 4294967296 ∧ ∀ K k, K0 ≤ K → K0 ≤ k → L73_1 K k ((a : Int), (b : Int), ()) () = some ((g : Int), ()) ∧ L75_1 K k ((a : Int), (b : Int), ()) () = some ((g : Int), ()) := by
  intro b
  induction b using Nat.strongRecOn with
  | ind b ih =>
    intro a ha hb
    by_cases hz : b = 0
    · subst hz
      refine ⟨a, 1, ha, fun K k hK hk => ?_⟩
      obtain ⟨k, rfl⟩ : ∃ m, k = m + 1 := ⟨k - 1, by omega⟩
      rw [L73_1, L75_1]
      exact ⟨if_neg (by decide), if_neg (by decide)⟩
    · obtain ⟨K1, h80⟩ := rest80 ha hz hb
      obtain ⟨q', K2, h81⟩ := rem81 ha hz hb
      have hlt := Gf.rem_lt' a b hz
      obtain ⟨g, K0, hg, h⟩ := ih (Gf.rem a b) hlt b hb (by omega)
      refine ⟨g, K0 + K1 + K2 + 1, hg, fun K k hK hk => ?_⟩
      obtain ⟨k, rfl⟩ : ∃ m, k = m + 1 := ⟨k - 1, by omega⟩
      obtain ⟨e1, e2⟩ := h K k (by omega) (by omega)
      have c : (!decide ((b : Int) = (0 : Int))) = true := by rw [decide_eq_false (show ¬ (b : Int) = 0 by omega)]; rfl
      rw [L73_1, L75_1]
      exact ⟨(if_pos c).trans (bind_of (h80 K (by omega)) e1), (if_pos c).trans (bind_of (h81 K (by omega)) e2)⟩
theorem gcd_both {a b : Nat} (ha : a < 4294967296) (hb : b < 4294967296) : ∃ (g K0 : Nat), g < 4294967296 ∧ ∀ K, K0 ≤ K → F73 K ((a : Int), (b : Int), ()) () = some ((g : Int), ()) ∧ F75 K ((a : Int), (b : Int), ()) () = some ((g : Int), ()) := by
  obtain ⟨g, K0, hg, h⟩ := gcd_loop b a ha hb
  exact ⟨g, K0, hg, fun K hK => h K K hK hK⟩
end Go.Eng.Pu

/- Both checks of a code. No condition. -/
set_option linter.unusedVariables false
namespace Go.Eng.Pu
open Go Go.Eng Go.Proofs
/-- How many generators are used. -/
def gn (rate : Int) : Nat := if rate = 2 then 2 else 3
theorem gn_le (rate : Int) : gn rate ≤ 3 := by unfold gn; split <;> decide
def U32 (l : List Int) : Prop := l.length = 3 ∧ ∀ i : Nat, i < 3 → ∃ g : Nat, l.getD i 0 = (g : Int) ∧ g < 4294967296
theorem used64 {K rate : Int} {l : List Int} : F64 ((K, rate, l, ()), ()) () = some ((2, gn rate), (K, rate, l, ()), ()) := by
  rw [F64]
  unfold gn
  by_cases h : rate = 2
  · rw [if_pos h]; exact if_pos (decide_eq_true h)
  · rw [if_neg h]; exact if_neg (fun h' => h (of_decide_eq_true h'))
theorem count74 {K rate : Int} {l : List Int} : F74 ((K, rate, l, ()), ()) () = some ((gn rate : Int), ()) := by
  rw [F74]
  unfold gn
  by_cases h : rate = 2
  · rw [if_pos h]; exact if_pos (decide_eq_true h)
  · rw [if_neg h]; exact if_neg (fun h' => h (of_decide_eq_true h'))
theorem common_loop {Kk rate : Int} {l : List Int} (hl : U32 l) : ∀ (d i g : Nat), i + d = gn rate → g < 4294967296 → ∃ (c K0 : Nat), c < 4294967296 ∧ ∀ K k, K0 ≤ K → K0 ≤ k → L65_3 K k ((g : Int), (2, gn rate), (gn rate : Int), (i : Int), ()) ((Kk, rate, l, ()), ()) = some ((c : Int), ()) ∧ L66_3 K k ((), (g : Int), (i : Int), ()) ((Kk, rate, l, ()), ()) = some ((c : Int), ())
  | 0, i, g, hi, hg => by
    refine ⟨g, 1, hg, fun K k hK hk => ?_⟩
    obtain ⟨k, rfl⟩ : ∃ m, k = m + 1 := ⟨k - 1, by omega⟩
    rw [L65_3, L66_3]
    exact ⟨if_neg (ndlt (by omega)), bind_of count74 (if_neg (ndlt (by omega)))⟩
  | d + 1, i, g, hi, hg => by
    have h3 := gn_le rate
    obtain ⟨x, hx, hx32⟩ := hl.2 i (by omega)
    obtain ⟨g2, K1, hg2, h1⟩ := gcd_both hg hx32
    obtain ⟨c, K2, hc, h2⟩ := common_loop (Kk := Kk) (rate := rate) hl d (i + 1) g2 (by omega) hg2
    refine ⟨c, K1 + K2 + 1, hc, fun K k hK hk => ?_⟩
    obtain ⟨k, rfl⟩ : ∃ m, k = m + 1 := ⟨k - 1, by omega⟩
    obtain ⟨e1, e2⟩ := h2 K k (by omega) (by omega)
    obtain ⟨e3, e4⟩ := h1 K (by omega)
    have hw : IntKind.wrap IntKind.i64 ((i : Int) + (1 : Int)) = ((i + 1 : Nat) : Int) := add1 (by omega)
    have hget : List.getD l (Int.toNat (i : Int)) 0 = (x : Int) := by rw [Int.toNat_natCast]; exact hx
    have hget2 : List.getD l (Int.toNat (i : Int) * 1) 0 = (x : Int) := by rw [Nat.mul_one]; exact hget
    have hu : IntKind.wrap IntKind.u64 (x : Int) = (x : Int) := wu (by omega) (by omega)
    rw [L65_3, L66_3, hget, hget2, hu, hw]
    refine ⟨?_, ?_⟩
    · refine (if_pos (dlt (by omega))).trans ((if_pos (inN (by omega))).trans ((if_neg (by decide)).trans ((if_neg (by decide)).trans ((if_pos rfl).trans ((if_pos (by omega)).trans (bind_of e3 e1))))))
    · refine bind_of count74 ((if_pos (dlt (by omega))).trans ((if_pos (inN (n := 3) (by omega))).trans ((if_pos (by omega)).trans (bind_of e4 e2))))
theorem common_both {Kk rate : Int} {l : List Int} (hl : U32 l) : ∃ (c K0 : Nat), ∀ K, K0 ≤ K → F65 K ((Kk, rate, l, ()), ()) () = some ((c : Int), ()) ∧ F66 K ((Kk, rate, l, ()), ()) () = some ((c : Int), ()) := by
  obtain ⟨c, K0, _, h⟩ := common_loop (Kk := Kk) (rate := rate) hl (gn rate) 0 0 (by omega) (by decide)
  refine ⟨c, K0, fun K hK => ?_⟩
  obtain ⟨e1, e2⟩ := h K K hK hK
  rw [F65, F66]
  exact ⟨bind_of used64 e1, e2⟩
/-! ### the checks -/
theorem bv32 {x : Nat} (hx : x < 4294967296) : (BitVec.ofInt 32 (x : Int)).toNat = x := by
  rw [BitVec.toNat_ofInt]; omega
theorem or32 {x y : Nat} (hx : x < 4294967296) (hy : y < 4294967296) : IntKind.wrap IntKind.u32 ((BitVec.toNat (BitVec.ofInt 32 (x : Int) ||| BitVec.ofInt 32 (y : Int)) : Nat) : Int) = ((x ||| y : Nat) : Int) := by
  rw [BitVec.toNat_or, bv32 hx, bv32 hy]
  have : x ||| y < 4294967296 := Nat.or_lt_two_pow (n := 32) hx hy
  exact IntWalk.u32_in _ ⟨by omega, by omega⟩
theorem and32 {x : Nat} (hx : x < 4294967296) : IntKind.wrap IntKind.u32 ((BitVec.toNat (BitVec.ofInt 32 (x : Int) &&& BitVec.ofInt 32 (1 : Int)) : Nat) : Int) = ((x % 2 : Nat) : Int) := by
  have h1 : (BitVec.ofInt 32 (1 : Int)).toNat = 1 := by decide
  rw [BitVec.toNat_and, bv32 hx, h1, Nat.and_one_is_mod]
  exact IntWalk.u32_in _ ⟨by omega, by omega⟩
theorem shr32 {x : Nat} {n : Nat} (hn : n ≤ 32) : shr' IntKind.u32 (x : Int) (n : Int) = ((x / 2 ^ n : Nat) : Int) := by
  unfold shr'
  rw [show min (Int.toNat (n : Int)) IntKind.u32.bits = n from by rw [Int.toNat_natCast]; exact Nat.min_eq_left hn]
  rw [Int.fdiv_eq_ediv_of_nonneg _ (Int.le_of_lt (Int.pow_pos (by omega)))]
  have e : ((2 : Int) ^ n) = ((2 ^ n : Nat) : Int) := by simp
  rw [e]; exact (Int.natCast_ediv _ _).symm
theorem div_one {g K : Nat} (h : g < 2 ^ K) (h1 : 1 ≤ K) : g / 2 ^ (K - 1) = if g.testBit (K - 1) then 1 else 0 := by
  rw [← testBit_div]
  have : g / 2 ^ (K - 1) < 2 := by
    rw [Nat.div_lt_iff_lt_mul (Nat.two_pow_pos _), Nat.mul_comm, ← Nat.pow_succ, show (K - 1).succ = K by omega]; exact h
  exact (Nat.mod_eq_of_lt this).symm
theorem mod_bit (x : Nat) : x % 2 = if x.testBit 0 then 1 else 0 := by
  have := testBit_div x 0
  simpa using this
theorem check_loop {K : Nat} {rate : Int} {l : List Int} (h3 : 3 ≤ K) (h32 : K ≤ 32) (hl : U32 l) (hrate : rate = 2 ∨ rate = 3) : ∀ (d i acc : Nat), i + d = gn rate → acc < 2 ^ K → ∃ (e : Int) (K0 : Nat), ∀ F k, K0 ≤ F → K0 ≤ k →
    L50_5 F k ((), (acc : Int), (2, gn rate), (gn rate : Int), (i : Int), ()) (((K : Int), rate, l, ()), ((K : Int), rate, l, ()), ()) = some (e, ()) ∧ L51_6 F k ((), acc.testBit 0, acc.testBit (K - 1), (i : Int), ()) (((K : Int), rate, l, ()), ()) = some (e, ())
  | 0, i, acc, hi, ha => by
    have hr : rate = (gn rate : Int) := by unfold gn; rcases hrate with rfl | rfl <;> rfl
    obtain ⟨c, K1, hc⟩ := common_both (Kk := (K : Int)) (rate := rate) hl
    have hp : 2 ^ K ≤ 2 ^ 32 := Nat.pow_le_pow_right (by decide) h32
    have ha32 : acc < 4294967296 := by omega
    have hw : IntKind.wrap IntKind.i64 ((K : Int) - (1 : Int)) = ((K - 1 : Nat) : Int) := by rw [wi (by omega) (by omega)]; omega
    have c1 : ¬ decide ((i : Int) < rate) = true := by rw [decide_eq_true_eq]; omega
    by_cases h0 : acc.testBit 0 = true
    · by_cases h1 : acc.testBit (K - 1) = true
      · by_cases hcc : c = 1
        · refine ⟨0, K1 + 1, fun F k hF hk => ?_⟩
          obtain ⟨k, rfl⟩ : ∃ m, k = m + 1 := ⟨k - 1, by omega⟩
          obtain ⟨e1, e2⟩ := hc F (by omega)
          rw [L50_5, L51_6, and32 ha32, hw, shr32 (by omega), div_one ha (by omega), mod_bit, h0, h1]
          exact ⟨(if_neg (ndlt (by omega))).trans ((if_neg (by decide)).trans ((if_neg (show ¬ (((K - 1 : Nat) : Int) < 0) by omega)).trans ((if_neg (by decide)).trans (bind_of e1 (if_neg (by rw [hcc]; decide)))))), (if_neg c1).trans ((if_neg (by decide)).trans ((if_neg (by decide)).trans (bind_of e2 (if_neg (by rw [hcc]; decide)))))⟩
        · refine ⟨52, K1 + 1, fun F k hF hk => ?_⟩
          obtain ⟨k, rfl⟩ : ∃ m, k = m + 1 := ⟨k - 1, by omega⟩
          obtain ⟨e1, e2⟩ := hc F (by omega)
          have cc : (!decide ((c : Int) = (1 : Int))) = true := by rw [decide_eq_false (show ¬ (c : Int) = 1 by omega)]; rfl
          rw [L50_5, L51_6, and32 ha32, hw, shr32 (by omega), div_one ha (by omega), mod_bit, h0, h1]
          exact ⟨(if_neg (ndlt (by omega))).trans ((if_neg (by decide)).trans ((if_neg (show ¬ (((K - 1 : Nat) : Int) < 0) by omega)).trans ((if_neg (by decide)).trans (bind_of e1 (if_pos cc))))), (if_neg c1).trans ((if_neg (by decide)).trans ((if_neg (by decide)).trans (bind_of e2 (if_pos cc))))⟩
      · have h1 : acc.testBit (K - 1) = false := by simpa using h1
        refine ⟨51, 1, fun F k hF hk => ?_⟩
        obtain ⟨k, rfl⟩ : ∃ m, k = m + 1 := ⟨k - 1, by omega⟩
        rw [L50_5, L51_6, and32 ha32, hw, shr32 (by omega), div_one ha (by omega), mod_bit, h0, h1]
        exact ⟨(if_neg (ndlt (by omega))).trans ((if_neg (by decide)).trans ((if_neg (show ¬ (((K - 1 : Nat) : Int) < 0) by omega)).trans (if_pos (by decide)))), (if_neg c1).trans ((if_neg (by decide)).trans (if_pos (by decide)))⟩
    · have h0 : acc.testBit 0 = false := by simpa using h0
      refine ⟨51, 1, fun F k hF hk => ?_⟩
      obtain ⟨k, rfl⟩ : ∃ m, k = m + 1 := ⟨k - 1, by omega⟩
      rw [L50_5, L51_6, and32 ha32, mod_bit, h0]
      exact ⟨(if_neg (ndlt (by omega))).trans (if_pos (by decide)), (if_neg c1).trans (if_pos (by decide))⟩
  | d + 1, i, acc, hi, ha => by
    have hr : rate = (gn rate : Int) := by unfold gn; rcases hrate with rfl | rfl <;> rfl
    have hg3 := gn_le rate
    obtain ⟨x, hx, hx32⟩ := hl.2 i (by omega)
    have hp : 2 ^ K ≤ 2 ^ 32 := Nat.pow_le_pow_right (by decide) h32
    have ha32 : acc < 4294967296 := by omega
    have hw : IntKind.wrap IntKind.i64 ((i : Int) + (1 : Int)) = ((i + 1 : Nat) : Int) := add1 (by omega)
    have hK1 : IntKind.wrap IntKind.i64 ((K : Int) - (1 : Int)) = ((K - 1 : Nat) : Int) := by rw [wi (by omega) (by omega)]; omega
    have hKu : IntKind.wrap IntKind.u64 (K : Int) = (K : Int) := wu (by omega) (by omega)
    have hKu1 : IntKind.wrap IntKind.u64 ((K - 1 : Nat) : Int) = ((K - 1 : Nat) : Int) := wu (by omega) (by omega)
    have hget : List.getD l (Int.toNat (i : Int)) 0 = (x : Int) := by rw [Int.toNat_natCast]; exact hx
    have hget2 : List.getD l (Int.toNat (i : Int) * 1) 0 = (x : Int) := by rw [Nat.mul_one]; exact hget
    have hu : IntKind.wrap IntKind.u64 (x : Int) = (x : Int) := wu (by omega) (by omega)
    have hsr := shrw (x := x) (n := K) (by omega) (by omega)
    have hsr1 := shrw (x := x) (n := K - 1) (by omega) (by omega)
    have c1 : decide ((i : Int) < rate) = true := decide_eq_true (by omega)
    by_cases hz : x = 0
    · refine ⟨50, 1, fun F k hF hk => ?_⟩
      obtain ⟨k, rfl⟩ : ∃ m, k = m + 1 := ⟨k - 1, by omega⟩
      rw [L50_5, L51_6, hget, hget2, hu]
      exact ⟨(if_pos (dlt (by omega))).trans ((if_pos (inN (by omega))).trans ((if_neg (by decide)).trans ((if_neg (by decide)).trans ((if_pos rfl).trans ((if_pos (by omega)).trans (if_pos (decide_eq_true (show (x : Int) = 0 by omega)))))))),
        (if_pos c1).trans ((if_pos (inN (n := 3) (by omega))).trans ((if_pos (by omega)).trans (if_pos (decide_eq_true (show (x : Int) = 0 by omega)))))⟩
    · have nz : ¬ decide ((x : Int) = (0 : Int)) = true := fun h => absurd (of_decide_eq_true h) (show ¬ (x : Int) = 0 by omega)
      by_cases hbig : x / 2 ^ K = 0
      · have hxK : x < 2 ^ K := by
          rcases Nat.lt_or_ge x (2 ^ K) with h | h
          · exact h
          · have := Nat.div_pos h (Nat.two_pow_pos K); omega
        have hor : acc ||| x < 2 ^ K := Nat.or_lt_two_pow ha hxK
        obtain ⟨e, K0, h⟩ := check_loop h3 h32 hl hrate d (i + 1) (acc ||| x) (by omega) hor
        refine ⟨e, K0 + 1, fun F k hF hk => ?_⟩
        obtain ⟨k, rfl⟩ : ∃ m, k = m + 1 := ⟨k - 1, by omega⟩
        obtain ⟨e1, e2⟩ := h F k (by omega) (by omega)
        rw [Nat.testBit_or, Nat.testBit_or] at e2
        rw [L50_5, L51_6, hget, hget2, hu, hw, hsr, hKu, hsr, hK1, hKu1, hsr1, hbig, or32 ha32 hx32]
        refine ⟨?_, ?_⟩
        · exact (if_pos (dlt (by omega))).trans ((if_pos (inN (by omega))).trans ((if_neg (by decide)).trans ((if_neg (by decide)).trans ((if_pos rfl).trans ((if_pos (by omega)).trans ((if_neg nz).trans ((if_neg (show ¬ ((K : Int) < 0) by omega)).trans ((if_neg (by decide)).trans e1))))))))
        · refine (if_pos c1).trans ((if_pos (inN (n := 3) (by omega))).trans ((if_pos (by omega)).trans ((if_neg nz).trans ((if_neg (show ¬ ((K : Int) < 0) by omega)).trans ((if_neg (by decide)).trans ?_)))))
          have t0 : decide (Int.tmod (x : Int) (2 : Int) = (1 : Int)) = x.testBit 0 := by
            rw [show Int.tmod (x : Int) (2 : Int) = ((x % 2 : Nat) : Int) from tmod_nat x 2, mod_bit]
            cases x.testBit 0 <;> rfl
          have t1 : decide (((x / 2 ^ (K - 1) : Nat) : Int) = (1 : Int)) = x.testBit (K - 1) := by
            rw [div_one hxK (by omega)]
            cases x.testBit (K - 1) <;> rfl
          rw [t0, t1]
          have nk : ¬ (((K - 1 : Nat) : Int) < 0) := by omega
          cases h0 : acc.testBit 0 <;> cases h1 : acc.testBit (K - 1) <;> rw [h0, h1] at e2
          · refine (if_neg (by decide)).trans ((if_neg (by decide)).trans ((if_neg nk).trans ?_))
            exact e2
          · refine (if_neg (by decide)).trans ((if_pos rfl).trans ?_)
            exact e2
          · refine (if_pos rfl).trans ((if_neg (by decide)).trans ((if_neg nk).trans ?_))
            exact e2
          · refine (if_pos rfl).trans ((if_pos rfl).trans ?_)
            exact e2
      · refine ⟨50, 1, fun F k hF hk => ?_⟩
        obtain ⟨k, rfl⟩ : ∃ m, k = m + 1 := ⟨k - 1, by omega⟩
        rw [L50_5, L51_6, hget, hget2, hu, hsr, hKu, hsr]
        exact ⟨(if_pos (dlt (by omega))).trans ((if_pos (inN (by omega))).trans ((if_neg (by decide)).trans ((if_neg (by decide)).trans ((if_pos rfl).trans ((if_pos (by omega)).trans ((if_neg nz).trans ((if_neg (show ¬ ((K : Int) < 0) by omega)).trans (if_pos (by rw [decide_eq_false (fun h : ((x / 2 ^ K : Nat) : Int) = 0 => hbig (Int.natCast_eq_zero.1 h))]; rfl))))))))),
          (if_pos c1).trans ((if_pos (inN (n := 3) (by omega))).trans ((if_pos (by omega)).trans ((if_neg nz).trans ((if_neg (show ¬ ((K : Int) < 0) by omega)).trans (if_pos (decide_eq_true (Int.natCast_pos.2 (Nat.pos_of_ne_zero hbig)))))))) ⟩
/-- Both checks tell the same; a good code's numbers. -/
theorem check_both {K rate : Int} {l : List Int} (hl : U32 l) : ∃ (e : Int) (K0 : Nat), (e = 0 → 3 ≤ K ∧ K ≤ 32 ∧ (rate = 2 ∨ rate = 3)) ∧ ∀ F, K0 ≤ F → F50 F ((K, rate, l, ()), ()) () = some (e, ()) ∧ F51 F ((K, rate, l, ()), ()) () = some (e, ()) := by
  by_cases h3 : K < 3
  · refine ⟨50, 0, (fun h => by cases h), fun F _ => ?_⟩
    rw [F50, F51]
    exact ⟨if_pos (decide_eq_true h3), if_pos (decide_eq_true h3)⟩
  by_cases h32 : 32 < K
  · refine ⟨50, 0, (fun h => by cases h), fun F _ => ?_⟩
    rw [F50, F51]
    have n3 : ¬ decide (K < (3 : Int)) = true := fun h => h3 (of_decide_eq_true h)
    exact ⟨(if_neg n3).trans (if_pos (decide_eq_true h32)), (if_neg n3).trans (if_pos (decide_eq_true h32))⟩
  have n3 : ¬ decide (K < (3 : Int)) = true := fun h => h3 (of_decide_eq_true h)
  have n32 : ¬ decide ((32 : Int) < K) = true := fun h => h32 (of_decide_eq_true h)
  obtain ⟨k, rfl⟩ : ∃ k : Nat, K = (k : Int) := Int.eq_ofNat_of_zero_le (by omega)
  have z0 : (0 : Nat).testBit 0 = false := rfl
  have zK : (0 : Nat).testBit (k - 1) = false := Nat.zero_testBit _
  by_cases h2 : rate = 2
  · subst h2
    by_cases hz : l.getD 2 0 = 0
    · obtain ⟨e, K0, h⟩ := check_loop (K := k) (rate := 2) (by omega) (by omega) hl (.inl rfl) (gn 2) 0 0 (by omega) (Nat.two_pow_pos _)
      rw [z0, zK] at h
      refine ⟨e, K0, fun _ => ⟨by omega, by omega, .inl rfl⟩, fun F hF => ?_⟩
      obtain ⟨e1, e2⟩ := h F F hF hF
      rw [F50, F51]
      have cz : ¬ (!decide (List.getD l 2 0 = (0 : Int))) = true := nd_t hz
      refine ⟨(if_neg n3).trans ((if_neg n32).trans ((if_neg (by decide)).trans ((if_pos (by decide)).trans ((if_neg cz).trans (bind_of used64 e1))))), (if_neg n3).trans ((if_neg n32).trans ((if_neg (by decide)).trans ((if_pos (by decide)).trans ((if_neg cz).trans e2))))⟩
    · refine ⟨50, 0, (fun h => by cases h), fun F _ => ?_⟩
      rw [F50, F51]
      have cz : (!decide (List.getD l 2 0 = (0 : Int))) = true := by rw [decide_eq_false hz]; rfl
      exact ⟨(if_neg n3).trans ((if_neg n32).trans ((if_neg (by decide)).trans ((if_pos (by decide)).trans (if_pos cz)))), (if_neg n3).trans ((if_neg n32).trans ((if_neg (by decide)).trans ((if_pos (by decide)).trans (if_pos cz))))⟩
  · have c2 : (!decide (rate = (2 : Int))) = true := by rw [decide_eq_false h2]; rfl
    have c2' : ¬ decide (rate = (2 : Int)) = true := fun h => h2 (of_decide_eq_true h)
    by_cases h3' : rate = 3
    · subst h3'
      obtain ⟨e, K0, h⟩ := check_loop (K := k) (rate := 3) (by omega) (by omega) hl (.inr rfl) (gn 3) 0 0 (by omega) (Nat.two_pow_pos _)
      rw [z0, zK] at h
      refine ⟨e, K0, fun _ => ⟨by omega, by omega, .inr rfl⟩, fun F hF => ?_⟩
      obtain ⟨e1, e2⟩ := h F F hF hF
      rw [F50, F51]
      refine ⟨(if_neg n3).trans ((if_neg n32).trans ((if_pos c2).trans ((if_neg (by decide)).trans ((if_neg c2').trans (bind_of used64 e1))))), (if_neg n3).trans ((if_neg n32).trans ((if_pos c2).trans ((if_neg (by decide)).trans ((if_neg c2').trans e2))))⟩
    · refine ⟨50, 0, (fun h => by cases h), fun F _ => ?_⟩
      rw [F50, F51]
      have c3 : (!decide (rate = (3 : Int))) = true := by rw [decide_eq_false h3']; rfl
      exact ⟨(if_neg n3).trans ((if_neg n32).trans ((if_pos c2).trans (if_pos c3))), (if_neg n3).trans ((if_neg n32).trans ((if_pos c2).trans (if_pos c3)))⟩
end Go.Eng.Pu

/- PunctureProblems, plain. No condition. -/
set_option linter.unusedVariables false
namespace Go.Eng.Pu
open Go Go.Eng Go.Proofs
theorem nd0 : ¬ (!decide ((0 : Int) = (0 : Int))) = true := by decide
/-- What both say of a table made wider. -/
theorem widen_ok {n : Int} {m : List Int} : ∃ (e n' : Int) (m' : List Int) (K : Nat), (∀ k, K ≤ k → F30 k ((n, m, ()), ()) () = some (((n', m', ()), e, ()), ()) ∧ F31 k ((n, m, ()), ()) () = some (((n', m', ()), e, ()), ())) ∧
    (e = 0 → n' = n + 1 ∧ m' = m ∧ 2 ≤ n ∧ n ≤ 15 ∧ ∃ K', ∀ k, K' ≤ k → F49 k ((n + 1, m, ()), ()) () = some (0, ())) := by
  obtain ⟨c, K1, h1, g1⟩ := chk32 (n := n) (m := m)
  obtain ⟨c', K2, h2, g2⟩ := chk32 (n := n + 1) (m := m)
  by_cases hc : c = 0
  · obtain ⟨b1, b2, b3⟩ := g1.1 hc
    by_cases h16 : n = 16
    · refine ⟨6, 0, List.replicate 32 0, K1, fun k hk => ?_, fun h => by cases h⟩
      have e1 := h1 k hk
      simp only [F30, F31]
      rw [hc] at e1
      rw [same49]
      exact ⟨bind_of e1 ((if_neg nd0).trans (if_pos (decide_eq_true h16))), bind_of e1 ((if_neg nd0).trans (if_pos (decide_eq_true h16)))⟩
    · refine ⟨0, n + 1, m, K1, fun k hk => ?_, fun _ => ⟨rfl, rfl, b1, by omega, K2, fun k hk => ?_⟩⟩
      · have e1 := h1 k hk
        have hw : IntKind.wrap IntKind.i64 (n + (1 : Int)) = n + 1 := wi (by omega) (by omega)
        simp only [F30, F31]
        rw [hc] at e1
        rw [same49, hw]
        have c16 : ¬ decide (n = (16 : Int)) = true := fun h => h16 (of_decide_eq_true h)
        exact ⟨bind_of e1 ((if_neg nd0).trans (if_neg c16)), bind_of e1 ((if_neg nd0).trans (if_neg c16))⟩
      · rw [same49, h2 k hk, g2.2 ⟨by omega, by omega, fun b r hb hr => ?_⟩]
        obtain ⟨w1, w2, w3⟩ := b3 b r hb hr
        exact ⟨w1, w2, fun h => w3 (by omega)⟩
  · refine ⟨c, 0, List.replicate 32 0, K1, fun k hk => ?_, fun h => (hc h).elim⟩
    have e1 := h1 k hk
    have cc : (!decide (c = (0 : Int))) = true := by rw [decide_eq_false hc]; rfl
    simp only [F30, F31]
    rw [same49]
    exact ⟨bind_of e1 (if_pos cc), bind_of e1 (if_pos cc)⟩
theorem fills_mem {per : Int} {keep : List Int} {r : Nat} {lv : Int} (h0 : 0 ≤ lv) : ∀ (n k : Nat) (w : List Int), (∀ v ∈ w, 0 ≤ v ∧ v < lv) → ∀ v ∈ fills per keep r lv n k w, 0 ≤ v ∧ v ≤ lv
  | 0, k, w, hw, v, hv => by simp [fills] at hv
  | n + 1, k, w, hw, v, hv => by
    have ht : ∀ v ∈ w.tail, 0 ≤ v ∧ v < lv := fun v hv => hw v (List.mem_of_mem_tail hv)
    simp only [fills] at hv
    split at hv
    · rcases List.mem_cons.1 hv with rfl | hv
      · cases w with
        | nil => exact ⟨Int.le_refl _, h0⟩
        | cons a w => have := hw a (by simp); exact ⟨this.1, by show a ≤ lv; omega⟩
      · exact fills_mem (per := per) (keep := keep) (r := r) h0 n (k + 1) w.tail ht v hv
    · rcases List.mem_cons.1 hv with rfl | hv
      · exact ⟨h0, Int.le_refl _⟩
      · exact fills_mem (per := per) (keep := keep) (r := r) h0 n (k + 1) w hw v hv
theorem loop36 {Kc rate lv L : Int} {gens tab c : List Int} (hc : ∀ v ∈ c, 0 ≤ v ∧ v < lv) (hlv : lv ≤ 1000) (hl : c.length ≤ 1000000) {F : Nat} : ∀ (d i k : Nat), i + d = c.length →
    L36_12 F (k + d + 1) ((), c, (c.length : Int), (i : Int), ()) ((Kc, rate, gens, lv, tab, L, c, ()), ()) = some (0, ())
  | 0, i, k, hi => by
    rw [L36_12]
    exact if_neg (ndlt (by omega))
  | d + 1, i, k, hi => by
    have hw : IntKind.wrap IntKind.i64 ((i : Int) + (1 : Int)) = ((i + 1 : Nat) : Int) := add1 (by omega)
    have hlt : i < c.length := by omega
    have hv := hc c[i] (List.getElem_mem hlt)
    have hg : List.getD c (Int.toNat (i : Int)) 0 = c[i] := by rw [Int.toNat_natCast, List.getD_eq_getElem?_getD, List.getElem?_eq_getElem hlt]; rfl
    have ih := loop36 (Kc := Kc) (rate := rate) (L := L) (gens := gens) (tab := tab) (F := F) hc hlv hl d (i + 1) k (by omega)
    rw [show k + (d + 1) + 1 = (k + d + 1) + 1 by omega, L36_12, hg, hw, wi (n := c[i]) (by omega) (by omega)]
    exact (if_pos (dlt hlt)).trans ((if_pos (inN hlt)).trans ((if_neg (fun h => absurd (of_decide_eq_true h) (show ¬ lv ≤ c[i] by omega))).trans ih))
/-- What both problems are. -/
theorem prob_ok {per x y z Kc rate n L : Int} {gens m w : List Int} (hx : 0 ≤ x ∧ x < 18446744073709551616) (hy : 0 ≤ y ∧ y < 18446744073709551616) (hz : 0 ≤ z ∧ z < 18446744073709551616) (hg : U32 gens) (hw8 : ∀ v ∈ w, 0 ≤ v ∧ v ≤ 255) :
    ∃ (e K1 r1 n1 L1 : Int) (g1 m1 c : List Int) (K : Nat), c.length ≤ 1000000 ∧
      (∀ k, K ≤ k → F33 k ((per, [x, y, z], ()), (Kc, rate, gens, ()), (n, m, ()), L, w, ()) () = some (((K1, r1, g1, n1, m1, L1, (), ()), e, ()), c, ()) ∧ F34 k ((per, [x, y, z], ()), (Kc, rate, gens, ()), (n, m, ()), L, w, ()) () = some (((K1, r1, g1, n1, m1, L1, (), ()), e, ()), c, ())) ∧
      (e = 0 → ∃ K', ∀ k, K' ≤ k → F36 k ((K1, r1, g1, n1, m1, L1, c, ()), ()) () = some (0, ())) := by
  obtain ⟨ec, Kc1, hgood, hcheck⟩ := check_both (K := Kc) (rate := rate) hg
  by_cases hec : ec = 0
  rotate_left
  · refine ⟨ec, 0, 0, 0, 0, List.replicate 3 0, List.replicate 32 0, [], Kc1, Nat.zero_le _, fun k hk => ?_, fun h => (hec h).elim⟩
    obtain ⟨e1, e2⟩ := hcheck k hk
    have cc : (!decide (ec = (0 : Int))) = true := by rw [decide_eq_false hec]; rfl
    rw [F33, F34]
    exact ⟨bind_of e1 (if_pos cc), bind_of e2 (if_pos cc)⟩
  subst hec
  obtain ⟨h3, h32, hrate⟩ := hgood rfl
  obtain ⟨ew, n', m', Kw, hwid, hwgood⟩ := widen_ok (n := n) (m := m)
  by_cases hew : ew = 0
  rotate_left
  · refine ⟨ew, 0, 0, 0, 0, List.replicate 3 0, List.replicate 32 0, [], Kc1 + Kw, Nat.zero_le _, fun k hk => ?_, fun h => (hew h).elim⟩
    obtain ⟨e1, e2⟩ := hcheck k (by omega)
    obtain ⟨e3, e4⟩ := hwid k (by omega)
    have cc : (!decide (ew = (0 : Int))) = true := by rw [decide_eq_false hew]; rfl
    rw [F33, F34]
    exact ⟨bind_of e1 ((if_neg nd0).trans (bind_of e3 (if_pos cc))), bind_of e2 ((if_neg nd0).trans (bind_of e4 (if_pos cc)))⟩
  subst hew
  obtain ⟨rfl, rfl, hn2, hn15, Kw2, h49⟩ := hwgood rfl
  have e28 := fun (k : Nat) (hk : 10 ≤ k) => by have := chk28 (per := per) (rate := rate) hx hy hz (k - 6); rwa [show k - 6 + 6 = k by omega] at this
  have e29 := fun (k : Nat) (hk : 10 ≤ k) => by have := chk29 (per := per) (rate := rate) hx hy hz (k - 5); rwa [show k - 5 + 5 = k by omega] at this
  by_cases hp : chk per x y z rate = 0
  rotate_left
  · refine ⟨chk per x y z rate, 0, 0, 0, 0, List.replicate 3 0, List.replicate 32 0, [], Kc1 + Kw + 10, Nat.zero_le _, fun k hk => ?_, fun h => (hp h).elim⟩
    obtain ⟨e1, e2⟩ := hcheck k (by omega)
    obtain ⟨e3, e4⟩ := hwid k (by omega)
    have cc : (!decide (chk per x y z rate = (0 : Int))) = true := by rw [decide_eq_false hp]; rfl
    have cc' : ¬ decide (chk per x y z rate = (0 : Int)) = true := fun h => hp (of_decide_eq_true h)
    rw [F33, F34]
    exact ⟨bind_of e1 ((if_neg nd0).trans (bind_of e3 ((if_neg nd0).trans (bind_of (e28 k (by omega)) (if_pos cc))))), bind_of e2 ((if_neg nd0).trans (bind_of e4 ((if_neg nd0).trans (bind_of (e29 k (by omega)) ((if_neg cc').trans (if_pos cc))))))⟩
  have p0 : ¬ (!decide (chk per x y z rate = (0 : Int))) = true := nd_t hp
  have p1 : decide (chk per x y z rate = (0 : Int)) = true := decide_eq_true hp
  by_cases hL : L < 1 ∨ 1024 < L
  · refine ⟨1, 0, 0, 0, 0, List.replicate 3 0, List.replicate 32 0, [], Kc1 + Kw + 10, Nat.zero_le _, fun k hk => ?_, fun h => by cases h⟩
    obtain ⟨e1, e2⟩ := hcheck k (by omega)
    obtain ⟨e3, e4⟩ := hwid k (by omega)
    rw [F33, F34]
    by_cases h1 : L < 1
    · have d1 := decide_eq_true h1
      exact ⟨bind_of e1 ((if_neg nd0).trans (bind_of e3 ((if_neg nd0).trans (bind_of (e28 k (by omega)) ((if_neg p0).trans (if_pos d1)))))), bind_of e2 ((if_neg nd0).trans (bind_of e4 ((if_neg nd0).trans (bind_of (e29 k (by omega)) ((if_pos p1).trans (if_pos d1))))))⟩
    · have d1 : ¬ decide (L < (1 : Int)) = true := fun h => h1 (of_decide_eq_true h)
      have d2 : decide ((1024 : Int) < L) = true := decide_eq_true (by omega)
      exact ⟨bind_of e1 ((if_neg nd0).trans (bind_of e3 ((if_neg nd0).trans (bind_of (e28 k (by omega)) ((if_neg p0).trans ((if_neg d1).trans (if_pos d2))))))), bind_of e2 ((if_neg nd0).trans (bind_of e4 ((if_neg nd0).trans (bind_of (e29 k (by omega)) ((if_pos p1).trans ((if_neg d1).trans (if_pos d2)))))))⟩
  have d1 : ¬ decide (L < (1 : Int)) = true := fun h => absurd (of_decide_eq_true h) (by omega)
  have d2 : ¬ decide ((1024 : Int) < L) = true := fun h => absurd (of_decide_eq_true h) (by omega)
  have hsteps : IntKind.wrap IntKind.i64 (IntKind.wrap IntKind.i64 (L + Kc) - (1 : Int)) = L + Kc - 1 := by rw [wi (n := L + Kc) (by omega) (by omega), wi (by omega) (by omega)]
  obtain ⟨ef, c, Kf, hcl, hfill⟩ := fill2_ok (per := per) (rate := rate) (lv := n) (steps := L + Kc - 1) hx hy hz hw8
  obtain ⟨Kg, ef', c', hf1, hf2, _⟩ := fill_ok (per := per) (rate := rate) (lv := n) (steps := L + Kc - 1) hx hy hz hw8
  have hsame : ef' = ef ∧ c' = c := by
    have h1 := (hfill (Kf + Kg) (by omega)).1
    have h2 := hf1 (Kf + Kg) (by omega)
    rw [h1] at h2
    simp only [Option.some.injEq, Prod.mk.injEq] at h2
    exact ⟨h2.1.2.1.symm, h2.2.1.symm⟩
  obtain ⟨rfl, rfl⟩ := hsame
  by_cases hef : ef' = 0
  rotate_left
  · refine ⟨ef', 0, 0, 0, 0, List.replicate 3 0, List.replicate 32 0, [], Kc1 + Kw + Kf + 10, Nat.zero_le _, fun k hk => ?_, fun h => (hef h).elim⟩
    obtain ⟨e1, e2⟩ := hcheck k (by omega)
    obtain ⟨e3, e4⟩ := hwid k (by omega)
    obtain ⟨e5, e6⟩ := hfill k (by omega)
    have cc : (!decide (ef' = (0 : Int))) = true := by rw [decide_eq_false hef]; rfl
    rw [F33, F34, hsteps]
    exact ⟨bind_of e1 ((if_neg nd0).trans (bind_of e3 ((if_neg nd0).trans (bind_of (e28 k (by omega)) ((if_neg p0).trans ((if_neg d1).trans ((if_neg d2).trans (bind_of e5 (if_pos cc))))))))), bind_of e2 ((if_neg nd0).trans (bind_of e4 ((if_neg nd0).trans (bind_of (e29 k (by omega)) ((if_pos p1).trans ((if_neg d1).trans ((if_neg d2).trans ((if_neg p0).trans (bind_of e6 (if_pos cc))))))))))⟩
  subst hef
  obtain ⟨_, l1, l2, hwlv, r, S, hr, hr0, hr3, hS, hS2, hwl, hfl⟩ := hf2 rfl
  refine ⟨0, Kc, rate, n + 1, L, gens, m', c', Kc1 + Kw + Kf + 10, hcl, fun k hk => ?_, fun _ => ⟨Kc1 + Kw2 + c'.length + 10, fun k hk => ?_⟩⟩
  · obtain ⟨e1, e2⟩ := hcheck k (by omega)
    obtain ⟨e3, e4⟩ := hwid k (by omega)
    obtain ⟨e5, e6⟩ := hfill k (by omega)
    rw [F33, F34, hsteps]
    exact ⟨bind_of e1 ((if_neg nd0).trans (bind_of e3 ((if_neg nd0).trans (bind_of (e28 k (by omega)) ((if_neg p0).trans ((if_neg d1).trans ((if_neg d2).trans (bind_of e5 (if_neg nd0))))))))), bind_of e2 ((if_neg nd0).trans (bind_of e4 ((if_neg nd0).trans (bind_of (e29 k (by omega)) ((if_pos p1).trans ((if_neg d1).trans ((if_neg d2).trans ((if_neg p0).trans (bind_of e6 (if_neg nd0))))))))))⟩
  · obtain ⟨e1, e2⟩ := hcheck k (by omega)
    have e3 := h49 k (by omega)
    have hcl2 : c'.length = r * S := by rw [hfl]; exact fills_len _ _ _ _ _ _ _
    have hrS : r * S ≤ 3165 := by have := Nat.mul_le_mul hr3 hS2; omega
    have hmem : ∀ v ∈ c', 0 ≤ v ∧ v < n + 1 := fun v hv => by
      rw [hfl] at hv
      have := fills_mem (show 0 ≤ n by omega) _ _ _ (fun v hv => ⟨(hw8 v hv).1, hwlv v hv⟩) v hv
      exact ⟨this.1, Int.lt_add_one_of_le this.2⟩
    have h52 : F52 ((Kc, rate, gens, n + 1, m', L, c', ()), ()) () = some ((S : Int), ()) := by
      rw [F52, hsteps, hS]
    have hlen : ((c'.length : Nat) : Int) = IntKind.wrap IntKind.i64 ((S : Int) * rate) := by
      rw [hr, ← Int.natCast_mul, wi (by have : S * r = r * S := Nat.mul_comm _ _; omega) (by have : S * r = r * S := Nat.mul_comm _ _; omega), hcl2, Nat.mul_comm]
    have h12 := loop36 (Kc := Kc) (rate := rate) (L := L) (gens := gens) (tab := m') (F := k) hmem (by omega) hcl c'.length 0 (k - c'.length - 1) (Nat.zero_add _)
    rw [show k - c'.length - 1 + c'.length + 1 = k by omega] at h12
    rw [F36]
    exact bind_of e1 ((if_neg nd0).trans (bind_of e3 ((if_neg nd0).trans ((if_neg d1).trans ((if_neg d2).trans (bind_of h52 ((if_neg (nd_t hlen)).trans h12)))))))
theorem u32_of {l : List Int} (hl : l.length = 3) (h : ∀ x ∈ l, 0 ≤ x ∧ x ≤ 4294967295) : U32 l := ⟨hl, fun i hi => by
  have hlt : i < l.length := by omega
  have hv := h l[i] (List.getElem_mem hlt)
  obtain ⟨g, hg⟩ := Int.eq_ofNat_of_zero_le hv.1
  refine ⟨g, ?_, by omega⟩
  rw [List.getD_eq_getElem?_getD, List.getElem?_eq_getElem hlt]; exact hg⟩
theorem problems {per x y z Kc rate n L : Int} {gens m w path : List Int} (hx : 0 ≤ x ∧ x < 18446744073709551616) (hy : 0 ≤ y ∧ y < 18446744073709551616) (hz : 0 ≤ z ∧ z < 18446744073709551616) (hg : U32 gens) (hw8 : ∀ v ∈ w, 0 ≤ v ∧ v ≤ 255) (hl : w.length ≤ 140737488351232) :
    ∃ k, F9 k ((per, [x, y, z], Kc, rate, gens, n, m, L, w, path, ()), ()) () = some (true, ()) := by
  obtain ⟨e, K1, r1, n1, L1, g1, m1, c, Kp, hcl, hprob, hgood⟩ := prob_ok (per := per) (Kc := Kc) (rate := rate) (n := n) (L := L) (m := m) hx hy hz hg hw8
  have hlen : (w ++ marks 0 8).length = w.length + 8 := by rw [List.length_append, marks_len]
  obtain ⟨K2, h2⟩ := apart2_ok (n := w.length) (A := c) (G := w ++ marks 0 8) (by omega) (by omega) (by omega)
  obtain ⟨K3, h36⟩ : ∃ K3, e = 0 → ∀ k, K3 ≤ k → F36 k ((K1, r1, g1, n1, m1, L1, c, ()), ()) () = some (0, ()) := by
    by_cases he : e = 0
    · obtain ⟨K', h⟩ := hgood he; exact ⟨K', fun _ => h⟩
    · exact ⟨0, fun h => (he h).elim⟩
  refine ⟨Kp + K2 + K3 + 40, ?_⟩
  obtain ⟨A', G', h18⟩ := h2 (Kp + K2 + K3 + 40) (by omega)
  obtain ⟨h33, h34⟩ := hprob (Kp + K2 + K3 + 40) (by omega)
  have h36 := fun he => h36 he (Kp + K2 + K3 + 40) (by omega)
  have h12 := lent_ok hl (Kp + K2 + K3 + 31)
  have h17 := stays_ok hl (Kp + K2 + K3 + 31)
  have h19 := live_ok (Kp + K2 + K3 + 10)
  rw [show Kp + K2 + K3 + 31 + 9 = Kp + K2 + K3 + 40 by omega] at h12 h17
  rw [show Kp + K2 + K3 + 10 + 30 = Kp + K2 + K3 + 40 by omega] at h19
  generalize Kp + K2 + K3 + 40 = k at *
  have et : List.take w.length (List.drop 0 (w ++ marks 0 8)) = w := by rw [List.drop_zero, List.take_left' rfl]
  have h16 : F16 (c, c, ()) () = some (true, ()) := by
    simp only [F16]
    rw [if_pos (by omega), if_pos (by omega), decide_true]
  have h33' : F33 k ((per, [x, y, z], ()), (Kc, rate, gens, ()), (n, m, ()), L, List.take w.length (List.drop 0 (w ++ marks 0 8)), ()) () = some (((K1, r1, g1, n1, m1, L1, (), ()), e, ()), c, ()) := by rw [et]; exact h33
  have h35 : F35 ((K1, r1, g1, n1, m1, L1, c, ()), (K1, r1, g1, n1, m1, L1, c, ()), ()) () = some (true, ()) := by
    rw [F35]
    simp only [decide_true, Bool.and_self]
    exact (if_pos trivial).trans ((if_pos trivial).trans ((if_pos trivial).trans (bind_of h16 rfl)))
  simp only [F9]
  refine bind_of h12 ?_
  refine bind_of h33' ?_
  refine bind_of h34 ?_
  refine bind_of (v := (e, ())) rfl ?_
  refine (if_pos (decide_eq_true rfl)).trans ?_
  refine bind_of h35 ?_
  refine (if_pos rfl).trans ?_
  refine bind_of h17 ?_
  refine (if_pos rfl).trans ?_
  by_cases he : e = 0
  · refine (if_neg (nd_t he)).trans ?_
    refine bind_of (h36 he) ?_
    refine bind_of (v := (0, ())) rfl ?_
    refine (if_pos (by decide)).trans ?_
    refine bind_of h18 ?_
    refine (if_pos rfl).trans ?_
    exact bind_of h19 rfl
  · refine (if_pos (by rw [decide_eq_false he]; rfl)).trans ?_
    refine bind_of h18 ?_
    refine (if_pos rfl).trans ?_
    exact bind_of h19 rfl
end Go.Eng.Pu

