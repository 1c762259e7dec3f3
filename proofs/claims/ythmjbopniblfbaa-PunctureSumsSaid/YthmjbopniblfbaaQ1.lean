/- What the functions of this seat come to, in plain Lean, part 1. No condition. -/
import Derived.Test.YthmjbopniblfbaaG1
import Derived.IntWalk
set_option linter.unusedVariables false
set_option linter.unusedSimpArgs false
/- Polynomials over the field of two elements: their ring, divisors, factors, residues. Plain Lean, no program. No condition. -/
set_option linter.unusedVariables false
/-! Polynomials over the field of two elements, as natural numbers: sums are exclusive ors; the product; degrees. Plain Lean, no program. -/
namespace Gf

/-- the product -/
def mul (a b : Nat) : Nat := if h : a = 0 then 0 else (if a % 2 = 1 then b else 0) ^^^ (2 * mul (a / 2) b)
termination_by a
decreasing_by omega

theorem mul_zero_left (b : Nat) : mul 0 b = 0 := by unfold mul; simp
theorem mul_step (a b : Nat) : mul a b = (if a % 2 = 1 then b else 0) ^^^ (2 * mul (a / 2) b) := by
  by_cases h : a = 0
  · subst h; simp [mul_zero_left]
  · rw [mul]; simp [h]

/-! ### exclusive or -/
theorem xor_zero (a : Nat) : a ^^^ 0 = a := Nat.xor_zero a
theorem xor_left_comm (a b c : Nat) : a ^^^ (b ^^^ c) = b ^^^ (a ^^^ c) := by rw [← Nat.xor_assoc, Nat.xor_comm a b, Nat.xor_assoc]
theorem xor_xor_cancel (a b : Nat) : a ^^^ (a ^^^ b) = b := by rw [← Nat.xor_assoc, Nat.xor_self, Nat.zero_xor]
theorem xor_eq_zero {a b : Nat} : a ^^^ b = 0 ↔ a = b := by
  constructor
  · intro h
    have := congrArg (fun x => x ^^^ b) h
    simpa [Nat.xor_assoc] using this
  · rintro rfl; exact Nat.xor_self a
theorem xor_right_inj {a b c : Nat} (h : a ^^^ c = b ^^^ c) : a = b := by
  have := congrArg (fun x => x ^^^ c) h
  simpa [Nat.xor_assoc] using this
theorem xor_left_inj {a b c : Nat} (h : c ^^^ a = c ^^^ b) : a = b := by
  rw [Nat.xor_comm c a, Nat.xor_comm c b] at h; exact xor_right_inj h
theorem xor_eq_iff {a b c : Nat} : a ^^^ b = c ↔ a = c ^^^ b := by
  constructor
  · rintro rfl; rw [Nat.xor_assoc, Nat.xor_self, Nat.xor_zero]
  · rintro rfl; rw [Nat.xor_assoc, Nat.xor_self, Nat.xor_zero]
theorem two_mul_xor (a b : Nat) : 2 * (a ^^^ b) = 2 * a ^^^ 2 * b := by
  have h := Nat.shiftLeft_xor_distrib (a := a) (b := b) (i := 1)
  simpa [Nat.shiftLeft_eq, Nat.mul_comm] using h
theorem xor_div_two (a b : Nat) : (a ^^^ b) / 2 = a / 2 ^^^ b / 2 := by
  have h := Nat.shiftRight_xor_distrib (a := a) (b := b) (i := 1)
  simpa [Nat.shiftRight_eq_div_pow] using h
theorem xor_mod_two (a b : Nat) : (a ^^^ b) % 2 = (a % 2 + b % 2) % 2 := by
  have h := Nat.testBit_xor (x := a) (y := b) (i := 0)
  simp only [Nat.testBit_zero] at h
  rcases Nat.mod_two_eq_zero_or_one (a ^^^ b) with h3 | h3 <;> rcases Nat.mod_two_eq_zero_or_one a with h1 | h1 <;> rcases Nat.mod_two_eq_zero_or_one b with h2 | h2 <;> rw [h1, h2, h3] at h ⊢ <;> simp at h ⊢
theorem even_xor_one (a : Nat) : 2 * a ^^^ 1 = 2 * a + 1 := by
  have h1 := xor_div_two (2 * a) 1
  have h2 := xor_mod_two (2 * a) 1
  have h3 : 2 * a / 2 = a := by omega
  have h4 : 1 / 2 = 0 := by omega
  rw [h3, h4, Nat.xor_zero] at h1
  omega
theorem halves (a : Nat) : a = (if a % 2 = 1 then 1 else 0) ^^^ 2 * (a / 2) := by
  rcases Nat.mod_two_eq_zero_or_one a with h | h
  · rw [if_neg (by omega), Nat.zero_xor]; omega
  · rw [if_pos h, Nat.xor_comm, even_xor_one]; omega

/-! ### the ring -/
theorem mul_zero (a : Nat) : mul a 0 = 0 := by
  induction a using Nat.strongRecOn with
  | _ a ih =>
    by_cases h : a = 0
    · subst h; exact mul_zero_left 0
    · rw [mul_step, ih (a / 2) (by omega)]; simp
theorem one_mul (b : Nat) : mul 1 b = b := by rw [mul_step]; simp [mul_zero_left]
theorem mul_xor (a b c : Nat) : mul a (b ^^^ c) = mul a b ^^^ mul a c := by
  induction a using Nat.strongRecOn with
  | _ a ih =>
    by_cases h : a = 0
    · subst h; simp [mul_zero_left]
    · rw [mul_step, mul_step a b, mul_step a c, ih (a / 2) (by omega), two_mul_xor]
      split
      · ac_rfl
      · simp
theorem mul_two_right (a b : Nat) : mul a (2 * b) = 2 * mul a b := by
  induction a using Nat.strongRecOn with
  | _ a ih =>
    by_cases h : a = 0
    · subst h; simp [mul_zero_left]
    · rw [mul_step, mul_step a b, ih (a / 2) (by omega), two_mul_xor]
      split <;> simp
theorem mul_two_left (a b : Nat) : mul (2 * a) b = 2 * mul a b := by
  rw [mul_step]
  have h1 : ¬ (2 * a) % 2 = 1 := by omega
  have h2 : 2 * a / 2 = a := by omega
  rw [if_neg h1, h2, Nat.zero_xor]
theorem xor_mul (a b c : Nat) : mul (a ^^^ b) c = mul a c ^^^ mul b c := by
  induction a using Nat.strongRecOn generalizing b with
  | _ a ih =>
    by_cases h : a = 0
    · subst h; simp [mul_zero_left]
    · rw [mul_step (a ^^^ b), mul_step a, mul_step b, xor_div_two, ih (a / 2) (by omega), two_mul_xor, xor_mod_two]
      rcases Nat.mod_two_eq_zero_or_one a with h1 | h1 <;> rcases Nat.mod_two_eq_zero_or_one b with h2 | h2 <;> simp [h1, h2]
      · rw [xor_left_comm]
      · rw [Nat.xor_assoc]
      · have : c ^^^ 2 * mul (a / 2) c ^^^ (c ^^^ 2 * mul (b / 2) c) = (c ^^^ c) ^^^ (2 * mul (a / 2) c ^^^ 2 * mul (b / 2) c) := by ac_rfl
        rw [this, Nat.xor_self, Nat.zero_xor]
theorem mul_one (a : Nat) : mul a 1 = a := by
  induction a using Nat.strongRecOn with
  | _ a ih =>
    by_cases h : a = 0
    · subst h; exact mul_zero_left 1
    · rw [mul_step, ih (a / 2) (by omega), ← halves]
theorem mul_comm (a b : Nat) : mul a b = mul b a := by
  induction a using Nat.strongRecOn with
  | _ a ih =>
    by_cases h : a = 0
    · subst h; rw [mul_zero_left, mul_zero]
    · rw [mul_step, ih (a / 2) (by omega), ← mul_two_right]
      conv => rhs; rw [halves a, mul_xor]
      split
      · rw [mul_one]
      · rw [mul_zero]
theorem mul_assoc (a b c : Nat) : mul (mul a b) c = mul a (mul b c) := by
  induction a using Nat.strongRecOn with
  | _ a ih =>
    by_cases h : a = 0
    · subst h; simp [mul_zero_left]
    · rw [mul_step a b, xor_mul, mul_two_left, ih (a / 2) (by omega), mul_step a (mul b c)]
      split
      · rfl
      · simp [mul_zero_left]
theorem mul_left_comm (a b c : Nat) : mul a (mul b c) = mul b (mul a c) := by rw [← mul_assoc, mul_comm a b, mul_assoc]

/-! ### sizes: a < 2 ^ n says that the degree is below n -/
theorem xor_lt {a b n : Nat} (ha : a < 2 ^ n) (hb : b < 2 ^ n) : a ^^^ b < 2 ^ n := Nat.xor_lt_two_pow ha hb
theorem xor_top {a b n : Nat} (ha : a < 2 ^ n) (h1 : 2 ^ n ≤ b) (h2 : b < 2 ^ (n + 1)) : 2 ^ n ≤ a ^^^ b ∧ a ^^^ b < 2 ^ (n + 1) := by
  have hlt : a ^^^ b < 2 ^ (n + 1) := xor_lt (Nat.lt_trans ha (Nat.pow_lt_pow_right (by omega) (by omega))) h2
  refine ⟨?_, hlt⟩
  rcases Nat.lt_or_ge (a ^^^ b) (2 ^ n) with h | h
  · have : a ^^^ (a ^^^ b) < 2 ^ n := xor_lt ha h
    rw [xor_xor_cancel] at this
    omega
  · exact h
theorem top_bit {a n : Nat} (h1 : 2 ^ n ≤ a) (h2 : a < 2 ^ (n + 1)) : a.testBit n = true := by
  have e : a / 2 ^ n = 1 := Nat.div_eq_of_lt_le (by omega) (by rw [Nat.pow_succ] at h2; omega)
  rw [Nat.testBit_eq_decide_div_mod_eq, e]; rfl
theorem log2_eq {a n : Nat} (h1 : 2 ^ n ≤ a) (h2 : a < 2 ^ (n + 1)) : a.log2 = n := by
  have h0 : a ≠ 0 := by have := Nat.two_pow_pos n; omega
  exact (Nat.log2_eq_iff h0).2 ⟨h1, h2⟩
theorem pow_log2_le {a : Nat} (h : a ≠ 0) : 2 ^ a.log2 ≤ a := Nat.log2_self_le h
theorem lt_pow_log2 (a : Nat) : a < 2 ^ (a.log2 + 1) := Nat.lt_log2_self
theorem log2_lt {a n : Nat} (h : a ≠ 0) : a.log2 < n ↔ a < 2 ^ n := Nat.log2_lt h
theorem log2_div_two {a : Nat} (h : 2 ≤ a) : (a / 2).log2 + 1 = a.log2 := by
  rw [Nat.log2_def a, if_pos h]

theorem mul_size {a b : Nat} (ha : a ≠ 0) (hb : b ≠ 0) : 2 ^ (a.log2 + b.log2) ≤ mul a b ∧ mul a b < 2 ^ (a.log2 + b.log2 + 1) := by
  induction a using Nat.strongRecOn with
  | _ a ih =>
    by_cases h1 : a = 1
    · subst h1
      have : Nat.log2 1 = 0 := by decide
      rw [one_mul, this, Nat.zero_add]
      exact ⟨pow_log2_le hb, lt_pow_log2 b⟩
    · have h2 : 2 ≤ a := by omega
      obtain ⟨i1, i2⟩ := ih (a / 2) (by omega) (by omega)
      have hl := log2_div_two h2
      have e1 : a.log2 + b.log2 = ((a / 2).log2 + b.log2) + 1 := by omega
      rw [mul_step, e1]
      refine xor_top ?_ ?_ ?_
      · split
        · exact Nat.lt_of_lt_of_le (lt_pow_log2 b) (Nat.pow_le_pow_right (by omega) (by omega))
        · exact Nat.two_pow_pos _
      · rw [Nat.pow_succ]; omega
      · rw [Nat.pow_succ 2 (_ + 1)]; omega
theorem mul_ne_zero {a b : Nat} (ha : a ≠ 0) (hb : b ≠ 0) : mul a b ≠ 0 := by
  have := (mul_size ha hb).1
  have := Nat.two_pow_pos (a.log2 + b.log2)
  omega
theorem log2_mul {a b : Nat} (ha : a ≠ 0) (hb : b ≠ 0) : (mul a b).log2 = a.log2 + b.log2 := log2_eq (mul_size ha hb).1 (mul_size ha hb).2
theorem mul_eq_zero {a b : Nat} : mul a b = 0 ↔ a = 0 ∨ b = 0 := by
  constructor
  · intro h
    by_cases ha : a = 0
    · exact .inl ha
    · by_cases hb : b = 0
      · exact .inr hb
      · exact absurd h (mul_ne_zero ha hb)
  · rintro (rfl | rfl)
    · exact mul_zero_left b
    · exact mul_zero a
theorem mul_left_cancel {a b c : Nat} (ha : a ≠ 0) (h : mul a b = mul a c) : b = c := by
  have : mul a (b ^^^ c) = 0 := by rw [mul_xor, h, Nat.xor_self]
  rcases mul_eq_zero.1 this with h' | h'
  · exact absurd h' ha
  · exact xor_eq_zero.1 h'
theorem mul_lt {a b n m : Nat} (ha : a < 2 ^ n) (hb : b < 2 ^ (m + 1)) : mul a b < 2 ^ (n + m) := by
  by_cases h1 : a = 0
  · subst h1; rw [mul_zero_left]; exact Nat.two_pow_pos _
  by_cases h2 : b = 0
  · subst h2; rw [mul_zero]; exact Nat.two_pow_pos _
  have l1 : a.log2 < n := (log2_lt h1).2 ha
  have l2 : b.log2 < m + 1 := (log2_lt h2).2 hb
  exact Nat.lt_of_lt_of_le (mul_size h1 h2).2 (Nat.pow_le_pow_right (by omega) (by omega))

/-! ### powers of x -/
theorem mul_pow_two (a n : Nat) : mul a (2 ^ n) = a * 2 ^ n := by
  induction n with
  | zero => simp [mul_one]
  | succ n ih => rw [Nat.pow_succ, Nat.mul_comm (2 ^ n) 2, mul_two_right, ih]; ac_rfl
theorem pow_two_mul (a n : Nat) : mul (2 ^ n) a = a * 2 ^ n := by rw [mul_comm, mul_pow_two]

/-! ### division, with its uniqueness -/
/-- what is told of a quotient and a remainder -/
structure IsDiv (a b q r : Nat) : Prop where
  eq : a = mul q b ^^^ r
  lt : r < 2 ^ b.log2
theorem IsDiv.unique {a b q r q' r' : Nat} (hb : b ≠ 0) (h : IsDiv a b q r) (h' : IsDiv a b q' r') : q = q' ∧ r = r' := by
  have e : mul (q ^^^ q') b = r ^^^ r' := by
    rw [xor_mul]
    have := h.eq.symm.trans h'.eq
    have e2 : mul q b ^^^ mul q' b ^^^ (r ^^^ r') = (mul q b ^^^ r) ^^^ (mul q' b ^^^ r') := by ac_rfl
    rw [this, Nat.xor_self] at e2
    exact xor_eq_zero.1 e2
  have hlt : mul (q ^^^ q') b < 2 ^ b.log2 := by rw [e]; exact xor_lt h.lt h'.lt
  have hq : q ^^^ q' = 0 := by
    by_cases hz : q ^^^ q' = 0
    · exact hz
    · have := (mul_size hz hb).1
      have := Nat.pow_le_pow_right (n := 2) (by omega) (show b.log2 ≤ (q ^^^ q').log2 + b.log2 by omega)
      omega
  have hr : r ^^^ r' = 0 := by rw [← e, hq, mul_zero_left]
  exact ⟨xor_eq_zero.1 hq, xor_eq_zero.1 hr⟩

theorem div_exists (b : Nat) (hb : b ≠ 0) (n a : Nat) (ha : a < 2 ^ n) : ∃ q r, IsDiv a b q r := by
  induction n generalizing a with
  | zero =>
    refine ⟨0, 0, ?_, Nat.two_pow_pos _⟩
    simp [mul_zero_left]; omega
  | succ n ih =>
    rcases Nat.lt_or_ge a (2 ^ n) with h | h
    · exact ih a h
    · by_cases hd : n < b.log2
      · refine ⟨0, a, by simp [mul_zero_left], Nat.lt_of_lt_of_le ha (Nat.pow_le_pow_right (by omega) (by omega))⟩
      · have e : mul (2 ^ (n - b.log2)) b = b * 2 ^ (n - b.log2) := pow_two_mul _ _
        have hs1 : 2 ^ n ≤ b * 2 ^ (n - b.log2) := by
          have := Nat.mul_le_mul_right (2 ^ (n - b.log2)) (pow_log2_le hb)
          rwa [← Nat.pow_add, Nat.add_sub_cancel' (by omega)] at this
        have hs2 : b * 2 ^ (n - b.log2) < 2 ^ (n + 1) := by
          have := Nat.mul_lt_mul_of_pos_right (lt_pow_log2 b) (Nat.two_pow_pos (n - b.log2))
          rwa [← Nat.pow_add, show b.log2 + 1 + (n - b.log2) = n + 1 by omega] at this
        have hlt : a ^^^ b * 2 ^ (n - b.log2) < 2 ^ n := by
          rcases Nat.lt_or_ge (a ^^^ b * 2 ^ (n - b.log2)) (2 ^ n) with h' | h'
          · exact h'
          · have h3 := xor_lt ha hs2
            -- both have the bit n: their sum has not
            have t1 := top_bit h ha
            have t2 := top_bit hs1 hs2
            have t3 := top_bit h' h3
            rw [Nat.testBit_xor, t1, t2] at t3
            simp at t3
        obtain ⟨q, r, hqr⟩ := ih _ hlt
        refine ⟨2 ^ (n - b.log2) ^^^ q, r, ?_, hqr.lt⟩
        rw [xor_mul, e, Nat.xor_assoc, ← hqr.eq, Nat.xor_comm a, xor_xor_cancel]
theorem div_all (a b : Nat) (hb : b ≠ 0) : ∃ q r, IsDiv a b q r := div_exists b hb (a.log2 + 1) a (lt_pow_log2 a)
open Classical in
/-- the quotient; the remainder (of nothing by 0) -/
noncomputable def quo (a b : Nat) : Nat := if hb : b = 0 then 0 else Classical.choose (div_all a b hb)
open Classical in
noncomputable def rem (a b : Nat) : Nat := if hb : b = 0 then a else Classical.choose (Classical.choose_spec (div_all a b hb))
theorem isDiv (a b : Nat) (hb : b ≠ 0) : IsDiv a b (quo a b) (rem a b) := by
  unfold quo rem
  rw [dif_neg hb, dif_neg hb]
  exact Classical.choose_spec (Classical.choose_spec (div_all a b hb))
theorem IsDiv.quo_eq {a b q r : Nat} (hb : b ≠ 0) (h : IsDiv a b q r) : quo a b = q := ((isDiv a b hb).unique hb h).1
theorem IsDiv.rem_eq {a b q r : Nat} (hb : b ≠ 0) (h : IsDiv a b q r) : rem a b = r := ((isDiv a b hb).unique hb h).2
theorem rem_lt (a b : Nat) (hb : b ≠ 0) : rem a b < 2 ^ b.log2 := (isDiv a b hb).lt
theorem rem_lt' (a b : Nat) (hb : b ≠ 0) : rem a b < b := Nat.lt_of_lt_of_le (rem_lt a b hb) (pow_log2_le hb)
theorem div_eq (a b : Nat) (hb : b ≠ 0) : a = mul (quo a b) b ^^^ rem a b := (isDiv a b hb).eq
theorem rem_of_lt {a b : Nat} (hb : b ≠ 0) (h : a < 2 ^ b.log2) : rem a b = a := IsDiv.rem_eq (q := 0) hb ⟨by simp [mul_zero_left], h⟩
theorem rem_zero (b : Nat) (hb : b ≠ 0) : rem 0 b = 0 := rem_of_lt hb (Nat.two_pow_pos _)
theorem rem_xor (a c b : Nat) (hb : b ≠ 0) : rem (a ^^^ c) b = rem a b ^^^ rem c b := by
  refine IsDiv.rem_eq (q := quo a b ^^^ quo c b) hb ⟨?_, xor_lt (rem_lt a b hb) (rem_lt c b hb)⟩
  rw [xor_mul]
  conv => lhs; rw [div_eq a b hb, div_eq c b hb]
  ac_rfl
theorem rem_rem (a b : Nat) (hb : b ≠ 0) : rem (rem a b) b = rem a b := rem_of_lt hb (rem_lt a b hb)
theorem rem_mul_self (c b : Nat) (hb : b ≠ 0) : rem (mul c b) b = 0 := IsDiv.rem_eq (q := c) hb ⟨by simp, Nat.two_pow_pos _⟩
theorem rem_mul_left (a c b : Nat) (hb : b ≠ 0) : rem (mul (rem a b) c) b = rem (mul a c) b := by
  conv => rhs; rw [div_eq a b hb, xor_mul, mul_assoc, mul_comm b c, ← mul_assoc, rem_xor _ _ _ hb, rem_mul_self _ _ hb, Nat.zero_xor]
theorem rem_mul_right (a c b : Nat) (hb : b ≠ 0) : rem (mul a (rem c b)) b = rem (mul a c) b := by
  rw [mul_comm, rem_mul_left _ _ _ hb, mul_comm]

end Gf

/- From some number of rounds on. No condition. -/
namespace Go.Eng.Pu
open Go Go.Eng Go.Proofs
def Ev {α : Type} (f : Nat → Option α) (v : α) : Prop := ∃ K, ∀ k, K ≤ k → f k = some v
theorem Ev.of_succ {α : Type} {f g : Nat → Option α} {v : α} (h : ∀ k, f (k + 1) = g k) (hg : Ev g v) : Ev f v := by
  obtain ⟨K, hK⟩ := hg
  refine ⟨K + 1, fun k hk => ?_⟩
  obtain ⟨j, rfl⟩ : ∃ j, k = j + 1 := ⟨k - 1, by omega⟩
  rw [h]; exact hK j (by omega)
theorem Ev.now {α : Type} {f : Nat → Option α} {v : α} (h : ∀ k, f (k + 1) = some v) : Ev f v := Ev.of_succ (g := fun _ => some v) h ⟨0, fun _ _ => rfl⟩
theorem wi {n : Int} (h0 : -9223372036854775808 ≤ n) (h : n ≤ 9223372036854775807) : IntKind.wrap IntKind.i64 n = n := by rw [IntKind.wrap_i64]; omega
theorem wu {n : Int} (h0 : 0 ≤ n) (h : n < 18446744073709551616) : IntKind.wrap IntKind.u64 n = n := by exact IntWalk.u64_in n ⟨h0, by omega⟩
theorem w1 : IntKind.wrap IntKind.i64 (0 + 1) = 1 := by decide
theorem w2 : IntKind.wrap IntKind.i64 (1 + 1) = 2 := by decide
theorem w3 : IntKind.wrap IntKind.i64 (2 + 1) = 3 := by decide
theorem w4 : IntKind.wrap IntKind.i64 (3 + 1) = 4 := by decide
theorem shr_lt {x : Int} (h0 : 0 ≤ x) (h1 : x < 18446744073709551616) {s : Nat} (hs : s ≤ 64) : shr' IntKind.u64 x (s : Int) = x / 2 ^ s := by
  unfold shr'
  rw [show min (Int.toNat (s : Int)) IntKind.u64.bits = s from by rw [Int.toNat_natCast]; exact Nat.min_eq_left hs]
  rw [Int.fdiv_eq_ediv_of_nonneg _ (Int.le_of_lt (Int.pow_pos (by omega)))]
theorem and_one {x : Int} (h0 : 0 ≤ x) (h1 : x < 18446744073709551616) : IntKind.wrap IntKind.u64 (((BitVec.ofInt 64 x &&& BitVec.ofInt 64 1).toNat : Nat) : Int) = x % 2 := by
  obtain ⟨n, rfl⟩ := Int.eq_ofNat_of_zero_le h0
  have e : (BitVec.ofInt 64 (n : Int) &&& BitVec.ofInt 64 1).toNat = n % 2 := by
    rw [BitVec.toNat_and, BitVec.toNat_ofInt, BitVec.toNat_ofInt]
    rw [show ((n : Int) % ((2 ^ 64 : Nat) : Int)).toNat = n from by omega, show ((1 : Int) % ((2 ^ 64 : Nat) : Int)).toNat = 1 from by decide, Nat.and_one_is_mod]
  rw [e, wu (by omega) (by omega)]; omega
theorem or_zero {x y : Int} (hx0 : 0 ≤ x) (hx1 : x < 18446744073709551616) (hy0 : 0 ≤ y) (hy1 : y < 18446744073709551616) :
    (IntKind.wrap IntKind.u64 (((BitVec.ofInt 64 x ||| BitVec.ofInt 64 y).toNat : Nat) : Int) = 0 ↔ x = 0 ∧ y = 0) ∧ 0 ≤ IntKind.wrap IntKind.u64 (((BitVec.ofInt 64 x ||| BitVec.ofInt 64 y).toNat : Nat) : Int) ∧ IntKind.wrap IntKind.u64 (((BitVec.ofInt 64 x ||| BitVec.ofInt 64 y).toNat : Nat) : Int) < 18446744073709551616 := by
  obtain ⟨n, rfl⟩ := Int.eq_ofNat_of_zero_le hx0
  obtain ⟨m, rfl⟩ := Int.eq_ofNat_of_zero_le hy0
  have e : (BitVec.ofInt 64 (n : Int) ||| BitVec.ofInt 64 (m : Int)).toNat = n ||| m := by
    rw [BitVec.toNat_or, BitVec.toNat_ofInt, BitVec.toNat_ofInt]
    rw [show ((n : Int) % ((2 ^ 64 : Nat) : Int)).toNat = n from by omega, show ((m : Int) % ((2 ^ 64 : Nat) : Int)).toNat = m from by omega]
  have hlt : n ||| m < 2 ^ 64 := Nat.or_lt_two_pow (by omega) (by omega)
  rw [e, wu (by omega) (by omega)]
  refine ⟨?_, by omega, by omega⟩
  constructor
  · intro h
    have h : n ||| m = 0 := by omega
    have := Nat.or_eq_zero_iff.1 h
    omega
  · rintro ⟨h1, h2⟩
    have h1 : n = 0 := by omega
    have h2 : m = 0 := by omega
    subst h1 h2; rfl
/-- Is the i-th symbol of the step t kept? -/
def kb (per : Int) (keep : List Int) (i t : Int) : Bool := decide (keep.getD i.toNat 0 / 2 ^ (t % per).toNat % 2 = 1)
structure Pat (per : Int) (keep : List Int) : Prop where
  len : keep.length = 3
  u64 : ∀ x ∈ keep, 0 ≤ x ∧ x < 18446744073709551616
  lo : 1 ≤ per
  hi : per ≤ 64
theorem Pat.at {per : Int} {keep : List Int} (h : Pat per keep) {i : Nat} (hi : i < 3) : 0 ≤ keep.getD i 0 ∧ keep.getD i 0 < 18446744073709551616 := by
  have h1 : i < keep.length := by rw [h.len]; exact hi
  rw [List.getD_eq_getElem?_getD, List.getElem?_eq_getElem h1]
  exact h.u64 _ (List.getElem_mem h1)
theorem bit_ok {per : Int} {keep : List Int} (h : Pat per keep) {i t : Int} (hi0 : 0 ≤ i) (hi : i < 3) (ht : 0 ≤ t) :
    IntKind.wrap IntKind.u64 (((BitVec.ofInt 64 (shr' IntKind.u64 (keep.getD (i.toNat * 1) 0) (t.tmod per)) &&& BitVec.ofInt 64 1).toNat : Nat) : Int) = keep.getD i.toNat 0 / 2 ^ (t % per).toNat % 2 := by
  obtain ⟨a, b⟩ := h.at (i := i.toNat) (by omega)
  have hl := h.lo; have hh := h.hi
  have hm0 : 0 ≤ t % per := Int.emod_nonneg _ (by omega)
  have hm1 : t % per < per := Int.emod_lt_of_pos _ (by omega)
  rw [Nat.mul_one, Int.tmod_eq_emod_of_nonneg ht]
  obtain ⟨s, hs⟩ := Int.eq_ofNat_of_zero_le hm0
  rw [hs, shr_lt a b (by omega), Int.toNat_natCast]
  have hd0 : 0 ≤ keep.getD i.toNat 0 / 2 ^ s := Int.ediv_nonneg a (Int.le_of_lt (Int.pow_pos (by omega)))
  have hd1 : keep.getD i.toNat 0 / 2 ^ s ≤ keep.getD i.toNat 0 := Int.ediv_le_self _ a
  exact and_one hd0 (by omega)
theorem keep63 {per : Int} {keep : List Int} (h : Pat per keep) {i t : Int} (hi0 : 0 ≤ i) (hi : i < 3) (ht : 0 ≤ t) : F63 (t, i, (), ()) ((per, keep, ()), ()) = some (kb per keep i t, (per, keep, ()), ()) := by
  have hl := h.lo
  have hm : ¬ t.tmod per < 0 := by rw [Int.tmod_eq_emod_of_nonneg ht]; have := Int.emod_nonneg t (b := per) (by omega); omega
  simp only [F63]
  rw [if_pos ⟨hi0, hi⟩, if_pos (show i.toNat * 1 < 3 by omega), if_neg (show ¬ per = 0 by omega), if_neg hm, bit_ok h hi0 hi ht]
  congr 2
  unfold kb
  rcases Int.emod_two_eq (keep.getD i.toNat 0 / 2 ^ (t % per).toNat) with e | e <;> rw [e] <;> rfl
theorem keep42 {per : Int} {keep : List Int} (h : Pat per keep) {i t : Int} (hi0 : 0 ≤ i) (hi : i < 3) (ht : 0 ≤ t) : F42 ((per, keep, ()), i, t, ()) () = some (kb per keep i t, ()) := by
  have hl := h.lo; have hh := h.hi
  have hm0 : 0 ≤ t % per := Int.emod_nonneg _ (by omega)
  have hm1 : t % per < per := Int.emod_lt_of_pos _ (by omega)
  have hw : IntKind.wrap IntKind.u64 (t.tmod per) = t.tmod per := by rw [Int.tmod_eq_emod_of_nonneg ht]; exact wu hm0 (by omega)
  simp only [F42]
  rw [if_pos ⟨hi0, hi⟩, if_pos (show i.toNat * 1 < 3 by omega), if_neg (show ¬ per = 0 by omega), hw, if_neg (show ¬ t.tmod per < 0 by rw [Int.tmod_eq_emod_of_nonneg ht]; omega), bit_ok h hi0 hi ht]
  rfl
end Go.Eng.Pu

/- What the plain functions of puncture come to: counts, checks, rates. No condition. -/
namespace Go.Eng.Pu
open Go Go.Eng Go.Proofs
theorem v1 : IntKind.wrap IntKind.i64 1 = 1 := by decide
theorem v2 : IntKind.wrap IntKind.i64 2 = 2 := by decide
theorem v3 : IntKind.wrap IntKind.i64 3 = 3 := by decide
theorem v4 : IntKind.wrap IntKind.i64 4 = 4 := by decide
/-- How many of the first r symbols of the step t are kept. -/
def row1 (per : Int) (keep : List Int) (t : Int) : Nat → Int
  | 0 => 0
  | i + 1 => row1 per keep t i + if kb per keep i t then 1 else 0
/-- .. of the first s steps. -/
def tot (per : Int) (keep : List Int) (r : Nat) : Nat → Int
  | 0 => 0
  | s + 1 => tot per keep r s + row1 per keep s r
theorem row1_le (per : Int) (keep : List Int) (t : Int) : ∀ r, 0 ≤ row1 per keep t r ∧ row1 per keep t r ≤ r
  | 0 => ⟨Int.le_refl _, Int.le_refl _⟩
  | r + 1 => by have := row1_le per keep t r; simp only [row1]; split <;> omega
theorem tot_le (per : Int) (keep : List Int) (r : Nat) : ∀ s, 0 ≤ tot per keep r s ∧ tot per keep r s ≤ r * s
  | 0 => ⟨Int.le_refl _, by simp [tot]⟩
  | s + 1 => by
    have h1 := tot_le per keep r s; have h2 := row1_le per keep s r
    simp only [tot]
    rw [show ((s + 1 : Nat) : Int) = (s : Int) + 1 by omega, Int.mul_add]; omega
theorem tot3 {per : Int} {keep : List Int} {r : Nat} (hr : r ≤ 3) {s : Nat} (hs : s ≤ 1000000) : 0 ≤ tot per keep r s ∧ tot per keep r s ≤ 3000000 := by
  have h := tot_le per keep r s
  have : (r : Int) * s ≤ 3 * 1000000 := Int.mul_le_mul (by omega) (by omega) (by omega) (by omega)
  omega
section
variable {per : Int} {keep : List Int} (h : Pat per keep)
include h
theorem in45 {r : Nat} (hr : r ≤ 3) {S t : Nat} (hS : S ≤ 1000000) (ht : t < S) : ∀ (d j : Nat) (n : Int) (k : Nat) (_ : j + d = r) (_ : 0 ≤ n) (_ : n + d ≤ 4000000),
    L45_7 (k + d + 1) ((r : Int), ((), ()), n, (t : Int), (S : Int), (t : Int), (r : Int), (j : Int), ()) ((per, keep, ()), ()) = L45_4 k ((r : Int), ((), ()), n + (row1 per keep t r - row1 per keep t j), (S : Int), ((t + 1 : Nat) : Int), ()) ((per, keep, ()), ()) := by
  intro d
  induction d with
  | zero =>
    intro j n k hj hn hn'
    have hj : j = r := by omega
    subst hj
    rw [L45_7]
    rw [if_neg (by simp), wi (by omega) (by omega), Int.sub_self, Int.add_zero, show (t : Int) + 1 = ((t + 1 : Nat) : Int) by omega]
  | succ d ih =>
    intro j n k hj hn hn'
    rw [show k + (d + 1) + 1 = (k + d + 1) + 1 by omega, L45_7]
    rw [if_pos (by simp; omega), keep63 h (by omega) (by omega) (by omega)]
    simp only [Option.bind_some]
    have hj1 : IntKind.wrap IntKind.i64 ((j : Int) + 1) = ((j + 1 : Nat) : Int) := wi (by omega) (by omega)
    have hr1 : row1 per keep t (j + 1) = row1 per keep t j + if kb per keep j t then 1 else 0 := rfl
    rw [hj1]
    split
    · rename_i hk
      rw [wi (by omega) (by omega), ih (j + 1) (n + 1) k (by omega) (by omega) (by omega), hr1, if_pos hk, show n + 1 + (row1 per keep t r - (row1 per keep t j + 1)) = n + (row1 per keep t r - row1 per keep t j) by omega]
    · rename_i hk
      rw [ih (j + 1) n k (by omega) (by omega) (by omega), hr1, if_neg hk, Int.add_zero]
theorem out45 {r : Nat} (hr : r ≤ 3) {S : Nat} (hS : S ≤ 1000000) : ∀ (d t : Nat) (k : Nat), t + d = S →
    L45_4 (k + d * (r + 2) + 1) ((r : Int), ((), ()), tot per keep r t, (S : Int), (t : Int), ()) ((per, keep, ()), ()) = some (tot per keep r S, ())
  | 0, t, k, ht => by
    have ht : t = S := by omega
    subst ht
    rw [L45_4, if_neg (by simp)]
  | d + 1, t, k, ht => by
    have hb := tot3 (per := per) (keep := keep) hr (s := t) (by omega)
    rw [L45_4, if_pos (by simp; omega)]
    rw [show k + (d + 1) * (r + 2) = (k + d * (r + 2) + 1) + r + 1 by rw [Nat.succ_mul]; omega]
    have := in45 h hr hS (t := t) (by omega) r 0 (tot per keep r t) (k + d * (r + 2) + 1) (by omega) hb.1 (by omega)
    refine this.trans ?_
    have e : tot per keep r t + (row1 per keep t r - row1 per keep t 0) = tot per keep r (t + 1) := by simp [tot, row1]
    rw [e]
    exact out45 hr hS d (t + 1) k (by omega)
theorem count_ok {r S : Nat} (hr : r ≤ 3) (hS : S ≤ 1000000) : ∃ K, ∀ k, K ≤ k → F45 k ((per, keep, ()), (r : Int), (S : Int), ()) () = some (tot per keep r S, ()) := by
  refine ⟨S * (r + 2) + 1, fun k hk => ?_⟩
  obtain ⟨j, rfl⟩ : ∃ j, k = j + S * (r + 2) + 1 := ⟨k - (S * (r + 2) + 1), by omega⟩
  exact out45 h hr hS S 0 j (by omega)
theorem in46 {r : Nat} (hr : r ≤ 3) {S t : Nat} (hS : S ≤ 1000000) (ht : t < S) : ∀ (d j : Nat) (n : Int) (k : Nat) (_ : j + d = r) (_ : 0 ≤ n) (_ : n + d ≤ 4000000),
    L46_6 (k + d + 1) ((r : Int), (S : Int), (), n, (t : Int), (j : Int), ()) ((per, keep, ()), ()) = L46_3 k ((r : Int), (S : Int), (), n + (row1 per keep t r - row1 per keep t j), ((t + 1 : Nat) : Int), ()) ((per, keep, ()), ()) := by
  intro d
  induction d with
  | zero =>
    intro j n k hj hn hn'
    have hj : j = r := by omega
    subst hj
    rw [L46_6]
    rw [if_neg (by simp), wi (by omega) (by omega), Int.sub_self, Int.add_zero, show (t : Int) + 1 = ((t + 1 : Nat) : Int) by omega]
  | succ d ih =>
    intro j n k hj hn hn'
    rw [show k + (d + 1) + 1 = (k + d + 1) + 1 by omega, L46_6]
    rw [if_pos (by simp; omega), keep42 h (by omega) (by omega) (by omega)]
    simp only [Option.bind_some]
    have hj1 : IntKind.wrap IntKind.i64 ((j : Int) + 1) = ((j + 1 : Nat) : Int) := wi (by omega) (by omega)
    have hr1 : row1 per keep t (j + 1) = row1 per keep t j + if kb per keep j t then 1 else 0 := rfl
    rw [hj1]
    split
    · rename_i hk
      rw [wi (by omega) (by omega), ih (j + 1) (n + 1) k (by omega) (by omega) (by omega), hr1, if_pos hk, show n + 1 + (row1 per keep t r - (row1 per keep t j + 1)) = n + (row1 per keep t r - row1 per keep t j) by omega]
    · rename_i hk
      rw [ih (j + 1) n k (by omega) (by omega) (by omega), hr1, if_neg hk, Int.add_zero]
theorem out46 {r : Nat} (hr : r ≤ 3) {S : Nat} (hS : S ≤ 1000000) : ∀ (d t : Nat) (k : Nat), t + d = S →
    L46_3 (k + d * (r + 2) + 1) ((r : Int), (S : Int), (), tot per keep r t, (t : Int), ()) ((per, keep, ()), ()) = some (tot per keep r S, ())
  | 0, t, k, ht => by
    have ht : t = S := by omega
    subst ht
    rw [L46_3, if_neg (by simp)]
  | d + 1, t, k, ht => by
    have hb := tot3 (per := per) (keep := keep) hr (s := t) (by omega)
    rw [L46_3, if_pos (by simp; omega)]
    rw [show k + (d + 1) * (r + 2) = (k + d * (r + 2) + 1) + r + 1 by rw [Nat.succ_mul]; omega]
    have := in46 h hr hS (t := t) (by omega) r 0 (tot per keep r t) (k + d * (r + 2) + 1) (by omega) hb.1 (by omega)
    refine this.trans ?_
    have e : tot per keep r t + (row1 per keep t r - row1 per keep t 0) = tot per keep r (t + 1) := by simp [tot, row1]
    rw [e]
    exact out46 hr hS d (t + 1) k (by omega)
theorem sent_ok {r S : Nat} (hr : r ≤ 3) (hS : S ≤ 1000000) : ∃ K, ∀ k, K ≤ k → F46 k ((per, keep, ()), (r : Int), (S : Int), ()) () = some (tot per keep r S, ()) := by
  refine ⟨S * (r + 2) + 1, fun k hk => ?_⟩
  obtain ⟨j, rfl⟩ : ∃ j, k = j + S * (r + 2) + 1 := ⟨k - (S * (r + 2) + 1), by omega⟩
  exact out46 h hr hS S 0 j (by omega)
end
/-! ### checks -/
def bad (per rate : Int) (i : Int) (v : Int) : Bool := (decide (rate ≤ i) && !decide (v = 0)) || (decide (per < 64) && !decide (v / 2 ^ per.toNat = 0))
def chk (per : Int) (x y z rate : Int) : Int :=
  if rate ≠ 2 ∧ rate ≠ 3 then 1
  else if per < 1 ∨ 64 < per then 340
  else if bad per rate 0 x || (bad per rate 1 y || bad per rate 2 z) then 340
  else if x = 0 ∧ y = 0 ∧ z = 0 then 340 else 0
theorem chk29 {per x y z rate : Int} (hx : 0 ≤ x ∧ x < 18446744073709551616) (hy : 0 ≤ y ∧ y < 18446744073709551616) (hz : 0 ≤ z ∧ z < 18446744073709551616) (k : Nat) :
    F29 (k + 5) ((per, [x, y, z], ()), rate, ()) () = some (chk per x y z rate, ()) := by
  by_cases hp : per < 1 ∨ 64 < per
  · by_cases h2 : rate = 2
    · subst h2; rcases hp with hp | hp <;> simp [F29, chk, hp] <;> omega
    · by_cases h3 : rate = 3
      · subst h3; rcases hp with hp | hp <;> simp [F29, chk, hp] <;> omega
      · simp [F29, chk, h2, h3]
  · obtain ⟨p, rfl⟩ := Int.eq_ofNat_of_zero_le (show 0 ≤ per by omega)
    have hw : IntKind.wrap IntKind.u64 (p : Int) = (p : Int) := wu (by omega) (by omega)
    have e : ∀ v : Int, 0 ≤ v → v < 18446744073709551616 → shr' IntKind.u64 v (p : Int) = v / 2 ^ p := fun v a b => shr_lt a b (by omega)
    have e0 : shr' IntKind.u64 0 (p : Int) = 0 := by rw [e 0 (by omega) (by omega)]; simp
    have ex := e x hx.1 hx.2
    have ey := e y hy.1 hy.2
    have ez := e z hz.1 hz.2
    have hp0 : ¬ ((p : Int) < 0) := by omega
    have hp1 : ¬ ((p : Int) < 1) := by omega
    have hp2 : ¬ (64 < (p : Int)) := by omega
    by_cases h64 : (p : Int) < 64 <;> by_cases x0 : x = 0 <;> by_cases y0 : y = 0 <;> by_cases z0 : z = 0 <;> by_cases xs : x / 2 ^ p = 0 <;> by_cases ys : y / 2 ^ p = 0 <;> by_cases zs : z / 2 ^ p = 0 <;> 
    (by_cases h2 : rate = 2
     · subst h2; simp [F29, L29_7, chk, bad, hw, e0, ex, ey, ez, hp0, hp1, hp2, v1, v2, v3, h64, x0, y0, z0, xs, ys, zs]
     · by_cases h3 : rate = 3
       · subst h3; simp [F29, L29_7, chk, bad, hw, e0, ex, ey, ez, hp0, hp1, hp2, v1, v2, v3, h64, x0, y0, z0, xs, ys, zs]
       · simp [F29, chk, h2, h3])
end Go.Eng.Pu

/- What the plain functions of puncture come to: the program's check, names, rates. No condition. -/
namespace Go.Eng.Pu
open Go Go.Eng Go.Proofs
def wh (per x y z rate : Int) : Bool := decide (rate = 2) && (decide (per = 2 ∧ x = 1 ∧ y = 3 ∧ z = 0) || (decide (per = 3 ∧ x = 5 ∧ y = 3 ∧ z = 0) || (decide (per = 5 ∧ x = 21 ∧ y = 11 ∧ z = 0) || decide (per = 7 ∧ x = 81 ∧ y = 47 ∧ z = 0))))
theorem whole48 {per x y z rate : Int} (k : Nat) : F48 (k + 6) ((per, [x, y, z], ()), rate, ()) () = some (wh per x y z rate, ()) := by
  by_cases h2 : rate = 2
  · subst h2
    by_cases a1 : (2 = per ∧ [1, 3, 0] = [x, y, z])
    · obtain ⟨rfl, h⟩ := a1; cases h; rfl
    by_cases a2 : (3 = per ∧ [5, 3, 0] = [x, y, z])
    · obtain ⟨rfl, h⟩ := a2; cases h; rfl
    by_cases a3 : (5 = per ∧ [21, 11, 0] = [x, y, z])
    · obtain ⟨rfl, h⟩ := a3; cases h; rfl
    by_cases a4 : (7 = per ∧ [81, 47, 0] = [x, y, z])
    · obtain ⟨rfl, h⟩ := a4; cases h; rfl
    have hw : wh per x y z 2 = false := by
      simp only [List.cons.injEq] at a1 a2 a3 a4
      simp only [wh, decide_true, Bool.true_and, Bool.or_eq_false_iff, decide_eq_false_iff_not]
      refine ⟨fun h => a1 ?_, fun h => a2 ?_, fun h => a3 ?_, fun h => a4 ?_⟩ <;> (obtain ⟨rfl, rfl, rfl, rfl⟩ := h; simp)
    rw [hw]
    simp [F48, F47, L48_2, v1, v2, v3, v4, List.replicate]
    simp only [List.cons.injEq] at a1 a2 a3 a4
    simp only [and_true] at a1 a2 a3 a4
    rw [if_neg a1, if_neg a2, if_neg a3, if_neg a4]
  · have hw : wh per x y z rate = false := by simp [wh, h2]
    rw [hw]
    simp [F48, F47, L48_2, v1, v2, v3, v4, h2]
theorem orU_zero {x y : Int} (hx : 0 ≤ x ∧ x < 18446744073709551616) (hy : 0 ≤ y ∧ y < 18446744073709551616) :
    (IntKind.wrap IntKind.u64 (((BitVec.ofInt 64 x ||| BitVec.ofInt 64 y).toNat : Nat) : Int) = 0 ↔ x = 0 ∧ y = 0) := (or_zero hx.1 hx.2 hy.1 hy.2).1
def orU (x y : Int) : Int := IntKind.wrap IntKind.u64 (((BitVec.ofInt 64 x ||| BitVec.ofInt 64 y).toNat : Nat) : Int)
theorem orU_in {x y : Int} (hx : 0 ≤ x ∧ x < 18446744073709551616) (hy : 0 ≤ y ∧ y < 18446744073709551616) : 0 ≤ orU x y ∧ orU x y < 18446744073709551616 := (or_zero hx.1 hx.2 hy.1 hy.2).2
theorem orU_def (x y : Int) : IntKind.wrap IntKind.u64 (((BitVec.ofInt 64 x ||| BitVec.ofInt 64 y).toNat : Nat) : Int) = orU x y := rfl
theorem F28_eq {per x y z rate : Int} (k : Nat) : F28 (k + 6) ((per, [x, y, z], ()), rate, ()) () = if rate ≠ 2 ∧ rate ≠ 3 then some (1, ()) else if wh per x y z rate = true then some (0, ()) else if per < 1 ∨ 64 < per then some (340, ()) else
    L28_9 (k + 6) (k + 6) (rate, (), 0, [x, y, z], 0, ()) ((per, [x, y, z], ()), ()) := by
  have hF := whole48 (per := per) (x := x) (y := y) (z := z) (rate := rate) k
  simp only [F28]
  rw [hF]
  simp only [Option.bind_some]
  by_cases h2 : rate = 2
  · subst h2
    by_cases h4 : per < 1 <;> by_cases h5 : 64 < per <;> simp [h4, h5]
  · by_cases h3 : rate = 3
    · subst h3
      by_cases h4 : per < 1 <;> by_cases h5 : 64 < per <;> simp [h4, h5]
    · simp [h2, h3]
theorem L28_step {p rate acc v : Int} {keep keep' : List Int} {K : Nat} (k i : Nat) (hi : i < 3) (hv : keep.getD i 0 = v) (ex : shr' IntKind.u64 v p = v / 2 ^ p.toNat) (hp0 : ¬ p < 0) :
    L28_9 K (k + 1) (rate, (), acc, keep, (i : Int), ()) ((p, keep', ()), ()) = if bad p rate i v = true then some (340, ()) else L28_9 K k (rate, (), orU acc v, keep, ((i + 1 : Nat) : Int), ()) ((p, keep', ()), ()) := by
  rw [L28_9]
  simp only [orU_def, Int.toNat_natCast, hv, ex]
  rw [show IntKind.wrap IntKind.i64 ((i : Int) + 1) = ((i + 1 : Nat) : Int) from wi (by omega) (by omega), if_pos (show decide ((i : Int) < 3) = true by simp; omega), if_pos (show 0 ≤ (i : Int) ∧ (i : Int) < 3 by omega)]
  clear hv ex
  unfold bad
  by_cases h1 : rate ≤ (i : Int) <;> by_cases h2 : v = 0 <;> by_cases h3 : p < 64 <;> by_cases h4 : v / 2 ^ p.toNat = 0 <;> (try (subst h2; simp at h4; done)) <;> simp [h1, h2, h3, h4, hp0]
theorem L28_eq {p x y z rate : Int} {K : Nat} (k : Nat) (ex : shr' IntKind.u64 x p = x / 2 ^ p.toNat) (ey : shr' IntKind.u64 y p = y / 2 ^ p.toNat) (ez : shr' IntKind.u64 z p = z / 2 ^ p.toNat) (hp0 : ¬ p < 0) :
    L28_9 K (k + 4) (rate, (), 0, [x, y, z], 0, ()) ((p, [x, y, z], ()), ()) = some (if bad p rate 0 x || (bad p rate 1 y || bad p rate 2 z) then 340 else if orU (orU (orU 0 x) y) z = 0 then 340 else 0, ()) := by
  have h0 := L28_step (K := K) (p := p) (rate := rate) (acc := 0) (keep := [x, y, z]) (keep' := [x, y, z]) (k + 3) 0 (by omega) rfl ex hp0
  have h1 := L28_step (K := K) (p := p) (rate := rate) (acc := orU 0 x) (keep := [x, y, z]) (keep' := [x, y, z]) (k + 2) 1 (by omega) rfl ey hp0
  have h2 := L28_step (K := K) (p := p) (rate := rate) (acc := orU (orU 0 x) y) (keep := [x, y, z]) (keep' := [x, y, z]) (k + 1) 2 (by omega) rfl ez hp0
  have h3 : L28_9 K (k + 1) (rate, (), orU (orU (orU 0 x) y) z, [x, y, z], ((2 + 1 : Nat) : Int), ()) ((p, [x, y, z], ()), ()) = some (if orU (orU (orU 0 x) y) z = 0 then 340 else 0, ()) := by
    rw [L28_9, if_neg (by simp)]; by_cases hq : orU (orU (orU 0 x) y) z = 0 <;> simp [hq]
  refine h0.trans ?_
  show (if bad p rate ((0 : Nat) : Int) x = true then some (340, ()) else _) = _
  cases b0 : bad p rate ((0 : Nat) : Int) x
  · rw [if_neg (by simp)]
    refine h1.trans ?_
    show (if bad p rate ((1 : Nat) : Int) y = true then some (340, ()) else _) = _
    cases b1 : bad p rate ((1 : Nat) : Int) y
    · rw [if_neg (by simp)]
      refine h2.trans ?_
      show (if bad p rate ((2 : Nat) : Int) z = true then some (340, ()) else _) = _
      cases b2 : bad p rate ((2 : Nat) : Int) z
      · rw [if_neg (by simp)]
        refine h3.trans ?_
        rfl
      · rfl
    · rfl
  · rfl
theorem chk28 {per x y z rate : Int} (hx : 0 ≤ x ∧ x < 18446744073709551616) (hy : 0 ≤ y ∧ y < 18446744073709551616) (hz : 0 ≤ z ∧ z < 18446744073709551616) (k : Nat) :
    F28 (k + 6) ((per, [x, y, z], ()), rate, ()) () = some (chk per x y z rate, ()) := by
  have hwh : wh per x y z rate = true → chk per x y z rate = 0 := by
    intro h
    simp only [wh, Bool.and_eq_true, Bool.or_eq_true, decide_eq_true_eq] at h
    obtain ⟨rfl, h | h | h | h⟩ := h <;> (obtain ⟨rfl, rfl, rfl, rfl⟩ := h; decide)
  rw [F28_eq]
  by_cases hr : rate ≠ 2 ∧ rate ≠ 3
  · rw [if_pos hr]; unfold chk; rw [if_pos hr]
  rw [if_neg hr]
  cases hw : wh per x y z rate with
  | true => rw [if_pos rfl, hwh hw]
  | false =>
    rw [if_neg (by simp)]
    unfold chk
    rw [if_neg hr]
    by_cases hp : per < 1 ∨ 64 < per
    · rw [if_pos hp, if_pos hp]
    rw [if_neg hp, if_neg hp]
    obtain ⟨p, rfl⟩ := Int.eq_ofNat_of_zero_le (show 0 ≤ per by omega)
    have e : ∀ v : Int, 0 ≤ v → v < 18446744073709551616 → shr' IntKind.u64 v (p : Int) = v / 2 ^ ((p : Int).toNat) := fun v a b => by rw [Int.toNat_natCast]; exact shr_lt a b (by omega)
    have o1 := orU_in (x := 0) (by omega) hx
    have o2 := orU_in o1 hy
    have q3 : orU (orU (orU 0 x) y) z = 0 ↔ x = 0 ∧ y = 0 ∧ z = 0 := by
      rw [show orU (orU (orU 0 x) y) z = 0 ↔ _ from orU_zero o2 hz, show orU (orU 0 x) y = 0 ↔ _ from orU_zero o1 hy, show orU 0 x = 0 ↔ _ from orU_zero (by omega) hx]
      simp only [true_and]
      constructor
      · rintro ⟨⟨a, b⟩, c⟩; exact ⟨a, b, c⟩
      · rintro ⟨a, b, c⟩; exact ⟨⟨a, b⟩, c⟩
    rw [L28_eq (k + 2) (e x hx.1 hx.2) (e y hy.1 hy.2) (e z hz.1 hz.2) (by omega)]
    simp only [q3]
end Go.Eng.Pu

/- What the plain functions of puncture come to: rates, names, what is sent. No condition. -/
namespace Go.Eng.Pu
open Go Go.Eng Go.Proofs
theorem tmod_nat (a b : Nat) : (a : Int).tmod b = ((a % b : Nat) : Int) := by
  rw [Int.tmod_eq_emod_of_nonneg (by omega)]; exact (Int.natCast_emod a b).symm
theorem gcd24 {n per : Int} {keep : List Int} {K : Nat} : ∀ (b a k : Nat), 0 < a → L24_6 K (k + b + 1) ((), n, (a : Int), (b : Int), ()) ((per, keep, ()), ()) =
    some ((IntKind.wrap IntKind.i64 (Int.tdiv per (Nat.gcd a b : Nat)), IntKind.wrap IntKind.i64 (Int.tdiv n (Nat.gcd a b : Nat)), 0, ()), ()) := by
  intro b
  induction b using Nat.strongRecOn with
  | ind b ih =>
    intro a k ha
    rw [L24_6]
    rcases Nat.eq_zero_or_pos b with hb | hb
    · subst hb
      rw [if_neg (by simp), if_neg (show ¬ (a : Int) = 0 by omega), if_neg (show ¬ (a : Int) = 0 by omega), Nat.gcd_zero_right]
    · rw [if_pos (show decide ((0 : Int) < b) = true by simp; omega), if_neg (show ¬ (b : Int) = 0 by omega), tmod_nat]
      have hlt := Nat.mod_lt a hb
      have := ih (a % b) hlt b (k + b - a % b - 1) hb
      rw [show k + b - a % b - 1 + a % b + 1 = k + b by omega] at this
      rw [this, Nat.gcd_comm b, ← Nat.gcd_rec, Nat.gcd_comm]
theorem down25 {K : Nat} {a b : Nat} (ha : 0 < a) (ha' : a ≤ 1000000) : ∀ (d c k : Nat), c = Nat.gcd a b + d → c ≤ a → L25_8 K (k + d + 1) ((a : Int), (b : Int), (c : Int), ()) () =
    some ((IntKind.wrap IntKind.i64 (Int.tdiv a (Nat.gcd a b : Nat)), IntKind.wrap IntKind.i64 (Int.tdiv b (Nat.gcd a b : Nat)), 0, ()), ()) := by
  have hg : 0 < Nat.gcd a b := Nat.gcd_pos_of_pos_left _ ha
  intro d
  induction d with
  | zero =>
    intro c k hc hca
    have hc : c = Nat.gcd a b := by omega
    subst hc
    rw [L25_8, tmod_nat, tmod_nat, Nat.mod_eq_zero_of_dvd (Nat.gcd_dvd_left a b), Nat.mod_eq_zero_of_dvd (Nat.gcd_dvd_right a b)]
    have h0 : ¬ ((Nat.gcd a b : Nat) : Int) = 0 := by omega
    simp only [if_neg h0]
    rfl
  | succ d ih =>
    intro c k hc hca
    have h0 : ¬ (c : Int) = 0 := by omega
    rw [show k + (d + 1) + 1 = (k + d + 1) + 1 by omega, L25_8, tmod_nat, tmod_nat, show IntKind.wrap IntKind.i64 ((c : Int) - 1) = ((c - 1 : Nat) : Int) from by rw [wi (by omega) (by omega)]; omega, ih (c - 1) k (by omega) (by omega), if_neg h0]
    by_cases h1 : decide (((a % c : Nat) : Int) = 0) = true
    · by_cases h2 : decide (((b % c : Nat) : Int) = 0) = true
      · exfalso
        have e1 : a % c = 0 := by simp only [decide_eq_true_eq] at h1; omega
        have e2 : b % c = 0 := by simp only [decide_eq_true_eq] at h2; omega
        have := Nat.le_of_dvd hg (Nat.dvd_gcd (Nat.dvd_of_mod_eq_zero e1) (Nat.dvd_of_mod_eq_zero e2))
        omega
      · rw [if_pos h1, if_neg h0, if_neg h2]
    · rw [if_neg h1]
/-- A pattern that is well. -/
theorem chk_pat {per x y z rate : Int} (hx : 0 ≤ x ∧ x < 18446744073709551616) (hy : 0 ≤ y ∧ y < 18446744073709551616) (hz : 0 ≤ z ∧ z < 18446744073709551616) (h : chk per x y z rate = 0) : Pat per [x, y, z] ∧ (rate = 2 ∨ rate = 3) := by
  unfold chk at h
  by_cases h1 : rate ≠ 2 ∧ rate ≠ 3
  · rw [if_pos h1] at h; cases h
  rw [if_neg h1] at h
  by_cases h2 : per < 1 ∨ 64 < per
  · rw [if_pos h2] at h; cases h
  refine ⟨⟨rfl, fun v hv => ?_, by omega, by omega⟩, by omega⟩
  simp only [List.mem_cons, List.not_mem_nil, or_false] at hv
  rcases hv with rfl | rfl | rfl <;> assumption
theorem rate_cases {rate : Int} (h : rate = 2 ∨ rate = 3) : ∃ r : Nat, rate = r ∧ 0 < r ∧ r ≤ 3 := by
  rcases h with rfl | rfl
  · exact ⟨2, rfl, by omega, by omega⟩
  · exact ⟨3, rfl, by omega, by omega⟩
section
variable {per x y z rate : Int} (hx : 0 ≤ x ∧ x < 18446744073709551616) (hy : 0 ≤ y ∧ y < 18446744073709551616) (hz : 0 ≤ z ∧ z < 18446744073709551616)
include hx hy hz
/-- What both rates come to. -/
theorem rate_ok : ∃ a b c : Int, ∃ K, ∀ k, K ≤ k → F24 k ((per, [x, y, z], ()), rate, ()) () = some ((a, b, c, ()), ()) ∧ F25 k ((per, [x, y, z], ()), rate, ()) () = some ((a, b, c, ()), ()) := by
  have e28 := fun k => chk28 (per := per) (rate := rate) hx hy hz k
  have e29 := fun k => chk29 (per := per) (rate := rate) hx hy hz k
  by_cases hc : chk per x y z rate = 0
  · obtain ⟨hp, hr⟩ := chk_pat hx hy hz hc
    obtain ⟨r, rfl, hr0, hr3⟩ := rate_cases hr
    have hlo := hp.lo
    have hhi := hp.hi
    obtain ⟨p, rfl⟩ := Int.eq_ofNat_of_zero_le (show 0 ≤ per by omega)
    obtain ⟨K1, h1⟩ := count_ok hp hr3 (S := p) (by omega)
    obtain ⟨K2, h2⟩ := sent_ok hp hr3 (S := p) (by omega)
    obtain ⟨n, hn⟩ := Int.eq_ofNat_of_zero_le (tot_le (p : Int) [x, y, z] r p).1
    refine ⟨IntKind.wrap IntKind.i64 (Int.tdiv p (Nat.gcd p n : Nat)), IntKind.wrap IntKind.i64 (Int.tdiv n (Nat.gcd p n : Nat)), 0, K1 + K2 + p + n + 10, fun k hk => ⟨?_, ?_⟩⟩
    · simp only [F24]
      rw [show k = k - 6 + 6 by omega, e28, hc, ← show k = k - 6 + 6 by omega]
      simp only [Option.bind_some, decide_true, Bool.not_true, Bool.false_eq_true, if_false]
      rw [h1 k (by omega)]
      simp only [Option.bind_some]
      rw [hn]
      have := gcd24 (n := (n : Int)) (per := (p : Int)) (keep := [x, y, z]) (K := k) n p (k - n - 1) (by omega)
      rw [show k - n - 1 + n + 1 = k by omega] at this
      exact this
    · simp only [F25]
      rw [show k = k - 5 + 5 by omega, e29, hc, ← show k = k - 5 + 5 by omega]
      simp only [Option.bind_some, decide_true, Bool.not_true, Bool.false_eq_true, if_false]
      rw [h2 k (by omega)]
      simp only [Option.bind_some]
      rw [hn]
      have hg := Nat.gcd_le_left n (show 0 < p by omega)
      have := down25 (K := k) (a := p) (b := n) (by omega) (by omega) (p - Nat.gcd p n) p (k - (p - Nat.gcd p n) - 1) (by omega) (Nat.le_refl _)
      rw [show k - (p - Nat.gcd p n) - 1 + (p - Nat.gcd p n) + 1 = k by omega] at this
      exact this
  · refine ⟨0, 0, chk per x y z rate, 10, fun k hk => ⟨?_, ?_⟩⟩
    · simp only [F24]
      rw [show k = k - 6 + 6 by omega, e28]
      simp [hc]
    · simp only [F25]
      rw [show k = k - 5 + 5 by omega, e29]
      simp [hc]
/-- What both tell of so many steps. -/
theorem sent2_ok {steps : Int} : ∃ n e : Int, ∃ K, ∀ k, K ≤ k → F26 k ((per, [x, y, z], ()), rate, steps, ()) () = some ((n, e, ()), ()) ∧ F27 k ((per, [x, y, z], ()), rate, steps, ()) () = some ((n, e, ()), ()) := by
  have e28 := fun k => chk28 (per := per) (rate := rate) hx hy hz k
  have e29 := fun k => chk29 (per := per) (rate := rate) hx hy hz k
  by_cases hc : chk per x y z rate = 0
  · obtain ⟨hp, hr⟩ := chk_pat hx hy hz hc
    obtain ⟨r, rfl, hr0, hr3⟩ := rate_cases hr
    by_cases hs : steps < 0 ∨ 1055 < steps
    · refine ⟨0, 1, 10, fun k hk => ⟨?_, ?_⟩⟩
      · simp only [F26]
        rw [show k = k - 6 + 6 by omega, e28, hc]
        rcases hs with hs | hs
        · simp [hs]
        · simp [hs]
      · simp only [F27]
        rw [show k = k - 5 + 5 by omega, e29, hc]
        rcases hs with hs | hs
        · simp [hs]
        · simp [hs]
    · obtain ⟨s, rfl⟩ := Int.eq_ofNat_of_zero_le (show 0 ≤ steps by omega)
      obtain ⟨K1, h1⟩ := count_ok hp hr3 (S := s) (by omega)
      obtain ⟨K2, h2⟩ := sent_ok hp hr3 (S := s) (by omega)
      have q1 : ¬ ((s : Int) < 0) := by omega
      have q2 : ¬ (1055 < (s : Int)) := by omega
      refine ⟨tot per [x, y, z] r s, 0, K1 + K2 + 10, fun k hk => ⟨?_, ?_⟩⟩
      · simp only [F26]
        rw [show k = k - 6 + 6 by omega, e28, hc, ← show k = k - 6 + 6 by omega, h1 k (by omega)]
        simp [q1, q2]
      · simp only [F27]
        rw [show k = k - 5 + 5 by omega, e29, hc, ← show k = k - 5 + 5 by omega, h2 k (by omega)]
        simp [q1, q2]
  · refine ⟨0, chk per x y z rate, 10, fun k hk => ⟨?_, ?_⟩⟩
    · simp only [F26]
      rw [show k = k - 6 + 6 by omega, e28]
      simp [hc]
    · simp only [F27]
      rw [show k = k - 5 + 5 by omega, e29]
      simp [hc]
end
theorem named_ok (s : List Int) (k : Nat) : F22 (k + 6) (s, ()) () = F23 (s, ()) () := by
  by_cases h1 : s = [114, 50, 51]
  · subst h1; rfl
  by_cases h2 : s = [114, 51, 52]
  · subst h2; rfl
  by_cases h3 : s = [114, 53, 54]
  · subst h3; rfl
  by_cases h4 : s = [114, 55, 56]
  · subst h4; rfl
  have e : ∀ t : List Int, ¬ s = t → ¬ t = s := fun t h h' => h h'.symm
  simp [F22, F23, F47, L22_2, v1, v2, v3, v4, h1, h2, h3, h4, e _ h1, e _ h2, e _ h3, e _ h4]
theorem named_some (s : List Int) : ∃ a b c, F23 (s, ()) () = some (((a, b, ()), c, ()), ()) := by
  simp only [F23]
  repeat' split
  all_goals exact ⟨_, _, _, rfl⟩
theorem live_ok (k : Nat) : F19 (k + 30) () () = some (true, ()) := by rfl
end Go.Eng.Pu

/- What the plain functions of puncture come to: cuts; counts. No condition. -/
namespace Go.Eng.Pu
open Go Go.Eng Go.Proofs
/-- Is the k-th symbol of a row kept? -/
def kat (per : Int) (keep : List Int) (r k : Nat) : Bool := kb per keep ((k % r : Nat) : Int) ((k / r : Nat) : Int)
def picks (per : Int) (keep : List Int) (r : Nat) : List Int → Nat → List Int
  | [], _ => []
  | x :: l, k => (if kat per keep r k then [x] else []) ++ picks per keep r l (k + 1)
/-- How many of the first k symbols are kept. -/
def cntF (per : Int) (keep : List Int) (r : Nat) : Nat → Nat
  | 0 => 0
  | k + 1 => cntF per keep r k + if kat per keep r k then 1 else 0
theorem picks_len (per : Int) (keep : List Int) (r : Nat) : ∀ (l : List Int) (k : Nat), (picks per keep r l k).length + cntF per keep r k = cntF per keep r (k + l.length)
  | [], k => by simp [picks]
  | x :: l, k => by
    have := picks_len per keep r l (k + 1)
    simp only [picks, List.length_append, List.length_cons]
    rw [show k + (l.length + 1) = k + 1 + l.length by omega, ← this]
    simp only [cntF]
    split <;> simp <;> omega
theorem cntF_row (per : Int) (keep : List Int) {r s : Nat} (hr : 0 < r) : ∀ j, j ≤ r → (cntF per keep r (r * s + j) : Int) = cntF per keep r (r * s) + row1 per keep s j
  | 0, _ => by simp [row1]
  | j + 1, hj => by
    rw [← Nat.add_assoc]
    simp only [cntF, row1]
    have e : kat per keep r (r * s + j) = kb per keep j s := by
      unfold kat
      rw [Nat.mul_add_mod, Nat.mod_eq_of_lt (by omega), Nat.mul_add_div hr, Nat.div_eq_of_lt (by omega), Nat.add_zero]
    rw [e, Int.natCast_add, cntF_row per keep hr j (by omega)]
    split <;> simp <;> omega
theorem cntF_tot (per : Int) (keep : List Int) {r : Nat} (hr : 0 < r) : ∀ s, (cntF per keep r (r * s) : Int) = tot per keep r s
  | 0 => rfl
  | s + 1 => by rw [Nat.mul_succ, cntF_row per keep hr r (Nat.le_refl _), cntF_tot per keep hr s]; rfl
theorem tdiv_nat (a b : Nat) : (a : Int).tdiv b = ((a / b : Nat) : Int) := by
  rw [Int.tdiv_eq_ediv_of_nonneg (by omega)]; exact (Int.natCast_ediv a b).symm
section
variable {per : Int} {keep : List Int} (h : Pat per keep)
include h
theorem keep63' {r k : Nat} (hr0 : 0 < r) (hr : r ≤ 3) (hk : k ≤ 9223372036854775807) : F63 (IntKind.wrap IntKind.i64 (Int.tdiv (k : Int) (r : Int)), Int.tmod (k : Int) (r : Int), (), ()) ((per, keep, ()), ()) = some (kat per keep r k, (per, keep, ()), ()) := by
  have h1 := Nat.mod_lt k hr0
  have h2 := Nat.div_le_self k r
  rw [tdiv_nat, tmod_nat]
  unfold kat
  generalize k / r = q at *
  generalize k % r = m at *
  rw [wi (by omega) (by omega)]
  exact keep63 h (by omega) (by omega) (by omega)
theorem loop13 {r : Nat} (hr0 : 0 < r) (hr : r ≤ 3) {K : Nat} : ∀ (l2 l1 acc : List Int) (k : Nat) (_ : acc.length ≤ l1.length) (_ : l1.length + l2.length ≤ 140737488355328),
    L13_9 K (k + l2.length + 1) ((r : Int), ((), ()), (), l1 ++ l2, ((l1 ++ l2).length : Int), (l1.length : Int), ()) ((per, keep, ()), acc, ()) = some (((), 0, ()), acc ++ picks per keep r l2 l1.length, ()) := by
  intro l2
  induction l2 with
  | nil =>
    intro l1 acc k ha hl
    rw [L13_9, if_neg (by simp)]; simp [picks]
  | cons x l2 ih =>
    intro l1 acc k ha hl
    simp only [List.length_cons] at hl
    have ih' := ih (l1 ++ [x])
    rw [show (l1 ++ [x]) ++ l2 = l1 ++ x :: l2 by simp, show ((l1 ++ [x]).length : Int) = (l1.length : Int) + 1 by simp, show (l1 ++ [x]).length = l1.length + 1 by simp] at ih'
    rw [show k + (x :: l2).length + 1 = (k + l2.length + 1) + 1 by simp; omega, L13_9]
    have e1 : IntKind.wrap IntKind.i64 ((l1.length : Int) + 1) = (l1.length : Int) + 1 := wi (by omega) (by omega)
    have hr' : ¬ (r : Int) = 0 := by omega
    rw [if_pos (show decide ((l1.length : Int) < ((l1 ++ x :: l2).length : Int)) = true by simp; omega), if_pos (show (0 : Int) ≤ (l1.length : Int) ∧ (l1.length : Int) < ((l1 ++ x :: l2).length : Int) by simp; omega), if_neg hr', if_neg hr', keep63' h hr0 hr (by omega), e1]
    simp only [Option.bind_some]
    split
    · rename_i hk
      rw [if_pos (show (acc.length + 1) * 1 ≤ 140737488355328 by omega), ih' _ _ (by simp; omega) (by omega)]
      simp [picks, hk]
    · rename_i hk
      rw [ih' _ _ (by omega) (by omega)]
      simp [picks, hk]
end
/-- What Cut comes to. -/
theorem cut_ok {per x y z : Int} (hx : 0 ≤ x ∧ x < 18446744073709551616) (hy : 0 ≤ y ∧ y < 18446744073709551616) (hz : 0 ≤ z ∧ z < 18446744073709551616) {r : Nat} (hr0 : 0 < r) (hr : r ≤ 3) (hc : chk per x y z r = 0) {l : List Int} (hl : l.length ≤ 140737488355328) (hd : l.length % r = 0) :
    ∃ K, ∀ k, K ≤ k → F13 k ((per, [x, y, z], ()), (r : Int), l, ()) () = some (((), 0, ()), picks per [x, y, z] r l 0, ()) := by
  obtain ⟨hp, _⟩ := chk_pat hx hy hz hc
  refine ⟨l.length + 10, fun k hk => ?_⟩
  have e28 := chk28 (per := per) (rate := r) hx hy hz (k - 6)
  rw [show k - 6 + 6 = k by omega, hc] at e28
  have hr' : ¬ (r : Int) = 0 := by omega
  simp only [F13]
  rw [e28]
  simp only [Option.bind_some, decide_true, Bool.not_true, Bool.false_eq_true, if_false]
  rw [if_neg hr', tmod_nat, hd]
  simp only [F43, Option.bind_some]
  have := loop13 hp hr0 hr (K := k) l [] [] (k - l.length - 1) (Nat.le_refl _) (by simpa using hl)
  rw [show k - l.length - 1 + l.length + 1 = k by omega] at this
  simpa using this
theorem rate_val {per x y z : Int} (hx : 0 ≤ x ∧ x < 18446744073709551616) (hy : 0 ≤ y ∧ y < 18446744073709551616) (hz : 0 ≤ z ∧ z < 18446744073709551616) {r p n : Nat} (hper : per = p) (hr : r ≤ 3) (hc : chk per x y z r = 0) (hn : tot per [x, y, z] r p = n) :
    ∃ K, ∀ k, K ≤ k → F24 k ((per, [x, y, z], ()), (r : Int), ()) () = some ((((p / Nat.gcd p n : Nat) : Int), ((n / Nat.gcd p n : Nat) : Int), 0, ()), ()) := by
  obtain ⟨hp, _⟩ := chk_pat hx hy hz hc
  subst hper
  have hlo := hp.lo
  have hhi := hp.hi
  obtain ⟨K1, h1⟩ := count_ok hp hr (S := p) (by omega)
  have hb := tot3 (per := (p : Int)) (keep := [x, y, z]) hr (s := p) (by omega)
  refine ⟨K1 + p + n + 10, fun k hk => ?_⟩
  have e28 := chk28 (per := (p : Int)) (rate := r) hx hy hz (k - 6)
  rw [show k - 6 + 6 = k by omega, hc] at e28
  simp only [F24]
  rw [e28]
  simp only [Option.bind_some, decide_true, Bool.not_true, Bool.false_eq_true, if_false]
  rw [h1 k (by omega)]
  simp only [Option.bind_some]
  rw [hn]
  have := gcd24 (n := (n : Int)) (per := (p : Int)) (keep := [x, y, z]) (K := k) n p (k - n - 1) (by omega)
  rw [show k - n - 1 + n + 1 = k by omega, tdiv_nat, tdiv_nat] at this
  have q1 := Nat.div_le_self p (Nat.gcd p n)
  have q2 := Nat.div_le_self n (Nat.gcd p n)
  generalize p / Nat.gcd p n = a1 at *
  generalize n / Nat.gcd p n = a2 at *
  rw [wi (by omega) (by omega), wi (by omega) (by omega)] at this
  exact this
theorem sent_val {per x y z : Int} (hx : 0 ≤ x ∧ x < 18446744073709551616) (hy : 0 ≤ y ∧ y < 18446744073709551616) (hz : 0 ≤ z ∧ z < 18446744073709551616) {r s : Nat} (hr : r ≤ 3) (hc : chk per x y z r = 0) (hs : s ≤ 1055) :
    ∃ K, ∀ k, K ≤ k → F26 k ((per, [x, y, z], ()), (r : Int), (s : Int), ()) () = some ((tot per [x, y, z] r s, 0, ()), ()) := by
  obtain ⟨hp, _⟩ := chk_pat hx hy hz hc
  obtain ⟨K1, h1⟩ := count_ok hp hr (S := s) (by omega)
  have q1 : ¬ ((s : Int) < 0) := by omega
  have q2 : ¬ (1055 < (s : Int)) := by omega
  refine ⟨K1 + 10, fun k hk => ?_⟩
  have e28 := chk28 (per := per) (rate := r) hx hy hz (k - 6)
  rw [show k - 6 + 6 = k by omega, hc] at e28
  simp only [F26]
  rw [e28, h1 k (by omega)]
  simp [q1, q2]
/-- Whole periods are alike. -/
theorem row1_per {p : Nat} {keep : List Int} (t : Nat) : ∀ r, row1 (p : Int) keep ((t + p : Nat) : Int) r = row1 (p : Int) keep (t : Int) r
  | 0 => rfl
  | r + 1 => by
    have e : kb (p : Int) keep r ((t + p : Nat) : Int) = kb (p : Int) keep r (t : Int) := by
      unfold kb
      rw [show ((t + p : Nat) : Int) = (t : Int) + p by omega, Int.add_emod_right]
    simp only [row1]; rw [row1_per t r, e]
theorem tot_add {p : Nat} {keep : List Int} {r : Nat} : ∀ s, tot (p : Int) keep r (s + p) = tot (p : Int) keep r s + tot (p : Int) keep r p
  | 0 => by simp [tot]
  | s + 1 => by
    rw [show s + 1 + p = (s + p) + 1 by omega]
    simp only [tot]
    rw [tot_add s, row1_per]; omega
theorem tot_mul {p : Nat} {keep : List Int} {r : Nat} : ∀ q : Nat, tot (p : Int) keep r (q * p) = q * tot (p : Int) keep r p
  | 0 => by simp [tot]
  | q + 1 => by rw [Nat.succ_mul, tot_add, tot_mul q]; rw [show ((q + 1 : Nat) : Int) = (q : Int) + 1 by omega, Int.add_mul, Int.one_mul]
/-- A number that isn't 0 has a bit. -/
theorem has_bit : ∀ (p : Nat) (v : Nat), v ≠ 0 → v < 2 ^ p → ∃ t, t < p ∧ v / 2 ^ t % 2 = 1
  | 0, v, h0, h1 => by omega
  | p + 1, v, h0, h1 => by
    by_cases ho : v % 2 = 1
    · exact ⟨0, by omega, by simpa using ho⟩
    · obtain ⟨t, ht, hv⟩ := has_bit p (v / 2) (by omega) (by rw [Nat.pow_succ] at h1; omega)
      refine ⟨t + 1, by omega, ?_⟩
      rw [Nat.pow_succ, Nat.mul_comm, ← Nat.div_div_eq_div_mul]; exact hv
theorem row1_pos {per : Int} {keep : List Int} {t : Int} {i : Nat} (hb : kb per keep i t = true) : ∀ r, i < r → 1 ≤ row1 per keep t r
  | 0, h => by omega
  | r + 1, h => by
    have := (row1_le per keep t r).1
    simp only [row1]
    by_cases hi : i = r
    · subst hi; rw [if_pos hb]; omega
    · have := row1_pos hb r (by omega); split <;> omega
theorem tot_pos {per : Int} {keep : List Int} {r : Nat} {t : Nat} (h : 1 ≤ row1 per keep t r) : ∀ s, t < s → 1 ≤ tot per keep r s
  | 0, h => by omega
  | s + 1, hs => by
    have h1 := (tot_le per keep r s).1
    have h2 := (row1_le per keep s r).1
    simp only [tot]
    by_cases hi : t = s
    · subst hi; omega
    · have := tot_pos h s (by omega); omega
theorem chk_pos {x y z : Int} {p r : Nat} (hx : 0 ≤ x ∧ x < 18446744073709551616) (hy : 0 ≤ y ∧ y < 18446744073709551616) (hz : 0 ≤ z ∧ z < 18446744073709551616) (hc : chk (p : Int) x y z r = 0) : 1 ≤ tot (p : Int) [x, y, z] r p := by
  obtain ⟨hp, hr⟩ := chk_pat hx hy hz hc
  have hlo := hp.lo
  have hhi := hp.hi
  unfold chk at hc
  rw [if_neg (by omega), if_neg (by omega)] at hc
  have key : ∀ (i : Nat) (v : Int), i < 3 → [x, y, z].getD i 0 = v → 0 ≤ v → v < 18446744073709551616 → v ≠ 0 → bad (p : Int) (r : Int) i v = false → 1 ≤ tot (p : Int) [x, y, z] r p := by
    intro i v hi hv v0 v1 vn hb
    simp only [bad, Bool.or_eq_false_iff, Bool.and_eq_false_iff, decide_eq_false_iff_not, Bool.not_eq_false', decide_eq_true_eq] at hb
    obtain ⟨n, rfl⟩ := Int.eq_ofNat_of_zero_le v0
    have hir : i < r := by
      rcases hb.1 with h | h
      · omega
      · exact (vn h).elim
    have hlt : n < 2 ^ p := by
      rcases hb.2 with h | h
      · have : p = 64 := by omega
        subst this; omega
      · rw [Int.toNat_natCast] at h
        have h : ((n / 2 ^ p : Nat) : Int) = 0 := by rw [Int.natCast_ediv]; simpa using h
        have h : n / 2 ^ p = 0 := by omega
        rcases (Nat.div_eq_zero_iff).1 h with h | h
        · have := Nat.pow_pos (n := p) (show 0 < 2 by omega); omega
        · exact h
    obtain ⟨t, ht, hbt⟩ := has_bit p n (by omega) hlt
    refine tot_pos (t := t) (row1_pos (i := i) ?_ r hir) p ht
    unfold kb
    rw [Int.toNat_natCast, hv, show (t : Int) % (p : Int) = t from Int.emod_eq_of_lt (by omega) (by omega), Int.toNat_natCast]
    have : (((n / 2 ^ t % 2 : Nat)) : Int) = (n : Int) / 2 ^ t % 2 := by rw [Int.natCast_emod, Int.natCast_ediv]; simp
    rw [← this, hbt]; rfl
  cases b0 : bad (p : Int) r 0 x with
  | true => rw [b0] at hc; simp at hc
  | false =>
    cases b1 : bad (p : Int) r 1 y with
    | true => rw [b0, b1] at hc; simp at hc
    | false =>
      cases b2 : bad (p : Int) r 2 z with
      | true => rw [b0, b1, b2] at hc; simp at hc
      | false =>
        rw [b0, b1, b2] at hc
        simp only [Bool.or_self, Bool.false_eq_true, if_false] at hc
        by_cases x0 : x = 0
        · by_cases y0 : y = 0
          · by_cases z0 : z = 0
            · rw [if_pos ⟨x0, y0, z0⟩] at hc; cases hc
            · exact key 2 z (by omega) rfl hz.1 hz.2 z0 b2
          · exact key 1 y (by omega) rfl hy.1 hy.2 y0 b1
        · exact key 0 x (by omega) rfl hx.1 hx.2 x0 b0
end Go.Eng.Pu

/- PunctureWidens in plain Lean. No condition. -/
namespace Go.Eng.Pu
open Go Go.Eng Go.Proofs
/-- An entry that is well. -/
def wellT (n : Int) (m : List Int) (b r : Nat) : Prop := -4096 ≤ m.getD (b * 16 + r) 0 ∧ m.getD (b * 16 + r) 0 ≤ 4096 ∧ (n ≤ (r : Int) → m.getD (b * 16 + r) 0 = 0)
section
variable {n : Int} {m : List Int}
theorem row32 {b : Nat} (hb : b < 2) {d : Nat} : ∀ (r : Nat), r + d = 16 → ∀ {c0 : Int} {K0 : Nat} {G : Prop}, (∀ k, K0 ≤ k → L32_4 k ((), ((b + 1 : Nat) : Int), ()) ((n, m, ()), ()) = some (c0, ())) → (c0 = 0 ↔ G) → c0 = 0 ∨ c0 = 100 →
    ∃ c, (∀ k, K0 + d + 1 ≤ k → L32_7 k ((), (b : Int), (r : Int), ()) ((n, m, ()), ()) = some (c, ())) ∧ (c = 0 ↔ (∀ r', r ≤ r' → r' < 16 → wellT n m b r') ∧ G) ∧ (c = 0 ∨ c = 100) := by
  induction d with
  | zero =>
    intro r hr c0 K0 G h0 hG hc
    refine ⟨c0, fun k hk => ?_, ?_, hc⟩
    · obtain ⟨j, rfl⟩ : ∃ j, k = j + 1 := ⟨k - 1, by omega⟩
      rw [L32_7, if_neg (show ¬ decide ((r : Int) < 16) = true by simp; omega), wi (n := (b : Int) + 1) (by omega) (by omega), show (b : Int) + 1 = ((b + 1 : Nat) : Int) by omega]
      exact h0 j (by omega)
    · rw [hG]; constructor
      · exact fun g => ⟨fun r' h1 h2 => by omega, g⟩
      · exact fun g => g.2
  | succ d ih =>
    intro r hr c0 K0 G h0 hG hc
    obtain ⟨c1, h1, h2, h3⟩ := ih (r + 1) (by omega) h0 hG hc
    have idx : (Int.toNat (b : Int)) * 16 + (Int.toNat (r : Int)) * 1 = b * 16 + r := by simp
    have step : ∀ j, L32_7 (j + 1) ((), (b : Int), (r : Int), ()) ((n, m, ()), ()) = if m.getD (b * 16 + r) 0 < -4096 then some (100, ()) else if 4096 < m.getD (b * 16 + r) 0 then some (100, ()) else if n ≤ (r : Int) then (if ¬ m.getD (b * 16 + r) 0 = 0 then some (100, ()) else L32_7 j ((), (b : Int), ((r + 1 : Nat) : Int), ()) ((n, m, ()), ())) else L32_7 j ((), (b : Int), ((r + 1 : Nat) : Int), ()) ((n, m, ()), ()) := fun j => by
      rw [L32_7, if_pos (show decide ((r : Int) < 16) = true by simp; omega), if_pos (show (0 : Int) ≤ (b : Int) ∧ (b : Int) < 2 by omega), if_pos (show (0 : Int) ≤ (r : Int) ∧ (r : Int) < 16 by omega), idx, if_pos (show b * 16 + r < 32 by omega), wi (n := (r : Int) + 1) (by omega) (by omega), show (r : Int) + 1 = ((r + 1 : Nat) : Int) by omega]
      simp only [decide_eq_true_eq, Bool.not_eq_true', decide_eq_false_iff_not]
    have split' : (∀ r', r ≤ r' → r' < 16 → wellT n m b r') ↔ wellT n m b r ∧ ∀ r', r + 1 ≤ r' → r' < 16 → wellT n m b r' := by
      constructor
      · exact fun h => ⟨h r (Nat.le_refl _) (by omega), fun r' a b => h r' (by omega) b⟩
      · rintro ⟨a, b⟩ r' c d
        rcases Nat.eq_or_lt_of_le c with rfl | c
        · exact a
        · exact b r' c d
    by_cases hw : wellT n m b r
    · refine ⟨c1, fun k hk => ?_, ?_, h3⟩
      · obtain ⟨j, rfl⟩ : ∃ j, k = j + 1 := ⟨k - 1, by omega⟩
        rw [step, if_neg (by have := hw.1; omega), if_neg (by have := hw.2.1; omega)]
        by_cases hn : n ≤ (r : Int)
        · rw [if_pos hn, if_neg (fun h => h (hw.2.2 hn))]; exact h1 j (by omega)
        · rw [if_neg hn]; exact h1 j (by omega)
      · rw [h2, split']; simp [hw]
    · refine ⟨100, fun k hk => ?_, ?_, .inr rfl⟩
      · obtain ⟨j, rfl⟩ : ∃ j, k = j + 1 := ⟨k - 1, by omega⟩
        rw [step]
        by_cases a : m.getD (b * 16 + r) 0 < -4096
        · rw [if_pos a]
        · rw [if_neg a]
          by_cases a2 : 4096 < m.getD (b * 16 + r) 0
          · rw [if_pos a2]
          · rw [if_neg a2]
            by_cases hn : n ≤ (r : Int)
            · rw [if_pos hn]
              by_cases a3 : m.getD (b * 16 + r) 0 = 0
              · exact (hw ⟨by omega, by omega, fun _ => a3⟩).elim
              · rw [if_pos a3]
            · exact (hw ⟨by omega, by omega, fun h => (hn h).elim⟩).elim
      · constructor
        · intro h; cases h
        · rw [split']; exact fun h => (hw h.1.1).elim
theorem all32 : ∃ c K, (∀ k, K ≤ k → L32_4 k ((), 0, ()) ((n, m, ()), ()) = some (c, ())) ∧ (c = 0 ↔ ∀ b r, b < 2 → r < 16 → wellT n m b r) ∧ (c = 0 ∨ c = 100) := by
  have h2 : ∀ k, 1 ≤ k → L32_4 k ((), ((1 + 1 : Nat) : Int), ()) ((n, m, ()), ()) = some (0, ()) := fun k hk => by
    obtain ⟨j, rfl⟩ : ∃ j, k = j + 1 := ⟨k - 1, by omega⟩
    rw [L32_4, if_neg (by decide)]
  obtain ⟨c1, a1, b1, d1⟩ := row32 (n := n) (m := m) (b := 1) (by omega) (d := 16) 0 rfl (G := True) h2 (by simp) (.inl rfl)
  have h1 : ∀ k, 19 ≤ k → L32_4 k ((), ((0 + 1 : Nat) : Int), ()) ((n, m, ()), ()) = some (c1, ()) := fun k hk => by
    obtain ⟨j, rfl⟩ : ∃ j, k = j + 1 := ⟨k - 1, by omega⟩
    rw [L32_4, if_pos (by decide)]; exact a1 j (by omega)
  obtain ⟨c0, a0, b0, d0⟩ := row32 (n := n) (m := m) (b := 0) (by omega) (d := 16) 0 rfl h1 b1 d1
  refine ⟨c0, 40, fun k hk => ?_, ?_, d0⟩
  · obtain ⟨j, rfl⟩ : ∃ j, k = j + 1 := ⟨k - 1, by omega⟩
    rw [L32_4, if_pos (by decide)]; exact a0 j (by omega)
  · rw [b0]
    constructor
    · rintro ⟨p, q, _⟩ b r hb hr
      rcases (show b = 0 ∨ b = 1 by omega) with rfl | rfl
      · exact p r (Nat.zero_le _) hr
      · exact q r (Nat.zero_le _) hr
    · exact fun h => ⟨fun r _ hr => h 0 r (by omega) hr, fun r _ hr => h 1 r (by omega) hr, trivial⟩
theorem row_get {b r : Nat} (hr : r < 16) : List.getD (List.take 16 (List.drop (b * 16) m)) r 0 = m.getD (b * 16 + r) 0 := by
  simp [List.getD_eq_getElem?_getD, List.getElem?_take, hr, List.getElem?_drop]
/-- Both checks go in step. -/
theorem both49 : ∀ k, (∀ b r : Nat, b < 2 → r ≤ 16 → L49_7 k ((), m, (b : Int), List.take 16 (List.drop (b * 16) m), (r : Int), ()) ((n, m, ()), ()) = L32_7 k ((), (b : Int), (r : Int), ()) ((n, m, ()), ())) ∧
    ∀ b : Nat, b ≤ 2 → L49_4 k ((), m, (b : Int), ()) ((n, m, ()), ()) = L32_4 k ((), (b : Int), ()) ((n, m, ()), ())
  | 0 => ⟨fun _ _ _ _ => rfl, fun _ _ => rfl⟩
  | k + 1 => by
    obtain ⟨h7, h4⟩ := both49 k
    constructor
    · intro b r hb hr
      have idx : (Int.toNat (b : Int)) * 16 + (Int.toNat (r : Int)) * 1 = b * 16 + r := by simp
      have e1 : IntKind.wrap IntKind.i64 ((b : Int) + 1) = ((b + 1 : Nat) : Int) := by rw [wi (by omega) (by omega)]; omega
      have e2 : IntKind.wrap IntKind.i64 ((r : Int) + 1) = ((r + 1 : Nat) : Int) := by rw [wi (by omega) (by omega)]; omega
      rw [L49_7, L32_7, e1, e2, h4 (b + 1) (by omega), idx]
      by_cases h16 : r < 16
      · rw [Int.toNat_natCast, row_get h16, if_pos (show decide ((r : Int) < 16) = true by simp; omega), if_pos (show decide ((r : Int) < 16) = true by simp; omega), if_pos (show (0 : Int) ≤ (r : Int) ∧ (r : Int) < 16 by omega), if_pos (show (0 : Int) ≤ (b : Int) ∧ (b : Int) < 2 by omega), if_pos (show (0 : Int) ≤ (r : Int) ∧ (r : Int) < 16 by omega), if_pos (show b * 16 + r < 32 by omega), h7 b (r + 1) hb (by omega)]
      · rw [if_neg (show ¬ decide ((r : Int) < 16) = true by simp; omega), if_neg (show ¬ decide ((r : Int) < 16) = true by simp; omega)]
    · intro b hb
      rw [L49_4, L32_4]
      by_cases h2 : b < 2
      · have := h7 b 0 h2 (by omega)
        have this : L49_7 k ((), m, (b : Int), List.take 16 (List.drop (b * 16) m), 0, ()) ((n, m, ()), ()) = L32_7 k ((), (b : Int), 0, ()) ((n, m, ()), ()) := this
        rw [if_pos (show decide ((b : Int) < 2) = true by simp; omega), if_pos (show decide ((b : Int) < 2) = true by simp; omega), if_pos (show (0 : Int) ≤ (b : Int) ∧ (b : Int) < 2 by omega), Int.toNat_natCast, this]
      · rw [if_neg (show ¬ decide ((b : Int) < 2) = true by simp; omega), if_neg (show ¬ decide ((b : Int) < 2) = true by simp; omega)]
theorem same49 (k : Nat) : F49 k ((n, m, ()), ()) () = F32 k ((n, m, ()), ()) () := by
  have h := (both49 (n := n) (m := m) k).2 0 (by omega)
  have h : L49_4 k ((), m, 0, ()) ((n, m, ()), ()) = L32_4 k ((), 0, ()) ((n, m, ()), ()) := h
  simp only [F49, F32, h]
theorem chk32 : ∃ c K, (∀ k, K ≤ k → F32 k ((n, m, ()), ()) () = some (c, ())) ∧ (c = 0 ↔ 2 ≤ n ∧ n ≤ 16 ∧ ∀ b r, b < 2 → r < 16 → wellT n m b r) := by
  obtain ⟨c, K, h1, h2, h3⟩ := all32 (n := n) (m := m)
  by_cases a : n < 2
  · refine ⟨100, 0, fun k _ => ?_, ?_⟩
    · simp only [F32]; rw [if_pos (by simpa using a)]
    · constructor
      · intro h; cases h
      · rintro ⟨h, _⟩; omega
  · by_cases b : 16 < n
    · refine ⟨100, 0, fun k _ => ?_, ?_⟩
      · simp only [F32]; rw [if_neg (by simpa using a), if_pos (by simpa using b)]
      · constructor
        · intro h; cases h
        · rintro ⟨_, h, _⟩; omega
    · refine ⟨c, K, fun k hk => ?_, ?_⟩
      · simp only [F32]; rw [if_neg (by simpa using a), if_neg (by simpa using b)]; exact h1 k hk
      · rw [h2]; constructor
        · exact fun h => ⟨by omega, by omega, h⟩
        · exact fun h => h.2.2
end
end Go.Eng.Pu

/- What the plain functions of puncture come to: fills; there and back. No condition. -/
namespace Go.Eng.Pu
open Go Go.Eng Go.Proofs
def fills (per : Int) (keep : List Int) (r : Nat) (lv : Int) : Nat → Nat → List Int → List Int
  | 0, _, _ => []
  | n + 1, k, w => if kat per keep r k then w.headD 0 :: fills per keep r lv n (k + 1) w.tail else lv :: fills per keep r lv n (k + 1) w
theorem fills_len (per : Int) (keep : List Int) (r : Nat) (lv : Int) : ∀ n k w, (fills per keep r lv n k w).length = n
  | 0, k, w => rfl
  | n + 1, k, w => by simp only [fills]; split <;> simp [fills_len per keep r lv n]
theorem set_at (pre : List Int) (n : Nat) (x : Int) : List.set (pre ++ List.replicate (n + 1) 0) pre.length x = (pre ++ [x]) ++ List.replicate n 0 := by
  rw [List.set_append, if_neg (by omega), Nat.sub_self, List.replicate_succ]; simp
theorem set_last (pre : List Int) (l : List Int) (x y : Int) : List.set ((pre ++ [x]) ++ l) pre.length y = (pre ++ [y]) ++ l := by
  rw [List.append_assoc, List.set_append, if_neg (by omega), Nat.sub_self]; simp
theorem cntF_mono (per : Int) (keep : List Int) (r k : Nat) : ∀ n, cntF per keep r k ≤ cntF per keep r (k + n)
  | 0 => Nat.le_refl _
  | n + 1 => Nat.le_trans (cntF_mono per keep r k n) (by rw [← Nat.add_assoc]; simp only [cntF]; omega)
theorem wu8 {n : Int} (h0 : 0 ≤ n) (h : n ≤ 255) : IntKind.wrap IntKind.u8 n = n := IntWalk.u8_in n ⟨h0, h⟩
section
variable {per : Int} {keep : List Int} (h : Pat per keep)
include h
theorem loop18 {r : Nat} (hr0 : 0 < r) (hr : r ≤ 3) {lv : Int} (l0 : 0 ≤ lv) (l1 : lv ≤ 255) {K : Nat} : ∀ (n : Nat) (pre w1 w2 : List Int) (kk : Nat) (_ : pre.length + n ≤ 1000000) (_ : w1.length + w2.length ≤ 1000000) (_ : cntF per keep r (pre.length + n) = cntF per keep r pre.length + w2.length),
    L20_18 K (kk + n + 1) ((r : Int), lv, w1 ++ w2, ((), ()), (), (w1.length : Int), ((pre.length + n : Nat) : Int), (pre.length : Int), ()) ((per, keep, ()), pre ++ List.replicate n 0, ()) = some (((), 0, ()), pre ++ fills per keep r lv n pre.length w2, ()) := by
  intro n
  induction n with
  | zero =>
    intro pre w1 w2 kk hp hw hcn
    rw [L20_18, if_neg (by simp)]; simp [fills]
  | succ n ih =>
    intro pre w1 w2 kk hp hw hcn
    rw [show kk + (n + 1) + 1 = (kk + n + 1) + 1 by omega, L20_18]
    have hr' : ¬ (r : Int) = 0 := by omega
    have hlen : (pre ++ List.replicate (n + 1) (0 : Int)).length = pre.length + (n + 1) := by simp
    have e1 : IntKind.wrap IntKind.i64 ((pre.length : Int) + 1) = (pre.length : Int) + 1 := wi (by omega) (by omega)
    have e2 : IntKind.wrap IntKind.i64 ((w1.length : Int) + 1) = (w1.length : Int) + 1 := wi (by omega) (by omega)
    rw [if_pos (show decide ((pre.length : Int) < ((pre.length + (n + 1) : Nat) : Int)) = true by simp; omega), if_pos (show (0 : Int) ≤ (pre.length : Int) ∧ (pre.length : Int) < ((pre ++ List.replicate (n + 1) (0 : Int)).length : Int) by rw [hlen]; omega), Int.toNat_natCast,
      if_pos (show pre.length < (pre ++ List.replicate (n + 1) (0 : Int)).length by rw [hlen]; omega), if_neg hr', if_neg hr', keep63' h hr0 hr (by omega), e1, e2, wu8 l0 l1, set_at, set_last]
    simp only [Option.bind_some]
    have hlen2 : ((pre ++ [lv]) ++ List.replicate n (0 : Int)).length = pre.length + (n + 1) := by simp only [List.length_append, List.length_singleton, List.length_replicate]; omega
    rw [show pre.length + (n + 1) = (pre.length + 1) + n by omega] at hcn
    by_cases hk : kat per keep r pre.length = true
    · have hc1 : cntF per keep r (pre.length + 1) = cntF per keep r pre.length + 1 := by simp only [cntF]; rw [if_pos hk]
      have hmono := cntF_mono per keep r (pre.length + 1) n
      match w2, hcn, hw with
      | [], hcn, hw => simp at hcn; omega
      | a :: w2, hcn, hw =>
        simp only [List.length_cons] at hcn hw
        have ih' := ih (pre ++ [a]) (w1 ++ [a]) w2 kk (by simp; omega) (by simp; omega) (by simp only [List.length_append, List.length_singleton]; omega)
        simp only [List.length_append, List.length_singleton, Int.natCast_add, Int.natCast_one] at ih'
        rw [if_pos hk, if_pos (show (0 : Int) ≤ (w1.length : Int) ∧ (w1.length : Int) < ((w1 ++ a :: w2).length : Int) by simp; omega), if_pos (show (0 : Int) ≤ (pre.length : Int) ∧ (pre.length : Int) < (((pre ++ [lv]) ++ List.replicate n (0 : Int)).length : Int) by rw [hlen2]; omega), if_pos (by rw [hlen2]; omega)]
        rw [Int.toNat_natCast, show List.getD (w1 ++ a :: w2) w1.length 0 = a by simp [List.getD_eq_getElem?_getD]]
        rw [show (w1 ++ [a]) ++ w2 = w1 ++ a :: w2 by simp] at ih'
        have e3 : ((pre.length + (n + 1) : Nat) : Int) = (pre.length : Int) + 1 + (n : Int) := by omega
        rw [e3, ih']
        simp [fills, hk]
    · have hc1 : cntF per keep r (pre.length + 1) = cntF per keep r pre.length := by simp only [cntF]; rw [if_neg hk]; rfl
      have ih' := ih (pre ++ [lv]) w1 w2 kk (by simp; omega) hw (by simp only [List.length_append, List.length_singleton]; omega)
      simp only [List.length_append, List.length_singleton, Int.natCast_add, Int.natCast_one] at ih'
      have e3 : ((pre.length + (n + 1) : Nat) : Int) = (pre.length : Int) + 1 + (n : Int) := by omega
      rw [if_neg hk, e3, ih']
      simp [fills, hk]
end
theorem loop9 {per : Int} {keep : List Int} {r : Nat} (hr : r ≤ 3) {lv : Int} {S : Nat} (hS : S ≤ 1055) {w : List Int} (hw8 : ∀ x ∈ w, 0 ≤ x ∧ x ≤ 255) (hwl : w.length ≤ 1000000) {K : Nat} : ∀ (l2 p2 : List Int) (kk : Nat) (_ : w = p2 ++ l2),
    L20_9 K (kk + l2.length + 1) ((r : Int), lv, (S : Int), w, (), w, (w.length : Int), (p2.length : Int), ()) ((per, keep, ()), ()) =
      if (∀ x ∈ l2, x < lv) then L20_18 K kk ((r : Int), lv, w, ((), ()), (), 0, ((r * S : Nat) : Int), 0, ()) ((per, keep, ()), List.replicate (r * S) 0, ()) else some (((), 91, ()), [], ()) := by
  intro l2
  induction l2 with
  | nil =>
    intro p2 kk hw
    have hrS : r * S ≤ 3165 := by have := Nat.mul_le_mul hr hS; omega
    have e1 : IntKind.wrap IntKind.i64 ((r : Int) * (S : Int)) = ((r * S : Nat) : Int) := by rw [← Int.natCast_mul]; exact wi (by omega) (by omega)
    subst hw
    rw [if_pos (by simp), show kk + ([] : List Int).length + 1 = kk + 1 from rfl, L20_9, if_neg (by simp)]
    simp only [F43, Option.bind_some, e1]
    rw [if_pos (by omega), Int.toNat_natCast, List.length_replicate]
  | cons x l2 ih =>
    intro p2 kk hw
    have ih' := ih (p2 ++ [x]) kk (by simp [hw])
    simp only [List.length_append, List.length_singleton, Int.natCast_add, Int.natCast_one] at ih'
    have hlen : w.length = p2.length + (l2.length + 1) := by rw [hw]; simp
    have hx := hw8 x (by rw [hw]; simp)
    have hget : List.getD w p2.length 0 = x := by rw [hw]; simp [List.getD_eq_getElem?_getD]
    rw [show kk + (x :: l2).length + 1 = (kk + l2.length + 1) + 1 by simp; omega, L20_9, if_pos (show decide ((p2.length : Int) < (w.length : Int)) = true by simp; omega), if_pos (show (0 : Int) ≤ (p2.length : Int) ∧ (p2.length : Int) < (w.length : Int) by omega), Int.toNat_natCast, hget, wi (n := x) (by omega) (by omega), wi (n := (p2.length : Int) + 1) (by omega) (by omega)]
    by_cases hlt : x < lv
    · rw [if_neg (show ¬ decide (lv ≤ x) = true by simp; omega), ih']
      by_cases ha : ∀ y ∈ l2, y < lv
      · rw [if_pos ha, if_pos (by simpa [hlt] using ha)]
      · rw [if_neg ha, if_neg (by simpa [hlt] using ha)]
    · rw [if_pos (show decide (lv ≤ x) = true by simp; omega), if_neg (by simp [hlt])]
/-- What Fill comes to. -/
theorem fill_ok {per x y z rate lv steps : Int} {w : List Int} (hx : 0 ≤ x ∧ x < 18446744073709551616) (hy : 0 ≤ y ∧ y < 18446744073709551616) (hz : 0 ≤ z ∧ z < 18446744073709551616) (hw8 : ∀ x ∈ w, 0 ≤ x ∧ x ≤ 255) :
    ∃ K e l, (∀ k, K ≤ k → F20 k ((per, [x, y, z], ()), rate, lv, steps, w, ()) () = some (((), e, ()), l, ())) ∧
      (e = 0 → chk per x y z rate = 0 ∧ 2 ≤ lv ∧ lv ≤ 15 ∧ (∀ v ∈ w, v < lv) ∧ ∃ r S : Nat, rate = r ∧ 0 < r ∧ r ≤ 3 ∧ steps = S ∧ S ≤ 1055 ∧ (w.length : Int) = tot per [x, y, z] r S ∧ l = fills per [x, y, z] r lv (r * S) 0 w) ∧
      (e ≠ 0 → ¬ (chk per x y z rate = 0 ∧ 2 ≤ lv ∧ lv ≤ 15 ∧ (∀ v ∈ w, v < lv) ∧ ∃ r S : Nat, rate = r ∧ steps = S ∧ S ≤ 1055 ∧ (w.length : Int) = tot per [x, y, z] r S)) := by
  have e28 := fun k => chk28 (per := per) (rate := rate) hx hy hz k
  by_cases hc : chk per x y z rate = 0
  · by_cases hb : lv < 2 ∨ 15 < lv ∨ steps < 0 ∨ 1055 < steps
    · refine ⟨10, 1, [], fun k hk => ?_, (fun h => by cases h), fun _ h => ?_⟩
      · simp only [F20]
        rw [show k = k - 6 + 6 by omega, e28, hc]
        simp only [Option.bind_some, decide_true, Bool.not_true, Bool.false_eq_true, if_false]
        by_cases h1 : lv < 2
        · simp [h1]
        · by_cases h2 : 15 < lv
          · simp [h1, h2]
          · by_cases h3 : steps < 0
            · simp [h1, h2, h3]
            · have h4 : 1055 < steps := by omega
              simp [h1, h2, h3, h4]
      · obtain ⟨_, a, b, _, r, S, _, rfl, c, _⟩ := h; omega
    · obtain ⟨hp, hr⟩ := chk_pat hx hy hz hc
      obtain ⟨r, rfl, hr0, hr3⟩ := rate_cases hr
      obtain ⟨S, rfl⟩ := Int.eq_ofNat_of_zero_le (show 0 ≤ steps by omega)
      obtain ⟨K1, h1⟩ := count_ok hp hr3 (S := S) (by omega)
      have b1 : ¬ lv < 2 := by omega
      have b2 : ¬ 15 < lv := by omega
      have b3 : ¬ (S : Int) < 0 := by omega
      have b4 : ¬ 1055 < (S : Int) := by omega
      have hrS : r * S ≤ 3165 := by have := Nat.mul_le_mul hr3 (show S ≤ 1055 by omega); omega
      have hb3 := tot3 (per := per) (keep := [x, y, z]) hr3 (s := S) (by omega)
      have head : ∀ k, K1 + 10 ≤ k → F20 k ((per, [x, y, z], ()), (r : Int), lv, (S : Int), w, ()) () = if (!decide ((w.length : Int) = tot per [x, y, z] r S)) = true then some (((), 5, ()), [], ()) else L20_9 k k ((r : Int), lv, (S : Int), w, (), w, (w.length : Int), 0, ()) ((per, [x, y, z], ()), ()) := fun k hk => by
        have e28' := e28 (k - 6)
        rw [show k - 6 + 6 = k by omega, hc] at e28'
        simp only [F20]
        rw [e28', h1 k (by omega)]
        simp [b1, b2, b3, b4]
      by_cases hn : (w.length : Int) = tot per [x, y, z] r S
      · have hwl : w.length ≤ 1000000 := by
          have := tot_le per [x, y, z] r S
          have e : ((r * S : Nat) : Int) = (r : Int) * S := Int.natCast_mul r S
          omega
        have h9 := fun K kk => loop9 (per := per) (keep := [x, y, z]) hr3 (lv := lv) (S := S) (by omega) hw8 hwl (K := K) w [] kk rfl
        by_cases hlv : ∀ v ∈ w, v < lv
        · refine ⟨K1 + 20 + w.length + r * S, 0, fills per [x, y, z] r lv (r * S) 0 w, fun k hk => ?_, fun _ => ⟨hc, by omega, by omega, hlv, r, S, rfl, hr0, hr3, rfl, by omega, hn, rfl⟩, fun h => by cases h rfl⟩
          rw [head k (by omega), if_neg (by simp [hn])]
          have := h9 k (k - w.length - 1)
          rw [show k - w.length - 1 + w.length + 1 = k by omega, if_pos hlv] at this
          refine this.trans ?_
          have h18 := loop18 hp hr0 hr3 (lv := lv) (by omega) (by omega) (K := k) (r * S) [] [] w (k - w.length - 1 - r * S - 1) (by simpa using (by omega : r * S ≤ 1000000)) (by simpa using hwl) (by
            have := cntF_tot per [x, y, z] hr0 S
            simp only [List.length_nil, Nat.zero_add]
            simp only [cntF]; omega)
          rw [show k - w.length - 1 - r * S - 1 + r * S + 1 = k - w.length - 1 by omega] at h18
          simpa using h18
        · refine ⟨K1 + 20 + w.length, 91, [], fun k hk => ?_, (fun h => by cases h), fun _ h => hlv h.2.2.2.1⟩
          rw [head k (by omega), if_neg (by simp [hn])]
          have := h9 k (k - w.length - 1)
          rw [show k - w.length - 1 + w.length + 1 = k by omega, if_neg hlv] at this
          exact this
      · refine ⟨K1 + 10, 5, [], fun k hk => ?_, (fun h => by cases h), fun _ h => ?_⟩
        · rw [head k hk, if_pos (by simp [hn])]
        · obtain ⟨_, _, _, _, r', S', e1, e2, _, e3⟩ := h
          have : r' = r := by omega
          have : S' = S := by omega
          subst r' S'; exact hn e3
  · refine ⟨10, chk per x y z rate, [], fun k hk => ?_, fun h => (hc h).elim, fun _ h => hc h.1⟩
    simp only [F20]
    rw [show k = k - 6 + 6 by omega, e28]
    simp [hc]
end Go.Eng.Pu

/- There and back. No condition. -/
namespace Go.Eng.Pu
open Go Go.Eng Go.Proofs
def marks : Nat → Nat → List Int
  | _, 0 => []
  | i, d + 1 => (200 + i : Int) :: marks (i + 1) d
theorem lent_loop {w : List Int} : ∀ (d i : Nat) (a : List Int) (k : Nat) (_ : i + d = 8) (_ : w.length ≤ a.length) (_ : a.length + d ≤ 140737488355328),
    L12_3 (k + d + 1) (w, (), (i : Int), ()) (a, ()) = some ((0, w.length), a ++ marks i d, ()) := by
  intro d
  induction d with
  | zero =>
    intro i a k hi hw ha
    rw [L12_3, if_neg (show ¬ decide ((i : Int) < 8) = true by simp; omega), if_pos (show (0 : Int) ≤ (w.length : Int) ∧ (w.length : Int) ≤ (a.length : Int) by omega)]
    simp [marks]
  | succ d ih =>
    intro i a k hi hw ha
    rw [show k + (d + 1) + 1 = (k + d + 1) + 1 by omega, L12_3, if_pos (show decide ((i : Int) < 8) = true by simp; omega), if_pos (show (a.length + 1) * 1 ≤ 140737488355328 by omega), wi (n := (i : Int) + 1) (by omega) (by omega), wi (n := 200 + (i : Int)) (by omega) (by omega), wu8 (by omega) (by omega)]
    have := ih (i + 1) (a ++ [(200 + i : Int)]) k (by omega) (by simp; omega) (by simp; omega)
    rw [show ((i + 1 : Nat) : Int) = (i : Int) + 1 by omega] at this
    rw [this]; simp [marks]
theorem lent_ok {w : List Int} (hw : w.length ≤ 140737488351232) (k : Nat) : F12 (k + 9) (w, ()) () = some ((0, w.length), w ++ marks 0 8, ()) := by
  simp only [F12]
  rw [if_pos (by omega)]
  exact lent_loop 8 0 w k (by omega) (Nat.le_refl _) (by omega)
def ov (per : Int) (keep : List Int) (r : Nat) (lv : Int) : List Int → Nat → List Int
  | [], _ => []
  | x :: l, k => (if kat per keep r k then x else lv) :: ov per keep r lv l (k + 1)
theorem fills_picks (per : Int) (keep : List Int) (r : Nat) (lv : Int) : ∀ (l : List Int) (k : Nat), fills per keep r lv l.length k (picks per keep r l k) = ov per keep r lv l k
  | [], k => rfl
  | x :: l, k => by
    simp only [List.length_cons, fills, picks, ov]
    by_cases h : kat per keep r k = true
    · simp [h, fills_picks per keep r lv l]
    · simp [h, fills_picks per keep r lv l]
theorem picks_fills (per : Int) (keep : List Int) (r : Nat) (lv : Int) : ∀ (n k : Nat) (w : List Int), cntF per keep r (k + n) = cntF per keep r k + w.length → picks per keep r (fills per keep r lv n k w) k = w
  | 0, k, w, h => by
    have : w = [] := List.eq_nil_of_length_eq_zero (by rw [Nat.add_zero] at h; omega)
    subst this; rfl
  | n + 1, k, w, h => by
    rw [show k + (n + 1) = (k + 1) + n by omega] at h
    simp only [fills]
    by_cases hk : kat per keep r k = true
    · have hc1 : cntF per keep r (k + 1) = cntF per keep r k + 1 := by simp only [cntF]; rw [if_pos hk]
      have hmono := cntF_mono per keep r (k + 1) n
      match w, h with
      | [], h => simp at h; omega
      | a :: w, h =>
        rw [if_pos hk]
        simp only [picks, hk, if_true, List.headD_cons, List.tail_cons, List.singleton_append]
        rw [picks_fills per keep r lv n (k + 1) w (by simp at h; omega)]
    · have hc1 : cntF per keep r (k + 1) = cntF per keep r k := by simp only [cntF]; rw [if_neg hk]; rfl
      rw [if_neg hk]
      simp only [picks]
      rw [if_neg hk, picks_fills per keep r lv n (k + 1) w (by omega)]; rfl
theorem picks_mem (per : Int) (keep : List Int) (r : Nat) {x : Int} : ∀ {l : List Int} {k : Nat}, x ∈ picks per keep r l k → x ∈ l
  | [], k, h => by simp [picks] at h
  | y :: l, k, h => by
    simp only [picks, List.mem_append] at h
    rcases h with h | h
    · split at h
      · simp at h; subst h; exact List.mem_cons_self ..
      · simp at h
    · exact List.mem_cons_of_mem _ (picks_mem per keep r h)
/-- Two rows, one of which says nothing where the other one does. -/
def Fit (lv : Int) : List Int → List Int → List Int → Prop
  | [], [], [] => True
  | a :: la, x :: lx, d :: ld => (0 ≤ x ∧ x < lv) ∧ (0 ≤ a) ∧ ((d = x ∧ a < lv) ∨ (d = lv ∧ a = lv)) ∧ Fit lv la lx ld
  | _, _, _ => False
theorem fit_ok (per : Int) (keep : List Int) (r : Nat) (lv : Int) (h0 : 0 ≤ lv) : ∀ (l : List Int) (k : Nat) (w : List Int), (∀ x ∈ l, 0 ≤ x ∧ x < lv) → (∀ x ∈ w, 0 ≤ x ∧ x < lv) → cntF per keep r (k + l.length) = cntF per keep r k + w.length →
    Fit lv (fills per keep r lv l.length k w) l (ov per keep r lv l k)
  | [], k, w, hl, hw, h => trivial
  | x :: l, k, w, hl, hw, h => by
    simp only [List.length_cons] at h
    rw [show k + (l.length + 1) = (k + 1) + l.length by omega] at h
    simp only [List.length_cons, fills, ov]
    by_cases hk : kat per keep r k = true
    · have hc1 : cntF per keep r (k + 1) = cntF per keep r k + 1 := by simp only [cntF]; rw [if_pos hk]
      have hmono := cntF_mono per keep r (k + 1) l.length
      match w, h, hw with
      | [], h, hw => simp at h; omega
      | a :: w, h, hw =>
        rw [if_pos hk, if_pos hk]
        exact ⟨hl x (by simp), (hw a (by simp)).1, .inl ⟨rfl, (hw a (by simp)).2⟩, fit_ok per keep r lv h0 l (k + 1) w (fun y hy => hl y (List.mem_cons_of_mem _ hy)) (fun y hy => hw y (List.mem_cons_of_mem _ hy)) (by simp at h; omega)⟩
    · have hc1 : cntF per keep r (k + 1) = cntF per keep r k := by simp only [cntF]; rw [if_neg hk]; rfl
      rw [if_neg hk, if_neg hk]
      exact ⟨hl x (by simp), h0, .inr ⟨rfl, rfl⟩, fit_ok per keep r lv h0 l (k + 1) w (fun y hy => hl y (List.mem_cons_of_mem _ hy)) hw (by omega)⟩
end Go.Eng.Pu

/- ApartBytes, Stays, R.Cut. No condition. -/
set_option linter.unusedVariables false
namespace Go.Eng.Pu
open Go Go.Eng Go.Proofs
theorem inN {i n : Nat} (h : i < n) : (0 : Int) ≤ (i : Int) ∧ (i : Int) < (n : Int) := by omega
theorem bind_of {α β : Type} {o : Option α} {v : α} {f : α → Option β} {r : Option β} (h : o = some v) (h2 : f v = r) : Option.bind o f = r := by rw [h]; exact h2
theorem add1 {i : Nat} (hi : i < 4611686018427387904) : IntKind.wrap IntKind.i64 ((i : Int) + (1 : Int)) = ((i + 1 : Nat) : Int) := by
  rw [wi (by omega) (by omega)]; omega
theorem dlt {i n : Nat} (h : i < n) : decide ((i : Int) < (n : Int)) = true := by rw [decide_eq_true_eq]; omega
theorem ndlt {i n : Nat} (h : n ≤ i) : ¬ decide ((i : Int) < (n : Int)) = true := by rw [decide_eq_true_eq]; omega
theorem nd_t {p : Prop} [Decidable p] (h : p) : ¬ (!decide p) = true := by rw [decide_eq_true h]; decide
def mk (i j : Int) : Int := IntKind.wrap IntKind.u8 (IntKind.wrap IntKind.i64 (IntKind.wrap IntKind.i64 (IntKind.wrap IntKind.i64 ((31 : Int) * i) + IntKind.wrap IntKind.i64 ((7 : Int) * j)) + (1 : Int)))
theorem getD_set {l : List Int} {i j : Nat} {v : Int} (hi : i < l.length) : (l.set i v).getD j 0 = if j = i then v else l.getD j 0 := by
  simp only [List.getD_eq_getElem?_getD, List.getElem?_set]
  by_cases h : j = i
  · subst h; rw [if_pos rfl, if_pos hi, if_pos rfl]; rfl
  · rw [if_neg (Ne.symm h), if_neg h]
end Go.Eng.Pu

/- What the small functions of polynomials over the field of two elements come to. No condition. -/
set_option linter.unusedVariables false
namespace Go.Eng.Pu
open Go Go.Eng Go.Proofs
theorem Ev.bind {α β : Type} {f : Nat → Option α} {a : α} {g : Nat → α → Option β} {r : β} (hf : Ev f a) (hg : Ev (fun n => g n a) r) : Ev (fun n => (f n).bind (g n)) r := by
  obtain ⟨K, h1⟩ := hf
  obtain ⟨L, h2⟩ := hg
  exact ⟨K + L, fun k hk => by show (f k).bind (g k) = _; rw [h1 k (by omega)]; exact h2 k (by omega)⟩
theorem Ev.const {α : Type} {r : α} : Ev (fun _ => some r) r := ⟨0, fun _ _ => rfl⟩
/-! ### words -/
theorem bv {x : Nat} (hx : x < 18446744073709551616) : (BitVec.ofInt 64 (x : Int)).toNat = x := by
  rw [BitVec.toNat_ofInt]; omega
theorem xorw {x y : Nat} (hx : x < 18446744073709551616) (hy : y < 18446744073709551616) : IntKind.wrap IntKind.u64 ((BitVec.toNat (BitVec.ofInt 64 (x : Int) ^^^ BitVec.ofInt 64 (y : Int)) : Nat) : Int) = ((x ^^^ y : Nat) : Int) := by
  rw [BitVec.toNat_xor, bv hx, bv hy]
  have : x ^^^ y < 18446744073709551616 := Nat.xor_lt_two_pow (n := 64) hx hy
  exact wu (by omega) (by omega)
theorem orw {x y : Nat} (hx : x < 18446744073709551616) (hy : y < 18446744073709551616) : IntKind.wrap IntKind.u64 ((BitVec.toNat (BitVec.ofInt 64 (x : Int) ||| BitVec.ofInt 64 (y : Int)) : Nat) : Int) = ((x ||| y : Nat) : Int) := by
  rw [BitVec.toNat_or, bv hx, bv hy]
  have : x ||| y < 18446744073709551616 := Nat.or_lt_two_pow (n := 64) hx hy
  exact wu (by omega) (by omega)
theorem andw1 {x : Nat} (hx : x < 18446744073709551616) : IntKind.wrap IntKind.u64 ((BitVec.toNat (BitVec.ofInt 64 (x : Int) &&& BitVec.ofInt 64 (1 : Int)) : Nat) : Int) = ((x % 2 : Nat) : Int) := by
  have h1 : (BitVec.ofInt 64 (1 : Int)).toNat = 1 := by decide
  rw [BitVec.toNat_and, bv hx, h1, Nat.and_one_is_mod]
  exact wu (by omega) (by omega)
theorem wrapU (n : Int) : IntKind.wrap IntKind.u64 n = n % 18446744073709551616 := rfl
theorem shlw (x : Nat) {n : Nat} (hn : n ≤ 64) : shl' IntKind.u64 (x : Int) (n : Int) = ((x * 2 ^ n % 18446744073709551616 : Nat) : Int) := by
  unfold shl'
  rw [wrapU]
  show (x : Int) * 2 ^ (min n 64) % 18446744073709551616 = _
  rw [Nat.min_eq_left hn]
  have e : ((2 : Int) ^ n) = ((2 ^ n : Nat) : Int) := by simp
  rw [e, ← Int.natCast_mul]
  exact (Int.natCast_emod _ _).symm
theorem shrw {x : Nat} (hx : x < 18446744073709551616) {n : Nat} (hn : n ≤ 64) : shr' IntKind.u64 (x : Int) (n : Int) = ((x / 2 ^ n : Nat) : Int) := by
  rw [shr_lt (by omega) (by omega) hn]
  have e : ((2 : Int) ^ n) = ((2 ^ n : Nat) : Int) := by simp
  rw [e]; exact (Int.natCast_ediv _ _).symm
theorem shr64_lt {x : Nat} (hx : x < 18446744073709551616) (n : Nat) : x / 2 ^ n < 18446744073709551616 := Nat.lt_of_le_of_lt (Nat.div_le_self _ _) hx
theorem xor64_lt {x y : Nat} (hx : x < 18446744073709551616) (hy : y < 18446744073709551616) : x ^^^ y < 18446744073709551616 := Nat.xor_lt_two_pow (n := 64) hx hy
theorem testBit_div (x n : Nat) : x / 2 ^ n % 2 = if x.testBit n then 1 else 0 := by
  rw [Nat.testBit_eq_decide_div_mod_eq]
  rcases Nat.mod_two_eq_zero_or_one (x / 2 ^ n) with h | h <;> simp [h]
theorem xor_mod64 (x y : Nat) : (x ^^^ y) % 18446744073709551616 = x % 18446744073709551616 ^^^ y % 18446744073709551616 := Nat.xor_mod_two_pow (n := 64)
/-! ### degrees -/
def dg (a : Nat) : Int := if a = 0 then -1 else (a.log2 : Int)
def lnz (a : Nat) : Nat := if a = 0 then 0 else a.log2 + 1
theorem len_div {a : Nat} (n : Nat) (h : 2 ^ n ≤ a) : lnz a = lnz (a / 2 ^ n) + n := by
  have h0 := Nat.two_pow_pos n
  have h1 : a / 2 ^ n ≠ 0 := by
    have := Nat.div_pos h h0
    omega
  have h2 : a ≠ 0 := by omega
  unfold lnz
  rw [if_neg h2, if_neg h1]
  have l1 := Nat.log2_self_le h1
  have l2 := Nat.lt_log2_self (n := a / 2 ^ n)
  have : a.log2 = (a / 2 ^ n).log2 + n := by
    refine (Nat.log2_eq_iff h2).2 ⟨?_, ?_⟩
    · rw [Nat.pow_add]
      exact Nat.le_trans (Nat.mul_le_mul_right _ l1) (Nat.div_mul_le_self _ _)
    · have e : (a / 2 ^ n).log2 + n + 1 = ((a / 2 ^ n).log2 + 1) + n := by omega
      rw [e, Nat.pow_add]
      exact (Nat.div_lt_iff_lt_mul h0).1 l2
  omega
theorem len_le {a n : Nat} (h : a < 2 ^ n) : lnz a ≤ n := by
  unfold lnz
  split
  · omega
  · rename_i h0
    have := (Nat.log2_lt h0).2 h
    omega
theorem dg_len (a : Nat) : dg a = (lnz a : Int) - 1 := by unfold dg lnz; split <;> simp
theorem dg_le {a n : Nat} (h : a < 2 ^ n) : dg a < n := by rw [dg_len]; have := len_le h; omega
theorem dg_ge (a : Nat) : -1 ≤ dg a := by rw [dg_len]; omega
theorem dg_lt64 {a : Nat} (h : a < 18446744073709551616) : dg a ≤ 63 := by have := dg_le (n := 64) h; omega
theorem dg_pos {a : Nat} (h : a ≠ 0) : dg a = (a.log2 : Int) := if_neg h
theorem len88 {x : Nat} (hx : x < 4294967296) : F88 ((x : Int), ()) () = some (((lnz x : Nat) : Int), ()) := by
  rw [F88]
  generalize hT : List.map (fun b : UInt8 => ((BitVec.toNat b.1 : Nat) : Int)) _ = T
  have tab : ∀ i : Nat, i < 256 → List.getD T i 0 = ((lnz i : Nat) : Int) := by rw [← hT]; decide +kernel
  have w8 : ∀ i : Nat, i < 256 → IntKind.wrap IntKind.u8 (i : Int) = (i : Int) := fun i hi => IntWalk.u8_in _ ⟨by omega, by omega⟩
  have leaf : ∀ (c i : Nat), c ≤ 100 → i < 256 → (if (0 : Int) ≤ IntKind.wrap IntKind.u8 (i : Int) ∧ IntKind.wrap IntKind.u8 (i : Int) < (256 : Int) then some (IntKind.wrap IntKind.i64 ((c : Int) + IntKind.wrap IntKind.i64 (List.getD T (Int.toNat (IntKind.wrap IntKind.u8 (i : Int))) (0 : Int))), ()) else none) = some (((lnz i + c : Nat) : Int), ()) := fun c i hc hi => by
    have := len_le (n := 8) hi
    rw [w8 i hi, if_pos (by omega), Int.toNat_natCast, tab i hi, wi (n := ((lnz i : Nat) : Int)) (by omega) (by omega), wi (by omega) (by omega)]
    congr 2; omega
  have s16 : shr' IntKind.u64 (x : Int) (16 : Int) = ((x / 2 ^ 16 : Nat) : Int) := shrw (n := 16) (by omega) (by decide)
  have s8 : shr' IntKind.u64 (x : Int) (8 : Int) = ((x / 2 ^ 8 : Nat) : Int) := shrw (n := 8) (by omega) (by decide)
  have s24 : shr' IntKind.u64 ((x / 2 ^ 16 : Nat) : Int) (8 : Int) = ((x / 2 ^ 16 / 2 ^ 8 : Nat) : Int) := shrw (n := 8) (shr64_lt (by omega) 16) (by decide)
  rw [s16, s8, s24]
  refine (if_neg (fun h => absurd (of_decide_eq_true h) (show ¬ (4294967296 : Int) ≤ (x : Int) by omega))).trans ?_
  by_cases h1 : 65536 ≤ x
  · have l1 : lnz x = lnz (x / 2 ^ 16) + 16 := len_div 16 h1
    refine (if_pos (decide_eq_true (show (65536 : Int) ≤ (x : Int) by omega))).trans ?_
    by_cases h2 : 256 ≤ x / 2 ^ 16
    · have l2 : lnz (x / 2 ^ 16) = lnz (x / 2 ^ 16 / 2 ^ 8) + 8 := len_div 8 h2
      refine (if_pos (decide_eq_true (show (256 : Int) ≤ ((x / 2 ^ 16 : Nat) : Int) by omega))).trans ?_
      rw [l1, l2]
      exact leaf 24 _ (by decide) (by omega)
    · refine (if_neg (fun h => absurd (of_decide_eq_true h) (show ¬ (256 : Int) ≤ ((x / 2 ^ 16 : Nat) : Int) by omega))).trans ?_
      rw [l1]
      exact leaf 16 _ (by decide) (by omega)
  · refine (if_neg (fun h => absurd (of_decide_eq_true h) (show ¬ (65536 : Int) ≤ (x : Int) by omega))).trans ?_
    by_cases h2 : 256 ≤ x
    · have l2 : lnz x = lnz (x / 2 ^ 8) + 8 := len_div 8 h2
      refine (if_pos (decide_eq_true (show (256 : Int) ≤ (x : Int) by omega))).trans ?_
      rw [l2]
      exact leaf 8 _ (by decide) (by omega)
    · refine (if_neg (fun h => absurd (of_decide_eq_true h) (show ¬ (256 : Int) ≤ (x : Int) by omega))).trans ?_
      exact leaf 0 _ (by decide) (by omega)
theorem deg87 {x : Nat} (hx : x < 4294967296) : F87 ((x : Int), ()) () = some (dg x, ()) := by
  rw [F87, len88 hx]
  have := len_le (n := 32) hx
  simp only [Option.bind_some]
  rw [wi (by omega) (by omega), dg_len]
theorem deg85 {a : Nat} (ha : a < 18446744073709551616) : Ev (fun k => F85 k ((a : Int), ()) ()) (dg a, ()) := by
  have gen : ∀ (d : Nat) (a : Nat) (n : Int), a < 18446744073709551616 → lnz a = d → -1 ≤ n → n + d ≤ 1000 → Ev (fun k => L85_2 k ((a : Int), n, ()) ()) (n + d, ()) := by
    intro d
    induction d with
    | zero =>
      intro a n ha hl h0 h1
      have : a = 0 := by unfold lnz at hl; split at hl <;> omega
      subst this
      refine Ev.now fun k => ?_
      rw [L85_2]
      refine (if_neg (by decide)).trans ?_
      rw [show n + ((0 : Nat) : Int) = n by omega]
    | succ d ih =>
      intro a n ha hl h0 h1
      have hz : a ≠ 0 := by
        intro e
        rw [e] at hl
        unfold lnz at hl
        simp at hl
      have hlen : lnz a = lnz (a / 2) + 1 := by
        by_cases h1 : a = 1
        · subst h1; decide +kernel
        · have := len_div (a := a) 1 (by omega)
          simpa using this
      have h := ih (a / 2) (n + 1) (by omega) (by omega) (by omega) (by omega)
      rw [show n + 1 + (d : Int) = n + ((d + 1 : Nat) : Int) by omega] at h
      refine Ev.of_succ (fun k => ?_) h
      have s1 : shr' IntKind.u64 (a : Int) (1 : Int) = ((a / 2 : Nat) : Int) := shrw (n := 1) ha (by decide)
      rw [L85_2, s1, wi (n := n + 1) (by omega) (by omega)]
      exact if_pos (by rw [decide_eq_false (show ¬ (a : Int) = 0 by omega)]; rfl)
  have h := gen (lnz a) a (-1) ha rfl (by omega) (by have := len_le (n := 64) ha; omega)
  rw [show -1 + (lnz a : Int) = dg a by rw [dg_len]; omega] at h
  exact h
/-! ### long division -/
theorem xor_cancel_top {a b n : Nat} (ha1 : 2 ^ n ≤ a) (ha2 : a < 2 ^ (n + 1)) (hb1 : 2 ^ n ≤ b) (hb2 : b < 2 ^ (n + 1)) : a ^^^ b < 2 ^ n := by
  rcases Nat.lt_or_ge (a ^^^ b) (2 ^ n) with h | h
  · exact h
  · have t3 := Gf.top_bit h (Gf.xor_lt ha2 hb2)
    rw [Nat.testBit_xor, Gf.top_bit ha1 ha2, Gf.top_bit hb1 hb2] at t3
    simp at t3
theorem lt_of_no_bit {a n : Nat} (h : a < 2 ^ (n + 1)) (hb : a.testBit n = false) : a < 2 ^ n := by
  rcases Nat.lt_or_ge a (2 ^ n) with h' | h'
  · exact h'
  · rw [Gf.top_bit h' h] at hb; cases hb
theorem bshift {b s n : Nat} (hb : b ≠ 0) (hn : b.log2 + s = n) : 2 ^ n ≤ b * 2 ^ s ∧ b * 2 ^ s < 2 ^ (n + 1) := by
  subst hn
  have h0 := Nat.two_pow_pos s
  constructor
  · rw [Nat.pow_add]; exact Nat.mul_le_mul_right _ (Gf.pow_log2_le hb)
  · have e : b.log2 + s + 1 = (b.log2 + 1) + s := by omega
    rw [e, Nat.pow_add]; exact Nat.mul_lt_mul_of_pos_right (Gf.lt_pow_log2 b) h0
theorem pow64 : (2 : Nat) ^ 64 = 18446744073709551616 := by decide
theorem lt64_of {a n : Nat} (hn : n ≤ 64) (h : a < 2 ^ n) : a < 18446744073709551616 := by
  have := Nat.pow_le_pow_right (n := 2) (by omega) hn
  rw [pow64] at this
  omega
theorem log2_le63 {b : Nat} (hb : b ≠ 0) (h : b < 18446744073709551616) : b.log2 ≤ 63 := by
  have := (Nat.log2_lt (n := b) (k := 64) hb).2 h
  omega
/-- The remainder, whatever the quotient's word. -/
theorem long13 {b N : Nat} (hb : b ≠ 0) (hb64 : b < 18446744073709551616) : ∀ (m : Nat) (i : Int) (lo Q q : Nat), i ≤ 63 → -1 ≤ i → i + 1 ≤ m → lo < 2 ^ (i + 1).toNat → q < 18446744073709551616 → N = Gf.mul Q b ^^^ lo →
    ∃ q' : Int, Ev (fun k => L84_13 k ((lo : Int), (b : Int), (q : Int), dg b, i, ()) ()) ((q', ((Gf.rem N b : Nat) : Int), ()), ()) := by
  intro m
  have hl63 := log2_le63 hb hb64
  have stop : ∀ (i : Int) (lo Q q : Nat), i < (b.log2 : Int) → -1 ≤ i → lo < 2 ^ (i + 1).toNat → N = Gf.mul Q b ^^^ lo → ∃ q' : Int, Ev (fun k => L84_13 k ((lo : Int), (b : Int), (q : Int), dg b, i, ()) ()) ((q', ((Gf.rem N b : Nat) : Int), ()), ()) := by
    intro i lo Q q hi h1 hlo hN
    have hd : Gf.IsDiv N b Q lo := ⟨hN, Nat.lt_of_lt_of_le hlo (Nat.pow_le_pow_right (by omega) (by omega))⟩
    rw [hd.rem_eq hb]
    refine ⟨q, Ev.now fun k => ?_⟩
    rw [L84_13]
    exact if_neg (fun h => absurd (of_decide_eq_true h) (show ¬ dg b ≤ i by rw [dg_pos hb]; omega))
  induction m with
  | zero =>
    intro i lo Q q h63 h1 hm hlo hq hN
    exact stop i lo Q q (by omega) h1 hlo hN
  | succ m ih =>
    intro i lo Q q h63 h1 hm hlo hq hN
    by_cases hi : i < (b.log2 : Int)
    · exact stop i lo Q q hi h1 hlo hN
    · obtain ⟨j, rfl⟩ := Int.eq_ofNat_of_zero_le (show 0 ≤ i by omega)
      have e1 : ((j : Int) + 1).toNat = j + 1 := by omega
      rw [e1] at hlo
      have hlo64 : lo < 18446744073709551616 := lt64_of (n := j + 1) (by omega) hlo
      have hw : IntKind.wrap IntKind.i64 ((j : Int) - 1) = (j : Int) - 1 := wi (by omega) (by omega)
      have hw2 : IntKind.wrap IntKind.i64 ((j : Int) - dg b) = ((j - b.log2 : Nat) : Int) := by rw [dg_pos hb, wi (by omega) (by omega)]; omega
      have c1 : dg b ≤ (j : Int) := by rw [dg_pos hb]; omega
      have e3 : ((j : Int) - 1 + 1).toNat = j := by omega
      have hsr := shrw hlo64 (n := j) (by omega)
      have hand := andw1 (shr64_lt hlo64 j)
      rw [testBit_div] at hand
      by_cases hbit : lo.testBit j
      · obtain ⟨s1, s2⟩ := bshift (s := j - b.log2) (n := j) hb (by omega)
        have hlo2 : 2 ^ j ≤ lo := by
          rcases Nat.lt_or_ge lo (2 ^ j) with h' | h'
          · rw [Nat.testBit_lt_two_pow h'] at hbit; cases hbit
          · exact h'
        have hs64 : b * 2 ^ (j - b.log2) < 18446744073709551616 := lt64_of (n := j + 1) (by omega) s2
        have hp64 : 2 ^ (j - b.log2) < 18446744073709551616 := lt64_of (n := j - b.log2 + 1) (by omega) (Nat.pow_lt_pow_right (by omega) (by omega))
        have ho : q ||| 2 ^ (j - b.log2) < 18446744073709551616 := Nat.or_lt_two_pow (n := 64) hq hp64
        obtain ⟨q', h⟩ := ih ((j : Int) - 1) (lo ^^^ b * 2 ^ (j - b.log2)) (Q ^^^ 2 ^ (j - b.log2)) (q ||| 2 ^ (j - b.log2)) (by omega) (by omega) (by omega)
          (by rw [e3]; exact xor_cancel_top hlo2 hlo s1 s2) ho
          (by rw [hN, Gf.xor_mul, Gf.pow_two_mul]
              have : Gf.mul Q b ^^^ b * 2 ^ (j - b.log2) ^^^ (lo ^^^ b * 2 ^ (j - b.log2)) = Gf.mul Q b ^^^ lo ^^^ (b * 2 ^ (j - b.log2) ^^^ b * 2 ^ (j - b.log2)) := by ac_rfl
              rw [this, Nat.xor_self, Nat.xor_zero])
        refine ⟨q', Ev.of_succ (fun k => ?_) h⟩
        have o1 : shl' IntKind.u64 (1 : Int) ((j - b.log2 : Nat) : Int) = ((2 ^ (j - b.log2) : Nat) : Int) := by
          have := shlw 1 (n := j - b.log2) (by omega)
          rw [Nat.one_mul, Nat.mod_eq_of_lt hp64] at this
          exact this
        have o2 : shl' IntKind.u64 (b : Int) ((j - b.log2 : Nat) : Int) = ((b * 2 ^ (j - b.log2) : Nat) : Int) := by
          rw [shlw b (by omega), Nat.mod_eq_of_lt hs64]
        rw [L84_13, hsr, hand, if_pos hbit, hw, hw2, o1, o2, xorw hlo64 hs64, orw hq hp64]
        refine (if_pos (decide_eq_true c1)).trans ((if_neg (show ¬ ((j : Int) < 0) by omega)).trans ((if_pos (by decide)).trans ((if_neg (show ¬ (((j - b.log2 : Nat) : Int) < 0) by omega)).trans (if_neg (show ¬ (((j - b.log2 : Nat) : Int) < 0) by omega)))))
      · have hb0 : lo.testBit j = false := by simpa using hbit
        obtain ⟨q', h⟩ := ih ((j : Int) - 1) lo Q q (by omega) (by omega) (by omega) (by rw [e3]; exact lt_of_no_bit hlo hb0) hq hN
        refine ⟨q', Ev.of_succ (fun k => ?_) h⟩
        rw [L84_13, hsr, hand, if_neg hbit, hw]
        refine (if_pos (decide_eq_true c1)).trans ((if_neg (show ¬ ((j : Int) < 0) by omega)).trans (if_neg (by decide)))
theorem dg_bound {a : Nat} : a < 2 ^ (dg a + 1).toNat := by
  rw [dg_len]
  have e : ((lnz a : Int) - 1 + 1).toNat = lnz a := by omega
  rw [e]
  unfold lnz
  split
  · rename_i h; rw [h]; decide
  · exact Nat.lt_log2_self
theorem rest80 {a b : Nat} (ha : a < 4294967296) (hb : b ≠ 0) (hb32 : b < 4294967296) : Ev (fun k => F80 k ((a : Int), (b : Int), ()) ()) (((Gf.rem a b : Nat) : Int), ()) := by
  have h1 := dg_lt64 (a := a) (by omega)
  have h2 := dg_ge a
  obtain ⟨q', h⟩ := long13 (N := a) hb (by omega) (dg a + 1).toNat (dg a) a 0 0 (by omega) (by omega) (by omega) dg_bound (by decide) (by rw [Gf.mul_zero_left, Nat.zero_xor])
  have h84 : Ev (fun k => F84 k (0, (a : Int), (b : Int), ()) ()) ((q', ((Gf.rem a b : Nat) : Int), ()), ()) := by
    obtain ⟨K, hK⟩ := h
    refine ⟨K + 1, fun k hk => ?_⟩
    obtain ⟨k, rfl⟩ : ∃ m, k = m + 1 := ⟨k - 1, by omega⟩
    show F84 (k + 1) (0, (a : Int), (b : Int), ()) () = _
    rw [F84, deg87 hb32]
    simp only [Option.bind_some]
    have d0 : F87 (0, ()) () = some (-1, ()) := deg87 (x := 0) (by decide)
    rw [d0]
    simp only [Option.bind_some]
    rw [L84_3]
    refine (if_neg (by decide)).trans ?_
    rw [deg87 ha]
    exact hK k (by omega)
  obtain ⟨K, hK⟩ := h84
  refine ⟨K, fun k hk => ?_⟩
  show F80 k ((a : Int), (b : Int), ()) () = _
  have hk' : F84 k (0, (a : Int), (b : Int), ()) () = _ := hK k hk
  rw [F80, hk']; rfl
end Go.Eng.Pu

/- Greatest common divisors, as both have them. No condition. -/
set_option linter.unusedVariables false
namespace Go.Eng.Pu
open Go Go.Eng Go.Proofs
theorem or_eq_xor1 (r t : Nat) (ht : t ≤ 1) : 2 * r ||| t = 2 * r ^^^ t := by
  have h : t = 0 ∨ t = 1 := by omega
  rcases h with rfl | rfl
  · simp
  · apply Nat.eq_of_testBit_eq
    intro j
    rw [Nat.testBit_or, Nat.testBit_xor]
    cases j with
    | zero => simp
    | succ j => simp [Nat.testBit_succ]
theorem two_mul_xor_lt {r t n : Nat} (hr : r < 2 ^ n) (ht : t ≤ 1) : 2 * r ^^^ t < 2 ^ (n + 1) := by
  refine Gf.xor_lt (by rw [Nat.pow_succ]; omega) ?_
  have := Nat.two_pow_pos n
  rw [Nat.pow_succ]; omega
theorem bit_step (N i : Nat) : N / 2 ^ i = 2 * (N / 2 ^ (i + 1)) ^^^ (if N.testBit i then 1 else 0) := by
  have h := testBit_div N i
  have e : N / 2 ^ (i + 1) = N / 2 ^ i / 2 := by rw [Nat.div_div_eq_div_mul, ← Nat.pow_succ]
  rw [← h, e]
  generalize N / 2 ^ i = M
  rcases Nat.mod_two_eq_zero_or_one M with h1 | h1
  · rw [h1, Nat.xor_zero]; omega
  · rw [h1, Gf.even_xor_one]; omega
theorem bit_le (b : Bool) : (if b then 1 else 0 : Nat) ≤ 1 := by cases b <;> simp
theorem Whole.next {b N Q r i : Nat} (hb : b ≠ 0) (hN : N / 2 ^ (i + 1) = Gf.mul Q b ^^^ r) (hr : r < 2 ^ b.log2) :
    (b.log2 = 0 → N / 2 ^ i = Gf.mul (2 * Q ^^^ (if N.testBit i then 1 else 0)) b ^^^ 0 ∧ r = 0) ∧
    (2 * r ^^^ (if N.testBit i then 1 else 0) < 2 ^ (b.log2 + 1)) ∧
    ((2 * r ^^^ (if N.testBit i then 1 else 0)).testBit b.log2 = true → N / 2 ^ i = Gf.mul (2 * Q ^^^ 1) b ^^^ (2 * r ^^^ (if N.testBit i then 1 else 0) ^^^ b) ∧ 2 * r ^^^ (if N.testBit i then 1 else 0) ^^^ b < 2 ^ b.log2) ∧
    ((2 * r ^^^ (if N.testBit i then 1 else 0)).testBit b.log2 = false → N / 2 ^ i = Gf.mul (2 * Q) b ^^^ (2 * r ^^^ (if N.testBit i then 1 else 0)) ∧ 2 * r ^^^ (if N.testBit i then 1 else 0) < 2 ^ b.log2) := by
  have hs := bit_step N i
  have ht := bit_le (N.testBit i)
  have hlt := two_mul_xor_lt (n := b.log2) hr ht
  generalize (if N.testBit i then 1 else 0) = t at hs ht hlt ⊢
  rw [hN, Gf.two_mul_xor, ← Gf.mul_two_left] at hs
  refine ⟨fun h0 => ?_, hlt, fun hb1 => ⟨?_, ?_⟩, fun hb0 => ⟨?_, lt_of_no_bit hlt hb0⟩⟩
  · have hr0 : r = 0 := by rw [h0] at hr; simpa using hr
    have hb1 : b = 1 := by
      have := Gf.lt_pow_log2 b
      rw [h0] at this
      simp at this; omega
    subst hr0 hb1
    refine ⟨?_, rfl⟩
    rw [hs, Gf.mul_one, Gf.mul_one]; simp
  · rw [hs, Gf.xor_mul, Gf.one_mul]
    have : Gf.mul (2 * Q) b ^^^ b ^^^ (2 * r ^^^ t ^^^ b) = Gf.mul (2 * Q) b ^^^ (2 * r ^^^ t) ^^^ (b ^^^ b) := by ac_rfl
    rw [this, Nat.xor_self, Nat.xor_zero, Nat.xor_assoc]
  · have h2 : 2 ^ b.log2 ≤ 2 * r ^^^ t := by
      rcases Nat.lt_or_ge (2 * r ^^^ t) (2 ^ b.log2) with h' | h'
      · rw [Nat.testBit_lt_two_pow h'] at hb1; cases hb1
      · exact h'
    exact xor_cancel_top h2 hlt (Gf.pow_log2_le hb) (Gf.lt_pow_log2 b)
  · rw [hs, Nat.xor_assoc]
theorem bit86 {x i : Nat} (hx : x < 18446744073709551616) (hi : i ≤ 63) : F86 ((x : Int), (i : Int), ()) () = some (((if x.testBit i then 1 else 0 : Nat) : Int), ()) := by
  rw [F86, wu (n := (i : Int)) (by omega) (by omega), shrw hx (by omega), andw1 (shr64_lt hx i), testBit_div]
  exact if_neg (show ¬ (i : Int) < 0 by omega)
theorem whole81 {b N : Nat} (hb : b ≠ 0) (hb64 : b < 18446744073709551616) (hN64 : N < 18446744073709551616) : ∀ (n Q r q : Nat), n ≤ 128 → N / 2 ^ n = Gf.mul Q b ^^^ r → r < 2 ^ b.log2 → q < 18446744073709551616 →
    ∃ q' : Int, ∀ K k, L81_5 K (k + n + 1) (0, (N : Int), (b : Int), (q : Int), (r : Int), dg b, (n : Int) - 1, ()) () = some ((q', ((Gf.rem N b : Nat) : Int), ()), ()) := by
  have hl63 := log2_le63 hb hb64
  intro n
  induction n with
  | zero =>
    intro Q r q hn hN hr hq
    have hd : Gf.IsDiv N b Q r := ⟨by simpa using hN, hr⟩
    refine ⟨q, fun K k => ?_⟩
    rw [hd.rem_eq hb, L81_5]
    exact if_neg (by decide)
  | succ j ih =>
    intro Q r q hn hN hr hq
    obtain ⟨n1, n2, n3, n4⟩ := Whole.next hb hN hr
    have hw : IntKind.wrap IntKind.i64 ((((j + 1 : Nat) : Int) - 1) - 1) = (j : Int) - 1 := by rw [wi (by omega) (by omega)]; omega
    have hr64 : r < 9223372036854775808 := Nat.lt_of_lt_of_le hr (Nat.pow_le_pow_right (n := 2) (by decide) hl63)
    have hr2 : shl' IntKind.u64 (r : Int) (1 : Int) = ((2 * r : Nat) : Int) := by
      have := shlw r (n := 1) (by decide)
      rw [Nat.mod_eq_of_lt (by omega)] at this
      refine this.trans ?_
      congr 1; omega
    have hr3 : 2 * r < 18446744073709551616 := by omega
    have hq2 : shl' IntKind.u64 (q : Int) (1 : Int) = ((q * 2 % 18446744073709551616 : Nat) : Int) := shlw q (n := 1) (by decide)
    have hq3 : q * 2 % 18446744073709551616 < 18446744073709551616 := Nat.mod_lt _ (by decide)
    have inner : ∀ t : Nat, t = (if N.testBit j then 1 else 0) → ∃ q' : Int, ∀ K k, (if decide (dg b = (0 : Int)) = true then
        L81_5 K (k + j + 1) (0, (N : Int), (b : Int), IntKind.wrap IntKind.u64 ((BitVec.toNat (BitVec.ofInt 64 (shl' IntKind.u64 (q : Int) (1 : Int)) ||| BitVec.ofInt 64 (t : Int)) : Nat) : Int), (r : Int), dg b, IntKind.wrap IntKind.i64 ((((j + 1 : Nat) : Int) - 1) - 1), ()) ()
      else Option.bind (F86 (IntKind.wrap IntKind.u64 ((BitVec.toNat (BitVec.ofInt 64 (shl' IntKind.u64 (r : Int) (1 : Int)) ||| BitVec.ofInt 64 (t : Int)) : Nat) : Int), dg b, ()) ()) fun val_1 =>
        if decide (val_1.1 = (1 : Int)) = true then
          L81_5 K (k + j + 1) (0, (N : Int), (b : Int), IntKind.wrap IntKind.u64 ((BitVec.toNat (BitVec.ofInt 64 (shl' IntKind.u64 (q : Int) (1 : Int)) ||| BitVec.ofInt 64 (1 : Int)) : Nat) : Int), IntKind.wrap IntKind.u64 ((BitVec.toNat (BitVec.ofInt 64 (IntKind.wrap IntKind.u64 ((BitVec.toNat (BitVec.ofInt 64 (shl' IntKind.u64 (r : Int) (1 : Int)) ||| BitVec.ofInt 64 (t : Int)) : Nat) : Int)) ^^^ BitVec.ofInt 64 (b : Int)) : Nat) : Int), dg b, IntKind.wrap IntKind.i64 ((((j + 1 : Nat) : Int) - 1) - 1), ()) ()
        else L81_5 K (k + j + 1) (0, (N : Int), (b : Int), shl' IntKind.u64 (q : Int) (1 : Int), IntKind.wrap IntKind.u64 ((BitVec.toNat (BitVec.ofInt 64 (shl' IntKind.u64 (r : Int) (1 : Int)) ||| BitVec.ofInt 64 (t : Int)) : Nat) : Int), dg b, IntKind.wrap IntKind.i64 ((((j + 1 : Nat) : Int) - 1) - 1), ()) ()) = some ((q', ((Gf.rem N b : Nat) : Int), ()), ()) := by
      intro t ht
      rw [← ht] at n1 n2 n3 n4
      have ht1 : t ≤ 1 := by rw [ht]; exact bit_le _
      have ht64 : t < 18446744073709551616 := by omega
      have ho : IntKind.wrap IntKind.u64 ((BitVec.toNat (BitVec.ofInt 64 (shl' IntKind.u64 (r : Int) (1 : Int)) ||| BitVec.ofInt 64 (t : Int)) : Nat) : Int) = ((2 * r ^^^ t : Nat) : Int) := by rw [hr2, orw hr3 ht64, or_eq_xor1 _ _ ht1]
      have hx64 : 2 * r ^^^ t < 18446744073709551616 := xor64_lt hr3 ht64
      rw [ho, hw, hq2, orw hq3 ht64, xorw hx64 hb64]
      have or1 : IntKind.wrap IntKind.u64 ((BitVec.toNat (BitVec.ofInt 64 ((q * 2 % 18446744073709551616 : Nat) : Int) ||| BitVec.ofInt 64 (1 : Int)) : Nat) : Int) = ((q * 2 % 18446744073709551616 ||| 1 : Nat) : Int) := orw (y := 1) hq3 (by decide)
      rw [or1]
      have lt1 : ∀ y : Nat, y < 18446744073709551616 → q * 2 % 18446744073709551616 ||| y < 18446744073709551616 := fun y hy => Nat.or_lt_two_pow (n := 64) hq3 hy
      by_cases h0 : b.log2 = 0
      · obtain ⟨m1, m2⟩ := n1 h0
        subst m2
        obtain ⟨q', h⟩ := ih _ 0 (q * 2 % 18446744073709551616 ||| t) (by omega) m1 (Nat.two_pow_pos _) (lt1 t ht64)
        refine ⟨q', fun K k => ?_⟩
        exact (if_pos (decide_eq_true (by rw [dg_pos hb, h0]; rfl))).trans (h K k)
      · have hd0 : ¬ decide (dg b = (0 : Int)) = true := fun h => by
          have := of_decide_eq_true h
          rw [dg_pos hb] at this; omega
        have h86 : F86 (((2 * r ^^^ t : Nat) : Int), dg b, ()) () = some (((if (2 * r ^^^ t).testBit b.log2 then 1 else 0 : Nat) : Int), ()) := by rw [dg_pos hb]; exact bit86 hx64 (by omega)
        by_cases hbit : (2 * r ^^^ t).testBit b.log2 = true
        · obtain ⟨m1, m2⟩ := n3 hbit
          obtain ⟨q', h⟩ := ih _ _ (q * 2 % 18446744073709551616 ||| 1) (by omega) m1 m2 (lt1 1 (by decide))
          refine ⟨q', fun K k => ?_⟩
          refine (if_neg hd0).trans (bind_of h86 ?_)
          rw [if_pos hbit]
          exact (if_pos (by decide)).trans (h K k)
        · have hb0 : (2 * r ^^^ t).testBit b.log2 = false := by simpa using hbit
          obtain ⟨m1, m2⟩ := n4 hb0
          obtain ⟨q', h⟩ := ih _ _ (q * 2 % 18446744073709551616) (by omega) m1 m2 hq3
          refine ⟨q', fun K k => ?_⟩
          refine (if_neg hd0).trans (bind_of h86 ?_)
          rw [if_neg hbit]
          exact (if_neg (by decide)).trans (h K k)
    have hc1 : ((j + 1 : Nat) : Int) - 1 = (j : Int) := by omega
    by_cases h64 : 64 ≤ j
    · have hbit : N.testBit j = false := Nat.testBit_lt_two_pow (Nat.lt_of_lt_of_le (by rw [pow64]; exact hN64) (Nat.pow_le_pow_right (n := 2) (by decide) h64))
      obtain ⟨q', h⟩ := inner 0 (by rw [hbit]; rfl)
      refine ⟨q', fun K k => ?_⟩
      rw [show k + (j + 1) + 1 = (k + j + 1) + 1 by omega, L81_5]
      have hz : F86 (0, IntKind.wrap IntKind.i64 (((j + 1 : Nat) : Int) - 1 - (64 : Int)), ()) () = some (0, ()) := by
        rw [wi (n := ((j + 1 : Nat) : Int) - 1 - (64 : Int)) (by omega) (by omega), show ((j + 1 : Nat) : Int) - 1 - (64 : Int) = ((j - 64 : Nat) : Int) by omega]
        have := bit86 (x := 0) (i := j - 64) (by decide) (by omega)
        rw [Nat.zero_testBit] at this
        exact this
      refine (if_pos (decide_eq_true (show (0 : Int) ≤ ((j + 1 : Nat) : Int) - 1 by omega))).trans ((if_pos (decide_eq_true (show (64 : Int) ≤ ((j + 1 : Nat) : Int) - 1 by omega))).trans (bind_of hz ?_))
      exact h K k
    · obtain ⟨q', h⟩ := inner _ rfl
      refine ⟨q', fun K k => ?_⟩
      rw [show k + (j + 1) + 1 = (k + j + 1) + 1 by omega, L81_5]
      have hz : F86 ((N : Int), ((j + 1 : Nat) : Int) - 1, ()) () = some (((if N.testBit j then 1 else 0 : Nat) : Int), ()) := by rw [hc1]; exact bit86 hN64 (by omega)
      refine (if_pos (decide_eq_true (show (0 : Int) ≤ ((j + 1 : Nat) : Int) - 1 by omega))).trans ((if_neg (fun h => absurd (of_decide_eq_true h) (show ¬ (64 : Int) ≤ ((j + 1 : Nat) : Int) - 1 by omega))).trans (bind_of hz ?_))
      exact h K k
theorem rem81 {a b : Nat} (ha : a < 4294967296) (hb : b ≠ 0) (hb32 : b < 4294967296) : ∃ q' : Int, Ev (fun k => F81 k (0, (a : Int), (b : Int), ()) ()) ((q', ((Gf.rem a b : Nat) : Int), ()), ()) := by
  obtain ⟨q', h⟩ := whole81 (N := a) hb (by omega) (by omega) 128 0 0 0 (by decide) (by rw [Gf.mul_zero_left, Nat.div_eq_of_lt (Nat.lt_trans ha (by decide))]; rfl) (Nat.two_pow_pos _) (by decide)
  obtain ⟨K1, h1⟩ := deg85 (a := b) (by omega)
  refine ⟨q', K1 + 200, fun k hk => ?_⟩
  show F81 k (0, (a : Int), (b : Int), ()) () = _
  have h1' : F85 k ((b : Int), ()) () = some (dg b, ()) := h1 k (by omega)
  rw [F81, h1']
  have := h k (k - 129)
  rw [show k - 129 + 128 + 1 = k by omega] at this
  exact this
/-- Both find the same divisor. -/
theorem gcd_loop : ∀ (b a : Nat), a < 4294967296 → b < 4294967296 → ∃ (g K0 : Nat), g < 4294967296 ∧ ∀ K k, K0 ≤ K → K0 ≤ k → L73_1 K k ((a : Int), (b : Int), ()) () = some ((g : Int), ()) ∧ L75_1 K k ((a : Int), (b : Int), ()) () = some ((g : Int), ()) := by
  intro b
  induction b using Nat.strongRecOn with
  | ind b ih =>
    intro a ha hb
    by_cases hz : b = 0
    · subst hz
      refine ⟨a, 1, ha, fun K k hK hk => ?_⟩
      obtain ⟨k, rfl⟩ : ∃ m, k = m + 1 := ⟨k - 1, by omega⟩
      rw [L73_1, L75_1]
      exact ⟨if_neg (by decide), if_neg (by decide)⟩
    · obtain ⟨K1, h80⟩ := rest80 ha hz hb
      obtain ⟨q', K2, h81⟩ := rem81 ha hz hb
      have hlt := Gf.rem_lt' a b hz
      obtain ⟨g, K0, hg, h⟩ := ih (Gf.rem a b) hlt b hb (by omega)
      refine ⟨g, K0 + K1 + K2 + 1, hg, fun K k hK hk => ?_⟩
      obtain ⟨k, rfl⟩ : ∃ m, k = m + 1 := ⟨k - 1, by omega⟩
      obtain ⟨e1, e2⟩ := h K k (by omega) (by omega)
      have c : (!decide ((b : Int) = (0 : Int))) = true := by rw [decide_eq_false (show ¬ (b : Int) = 0 by omega)]; rfl
      rw [L73_1, L75_1]
      exact ⟨(if_pos c).trans (bind_of (h80 K (by omega)) e1), (if_pos c).trans (bind_of (h81 K (by omega)) e2)⟩
theorem gcd_both {a b : Nat} (ha : a < 4294967296) (hb : b < 4294967296) : ∃ (g K0 : Nat), g < 4294967296 ∧ ∀ K, K0 ≤ K → F73 K ((a : Int), (b : Int), ()) () = some ((g : Int), ()) ∧ F75 K ((a : Int), (b : Int), ()) () = some ((g : Int), ()) := by
  obtain ⟨g, K0, hg, h⟩ := gcd_loop b a ha hb
  exact ⟨g, K0, hg, fun K hK => h K K hK hK⟩
end Go.Eng.Pu

/- Both checks of a code. No condition. -/
set_option linter.unusedVariables false
namespace Go.Eng.Pu
open Go Go.Eng Go.Proofs
/-- How many generators are used. -/
def gn (rate : Int) : Nat := if rate = 2 then 2 else 3
theorem gn_le (rate : Int) : gn rate ≤ 3 := by unfold gn; split <;> decide
def U32 (l : List Int) : Prop := l.length = 3 ∧ ∀ i : Nat, i < 3 → ∃ g : Nat, l.getD i 0 = (g : Int) ∧ g < 4294967296
theorem used64 {K rate : Int} {l : List Int} : F64 ((K, rate, l, ()), ()) () = some ((2, gn rate), (K, rate, l, ()), ()) := by
  rw [F64]
  unfold gn
  by_cases h : rate = 2
  · rw [if_pos h]; exact if_pos (decide_eq_true h)
  · rw [if_neg h]; exact if_neg (fun h' => h (of_decide_eq_true h'))
theorem count74 {K rate : Int} {l : List Int} : F74 ((K, rate, l, ()), ()) () = some ((gn rate : Int), ()) := by
  rw [F74]
  unfold gn
  by_cases h : rate = 2
  · rw [if_pos h]; exact if_pos (decide_eq_true h)
  · rw [if_neg h]; exact if_neg (fun h' => h (of_decide_eq_true h'))
theorem common_loop {Kk rate : Int} {l : List Int} (hl : U32 l) : ∀ (d i g : Nat), i + d = gn rate → g < 4294967296 → ∃ (c K0 : Nat), c < 4294967296 ∧ ∀ K k, K0 ≤ K → K0 ≤ k → L65_3 K k ((g : Int), (2, gn rate), (gn rate : Int), (i : Int), ()) ((Kk, rate, l, ()), ()) = some ((c : Int), ()) ∧ L66_3 K k ((), (g : Int), (i : Int), ()) ((Kk, rate, l, ()), ()) = some ((c : Int), ())
  | 0, i, g, hi, hg => by
    refine ⟨g, 1, hg, fun K k hK hk => ?_⟩
    obtain ⟨k, rfl⟩ : ∃ m, k = m + 1 := ⟨k - 1, by omega⟩
    rw [L65_3, L66_3]
    exact ⟨if_neg (ndlt (by omega)), bind_of count74 (if_neg (ndlt (by omega)))⟩
  | d + 1, i, g, hi, hg => by
    have h3 := gn_le rate
    obtain ⟨x, hx, hx32⟩ := hl.2 i (by omega)
    obtain ⟨g2, K1, hg2, h1⟩ := gcd_both hg hx32
    obtain ⟨c, K2, hc, h2⟩ := common_loop (Kk := Kk) (rate := rate) hl d (i + 1) g2 (by omega) hg2
    refine ⟨c, K1 + K2 + 1, hc, fun K k hK hk => ?_⟩
    obtain ⟨k, rfl⟩ : ∃ m, k = m + 1 := ⟨k - 1, by omega⟩
    obtain ⟨e1, e2⟩ := h2 K k (by omega) (by omega)
    obtain ⟨e3, e4⟩ := h1 K (by omega)
    have hw : IntKind.wrap IntKind.i64 ((i : Int) + (1 : Int)) = ((i + 1 : Nat) : Int) := add1 (by omega)
    have hget : List.getD l (Int.toNat (i : Int)) 0 = (x : Int) := by rw [Int.toNat_natCast]; exact hx
    have hget2 : List.getD l (Int.toNat (i : Int) * 1) 0 = (x : Int) := by rw [Nat.mul_one]; exact hget
    have hu : IntKind.wrap IntKind.u64 (x : Int) = (x : Int) := wu (by omega) (by omega)
    rw [L65_3, L66_3, hget, hget2, hu, hw]
    refine ⟨?_, ?_⟩
    · refine (if_pos (dlt (by omega))).trans ((if_pos (inN (by omega))).trans ((if_neg (by decide)).trans ((if_neg (by decide)).trans ((if_pos rfl).trans ((if_pos (by omega)).trans (bind_of e3 e1))))))
    · refine bind_of count74 ((if_pos (dlt (by omega))).trans ((if_pos (inN (n := 3) (by omega))).trans ((if_pos (by omega)).trans (bind_of e4 e2))))
theorem common_both {Kk rate : Int} {l : List Int} (hl : U32 l) : ∃ (c K0 : Nat), ∀ K, K0 ≤ K → F65 K ((Kk, rate, l, ()), ()) () = some ((c : Int), ()) ∧ F66 K ((Kk, rate, l, ()), ()) () = some ((c : Int), ()) := by
  obtain ⟨c, K0, _, h⟩ := common_loop (Kk := Kk) (rate := rate) hl (gn rate) 0 0 (by omega) (by decide)
  refine ⟨c, K0, fun K hK => ?_⟩
  obtain ⟨e1, e2⟩ := h K K hK hK
  rw [F65, F66]
  exact ⟨bind_of used64 e1, e2⟩
/-! ### the checks -/
theorem bv32 {x : Nat} (hx : x < 4294967296) : (BitVec.ofInt 32 (x : Int)).toNat = x := by
  rw [BitVec.toNat_ofInt]; omega
theorem or32 {x y : Nat} (hx : x < 4294967296) (hy : y < 4294967296) : IntKind.wrap IntKind.u32 ((BitVec.toNat (BitVec.ofInt 32 (x : Int) ||| BitVec.ofInt 32 (y : Int)) : Nat) : Int) = ((x ||| y : Nat) : Int) := by
  rw [BitVec.toNat_or, bv32 hx, bv32 hy]
  have : x ||| y < 4294967296 := Nat.or_lt_two_pow (n := 32) hx hy
  exact IntWalk.u32_in _ ⟨by omega, by omega⟩
theorem and32 {x : Nat} (hx : x < 4294967296) : IntKind.wrap IntKind.u32 ((BitVec.toNat (BitVec.ofInt 32 (x : Int) &&& BitVec.ofInt 32 (1 : Int)) : Nat) : Int) = ((x % 2 : Nat) : Int) := by
  have h1 : (BitVec.ofInt 32 (1 : Int)).toNat = 1 := by decide
  rw [BitVec.toNat_and, bv32 hx, h1, Nat.and_one_is_mod]
  exact IntWalk.u32_in _ ⟨by omega, by omega⟩
theorem shr32 {x : Nat} {n : Nat} (hn : n ≤ 32) : shr' IntKind.u32 (x : Int) (n : Int) = ((x / 2 ^ n : Nat) : Int) := by
  unfold shr'
  rw [show min (Int.toNat (n : Int)) IntKind.u32.bits = n from by rw [Int.toNat_natCast]; exact Nat.min_eq_left hn]
  rw [Int.fdiv_eq_ediv_of_nonneg _ (Int.le_of_lt (Int.pow_pos (by omega)))]
  have e : ((2 : Int) ^ n) = ((2 ^ n : Nat) : Int) := by simp
  rw [e]; exact (Int.natCast_ediv _ _).symm
theorem div_one {g K : Nat} (h : g < 2 ^ K) (h1 : 1 ≤ K) : g / 2 ^ (K - 1) = if g.testBit (K - 1) then 1 else 0 := by
  rw [← testBit_div]
  have : g / 2 ^ (K - 1) < 2 := by
    rw [Nat.div_lt_iff_lt_mul (Nat.two_pow_pos _), Nat.mul_comm, ← Nat.pow_succ, show (K - 1).succ = K by omega]; exact h
  exact (Nat.mod_eq_of_lt this).symm
theorem mod_bit (x : Nat) : x % 2 = if x.testBit 0 then 1 else 0 := by
  have := testBit_div x 0
  simpa using this
theorem check_loop {K : Nat} {rate : Int} {l : List Int} (h3 : 3 ≤ K) (h32 : K ≤ 32) (hl : U32 l) (hrate : rate = 2 ∨ rate = 3) : ∀ (d i acc : Nat), i + d = gn rate → acc < 2 ^ K → ∃ (e : Int) (K0 : Nat), ∀ F k, K0 ≤ F → K0 ≤ k →
    L50_5 F k ((), (acc : Int), (2, gn rate), (gn rate : Int), (i : Int), ()) (((K : Int), rate, l, ()), ((K : Int), rate, l, ()), ()) = some (e, ()) ∧ L51_6 F k ((), acc.testBit 0, acc.testBit (K - 1), (i : Int), ()) (((K : Int), rate, l, ()), ()) = some (e, ())
  | 0, i, acc, hi, ha => by
    have hr : rate = (gn rate : Int) := by unfold gn; rcases hrate with rfl | rfl <;> rfl
    obtain ⟨c, K1, hc⟩ := common_both (Kk := (K : Int)) (rate := rate) hl
    have hp : 2 ^ K ≤ 2 ^ 32 := Nat.pow_le_pow_right (by decide) h32
    have ha32 : acc < 4294967296 := by omega
    have hw : IntKind.wrap IntKind.i64 ((K : Int) - (1 : Int)) = ((K - 1 : Nat) : Int) := by rw [wi (by omega) (by omega)]; omega
    have c1 : ¬ decide ((i : Int) < rate) = true := by rw [decide_eq_true_eq]; omega
    by_cases h0 : acc.testBit 0 = true
    · by_cases h1 : acc.testBit (K - 1) = true
      · by_cases hcc : c = 1
        · refine ⟨0, K1 + 1, fun F k hF hk => ?_⟩
          obtain ⟨k, rfl⟩ : ∃ m, k = m + 1 := ⟨k - 1, by omega⟩
          obtain ⟨e1, e2⟩ := hc F (by omega)
          rw [L50_5, L51_6, and32 ha32, hw, shr32 (by omega), div_one ha (by omega), mod_bit, h0, h1]
          exact ⟨(if_neg (ndlt (by omega))).trans ((if_neg (by decide)).trans ((if_neg (show ¬ (((K - 1 : Nat) : Int) < 0) by omega)).trans ((if_neg (by decide)).trans (bind_of e1 (if_neg (by rw [hcc]; decide)))))), (if_neg c1).trans ((if_neg (by decide)).trans ((if_neg (by decide)).trans (bind_of e2 (if_neg (by rw [hcc]; decide)))))⟩
        · refine ⟨52, K1 + 1, fun F k hF hk => ?_⟩
          obtain ⟨k, rfl⟩ : ∃ m, k = m + 1 := ⟨k - 1, by omega⟩
          obtain ⟨e1, e2⟩ := hc F (by omega)
          have cc : (!decide ((c : Int) = (1 : Int))) = true := by rw [decide_eq_false (show ¬ (c : Int) = 1 by omega)]; rfl
          rw [L50_5, L51_6, and32 ha32, hw, shr32 (by omega), div_one ha (by omega), mod_bit, h0, h1]
          exact ⟨(if_neg (ndlt (by omega))).trans ((if_neg (by decide)).trans ((if_neg (show ¬ (((K - 1 : Nat) : Int) < 0) by omega)).trans ((if_neg (by decide)).trans (bind_of e1 (if_pos cc))))), (if_neg c1).trans ((if_neg (by decide)).trans ((if_neg (by decide)).trans (bind_of e2 (if_pos cc))))⟩
      · have h1 : acc.testBit (K - 1) = false := by simpa using h1
        refine ⟨51, 1, fun F k hF hk => ?_⟩
        obtain ⟨k, rfl⟩ : ∃ m, k = m + 1 := ⟨k - 1, by omega⟩
        rw [L50_5, L51_6, and32 ha32, hw, shr32 (by omega), div_one ha (by omega), mod_bit, h0, h1]
        exact ⟨(if_neg (ndlt (by omega))).trans ((if_neg (by decide)).trans ((if_neg (show ¬ (((K - 1 : Nat) : Int) < 0) by omega)).trans (if_pos (by decide)))), (if_neg c1).trans ((if_neg (by decide)).trans (if_pos (by decide)))⟩
    · have h0 : acc.testBit 0 = false := by simpa using h0
      refine ⟨51, 1, fun F k hF hk => ?_⟩
      obtain ⟨k, rfl⟩ : ∃ m, k = m + 1 := ⟨k - 1, by omega⟩
      rw [L50_5, L51_6, and32 ha32, mod_bit, h0]
      exact ⟨(if_neg (ndlt (by omega))).trans (if_pos (by decide)), (if_neg c1).trans (if_pos (by decide))⟩
  | d + 1, i, acc, hi, ha => by
    have hr : rate = (gn rate : Int) := by unfold gn; rcases hrate with rfl | rfl <;> rfl
    have hg3 := gn_le rate
    obtain ⟨x, hx, hx32⟩ := hl.2 i (by omega)
    have hp : 2 ^ K ≤ 2 ^ 32 := Nat.pow_le_pow_right (by decide) h32
    have ha32 : acc < 4294967296 := by omega
    have hw : IntKind.wrap IntKind.i64 ((i : Int) + (1 : Int)) = ((i + 1 : Nat) : Int) := add1 (by omega)
    have hK1 : IntKind.wrap IntKind.i64 ((K : Int) - (1 : Int)) = ((K - 1 : Nat) : Int) := by rw [wi (by omega) (by omega)]; omega
    have hKu : IntKind.wrap IntKind.u64 (K : Int) = (K : Int) := wu (by omega) (by omega)
    have hKu1 : IntKind.wrap IntKind.u64 ((K - 1 : Nat) : Int) = ((K - 1 : Nat) : Int) := wu (by omega) (by omega)
    have hget : List.getD l (Int.toNat (i : Int)) 0 = (x : Int) := by rw [Int.toNat_natCast]; exact hx
    have hget2 : List.getD l (Int.toNat (i : Int) * 1) 0 = (x : Int) := by rw [Nat.mul_one]; exact hget
    have hu : IntKind.wrap IntKind.u64 (x : Int) = (x : Int) := wu (by omega) (by omega)
    have hsr := shrw (x := x) (n := K) (by omega) (by omega)
    have hsr1 := shrw (x := x) (n := K - 1) (by omega) (by omega)
    have c1 : decide ((i : Int) < rate) = true := decide_eq_true (by omega)
    by_cases hz : x = 0
    · refine ⟨50, 1, fun F k hF hk => ?_⟩
      obtain ⟨k, rfl⟩ : ∃ m, k = m + 1 := ⟨k - 1, by omega⟩
      rw [L50_5, L51_6, hget, hget2, hu]
      exact ⟨(if_pos (dlt (by omega))).trans ((if_pos (inN (by omega))).trans ((if_neg (by decide)).trans ((if_neg (by decide)).trans ((if_pos rfl).trans ((if_pos (by omega)).trans (if_pos (decide_eq_true (show (x : Int) = 0 by omega)))))))),
        (if_pos c1).trans ((if_pos (inN (n := 3) (by omega))).trans ((if_pos (by omega)).trans (if_pos (decide_eq_true (show (x : Int) = 0 by omega)))))⟩
    · have nz : ¬ decide ((x : Int) = (0 : Int)) = true := fun h => absurd (of_decide_eq_true h) (show ¬ (x : Int) = 0 by omega)
      by_cases hbig : x / 2 ^ K = 0
      · have hxK : x < 2 ^ K := by
          rcases Nat.lt_or_ge x (2 ^ K) with h | h
          · exact h
          · have := Nat.div_pos h (Nat.two_pow_pos K); omega
        have hor : acc ||| x < 2 ^ K := Nat.or_lt_two_pow ha hxK
        obtain ⟨e, K0, h⟩ := check_loop h3 h32 hl hrate d (i + 1) (acc ||| x) (by omega) hor
        refine ⟨e, K0 + 1, fun F k hF hk => ?_⟩
        obtain ⟨k, rfl⟩ : ∃ m, k = m + 1 := ⟨k - 1, by omega⟩
        obtain ⟨e1, e2⟩ := h F k (by omega) (by omega)
        rw [Nat.testBit_or, Nat.testBit_or] at e2
        rw [L50_5, L51_6, hget, hget2, hu, hw, hsr, hKu, hsr, hK1, hKu1, hsr1, hbig, or32 ha32 hx32]
        refine ⟨?_, ?_⟩
        · exact (if_pos (dlt (by omega))).trans ((if_pos (inN (by omega))).trans ((if_neg (by decide)).trans ((if_neg (by decide)).trans ((if_pos rfl).trans ((if_pos (by omega)).trans ((if_neg nz).trans ((if_neg (show ¬ ((K : Int) < 0) by omega)).trans ((if_neg (by decide)).trans e1))))))))
        · refine (if_pos c1).trans ((if_pos (inN (n := 3) (by omega))).trans ((if_pos (by omega)).trans ((if_neg nz).trans ((if_neg (show ¬ ((K : Int) < 0) by omega)).trans ((if_neg (by decide)).trans ?_)))))
          have t0 : decide (Int.tmod (x : Int) (2 : Int) = (1 : Int)) = x.testBit 0 := by
            rw [show Int.tmod (x : Int) (2 : Int) = ((x % 2 : Nat) : Int) from tmod_nat x 2, mod_bit]
            cases x.testBit 0 <;> rfl
          have t1 : decide (((x / 2 ^ (K - 1) : Nat) : Int) = (1 : Int)) = x.testBit (K - 1) := by
            rw [div_one hxK (by omega)]
            cases x.testBit (K - 1) <;> rfl
          rw [t0, t1]
          have nk : ¬ (((K - 1 : Nat) : Int) < 0) := by omega
          cases h0 : acc.testBit 0 <;> cases h1 : acc.testBit (K - 1) <;> rw [h0, h1] at e2
          · refine (if_neg (by decide)).trans ((if_neg (by decide)).trans ((if_neg nk).trans ?_))
            exact e2
          · refine (if_neg (by decide)).trans ((if_pos rfl).trans ?_)
            exact e2
          · refine (if_pos rfl).trans ((if_neg (by decide)).trans ((if_neg nk).trans ?_))
            exact e2
          · refine (if_pos rfl).trans ((if_pos rfl).trans ?_)
            exact e2
      · refine ⟨50, 1, fun F k hF hk => ?_⟩
        obtain ⟨k, rfl⟩ : ∃ m, k = m + 1 := ⟨k - 1, by omega⟩
        rw [L50_5, L51_6, hget, hget2, hu, hsr, hKu, hsr]
        exact ⟨(if_pos (dlt (by omega))).trans ((if_pos (inN (by omega))).trans ((if_neg (by decide)).trans ((if_neg (by decide)).trans ((if_pos rfl).trans ((if_pos (by omega)).trans ((if_neg nz).trans ((if_neg (show ¬ ((K : Int) < 0) by omega)).trans (if_pos (by rw [decide_eq_false (fun h : ((x / 2 ^ K : Nat) : Int) = 0 => hbig (Int.natCast_eq_zero.1 h))]; rfl))))))))),
          (if_pos c1).trans ((if_pos (inN (n := 3) (by omega))).trans ((if_pos (by omega)).trans ((if_neg nz).trans ((if_neg (show ¬ ((K : Int) < 0) by omega)).trans (if_pos (decide_eq_true (Int.natCast_pos.2 (Nat.pos_of_ne_zero hbig)))))))) ⟩
/-- Both checks tell the same; a good code's numbers. -/
theorem check_both {K rate : Int} {l : List Int} (hl : U32 l) : ∃ (e : Int) (K0 : Nat), (e = 0 → 3 ≤ K ∧ K ≤ 32 ∧ (rate = 2 ∨ rate = 3)) ∧ ∀ F, K0 ≤ F → F50 F ((K, rate, l, ()), ()) () = some (e, ()) ∧ F51 F ((K, rate, l, ()), ()) () = some (e, ()) := by
  by_cases h3 : K < 3
  · refine ⟨50, 0, (fun h => by cases h), fun F _ => ?_⟩
    rw [F50, F51]
    exact ⟨if_pos (decide_eq_true h3), if_pos (decide_eq_true h3)⟩
  by_cases h32 : 32 < K
  · refine ⟨50, 0, (fun h => by cases h), fun F _ => ?_⟩
    rw [F50, F51]
    have n3 : ¬ decide (K < (3 : Int)) = true := fun h => h3 (of_decide_eq_true h)
    exact ⟨(if_neg n3).trans (if_pos (decide_eq_true h32)), (if_neg n3).trans (if_pos (decide_eq_true h32))⟩
  have n3 : ¬ decide (K < (3 : Int)) = true := fun h => h3 (of_decide_eq_true h)
  have n32 : ¬ decide ((32 : Int) < K) = true := fun h => h32 (of_decide_eq_true h)
  obtain ⟨k, rfl⟩ : ∃ k : Nat, K = (k : Int) := Int.eq_ofNat_of_zero_le (by omega)
  have z0 : (0 : Nat).testBit 0 = false := rfl
  have zK : (0 : Nat).testBit (k - 1) = false := Nat.zero_testBit _
  by_cases h2 : rate = 2
  · subst h2
    by_cases hz : l.getD 2 0 = 0
    · obtain ⟨e, K0, h⟩ := check_loop (K := k) (rate := 2) (by omega) (by omega) hl (.inl rfl) (gn 2) 0 0 (by omega) (Nat.two_pow_pos _)
      rw [z0, zK] at h
      refine ⟨e, K0, fun _ => ⟨by omega, by omega, .inl rfl⟩, fun F hF => ?_⟩
      obtain ⟨e1, e2⟩ := h F F hF hF
      rw [F50, F51]
      have cz : ¬ (!decide (List.getD l 2 0 = (0 : Int))) = true := nd_t hz
      refine ⟨(if_neg n3).trans ((if_neg n32).trans ((if_neg (by decide)).trans ((if_pos (by decide)).trans ((if_neg cz).trans (bind_of used64 e1))))), (if_neg n3).trans ((if_neg n32).trans ((if_neg (by decide)).trans ((if_pos (by decide)).trans ((if_neg cz).trans e2))))⟩
    · refine ⟨50, 0, (fun h => by cases h), fun F _ => ?_⟩
      rw [F50, F51]
      have cz : (!decide (List.getD l 2 0 = (0 : Int))) = true := by rw [decide_eq_false hz]; rfl
      exact ⟨(if_neg n3).trans ((if_neg n32).trans ((if_neg (by decide)).trans ((if_pos (by decide)).trans (if_pos cz)))), (if_neg n3).trans ((if_neg n32).trans ((if_neg (by decide)).trans ((if_pos (by decide)).trans (if_pos cz))))⟩
  · have c2 : (!decide (rate = (2 : Int))) = true := by rw [decide_eq_false h2]; rfl
    have c2' : ¬ decide (rate = (2 : Int)) = true := fun h => h2 (of_decide_eq_true h)
    by_cases h3' : rate = 3
    · subst h3'
      obtain ⟨e, K0, h⟩ := check_loop (K := k) (rate := 3) (by omega) (by omega) hl (.inr rfl) (gn 3) 0 0 (by omega) (Nat.two_pow_pos _)
      rw [z0, zK] at h
      refine ⟨e, K0, fun _ => ⟨by omega, by omega, .inr rfl⟩, fun F hF => ?_⟩
      obtain ⟨e1, e2⟩ := h F F hF hF
      rw [F50, F51]
      refine ⟨(if_neg n3).trans ((if_neg n32).trans ((if_pos c2).trans ((if_neg (by decide)).trans ((if_neg c2').trans (bind_of used64 e1))))), (if_neg n3).trans ((if_neg n32).trans ((if_pos c2).trans ((if_neg (by decide)).trans ((if_neg c2').trans e2))))⟩
    · refine ⟨50, 0, (fun h => by cases h), fun F _ => ?_⟩
      rw [F50, F51]
      have c3 : (!decide (rate = (3 : Int))) = true := by rw [decide_eq_false h3']; rfl
      exact ⟨(if_neg n3).trans ((if_neg n32).trans ((if_pos c2).trans (if_pos c3))), (if_neg n3).trans ((if_neg n32).trans ((if_pos c2).trans (if_pos c3)))⟩
end Go.Eng.Pu

/- PunctureProblems, plain. No condition. -/
set_option linter.unusedVariables false
namespace Go.Eng.Pu
open Go Go.Eng Go.Proofs
theorem nd0 : ¬ (!decide ((0 : Int) = (0 : Int))) = true := by decide
/-- What both say of a table made wider. -/
theorem widen_ok {n : Int} {m : List Int} : ∃ (e n' : Int) (m' : List Int) (K : Nat), (∀ k, K ≤ k → F30 k ((n, m, ()), ()) () = some (((n', m', ()), e, ()), ()) ∧ F31 k ((n, m, ()), ()) () = some (((n', m', ()), e, ()), ())) ∧
    (e = 0 → n' = n + 1 ∧ m' = m ∧ 2 ≤ n ∧ n ≤ 15 ∧ ∃ K', ∀ k, K' ≤ k → F49 k ((n + 1, m, ()), ()) () = some (0, ())) := by
  obtain ⟨c, K1, h1, g1⟩ := chk32 (n := n) (m := m)
  obtain ⟨c', K2, h2, g2⟩ := chk32 (n := n + 1) (m := m)
  by_cases hc : c = 0
  · obtain ⟨b1, b2, b3⟩ := g1.1 hc
    by_cases h16 : n = 16
    · refine ⟨6, 0, List.replicate 32 0, K1, fun k hk => ?_, fun h => by cases h⟩
      have e1 := h1 k hk
      simp only [F30, F31]
      rw [hc] at e1
      rw [same49]
      exact ⟨bind_of e1 ((if_neg nd0).trans (if_pos (decide_eq_true h16))), bind_of e1 ((if_neg nd0).trans (if_pos (decide_eq_true h16)))⟩
    · refine ⟨0, n + 1, m, K1, fun k hk => ?_, fun _ => ⟨rfl, rfl, b1, by omega, K2, fun k hk => ?_⟩⟩
      · have e1 := h1 k hk
        have hw : IntKind.wrap IntKind.i64 (n + (1 : Int)) = n + 1 := wi (by omega) (by omega)
        simp only [F30, F31]
        rw [hc] at e1
        rw [same49, hw]
        have c16 : ¬ decide (n = (16 : Int)) = true := fun h => h16 (of_decide_eq_true h)
        exact ⟨bind_of e1 ((if_neg nd0).trans (if_neg c16)), bind_of e1 ((if_neg nd0).trans (if_neg c16))⟩
      · rw [same49, h2 k hk, g2.2 ⟨by omega, by omega, fun b r hb hr => ?_⟩]
        obtain ⟨w1, w2, w3⟩ := b3 b r hb hr
        exact ⟨w1, w2, fun h => w3 (by omega)⟩
  · refine ⟨c, 0, List.replicate 32 0, K1, fun k hk => ?_, fun h => (hc h).elim⟩
    have e1 := h1 k hk
    have cc : (!decide (c = (0 : Int))) = true := by rw [decide_eq_false hc]; rfl
    simp only [F30, F31]
    rw [same49]
    exact ⟨bind_of e1 (if_pos cc), bind_of e1 (if_pos cc)⟩
theorem loop36 {Kc rate lv L : Int} {gens tab c : List Int} (hc : ∀ v ∈ c, 0 ≤ v ∧ v < lv) (hlv : lv ≤ 1000) (hl : c.length ≤ 1000000) {F : Nat} : ∀ (d i k : Nat), i + d = c.length →
    L36_12 F (k + d + 1) ((), c, (c.length : Int), (i : Int), ()) ((Kc, rate, gens, lv, tab, L, c, ()), ()) = some (0, ())
  | 0, i, k, hi => by
    rw [L36_12]
    exact if_neg (ndlt (by omega))
  | d + 1, i, k, hi => by
    have hw : IntKind.wrap IntKind.i64 ((i : Int) + (1 : Int)) = ((i + 1 : Nat) : Int) := add1 (by omega)
    have hlt : i < c.length := by omega
    have hv := hc c[i] (List.getElem_mem hlt)
    have hg : List.getD c (Int.toNat (i : Int)) 0 = c[i] := by rw [Int.toNat_natCast, List.getD_eq_getElem?_getD, List.getElem?_eq_getElem hlt]; rfl
    have ih := loop36 (Kc := Kc) (rate := rate) (L := L) (gens := gens) (tab := tab) (F := F) hc hlv hl d (i + 1) k (by omega)
    rw [show k + (d + 1) + 1 = (k + d + 1) + 1 by omega, L36_12, hg, hw, wi (n := c[i]) (by omega) (by omega)]
    exact (if_pos (dlt hlt)).trans ((if_pos (inN hlt)).trans ((if_neg (fun h => absurd (of_decide_eq_true h) (show ¬ lv ≤ c[i] by omega))).trans ih))
/-- What both problems are. -/
theorem u32_of {l : List Int} (hl : l.length = 3) (h : ∀ x ∈ l, 0 ≤ x ∧ x ≤ 4294967295) : U32 l := ⟨hl, fun i hi => by
  have hlt : i < l.length := by omega
  have hv := h l[i] (List.getElem_mem hlt)
  obtain ⟨g, hg⟩ := Int.eq_ofNat_of_zero_le hv.1
  refine ⟨g, ?_, by omega⟩
  rw [List.getD_eq_getElem?_getD, List.getElem?_eq_getElem hlt]; exact hg⟩
end Go.Eng.Pu

/- Parities; a step of the trellis. No condition. -/
set_option linter.unusedVariables false
namespace Go.Eng.Pu
open Go Go.Eng Go.Proofs
/-- How many of the lowest n bits are set. -/
def pc : Nat → Nat → Nat
  | 0, _ => 0
  | n + 1, x => x % 2 + pc n (x / 2)
theorem pc_le : ∀ n x, pc n x ≤ n
  | 0, _ => Nat.le_refl _
  | n + 1, x => by have := pc_le n (x / 2); simp only [pc]; omega
theorem pc_zero : ∀ n, pc n 0 = 0
  | 0 => rfl
  | n + 1 => by simp only [pc, Nat.zero_mod, Nat.zero_div, pc_zero n]
theorem pc_add : ∀ m n x, pc (m + n) x = pc m x + pc n (x / 2 ^ m)
  | 0, n, x => by simp [pc]
  | m + 1, n, x => by
    rw [show m + 1 + n = (m + n) + 1 by omega]
    simp only [pc]
    rw [pc_add m n (x / 2), Nat.div_div_eq_div_mul, Nat.pow_succ, Nat.mul_comm (2 ^ m) 2]; omega
theorem pc_mod : ∀ m x, pc m (x % 2 ^ m) = pc m x
  | 0, x => rfl
  | m + 1, x => by
    simp only [pc]
    have h1 : x % 2 ^ (m + 1) % 2 = x % 2 := Nat.mod_mod_of_dvd _ ⟨2 ^ m, by rw [Nat.pow_succ, Nat.mul_comm]⟩
    have h2 : x % 2 ^ (m + 1) / 2 = x / 2 % 2 ^ m := by rw [Nat.pow_succ, Nat.mul_comm, Nat.mod_mul_right_div_self]
    rw [h1, h2, pc_mod m]
theorem tab_ok : ∀ b : Nat, b < 256 → List.getD tab72_0 b 0 = ((pc 8 b : Nat) : Int) := by decide +kernel
theorem and255 {x : Nat} (hx : x < 4294967296) : IntKind.wrap IntKind.u32 ((BitVec.toNat (BitVec.ofInt 32 (x : Int) &&& BitVec.ofInt 32 (255 : Int)) : Nat) : Int) = ((x % 256 : Nat) : Int) := by
  rw [BitVec.toNat_and, bv32 hx, show (BitVec.ofInt 32 (255 : Int)).toNat = 2 ^ 8 - 1 by decide, Nat.and_two_pow_sub_one_eq_mod]
  exact IntWalk.u32_in _ ⟨by omega, by omega⟩
theorem andg {x y : Nat} (hx : x < 4294967296) (hy : y < 4294967296) : IntKind.wrap IntKind.u32 ((BitVec.toNat (BitVec.ofInt 32 (x : Int) &&& BitVec.ofInt 32 (y : Int)) : Nat) : Int) = ((x &&& y : Nat) : Int) := by
  rw [BitVec.toNat_and, bv32 hx, bv32 hy]
  have : x &&& y ≤ x := Nat.and_le_left
  exact IntWalk.u32_in _ ⟨by omega, by omega⟩
theorem sum8 {a b c d : Nat} (ha : a ≤ 8) (hb : b ≤ 8) (hc : c ≤ 8) (hd : d ≤ 8) : IntKind.wrap IntKind.i64 (IntKind.wrap IntKind.u8 (IntKind.wrap IntKind.u8 (IntKind.wrap IntKind.u8 ((a : Int) + (b : Int)) + (c : Int)) + (d : Int))) = ((a + b + c + d : Nat) : Int) := by
  rw [IntWalk.u8_in ((a : Int) + (b : Int)) ⟨by omega, by omega⟩, IntWalk.u8_in ((a : Int) + (b : Int) + (c : Int)) ⟨by omega, by omega⟩, IntWalk.u8_in ((a : Int) + (b : Int) + (c : Int) + (d : Int)) ⟨by omega, by omega⟩, wi (by omega) (by omega)]
  omega
theorem ones72 {x : Nat} (hx : x < 4294967296) : F72 ((x : Int), ()) () = some (((pc 32 x : Nat) : Int), ()) := by
  have d24 : x / 2 ^ 24 < 256 := by omega
  have d16 : x / 2 ^ 16 < 4294967296 := by omega
  have d8 : x / 2 ^ 8 < 4294967296 := by omega
  have s : pc 32 x = pc 8 (x / 2 ^ 24) + pc 8 (x / 2 ^ 16 % 256) + pc 8 (x / 2 ^ 8 % 256) + pc 8 (x % 256) := by
    have p2 : x / 2 ^ 8 / 2 ^ 8 = x / 2 ^ 16 := by omega
    have p3 : x / 2 ^ 16 / 2 ^ 8 = x / 2 ^ 24 := by omega
    have h1 : pc 8 (x % 256) = pc 8 x := pc_mod 8 x
    have h2 : pc 8 (x / 2 ^ 8 % 256) = pc 8 (x / 2 ^ 8) := pc_mod 8 (x / 2 ^ 8)
    have h3 : pc 8 (x / 2 ^ 16 % 256) = pc 8 (x / 2 ^ 16) := pc_mod 8 (x / 2 ^ 16)
    rw [show (32 : Nat) = 8 + (8 + (8 + 8)) from rfl, pc_add, pc_add, pc_add, p2, p3, h1, h2, h3]
    omega
  rw [F72]
  have q24 : shr' IntKind.u32 (x : Int) (24 : Int) = ((x / 2 ^ 24 : Nat) : Int) := shr32 (n := 24) (by decide)
  have q16 : shr' IntKind.u32 (x : Int) (16 : Int) = ((x / 2 ^ 16 : Nat) : Int) := shr32 (n := 16) (by decide)
  have q8 : shr' IntKind.u32 (x : Int) (8 : Int) = ((x / 2 ^ 8 : Nat) : Int) := shr32 (n := 8) (by decide)
  rw [q24, q16, q8, and255 d16, and255 d8, and255 hx]
  refine (if_pos (by omega)).trans ((if_pos (by omega)).trans ((if_pos (by omega)).trans ((if_pos (by omega)).trans ?_)))
  simp only [Int.toNat_natCast]
  rw [tab_ok _ d24, tab_ok _ (by omega), tab_ok _ (by omega), tab_ok _ (by omega)]
  rw [sum8 (pc_le 8 _) (pc_le 8 _) (pc_le 8 _) (pc_le 8 _), s]
theorem wrapU32 (n : Int) : IntKind.wrap IntKind.u32 n = n % 4294967296 := rfl
theorem shl32 (x : Nat) {n : Nat} (hn : n ≤ 32) : shl' IntKind.u32 (x : Int) (n : Int) = ((x * 2 ^ n % 4294967296 : Nat) : Int) := by
  unfold shl'
  rw [wrapU32]
  show (x : Int) * 2 ^ (min n 32) % 4294967296 = _
  rw [Nat.min_eq_left hn]
  have e : ((2 : Int) ^ n) = ((2 ^ n : Nat) : Int) := by simp
  rw [e, ← Int.natCast_mul]
  exact (Int.natCast_emod _ _).symm
theorem one64 {n : Nat} (hn : n ≤ 32) : IntKind.wrap IntKind.u8 (IntKind.wrap IntKind.i64 ((BitVec.toNat (BitVec.ofInt 64 (n : Int) &&& BitVec.ofInt 64 (1 : Int)) : Nat) : Int)) = ((n % 2 : Nat) : Int) := by
  rw [BitVec.toNat_and, show (BitVec.ofInt 64 (n : Int)).toNat = n from bv (by omega), show (BitVec.ofInt 64 (1 : Int)).toNat = 2 ^ 1 - 1 by decide, Nat.and_two_pow_sub_one_eq_mod]
  rw [wi (by omega) (by omega), IntWalk.u8_in _ ⟨by omega, by omega⟩]
/-- The symbols of a state, from the j-th on. -/
def ys (g : List Int) (v : Nat) : Nat → Nat → List Int → List Int
  | 0, _, a => a
  | d + 1, j, a => ys g v d (j + 1) (a.set j ((pc 32 (v &&& (g.getD j 0).toNat) % 2 : Nat) : Int))
theorem ys_len (g : List Int) (v : Nat) : ∀ d j a, (ys g v d j a).length = a.length
  | 0, _, a => rfl
  | d + 1, j, a => by rw [ys, ys_len g v d]; simp
theorem ys_bit (g : List Int) (v : Nat) : ∀ d j a, (∀ i, 0 ≤ List.getD a i 0 ∧ List.getD a i 0 ≤ 1) → ∀ i, 0 ≤ List.getD (ys g v d j a) i 0 ∧ List.getD (ys g v d j a) i 0 ≤ 1
  | 0, _, a, h => h
  | d + 1, j, a, h => ys_bit g v d (j + 1) _ fun i => by
    simp only [List.getD_eq_getElem?_getD, List.getElem?_set]
    split
    · split
      · simp only [Option.getD_some]; omega
      · simp
    · have := h i; rwa [List.getD_eq_getElem?_getD] at this
section
variable {kc : Nat} {g : List Int}
theorem sym83 (h3 : 3 ≤ kc) (h32 : kc ≤ 32) (hg : U32 g) {r v : Nat} (hr : r ≤ 3) (hv : v < 4294967296) {rate : Int} {b : List Int} : ∀ (d j k : Nat) (a : List Int), j + d = r →
    L83_4 (k + d + 1) ((), (), (v : Int), (), (r : Int), (j : Int), ()) (((kc : Int), rate, g, ()), (b, ()), (a, ()), ()) = some ((((v % 2 ^ (kc - 1) : Nat) : Int), ys g v d j a, ()), ())
  | 0, j, k, a, hj => by
    rw [L83_4]
    refine (if_neg (ndlt (by omega))).trans ?_
    rw [wi (n := (kc : Int) - 1) (by omega) (by omega)]
    refine (if_neg (by omega)).trans ?_
    have hp := Nat.pow_le_pow_right (show 0 < 2 by decide) (show kc - 1 ≤ 31 by omega)
    have hp1 := Nat.two_pow_pos (kc - 1)
    have e1 : shl' IntKind.u32 (1 : Int) ((kc : Int) - 1) = ((2 ^ (kc - 1) : Nat) : Int) := by
      rw [show (kc : Int) - 1 = ((kc - 1 : Nat) : Int) by omega]
      have := shl32 1 (n := kc - 1) (by omega)
      rw [Nat.one_mul, Nat.mod_eq_of_lt (by omega)] at this
      exact this
    rw [e1, show ((2 ^ (kc - 1) : Nat) : Int) - 1 = ((2 ^ (kc - 1) - 1 : Nat) : Int) by omega, IntWalk.u32_in ((2 ^ (kc - 1) - 1 : Nat) : Int) ⟨by omega, by omega⟩, andg hv (by omega), Nat.and_two_pow_sub_one_eq_mod]
    rfl
  | d + 1, j, k, a, hj => by
    rw [L83_4]
    obtain ⟨x, hx, hx32⟩ := hg.2 j (by omega)
    have h31 : (0 : Int) ≤ (j : Int) ∧ (j : Int) < (3 : Int) := by omega
    refine (if_pos (dlt (by omega))).trans ((if_pos h31).trans ((if_pos (by omega)).trans ?_))
    simp only [Int.toNat_natCast, Nat.mul_one]
    rw [hx, andg hv hx32]
    have hlt : v &&& x < 4294967296 := Nat.lt_of_le_of_lt Nat.and_le_left hv
    refine bind_of (ones72 hlt) ?_
    refine (if_pos h31).trans ((if_pos (by omega)).trans ?_)
    simp only [Int.toNat_natCast, Nat.mul_one]
    rw [one64 (pc_le 32 _), add1 (by omega), show k + (d + 1) = k + d + 1 by omega, sym83 h3 h32 hg hr hv d (j + 1) k _ (by omega)]
    simp only [ys, hx, Int.toNat_natCast]
end
end Go.Eng.Pu

/- The path's symbols and what they are worth. No condition. -/
set_option linter.unusedVariables false
namespace Go.Eng.Pu
open Go Go.Eng Go.Proofs
theorem or_bit (s b : Nat) (hb : b < 2) : s * 2 ||| b = 2 * s + b := by
  have := Nat.two_pow_add_eq_or_of_lt (i := 1) (b := b) hb s
  rw [Nat.pow_one] at this
  rw [Nat.mul_comm s 2, ← this]
theorem getD_mem {l : List Int} {j : Nat} (h : j < l.length) : List.getD l j 0 ∈ l := by
  rw [List.getD_eq_getElem?_getD, List.getElem?_eq_getElem h]; exact List.getElem_mem h
/-- The states of a path; its symbols, step by step and one by one. -/
def stp (kc : Nat) (bt : Nat → Nat) : Nat → Nat
  | 0 => 0
  | i + 1 => (2 * stp kc bt i + bt i) % 2 ^ (kc - 1)
def yv (g : List Int) (kc r : Nat) (bt : Nat → Nat) (i : Nat) : List Int := ys g (2 * stp kc bt i + bt i) r 0 (List.replicate 3 0)
def sy (g : List Int) (kc r : Nat) (bt : Nat → Nat) (k : Nat) : Int := List.getD (yv g kc r bt (k / r)) (k % r) 0
/-- What a symbol is worth. -/
def fk (g : List Int) (kc r : Nat) (bt : Nat → Nat) (m c : List Int) (k : Nat) : Int := List.getD m ((sy g kc r bt k).toNat * 16 + (List.getD c k 0).toNat) 0
def psum (F : Nat → Int) : Nat → Int
  | 0 => 0
  | k + 1 => psum F k + F k
theorem psum_le {F : Nat → Int} (h : ∀ k, -4096 ≤ F k ∧ F k ≤ 4096) : ∀ k : Nat, -4096 * (k : Int) ≤ psum F k ∧ psum F k ≤ 4096 * (k : Int)
  | 0 => by simp [psum]
  | k + 1 => by have := psum_le h k; have := h k; simp only [psum]; omega
theorem stp_lt {kc : Nat} {bt : Nat → Nat} : ∀ i, stp kc bt i < 2 ^ (kc - 1)
  | 0 => Nat.two_pow_pos _
  | i + 1 => Nat.mod_lt _ (Nat.two_pow_pos _)
theorem yv_bit (g : List Int) (kc r : Nat) (bt : Nat → Nat) (i j : Nat) : 0 ≤ List.getD (yv g kc r bt i) j 0 ∧ List.getD (yv g kc r bt i) j 0 ≤ 1 := by
  refine ys_bit _ _ _ _ _ (fun i => ?_) j
  rw [List.getD_eq_getElem?_getD, List.getElem?_replicate]
  split <;> simp
theorem yv_len (g : List Int) (kc r : Nat) (bt : Nat → Nat) (i : Nat) : (yv g kc r bt i).length = 3 := by rw [yv, ys_len]; rfl
section
variable {kc : Nat} {g : List Int}
theorem step78 (h3 : 3 ≤ kc) (h32 : kc ≤ 32) (hg : U32 g) {r : Nat} (hr : r ≤ 3) {K : Nat} (h50 : ∀ k, K ≤ k → F50 k (((kc : Int), (r : Int), g, ()), ()) () = some (0, ())) {s b : Nat} (hs : s < 2 ^ (kc - 1)) (hb : b < 2) :
    ∀ k, K + 40 ≤ k → F78 k (((kc : Int), (r : Int), g, ()), (s : Int), (b : Int), ()) () = some (((((2 * s + b) % 2 ^ (kc - 1) : Nat) : Int), ys g (2 * s + b) r 0 (List.replicate 3 0), 0, ()), ()) := by
  have hp := Nat.pow_le_pow_right (show 0 < 2 by decide) (show kc - 1 ≤ 31 by omega)
  have hp1 := Nat.two_pow_pos (kc - 1)
  have hv : 2 * s + b < 4294967296 := by omega
  intro k hk
  have e82 : F82 k (((kc : Int), (r : Int), g, ()), (s : Int), (b : Int), ()) () = some (0, ()) := by
    rw [F82]
    refine bind_of (h50 k (by omega)) ((if_neg nd0).trans ?_)
    rw [wi (n := (kc : Int) - 1) (by omega) (by omega), wu (n := (s : Int)) (by omega) (by omega), show (kc : Int) - 1 = ((kc - 1 : Nat) : Int) by omega, shrw (by omega) (by omega), Nat.div_eq_of_lt hs]
    refine (if_neg (by omega)).trans ((if_neg nd0).trans (if_neg (show ¬ decide ((1 : Int) < (b : Int)) = true by rw [decide_eq_true_eq]; omega)))
  have e83 : F83 k (((kc : Int), (r : Int), g, ()), (s : Int), (b : Int), ()) () = some (((((2 * s + b) % 2 ^ (kc - 1) : Nat) : Int), ys g (2 * s + b) r 0 (List.replicate 3 0), ()), ()) := by
    rw [F83]
    have q : shl' IntKind.u32 (s : Int) (1 : Int) = ((s * 2 : Nat) : Int) := by
      have := shl32 s (n := 1) (by decide)
      rw [Nat.pow_one, Nat.mod_eq_of_lt (by omega)] at this
      exact this
    rw [q, IntWalk.u32_in (b : Int) ⟨by omega, by omega⟩, or32 (by omega) (by omega), or_bit s b hb]
    obtain ⟨k', rfl⟩ : ∃ k', k = k' + r + 1 := ⟨k - r - 1, by omega⟩
    exact sym83 h3 h32 hg hr hv r 0 k' _ (by omega)
  rw [F78]
  exact bind_of e82 ((if_neg nd0).trans (bind_of e83 rfl))
/-- The encoder's step. -/
theorem sym62 (h3 : 3 ≤ kc) (h32 : kc ≤ 32) (hg : U32 g) {r v : Nat} (hr : r ≤ 3) (hv : v < 4294967296) {s : Int} {b : List Int} : ∀ (d j k : Nat) (a : List Int), j + d = r →
    L62_4 (k + d + 1) ((), (), (v : Int), (), (r : Int), (j : Int), ()) (((kc : Int), (r : Int), g, s, ()), (b, ()), (a, ()), ()) = some (ys g v d j a, ((kc : Int), (r : Int), g, ((v % 2 ^ (kc - 1) : Nat) : Int), ()), ())
  | 0, j, k, a, hj => by
    rw [L62_4]
    refine (if_neg (ndlt (by omega))).trans ?_
    rw [wi (n := (kc : Int) - 1) (by omega) (by omega)]
    refine (if_neg (by omega)).trans ?_
    have hp := Nat.pow_le_pow_right (show 0 < 2 by decide) (show kc - 1 ≤ 31 by omega)
    have hp1 := Nat.two_pow_pos (kc - 1)
    have e1 : shl' IntKind.u32 (1 : Int) ((kc : Int) - 1) = ((2 ^ (kc - 1) : Nat) : Int) := by
      rw [show (kc : Int) - 1 = ((kc - 1 : Nat) : Int) by omega]
      have := shl32 1 (n := kc - 1) (by omega)
      rw [Nat.one_mul, Nat.mod_eq_of_lt (by omega)] at this
      exact this
    rw [e1, show ((2 ^ (kc - 1) : Nat) : Int) - 1 = ((2 ^ (kc - 1) - 1 : Nat) : Int) by omega, IntWalk.u32_in ((2 ^ (kc - 1) - 1 : Nat) : Int) ⟨by omega, by omega⟩, andg hv (by omega), Nat.and_two_pow_sub_one_eq_mod]
    rfl
  | d + 1, j, k, a, hj => by
    rw [L62_4]
    obtain ⟨x, hx, hx32⟩ := hg.2 j (by omega)
    have h31 : (0 : Int) ≤ (j : Int) ∧ (j : Int) < (3 : Int) := by omega
    refine (if_pos (dlt (by omega))).trans ((if_pos h31).trans ((if_pos (by omega)).trans ?_))
    simp only [Int.toNat_natCast, Nat.mul_one]
    rw [hx, andg hv hx32]
    have hlt : v &&& x < 4294967296 := Nat.lt_of_le_of_lt Nat.and_le_left hv
    refine bind_of (ones72 hlt) ?_
    refine (if_pos h31).trans ((if_pos (by omega)).trans ?_)
    simp only [Int.toNat_natCast, Nat.mul_one]
    rw [one64 (pc_le 32 _), add1 (by omega), show k + (d + 1) = k + d + 1 by omega, sym62 h3 h32 hg hr hv d (j + 1) k _ (by omega)]
    simp only [ys, hx, Int.toNat_natCast]
theorem push62 (h3 : 3 ≤ kc) (h32 : kc ≤ 32) (hg : U32 g) {r : Nat} (hr : r ≤ 3) {s b : Nat} (hs : s < 2 ^ (kc - 1)) (hb : b < 2) :
    ∀ k, 40 ≤ k → F62 k ((), (b : Int), ()) (((kc : Int), (r : Int), g, (s : Int), ()), ()) = some (ys g (2 * s + b) r 0 (List.replicate 3 0), ((kc : Int), (r : Int), g, (((2 * s + b) % 2 ^ (kc - 1) : Nat) : Int), ()), ()) := by
  have hp := Nat.pow_le_pow_right (show 0 < 2 by decide) (show kc - 1 ≤ 31 by omega)
  have hv : 2 * s + b < 4294967296 := by omega
  intro k hk
  rw [F62]
  have q : shl' IntKind.u32 (s : Int) (1 : Int) = ((s * 2 : Nat) : Int) := by
    have := shl32 s (n := 1) (by decide)
    rw [Nat.pow_one, Nat.mod_eq_of_lt (by omega)] at this
    exact this
  rw [q, IntWalk.u32_in (b : Int) ⟨by omega, by omega⟩, or32 (by omega) (by omega), or_bit s b hb]
  obtain ⟨k', rfl⟩ : ∃ k', k = k' + r + 1 := ⟨k - r - 1, by omega⟩
  exact sym62 h3 h32 hg hr hv r 0 k' _ (by omega)
end
/-! ### branches -/
def sumF (f : Nat → Int) : Nat → Nat → Int
  | 0, _ => 0
  | d + 1, j => f j + sumF f d (j + 1)
theorem sumF_psum (F : Nat → Int) (b : Nat) : ∀ d j : Nat, psum F (b + j) + sumF (fun j => F (b + j)) d j = psum F (b + j + d)
  | 0, j => by simp [sumF]
  | d + 1, j => by
    have := sumF_psum F b d (j + 1)
    rw [show b + (j + 1) = b + j + 1 by omega, show b + j + 1 + d = b + j + (d + 1) by omega] at this
    rw [← this]
    simp only [sumF, psum]; omega
section
variable {y m : List Int} {r : Nat}
theorem loop768 (hr : r ≤ 3) (hy : ∀ i, 0 ≤ List.getD y i 0 ∧ List.getD y i 0 ≤ 1) : ∀ (d j k : Nat), j + d = r → L76_8 (k + d + 1) ((), (r : Int), (j : Int), ()) ((y, ()), ()) = some (2, ())
  | 0, j, k, hj => by
    rw [L76_8]; exact if_neg (ndlt (by omega))
  | d + 1, j, k, hj => by
    have h31 : (0 : Int) ≤ (j : Int) ∧ (j : Int) < (3 : Int) := by omega
    rw [L76_8]
    refine (if_pos (dlt (by omega))).trans ((if_pos h31).trans ((if_pos (by omega)).trans ?_))
    simp only [Int.toNat_natCast, Nat.mul_one]
    have := hy j
    refine (if_neg (show ¬ decide ((1 : Int) < List.getD y j 0) = true by rw [decide_eq_true_eq]; omega)).trans ?_
    rw [add1 (by omega), show k + (d + 1) = k + d + 1 by omega]
    exact loop768 hr hy d (j + 1) k (by omega)
theorem loop762 {n1 : Int} {c : List Int} (hr : r ≤ 3) (hc : c.length = r) (hn : n1 ≤ 1000) (hw : ∀ j : Nat, j < r → 0 ≤ List.getD c j 0 ∧ List.getD c j 0 < n1) (hy : ∀ i, 0 ≤ List.getD y i 0 ∧ List.getD y i 0 ≤ 1) : ∀ (d j k : Nat), j + d = r →
    L76_2 (k + 4 + d + 1) (c, (), (), c, (r : Int), (j : Int), ()) ((n1, m, ()), (y, ()), ()) = some (2, ())
  | 0, j, k, hj => by
    rw [L76_2]
    refine (if_neg (ndlt (by omega))).trans ?_
    rw [hc]
    have := loop768 hr hy r 0 (k + 4 - r - 1) (by omega)
    rw [show k + 4 - r - 1 + r + 1 = k + 4 by omega] at this
    exact this
  | d + 1, j, k, hj => by
    obtain ⟨h1, h2⟩ := hw j (by omega)
    rw [L76_2]
    refine (if_pos (dlt (by omega))).trans ((if_pos (inN (by omega))).trans ?_)
    refine (if_neg (show ¬ decide (n1 ≤ IntKind.wrap IntKind.i64 (List.getD c (Int.toNat (j : Int)) 0)) = true by rw [decide_eq_true_eq, Int.toNat_natCast, wi (n := List.getD c j 0) (by omega) (by omega)]; omega)).trans ?_
    rw [add1 (by omega), show k + 4 + (d + 1) = k + 4 + d + 1 by omega]
    exact loop762 hr hc hn hw hy d (j + 1) k (by omega)
theorem loop68 {n1 : Int} {c : List Int} {K : Nat} {f : Nat → Int} (hr : r ≤ 3) (hc : c.length = r) (hw : ∀ j : Nat, j < r → 0 ≤ List.getD c j 0 ∧ List.getD c j 0 < 16) (hy : ∀ i, 0 ≤ List.getD y i 0 ∧ List.getD y i 0 ≤ 1)
    (hf : ∀ j : Nat, j < r → f j = List.getD m ((List.getD y j 0).toNat * 16 + (List.getD c j 0).toNat) 0) (hfb : ∀ j, -4096 ≤ f j ∧ f j ≤ 4096) : ∀ (d j k : Nat) (a : Int), j + d = r → -1000000 ≤ a + 4096 * (j : Int) → a ≤ 1000000 + 4096 * (j : Int) →
    L68_15 K (k + d + 1) ((), (), a, c, (r : Int), (j : Int), ()) ((n1, m, ()), (y, ()), ()) = some ((a + sumF f d j, 0, ()), ())
  | 0, j, k, a, hj, ha, hb => by
    rw [L68_15, sumF, Int.add_zero]; exact if_neg (ndlt (by omega))
  | d + 1, j, k, a, hj, ha, hb => by
    have h31 : (0 : Int) ≤ (j : Int) ∧ (j : Int) < (3 : Int) := by omega
    obtain ⟨h1, h2⟩ := hw j (by omega)
    obtain ⟨h3, h4⟩ := hy j
    obtain ⟨h5, h6⟩ := hfb j
    rw [L68_15]
    refine (if_pos (dlt (by omega))).trans ((if_pos (inN (by omega))).trans ((if_pos h31).trans ((if_pos (by omega)).trans ?_)))
    simp only [Int.toNat_natCast, Nat.mul_one]
    refine (if_pos (show (0 : Int) ≤ List.getD y j 0 ∧ List.getD y j 0 < 2 by omega)).trans ((if_pos (show (0 : Int) ≤ List.getD c j 0 ∧ List.getD c j 0 < 16 by omega)).trans ((if_pos (show (List.getD y j 0).toNat * 16 + (List.getD c j 0).toNat < 32 by omega)).trans ?_))
    rw [add1 (by omega), ← hf j (by omega), wi (n := a + f j) (by omega) (by omega), show k + (d + 1) = k + d + 1 by omega, loop68 hr hc hw hy hf hfb d (j + 1) k _ (by omega) (by omega) (by omega), sumF, Int.add_assoc]
theorem branch67 {kc n1 L : Int} {g w : List Int} {i K : Nat} {f : Nat → Int} (hr : r = 2 ∨ r = 3) (hn : n1 ≤ 16) (h49 : ∀ k, K ≤ k → F49 k ((n1, m, ()), ()) () = some (0, ())) (hi : i * r + r ≤ w.length) (hl : w.length ≤ 1000000) (hw : ∀ j : Nat, j < w.length → 0 ≤ List.getD w j 0 ∧ List.getD w j 0 < n1) (hy : ∀ i, 0 ≤ List.getD y i 0 ∧ List.getD y i 0 ≤ 1)
    (hf : ∀ j : Nat, j < r → f j = List.getD m ((List.getD y j 0).toNat * 16 + (List.getD w (i * r + j) 0).toNat) 0) (hfb : ∀ j, -4096 ≤ f j ∧ f j ≤ 4096) :
    ∀ k, K + 40 ≤ k → F67 k ((i : Int), y, (), (), ()) ((kc, (r : Int), g, n1, m, L, (), ()), w, ((r : Int), ()), ()) = some (sumF f r 0, (kc, (r : Int), g, n1, m, L, (), ()), w, ((r : Int), ()), ()) := by
  have hr3 : r ≤ 3 := by omega
  have hr0 : 0 < r := by omega
  have hi2 : i ≤ 1000000 := by
    have := Nat.le_mul_of_pos_right i hr0
    omega
  have hm : i * r ≤ 3000000 := by have := Nat.mul_le_mul hi2 hr3; omega
  intro k hk
  have e1 : IntKind.wrap IntKind.i64 (IntKind.wrap IntKind.i64 ((i : Int) + (1 : Int)) * (r : Int)) = ((i * r + r : Nat) : Int) := by
    rw [add1 (by omega), ← Int.natCast_mul, show (i + 1) * r = i * r + r from Nat.succ_mul i r, wi (by omega) (by omega)]
  have e2 : IntKind.wrap IntKind.i64 ((i : Int) * (r : Int)) = ((i * r : Nat) : Int) := by
    rw [← Int.natCast_mul, wi (by omega) (by omega)]
  rw [F67, e1, e2]
  refine (if_pos (by omega)).trans ((if_pos (by omega)).trans ?_)
  simp only [Int.toNat_natCast]
  rw [show i * r + r - i * r = r by omega]
  have hc : (List.take r (List.drop (i * r) w)).length = r := by rw [List.length_take, List.length_drop]; omega
  have hcw : ∀ j : Nat, j < r → List.getD (List.take r (List.drop (i * r) w)) j 0 = List.getD w (i * r + j) 0 := fun j hj => by
    simp only [List.getD_eq_getElem?_getD, List.getElem?_take, List.getElem?_drop, if_pos hj]
  generalize hC : List.take r (List.drop (i * r) w) = c at hc hcw ⊢
  have e76 : F76 k ((n1, m, ()), c, y, ()) () = some (2, ()) := by
    rw [F76, hc]
    have := loop762 (m := m) (n1 := n1) hr3 hc (by omega) (fun j hj => by rw [hcw j hj]; exact hw (i * r + j) (by omega)) hy r 0 (k - 4 - r - 1) (by omega)
    rw [show k - 4 - r - 1 + 4 + r + 1 = k by omega] at this
    exact this
  have e68 : F68 k ((n1, m, ()), (r : Int), c, y, ()) () = some ((sumF f r 0, 0, ()), ()) := by
    have := loop68 (m := m) (n1 := n1) (K := k) (f := f) hr3 hc (fun j hj => by rw [hcw j hj]; have := hw (i * r + j) (by omega); omega) hy (fun j hj => by rw [hcw j hj]; exact hf j hj) hfb r 0 (k - r - 1) 0 (by omega) (by omega) (by omega)
    rw [show k - r - 1 + r + 1 = k by omega, Int.zero_add] at this
    have hcl : ¬ (!decide (((c.length : Nat) : Int) = (r : Int))) = true := nd_t (by rw [hc])
    rw [F68]
    refine bind_of (h49 k (by omega)) ((if_neg nd0).trans ?_)
    rcases hr with rfl | rfl
    · refine (if_neg (nd_t rfl)).trans ((if_neg hcl).trans (bind_of e76 ((if_neg (by decide)).trans ((if_neg (by decide)).trans ?_))))
      rw [hc]; exact this
    · refine (if_pos (by decide)).trans ((if_neg (nd_t rfl)).trans ((if_neg hcl).trans (bind_of e76 ((if_neg (by decide)).trans ((if_neg (by decide)).trans ?_)))))
      rw [hc]; exact this
  exact bind_of e68 rfl
end
end Go.Eng.Pu

/- What the path's metrics are. No condition. -/
set_option linter.unusedVariables false
namespace Go.Eng.Pu
open Go Go.Eng Go.Proofs
/-- A punctured problem that is good. -/
structure Prob (per : Int) (keep : List Int) (kc r L : Nat) (g m w c : List Int) (n : Int) (K0 : Nat) : Prop where
  h3 : 3 ≤ kc
  h32 : kc ≤ 32
  hr : r = 2 ∨ r = 3
  hg : U32 g
  n2 : 2 ≤ n
  n15 : n ≤ 15
  l1 : 1 ≤ L
  l2 : L ≤ 1024
  pat : Pat per keep
  hw : ∀ v ∈ w, 0 ≤ v ∧ v < n
  well : ∀ b t : Nat, b < 2 → t < 16 → wellT n m b t
  wl : (w.length : Int) = tot per keep r (L + kc - 1)
  hc : c = fills per keep r n (r * (L + kc - 1)) 0 w
  c50 : ∀ k, K0 ≤ k → F50 k (((kc : Int), (r : Int), g, ()), ()) () = some (0, ())
  c49 : ∀ k, K0 ≤ k → F49 k ((n + 1, m, ()), ()) () = some (0, ())
  c36 : ∀ k, K0 ≤ k → F36 k (((kc : Int), (r : Int), g, n + 1, m, (L : Int), c, ()), ()) () = some (0, ())
section
variable {per n : Int} {keep g m w c path : List Int} {kc r L K0 : Nat}
theorem fills_in {lv : Int} (h0 : 0 ≤ lv) : ∀ (n k : Nat) (w : List Int), (∀ v ∈ w, 0 ≤ v ∧ v < lv) → ∀ v ∈ fills per keep r lv n k w, 0 ≤ v ∧ v ≤ lv
  | 0, k, w, hw, v, hv => by cases hv
  | n + 1, k, w, hw, v, hv => by
    simp only [fills] at hv
    split at hv
    · rcases List.mem_cons.1 hv with rfl | hv
      · cases w with
        | nil => exact ⟨Int.le_refl _, h0⟩
        | cons x w => have := hw x (by simp); exact ⟨this.1, Int.le_of_lt this.2⟩
      · exact fills_in h0 n (k + 1) w.tail (fun v hv => hw v (List.mem_of_mem_tail hv)) v hv
    · rcases List.mem_cons.1 hv with rfl | hv
      · exact ⟨h0, Int.le_refl _⟩
      · exact fills_in h0 n (k + 1) w hw v hv
theorem Prob.clen (G : Prob per keep kc r L g m w c n K0) : c.length = (L + kc - 1) * r ∧ c.length ≤ 3165 ∧ L + kc - 1 ≤ 1055 := by
  have := G.l2; have := G.h32; have := G.hr
  have h1 : L + kc - 1 ≤ 1055 := by omega
  have h2 : c.length = (L + kc - 1) * r := by rw [G.hc, fills_len, Nat.mul_comm]
  refine ⟨h2, ?_, h1⟩
  rw [h2]
  have := Nat.mul_le_mul h1 (show r ≤ 3 by omega)
  omega
theorem Prob.cin (G : Prob per keep kc r L g m w c n K0) (k : Nat) : 0 ≤ List.getD c k 0 ∧ List.getD c k 0 ≤ n := by
  have n2 := G.n2
  rcases Nat.lt_or_ge k c.length with h | h
  · have h1 := getD_mem h
    rw [G.hc] at h1
    have := fills_in (show 0 ≤ n by omega) _ _ _ G.hw _ h1
    rw [← G.hc] at this; exact this
  · rw [List.getD_eq_getElem?_getD, List.getElem?_eq_none h]; exact ⟨Int.le_refl _, by show (0 : Int) ≤ n; omega⟩
variable {bt : Nat → Nat}
theorem Prob.fb (G : Prob per keep kc r L g m w c n K0) (k : Nat) : -4096 ≤ fk g kc r bt m c k ∧ fk g kc r bt m c k ≤ 4096 := by
  obtain ⟨h1, h2⟩ := G.cin k
  obtain ⟨h3, h4⟩ := yv_bit g kc r bt (k / r) (k % r)
  have n15 := G.n15
  have := G.well (sy g kc r bt k).toNat (List.getD c k 0).toNat (by show (List.getD (yv g kc r bt (k / r)) (k % r) 0).toNat < 2; omega) (by omega)
  exact ⟨this.1, this.2.1⟩
theorem steps_eq (G : Prob per keep kc r L g m w c n K0) : IntKind.wrap IntKind.i64 (IntKind.wrap IntKind.i64 ((L : Int) + (kc : Int)) - (1 : Int)) = ((L + kc - 1 : Nat) : Int) := by
  have := G.l2; have := G.h32; have := G.l1
  rw [wi (n := (L : Int) + (kc : Int)) (by omega) (by omega), wi (by omega) (by omega)]; omega
/-! ### the path -/
theorem path_loop (hp : ∀ v ∈ path, 0 ≤ v ∧ v ≤ 255) (hpl : path.length ≤ 140737488355328) {a1 a2 a3 : Int} {a4 a5 a6 : List Int} {K : Nat} : ∀ (d i : Nat), i + d = path.length → ∃ e : Int, (e = 0 → path.length = L ∧ ∀ j, i ≤ j → j < path.length → List.getD path j 0 ≤ 1) ∧
    ∀ K k, L54_5 K (k + d + 1) (path, (), path, (path.length : Int), (i : Int), ()) ((a1, a2, a4, a3, a5, (L : Int), a6, ()), ()) = some (e, ())
  | 0, i, hi => by
    by_cases h : path.length = L
    · refine ⟨0, fun _ => ⟨h, fun j h1 h2 => by omega⟩, fun K k => ?_⟩
      rw [L54_5]
      have : ((path.length : Nat) : Int) = (L : Int) := by rw [h]
      exact (if_neg (ndlt (by omega))).trans (if_neg (nd_t this))
    · refine ⟨5, (fun h => by cases h), fun K k => ?_⟩
      rw [L54_5]
      have : (!decide (((path.length : Nat) : Int) = (L : Int))) = true := by rw [decide_eq_false (by omega)]; rfl
      exact (if_neg (ndlt (by omega))).trans (if_pos this)
  | d + 1, i, hi => by
    have hlt : i < path.length := by omega
    have hin : (0 : Int) ≤ (i : Int) ∧ (i : Int) < (path.length : Int) := by omega
    by_cases hb : 1 < List.getD path i 0
    · refine ⟨10, (fun h => by cases h), fun K k => ?_⟩
      rw [L54_5]
      have : decide ((1 : Int) < List.getD path (Int.toNat (i : Int)) 0) = true := by rw [decide_eq_true_eq, Int.toNat_natCast]; exact hb
      exact (if_pos (dlt hlt)).trans ((if_pos hin).trans (if_pos this))
    · obtain ⟨e, h1, h2⟩ := path_loop hp hpl (a1 := a1) (a2 := a2) (a3 := a3) (a4 := a4) (a5 := a5) (a6 := a6) (K := K) d (i + 1) (by omega)
      refine ⟨e, fun he => ⟨(h1 he).1, fun j hj1 hj2 => ?_⟩, fun K k => ?_⟩
      · by_cases e1 : j = i
        · subst e1; omega
        · exact (h1 he).2 j (by omega) hj2
      · have hn : ¬ decide ((1 : Int) < List.getD path (Int.toNat (i : Int)) 0) = true := by rw [decide_eq_true_eq, Int.toNat_natCast]; omega
        rw [show k + (d + 1) + 1 = (k + d + 1) + 1 by omega, L54_5]
        rw [add1 (i := i) (by omega)]
        exact (if_pos (dlt hlt)).trans ((if_pos hin).trans ((if_neg hn).trans (h2 K k)))
theorem both54 (G : Prob per keep kc r L g m w c n K0) (hp : ∀ v ∈ path, 0 ≤ v ∧ v ≤ 255) (hpl : path.length ≤ 140737488355328) : ∃ e : Int, (e = 0 → path.length = L ∧ ∀ j, j < path.length → List.getD path j 0 ≤ 1) ∧
    ∀ k, K0 + path.length + 1 ≤ k → F54 k (((kc : Int), (r : Int), g, n + 1, m, (L : Int), c, ()), path, ()) () = some (e, ()) := by
  obtain ⟨e, h1, h2⟩ := path_loop (L := L) hp hpl (a1 := (kc : Int)) (a2 := (r : Int)) (a3 := n + 1) (a4 := g) (a5 := m) (a6 := c) (K := 0) path.length 0 (Nat.zero_add _)
  refine ⟨e, fun he => ⟨(h1 he).1, fun j hj => (h1 he).2 j (Nat.zero_le _) hj⟩, fun k hk => ?_⟩
  have g1 := h2 k (k - path.length - 1)
  rw [show k - path.length - 1 + path.length + 1 = k by omega] at g1
  rw [F54]
  exact bind_of (G.c36 k (by omega)) ((if_neg nd0).trans g1)
/-- The path's bits, behind which there are zeros. -/
def btL (path : List Int) (L : Nat) (i : Nat) : Nat := if i < L then (List.getD path i 0).toNat else 0
theorem bt_lt (hp : ∀ j, j < path.length → 0 ≤ List.getD path j 0 ∧ List.getD path j 0 ≤ 1) (hpl : path.length = L) (i : Nat) : btL path L i < 2 := by
  unfold btL
  split
  · have := hp i (by omega); omega
  · omega
/-! ### the metrics -/
theorem loop38 (G : Prob per keep kc r L g m w c n K0) (hpl : path.length = L) (hp : ∀ j, j < path.length → 0 ≤ List.getD path j 0 ∧ List.getD path j 0 ≤ 1) : ∀ (d i : Nat) (out : List Int), i + d = L + kc - 1 → out.length = i + 1 → (∀ t, t ≤ i → List.getD out t 0 = psum (fk g kc r (btL path L) m c) (t * r)) →
    ∃ fin : List Int, fin.length = L + kc ∧ (∀ t, t ≤ L + kc - 1 → List.getD fin t 0 = psum (fk g kc r (btL path L) m c) (t * r)) ∧ ∀ K k, K0 + 40 ≤ K → d < k →
    L38_8007002b K k (((), ()), (), (), ((stp kc (btL path L) i : Nat) : Int), ((L + kc - 1 : Nat) : Int), (i : Int), (), (), (), (), ()) (c, (), ((), ()), ((kc : Int), (r : Int), g, n + 1, m, (L : Int), (), ()), (), (((), (), ()), ()), ((r : Int), ()), (), (((), ()), ()), (psum (fk g kc r (btL path L) m c) (i * r), ()), (), (), ((kc : Int), (r : Int), g, n + 1, m, (L : Int), (), ()), (path, ()), (), (), (), out, ()) = some (((), 0, ()), c, fin, ())
  | 0, i, out, hi, ho, hv => by
    have := G.l1
    refine ⟨out, by omega, fun t ht => hv t (by omega), fun K k hK hk => ?_⟩
    obtain ⟨k, rfl⟩ : ∃ j, k = j + 1 := ⟨k - 1, by omega⟩
    rw [L38_8007002b]
    exact if_neg (ndlt (by omega))
  | d + 1, i, out, hi, ho, hv => by
    obtain ⟨hcl, hc3, hS⟩ := G.clen
    have hr0 : 0 < r := by have := G.hr; omega
    have hir : i * r + r ≤ c.length := by
      rw [hcl, ← Nat.succ_mul]
      exact Nat.mul_le_mul_right r (by omega)
    obtain ⟨F, hF⟩ : ∃ F, F = fk g kc r (btL path L) m c := ⟨_, rfl⟩
    have hFb : ∀ k, -4096 ≤ F k ∧ F k ≤ 4096 := fun k => by rw [hF]; exact G.fb k
    have hstep := step78 (kc := kc) (g := g) G.h3 G.h32 G.hg (r := r) (by have := G.hr; omega) G.c50 (stp_lt (kc := kc) (bt := btL path L) i) (bt_lt hp hpl i)
    have hbr := branch67 (kc := (kc : Int)) (n1 := n + 1) (L := (L : Int)) (g := g) (w := c) (i := i) (y := yv g kc r (btL path L) i) (m := m) (K := K0) (f := fun j => F (i * r + j)) G.hr (by have := G.n15; omega) G.c49 hir (by omega) (fun j hj => by have := G.cin j; omega) (yv_bit g kc r _ i)
      (fun j hj => by
        rw [hF]
        show List.getD m ((List.getD (yv g kc r (btL path L) ((i * r + j) / r)) ((i * r + j) % r) 0).toNat * 16 + (List.getD c (i * r + j) 0).toNat) 0 = _
        rw [Nat.mul_comm i r, Nat.mul_add_div hr0, Nat.div_eq_of_lt hj, Nat.add_zero, Nat.mul_add_mod, Nat.mod_eq_of_lt hj])
      (fun j => hFb _)
    have hsum := sumF_psum F (i * r) r 0
    rw [Nat.add_zero] at hsum
    have hnext : psum F ((i + 1) * r) = psum F (i * r) + sumF (fun j => F (i * r + j)) r 0 := by rw [hsum, Nat.succ_mul]
    have hb1 := psum_le hFb ((i + 1) * r)
    have hir3 : (i + 1) * r ≤ 3165 := by rw [Nat.succ_mul]; omega
    have hwrap : IntKind.wrap IntKind.i64 (psum F (i * r) + sumF (fun j => F (i * r + j)) r 0) = psum F ((i + 1) * r) := by rw [← hnext, wi (by omega) (by omega)]
    obtain ⟨fin, hfl, hfv, hrec⟩ := loop38 G hpl hp d (i + 1) (out ++ [psum F ((i + 1) * r)]) (by omega) (by simp [ho]) (fun t ht => by
      rcases Nat.lt_or_ge t (i + 1) with h | h
      · rw [← hv t (by omega)]
        simp only [List.getD_eq_getElem?_getD, List.getElem?_append_left (show t < out.length by omega)]
      · have : t = i + 1 := by omega
        subst this
        rw [hF]
        simp only [List.getD_eq_getElem?_getD]
        rw [List.getElem?_append_right (by omega), ho]; simp)
    refine ⟨fin, hfl, hfv, fun K k hK hk => ?_⟩
    obtain ⟨k, rfl⟩ : ∃ j, k = j + 1 := ⟨k - 1, by omega⟩
    have r1 := hrec K k hK (by omega)
    have s1 := hstep K (by omega)
    have b1 := hbr K (by omega)
    have room : (List.length out + (1 : Nat)) * (8 : Nat) ≤ (140737488355328 : Nat) := by omega
    have hlt : decide ((i : Int) < ((L + kc - 1 : Nat) : Int)) = true := dlt (by omega)
    rw [← hF] at r1 ⊢
    rw [L38_8007002b]
    rw [add1 (i := i) (by omega)]
    have tail : ∀ v : Int, v = sumF (fun j => F (i * r + j)) r 0 → (if (List.length out + (1 : Nat)) * (8 : Nat) ≤ (140737488355328 : Nat) then
        L38_8007002b K k (((), ()), (), (), ((stp kc (btL path L) (i + 1) : Nat) : Int), ((L + kc - 1 : Nat) : Int), ((i + 1 : Nat) : Int), (), (), (), (), ()) (c, (), ((), ()), ((kc : Int), (r : Int), g, n + 1, m, (L : Int), (), ()), (), (((), (), ()), ()), ((r : Int), ()), (), (((), ()), ()), (IntKind.wrap IntKind.i64 (psum F (i * r) + v), ()), (), (), ((kc : Int), (r : Int), g, n + 1, m, (L : Int), (), ()), (path, ()), (), (), (), out ++ [IntKind.wrap IntKind.i64 (psum F (i * r) + v)], ())
        else none) = some (((), 0, ()), c, fin, ()) := fun v hv => by
      rw [if_pos room, hv, hwrap]; exact r1
    by_cases h : i < L
    · have hin : (0 : Int) ≤ (i : Int) ∧ (i : Int) < (path.length : Int) := by omega
      have hbit : List.getD path (Int.toNat (i : Int)) 0 = ((btL path L i : Nat) : Int) := by
        have := hp i (by omega)
        unfold btL; rw [if_pos h, Int.toNat_natCast]; omega
      rw [hbit]
      exact (if_pos hlt).trans ((if_pos (dlt h)).trans ((if_pos hin).trans (bind_of s1 (bind_of b1 (tail _ rfl)))))
    · have hb0 : btL path L i = 0 := by unfold btL; rw [if_neg h]
      rw [hb0] at s1
      have e2 : (2 * stp kc (btL path L) i + 0) % 2 ^ (kc - 1) = stp kc (btL path L) (i + 1) := by rw [stp, hb0]
      have e3 : ys g (2 * stp kc (btL path L) i + 0) r 0 (List.replicate 3 0) = yv g kc r (btL path L) i := by rw [yv, hb0]
      rw [e2, e3] at s1
      exact (if_pos hlt).trans ((if_neg (ndlt (by omega))).trans (bind_of s1 (bind_of b1 (tail _ rfl))))
theorem prefixes38 (G : Prob per keep kc r L g m w c n K0) (hp : ∀ v ∈ path, 0 ≤ v ∧ v ≤ 255) (hpl : path.length ≤ 140737488355328) : ∃ (e : Int) (fin : List Int), (e = 0 → path.length = L ∧ (∀ j, j < path.length → 0 ≤ List.getD path j 0 ∧ List.getD path j 0 ≤ 1) ∧ fin.length = L + kc ∧ ∀ t, t ≤ L + kc - 1 → List.getD fin t 0 = psum (fk g kc r (btL path L) m c) (t * r)) ∧
    ∀ k, K0 + path.length + 4000 ≤ k → F38 k (((kc : Int), (r : Int), g, n + 1, m, (L : Int), (), ()), path, ()) (c, ()) = some (((), e, ()), c, fin, ()) := by
  obtain ⟨e, he, h54⟩ := both54 (path := path) G hp hpl
  obtain ⟨hcl, hc3, hS⟩ := G.clen
  have h3 := G.h3
  by_cases h0 : e = 0
  rotate_left
  · refine ⟨e, [], fun h => (h0 h).elim, fun k hk => ?_⟩
    have cc : (!decide (e = (0 : Int))) = true := by rw [decide_eq_false h0]; rfl
    rw [F38]
    exact bind_of (h54 k (by omega)) (if_pos cc)
  subst h0
  obtain ⟨hlen, hbits⟩ := he rfl
  have hbits' : ∀ j, j < path.length → 0 ≤ List.getD path j 0 ∧ List.getD path j 0 ≤ 1 := fun j hj => ⟨(hp _ (getD_mem hj)).1, hbits j hj⟩
  have l1 := G.l1
  have hr0 : 0 < r := by have := G.hr; omega
  have hir : 0 * r + r ≤ c.length := by
    rw [hcl, ← Nat.succ_mul]
    exact Nat.mul_le_mul_right r (by omega)
  obtain ⟨F, hF⟩ : ∃ F, F = fk g kc r (btL path L) m c := ⟨_, rfl⟩
  have hFb : ∀ k, -4096 ≤ F k ∧ F k ≤ 4096 := fun k => by rw [hF]; exact G.fb k
  have hstep := step78 (kc := kc) (g := g) G.h3 G.h32 G.hg (r := r) (by have := G.hr; omega) G.c50 (stp_lt (kc := kc) (bt := btL path L) 0) (bt_lt hbits' hlen 0)
  have hbr := branch67 (kc := (kc : Int)) (n1 := n + 1) (L := (L : Int)) (g := g) (w := c) (i := 0) (y := yv g kc r (btL path L) 0) (m := m) (K := K0) (f := fun j => F (0 * r + j)) G.hr (by have := G.n15; omega) G.c49 hir (by omega) (fun j hj => by have := G.cin j; omega) (yv_bit g kc r _ 0)
    (fun j hj => by
      rw [hF]
      show List.getD m ((List.getD (yv g kc r (btL path L) ((0 * r + j) / r)) ((0 * r + j) % r) 0).toNat * 16 + (List.getD c (0 * r + j) 0).toNat) 0 = _
      rw [Nat.zero_mul, Nat.zero_add, Nat.div_eq_of_lt hj, Nat.mod_eq_of_lt hj])
    (fun j => hFb _)
  have hsum := sumF_psum F (0 * r) r 0
  have hnext : psum F (1 * r) = 0 + sumF (fun j => F (0 * r + j)) r 0 := by
    rw [show 1 * r = 0 * r + 0 + r by omega, ← hsum]
    simp [psum]
  have hb1 := psum_le hFb (1 * r)
  have hr3 : r ≤ 3 := by have := G.hr; omega
  have hwrap : IntKind.wrap IntKind.i64 (0 + sumF (fun j => F (0 * r + j)) r 0) = psum F (1 * r) := by rw [← hnext, wi (by omega) (by omega)]
  obtain ⟨fin, hfl, hfv, hrec⟩ := loop38 G hlen hbits' (L + kc - 2) 1 ([0] ++ [psum F (1 * r)]) (by omega) rfl (fun t ht => by
    have : t = 0 ∨ t = 1 := by omega
    rcases this with rfl | rfl
    · rw [Nat.zero_mul]; rfl
    · rw [hF]; rfl)
  refine ⟨0, fin, fun _ => ⟨hlen, hbits', hfl, hfv⟩, fun k hk => ?_⟩
  have g1 := h54 k (by omega)
  obtain ⟨k', rfl⟩ : ∃ j, k = j + 1 := ⟨k - 1, by omega⟩
  have r1 := hrec (k' + 1) k' (by omega) (by omega)
  have s1 := hstep (k' + 1) (by omega)
  have b1 := hbr (k' + 1) (by omega)
  have h52 : F52 (((kc : Int), (r : Int), g, n + 1, m, (L : Int), c, ()), ()) () = some (((L + kc - 1 : Nat) : Int), ()) := by rw [F52, steps_eq G]
  have hlt : decide ((0 : Int) < ((L + kc - 1 : Nat) : Int)) = true := dlt (i := 0) (by omega)
  have hlt2 : decide ((0 : Int) < (L : Int)) = true := dlt (i := 0) (by omega)
  have hin : (0 : Int) ≤ (0 : Int) ∧ (0 : Int) < (path.length : Int) := by omega
  have hbit' : List.getD path (Int.toNat (0 : Int)) 0 = ((btL path L 0 : Nat) : Int) := by
    have := hbits' 0 (by omega)
    unfold btL; rw [if_pos (by omega)]
    show List.getD path 0 0 = _
    omega
  rw [← hF] at r1
  rw [F38]
  refine bind_of g1 ((if_neg nd0).trans ?_)
  refine bind_of rfl ?_
  refine bind_of rfl ?_
  refine bind_of h52 ?_
  rw [L38_8007002a]
  refine (if_pos hlt).trans ((if_pos hlt2).trans ((if_pos hin).trans ?_))
  rw [hbit']
  refine bind_of s1 (bind_of b1 ?_)
  rw [hwrap]
  exact (if_pos (by decide)).trans r1
end
end Go.Eng.Pu

/- The encoder; the punctured problem. No condition. -/
set_option linter.unusedVariables false
namespace Go.Eng.Pu
open Go Go.Eng Go.Proofs
def ycat (g : List Int) (kc r : Nat) (bt : Nat → Nat) : Nat → List Int
  | 0 => []
  | i + 1 => ycat g kc r bt i ++ List.take r (yv g kc r bt i)
section
variable {kc r : Nat} {g : List Int} {bt : Nat → Nat}
theorem ycat_len (hr : r ≤ 3) : ∀ i, (ycat g kc r bt i).length = i * r
  | 0 => by simp [ycat]
  | i + 1 => by rw [ycat, List.length_append, ycat_len hr i, List.length_take, yv_len, Nat.succ_mul]; omega
theorem ycat_get (hr0 : 0 < r) (hr : r ≤ 3) : ∀ i k, k < i * r → List.getD (ycat g kc r bt i) k 0 = sy g kc r bt k
  | 0, k, h => by omega
  | i + 1, k, h => by
    have hl := ycat_len (g := g) (kc := kc) (bt := bt) hr i
    rw [Nat.succ_mul] at h
    rcases Nat.lt_or_ge k (i * r) with h1 | h1
    · rw [← ycat_get hr0 hr i k h1]
      simp only [ycat, List.getD_eq_getElem?_getD, List.getElem?_append_left (show k < (ycat g kc r bt i).length by omega)]
    · have e : k = r * i + (k - i * r) := by rw [Nat.mul_comm]; omega
      have h2 : k - i * r < r := by omega
      have d : k / r = i := by rw [e, Nat.mul_add_div hr0, Nat.div_eq_of_lt (by omega), Nat.add_zero]
      have md : k % r = k - i * r := by
        conv => lhs; rw [e]
        rw [Nat.mul_add_mod, Nat.mod_eq_of_lt h2]
      unfold sy
      rw [d, md]
      simp only [ycat, List.getD_eq_getElem?_getD]
      rw [List.getElem?_append_right (by omega), hl, List.getElem?_take, if_pos h2]
theorem step61 (h3 : 3 ≤ kc) (h32 : kc ≤ 32) (hg : U32 g) (hr : r ≤ 3) {i : Nat} (hb : bt i < 2) {acc : List Int} (ha : acc.length ≤ 1000000) : ∀ k, 40 ≤ k → F61 k (((bt i : Nat) : Int), (), (), (), ()) (((), ()), ((kc : Int), (r : Int), g, ((stp kc bt i : Nat) : Int), ()), ((), ()), acc, ((kc : Int), (r : Int), g, ()), ()) =
    some ((), ((), ()), ((kc : Int), (r : Int), g, ((stp kc bt (i + 1) : Nat) : Int), ()), ((), ()), (), ((kc : Int), (r : Int), g, ()), acc ++ List.take r (yv g kc r bt i), ()) := by
  intro k hk
  have h62 := push62 (kc := kc) h3 h32 hg hr (stp_lt (kc := kc) (bt := bt) i) hb k hk
  have hl : (List.take r (yv g kc r bt i)).length ≤ 3 := by rw [List.length_take, yv_len]; omega
  rw [F61]
  refine bind_of h62 ((if_pos (show (0 : Int) ≤ (r : Int) ∧ (r : Int) ≤ 3 by omega)).trans ?_)
  simp only [Int.toNat_natCast, Nat.zero_add, List.drop_zero]
  refine (if_pos hr).trans ((if_pos (show (acc.length + (List.take r (yv g kc r bt i)).length) * 1 ≤ 140737488355328 by omega)).trans ?_)
  rfl
theorem loop14 (h3 : 3 ≤ kc) (h32 : kc ≤ 32) (hg : U32 g) (hr : r ≤ 3) {L : Nat} (hL : L ≤ 1024) (hbt : ∀ i, L ≤ i → bt i = 0) {K : Nat} (hK : 40 ≤ K) : ∀ (d j k : Nat), j + d = kc - 1 → L41_14 K (k + d + 1) ((), ((), (), (), ()), ((kc - 1 : Nat) : Int), (j : Int), ()) (((), ()), ycat g kc r bt (L + j), ((), ()), ((kc : Int), (r : Int), g, ((stp kc bt (L + j) : Nat) : Int), ()), ((kc : Int), (r : Int), g, ()), ()) = some (((), 0, ()), ycat g kc r bt (L + (kc - 1)), ())
  | 0, j, k, hj => by
    rw [L41_14]
    have : j = kc - 1 := by omega
    subst this
    exact if_neg (ndlt (Nat.le_refl _))
  | d + 1, j, k, hj => by
    have hl := ycat_len (g := g) (kc := kc) (bt := bt) hr (L + j)
    have hlr : (L + j) * r ≤ 1000000 := by
      have := Nat.mul_le_mul (show L + j ≤ 1055 by omega) hr
      omega
    have h61 := step61 (kc := kc) (bt := bt) h3 h32 hg hr (i := L + j) (by rw [hbt _ (by omega)]; decide) (acc := ycat g kc r bt (L + j)) (by omega) K hK
    rw [hbt (L + j) (by omega)] at h61
    rw [L41_14]
    refine (if_pos (dlt (by omega))).trans (bind_of h61 ?_)
    rw [add1 (by omega), show k + (d + 1) = k + d + 1 by omega]
    exact loop14 h3 h32 hg hr hL hbt hK d (j + 1) k (by omega)
theorem loop9e (h3 : 3 ≤ kc) (h32 : kc ≤ 32) (hg : U32 g) (hr : r ≤ 3) {path : List Int} {L : Nat} (hL : L ≤ 1024) (hpl : path.length = L) (hp : ∀ j, j < path.length → 0 ≤ List.getD path j 0 ∧ List.getD path j 0 ≤ 1) {K : Nat} (hK : 40 ≤ K) : ∀ (d i k : Nat), i + d = L → kc + 1 ≤ k → L41_9 K (k + d + 1) ((), (), ((), (), (), ()), path, (path.length : Int), (i : Int), ()) (((kc : Int), (r : Int), g, ()), ((), ()), ycat g kc r (btL path L) i, ((), ()), ((kc : Int), (r : Int), g, ((stp kc (btL path L) i : Nat) : Int), ()), ()) =
    some (((), 0, ()), ycat g kc r (btL path L) (L + (kc - 1)), ())
  | 0, i, k, hi, hk => by
    rw [L41_9]
    refine (if_neg (ndlt (by omega))).trans ?_
    have := loop14 (r := r) (bt := btL path L) h3 h32 hg hr hL (fun i hi => by unfold btL; rw [if_neg (by omega)]) hK (kc - 1) 0 (k - (kc - 1) - 1) (by omega)
    rw [show k - (kc - 1) - 1 + (kc - 1) + 1 = k by omega] at this
    rw [wi (n := (kc : Int) - 1) (by omega) (by omega), show (kc : Int) - 1 = ((kc - 1 : Nat) : Int) by omega, show i = L by omega]
    exact this
  | d + 1, i, k, hi, hk => by
    have hl := ycat_len (g := g) (kc := kc) (bt := btL path L) hr i
    have hlr : i * r ≤ 1000000 := by
      have := Nat.mul_le_mul (show i ≤ 1055 by omega) hr
      omega
    have h61 := step61 (kc := kc) (bt := btL path L) h3 h32 hg hr (i := i) (bt_lt hp hpl i) (acc := ycat g kc r (btL path L) i) (by omega) K hK
    have hbit : List.getD path (Int.toNat (i : Int)) 0 = ((btL path L i : Nat) : Int) := by
      have := hp i (by omega)
      unfold btL; rw [if_pos (by omega), Int.toNat_natCast]; omega
    rw [← hbit] at h61
    rw [L41_9]
    refine (if_pos (dlt (by omega))).trans ((if_pos (show (0 : Int) ≤ (i : Int) ∧ (i : Int) < (path.length : Int) by omega)).trans (bind_of h61 ?_))
    rw [add1 (by omega), show k + (d + 1) = k + d + 1 by omega]
    exact loop9e h3 h32 hg hr hL hpl hp hK d (i + 1) k (by omega) hk
theorem row60 {path : List Int} (hpl : path.length ≤ 1000000) (hp : ∀ j, j < path.length → 0 ≤ List.getD path j 0 ∧ List.getD path j 0 ≤ 1) : ∀ (d i k : Nat), i + d = path.length → L60_2 (k + d + 1) (path, (path.length : Int), (i : Int), ()) () = some (true, ())
  | 0, i, k, hi => by rw [L60_2]; exact if_neg (ndlt (by omega))
  | d + 1, i, k, hi => by
    have := hp i (by omega)
    rw [L60_2]
    refine (if_pos (dlt (by omega))).trans ((if_pos (show (0 : Int) ≤ (i : Int) ∧ (i : Int) < (path.length : Int) by omega)).trans ((if_neg (show ¬ decide ((1 : Int) < List.getD path (Int.toNat (i : Int)) 0) = true by rw [decide_eq_true_eq, Int.toNat_natCast]; omega)).trans ?_))
    rw [add1 (by omega), show k + (d + 1) = k + d + 1 by omega]
    exact row60 hpl hp d (i + 1) k (by omega)
theorem encode41 (h3 : 3 ≤ kc) (h32 : kc ≤ 32) (hg : U32 g) (hr : r ≤ 3) {path : List Int} {L K0 : Nat} (hL : L ≤ 1024) (hpl : path.length = L) (hp : ∀ j, j < path.length → 0 ≤ List.getD path j 0 ∧ List.getD path j 0 ≤ 1) (h50 : ∀ k, K0 ≤ k → F50 k (((kc : Int), (r : Int), g, ()), ()) () = some (0, ())) :
    ∀ k, K0 + 2000 ≤ k → F41 k (((kc : Int), (r : Int), g, ()), path, ()) () = some (((), 0, ()), ycat g kc r (btL path L) (L + (kc - 1)), ()) := by
  intro k hk
  have h59 : F59 k (((kc : Int), (r : Int), g, ()), ()) () = some (Sum.inr (((), 0, ()), ((kc : Int), (r : Int), g, 0, ()), ())) := by
    rw [F59]
    exact bind_of (h50 k (by omega)) (if_neg nd0)
  have h60 : F60 k (path, ()) () = some (true, ()) := by
    rw [F60]
    have := row60 (by omega) hp path.length 0 (k - path.length - 1) (by omega)
    rw [show k - path.length - 1 + path.length + 1 = k by omega] at this
    exact this
  have hS : (path.length + kc - 1) * r ≤ 3165 := by
    have := Nat.mul_le_mul (show path.length + kc - 1 ≤ 1055 by omega) hr
    omega
  have h9 := loop9e (r := r) h3 h32 hg hr hL hpl hp (K := k) (by omega) L 0 (k - L - 1) (by omega) (by omega)
  rw [show k - L - 1 + L + 1 = k by omega] at h9
  have e : IntKind.wrap IntKind.i64 (IntKind.wrap IntKind.i64 (IntKind.wrap IntKind.i64 ((path.length : Int) + (kc : Int)) - (1 : Int)) * (r : Int)) = (((path.length + kc - 1) * r : Nat) : Int) := by
    rw [wi (n := (path.length : Int) + (kc : Int)) (by omega) (by omega), wi (n := (path.length : Int) + (kc : Int) - 1) (by omega) (by omega), show (path.length : Int) + (kc : Int) - 1 = ((path.length + kc - 1 : Nat) : Int) by omega, ← Int.natCast_mul, wi (by omega) (by omega)]
  rw [F41]
  refine bind_of h59 ?_
  dsimp only [Sum.elim_inr]
  refine (if_neg nd0).trans (bind_of h60 ((if_neg (show ¬ (!true) = true by decide)).trans ?_))
  rw [e]
  refine (if_pos (show (0 : Int) ≤ 0 ∧ (0 : Int) ≤ (((path.length + kc - 1) * r : Nat) : Int) ∧ (((path.length + kc - 1) * r : Nat) : Int) * 1 ≤ 140737488355328 by omega)).trans ?_
  exact h9
end
/-! ### the problem -/
theorem widen30 {n : Int} {m : List Int} : ∃ (e n' : Int) (m' : List Int) (K : Nat), (∀ k, K ≤ k → F30 k ((n, m, ()), ()) () = some (((n', m', ()), e, ()), ())) ∧
    (e = 0 → n' = n + 1 ∧ m' = m ∧ 2 ≤ n ∧ n ≤ 15 ∧ (∀ b t : Nat, b < 2 → t < 16 → wellT n m b t) ∧ ∃ K', ∀ k, K' ≤ k → F49 k ((n + 1, m, ()), ()) () = some (0, ())) := by
  obtain ⟨e, n', m', K, h1, h2⟩ := widen_ok (n := n) (m := m)
  refine ⟨e, n', m', K, fun k hk => (h1 k hk).1, fun he => ?_⟩
  obtain ⟨g1, g2, g3, g4, g5⟩ := h2 he
  refine ⟨g1, g2, g3, g4, ?_, g5⟩
  obtain ⟨c, K2, h3, h4⟩ := chk32 (n := n) (m := m)
  by_cases hc : c = 0
  · exact (h4.1 hc).2.2
  · exfalso
    have h5 := (h1 (K + K2) (by omega)).1
    have h6 : F49 (K + K2) ((n, m, ()), ()) () = some (c, ()) := by rw [same49]; exact h3 _ (by omega)
    rw [F30] at h5
    have h7 := (bind_of h6 (if_pos (show (!decide (c = (0 : Int))) = true by rw [decide_eq_false hc]; rfl))).symm.trans h5
    simp only [Option.some.injEq, Prod.mk.injEq] at h7
    exact hc (h7.1.2.1.trans he)
theorem prob33 {per x y z Kc rate n L : Int} {g m w : List Int} (hx : 0 ≤ x ∧ x < 18446744073709551616) (hy : 0 ≤ y ∧ y < 18446744073709551616) (hz : 0 ≤ z ∧ z < 18446744073709551616) (hg : U32 g) (hw8 : ∀ v ∈ w, 0 ≤ v ∧ v ≤ 255) :
    ∃ (e K1 r1 n1 L1 : Int) (g1 m1 c : List Int) (K : Nat), (∀ k, K ≤ k → F33 k ((per, [x, y, z], ()), (Kc, rate, g, ()), (n, m, ()), L, w, ()) () = some (((K1, r1, g1, n1, m1, L1, (), ()), e, ()), c, ())) ∧
      (e = 0 → ∃ kc r l K0 : Nat, Kc = (kc : Int) ∧ rate = (r : Int) ∧ L = (l : Int) ∧ K1 = (kc : Int) ∧ r1 = (r : Int) ∧ g1 = g ∧ n1 = n + 1 ∧ m1 = m ∧ L1 = (l : Int) ∧ Prob per [x, y, z] kc r l g m w c n K0) := by
  obtain ⟨ec, Kc1, hgood, hcheck⟩ := check_both (K := Kc) (rate := rate) hg
  by_cases hec : ec = 0
  rotate_left
  · refine ⟨ec, 0, 0, 0, 0, List.replicate 3 0, List.replicate 32 0, [], Kc1, fun k hk => ?_, fun h => (hec h).elim⟩
    have cc : (!decide (ec = (0 : Int))) = true := by rw [decide_eq_false hec]; rfl
    rw [F33]
    exact bind_of (hcheck k hk).1 (if_pos cc)
  subst hec
  obtain ⟨h3, h32, hrate⟩ := hgood rfl
  obtain ⟨ew, n', m', Kw, hwid, hwgood⟩ := widen30 (n := n) (m := m)
  by_cases hew : ew = 0
  rotate_left
  · refine ⟨ew, 0, 0, 0, 0, List.replicate 3 0, List.replicate 32 0, [], Kc1 + Kw, fun k hk => ?_, fun h => (hew h).elim⟩
    have cc : (!decide (ew = (0 : Int))) = true := by rw [decide_eq_false hew]; rfl
    rw [F33]
    exact bind_of (hcheck k (by omega)).1 ((if_neg nd0).trans (bind_of (hwid k (by omega)) (if_pos cc)))
  subst hew
  obtain ⟨rfl, rfl, hn2, hn15, hwell, Kw2, h49⟩ := hwgood rfl
  have e28 := fun (k : Nat) (hk : 10 ≤ k) => by have := chk28 (per := per) (rate := rate) hx hy hz (k - 6); rwa [show k - 6 + 6 = k by omega] at this
  by_cases hp : chk per x y z rate = 0
  rotate_left
  · refine ⟨chk per x y z rate, 0, 0, 0, 0, List.replicate 3 0, List.replicate 32 0, [], Kc1 + Kw + 10, fun k hk => ?_, fun h => (hp h).elim⟩
    have cc : (!decide (chk per x y z rate = (0 : Int))) = true := by rw [decide_eq_false hp]; rfl
    rw [F33]
    exact bind_of (hcheck k (by omega)).1 ((if_neg nd0).trans (bind_of (hwid k (by omega)) ((if_neg nd0).trans (bind_of (e28 k (by omega)) (if_pos cc)))))
  have p0 : ¬ (!decide (chk per x y z rate = (0 : Int))) = true := nd_t hp
  by_cases hL : L < 1 ∨ 1024 < L
  · refine ⟨1, 0, 0, 0, 0, List.replicate 3 0, List.replicate 32 0, [], Kc1 + Kw + 10, fun k hk => ?_, (fun h => by cases h)⟩
    rw [F33]
    refine bind_of (hcheck k (by omega)).1 ((if_neg nd0).trans (bind_of (hwid k (by omega)) ((if_neg nd0).trans (bind_of (e28 k (by omega)) ((if_neg p0).trans ?_)))))
    by_cases h1 : L < 1
    · exact if_pos (decide_eq_true h1)
    · exact (if_neg (fun h => h1 (of_decide_eq_true h))).trans (if_pos (decide_eq_true (by omega)))
  have d1 : ¬ decide (L < (1 : Int)) = true := fun h => absurd (of_decide_eq_true h) (by omega)
  have d2 : ¬ decide ((1024 : Int) < L) = true := fun h => absurd (of_decide_eq_true h) (by omega)
  obtain ⟨kc, rfl⟩ : ∃ kc : Nat, Kc = (kc : Int) := Int.eq_ofNat_of_zero_le (by omega)
  obtain ⟨l, rfl⟩ : ∃ l : Nat, L = (l : Int) := Int.eq_ofNat_of_zero_le (by omega)
  obtain ⟨r, rfl, hr0, hr3⟩ := rate_cases hrate
  have hsteps : IntKind.wrap IntKind.i64 (IntKind.wrap IntKind.i64 ((l : Int) + (kc : Int)) - (1 : Int)) = ((l + kc - 1 : Nat) : Int) := by
    rw [wi (n := (l : Int) + (kc : Int)) (by omega) (by omega), wi (by omega) (by omega)]; omega
  obtain ⟨Kf, ef, c, hfill, hf2, _⟩ := fill_ok (per := per) (rate := (r : Int)) (lv := n) (steps := ((l + kc - 1 : Nat) : Int)) hx hy hz hw8
  by_cases hef : ef = 0
  rotate_left
  · refine ⟨ef, 0, 0, 0, 0, List.replicate 3 0, List.replicate 32 0, [], Kc1 + Kw + Kf + 10, fun k hk => ?_, fun h => (hef h).elim⟩
    have cc : (!decide (ef = (0 : Int))) = true := by rw [decide_eq_false hef]; rfl
    rw [F33, hsteps]
    exact bind_of (hcheck k (by omega)).1 ((if_neg nd0).trans (bind_of (hwid k (by omega)) ((if_neg nd0).trans (bind_of (e28 k (by omega)) ((if_neg p0).trans ((if_neg d1).trans ((if_neg d2).trans (bind_of (hfill k (by omega)) (if_pos cc)))))))))
  subst hef
  obtain ⟨_, _, _, hwlv, r', S, hr', _, _, hS, hS2, hwl, hfl⟩ := hf2 rfl
  have e1 : r' = r := by omega
  have e2 : S = l + kc - 1 := by omega
  subst e1 e2
  have hw : ∀ v ∈ w, 0 ≤ v ∧ v < n := fun v hv => ⟨(hw8 v hv).1, hwlv v hv⟩
  have hcl : c.length = r' * (l + kc - 1) := by rw [hfl]; exact fills_len _ _ _ _ _ _ _
  have hrS : r' * (l + kc - 1) ≤ 3165 := by have := Nat.mul_le_mul hr3 (show l + kc - 1 ≤ 1055 by omega); omega
  have c36 : ∀ k, Kc1 + Kw2 + 4000 ≤ k → F36 k (((kc : Int), (r' : Int), g, n + 1, m', (l : Int), c, ()), ()) () = some (0, ()) := fun k hk => by
    have hmem : ∀ v ∈ c, 0 ≤ v ∧ v < n + 1 := fun v hv => by
      rw [hfl] at hv
      have := fills_in (show 0 ≤ n by omega) _ _ _ hw v hv
      exact ⟨this.1, Int.lt_add_one_of_le this.2⟩
    have h52 : F52 (((kc : Int), (r' : Int), g, n + 1, m', (l : Int), c, ()), ()) () = some (((l + kc - 1 : Nat) : Int), ()) := by
      rw [F52, hsteps]
    have hlen : ((c.length : Nat) : Int) = IntKind.wrap IntKind.i64 (((l + kc - 1 : Nat) : Int) * (r' : Int)) := by
      rw [← Int.natCast_mul, wi (by have : (l + kc - 1) * r' = r' * (l + kc - 1) := Nat.mul_comm _ _; omega) (by have : (l + kc - 1) * r' = r' * (l + kc - 1) := Nat.mul_comm _ _; omega), hcl, Nat.mul_comm]
    have h12 := loop36 (Kc := (kc : Int)) (rate := (r' : Int)) (L := (l : Int)) (gens := g) (tab := m') (F := k) hmem (by omega) (by omega) c.length 0 (k - c.length - 1) (Nat.zero_add _)
    rw [show k - c.length - 1 + c.length + 1 = k by omega] at h12
    rw [F36]
    exact bind_of (hcheck k (by omega)).1 ((if_neg nd0).trans (bind_of (h49 k (by omega)) ((if_neg nd0).trans ((if_neg d1).trans ((if_neg d2).trans (bind_of h52 ((if_neg (nd_t hlen)).trans h12)))))))
  refine ⟨0, (kc : Int), (r' : Int), n + 1, (l : Int), g, m', c, Kc1 + Kw + Kf + 10, fun k hk => ?_, fun _ => ⟨kc, r', l, Kc1 + Kw2 + 4000, rfl, rfl, rfl, rfl, rfl, rfl, rfl, rfl, rfl, ⟨by omega, by omega, by omega, hg, hn2, hn15, by omega, by omega, (chk_pat hx hy hz hp).1, hw, hwell, hwl, hfl, fun k hk => (hcheck k (by omega)).1, fun k hk => h49 k (by omega), c36⟩⟩⟩
  rw [F33, hsteps]
  exact bind_of (hcheck k (by omega)).1 ((if_neg nd0).trans (bind_of (hwid k (by omega)) ((if_neg nd0).trans (bind_of (e28 k (by omega)) ((if_neg p0).trans ((if_neg d1).trans ((if_neg d2).trans (bind_of (hfill k (by omega)) (if_neg nd0)))))))))
end Go.Eng.Pu

/- PunctureSums, plain. No condition. -/
set_option linter.unusedVariables false
namespace Go.Eng.Pu
open Go Go.Eng Go.Proofs
theorem fills_get {per : Int} {keep : List Int} {r : Nat} {lv : Int} : ∀ (N k t : Nat) (w : List Int), t < N → List.getD (fills per keep r lv N k w) t 0 = if kat per keep r (k + t) then List.getD w (cntF per keep r (k + t) - cntF per keep r k) 0 else lv
  | 0, k, t, w, h => by omega
  | N + 1, k, 0, w, h => by
    simp only [fills, Nat.add_zero, Nat.sub_self]
    split
    · cases w <;> rfl
    · rfl
  | N + 1, k, t + 1, w, h => by
    have e : k + (t + 1) = k + 1 + t := by omega
    have hm := cntF_mono per keep r (k + 1) t
    simp only [fills]
    rw [e]
    by_cases hk : kat per keep r k = true
    · have h1 : cntF per keep r (k + 1) = cntF per keep r k + 1 := by simp only [cntF]; rw [if_pos hk]
      rw [if_pos hk]
      show List.getD (fills per keep r lv N (k + 1) w.tail) t 0 = _
      rw [fills_get N (k + 1) t w.tail (by omega)]
      split
      · have e2 : cntF per keep r (k + 1 + t) - cntF per keep r k = (cntF per keep r (k + 1 + t) - cntF per keep r (k + 1)) + 1 := by omega
        rw [e2]
        simp only [List.getD_eq_getElem?_getD, List.getElem?_tail]
      · rfl
    · have h1 : cntF per keep r (k + 1) = cntF per keep r k := by simp only [cntF]; rw [if_neg hk]; rfl
      rw [if_neg hk]
      show List.getD (fills per keep r lv N (k + 1) w) t 0 = _
      rw [fills_get N (k + 1) t w (by omega), h1]
theorem keep42' {per : Int} {keep : List Int} (h : Pat per keep) {r k : Nat} (hr0 : 0 < r) (hr : r ≤ 3) (hk : k ≤ 9223372036854775807) : F42 ((per, keep, ()), Int.tmod (k : Int) (r : Int), IntKind.wrap IntKind.i64 (Int.tdiv (k : Int) (r : Int)), ()) () = some (kat per keep r k, ()) := by
  have h1 := Nat.mod_lt k hr0
  have h2 := Nat.div_le_self k r
  rw [tdiv_nat, tmod_nat]
  unfold kat
  generalize k / r = q at *
  generalize k % r = m at *
  rw [wi (by omega) (by omega)]
  exact keep42 h (by omega) (by omega) (by omega)
section
variable {per n : Int} {keep g m w c path fin Y : List Int} {kc r L K0 : Nat} {bt : Nat → Nat}
theorem loop11 (G : Prob per keep kc r L g m w c n K0) (hfl : fin.length = L + kc) (hfv : ∀ t, t ≤ L + kc - 1 → List.getD fin t 0 = psum (fk g kc r bt m c) (t * r)) (hYl : Y.length = (L + kc - 1) * r) (hY : ∀ k, k < (L + kc - 1) * r → List.getD Y k 0 = sy g kc r bt k)
    {K : Nat} (hlive : F19 K () () = some (true, ())) : ∀ (d t k : Nat), t + d = (L + kc - 1) * r →
    L11_12 K (k + d + 1) ((), (), (), psum (fk g kc r bt m c) t, ((cntF per keep r t : Nat) : Int), (t : Int), ()) ((per, keep, (kc : Int), (r : Int), g, n, m, (L : Int), w, path, ()), fin, Y, ()) = some (true, ())
  | 0, t, k, ht => by
    have hend : ((cntF per keep r t : Nat) : Int) = (w.length : Int) := by
      have := cntF_tot per keep (r := r) (by have := G.hr; omega) (L + kc - 1)
      rw [G.wl, ← this, show t = r * (L + kc - 1) by rw [Nat.mul_comm]; omega]
    rw [L11_12]
    refine (if_neg (ndlt (by omega))).trans ((if_pos (decide_eq_true hend)).trans ?_)
    exact bind_of hlive rfl
  | d + 1, t, k, ht => by
    obtain ⟨hcl, hc3, hS⟩ := G.clen
    have hr := G.hr
    have hr0 : 0 < r := by omega
    have hr3 : r ≤ 3 := by omega
    have hN : (L + kc - 1) * r ≤ 3165 := by omega
    have htN : t < (L + kc - 1) * r := by omega
    have n2 := G.n2
    have n15 := G.n15
    have h7 : ¬ (r : Int) = 0 := by omega
    obtain ⟨F, hF⟩ : ∃ F, F = fk g kc r bt m c := ⟨_, rfl⟩
    have hFb : ∀ k, -4096 ≤ F k ∧ F k ≤ 4096 := fun k => by rw [hF]; exact G.fb k
    have hp1 := psum_le hFb (t + 1)
    have hct : List.getD c t 0 = if kat per keep r t then List.getD w (cntF per keep r t) 0 else n := by
      have := fills_get (per := per) (keep := keep) (r := r) (lv := n) (r * (L + kc - 1)) 0 t w (by rw [Nat.mul_comm]; exact htN)
      rw [← G.hc] at this
      rw [this, Nat.zero_add]
      rfl
    obtain ⟨y0, y1⟩ := yv_bit g kc r bt (t / r) (t % r)
    have hYt : List.getD Y t 0 = sy g kc r bt t := hY t htN
    have hy0 : 0 ≤ sy g kc r bt t := y0
    have hy1 : sy g kc r bt t ≤ 1 := y1
    have hYn : t < Y.length := by omega
    have hwt : IntKind.wrap IntKind.i64 ((t : Int) + (1 : Int)) = ((t + 1 : Nat) : Int) := add1 (by omega)
    -- the look at the path's sum
    have hq : Int.tmod (((t + 1 : Nat) : Int)) (r : Int) = (((t + 1) % r : Nat) : Int) := tmod_nat _ _
    have hqd : IntKind.wrap IntKind.i64 (Int.tdiv (((t + 1 : Nat) : Int)) (r : Int)) = (((t + 1) / r : Nat) : Int) := by
      have := Nat.div_le_self (t + 1) r
      rw [tdiv_nat]
      generalize (t + 1) / r = q at *
      rw [wi (by omega) (by omega)]
    have look : ∀ (next : Option (AT alts11)) (s : Int), s = psum F (t + 1) → next = some (true, ()) →
        (if (r : Int) = (0 : Int) then none else if decide (Int.tmod (((t + 1 : Nat) : Int)) (r : Int) = (0 : Int)) = true then
          (if (r : Int) = (0 : Int) then none else if (0 : Int) ≤ IntKind.wrap IntKind.i64 (Int.tdiv (((t + 1 : Nat) : Int)) (r : Int)) ∧ IntKind.wrap IntKind.i64 (Int.tdiv (((t + 1 : Nat) : Int)) (r : Int)) < (fin.length : Int) then
            (if Int.toNat (IntKind.wrap IntKind.i64 (Int.tdiv (((t + 1 : Nat) : Int)) (r : Int))) < fin.length then
              (if (!decide (List.getD fin (Int.toNat (IntKind.wrap IntKind.i64 (Int.tdiv (((t + 1 : Nat) : Int)) (r : Int)))) (0 : Int) = s)) = true then some (false, ()) else next) else none) else none) else next) = some (true, ()) := fun next s hs hn => by
      rw [if_neg h7, hq, hqd]
      by_cases hz : (t + 1) % r = 0
      · have hdv : (t + 1) / r * r = t + 1 := Nat.div_mul_cancel (Nat.dvd_of_mod_eq_zero hz)
        have hle : (t + 1) / r ≤ L + kc - 1 := by
          rw [Nat.div_le_iff_le_mul_add_pred hr0, Nat.mul_comm r]; omega
        have l1 := G.l1
        generalize (t + 1) / r = q at *
        rw [if_pos (decide_eq_true (by omega)), if_neg h7, if_pos (by omega), if_pos (by rw [Int.toNat_natCast]; omega)]
        rw [Int.toNat_natCast, hfv _ hle, hdv, ← hF, hs]
        rw [if_neg (nd_t rfl)]; exact hn
      · rw [if_neg (by rw [decide_eq_true_eq]; omega)]; exact hn
    have nxt : L11_12 K (k + d + 1) ((), (), (), psum F (t + 1), ((cntF per keep r (t + 1) : Nat) : Int), ((t + 1 : Nat) : Int), ()) ((per, keep, (kc : Int), (r : Int), g, n, m, (L : Int), w, path, ()), fin, Y, ()) = some (true, ()) := by
      rw [hF]; exact loop11 G hfl hfv hYl hY hlive d (t + 1) k (by omega)
    have h42 := keep42' G.pat hr0 hr3 (k := t) (by omega)
    have hend : (w.length : Int) = ((cntF per keep r ((L + kc - 1) * r) : Nat) : Int) := by
      rw [G.wl, ← cntF_tot per keep hr0, Nat.mul_comm]
    rw [show k + (d + 1) + 1 = (k + d + 1) + 1 by omega, L11_12, ← hF]
    refine (if_pos (dlt hYn)).trans ((if_neg h7).trans ((if_neg h7).trans (bind_of h42 ?_)))
    by_cases hk : kat per keep r t = true
    · have hc1 : cntF per keep r (t + 1) = cntF per keep r t + 1 := by simp only [cntF]; rw [if_pos hk]
      have hmono := cntF_mono per keep r (t + 1) (d : Nat)
      rw [show t + 1 + d = (L + kc - 1) * r by omega] at hmono
      have hat : cntF per keep r t < w.length := by omega
      have hwl : w.length ≤ 3165 := by
        have h1 := tot_le per keep r (L + kc - 1)
        have h2 : (r : Int) * ((L + kc - 1 : Nat) : Int) = (((L + kc - 1) * r : Nat) : Int) := by rw [← Int.natCast_mul, Nat.mul_comm]
        have := G.wl
        omega
      rw [if_pos hk] at hct
      obtain ⟨w0, w1⟩ := G.hw _ (getD_mem hat)
      have hsum : IntKind.wrap IntKind.i64 (psum F t + List.getD m (Int.toNat (sy g kc r bt t) * 16 + Int.toNat (List.getD w (cntF per keep r t) 0) * 1) 0) = psum F (t + 1) := by
        have e : List.getD m (Int.toNat (sy g kc r bt t) * 16 + Int.toNat (List.getD w (cntF per keep r t) 0) * 1) 0 = F t := by
          rw [hF]; unfold fk; rw [hct, Nat.mul_one]
        rw [e]
        show IntKind.wrap IntKind.i64 (psum F (t + 1)) = _
        rw [wi (by omega) (by omega)]
      have hin1 : (0 : Int) ≤ ((cntF per keep r t : Nat) : Int) ∧ ((cntF per keep r t : Nat) : Int) < (w.length : Int) := by omega
      have hin2 : (0 : Int) ≤ (t : Int) ∧ (t : Int) < (Y.length : Int) := by omega
      refine (if_pos hk).trans ((if_neg (show ¬ decide ((w.length : Int) ≤ ((cntF per keep r t : Nat) : Int)) = true by rw [decide_eq_true_eq]; omega)).trans ((if_pos hin1).trans ?_))
      rw [Int.toNat_natCast, Int.toNat_natCast, hYt]
      refine (if_neg (show ¬ decide ((16 : Int) ≤ IntKind.wrap IntKind.i64 (List.getD w (cntF per keep r t) 0)) = true by rw [decide_eq_true_eq, wi (n := List.getD w (cntF per keep r t) 0) (by omega) (by omega)]; omega)).trans ((if_pos hin2).trans ((if_pos hYn).trans ((if_neg (show ¬ decide ((1 : Int) < sy g kc r bt t) = true by rw [decide_eq_true_eq]; omega)).trans ((if_pos hin2).trans ((if_pos hYn).trans ((if_pos hin1).trans ?_))))))
      refine (if_pos (show (0 : Int) ≤ sy g kc r bt t ∧ sy g kc r bt t < 2 by omega)).trans ((if_pos (show (0 : Int) ≤ List.getD w (cntF per keep r t) 0 ∧ List.getD w (cntF per keep r t) 0 < 16 by omega)).trans ((if_pos (show Int.toNat (sy g kc r bt t) * 16 + Int.toNat (List.getD w (cntF per keep r t) 0) * 1 < 32 by omega)).trans ?_))
      rw [hwt, hsum]
      have hca : IntKind.wrap IntKind.i64 (((cntF per keep r t : Nat) : Int) + (1 : Int)) = ((cntF per keep r (t + 1) : Nat) : Int) := by rw [add1 (by omega), hc1]
      rw [hca]
      exact look _ _ rfl nxt
    · have hc1 : cntF per keep r (t + 1) = cntF per keep r t := by simp only [cntF]; rw [if_neg hk]; rfl
      rw [if_neg hk] at hct
      have hz : psum F (t + 1) = psum F t := by
        have e : F t = 0 := by
          rw [hF]; unfold fk; rw [hct]
          have := G.well (sy g kc r bt t).toNat n.toNat (by omega) (by omega)
          exact this.2.2 (by omega)
        simp only [psum]; omega
      rw [hc1, hz] at nxt
      refine (if_neg hk).trans ?_
      rw [hwt]
      exact look _ _ hz.symm nxt
theorem row60g (hpl : path.length ≤ 1000000) : ∀ (d i : Nat), i + d = path.length → ∃ b : Bool, (b = true → ∀ j, i ≤ j → j < path.length → List.getD path j 0 ≤ 1) ∧ ∀ k, L60_2 (k + d + 1) (path, (path.length : Int), (i : Int), ()) () = some (b, ())
  | 0, i, hi => ⟨true, fun _ j h1 h2 => by omega, fun k => by rw [L60_2]; exact if_neg (ndlt (by omega))⟩
  | d + 1, i, hi => by
    have hlt : i < path.length := by omega
    have hin : (0 : Int) ≤ (i : Int) ∧ (i : Int) < (path.length : Int) := by omega
    by_cases hb : 1 < List.getD path i 0
    · refine ⟨false, (fun h => by cases h), fun k => ?_⟩
      rw [L60_2]
      exact (if_pos (dlt hlt)).trans ((if_pos hin).trans (if_pos (by rw [decide_eq_true_eq, Int.toNat_natCast]; exact hb)))
    · obtain ⟨b, h1, h2⟩ := row60g hpl d (i + 1) (by omega)
      refine ⟨b, fun hbt j h3 h4 => ?_, fun k => ?_⟩
      · by_cases e : j = i
        · subst e; omega
        · exact h1 hbt j (by omega) h4
      · rw [show k + (d + 1) + 1 = (k + d + 1) + 1 by omega, L60_2]
        rw [add1 (i := i) (by omega)]
        exact (if_pos (dlt hlt)).trans ((if_pos hin).trans ((if_neg (show ¬ decide ((1 : Int) < List.getD path (Int.toNat (i : Int)) 0) = true by rw [decide_eq_true_eq, Int.toNat_natCast]; omega)).trans (h2 k)))
theorem encode_any {g : List Int} (h3 : 3 ≤ kc) (h32 : kc ≤ 32) (hg : U32 g) (hr : r ≤ 3) (hL : L ≤ 1024) (hpl : path.length = L) (hp8 : ∀ v ∈ path, 0 ≤ v ∧ v ≤ 255) (h50 : ∀ k, K0 ≤ k → F50 k (((kc : Int), (r : Int), g, ()), ()) () = some (0, ())) :
    ∃ (ee : Int) (Y : List Int) (Ke : Nat), ∀ k, Ke ≤ k → F41 k (((kc : Int), (r : Int), g, ()), path, ()) () = some (((), ee, ()), Y, ()) := by
  obtain ⟨b, h1, h2⟩ := row60g (path := path) (by omega) path.length 0 (Nat.zero_add _)
  cases b with
  | true => exact ⟨_, _, _, encode41 h3 h32 hg hr hL hpl (fun j hj => ⟨(hp8 _ (getD_mem hj)).1, h1 rfl j (Nat.zero_le _) hj⟩) h50⟩
  | false =>
    refine ⟨10, [], K0 + 2000, fun k hk => ?_⟩
    have h59 : F59 k (((kc : Int), (r : Int), g, ()), ()) () = some (Sum.inr (((), 0, ()), ((kc : Int), (r : Int), g, 0, ()), ())) := by
      rw [F59]
      exact bind_of (h50 k (by omega)) (if_neg nd0)
    have h60 : F60 k (path, ()) () = some (false, ()) := by
      rw [F60]
      have := h2 (k - path.length - 1)
      rw [show k - path.length - 1 + path.length + 1 = k by omega] at this
      exact this
    rw [F41]
    refine bind_of h59 ?_
    dsimp only [Sum.elim_inr]
    exact (if_neg nd0).trans (bind_of h60 (if_pos rfl))
theorem sums {per x y z Kc rate n L : Int} {g m w path : List Int} (hx : 0 ≤ x ∧ x < 18446744073709551616) (hy : 0 ≤ y ∧ y < 18446744073709551616) (hz : 0 ≤ z ∧ z < 18446744073709551616) (hg : U32 g) (hw8 : ∀ v ∈ w, 0 ≤ v ∧ v ≤ 255) (hl : w.length ≤ 140737488351232) (hp8 : ∀ v ∈ path, 0 ≤ v ∧ v ≤ 255) (hpl : path.length ≤ 140737488355328) :
    ∃ k, F11 k ((per, [x, y, z], Kc, rate, g, n, m, L, w, path, ()), ()) () = some (true, ()) := by
  obtain ⟨e, K1, r1, n1, L1, g1, m1, c, Kp, h33, hgood⟩ := prob33 (per := per) (Kc := Kc) (rate := rate) (n := n) (L := L) (m := m) hx hy hz hg hw8
  have live : ∀ k, 40 ≤ k → F19 k () () = some (true, ()) := fun k hk => by have := live_ok (k - 30); rwa [show k - 30 + 30 = k by omega] at this
  have et : List.take w.length (List.drop 0 (w ++ marks 0 8)) = w := by rw [List.drop_zero, List.take_left' rfl]
  have h12 : ∀ k, 40 ≤ k → F12 k (w, ()) () = some ((0, w.length), w ++ marks 0 8, ()) := fun k hk => by
    have := lent_ok hl (k - 9)
    rwa [show k - 9 + 9 = k by omega] at this
  have h33' : ∀ k, Kp ≤ k → F33 k ((per, [x, y, z], ()), (Kc, rate, g, ()), (n, m, ()), L, List.take w.length (List.drop 0 (w ++ marks 0 8)), ()) () = some (((K1, r1, g1, n1, m1, L1, (), ()), e, ()), c, ()) := by rw [et]; exact h33
  by_cases he : e = 0
  rotate_left
  · refine ⟨Kp + 40, ?_⟩
    have cc : (!decide (e = (0 : Int))) = true := by rw [decide_eq_false he]; rfl
    rw [F11]
    exact bind_of (h12 _ (by omega)) (bind_of (h33' _ (by omega)) (bind_of (v := (e, ())) rfl ((if_pos cc).trans (bind_of (live _ (by omega)) rfl))))
  subst he
  obtain ⟨kc, r, l, K0, rfl, rfl, rfl, rfl, rfl, rfl, rfl, rfl, rfl, G⟩ := hgood rfl
  by_cases hlen : path.length = l
  rotate_left
  · refine ⟨Kp + 40, ?_⟩
    have cc : (!decide (((path.length : Nat) : Int) = (l : Int))) = true := by rw [decide_eq_false (by omega)]; rfl
    rw [F11]
    exact bind_of (h12 _ (by omega)) (bind_of (h33' _ (by omega)) (bind_of (v := (0, ())) rfl ((if_neg nd0).trans ((if_pos cc).trans (bind_of (live _ (by omega)) rfl)))))
  have cl : ¬ (!decide (((path.length : Nat) : Int) = (l : Int))) = true := nd_t (by rw [hlen])
  have e29 := fun (k : Nat) (hk : 10 ≤ k) => by have := chk29 (per := per) (rate := (r : Int)) hx hy hz (k - 5); rwa [show k - 5 + 5 = k by omega] at this
  by_cases hch : chk per x y z (r : Int) = 0
  rotate_left
  · refine ⟨Kp + 40, ?_⟩
    have cc : (!decide (chk per x y z (r : Int) = (0 : Int))) = true := by rw [decide_eq_false hch]; rfl
    rw [F11]
    exact bind_of (h12 _ (by omega)) (bind_of (h33' _ (by omega)) (bind_of (v := (0, ())) rfl ((if_neg nd0).trans ((if_neg cl).trans (bind_of (e29 _ (by omega)) ((if_pos cc).trans (bind_of (live _ (by omega)) rfl)))))))
  have cch : ¬ (!decide (chk per x y z (r : Int) = (0 : Int))) = true := nd_t hch
  obtain ⟨ef, fin, hef, h38⟩ := prefixes38 (path := path) G hp8 hpl
  have hr3 : r ≤ 3 := by have := G.hr; omega
  have hr0 : 0 < r := by have := G.hr; omega
  by_cases hf : ef = 0
  rotate_left
  · -- the path isn't well
    obtain ⟨ee, Y, Ke, h41⟩ := encode_any (kc := kc) (r := r) G.h3 G.h32 G.hg hr3 G.l2 hlen hp8 G.c50
    refine ⟨Kp + K0 + path.length + Ke + 4040, ?_⟩
    have cc : (!decide (ef = (0 : Int))) = true := by rw [decide_eq_false hf]; rfl
    rw [F11]
    refine bind_of (h12 _ (by omega)) (bind_of (h33' _ (by omega)) (bind_of (v := (0, ())) rfl ((if_neg nd0).trans ((if_neg cl).trans (bind_of (e29 _ (by omega)) ((if_neg cch).trans ?_))))))
    exact bind_of (h38 _ (by omega)) (bind_of (h41 _ (by omega)) (bind_of (v := (ef, ())) rfl ((if_pos cc).trans (bind_of (live _ (by omega)) rfl))))
  subst hf
  obtain ⟨_, hbits, hfl, hfv⟩ := hef rfl
  have l1 := G.l1
  have h3 := G.h3
  have h41 := encode41 (kc := kc) (r := r) (g := g1) G.h3 G.h32 G.hg hr3 G.l2 hlen hbits G.c50
  have hYl : (ycat g1 kc r (btL path l) (l + (kc - 1))).length = (l + kc - 1) * r := by rw [ycat_len hr3, show l + (kc - 1) = l + kc - 1 by omega]
  have hY : ∀ k, k < (l + kc - 1) * r → List.getD (ycat g1 kc r (btL path l) (l + (kc - 1))) k 0 = sy g1 kc r (btL path l) k := fun k hk => ycat_get hr0 hr3 _ k (by rw [show l + (kc - 1) = l + kc - 1 by omega]; exact hk)
  generalize ycat g1 kc r (btL path l) (l + (kc - 1)) = Y at h41 hYl hY
  obtain ⟨hcl, hc3, hS⟩ := G.clen
  obtain ⟨K, hK⟩ : ∃ K, K = Kp + K0 + path.length + 9000 := ⟨_, rfl⟩
  have h11 := loop11 (path := path) (bt := btL path l) G hfl hfv hYl hY (K := K) (live K (by omega)) ((l + kc - 1) * r) 0 (K - (l + kc - 1) * r - 1) (Nat.zero_add _)
  rw [show K - (l + kc - 1) * r - 1 + (l + kc - 1) * r + 1 = K by omega] at h11
  have hl2 := G.l2
  have h32 := G.h32
  have c1 : ¬ (!decide (((fin.length : Nat) : Int) = IntKind.wrap IntKind.i64 ((l : Int) + (kc : Int)))) = true := nd_t (by rw [wi (by omega) (by omega), hfl]; omega)
  have c2 : ¬ (!decide (((Y.length : Nat) : Int) = IntKind.wrap IntKind.i64 (IntKind.wrap IntKind.i64 (((fin.length : Nat) : Int) - (1 : Int)) * (r : Int)))) = true := nd_t (by
    rw [hfl, wi (n := ((l + kc : Nat) : Int) - 1) (by omega) (by omega), show ((l + kc : Nat) : Int) - 1 = ((l + kc - 1 : Nat) : Int) by omega, ← Int.natCast_mul, wi (by omega) (by omega), hYl])
  refine ⟨K, ?_⟩
  rw [F11]
  refine bind_of (h12 _ (by omega)) (bind_of (h33' _ (by omega)) (bind_of (v := (0, ())) rfl ((if_neg nd0).trans ((if_neg cl).trans (bind_of (e29 _ (by omega)) ((if_neg cch).trans ?_))))))
  refine bind_of (h38 _ (by omega)) (bind_of (h41 _ (by omega)) (bind_of (v := (0, ())) rfl ((if_neg nd0).trans (bind_of (v := (0, ())) rfl ((if_neg nd0).trans ((if_neg c1).trans ((if_neg c2).trans ?_)))))))
  exact h11
end
end Go.Eng.Pu

