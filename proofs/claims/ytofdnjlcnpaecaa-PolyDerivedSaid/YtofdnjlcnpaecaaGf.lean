/- Polynomials over the field of two elements: their ring, divisors, factors, residues. Plain Lean, no program. No condition. -/
set_option linter.unusedVariables false
/-! Polynomials over the field of two elements, as natural numbers: sums are exclusive ors; the product; degrees. Plain Lean, no program. -/
namespace Gf

/-- the product -/
def mul (a b : Nat) : Nat := if h : a = 0 then 0 else (if a % 2 = 1 then b else 0) ^^^ (2 * mul (a / 2) b)
termination_by a
decreasing_by omega

theorem mul_zero_left (b : Nat) : mul 0 b = 0 := by unfold mul; simp
theorem mul_step (a b : Nat) : mul a b = (if a % 2 = 1 then b else 0) ^^^ (2 * mul (a / 2) b) := by
  by_cases h : a = 0
  · subst h; simp [mul_zero_left]
  · rw [mul]; simp [h]

/-! ### exclusive or -/
theorem xor_zero (a : Nat) : a ^^^ 0 = a := Nat.xor_zero a
theorem xor_left_comm (a b c : Nat) : a ^^^ (b ^^^ c) = b ^^^ (a ^^^ c) := by rw [← Nat.xor_assoc, Nat.xor_comm a b, Nat.xor_assoc]
theorem xor_xor_cancel (a b : Nat) : a ^^^ (a ^^^ b) = b := by rw [← Nat.xor_assoc, Nat.xor_self, Nat.zero_xor]
theorem xor_eq_zero {a b : Nat} : a ^^^ b = 0 ↔ a = b := by
  constructor
  · intro h
    have := congrArg (fun x => x ^^^ b) h
    simpa [Nat.xor_assoc] using this
  · rintro rfl; exact Nat.xor_self a
theorem xor_right_inj {a b c : Nat} (h : a ^^^ c = b ^^^ c) : a = b := by
  have := congrArg (fun x => x ^^^ c) h
  simpa [Nat.xor_assoc] using this
theorem xor_left_inj {a b c : Nat} (h : c ^^^ a = c ^^^ b) : a = b := by
  rw [Nat.xor_comm c a, Nat.xor_comm c b] at h; exact xor_right_inj h
theorem xor_eq_iff {a b c : Nat} : a ^^^ b = c ↔ a = c ^^^ b := by
  constructor
  · rintro rfl; rw [Nat.xor_assoc, Nat.xor_self, Nat.xor_zero]
  · rintro rfl; rw [Nat.xor_assoc, Nat.xor_self, Nat.xor_zero]
theorem two_mul_xor (a b : Nat) : 2 * (a ^^^ b) = 2 * a ^^^ 2 * b := by
  have h := Nat.shiftLeft_xor_distrib (a := a) (b := b) (i := 1)
  simpa [Nat.shiftLeft_eq, Nat.mul_comm] using h
theorem xor_div_two (a b : Nat) : (a ^^^ b) / 2 = a / 2 ^^^ b / 2 := by
  have h := Nat.shiftRight_xor_distrib (a := a) (b := b) (i := 1)
  simpa [Nat.shiftRight_eq_div_pow] using h
theorem xor_mod_two (a b : Nat) : (a ^^^ b) % 2 = (a % 2 + b % 2) % 2 := by
  have h := Nat.testBit_xor (x := a) (y := b) (i := 0)
  simp only [Nat.testBit_zero] at h
  rcases Nat.mod_two_eq_zero_or_one (a ^^^ b) with h3 | h3 <;> rcases Nat.mod_two_eq_zero_or_one a with h1 | h1 <;> rcases Nat.mod_two_eq_zero_or_one b with h2 | h2 <;> rw [h1, h2, h3] at h ⊢ <;> simp at h ⊢
theorem even_xor_one (a : Nat) : 2 * a ^^^ 1 = 2 * a + 1 := by
  have h1 := xor_div_two (2 * a) 1
  have h2 := xor_mod_two (2 * a) 1
  have h3 : 2 * a / 2 = a := by omega
  have h4 : 1 / 2 = 0 := by omega
  rw [h3, h4, Nat.xor_zero] at h1
  omega
theorem halves (a : Nat) : a = (if a % 2 = 1 then 1 else 0) ^^^ 2 * (a / 2) := by
  rcases Nat.mod_two_eq_zero_or_one a with h | h
  · rw [if_neg (by omega), Nat.zero_xor]; omega
  · rw [if_pos h, Nat.xor_comm, even_xor_one]; omega

/-! ### the ring -/
theorem mul_zero (a : Nat) : mul a 0 = 0 := by
  induction a using Nat.strongRecOn with
  | _ a ih =>
    by_cases h : a = 0
    · subst h; exact mul_zero_left 0
    · rw [mul_step, ih (a / 2) (by omega)]; simp
theorem one_mul (b : Nat) : mul 1 b = b := by rw [mul_step]; simp [mul_zero_left]
theorem mul_xor (a b c : Nat) : mul a (b ^^^ c) = mul a b ^^^ mul a c := by
  induction a using Nat.strongRecOn with
  | _ a ih =>
    by_cases h : a = 0
    · subst h; simp [mul_zero_left]
    · rw [mul_step, mul_step a b, mul_step a c, ih (a / 2) (by omega), two_mul_xor]
      split
      · ac_rfl
      · simp
theorem mul_two_right (a b : Nat) : mul a (2 * b) = 2 * mul a b := by
  induction a using Nat.strongRecOn with
  | _ a ih =>
    by_cases h : a = 0
    · subst h; simp [mul_zero_left]
    · rw [mul_step, mul_step a b, ih (a / 2) (by omega), two_mul_xor]
      split <;> simp
theorem mul_two_left (a b : Nat) : mul (2 * a) b = 2 * mul a b := by
  rw [mul_step]
  have h1 : ¬ (2 * a) % 2 = 1 := by omega
  have h2 : 2 * a / 2 = a := by omega
  rw [if_neg h1, h2, Nat.zero_xor]
theorem xor_mul (a b c : Nat) : mul (a ^^^ b) c = mul a c ^^^ mul b c := by
  induction a using Nat.strongRecOn generalizing b with
  | _ a ih =>
    by_cases h : a = 0
    · subst h; simp [mul_zero_left]
    · rw [mul_step (a ^^^ b), mul_step a, mul_step b, xor_div_two, ih (a / 2) (by omega), two_mul_xor, xor_mod_two]
      rcases Nat.mod_two_eq_zero_or_one a with h1 | h1 <;> rcases Nat.mod_two_eq_zero_or_one b with h2 | h2 <;> simp [h1, h2]
      · rw [xor_left_comm]
      · rw [Nat.xor_assoc]
      · have : c ^^^ 2 * mul (a / 2) c ^^^ (c ^^^ 2 * mul (b / 2) c) = (c ^^^ c) ^^^ (2 * mul (a / 2) c ^^^ 2 * mul (b / 2) c) := by ac_rfl
        rw [this, Nat.xor_self, Nat.zero_xor]
theorem mul_one (a : Nat) : mul a 1 = a := by
  induction a using Nat.strongRecOn with
  | _ a ih =>
    by_cases h : a = 0
    · subst h; exact mul_zero_left 1
    · rw [mul_step, ih (a / 2) (by omega), ← halves]
theorem mul_comm (a b : Nat) : mul a b = mul b a := by
  induction a using Nat.strongRecOn with
  | _ a ih =>
    by_cases h : a = 0
    · subst h; rw [mul_zero_left, mul_zero]
    · rw [mul_step, ih (a / 2) (by omega), ← mul_two_right]
      conv => rhs; rw [halves a, mul_xor]
      split
      · rw [mul_one]
      · rw [mul_zero]
theorem mul_assoc (a b c : Nat) : mul (mul a b) c = mul a (mul b c) := by
  induction a using Nat.strongRecOn with
  | _ a ih =>
    by_cases h : a = 0
    · subst h; simp [mul_zero_left]
    · rw [mul_step a b, xor_mul, mul_two_left, ih (a / 2) (by omega), mul_step a (mul b c)]
      split
      · rfl
      · simp [mul_zero_left]
theorem mul_left_comm (a b c : Nat) : mul a (mul b c) = mul b (mul a c) := by rw [← mul_assoc, mul_comm a b, mul_assoc]

/-! ### sizes: a < 2 ^ n says that the degree is below n -/
theorem xor_lt {a b n : Nat} (ha : a < 2 ^ n) (hb : b < 2 ^ n) : a ^^^ b < 2 ^ n := Nat.xor_lt_two_pow ha hb
theorem xor_top {a b n : Nat} (ha : a < 2 ^ n) (h1 : 2 ^ n ≤ b) (h2 : b < 2 ^ (n + 1)) : 2 ^ n ≤ a ^^^ b ∧ a ^^^ b < 2 ^ (n + 1) := by
  have hlt : a ^^^ b < 2 ^ (n + 1) := xor_lt (Nat.lt_trans ha (Nat.pow_lt_pow_right (by omega) (by omega))) h2
  refine ⟨?_, hlt⟩
  rcases Nat.lt_or_ge (a ^^^ b) (2 ^ n) with h | h
  · have : a ^^^ (a ^^^ b) < 2 ^ n := xor_lt ha h
    rw [xor_xor_cancel] at this
    omega
  · exact h
theorem top_bit {a n : Nat} (h1 : 2 ^ n ≤ a) (h2 : a < 2 ^ (n + 1)) : a.testBit n = true := by
  have e : a / 2 ^ n = 1 := Nat.div_eq_of_lt_le (by omega) (by rw [Nat.pow_succ] at h2; omega)
  rw [Nat.testBit_eq_decide_div_mod_eq, e]; rfl
theorem log2_eq {a n : Nat} (h1 : 2 ^ n ≤ a) (h2 : a < 2 ^ (n + 1)) : a.log2 = n := by
  have h0 : a ≠ 0 := by have := Nat.two_pow_pos n; omega
  exact (Nat.log2_eq_iff h0).2 ⟨h1, h2⟩
theorem pow_log2_le {a : Nat} (h : a ≠ 0) : 2 ^ a.log2 ≤ a := Nat.log2_self_le h
theorem lt_pow_log2 (a : Nat) : a < 2 ^ (a.log2 + 1) := Nat.lt_log2_self
theorem log2_lt {a n : Nat} (h : a ≠ 0) : a.log2 < n ↔ a < 2 ^ n := Nat.log2_lt h
theorem log2_div_two {a : Nat} (h : 2 ≤ a) : (a / 2).log2 + 1 = a.log2 := by
  rw [Nat.log2_def a, if_pos h]

theorem mul_size {a b : Nat} (ha : a ≠ 0) (hb : b ≠ 0) : 2 ^ (a.log2 + b.log2) ≤ mul a b ∧ mul a b < 2 ^ (a.log2 + b.log2 + 1) := by
  induction a using Nat.strongRecOn with
  | _ a ih =>
    by_cases h1 : a = 1
    · subst h1
      have : Nat.log2 1 = 0 := by decide
      rw [one_mul, this, Nat.zero_add]
      exact ⟨pow_log2_le hb, lt_pow_log2 b⟩
    · have h2 : 2 ≤ a := by omega
      obtain ⟨i1, i2⟩ := ih (a / 2) (by omega) (by omega)
      have hl := log2_div_two h2
      have e1 : a.log2 + b.log2 = ((a / 2).log2 + b.log2) + 1 := by omega
      rw [mul_step, e1]
      refine xor_top ?_ ?_ ?_
      · split
        · exact Nat.lt_of_lt_of_le (lt_pow_log2 b) (Nat.pow_le_pow_right (by omega) (by omega))
        · exact Nat.two_pow_pos _
      · rw [Nat.pow_succ]; omega
      · rw [Nat.pow_succ 2 (_ + 1)]; omega
theorem mul_ne_zero {a b : Nat} (ha : a ≠ 0) (hb : b ≠ 0) : mul a b ≠ 0 := by
  have := (mul_size ha hb).1
  have := Nat.two_pow_pos (a.log2 + b.log2)
  omega
theorem log2_mul {a b : Nat} (ha : a ≠ 0) (hb : b ≠ 0) : (mul a b).log2 = a.log2 + b.log2 := log2_eq (mul_size ha hb).1 (mul_size ha hb).2
theorem mul_eq_zero {a b : Nat} : mul a b = 0 ↔ a = 0 ∨ b = 0 := by
  constructor
  · intro h
    by_cases ha : a = 0
    · exact .inl ha
    · by_cases hb : b = 0
      · exact .inr hb
      · exact absurd h (mul_ne_zero ha hb)
  · rintro (rfl | rfl)
    · exact mul_zero_left b
    · exact mul_zero a
theorem mul_left_cancel {a b c : Nat} (ha : a ≠ 0) (h : mul a b = mul a c) : b = c := by
  have : mul a (b ^^^ c) = 0 := by rw [mul_xor, h, Nat.xor_self]
  rcases mul_eq_zero.1 this with h' | h'
  · exact absurd h' ha
  · exact xor_eq_zero.1 h'
theorem mul_lt {a b n m : Nat} (ha : a < 2 ^ n) (hb : b < 2 ^ (m + 1)) : mul a b < 2 ^ (n + m) := by
  by_cases h1 : a = 0
  · subst h1; rw [mul_zero_left]; exact Nat.two_pow_pos _
  by_cases h2 : b = 0
  · subst h2; rw [mul_zero]; exact Nat.two_pow_pos _
  have l1 : a.log2 < n := (log2_lt h1).2 ha
  have l2 : b.log2 < m + 1 := (log2_lt h2).2 hb
  exact Nat.lt_of_lt_of_le (mul_size h1 h2).2 (Nat.pow_le_pow_right (by omega) (by omega))

/-! ### powers of x -/
theorem mul_pow_two (a n : Nat) : mul a (2 ^ n) = a * 2 ^ n := by
  induction n with
  | zero => simp [mul_one]
  | succ n ih => rw [Nat.pow_succ, Nat.mul_comm (2 ^ n) 2, mul_two_right, ih]; ac_rfl
theorem pow_two_mul (a n : Nat) : mul (2 ^ n) a = a * 2 ^ n := by rw [mul_comm, mul_pow_two]

/-! ### division, with its uniqueness -/
/-- what is told of a quotient and a remainder -/
structure IsDiv (a b q r : Nat) : Prop where
  eq : a = mul q b ^^^ r
  lt : r < 2 ^ b.log2
theorem IsDiv.unique {a b q r q' r' : Nat} (hb : b ≠ 0) (h : IsDiv a b q r) (h' : IsDiv a b q' r') : q = q' ∧ r = r' := by
  have e : mul (q ^^^ q') b = r ^^^ r' := by
    rw [xor_mul]
    have := h.eq.symm.trans h'.eq
    have e2 : mul q b ^^^ mul q' b ^^^ (r ^^^ r') = (mul q b ^^^ r) ^^^ (mul q' b ^^^ r') := by ac_rfl
    rw [this, Nat.xor_self] at e2
    exact xor_eq_zero.1 e2
  have hlt : mul (q ^^^ q') b < 2 ^ b.log2 := by rw [e]; exact xor_lt h.lt h'.lt
  have hq : q ^^^ q' = 0 := by
    by_cases hz : q ^^^ q' = 0
    · exact hz
    · have := (mul_size hz hb).1
      have := Nat.pow_le_pow_right (n := 2) (by omega) (show b.log2 ≤ (q ^^^ q').log2 + b.log2 by omega)
      omega
  have hr : r ^^^ r' = 0 := by rw [← e, hq, mul_zero_left]
  exact ⟨xor_eq_zero.1 hq, xor_eq_zero.1 hr⟩

theorem div_exists (b : Nat) (hb : b ≠ 0) (n a : Nat) (ha : a < 2 ^ n) : ∃ q r, IsDiv a b q r := by
  induction n generalizing a with
  | zero =>
    refine ⟨0, 0, ?_, Nat.two_pow_pos _⟩
    simp [mul_zero_left]; omega
  | succ n ih =>
    rcases Nat.lt_or_ge a (2 ^ n) with h | h
    · exact ih a h
    · by_cases hd : n < b.log2
      · refine ⟨0, a, by simp [mul_zero_left], Nat.lt_of_lt_of_le ha (Nat.pow_le_pow_right (by omega) (by omega))⟩
      · have e : mul (2 ^ (n - b.log2)) b = b * 2 ^ (n - b.log2) := pow_two_mul _ _
        have hs1 : 2 ^ n ≤ b * 2 ^ (n - b.log2) := by
          have := Nat.mul_le_mul_right (2 ^ (n - b.log2)) (pow_log2_le hb)
          rwa [← Nat.pow_add, Nat.add_sub_cancel' (by omega)] at this
        have hs2 : b * 2 ^ (n - b.log2) < 2 ^ (n + 1) := by
          have := Nat.mul_lt_mul_of_pos_right (lt_pow_log2 b) (Nat.two_pow_pos (n - b.log2))
          rwa [← Nat.pow_add, show b.log2 + 1 + (n - b.log2) = n + 1 by omega] at this
        have hlt : a ^^^ b * 2 ^ (n - b.log2) < 2 ^ n := by
          rcases Nat.lt_or_ge (a ^^^ b * 2 ^ (n - b.log2)) (2 ^ n) with h' | h'
          · exact h'
          · have h3 := xor_lt ha hs2
            -- both have the bit n: their sum has not
            have t1 := top_bit h ha
            have t2 := top_bit hs1 hs2
            have t3 := top_bit h' h3
            rw [Nat.testBit_xor, t1, t2] at t3
            simp at t3
        obtain ⟨q, r, hqr⟩ := ih _ hlt
        refine ⟨2 ^ (n - b.log2) ^^^ q, r, ?_, hqr.lt⟩
        rw [xor_mul, e, Nat.xor_assoc, ← hqr.eq, Nat.xor_comm a, xor_xor_cancel]
theorem div_all (a b : Nat) (hb : b ≠ 0) : ∃ q r, IsDiv a b q r := div_exists b hb (a.log2 + 1) a (lt_pow_log2 a)
open Classical in
/-- the quotient; the remainder (of nothing by 0) -/
noncomputable def quo (a b : Nat) : Nat := if hb : b = 0 then 0 else Classical.choose (div_all a b hb)
open Classical in
noncomputable def rem (a b : Nat) : Nat := if hb : b = 0 then a else Classical.choose (Classical.choose_spec (div_all a b hb))
theorem isDiv (a b : Nat) (hb : b ≠ 0) : IsDiv a b (quo a b) (rem a b) := by
  unfold quo rem
  rw [dif_neg hb, dif_neg hb]
  exact Classical.choose_spec (Classical.choose_spec (div_all a b hb))
theorem IsDiv.quo_eq {a b q r : Nat} (hb : b ≠ 0) (h : IsDiv a b q r) : quo a b = q := ((isDiv a b hb).unique hb h).1
theorem IsDiv.rem_eq {a b q r : Nat} (hb : b ≠ 0) (h : IsDiv a b q r) : rem a b = r := ((isDiv a b hb).unique hb h).2
theorem rem_lt (a b : Nat) (hb : b ≠ 0) : rem a b < 2 ^ b.log2 := (isDiv a b hb).lt
theorem rem_lt' (a b : Nat) (hb : b ≠ 0) : rem a b < b := Nat.lt_of_lt_of_le (rem_lt a b hb) (pow_log2_le hb)
theorem div_eq (a b : Nat) (hb : b ≠ 0) : a = mul (quo a b) b ^^^ rem a b := (isDiv a b hb).eq
theorem rem_of_lt {a b : Nat} (hb : b ≠ 0) (h : a < 2 ^ b.log2) : rem a b = a := IsDiv.rem_eq (q := 0) hb ⟨by simp [mul_zero_left], h⟩
theorem rem_zero (b : Nat) (hb : b ≠ 0) : rem 0 b = 0 := rem_of_lt hb (Nat.two_pow_pos _)
theorem rem_xor (a c b : Nat) (hb : b ≠ 0) : rem (a ^^^ c) b = rem a b ^^^ rem c b := by
  refine IsDiv.rem_eq (q := quo a b ^^^ quo c b) hb ⟨?_, xor_lt (rem_lt a b hb) (rem_lt c b hb)⟩
  rw [xor_mul]
  conv => lhs; rw [div_eq a b hb, div_eq c b hb]
  ac_rfl
theorem rem_rem (a b : Nat) (hb : b ≠ 0) : rem (rem a b) b = rem a b := rem_of_lt hb (rem_lt a b hb)
theorem rem_mul_self (c b : Nat) (hb : b ≠ 0) : rem (mul c b) b = 0 := IsDiv.rem_eq (q := c) hb ⟨by simp, Nat.two_pow_pos _⟩
theorem rem_mul_left (a c b : Nat) (hb : b ≠ 0) : rem (mul (rem a b) c) b = rem (mul a c) b := by
  conv => rhs; rw [div_eq a b hb, xor_mul, mul_assoc, mul_comm b c, ← mul_assoc, rem_xor _ _ _ hb, rem_mul_self _ _ hb, Nat.zero_xor]
theorem rem_mul_right (a c b : Nat) (hb : b ≠ 0) : rem (mul a (rem c b)) b = rem (mul a c) b := by
  rw [mul_comm, rem_mul_left _ _ _ hb, mul_comm]

/-! ### divisors -/
def Dvd (a b : Nat) : Prop := ∃ c, b = mul c a
theorem dvd_refl (a : Nat) : Dvd a a := ⟨1, (one_mul a).symm⟩
theorem dvd_zero (a : Nat) : Dvd a 0 := ⟨0, (mul_zero_left a).symm⟩
theorem one_dvd (a : Nat) : Dvd 1 a := ⟨a, (mul_one a).symm⟩
theorem dvd_trans {a b c : Nat} (h : Dvd a b) (k : Dvd b c) : Dvd a c := by
  obtain ⟨x, rfl⟩ := h
  obtain ⟨y, rfl⟩ := k
  exact ⟨mul y x, (mul_assoc y x a).symm⟩
theorem dvd_xor {a b c : Nat} (h : Dvd a b) (k : Dvd a c) : Dvd a (b ^^^ c) := by
  obtain ⟨x, rfl⟩ := h
  obtain ⟨y, rfl⟩ := k
  exact ⟨x ^^^ y, (xor_mul x y a).symm⟩
theorem dvd_mul_left (a b : Nat) : Dvd a (mul b a) := ⟨b, rfl⟩
theorem dvd_mul_right (a b : Nat) : Dvd a (mul a b) := ⟨b, mul_comm a b⟩
theorem dvd_mul {a b : Nat} (c : Nat) (h : Dvd a b) : Dvd a (mul c b) := dvd_trans h (dvd_mul_left b c)
theorem zero_dvd {a : Nat} : Dvd 0 a ↔ a = 0 := by
  constructor
  · rintro ⟨c, rfl⟩; exact mul_zero c
  · rintro rfl; exact dvd_zero 0
theorem dvd_iff_rem {a b : Nat} (ha : a ≠ 0) : Dvd a b ↔ rem b a = 0 := by
  constructor
  · rintro ⟨c, rfl⟩; exact rem_mul_self c a ha
  · intro h
    refine ⟨quo b a, ?_⟩
    have := div_eq b a ha
    rw [h, Nat.xor_zero] at this
    exact this
theorem dvd_xor_left {a b c : Nat} (h : Dvd a b) : Dvd a (b ^^^ c) ↔ Dvd a c := by
  constructor
  · intro k
    have := dvd_xor h k
    rwa [xor_xor_cancel] at this
  · exact dvd_xor h
theorem log2_le_of_dvd {a b : Nat} (hb : b ≠ 0) (h : Dvd a b) : a.log2 ≤ b.log2 := by
  obtain ⟨c, rfl⟩ := h
  have hc : c ≠ 0 := by rintro rfl; exact hb (mul_zero_left a)
  have ha : a ≠ 0 := by rintro rfl; exact hb (mul_zero c)
  rw [log2_mul hc ha]; omega
theorem mul_eq_one {a b : Nat} (h : mul a b = 1) : a = 1 ∧ b = 1 := by
  have ha : a ≠ 0 := by rintro rfl; rw [mul_zero_left] at h; omega
  have hb : b ≠ 0 := by rintro rfl; rw [mul_zero] at h; omega
  have hl := log2_mul ha hb
  rw [h] at hl
  have h1 : Nat.log2 1 = 0 := by decide
  rw [h1] at hl
  have a1 : a.log2 < 1 := by omega
  have b1 : b.log2 < 1 := by omega
  have := (log2_lt ha).1 a1
  have := (log2_lt hb).1 b1
  omega
theorem dvd_antisymm {a b : Nat} (h : Dvd a b) (k : Dvd b a) : a = b := by
  obtain ⟨x, rfl⟩ := h
  obtain ⟨y, hy⟩ := k
  by_cases ha : a = 0
  · subst ha; rw [mul_zero]
  · rw [← mul_assoc] at hy
    have h2 : mul a 1 = mul a (mul y x) := by rw [mul_one, mul_comm a]; exact hy
    have h3 := mul_left_cancel ha h2
    have h1 : x = 1 := (mul_eq_one h3.symm).2
    rw [h1, one_mul]
theorem dvd_one {a : Nat} (h : Dvd a 1) : a = 1 := dvd_antisymm h (one_dvd a)
end Gf
/-! Polynomials over the field of two elements: greatest common divisors, irreducible ones, how often one divides. Plain Lean, no program. -/
namespace Gf

noncomputable def gcd (a b : Nat) : Nat := if h : b = 0 then a else gcd b (rem a b)
termination_by b
decreasing_by exact rem_lt' a b h
theorem gcd_zero (a : Nat) : gcd a 0 = a := by rw [gcd, dif_pos rfl]
theorem gcd_rem (a b : Nat) (h : b ≠ 0) : gcd a b = gcd b (rem a b) := by rw [gcd, dif_neg h]
theorem gcd_spec (b : Nat) : ∀ a, (Dvd (gcd a b) a ∧ Dvd (gcd a b) b) ∧ ∃ u v, mul u a ^^^ mul v b = gcd a b := by
  induction b using Nat.strongRecOn with
  | _ b ih =>
    intro a
    by_cases h : b = 0
    · subst h
      rw [gcd_zero]
      exact ⟨⟨dvd_refl a, dvd_zero a⟩, 1, 0, by rw [one_mul, mul_zero_left, Nat.xor_zero]⟩
    · rw [gcd_rem a b h]
      obtain ⟨⟨h1, h2⟩, u, v, h3⟩ := ih (rem a b) (rem_lt' a b h) b
      have e := div_eq a b h
      refine ⟨⟨?_, h1⟩, v, u ^^^ mul v (quo a b), ?_⟩
      · have h4 := dvd_xor (dvd_mul (quo a b) h1) h2
        rwa [← e] at h4
      · have e2 : rem a b = a ^^^ mul (quo a b) b := xor_eq_iff.1 (by rw [Nat.xor_comm]; exact e.symm)
        rw [← h3]
        conv => rhs; rw [e2, mul_xor, ← mul_assoc]
        rw [xor_mul]
        ac_rfl
theorem gcd_dvd_left (a b : Nat) : Dvd (gcd a b) a := (gcd_spec b a).1.1
theorem gcd_dvd_right (a b : Nat) : Dvd (gcd a b) b := (gcd_spec b a).1.2
theorem bezout (a b : Nat) : ∃ u v, mul u a ^^^ mul v b = gcd a b := (gcd_spec b a).2
theorem dvd_gcd {c a b : Nat} (h : Dvd c a) (k : Dvd c b) : Dvd c (gcd a b) := by
  obtain ⟨u, v, e⟩ := bezout a b
  rw [← e]
  exact dvd_xor (dvd_mul u h) (dvd_mul v k)
theorem gcd_unique {a b g : Nat} (h1 : Dvd g a) (h2 : Dvd g b) (h3 : ∀ c, Dvd c a → Dvd c b → Dvd c g) : g = gcd a b :=
  dvd_antisymm (dvd_gcd h1 h2) (h3 _ (gcd_dvd_left a b) (gcd_dvd_right a b))
theorem mul_dvd_mul {a b : Nat} (c : Nat) (h : Dvd a b) : Dvd (mul a c) (mul b c) := by
  obtain ⟨x, rfl⟩ := h
  exact ⟨x, mul_assoc x a c⟩
theorem gcd_mul (a b c : Nat) : gcd (mul a c) (mul b c) = mul (gcd a b) c := by
  symm
  refine gcd_unique (mul_dvd_mul c (gcd_dvd_left a b)) (mul_dvd_mul c (gcd_dvd_right a b)) fun d h1 h2 => ?_
  obtain ⟨u, v, e⟩ := bezout a b
  rw [← e, xor_mul, mul_assoc, mul_assoc]
  exact dvd_xor (dvd_mul u h1) (dvd_mul v h2)
theorem gcd_ne_zero {a b : Nat} (h : a ≠ 0 ∨ b ≠ 0) : gcd a b ≠ 0 := by
  intro e
  have h1 := gcd_dvd_left a b
  have h2 := gcd_dvd_right a b
  rw [e] at h1 h2
  have := zero_dvd.1 h1
  have := zero_dvd.1 h2
  omega
theorem gcd_comm (a b : Nat) : gcd a b = gcd b a := gcd_unique (gcd_dvd_right a b) (gcd_dvd_left a b) fun _ h1 h2 => dvd_gcd h2 h1

/-! ### irreducible ones -/
structure Irr (p : Nat) : Prop where
  two : 2 ≤ p
  one : ∀ a b, mul a b = p → a = 1 ∨ b = 1
theorem Irr.ne {p : Nat} (h : Irr p) : p ≠ 0 := by have := h.two; omega
theorem log2_pos {p : Nat} (h : 2 ≤ p) : 1 ≤ p.log2 := by
  rw [Nat.le_log2 (by omega)]; omega
theorem Irr.dvd {p d : Nat} (h : Irr p) (hd : Dvd d p) : d = 1 ∨ d = p := by
  obtain ⟨c, hc⟩ := hd
  rcases h.one c d hc.symm with rfl | h1
  · right; rw [hc, one_mul]
  · exact .inl h1
theorem Irr.coprime {p a : Nat} (h : Irr p) (ha : ¬ Dvd p a) : gcd p a = 1 := by
  rcases h.dvd (gcd_dvd_left p a) with h1 | h1
  · exact h1
  · have := gcd_dvd_right p a
    rw [h1] at this
    exact absurd this ha
theorem Irr.prime {p a b : Nat} (h : Irr p) (hd : Dvd p (mul a b)) : Dvd p a ∨ Dvd p b := by
  by_cases ha : Dvd p a
  · exact .inl ha
  · right
    obtain ⟨u, v, e⟩ := bezout p a
    rw [h.coprime ha] at e
    have : b = mul (mul u b) p ^^^ mul v (mul a b) := by
      have e2 := congrArg (fun x => mul x b) e
      simp only [xor_mul, one_mul] at e2
      refine e2.symm.trans ?_
      rw [mul_assoc u p b, mul_comm p b, ← mul_assoc u b p, mul_assoc v a b]
    rw [this]
    exact dvd_xor (dvd_mul_left p _) (dvd_mul v hd)
theorem Irr.not_one {p : Nat} (h : Irr p) : ¬ Dvd p 1 := fun hd => by have := dvd_one hd; have := h.two; omega
theorem lt_of_dvd {d a : Nat} (ha : a ≠ 0) (hd : Dvd d a) (hne : d ≠ a) : d.log2 < a.log2 ∧ d < a := by
  obtain ⟨c, rfl⟩ := hd
  have hc : c ≠ 0 := by rintro rfl; exact ha (mul_zero_left d)
  have hd0 : d ≠ 0 := by rintro rfl; exact ha (mul_zero c)
  have hc1 : c ≠ 1 := by rintro rfl; exact hne (one_mul d).symm
  have hl := log2_mul hc hd0
  have h2 := log2_pos (show 2 ≤ c by omega)
  have hlt : d.log2 < (mul c d).log2 := by omega
  refine ⟨hlt, ?_⟩
  have h3 := lt_pow_log2 d
  have h4 := pow_log2_le ha
  have h5 := Nat.pow_le_pow_right (n := 2) (by omega) (show d.log2 + 1 ≤ (mul c d).log2 by omega)
  omega
/-- the least divisor is irreducible -/
theorem irr_of_least {p a : Nat} (h2 : 2 ≤ p) (hd : Dvd p a) (hl : ∀ d, 2 ≤ d → d < p → ¬ Dvd d a) : Irr p := by
  refine ⟨h2, fun x y hxy => ?_⟩
  have hy : Dvd y p := ⟨x, hxy.symm⟩
  have hx : Dvd x p := ⟨y, by rw [mul_comm, hxy]⟩
  by_cases e : y = p
  · left
    have h0 : y ≠ 0 := by omega
    have : mul y x = mul y 1 := by rw [mul_comm, hxy, mul_one, e]
    exact mul_left_cancel h0 this
  · right
    have hlt := (lt_of_dvd (by omega) hy e).2
    have hy0 : y ≠ 0 := by rintro rfl; rw [mul_zero] at hxy; omega
    rcases Nat.lt_or_ge y 2 with h | h
    · omega
    · exact absurd (dvd_trans hy hd) (hl y h hlt)
theorem exists_irr {a : Nat} (h : 2 ≤ a) : ∃ p, Irr p ∧ Dvd p a := by
  induction a using Nat.strongRecOn with
  | _ a ih =>
    by_cases hi : Irr a
    · exact ⟨a, hi, dvd_refl a⟩
    · have : ∃ x y, mul x y = a ∧ x ≠ 1 ∧ y ≠ 1 := by
        refine Classical.byContradiction fun hn => hi ⟨h, fun x y hxy => ?_⟩
        by_cases hx : x = 1
        · exact .inl hx
        · by_cases hy : y = 1
          · exact .inr hy
          · exact absurd ⟨x, y, hxy, hx, hy⟩ hn
      obtain ⟨x, y, hxy, hx, hy⟩ := this
      have hx0 : x ≠ 0 := by rintro rfl; rw [mul_zero_left] at hxy; omega
      have hy0 : y ≠ 0 := by rintro rfl; rw [mul_zero] at hxy; omega
      have hdy : Dvd y a := ⟨x, hxy.symm⟩
      have hne : y ≠ a := by
        rintro rfl
        have : mul y x = mul y 1 := by rw [mul_comm, hxy, mul_one]
        exact hx (mul_left_cancel hy0 this)
      obtain ⟨p, hp, hd⟩ := ih y (lt_of_dvd (by omega) hdy hne).2 (by omega)
      exact ⟨p, hp, dvd_trans hd hdy⟩
/-- with no divisor up to half its degree it is irreducible -/
theorem irr_of_half {a : Nat} (h2 : 2 ≤ a) (hl : ∀ d, 2 ≤ d → 2 * d.log2 ≤ a.log2 → ¬ Dvd d a) : Irr a := by
  refine ⟨h2, fun x y hxy => ?_⟩
  have hx0 : x ≠ 0 := by rintro rfl; rw [mul_zero_left] at hxy; omega
  have hy0 : y ≠ 0 := by rintro rfl; rw [mul_zero] at hxy; omega
  have hlog := log2_mul hx0 hy0
  rw [hxy] at hlog
  by_cases hx : x = 1
  · exact .inl hx
  · by_cases hy : y = 1
    · exact .inr hy
    · rcases Nat.le_total x.log2 y.log2 with h | h
      · exact absurd ⟨y, by rw [mul_comm, hxy]⟩ (hl x (by omega) (by omega))
      · exact absurd ⟨x, hxy.symm⟩ (hl y (by omega) (by omega))

/-! ### how often p divides a -/
theorem quo_lt {p a : Nat} (hp : 2 ≤ p) (ha : a ≠ 0) (hd : Dvd p a) : quo a p ≠ 0 ∧ quo a p < a ∧ a = mul (quo a p) p := by
  have h0 : p ≠ 0 := by omega
  have e := div_eq a p h0
  rw [(dvd_iff_rem h0).1 hd, Nat.xor_zero] at e
  have hq : quo a p ≠ 0 := by intro h; rw [h, mul_zero_left] at e; exact ha e
  refine ⟨hq, ?_, e⟩
  have hd2 : Dvd (quo a p) a := ⟨p, by rw [mul_comm]; exact e⟩
  refine (lt_of_dvd ha hd2 fun h => ?_).2
  rw [h] at e
  have : mul a p = mul a 1 := by rw [mul_one]; exact e.symm
  have := mul_left_cancel ha this
  omega
open Classical in
noncomputable def val (p a : Nat) : Nat := if h : 2 ≤ p ∧ a ≠ 0 ∧ Dvd p a then val p (quo a p) + 1 else 0
termination_by a
decreasing_by exact (quo_lt h.1 h.2.1 h.2.2).2.1
theorem val_of_not {p a : Nat} (h : ¬ Dvd p a) : val p a = 0 := by rw [val, dif_neg (fun k => h k.2.2)]
theorem val_step {p a : Nat} (hp : 2 ≤ p) (ha : a ≠ 0) : val p (mul a p) = val p a + 1 := by
  have h0 : p ≠ 0 := by omega
  have hne := mul_ne_zero ha h0
  rw [val, dif_pos ⟨hp, hne, dvd_mul_left p a⟩]
  have e := (quo_lt hp hne (dvd_mul_left p a)).2.2
  have : mul p a = mul p (quo (mul a p) p) := by rw [mul_comm, mul_comm p]; exact e
  rw [← mul_left_cancel h0 this]
theorem val_pos {p a : Nat} (hp : 2 ≤ p) (ha : a ≠ 0) : 0 < val p a ↔ Dvd p a := by
  constructor
  · intro h
    refine Classical.byContradiction fun hn => ?_
    rw [val_of_not hn] at h; omega
  · intro h
    rw [val, dif_pos ⟨hp, ha, h⟩]; omega
theorem val_mul {p a b : Nat} (hp : Irr p) (ha : a ≠ 0) (hb : b ≠ 0) : val p (mul a b) = val p a + val p b := by
  induction a using Nat.strongRecOn with
  | _ a ih =>
    by_cases hd : Dvd p a
    · obtain ⟨hq, hlt, e⟩ := quo_lt hp.two ha hd
      have := ih _ hlt hq
      rw [e, val_step hp.two hq, mul_assoc, mul_comm p b, ← mul_assoc, val_step hp.two (mul_ne_zero hq hb), this]
      omega
    · rw [val_of_not hd, Nat.zero_add]
      clear ih
      induction b using Nat.strongRecOn with
      | _ b ih =>
        by_cases hd2 : Dvd p b
        · obtain ⟨hq, hlt, e⟩ := quo_lt hp.two hb hd2
          have := ih _ hlt hq
          rw [e, ← mul_assoc, val_step hp.two (mul_ne_zero ha hq), this, val_step hp.two hq]
        · rw [val_of_not hd2]
          refine val_of_not fun h => ?_
          rcases hp.prime h with h | h
          · exact hd h
          · exact hd2 h
theorem val_one {p : Nat} (hp : 2 ≤ p) : val p 1 = 0 := val_of_not fun h => by have := dvd_one h; omega
theorem val_self {p : Nat} (hp : 2 ≤ p) : val p p = 1 := by
  have := val_step hp (a := 1) (by omega)
  rw [one_mul, val_one hp] at this
  exact this
theorem val_other {p q : Nat} (hp : Irr p) (hq : Irr q) (hne : p ≠ q) : val p q = 0 := val_of_not fun h => by
  rcases hq.dvd h with h1 | h1
  · have := hp.two; omega
  · exact hne h1
/-- what has the same valuations is the same -/
theorem eq_of_val : ∀ (a b : Nat), a ≠ 0 → b ≠ 0 → (∀ p, Irr p → val p a = val p b) → a = b := by
  intro a
  induction a using Nat.strongRecOn with
  | _ a ih =>
    intro b ha hb h
    by_cases h1 : a = 1
    · subst h1
      rcases Nat.lt_or_ge b 2 with h2 | h2
      · omega
      · obtain ⟨p, hp, hd⟩ := exists_irr h2
        have h3 := (val_pos hp.two hb).2 hd
        have h4 := h p hp
        rw [val_one hp.two] at h4
        omega
    · obtain ⟨p, hp, hd⟩ := exists_irr (show 2 ≤ a by omega)
      have h3 := (val_pos hp.two ha).2 hd
      have hd2 := (val_pos hp.two hb).1 (by rw [← h p hp]; exact h3)
      obtain ⟨q1, l1, e1⟩ := quo_lt hp.two ha hd
      obtain ⟨q2, l2, e2⟩ := quo_lt hp.two hb hd2
      have : quo a p = quo b p := by
        refine ih _ l1 _ q1 q2 fun r hr => ?_
        have := h r hr
        rw [e1, e2, val_mul hr q1 hp.ne, val_mul hr q2 hp.ne] at this
        omega
      rw [e1, e2, this]
end Gf
/-! Inverses of a residue: they are unique; quotients and rests of common multiples. No condition. -/
namespace Gf
theorem dvd_small {m a : Nat} (hm : m ≠ 0) (h : Dvd m a) (hl : a < 2 ^ m.log2) : a = 0 := by
  rw [dvd_iff_rem hm, rem_of_lt hm hl] at h; exact h
/-- p is the inverse of x modulo m, and it is reduced. -/
structure Inv (x m p : Nat) : Prop where
  lt : p < 2 ^ m.log2
  dvd : Dvd m (mul p x ^^^ 1)
theorem inv_diff (x p q : Nat) : mul p (mul q x ^^^ 1) ^^^ mul q (mul p x ^^^ 1) = p ^^^ q := by
  rw [mul_xor, mul_xor, mul_one, mul_one, mul_left_comm p q x, Nat.xor_assoc, xor_left_comm p, ← Nat.xor_assoc, Nat.xor_self, Nat.zero_xor]
theorem Inv.unique {x m p q : Nat} (hm : m ≠ 0) (hp : Inv x m p) (hq : Inv x m q) : p = q := by
  have h : Dvd m (p ^^^ q) := by rw [← inv_diff x p q]; exact dvd_xor (dvd_mul p hq.dvd) (dvd_mul q hp.dvd)
  exact xor_eq_zero.1 (dvd_small hm h (xor_lt hp.lt hq.lt))
theorem dvd_rem {a m : Nat} (hm : m ≠ 0) : Dvd m (rem a m ^^^ a) := by
  rw [dvd_iff_rem hm, rem_xor _ _ _ hm, rem_rem _ _ hm, Nat.xor_self]
/-- a step of Euclid's way. -/
theorem inv_step {x m r s p q : Nat} (hm : m ≠ 0) (hs : s ≠ 0) (h1 : Dvd m (mul p x ^^^ r)) (h2 : Dvd m (mul q x ^^^ s)) :
    Dvd m (mul (p ^^^ rem (mul (quo r s) q) m) x ^^^ rem r s) := by
  have e : rem r s = r ^^^ mul (quo r s) s := by
    have h := div_eq r s hs
    exact ((xor_eq_iff.1 (show rem r s ^^^ mul (quo r s) s = r by rw [Nat.xor_comm]; exact h.symm)))
  generalize quo r s = k at *
  generalize hw : rem (mul k q) m = w
  have h3 : Dvd m (w ^^^ mul k q) := by rw [← hw]; exact dvd_rem hm
  have h4 : Dvd m (mul (w ^^^ mul k q) x) := by rw [mul_comm]; exact dvd_mul x h3
  have h5 := dvd_mul k h2
  have h6 := dvd_xor h1 (dvd_xor h4 h5)
  rw [e]
  have hh : mul p x ^^^ r ^^^ (mul (w ^^^ mul k q) x ^^^ mul k (mul q x ^^^ s)) = mul (p ^^^ w) x ^^^ (r ^^^ mul k s) := by
    rw [xor_mul, xor_mul, mul_xor, mul_assoc]
    generalize mul p x = A; generalize mul w x = B; generalize mul k (mul q x) = C; generalize mul k s = D
    apply Nat.eq_of_testBit_eq; intro i; simp only [Nat.testBit_xor]
    cases A.testBit i <;> cases B.testBit i <;> cases C.testBit i <;> cases D.testBit i <;> cases r.testBit i <;> rfl
  rw [← hh]; exact h6
theorem inv_reduce {x m r p : Nat} (hm : m ≠ 0) (h : Dvd m (mul p x ^^^ r)) : Dvd m (mul (rem p m) x ^^^ r) := by
  have h1 : Dvd m (mul (rem p m ^^^ p) x) := by rw [mul_comm]; exact dvd_mul x (dvd_rem hm)
  have h2 := dvd_xor h1 h
  rw [xor_mul, Nat.xor_assoc, ← Nat.xor_assoc (mul p x), Nat.xor_self, Nat.zero_xor] at h2
  exact h2
theorem div_common {r s g : Nat} (hs : s ≠ 0) (hg : g ≠ 0) : quo (mul r g) (mul s g) = quo r s ∧ rem (mul r g) (mul s g) = mul (rem r s) g := by
  have hd : IsDiv (mul r g) (mul s g) (quo r s) (mul (rem r s) g) := by
    refine ⟨?_, ?_⟩
    · conv => lhs; rw [div_eq r s hs]
      rw [xor_mul, mul_assoc]
    · rw [log2_mul hs hg]
      have h1 := rem_lt r s hs
      exact mul_lt h1 (lt_pow_log2 g)
  have hsg := mul_ne_zero hs hg
  exact ⟨hd.quo_eq hsg, hd.rem_eq hsg⟩
theorem quo_mul {a b : Nat} (hb : b ≠ 0) : quo (mul a b) b = a := IsDiv.quo_eq hb ⟨by simp, Nat.two_pow_pos _⟩
theorem quo_dvd {a b : Nat} (hb : b ≠ 0) (h : Dvd b a) : a = mul (quo a b) b := by
  obtain ⟨c, rfl⟩ := h; rw [quo_mul hb]
/-- the cofactors of the greatest common divisor are prime to each other. -/
theorem cofactors {a b : Nat} (hb : b ≠ 0) : gcd (quo a (gcd a b)) (quo b (gcd a b)) = 1 := by
  have hg := gcd_ne_zero (a := a) (Or.inr hb)
  have ha' := quo_dvd hg (gcd_dvd_left a b)
  have hb' := quo_dvd hg (gcd_dvd_right a b)
  have h := gcd_mul (quo a (gcd a b)) (quo b (gcd a b)) (gcd a b)
  rw [← ha', ← hb'] at h
  have h2 : mul (gcd a b) 1 = mul (gcd a b) (gcd (quo a (gcd a b)) (quo b (gcd a b))) := by rw [mul_one, mul_comm]; exact h
  exact (mul_left_cancel hg h2).symm
end Gf
/-! The order of x modulo an odd polynomial. Plain Lean, no program. No condition. -/
namespace Gf
theorem pigeon : ∀ (N : Nat) (f : Nat → Nat), (∀ i, i ≤ N → f i < N) → ∃ i j, i < j ∧ j ≤ N ∧ f i = f j
  | 0, f, h => absurd (h 0 (Nat.le_refl 0)) (Nat.not_lt_zero _)
  | N + 1, f, h => by
    by_cases hc : ∃ i, i < N + 1 ∧ f i = f (N + 1)
    · obtain ⟨i, hi, he⟩ := hc
      exact ⟨i, N + 1, hi, Nat.le_refl _, he⟩
    · have hne : ∀ i, i < N + 1 → f i ≠ f (N + 1) := fun i hi he => hc ⟨i, hi, he⟩
      have hl := h (N + 1) (Nat.le_refl _)
      obtain ⟨i, j, hij, hj, he⟩ := pigeon N (fun i => if f i > f (N + 1) then f i - 1 else f i) (fun i hi => by
        have h1 := h i (by omega)
        have h2 := hne i (by omega)
        show (if f i > f (N + 1) then f i - 1 else f i) < N
        split <;> omega)
      refine ⟨i, j, hij, by omega, ?_⟩
      have h1 := hne i (by omega)
      have h2 := hne j (by omega)
      have he' : (if f i > f (N + 1) then f i - 1 else f i) = (if f j > f (N + 1) then f j - 1 else f j) := he
      split at he' <;> split at he' <;> omega
theorem least (P : Nat → Prop) : ∀ n, P n → ∃ m, m ≤ n ∧ P m ∧ ∀ j, j < m → ¬ P j := by
  intro n
  induction n using Nat.strongRecOn with
  | _ n ih =>
    intro h
    by_cases hc : ∃ j, j < n ∧ P j
    · obtain ⟨j, hj, hp⟩ := hc
      obtain ⟨m, h1, h2⟩ := ih j hj hp
      exact ⟨m, by omega, h2⟩
    · exact ⟨n, Nat.le_refl n, h, fun j hj hp => hc ⟨j, hj, hp⟩⟩
theorem mul_odd (a b : Nat) : mul a b % 2 = a % 2 * (b % 2) := by
  rw [mul_step, xor_mod_two]
  have : 2 * mul (a / 2) b % 2 = 0 := by omega
  rw [this]
  split
  · rename_i h; rw [h]; omega
  · rename_i h; have : a % 2 = 0 := by omega
    rw [this]; omega
/-- an odd one that divides x c divides c. -/
theorem odd_dvd_two {a c : Nat} (ha : a % 2 = 1) (h : Dvd a (2 * c)) : Dvd a c := by
  obtain ⟨q, hq⟩ := h
  have h1 := mul_odd q a
  rw [← hq, ha] at h1
  have h2 : q % 2 = 0 := by omega
  refine ⟨q / 2, ?_⟩
  have h3 : q = 2 * (q / 2) := by omega
  rw [h3, mul_two_left] at hq
  omega
theorem odd_dvd_pow {a : Nat} (ha : a % 2 = 1) : ∀ (i c : Nat), Dvd a (mul (2 ^ i) c) → Dvd a c
  | 0, c, h => by rwa [Nat.pow_zero, one_mul] at h
  | i + 1, c, h => by
    rw [Nat.pow_succ, Nat.mul_comm, mul_two_left] at h
    exact odd_dvd_pow ha i c (odd_dvd_two ha h)
/-- n is the order of x modulo a. -/
structure Ord (a n : Nat) : Prop where
  pos : 1 ≤ n
  one : rem (2 ^ n) a = rem 1 a
  least : ∀ j, 1 ≤ j → j < n → rem (2 ^ j) a ≠ rem 1 a
theorem rem_eq_iff {a b m : Nat} (hm : m ≠ 0) : rem a m = rem b m ↔ Dvd m (a ^^^ b) := by
  rw [dvd_iff_rem hm, rem_xor _ _ _ hm, xor_eq_zero]
theorem pow_mul_pow (i j : Nat) : mul (2 ^ i) (2 ^ j) = 2 ^ (i + j) := by rw [mul_pow_two, Nat.pow_add]
theorem ord_exists {a : Nat} (ha : a % 2 = 1) : ∃ n, Ord a n ∧ n ≤ 2 ^ a.log2 := by
  have hm : a ≠ 0 := by omega
  obtain ⟨i, j, hij, hj, he⟩ := pigeon (2 ^ a.log2) (fun i => rem (2 ^ i) a) (fun i _ => rem_lt _ a hm)
  have h1 : Dvd a (mul (2 ^ i) (1 ^^^ 2 ^ (j - i))) := by
    rw [mul_xor, mul_one, pow_mul_pow, show i + (j - i) = j by omega]
    exact (rem_eq_iff hm).1 he
  have h2 := odd_dvd_pow ha i _ h1
  obtain ⟨n, hn, ⟨hp1, hp2⟩, hl⟩ := Gf.least (fun n => 1 ≤ n ∧ rem (2 ^ n) a = rem 1 a) (j - i) ⟨by omega, ((rem_eq_iff hm).2 h2).symm⟩
  exact ⟨n, ⟨hp1, hp2, fun j h1 h2 h3 => hl j h2 ⟨h1, h3⟩⟩, by omega⟩
theorem rem_twice {a x : Nat} (ha : a ≠ 0) : rem (2 * rem x a) a = rem (2 * x) a := by
  have h := rem_mul_right 2 x a ha
  rwa [show (2 : Nat) = 2 * 1 by rfl, mul_two_left, mul_two_left, one_mul, one_mul] at h
theorem rem_pow_step {a i : Nat} (ha : a ≠ 0) : rem (2 * rem (2 ^ i) a) a = rem (2 ^ (i + 1)) a := by
  rw [rem_twice ha, Nat.pow_succ, Nat.mul_comm]
/-- a step of the reference: one more doubling, taken off when it is too long. -/
theorem rem_double {a x : Nat} (ha : a ≠ 0) (hx : x < 2 ^ a.log2) : rem (2 * x) a = if 2 ^ a.log2 ≤ 2 * x then 2 * x ^^^ a else 2 * x := by
  split
  · rename_i h
    refine IsDiv.rem_eq (q := 1) ha ⟨?_, ?_⟩
    · rw [one_mul, Nat.xor_comm, Nat.xor_assoc, Nat.xor_self, Nat.xor_zero]
    · by_cases hlt : 2 * x ^^^ a < 2 ^ a.log2
      · exact hlt
      · exfalso
        have h1 : 2 * x < 2 ^ (a.log2 + 1) := by rw [Nat.pow_succ]; omega
        have h2 := top_bit h h1
        have h3 := top_bit (pow_log2_le ha) (lt_pow_log2 a)
        have h4 : 2 * x ^^^ a < 2 ^ (a.log2 + 1) := xor_lt h1 (lt_pow_log2 a)
        have h5 := top_bit (Nat.le_of_not_lt hlt) h4
        rw [Nat.testBit_xor, h2, h3] at h5
        exact absurd h5 (by decide)
  · rename_i h; exact rem_of_lt ha (by omega)
theorem ord_mul {a n : Nat} (ha : a ≠ 0) (h : Ord a n) (m k : Nat) : rem (2 ^ (n * k + m)) a = rem (2 ^ m) a := by
  induction k with
  | zero => rw [Nat.mul_zero, Nat.zero_add]
  | succ k ih =>
    rw [Nat.mul_succ, show n * k + n + m = n + (n * k + m) by omega, ← pow_mul_pow, ← rem_mul_left _ _ _ ha, h.one, rem_mul_left _ _ _ ha, one_mul, ih]
theorem ord_iff {a n : Nat} (ha : a ≠ 0) (h : Ord a n) (m : Nat) : rem (2 ^ m) a = rem 1 a ↔ m % n = 0 := by
  have e := ord_mul ha h (m % n) (m / n)
  rw [Nat.div_add_mod] at e
  rw [e]
  have hn := h.pos
  constructor
  · intro h1
    by_cases h0 : m % n = 0
    · exact h0
    · exact absurd h1 (h.least _ (by omega) (Nat.mod_lt _ (by omega)))
  · intro h0; rw [h0, Nat.pow_zero]
end Gf
/-! The field of residues modulo an irreducible polynomial: Fermat's law, roots, Rabin's test. Plain Lean, no program. No condition. -/
namespace Gf
def pow (a : Nat) : Nat → Nat
  | 0 => 1
  | n + 1 => mul (pow a n) a
theorem pow_add (a n m : Nat) : pow a (n + m) = mul (pow a n) (pow a m) := by
  induction m with
  | zero => simp [pow, mul_one]
  | succ m ih => rw [← Nat.add_assoc, pow, ih, pow, mul_assoc]
/-- squared so many times -/
def sq : Nat → Nat → Nat
  | 0, a => a
  | i + 1, a => mul (sq i a) (sq i a)
theorem sq_pow (i a : Nat) : sq i a = pow a (2 ^ i) := by
  induction i with
  | zero => simp [sq, pow, one_mul]
  | succ i ih => rw [sq, ih, ← pow_add, Nat.pow_succ]; congr 1; omega
theorem square_xor (a b : Nat) : mul (a ^^^ b) (a ^^^ b) = mul a a ^^^ mul b b := by
  rw [xor_mul, mul_xor, mul_xor, mul_comm b a, Nat.xor_assoc, ← Nat.xor_assoc (mul a b), Nat.xor_self, Nat.zero_xor]
theorem sq_xor (i a b : Nat) : sq i (a ^^^ b) = sq i a ^^^ sq i b := by
  induction i with
  | zero => rfl
  | succ i ih => rw [sq, ih, square_xor]; rfl
theorem sq_mul (i a b : Nat) : sq i (mul a b) = mul (sq i a) (sq i b) := by
  induction i with
  | zero => rfl
  | succ i ih => rw [sq, ih, sq, sq, mul_assoc, mul_left_comm (sq i b), ← mul_assoc]
theorem sq_zero (i : Nat) : sq i 0 = 0 := by
  induction i with
  | zero => rfl
  | succ i ih => rw [sq, ih, mul_zero]
theorem sq_one (i : Nat) : sq i 1 = 1 := by
  induction i with
  | zero => rfl
  | succ i ih => rw [sq, ih, mul_one]
theorem sq_add (i j a : Nat) : sq (i + j) a = sq i (sq j a) := by
  induction i with
  | zero => rw [Nat.zero_add]; rfl
  | succ i ih => rw [show i + 1 + j = i + j + 1 by omega, sq, ih]; rfl
theorem dvd_sq {p a : Nat} (i : Nat) (h : Dvd p a) : Dvd p (sq i a) := by
  induction i with
  | zero => exact h
  | succ i ih => exact dvd_mul _ ih
theorem sq_congr {p a b : Nat} (i : Nat) (h : Dvd p (a ^^^ b)) : Dvd p (sq i a ^^^ sq i b) := by rw [← sq_xor]; exact dvd_sq i h
theorem dvd_xor_trans {p a b c : Nat} (h : Dvd p (a ^^^ b)) (k : Dvd p (b ^^^ c)) : Dvd p (a ^^^ c) := by
  have := dvd_xor h k
  rwa [Nat.xor_assoc, ← Nat.xor_assoc b, Nat.xor_self, Nat.zero_xor] at this
theorem dvd_xor_symm {p a b : Nat} (h : Dvd p (a ^^^ b)) : Dvd p (b ^^^ a) := by rwa [Nat.xor_comm]
/-! ### products over lists -/
def prod : List Nat → Nat
  | [] => 1
  | x :: l => mul x (prod l)
theorem prod_erase : ∀ (l : List Nat) (x : Nat), x ∈ l → prod l = mul x (prod (l.erase x))
  | y :: l, x, h => by
    by_cases e : y = x
    · subst e; rw [List.erase_cons_head]; rfl
    · rw [List.erase_cons_tail (by simpa using e)]
      have hm : x ∈ l := by
        rcases List.mem_cons.1 h with h | h
        · exact absurd h.symm e
        · exact h
      show mul y (prod l) = mul x (mul y (prod (l.erase x)))
      rw [prod_erase l x hm, mul_left_comm]
theorem prod_eq : ∀ (l m : List Nat), l.Nodup → m.Nodup → (∀ x, x ∈ l ↔ x ∈ m) → prod l = prod m
  | [], m, _, _, h => by
    have : m = [] := by
      cases m with
      | nil => rfl
      | cons y m => exact absurd ((h y).2 (by simp)) (by simp)
    rw [this]
  | x :: l, m, hl, hm, h => by
    have hx : x ∈ m := (h x).1 (by simp)
    obtain ⟨h1, h2⟩ := List.nodup_cons.1 hl
    rw [prod_erase m x hx]
    show mul x (prod l) = _
    rw [prod_eq l (m.erase x) h2 (hm.erase x) fun y => ?_]
    rw [hm.mem_erase_iff]
    constructor
    · intro hy
      exact ⟨fun e => h1 (e ▸ hy), (h y).1 (by simp [hy])⟩
    · rintro ⟨hne, hy⟩
      rcases List.mem_cons.1 ((h y).2 hy) with e | e
      · exact absurd e hne
      · exact e
theorem prod_map (a : Nat) : ∀ l : List Nat, prod (l.map (mul a)) = mul (pow a l.length) (prod l)
  | [] => by simp [prod, pow, mul_one]
  | x :: l => by
    show mul (mul a x) (prod (l.map (mul a))) = mul (mul (pow a l.length) a) (mul x (prod l))
    rw [prod_map a l, mul_assoc, mul_assoc, mul_left_comm x (pow a l.length), mul_left_comm a (pow a l.length)]
theorem prod_rem {p : Nat} (hp : p ≠ 0) : ∀ l : List Nat, rem (prod (l.map fun s => rem s p)) p = rem (prod l) p
  | [] => rfl
  | x :: l => by
    show rem (mul (rem x p) (prod (l.map fun s => rem s p))) p = rem (mul x (prod l)) p
    rw [rem_mul_left _ _ _ hp, ← rem_mul_right _ _ _ hp, prod_rem hp l, rem_mul_right _ _ _ hp]
theorem prod_prime {p : Nat} (hp : Irr p) : ∀ l : List Nat, (∀ x ∈ l, ¬ Dvd p x) → ¬ Dvd p (prod l)
  | [], _ => hp.not_one
  | x :: l, h => fun hd => by
    rcases hp.prime (show Dvd p (mul x (prod l)) from hd) with h1 | h1
    · exact h x (by simp) h1
    · exact prod_prime hp l (fun y hy => h y (by simp [hy])) h1
/-- the residues that are not 0. -/
def units (n : Nat) : List Nat := (List.range (2 ^ n - 1)).map (· + 1)
theorem mem_units {n x : Nat} : x ∈ units n ↔ 1 ≤ x ∧ x < 2 ^ n := by
  unfold units
  rw [List.mem_map]
  constructor
  · rintro ⟨i, hi, rfl⟩
    rw [List.mem_range] at hi; omega
  · rintro ⟨h1, h2⟩
    exact ⟨x - 1, by rw [List.mem_range]; omega, by omega⟩
theorem units_nodup (n : Nat) : (units n).Nodup := by
  unfold units
  rw [List.Nodup, List.pairwise_map]
  exact List.Pairwise.imp (fun h => by omega) (List.nodup_range (n := 2 ^ n - 1))
theorem units_length (n : Nat) : (units n).length = 2 ^ n - 1 := by unfold units; rw [List.length_map, List.length_range]
theorem small_not_dvd {p x : Nat} (hp : p ≠ 0) (h1 : x ≠ 0) (h2 : x < 2 ^ p.log2) : ¬ Dvd p x := fun h => h1 (dvd_small hp h h2)
theorem fermat_unit {p a : Nat} (hp : Irr p) (ha : ¬ Dvd p a) : Dvd p (pow a (2 ^ p.log2 - 1) ^^^ 1) := by
  have hne := hp.ne
  obtain ⟨v, b, hb⟩ := bezout p a
  rw [hp.coprime ha] at hb
  have hb1 : Dvd p (mul b a ^^^ 1) := by
    rw [← hb, Nat.xor_comm, Nat.xor_assoc, Nat.xor_self, Nat.xor_zero]; exact dvd_mul_left p v
  have hnd : ∀ x ∈ units p.log2, ¬ Dvd p x := fun x hx => by
    obtain ⟨h1, h2⟩ := mem_units.1 hx
    exact small_not_dvd hne (by omega) h2
  have hperm : prod ((units p.log2).map fun s => rem (mul a s) p) = prod (units p.log2) := by
    refine prod_eq _ _ ?_ (units_nodup _) fun y => ?_
    · rw [List.Nodup, List.pairwise_map]
      refine List.Pairwise.imp_of_mem (fun {s t} hs ht hst => ?_) (units_nodup p.log2)
      intro e
      obtain ⟨_, hs2⟩ := mem_units.1 hs
      obtain ⟨_, ht2⟩ := mem_units.1 ht
      have h1 := (rem_eq_iff hne).1 e
      rw [← mul_xor] at h1
      rcases hp.prime h1 with h2 | h2
      · exact ha h2
      · exact hst (xor_eq_zero.1 (dvd_small hne h2 (xor_lt hs2 ht2)))
    · rw [List.mem_map, mem_units]
      constructor
      · rintro ⟨s, hs, rfl⟩
        refine ⟨?_, rem_lt _ _ hne⟩
        have h1 : ¬ rem (mul a s) p = 0 := fun e => by
          rcases hp.prime ((dvd_iff_rem hne).2 e) with h2 | h2
          · exact ha h2
          · exact hnd s hs h2
        omega
      · rintro ⟨h1, h2⟩
        have hy : ¬ Dvd p y := small_not_dvd hne (by omega) h2
        have hb' : ¬ Dvd p b := fun h => by
          have h3 : Dvd p (mul b a) := by rw [mul_comm]; exact dvd_mul a h
          exact hp.not_one ((dvd_xor_left h3).1 hb1)
        have e1 : rem (mul a (rem (mul b y) p)) p = y := by
          rw [rem_mul_right _ _ _ hne, ← mul_assoc, mul_comm a b]
          have h3 := (rem_eq_iff hne).2 hb1
          rw [← rem_mul_left _ _ _ hne, h3, rem_mul_left _ _ _ hne, one_mul, rem_of_lt hne h2]
        refine ⟨rem (mul b y) p, mem_units.2 ⟨?_, rem_lt _ _ hne⟩, e1⟩
        have h3 : ¬ rem (mul b y) p = 0 := fun e => by
          rcases hp.prime ((dvd_iff_rem hne).2 e) with h4 | h4
          · exact hb' h4
          · exact hy h4
        omega
  have e1 := prod_rem hne ((units p.log2).map (mul a))
  rw [List.map_map, prod_map, units_length] at e1
  have e2 : ((fun s => rem s p) ∘ mul a) = fun s => rem (mul a s) p := rfl
  rw [e2, hperm] at e1
  have h1 := (rem_eq_iff hne).1 e1
  have e3 : prod (units p.log2) ^^^ mul (pow a (2 ^ p.log2 - 1)) (prod (units p.log2)) = mul (pow a (2 ^ p.log2 - 1) ^^^ 1) (prod (units p.log2)) := by
    rw [xor_mul, one_mul, Nat.xor_comm]
  rw [e3] at h1
  rcases hp.prime h1 with h2 | h2
  · exact h2
  · exact absurd h2 (prod_prime hp _ hnd)
theorem fermat {p : Nat} (hp : Irr p) (a : Nat) : Dvd p (sq p.log2 a ^^^ a) := by
  by_cases ha : Dvd p a
  · exact dvd_xor (dvd_sq _ ha) ha
  · have h := dvd_mul a (fermat_unit hp ha)
    rw [mul_xor, mul_one, mul_comm, show mul (pow a (2 ^ p.log2 - 1)) a = pow a (2 ^ p.log2 - 1 + 1) from rfl, Nat.sub_add_cancel (Nat.two_pow_pos _), ← sq_pow] at h
    exact h
/-! ### roots -/
/-- a monic polynomial in y, by its lower coefficients. -/
def ev : List Nat → Nat → Nat
  | [], _ => 1
  | c :: cs, y => c ^^^ mul y (ev cs y)
theorem quotient : ∀ (c : Nat) (cs : List Nat) (r : Nat), ∃ qs : List Nat, qs.length = cs.length ∧ ∀ y, ev (c :: cs) y ^^^ ev (c :: cs) r = mul (y ^^^ r) (ev qs y)
  | c, [], r => ⟨[], rfl, fun y => by
      simp only [ev, mul_one]
      rw [Nat.xor_assoc, xor_left_comm y, ← Nat.xor_assoc c, Nat.xor_self, Nat.zero_xor]⟩
  | c, d :: cs, r => by
    obtain ⟨qs, hq, h⟩ := quotient d cs r
    refine ⟨ev (d :: cs) r :: qs, by simp [hq], fun y => ?_⟩
    have h1 := h y
    show (c ^^^ mul y (ev (d :: cs) y)) ^^^ (c ^^^ mul r (ev (d :: cs) r)) = mul (y ^^^ r) (ev (d :: cs) r ^^^ mul y (ev qs y))
    rw [mul_xor, mul_left_comm _ y, ← h1, mul_xor, xor_mul]
    generalize mul y (ev (d :: cs) y) = A; generalize mul r (ev (d :: cs) r) = B; generalize mul y (ev (d :: cs) r) = C
    apply Nat.eq_of_testBit_eq; intro i; simp only [Nat.testBit_xor]
    cases A.testBit i <;> cases B.testBit i <;> cases C.testBit i <;> cases c.testBit i <;> rfl
theorem roots {p : Nat} (hp : Irr p) : ∀ (n : Nat) (cs rs : List Nat), cs.length = n → n < rs.length → rs.Pairwise (fun a b => ¬ Dvd p (a ^^^ b)) → (∀ r ∈ rs, Dvd p (ev cs r)) → False
  | 0, cs, rs, hc, hl, _, h => by
    obtain rfl : cs = [] := List.length_eq_zero_iff.1 hc
    cases rs with
    | nil => simp at hl
    | cons r rs => exact hp.not_one (h r (by simp))
  | n + 1, [], rs, hc, _, _, _ => by simp at hc
  | n + 1, c :: cs, [], hc, hl, _, _ => by simp at hl
  | n + 1, c :: cs, r :: rs, hc, hl, hd, h => by
    obtain ⟨qs, hq, e⟩ := quotient c cs r
    obtain ⟨h1, h2⟩ := List.pairwise_cons.1 hd
    refine roots hp n qs rs (by rw [hq]; simpa using hc) (by simpa using hl) h2 fun s hs => ?_
    have h3 := dvd_xor (h s (by simp [hs])) (h r (by simp))
    rw [e s] at h3
    rcases hp.prime h3 with h4 | h4
    · exact absurd (dvd_xor_symm h4) (h1 s hs)
    · exact h4
theorem ev_zeros : ∀ (m y : Nat), ev (List.replicate m 0) y = pow y m
  | 0, y => rfl
  | m + 1, y => by
    rw [List.replicate_succ]
    show 0 ^^^ mul y (ev (List.replicate m 0) y) = mul (pow y m) y
    rw [Nat.zero_xor, ev_zeros m y, mul_comm]
theorem fixed_all {p i : Nat} (h : Dvd p (sq i 2 ^^^ 2)) (y : Nat) : Dvd p (sq i y ^^^ y) := by
  induction y using Nat.strongRecOn with
  | _ y ih =>
    by_cases h0 : y = 0
    · subst h0; rw [sq_zero]; exact dvd_zero p
    · have h1 := ih (y / 2) (by omega)
      have e := halves y
      have e2 : 2 * (y / 2) = mul 2 (y / 2) := by rw [show (2 : Nat) = 2 * 1 by rfl, mul_two_left, one_mul]
      have h2 : Dvd p (sq i (mul 2 (y / 2)) ^^^ mul 2 (y / 2)) := by
        rw [sq_mul]
        have a1 := dvd_mul (sq i (y / 2)) h
        have a2 := dvd_mul 2 h1
        rw [mul_xor] at a1 a2
        rw [mul_comm _ (sq i 2), mul_comm _ 2] at a1
        exact dvd_xor_trans a1 a2
      have h3 : Dvd p (sq i (if y % 2 = 1 then 1 else 0) ^^^ (if y % 2 = 1 then 1 else 0)) := by
        split
        · rw [sq_one, Nat.xor_self]; exact dvd_zero p
        · rw [sq_zero]; exact dvd_zero p
      rw [e2] at e
      have h4 := dvd_xor h3 h2
      have e3 : sq i (if y % 2 = 1 then 1 else 0) ^^^ (if y % 2 = 1 then 1 else 0) ^^^ (sq i (mul 2 (y / 2)) ^^^ mul 2 (y / 2)) = sq i y ^^^ y := by
        conv => rhs; rw [e, sq_xor]
        generalize sq i (if y % 2 = 1 then 1 else 0) = A; generalize (if y % 2 = 1 then 1 else 0) = B; generalize sq i (mul 2 (y / 2)) = C; generalize mul 2 (y / 2) = D
        apply Nat.eq_of_testBit_eq; intro j; simp only [Nat.testBit_xor]
        cases A.testBit j <;> cases B.testBit j <;> cases C.testBit j <;> cases D.testBit j <;> rfl
      rw [← e3]; exact h4
/-- modulo an irreducible one of degree n no fewer than n squarings bring x back. -/
theorem not_fixed {p i : Nat} (hp : Irr p) (h1 : 1 ≤ i) (h2 : i < p.log2) : ¬ Dvd p (sq i 2 ^^^ 2) := fun h => by
  have hne := hp.ne
  have hpow : (2 : Nat) ≤ 2 ^ i := by
    have := Nat.pow_le_pow_right (n := 2) (by decide) h1; simpa using this
  have hlt : 2 ^ i < 2 ^ p.log2 := Nat.pow_lt_pow_right (by decide) h2
  refine roots hp (2 ^ i) (0 :: 1 :: List.replicate (2 ^ i - 2) 0) (List.range (2 ^ p.log2)) (by simp; omega) (by simpa using hlt) ?_ fun r _ => ?_
  · refine List.Pairwise.imp_of_mem (fun {s t} hs ht hst => ?_) (List.nodup_range (n := 2 ^ p.log2))
    rw [List.mem_range] at hs ht
    exact fun hd => hst (xor_eq_zero.1 (dvd_small hne hd (xor_lt hs ht)))
  · have hf := fixed_all h r
    show Dvd p (0 ^^^ mul r (1 ^^^ mul r (ev (List.replicate (2 ^ i - 2) 0) r)))
    rw [ev_zeros, Nat.zero_xor, mul_xor, mul_one, mul_comm r (pow r (2 ^ i - 2)), show mul (pow r (2 ^ i - 2)) r = pow r (2 ^ i - 2 + 1) from rfl, mul_comm r, show mul (pow r (2 ^ i - 2 + 1)) r = pow r (2 ^ i - 2 + 1 + 1) from rfl, show 2 ^ i - 2 + 1 + 1 = 2 ^ i by omega, ← sq_pow]
    exact dvd_xor_symm hf
/-! ### Rabin's test -/
theorem fix_sub {p u v : Nat} (h : u ≤ v) (h1 : Dvd p (sq u 2 ^^^ 2)) (h2 : Dvd p (sq v 2 ^^^ 2)) : Dvd p (sq (v - u) 2 ^^^ 2) := by
  have h3 := sq_congr (v - u) h1
  rw [← sq_add, Nat.sub_add_cancel h] at h3
  exact dvd_xor_trans (dvd_xor_symm h3) h2
theorem fix_mod {p u : Nat} (h1 : Dvd p (sq u 2 ^^^ 2)) : ∀ v, Dvd p (sq v 2 ^^^ 2) → Dvd p (sq (v % u) 2 ^^^ 2) := by
  intro v
  induction v using Nat.strongRecOn with
  | _ v ih =>
    intro h2
    by_cases hu : u = 0
    · rw [hu, Nat.mod_zero]; exact h2
    · by_cases h : u ≤ v
      · rw [Nat.mod_eq_sub_mod h]; exact ih (v - u) (by omega) (fix_sub h h1 h2)
      · rw [Nat.mod_eq_of_lt (by omega)]; exact h2
theorem fix_gcd {p : Nat} : ∀ u v, Dvd p (sq u 2 ^^^ 2) → Dvd p (sq v 2 ^^^ 2) → Dvd p (sq (Nat.gcd u v) 2 ^^^ 2) := by
  intro u
  induction u using Nat.strongRecOn with
  | _ u ih =>
    intro v h1 h2
    by_cases hu : u = 0
    · rw [hu, Nat.gcd_zero_left]; exact h2
    · rw [Nat.gcd_rec]; exact ih (v % u) (Nat.mod_lt _ (by omega)) u (fix_mod h1 v h2) h1
structure Rabin (a : Nat) : Prop where
  low : ∀ i, 1 ≤ i → i < a.log2 → a.log2 % i = 0 → gcd (sq i 2 ^^^ 2) a = 1
  top : Dvd a (sq a.log2 2 ^^^ 2)
theorem eq_of_log2 {p a : Nat} (ha : a ≠ 0) (h : Dvd p a) (hl : p.log2 = a.log2) : p = a := by
  by_cases e : p = a
  · exact e
  · have := lt_of_dvd ha h e; omega
theorem rabin {a : Nat} (h2 : 2 ≤ a) : Rabin a ↔ Irr a := by
  have hl := log2_pos h2
  constructor
  · intro h
    obtain ⟨p, hp, hd⟩ := exists_irr h2
    have f1 : Dvd p (sq p.log2 2 ^^^ 2) := fermat hp 2
    have f2 : Dvd p (sq a.log2 2 ^^^ 2) := dvd_trans hd h.top
    have f3 := fix_gcd _ _ f1 f2
    have g1 := Nat.gcd_dvd_left p.log2 a.log2
    have g2 := Nat.gcd_dvd_right p.log2 a.log2
    have g0 : 0 < Nat.gcd p.log2 a.log2 := Nat.gcd_pos_of_pos_right _ (by omega)
    have hpa : p.log2 ≤ a.log2 := log2_le_of_dvd (by omega) hd
    have hp1 := log2_pos hp.two
    by_cases hlt : Nat.gcd p.log2 a.log2 < a.log2
    · have h3 := h.low _ g0 hlt (Nat.mod_eq_zero_of_dvd g2)
      have h4 := dvd_gcd f3 hd
      rw [h3] at h4
      exact absurd h4 hp.not_one
    · have h3 : Nat.gcd p.log2 a.log2 ≤ p.log2 := Nat.le_of_dvd (by omega) g1
      have := eq_of_log2 (by omega) hd (by omega)
      rw [← this]; exact hp
  · intro h
    refine ⟨fun i h1 h2 _ => ?_, fermat h 2⟩
    rw [gcd_comm]
    exact h.coprime (not_fixed h h1 h2)
end Gf
/-! How many different irreducible polynomials can divide one of degree at most 32. Plain Lean, no program. No condition. -/
namespace Gf
def degs : List Nat → Nat
  | [] => 0
  | x :: l => x.log2 + degs l
def total (f : Nat → Nat) : List Nat → Nat
  | [] => 0
  | x :: l => f x + total f l
theorem total_erase (f : Nat → Nat) : ∀ (l : List Nat) (x : Nat), x ∈ l → total f l = f x + total f (l.erase x)
  | y :: l, x, h => by
    by_cases e : y = x
    · subst e; rw [List.erase_cons_head]; rfl
    · rw [List.erase_cons_tail (by simpa using e)]
      have hm : x ∈ l := by
        rcases List.mem_cons.1 h with h | h
        · exact absurd h.symm e
        · exact h
      show f y + total f l = f x + (f y + total f (l.erase x))
      rw [total_erase f l x hm]; omega
theorem total_le (f : Nat → Nat) : ∀ (l S : List Nat), l.Nodup → (∀ x ∈ l, x ∉ S → f x = 0) → total f l ≤ total f S
  | [], S, _, _ => Nat.zero_le _
  | x :: l, S, hn, h => by
    obtain ⟨h1, h2⟩ := List.nodup_cons.1 hn
    by_cases hx : x ∈ S
    · rw [total_erase f S x hx]
      refine Nat.add_le_add_left (total_le f l (S.erase x) h2 fun y hy hn => h y (by simp [hy]) fun hs => hn ?_) _
      have hyx : y ≠ x := by intro e; rw [e] at hy; exact h1 hy
      exact (List.mem_erase_of_ne hyx).2 hs
    · show f x + total f l ≤ _
      rw [h x (by simp) hx, Nat.zero_add]
      exact total_le f l S h2 fun y hy => h y (by simp [hy])
theorem irr_odd {p : Nat} (h : Irr p) (h2 : p ≠ 2) : p % 2 = 1 := by
  by_cases e : p % 2 = 0
  · have hd : Dvd 2 p := ⟨p / 2, by rw [mul_comm, show (2 : Nat) = 2 * 1 by rfl, mul_two_left, one_mul]; omega⟩
    rcases h.dvd hd with h3 | h3
    · exact absurd h3 (by decide)
    · exact absurd h3.symm h2
  · omega
theorem low_irr {p : Nat} (h : Irr p) (h4 : p.log2 < 4) : p ∈ [2, 3, 5, 7, 9, 11, 13, 15] := by
  have h1 := (log2_lt h.ne).1 h4
  have h2 := h.two
  have h3 := fun e => irr_odd h e
  simp only [List.mem_cons, List.not_mem_nil, or_false]
  by_cases e : p = 2
  · exact Or.inl e
  · have := h3 e; omega
theorem few : ∀ (l : List Nat), 4 * l.length ≤ degs l + total (fun x => 4 - x.log2) l
  | [] => Nat.zero_le _
  | x :: l => by
    have := few l
    show 4 * (l.length + 1) ≤ x.log2 + degs l + (4 - x.log2 + total (fun x => 4 - x.log2) l)
    omega
theorem few_irr {l : List Nat} (hn : l.Nodup) (hi : ∀ x ∈ l, Irr x) (h : degs l ≤ 32) : l.length ≤ 11 := by
  have h1 := few l
  have h2 := total_le (fun x => 4 - x.log2) l [2, 3, 5, 7, 9, 11, 13, 15] hn fun x hx hs => by
    by_cases h4 : x.log2 < 4
    · exact absurd (low_irr (hi x hx) h4) hs
    · show 4 - x.log2 = 0; omega
  have h3 : total (fun x => 4 - x.log2) [2, 3, 5, 7, 9, 11, 13, 15] = 14 := by decide +kernel
  omega
theorem val_le {p : Nat} (hp : 2 ≤ p) (a : Nat) (ha : a ≠ 0) : val p a ≤ a.log2 := by
  induction a using Nat.strongRecOn with
  | _ a ih =>
    by_cases hd : Dvd p a
    · obtain ⟨h1, h2, h3⟩ := quo_lt hp ha hd
      have h4 := ih _ h2 h1
      rw [h3, val_step hp h1, log2_mul h1 (by omega)]
      have := log2_pos hp; omega
    · rw [val_of_not hd]; exact Nat.zero_le _
theorem le_of_dvd {d a : Nat} (ha : a ≠ 0) (h : Dvd d a) : d ≤ a := by
  by_cases e : d = a
  · omega
  · have := lt_of_dvd ha h e; omega
/-- no irreducible one below p divides a: then nothing below p does. -/
theorem none_below {p a : Nat} (hl : ∀ q, Irr q → q < p → ¬ Dvd q a) : ∀ d, 2 ≤ d → d < p → ¬ Dvd d a := fun d h2 hd h => by
  obtain ⟨q, hq, hqd⟩ := exists_irr h2
  have := le_of_dvd (by omega) hqd
  exact hl q hq (by omega) (dvd_trans hqd h)
theorem irr_next {p a : Nat} (h2 : 2 ≤ p) (hd : Dvd p a) (hl : ∀ q, Irr q → q < p → ¬ Dvd q a) : Irr p := irr_of_least h2 hd (none_below hl)
theorem log2_mono {a b : Nat} (h : a ≤ b) : a.log2 ≤ b.log2 := by
  by_cases ha : a = 0
  · subst ha; exact Nat.zero_le _
  · by_cases hl : b.log2 < a.log2
    · have h1 := (log2_lt (show b ≠ 0 by omega)).1 hl
      have h2 := pow_log2_le ha
      omega
    · omega
theorem irr_last {p a : Nat} (h2 : 2 ≤ a) (hl : ∀ q, Irr q → q < p → ¬ Dvd q a) (hp : a.log2 < 2 * p.log2) : Irr a := by
  refine irr_of_half h2 fun d hd hdeg h => ?_
  refine none_below hl d hd ?_ h
  by_cases hlt : d < p
  · exact hlt
  · have := log2_mono (show p ≤ d by omega); omega
theorem val_split {q p a : Nat} (hq : Irr q) (hp : Irr p) (ha : a ≠ 0) (hd : Dvd p a) : val q a = val q (quo a p) + if q = p then 1 else 0 := by
  obtain ⟨h1, h2, h3⟩ := quo_lt hp.two ha hd
  have h4 := val_mul hq h1 hp.ne
  rw [← h3] at h4
  rw [h4]
  split
  · rename_i e; rw [e, val_self hp.two]
  · rename_i e; rw [val_other hq hp e]
theorem log2_quo {p a : Nat} (hp : 2 ≤ p) (ha : a ≠ 0) (hd : Dvd p a) : (quo a p).log2 + p.log2 = a.log2 := by
  obtain ⟨h1, h2, h3⟩ := quo_lt hp ha hd
  have := log2_mul h1 (show p ≠ 0 by omega)
  rw [← h3] at this; omega
end Gf
