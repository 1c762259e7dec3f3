/- Polynomials over the field of two elements, as natural numbers: sums are exclusive ors; the product; degrees. Plain Lean, no program. -/
namespace Gf

/-- the product -/
def mul (a b : Nat) : Nat := if h : a = 0 then 0 else (if a % 2 = 1 then b else 0) ^^^ (2 * mul (a / 2) b)
termination_by a
decreasing_by omega

theorem mul_zero_left (b : Nat) : mul 0 b = 0 := by unfold mul; simp
theorem mul_step (a b : Nat) : mul a b = (if a % 2 = 1 then b else 0) ^^^ (2 * mul (a / 2) b) := by
  by_cases h : a = 0
  · subst h; simp [mul_zero_left]
  · rw [mul]; simp [h]

/-! ### exclusive or -/
theorem xor_zero (a : Nat) : a ^^^ 0 = a := Nat.xor_zero a
theorem xor_left_comm (a b c : Nat) : a ^^^ (b ^^^ c) = b ^^^ (a ^^^ c) := by rw [← Nat.xor_assoc, Nat.xor_comm a b, Nat.xor_assoc]
theorem xor_xor_cancel (a b : Nat) : a ^^^ (a ^^^ b) = b := by rw [← Nat.xor_assoc, Nat.xor_self, Nat.zero_xor]
theorem xor_eq_zero {a b : Nat} : a ^^^ b = 0 ↔ a = b := by
  constructor
  · intro h
    have := congrArg (fun x => x ^^^ b) h
    simpa [Nat.xor_assoc] using this
  · rintro rfl; exact Nat.xor_self a
theorem xor_right_inj {a b c : Nat} (h : a ^^^ c = b ^^^ c) : a = b := by
  have := congrArg (fun x => x ^^^ c) h
  simpa [Nat.xor_assoc] using this
theorem xor_left_inj {a b c : Nat} (h : c ^^^ a = c ^^^ b) : a = b := by
  rw [Nat.xor_comm c a, Nat.xor_comm c b] at h; exact xor_right_inj h
theorem xor_eq_iff {a b c : Nat} : a ^^^ b = c ↔ a = c ^^^ b := by
  constructor
  · rintro rfl; rw [Nat.xor_assoc, Nat.xor_self, Nat.xor_zero]
  · rintro rfl; rw [Nat.xor_assoc, Nat.xor_self, Nat.xor_zero]
theorem two_mul_xor (a b : Nat) : 2 * (a ^^^ b) = 2 * a ^^^ 2 * b := by
  have h := Nat.shiftLeft_xor_distrib (a := a) (b := b) (i := 1)
  simpa [Nat.shiftLeft_eq, Nat.mul_comm] using h
theorem xor_div_two (a b : Nat) : (a ^^^ b) / 2 = a / 2 ^^^ b / 2 := by
  have h := Nat.shiftRight_xor_distrib (a := a) (b := b) (i := 1)
  simpa [Nat.shiftRight_eq_div_pow] using h
theorem xor_mod_two (a b : Nat) : (a ^^^ b) % 2 = (a % 2 + b % 2) % 2 := by
  have h := Nat.testBit_xor (x := a) (y := b) (i := 0)
  simp only [Nat.testBit_zero] at h
  rcases Nat.mod_two_eq_zero_or_one (a ^^^ b) with h3 | h3 <;> rcases Nat.mod_two_eq_zero_or_one a with h1 | h1 <;> rcases Nat.mod_two_eq_zero_or_one b with h2 | h2 <;> rw [h1, h2, h3] at h ⊢ <;> simp at h ⊢
theorem even_xor_one (a : Nat) : 2 * a ^^^ 1 = 2 * a + 1 := by
  have h1 := xor_div_two (2 * a) 1
  have h2 := xor_mod_two (2 * a) 1
  have h3 : 2 * a / 2 = a := by omega
  have h4 : 1 / 2 = 0 := by omega
  rw [h3, h4, Nat.xor_zero] at h1
  omega
theorem halves (a : Nat) : a = (if a % 2 = 1 then 1 else 0) ^^^ 2 * (a / 2) := by
  rcases Nat.mod_two_eq_zero_or_one a with h | h
  · rw [if_neg (by omega), Nat.zero_xor]; omega
  · rw [if_pos h, Nat.xor_comm, even_xor_one]; omega

/-! ### the ring -/
theorem mul_zero (a : Nat) : mul a 0 = 0 := by
  induction a using Nat.strongRecOn with
  | _ a ih =>
    by_cases h : a = 0
    · subst h; exact mul_zero_left 0
    · rw [mul_step, ih (a / 2) (by omega)]; simp
theorem one_mul (b : Nat) : mul 1 b = b := by rw [mul_step]; simp [mul_zero_left]
theorem mul_xor (a b c : Nat) : mul a (b ^^^ c) = mul a b ^^^ mul a c := by
  induction a using Nat.strongRecOn with
  | _ a ih =>
    by_cases h : a = 0
    · subst h; simp [mul_zero_left]
    · rw [mul_step, mul_step a b, mul_step a c, ih (a / 2) (by omega), two_mul_xor]
      split
      · ac_rfl
      · simp
theorem mul_two_right (a b : Nat) : mul a (2 * b) = 2 * mul a b := by
  induction a using Nat.strongRecOn with
  | _ a ih =>
    by_cases h : a = 0
    · subst h; simp [mul_zero_left]
    · rw [mul_step, mul_step a b, ih (a / 2) (by omega), two_mul_xor]
      split <;> simp
theorem mul_two_left (a b : Nat) : mul (2 * a) b = 2 * mul a b := by
  rw [mul_step]
  have h1 : ¬ (2 * a) % 2 = 1 := by omega
  have h2 : 2 * a / 2 = a := by omega
  rw [if_neg h1, h2, Nat.zero_xor]
theorem xor_mul (a b c : Nat) : mul (a ^^^ b) c = mul a c ^^^ mul b c := by
  induction a using Nat.strongRecOn generalizing b with
  | _ a ih =>
    by_cases h : a = 0
    · subst h; simp [mul_zero_left]
    · rw [mul_step (a ^^^ b), mul_step a, mul_step b, xor_div_two, ih (a / 2) (by omega), two_mul_xor, xor_mod_two]
      rcases Nat.mod_two_eq_zero_or_one a with h1 | h1 <;> rcases Nat.mod_two_eq_zero_or_one b with h2 | h2 <;> simp [h1, h2]
      · rw [xor_left_comm]
      · rw [Nat.xor_assoc]
      · have : c ^^^ 2 * mul (a / 2) c ^^^ (c ^^^ 2 * mul (b / 2) c) = (c ^^^ c) ^^^ (2 * mul (a / 2) c ^^^ 2 * mul (b / 2) c) := by ac_rfl
        rw [this, Nat.xor_self, Nat.zero_xor]
theorem mul_one (a : Nat) : mul a 1 = a := by
  induction a using Nat.strongRecOn with
  | _ a ih =>
    by_cases h : a = 0
    · subst h; exact mul_zero_left 1
    · rw [mul_step, ih (a / 2) (by omega), ← halves]
theorem mul_comm (a b : Nat) : mul a b = mul b a := by
  induction a using Nat.strongRecOn with
  | _ a ih =>
    by_cases h : a = 0
    · subst h; rw [mul_zero_left, mul_zero]
    · rw [mul_step, ih (a / 2) (by omega), ← mul_two_right]
      conv => rhs; rw [halves a, mul_xor]
      split
      · rw [mul_one]
      · rw [mul_zero]
theorem mul_assoc (a b c : Nat) : mul (mul a b) c = mul a (mul b c) := by
  induction a using Nat.strongRecOn with
  | _ a ih =>
    by_cases h : a = 0
    · subst h; simp [mul_zero_left]
    · rw [mul_step a b, xor_mul, mul_two_left, ih (a / 2) (by omega), mul_step a (mul b c)]
      split
      · rfl
      · simp [mul_zero_left]
theorem mul_left_comm (a b c : Nat) : mul a (mul b c) = mul b (mul a c) := by rw [← mul_assoc, mul_comm a b, mul_assoc]

/-! ### sizes: a < 2 ^ n says that the degree is below n -/
theorem xor_lt {a b n : Nat} (ha : a < 2 ^ n) (hb : b < 2 ^ n) : a ^^^ b < 2 ^ n := Nat.xor_lt_two_pow ha hb
theorem xor_top {a b n : Nat} (ha : a < 2 ^ n) (h1 : 2 ^ n ≤ b) (h2 : b < 2 ^ (n + 1)) : 2 ^ n ≤ a ^^^ b ∧ a ^^^ b < 2 ^ (n + 1) := by
  have hlt : a ^^^ b < 2 ^ (n + 1) := xor_lt (Nat.lt_trans ha (Nat.pow_lt_pow_right (by omega) (by omega))) h2
  refine ⟨?_, hlt⟩
  rcases Nat.lt_or_ge (a ^^^ b) (2 ^ n) with h | h
  · have : a ^^^ (a ^^^ b) < 2 ^ n := xor_lt ha h
    rw [xor_xor_cancel] at this
    omega
  · exact h
theorem top_bit {a n : Nat} (h1 : 2 ^ n ≤ a) (h2 : a < 2 ^ (n + 1)) : a.testBit n = true := by
  have e : a / 2 ^ n = 1 := Nat.div_eq_of_lt_le (by omega) (by rw [Nat.pow_succ] at h2; omega)
  rw [Nat.testBit_eq_decide_div_mod_eq, e]; rfl
theorem log2_eq {a n : Nat} (h1 : 2 ^ n ≤ a) (h2 : a < 2 ^ (n + 1)) : a.log2 = n := by
  have h0 : a ≠ 0 := by have := Nat.two_pow_pos n; omega
  exact (Nat.log2_eq_iff h0).2 ⟨h1, h2⟩
theorem pow_log2_le {a : Nat} (h : a ≠ 0) : 2 ^ a.log2 ≤ a := Nat.log2_self_le h
theorem lt_pow_log2 (a : Nat) : a < 2 ^ (a.log2 + 1) := Nat.lt_log2_self
theorem log2_lt {a n : Nat} (h : a ≠ 0) : a.log2 < n ↔ a < 2 ^ n := Nat.log2_lt h
theorem log2_div_two {a : Nat} (h : 2 ≤ a) : (a / 2).log2 + 1 = a.log2 := by
  rw [Nat.log2_def a, if_pos h]

theorem mul_size {a b : Nat} (ha : a ≠ 0) (hb : b ≠ 0) : 2 ^ (a.log2 + b.log2) ≤ mul a b ∧ mul a b < 2 ^ (a.log2 + b.log2 + 1) := by
  induction a using Nat.strongRecOn with
  | _ a ih =>
    by_cases h1 : a = 1
    · subst h1
      have : Nat.log2 1 = 0 := by decide
      rw [one_mul, this, Nat.zero_add]
      exact ⟨pow_log2_le hb, lt_pow_log2 b⟩
    · have h2 : 2 ≤ a := by omega
      obtain ⟨i1, i2⟩ := ih (a / 2) (by omega) (by omega)
      have hl := log2_div_two h2
      have e1 : a.log2 + b.log2 = ((a / 2).log2 + b.log2) + 1 := by omega
      rw [mul_step, e1]
      refine xor_top ?_ ?_ ?_
      · split
        · exact Nat.lt_of_lt_of_le (lt_pow_log2 b) (Nat.pow_le_pow_right (by omega) (by omega))
        · exact Nat.two_pow_pos _
      · rw [Nat.pow_succ]; omega
      · rw [Nat.pow_succ 2 (_ + 1)]; omega
theorem mul_ne_zero {a b : Nat} (ha : a ≠ 0) (hb : b ≠ 0) : mul a b ≠ 0 := by
  have := (mul_size ha hb).1
  have := Nat.two_pow_pos (a.log2 + b.log2)
  omega
theorem log2_mul {a b : Nat} (ha : a ≠ 0) (hb : b ≠ 0) : (mul a b).log2 = a.log2 + b.log2 := log2_eq (mul_size ha hb).1 (mul_size ha hb).2
theorem mul_eq_zero {a b : Nat} : mul a b = 0 ↔ a = 0 ∨ b = 0 := by
  constructor
  · intro h
    by_cases ha : a = 0
    · exact .inl ha
    · by_cases hb : b = 0
      · exact .inr hb
      · exact absurd h (mul_ne_zero ha hb)
  · rintro (rfl | rfl)
    · exact mul_zero_left b
    · exact mul_zero a
theorem mul_left_cancel {a b c : Nat} (ha : a ≠ 0) (h : mul a b = mul a c) : b = c := by
  have : mul a (b ^^^ c) = 0 := by rw [mul_xor, h, Nat.xor_self]
  rcases mul_eq_zero.1 this with h' | h'
  · exact absurd h' ha
  · exact xor_eq_zero.1 h'
theorem mul_lt {a b n m : Nat} (ha : a < 2 ^ n) (hb : b < 2 ^ (m + 1)) : mul a b < 2 ^ (n + m) := by
  by_cases h1 : a = 0
  · subst h1; rw [mul_zero_left]; exact Nat.two_pow_pos _
  by_cases h2 : b = 0
  · subst h2; rw [mul_zero]; exact Nat.two_pow_pos _
  have l1 : a.log2 < n := (log2_lt h1).2 ha
  have l2 : b.log2 < m + 1 := (log2_lt h2).2 hb
  exact Nat.lt_of_lt_of_le (mul_size h1 h2).2 (Nat.pow_le_pow_right (by omega) (by omega))

/-! ### powers of x -/
theorem mul_pow_two (a n : Nat) : mul a (2 ^ n) = a * 2 ^ n := by
  induction n with
  | zero => simp [mul_one]
  | succ n ih => rw [Nat.pow_succ, Nat.mul_comm (2 ^ n) 2, mul_two_right, ih]; ac_rfl
theorem pow_two_mul (a n : Nat) : mul (2 ^ n) a = a * 2 ^ n := by rw [mul_comm, mul_pow_two]

/-! ### division, with its uniqueness -/
/-- what is told of a quotient and a remainder -/
structure IsDiv (a b q r : Nat) : Prop where
  eq : a = mul q b ^^^ r
  lt : r < 2 ^ b.log2
theorem IsDiv.unique {a b q r q' r' : Nat} (hb : b ≠ 0) (h : IsDiv a b q r) (h' : IsDiv a b q' r') : q = q' ∧ r = r' := by
  have e : mul (q ^^^ q') b = r ^^^ r' := by
    rw [xor_mul]
    have := h.eq.symm.trans h'.eq
    have e2 : mul q b ^^^ mul q' b ^^^ (r ^^^ r') = (mul q b ^^^ r) ^^^ (mul q' b ^^^ r') := by ac_rfl
    rw [this, Nat.xor_self] at e2
    exact xor_eq_zero.1 e2
  have hlt : mul (q ^^^ q') b < 2 ^ b.log2 := by rw [e]; exact xor_lt h.lt h'.lt
  have hq : q ^^^ q' = 0 := by
    by_cases hz : q ^^^ q' = 0
    · exact hz
    · have := (mul_size hz hb).1
      have := Nat.pow_le_pow_right (n := 2) (by omega) (show b.log2 ≤ (q ^^^ q').log2 + b.log2 by omega)
      omega
  have hr : r ^^^ r' = 0 := by rw [← e, hq, mul_zero_left]
  exact ⟨xor_eq_zero.1 hq, xor_eq_zero.1 hr⟩

theorem div_exists (b : Nat) (hb : b ≠ 0) (n a : Nat) (ha : a < 2 ^ n) : ∃ q r, IsDiv a b q r := by
  induction n generalizing a with
  | zero =>
    refine ⟨0, 0, ?_, Nat.two_pow_pos _⟩
    simp [mul_zero_left]; omega
  | succ n ih =>
    rcases Nat.lt_or_ge a (2 ^ n) with h | h
    · exact ih a h
    · by_cases hd : n < b.log2
      · refine ⟨0, a, by simp [mul_zero_left], Nat.lt_of_lt_of_le ha (Nat.pow_le_pow_right (by omega) (by omega))⟩
      · have e : mul (2 ^ (n - b.log2)) b = b * 2 ^ (n - b.log2) := pow_two_mul _ _
        have hs1 : 2 ^ n ≤ b * 2 ^ (n - b.log2) := by
          have := Nat.mul_le_mul_right (2 ^ (n - b.log2)) (pow_log2_le hb)
          rwa [← Nat.pow_add, Nat.add_sub_cancel' (by omega)] at this
        have hs2 : b * 2 ^ (n - b.log2) < 2 ^ (n + 1) := by
          have := Nat.mul_lt_mul_of_pos_right (lt_pow_log2 b) (Nat.two_pow_pos (n - b.log2))
          rwa [← Nat.pow_add, show b.log2 + 1 + (n - b.log2) = n + 1 by omega] at this
        have hlt : a ^^^ b * 2 ^ (n - b.log2) < 2 ^ n := by
          rcases Nat.lt_or_ge (a ^^^ b * 2 ^ (n - b.log2)) (2 ^ n) with h' | h'
          · exact h'
          · have h3 := xor_lt ha hs2
            -- both have the bit n: their sum has not
            have t1 := top_bit h ha
            have t2 := top_bit hs1 hs2
            have t3 := top_bit h' h3
            rw [Nat.testBit_xor, t1, t2] at t3
            simp at t3
        obtain ⟨q, r, hqr⟩ := ih _ hlt
        refine ⟨2 ^ (n - b.log2) ^^^ q, r, ?_, hqr.lt⟩
        rw [xor_mul, e, Nat.xor_assoc, ← hqr.eq, Nat.xor_comm a, xor_xor_cancel]
theorem div_all (a b : Nat) (hb : b ≠ 0) : ∃ q r, IsDiv a b q r := div_exists b hb (a.log2 + 1) a (lt_pow_log2 a)
open Classical in
/-- the quotient; the remainder (of nothing by 0) -/
noncomputable def quo (a b : Nat) : Nat := if hb : b = 0 then 0 else Classical.choose (div_all a b hb)
open Classical in
noncomputable def rem (a b : Nat) : Nat := if hb : b = 0 then a else Classical.choose (Classical.choose_spec (div_all a b hb))
theorem isDiv (a b : Nat) (hb : b ≠ 0) : IsDiv a b (quo a b) (rem a b) := by
  unfold quo rem
  rw [dif_neg hb, dif_neg hb]
  exact Classical.choose_spec (Classical.choose_spec (div_all a b hb))
theorem IsDiv.quo_eq {a b q r : Nat} (hb : b ≠ 0) (h : IsDiv a b q r) : quo a b = q := ((isDiv a b hb).unique hb h).1
theorem IsDiv.rem_eq {a b q r : Nat} (hb : b ≠ 0) (h : IsDiv a b q r) : rem a b = r := ((isDiv a b hb).unique hb h).2
theorem rem_lt (a b : Nat) (hb : b ≠ 0) : rem a b < 2 ^ b.log2 := (isDiv a b hb).lt
theorem rem_lt' (a b : Nat) (hb : b ≠ 0) : rem a b < b := Nat.lt_of_lt_of_le (rem_lt a b hb) (pow_log2_le hb)
theorem div_eq (a b : Nat) (hb : b ≠ 0) : a = mul (quo a b) b ^^^ rem a b := (isDiv a b hb).eq
theorem rem_of_lt {a b : Nat} (hb : b ≠ 0) (h : a < 2 ^ b.log2) : rem a b = a := IsDiv.rem_eq (q := 0) hb ⟨by simp [mul_zero_left], h⟩
theorem rem_zero (b : Nat) (hb : b ≠ 0) : rem 0 b = 0 := rem_of_lt hb (Nat.two_pow_pos _)
theorem rem_xor (a c b : Nat) (hb : b ≠ 0) : rem (a ^^^ c) b = rem a b ^^^ rem c b := by
  refine IsDiv.rem_eq (q := quo a b ^^^ quo c b) hb ⟨?_, xor_lt (rem_lt a b hb) (rem_lt c b hb)⟩
  rw [xor_mul]
  conv => lhs; rw [div_eq a b hb, div_eq c b hb]
  ac_rfl
theorem rem_rem (a b : Nat) (hb : b ≠ 0) : rem (rem a b) b = rem a b := rem_of_lt hb (rem_lt a b hb)
theorem rem_mul_self (c b : Nat) (hb : b ≠ 0) : rem (mul c b) b = 0 := IsDiv.rem_eq (q := c) hb ⟨by simp, Nat.two_pow_pos _⟩
theorem rem_mul_left (a c b : Nat) (hb : b ≠ 0) : rem (mul (rem a b) c) b = rem (mul a c) b := by
  conv => rhs; rw [div_eq a b hb, xor_mul, mul_assoc, mul_comm b c, ← mul_assoc, rem_xor _ _ _ hb, rem_mul_self _ _ hb, Nat.zero_xor]
theorem rem_mul_right (a c b : Nat) (hb : b ≠ 0) : rem (mul a (rem c b)) b = rem (mul a c) b := by
  rw [mul_comm, rem_mul_left _ _ _ hb, mul_comm]

/-! ### divisors -/
def Dvd (a b : Nat) : Prop := ∃ c, b = mul c a
theorem dvd_refl (a : Nat) : Dvd a a := ⟨1, (one_mul a).symm⟩
theorem dvd_zero (a : Nat) : Dvd a 0 := ⟨0, (mul_zero_left a).symm⟩
theorem one_dvd (a : Nat) : Dvd 1 a := ⟨a, (mul_one a).symm⟩
theorem dvd_trans {a b c : Nat} (h : Dvd a b) (k : Dvd b c) : Dvd a c := by
  obtain ⟨x, rfl⟩ := h
  obtain ⟨y, rfl⟩ := k
  exact ⟨mul y x, (mul_assoc y x a).symm⟩
theorem dvd_xor {a b c : Nat} (h : Dvd a b) (k : Dvd a c) : Dvd a (b ^^^ c) := by
  obtain ⟨x, rfl⟩ := h
  obtain ⟨y, rfl⟩ := k
  exact ⟨x ^^^ y, (xor_mul x y a).symm⟩
theorem dvd_mul_left (a b : Nat) : Dvd a (mul b a) := ⟨b, rfl⟩
theorem dvd_mul_right (a b : Nat) : Dvd a (mul a b) := ⟨b, mul_comm a b⟩
theorem dvd_mul {a b : Nat} (c : Nat) (h : Dvd a b) : Dvd a (mul c b) := dvd_trans h (dvd_mul_left b c)
theorem zero_dvd {a : Nat} : Dvd 0 a ↔ a = 0 := by
  constructor
  · rintro ⟨c, rfl⟩; exact mul_zero c
  · rintro rfl; exact dvd_zero 0
theorem dvd_iff_rem {a b : Nat} (ha : a ≠ 0) : Dvd a b ↔ rem b a = 0 := by
  constructor
  · rintro ⟨c, rfl⟩; exact rem_mul_self c a ha
  · intro h
    refine ⟨quo b a, ?_⟩
    have := div_eq b a ha
    rw [h, Nat.xor_zero] at this
    exact this
theorem dvd_xor_left {a b c : Nat} (h : Dvd a b) : Dvd a (b ^^^ c) ↔ Dvd a c := by
  constructor
  · intro k
    have := dvd_xor h k
    rwa [xor_xor_cancel] at this
  · exact dvd_xor h
theorem log2_le_of_dvd {a b : Nat} (hb : b ≠ 0) (h : Dvd a b) : a.log2 ≤ b.log2 := by
  obtain ⟨c, rfl⟩ := h
  have hc : c ≠ 0 := by rintro rfl; exact hb (mul_zero_left a)
  have ha : a ≠ 0 := by rintro rfl; exact hb (mul_zero c)
  rw [log2_mul hc ha]; omega
theorem mul_eq_one {a b : Nat} (h : mul a b = 1) : a = 1 ∧ b = 1 := by
  have ha : a ≠ 0 := by rintro rfl; rw [mul_zero_left] at h; omega
  have hb : b ≠ 0 := by rintro rfl; rw [mul_zero] at h; omega
  have hl := log2_mul ha hb
  rw [h] at hl
  have h1 : Nat.log2 1 = 0 := by decide
  rw [h1] at hl
  have a1 : a.log2 < 1 := by omega
  have b1 : b.log2 < 1 := by omega
  have := (log2_lt ha).1 a1
  have := (log2_lt hb).1 b1
  omega
theorem dvd_antisymm {a b : Nat} (h : Dvd a b) (k : Dvd b a) : a = b := by
  obtain ⟨x, rfl⟩ := h
  obtain ⟨y, hy⟩ := k
  by_cases ha : a = 0
  · subst ha; rw [mul_zero]
  · rw [← mul_assoc] at hy
    have h2 : mul a 1 = mul a (mul y x) := by rw [mul_one, mul_comm a]; exact hy
    have h3 := mul_left_cancel ha h2
    have h1 : x = 1 := (mul_eq_one h3.symm).2
    rw [h1, one_mul]
theorem dvd_one {a : Nat} (h : Dvd a 1) : a = 1 := dvd_antisymm h (one_dvd a)
end Gf
