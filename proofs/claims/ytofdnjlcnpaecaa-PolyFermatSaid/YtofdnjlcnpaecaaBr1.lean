import Derived.Test.YtofdnjlcnpaecaaP2
import Derived.Test.YtofdnjlcnpaecaaGf1
namespace Go.Proofs.Ytofdnjlcnpaecaa.P
open Go.RowKit Go.Proofs.YtofdnjlcnpaecaaW.PrintWords Go.Proofs.YtofdnjlcnpaecaaW.PrintLast Go.Proofs.YtofdnjlcnpaecaaW.PrintMore
set_option linter.unusedVariables false
set_option linter.unusedSimpArgs false
/-! ### machine words as natural numbers -/
theorem xor64 {x y : Nat} (hx : x < 18446744073709551616) (hy : y < 18446744073709551616) : Go.bits .xor .u64 (x : Int) (y : Int) = ((x ^^^ y : Nat) : Int) := u64_xor_nat x y hx hy
theorem and64 {x y : Nat} (hx : x < 18446744073709551616) (hy : y < 18446744073709551616) : Go.bits .and .u64 (x : Int) (y : Int) = ((x &&& y : Nat) : Int) := u64_and_nat x y hx hy
theorem or64 {x y : Nat} (hx : x < 18446744073709551616) (hy : y < 18446744073709551616) : Go.bits .or .u64 (x : Int) (y : Int) = ((x ||| y : Nat) : Int) := u64_or_nat x y hx hy
theorem and64_one {x : Nat} (hx : x < 18446744073709551616) : Go.bits .and .u64 (x : Int) 1 = ((x % 2 : Nat) : Int) := by
  have h := and64 (y := 1) hx (by omega)
  rw [Nat.and_one_is_mod] at h
  exact h
theorem shl64 (x n : Nat) : shl .u64 (x : Int) (n : Int) = ((x * 2 ^ n % 18446744073709551616 : Nat) : Int) := by
  unfold shl
  rw [IntKind.wrap_u64]
  have e : ((2 : Int) ^ min n 64) = ((2 ^ min n 64 : Nat) : Int) := by simp
  show (x : Int) * 2 ^ min n 64 % 18446744073709551616 = _
  rw [e]
  have : x * 2 ^ min n 64 % 18446744073709551616 = x * 2 ^ n % 18446744073709551616 := by
    rcases Nat.le_total n 64 with h | h
    · rw [Nat.min_eq_left h]
    · rw [Nat.min_eq_right h]
      have e1 : (2 : Nat) ^ n = 2 ^ (n - 64) * 2 ^ 64 := by rw [← Nat.pow_add]; congr 1; omega
      rw [e1, ← Nat.mul_assoc]
      have e2 : (2 : Nat) ^ 64 = 18446744073709551616 := by decide
      rw [e2, Nat.mul_mod_left, Nat.mul_mod_left]
  rw [← this]
  simp
theorem shr64 {x : Nat} (hx : x < 18446744073709551616) (n : Nat) : shr .u64 (x : Int) (n : Int) = ((x / 2 ^ n : Nat) : Int) := by
  unfold shr
  show (x : Int) / 2 ^ min n 64 = _
  have : x / 2 ^ min n 64 = x / 2 ^ n := by
    rcases Nat.le_total n 64 with h | h
    · rw [Nat.min_eq_left h]
    · rw [Nat.min_eq_right h, Nat.div_eq_of_lt (by have : (2 : Nat) ^ 64 = 18446744073709551616 := by decide
                                                   omega), Nat.div_eq_of_lt]
      have e1 := Nat.pow_le_pow_right (n := 2) (by omega) h
      have e2 : (2 : Nat) ^ 64 = 18446744073709551616 := by decide
      omega
  rw [← this]
  simp
theorem wrapu_nat {x : Nat} (hx : x < 18446744073709551616) : IntKind.u64.wrap (x : Int) = (x : Int) := by
  rw [IntKind.wrap_u64]; omega
theorem wrapu_int {x : Int} (h0 : 0 ≤ x) (hx : x < 18446744073709551616) : IntKind.u64.wrap x = x := by
  rw [IntKind.wrap_u64]; omega
theorem shl64_lt (x n : Nat) : x * 2 ^ n % 18446744073709551616 < 18446744073709551616 := Nat.mod_lt _ (by omega)
theorem shr64_lt {x : Nat} (hx : x < 18446744073709551616) (n : Nat) : x / 2 ^ n < 18446744073709551616 := Nat.lt_of_le_of_lt (Nat.div_le_self _ _) hx
theorem xor64_lt {x y : Nat} (hx : x < 18446744073709551616) (hy : y < 18446744073709551616) : x ^^^ y < 18446744073709551616 := Nat.xor_lt_two_pow (n := 64) hx hy
theorem or64_lt {x y : Nat} (hx : x < 18446744073709551616) (hy : y < 18446744073709551616) : x ||| y < 18446744073709551616 := Nat.or_lt_two_pow (n := 64) hx hy
theorem testBit_div (x n : Nat) : x / 2 ^ n % 2 = if x.testBit n then 1 else 0 := by
  rw [Nat.testBit_eq_decide_div_mod_eq]
  rcases Nat.mod_two_eq_zero_or_one (x / 2 ^ n) with h | h <;> simp [h]

/-! ### Mul -/
theorem mod_succ (a i : Nat) : a % 2 ^ (i + 1) = (if a.testBit i then 2 ^ i else 0) ^^^ a % 2 ^ i := by
  apply Nat.eq_of_testBit_eq
  intro j
  rw [Nat.testBit_xor, Nat.testBit_mod_two_pow, Nat.testBit_mod_two_pow]
  by_cases h : a.testBit i
  · rw [if_pos h, Nat.testBit_two_pow]
    by_cases hj : i = j
    · subst hj; simp [h]
    · by_cases h2 : j < i
      · simp [hj, h2]; omega
      · simp [hj, h2]; omega
  · rw [if_neg h, Nat.zero_testBit]
    by_cases hj : i = j
    · subst hj; simp [h]
    · by_cases h2 : j < i
      · simp [h2]; omega
      · simp [h2]; omega
theorem mul_part (a b i : Nat) : Gf.mul (a % 2 ^ (i + 1)) b = (if a.testBit i then b * 2 ^ i else 0) ^^^ Gf.mul (a % 2 ^ i) b := by
  rw [mod_succ, Gf.xor_mul]
  split
  · rw [Gf.pow_two_mul]
  · rw [Gf.mul_zero_left]
theorem xor_mod64 (x y : Nat) : (x ^^^ y) % 18446744073709551616 = x % 18446744073709551616 ^^^ y % 18446744073709551616 := Nat.xor_mod_two_pow (n := 64)
theorem xor_div64 (x y : Nat) : (x ^^^ y) / 18446744073709551616 = x / 18446744073709551616 ^^^ y / 18446744073709551616 := by
  have h := Nat.shiftRight_xor_distrib (a := x) (b := y) (i := 64)
  simpa [Nat.shiftRight_eq_div_pow] using h
theorem high_part {b i : Nat} (hi : i ≤ 64) : b * 2 ^ i / 18446744073709551616 = b / 2 ^ (64 - i) := by
  have e : (18446744073709551616 : Nat) = 2 ^ (64 - i) * 2 ^ i := by rw [← Nat.pow_add, Nat.sub_add_cancel hi]
  rw [e, Nat.mul_div_mul_right _ _ (Nat.two_pow_pos i)]
theorem mul_lt128 {a b : Nat} (ha : a < 18446744073709551616) (hb : b < 18446744073709551616) : Gf.mul a b / 18446744073709551616 < 9223372036854775808 := by
  have h := Gf.mul_lt (n := 64) (m := 63) ha hb
  have e : (2 : Nat) ^ (64 + 63) = 9223372036854775808 * 18446744073709551616 := by decide
  rw [e] at h
  exact Nat.div_lt_of_lt_mul (by rw [Nat.mul_comm]; exact h)
/-- the product's halves -/
def hi (a b : Nat) : Nat := Gf.mul a b / 18446744073709551616
def lo (a b : Nat) : Nat := Gf.mul a b % 18446744073709551616
theorem hi_lt {a b : Nat} (ha : a < 18446744073709551616) (hb : b < 18446744073709551616) : hi a b < 18446744073709551616 := by have := mul_lt128 ha hb; unfold hi; omega
theorem lo_lt (a b : Nat) : lo a b < 18446744073709551616 := Nat.mod_lt _ (by omega)
theorem mod_lt64 {a i : Nat} (ha : a < 18446744073709551616) : a % 2 ^ i < 18446744073709551616 := Nat.lt_of_le_of_lt (Nat.mod_le _ _) ha

theorem poly_Mul.ev_l0 {a b : Nat} (ha : a < 18446744073709551616) (hb : b < 18446744073709551616) : ∀ d i : Nat, i + d = 64 →
    Ev (fun k => poly_Mul.l0 k (a : Int) (b : Int) (hi (a % 2 ^ i) b : Nat) (lo (a % 2 ^ i) b : Nat) (i : Int)) ((hi a b : Nat), (lo a b : Nat)) := by
  intro d
  induction d with
  | zero =>
    intro i hi'
    have : i = 64 := by omega
    subst this
    refine Ev.step (f := fun _ => some _) (fun k => ?_) (Ev.now _)
    simp only [poly_Mul.l0]
    rw [if_neg (by omega)]
    have : a % 2 ^ 64 = a := Nat.mod_eq_of_lt ha
    rw [this]
  | succ d ih =>
    intro i hi'
    have hw : wrap64 ((i : Int) + 1) = ((i + 1 : Nat) : Int) := by unfold wrap64; omega
    have hw2 : wrap64 (64 - (i : Int)) = ((64 - i : Nat) : Int) := by unfold wrap64; omega
    have hm := mul_part a b i
    have hl := ih (i + 1) (by omega)
    have ht := testBit_div a i
    by_cases hb1 : a.testBit i
    · rw [if_pos hb1] at hm ht
      have e1 : hi (a % 2 ^ (i + 1)) b = hi (a % 2 ^ i) b ^^^ b / 2 ^ (64 - i) := by
        unfold hi; rw [hm, xor_div64, high_part (by omega), Nat.xor_comm]
      have e2 : lo (a % 2 ^ (i + 1)) b = lo (a % 2 ^ i) b ^^^ b * 2 ^ i % 18446744073709551616 := by
        unfold lo; rw [hm, xor_mod64, Nat.xor_comm]
      refine Ev.step (fun k => ?_) hl
      simp only [poly_Mul.l0]
      rw [if_pos (by omega), if_pos (by omega), shr64 ha, and64_one (shr64_lt ha i), ht, if_neg (by omega), hw2, if_pos (by omega), shr64 hb, shl64, xor64 (hi_lt (mod_lt64 ha) hb) (shr64_lt hb _), xor64 (lo_lt _ _) (shl64_lt _ _), hw, e1, e2]
    · rw [if_neg hb1] at hm ht
      rw [Nat.zero_xor] at hm
      have e1 : hi (a % 2 ^ (i + 1)) b = hi (a % 2 ^ i) b := by unfold hi; rw [hm]
      have e2 : lo (a % 2 ^ (i + 1)) b = lo (a % 2 ^ i) b := by unfold lo; rw [hm]
      refine Ev.step (fun k => ?_) hl
      simp only [poly_Mul.l0]
      rw [if_pos (by omega), if_pos (by omega), shr64 ha, and64_one (shr64_lt ha i), ht, if_pos (by omega), hw, e1, e2]
theorem poly_Mul.ev {a b : Nat} (ha : a < 18446744073709551616) (hb : b < 18446744073709551616) : Ev (fun k => poly_Mul.f k (a : Int) (b : Int)) ((hi a b : Nat), (lo a b : Nat)) := by
  have h := poly_Mul.ev_l0 ha hb 64 0 (by omega)
  have e1 : hi (a % 2 ^ 0) b = 0 := by unfold hi; simp [Nat.mod_one, Gf.mul_zero_left]
  have e2 : lo (a % 2 ^ 0) b = 0 := by unfold lo; simp [Nat.mod_one, Gf.mul_zero_left]
  rw [e1, e2] at h
  exact h
theorem outpostref02_Bit.eq {a i : Nat} (ha : a < 18446744073709551616) (hi : i < 18446744073709551616) : outpostref02_Bit.f (a : Int) (i : Int) = some ((if a.testBit i then 1 else 0 : Nat) : Int) := by
  unfold outpostref02_Bit.f
  rw [wrapu_nat hi, if_pos (by omega), shr64 ha, and64_one (shr64_lt ha i), testBit_div]
theorem outpostref02_Mul.ev_l0 {a b : Nat} (ha : a < 18446744073709551616) (hb : b < 18446744073709551616) : ∀ d i : Nat, i + d = 64 →
    Ev (fun k => outpostref02_Mul.l0 k (a : Int) (b : Int) (hi (a % 2 ^ i) b : Nat) (lo (a % 2 ^ i) b : Nat) (i : Int)) ((hi a b : Nat), (lo a b : Nat)) := by
  intro d
  induction d with
  | zero =>
    intro i hi'
    have : i = 64 := by omega
    subst this
    refine Ev.step (f := fun _ => some _) (fun k => ?_) (Ev.now _)
    simp only [outpostref02_Mul.l0]
    rw [if_neg (by omega)]
    have : a % 2 ^ 64 = a := Nat.mod_eq_of_lt ha
    rw [this]
  | succ d ih =>
    intro i hi'
    have hw : wrap64 ((i : Int) + 1) = ((i + 1 : Nat) : Int) := by unfold wrap64; omega
    have hw2 : wrap64 (64 - (i : Int)) = ((64 - i : Nat) : Int) := by unfold wrap64; omega
    have hm := mul_part a b i
    have hl := ih (i + 1) (by omega)
    by_cases hb1 : a.testBit i
    · rw [if_pos hb1] at hm
      have e1 : hi (a % 2 ^ (i + 1)) b = hi (a % 2 ^ i) b ^^^ b / 2 ^ (64 - i) := by
        unfold hi; rw [hm, xor_div64, high_part (by omega), Nat.xor_comm]
      have e2 : lo (a % 2 ^ (i + 1)) b = lo (a % 2 ^ i) b ^^^ b * 2 ^ i % 18446744073709551616 := by
        unfold lo; rw [hm, xor_mod64, Nat.xor_comm]
      refine Ev.step (fun k => ?_) hl
      simp only [outpostref02_Mul.l0]
      rw [if_pos (by omega), outpostref02_Bit.eq ha (by omega), if_pos hb1]
      simp only [Option.bind_some]
      rw [if_pos (by omega), wrapu_nat (by omega), if_pos (by omega)]
      by_cases h0 : (i : Int) > 0
      · rw [if_pos h0, hw2, wrapu_nat (by omega), if_pos (by omega), shr64 hb, shl64, xor64 (hi_lt (mod_lt64 ha) hb) (shr64_lt hb _), xor64 (lo_lt _ _) (shl64_lt _ _), hw, e1, e2]
      · have : i = 0 := by omega
        subst this
        rw [if_neg h0, shl64, xor64 (lo_lt _ _) (shl64_lt _ _), hw, e1, e2]
        have : b / 2 ^ (64 - 0) = 0 := Nat.div_eq_of_lt hb
        rw [this, Nat.xor_zero]
    · rw [if_neg hb1] at hm
      rw [Nat.zero_xor] at hm
      have e1 : hi (a % 2 ^ (i + 1)) b = hi (a % 2 ^ i) b := by unfold hi; rw [hm]
      have e2 : lo (a % 2 ^ (i + 1)) b = lo (a % 2 ^ i) b := by unfold lo; rw [hm]
      refine Ev.step (fun k => ?_) hl
      simp only [outpostref02_Mul.l0]
      rw [if_pos (by omega), outpostref02_Bit.eq ha (by omega), if_neg hb1]
      simp only [Option.bind_some]
      rw [if_neg (by omega), hw, e1, e2]
theorem outpostref02_Mul.ev {a b : Nat} (ha : a < 18446744073709551616) (hb : b < 18446744073709551616) : Ev (fun k => outpostref02_Mul.f k (a : Int) (b : Int)) ((hi a b : Nat), (lo a b : Nat)) := by
  have h := outpostref02_Mul.ev_l0 ha hb 64 0 (by omega)
  have e1 : hi (a % 2 ^ 0) b = 0 := by unfold hi; simp [Nat.mod_one, Gf.mul_zero_left]
  have e2 : lo (a % 2 ^ 0) b = 0 := by unfold lo; simp [Nat.mod_one, Gf.mul_zero_left]
  rw [e1, e2] at h
  exact h

/-! ### Degree -/
/-- the degree, as the program tells it -/
def dg (a : Nat) : Int := if a = 0 then -1 else (a.log2 : Int)
def len (a : Nat) : Nat := if a = 0 then 0 else a.log2 + 1
theorem len_div {a : Nat} (n : Nat) (h : 2 ^ n ≤ a) : len a = len (a / 2 ^ n) + n := by
  have h0 := Nat.two_pow_pos n
  have h1 : a / 2 ^ n ≠ 0 := by
    have := Nat.div_pos h h0
    omega
  have h2 : a ≠ 0 := by omega
  unfold len
  rw [if_neg h2, if_neg h1]
  have l1 := Nat.log2_self_le h1
  have l2 := Nat.lt_log2_self (n := a / 2 ^ n)
  have : a.log2 = (a / 2 ^ n).log2 + n := by
    refine (Nat.log2_eq_iff h2).2 ⟨?_, ?_⟩
    · rw [Nat.pow_add]
      exact Nat.le_trans (Nat.mul_le_mul_right _ l1) (Nat.div_mul_le_self _ _)
    · have e : (a / 2 ^ n).log2 + n + 1 = ((a / 2 ^ n).log2 + 1) + n := by omega
      rw [e, Nat.pow_add]
      exact (Nat.div_lt_iff_lt_mul h0).1 l2
  omega
end Go.Proofs.Ytofdnjlcnpaecaa.P
