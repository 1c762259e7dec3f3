/- What the small functions of the program and of the reference compute. No condition. -/
import Derived.Test.YtofdnjlcnpaecaaP2
import Derived.Test.YtofdnjlcnpaecaaGf
import Derived.Test.YtofdnjlcnpaecaaP3
import Derived.Test.YtofdnjlcnpaecaaP10
import Derived.Test.YtofdnjlcnpaecaaP7
import Derived.Test.YtofdnjlcnpaecaaP11
import Derived.Test.YtofdnjlcnpaecaaP12
set_option linter.unusedVariables false
namespace Go.Proofs.Ytofdnjlcnpaecaa.P
open Go.RowKit Go.Proofs.YtofdnjlcnpaecaaW.PrintWords Go.Proofs.YtofdnjlcnpaecaaW.PrintLast Go.Proofs.YtofdnjlcnpaecaaW.PrintMore
set_option linter.unusedSimpArgs false
/-! ### machine words as natural numbers -/
theorem xor64 {x y : Nat} (hx : x < 18446744073709551616) (hy : y < 18446744073709551616) : Go.bits .xor .u64 (x : Int) (y : Int) = ((x ^^^ y : Nat) : Int) := u64_xor_nat x y hx hy
theorem and64 {x y : Nat} (hx : x < 18446744073709551616) (hy : y < 18446744073709551616) : Go.bits .and .u64 (x : Int) (y : Int) = ((x &&& y : Nat) : Int) := u64_and_nat x y hx hy
theorem or64 {x y : Nat} (hx : x < 18446744073709551616) (hy : y < 18446744073709551616) : Go.bits .or .u64 (x : Int) (y : Int) = ((x ||| y : Nat) : Int) := u64_or_nat x y hx hy
theorem and64_one {x : Nat} (hx : x < 18446744073709551616) : Go.bits .and .u64 (x : Int) 1 = ((x % 2 : Nat) : Int) := by
  have h := and64 (y := 1) hx (by omega)
  rw [Nat.and_one_is_mod] at h
  exact h
theorem shl64 (x n : Nat) : shl .u64 (x : Int) (n : Int) = ((x * 2 ^ n % 18446744073709551616 : Nat) : Int) := by
  unfold shl
  rw [IntKind.wrap_u64]
  have e : ((2 : Int) ^ min n 64) = ((2 ^ min n 64 : Nat) : Int) := by simp
  show (x : Int) * 2 ^ min n 64 % 18446744073709551616 = _
  rw [e]
  have : x * 2 ^ min n 64 % 18446744073709551616 = x * 2 ^ n % 18446744073709551616 := by
    rcases Nat.le_total n 64 with h | h
    · rw [Nat.min_eq_left h]
    · rw [Nat.min_eq_right h]
      have e1 : (2 : Nat) ^ n = 2 ^ (n - 64) * 2 ^ 64 := by rw [← Nat.pow_add]; congr 1; omega
      rw [e1, ← Nat.mul_assoc]
      have e2 : (2 : Nat) ^ 64 = 18446744073709551616 := by decide
      rw [e2, Nat.mul_mod_left, Nat.mul_mod_left]
  rw [← this]
  simp
theorem shr64 {x : Nat} (hx : x < 18446744073709551616) (n : Nat) : shr .u64 (x : Int) (n : Int) = ((x / 2 ^ n : Nat) : Int) := by
  unfold shr
  show (x : Int) / 2 ^ min n 64 = _
  have : x / 2 ^ min n 64 = x / 2 ^ n := by
    rcases Nat.le_total n 64 with h | h
    · rw [Nat.min_eq_left h]
    · rw [Nat.min_eq_right h, Nat.div_eq_of_lt (by have : (2 : Nat) ^ 64 = 18446744073709551616 := by decide
                                                   omega), Nat.div_eq_of_lt]
      have e1 := Nat.pow_le_pow_right (n := 2) (by omega) h
      have e2 : (2 : Nat) ^ 64 = 18446744073709551616 := by decide
      omega
  rw [← this]
  simp
theorem wrapu_nat {x : Nat} (hx : x < 18446744073709551616) : IntKind.u64.wrap (x : Int) = (x : Int) := by
  rw [IntKind.wrap_u64]; omega
theorem wrapu_int {x : Int} (h0 : 0 ≤ x) (hx : x < 18446744073709551616) : IntKind.u64.wrap x = x := by
  rw [IntKind.wrap_u64]; omega
theorem shl64_lt (x n : Nat) : x * 2 ^ n % 18446744073709551616 < 18446744073709551616 := Nat.mod_lt _ (by omega)
theorem shr64_lt {x : Nat} (hx : x < 18446744073709551616) (n : Nat) : x / 2 ^ n < 18446744073709551616 := Nat.lt_of_le_of_lt (Nat.div_le_self _ _) hx
theorem xor64_lt {x y : Nat} (hx : x < 18446744073709551616) (hy : y < 18446744073709551616) : x ^^^ y < 18446744073709551616 := Nat.xor_lt_two_pow (n := 64) hx hy
theorem or64_lt {x y : Nat} (hx : x < 18446744073709551616) (hy : y < 18446744073709551616) : x ||| y < 18446744073709551616 := Nat.or_lt_two_pow (n := 64) hx hy
theorem testBit_div (x n : Nat) : x / 2 ^ n % 2 = if x.testBit n then 1 else 0 := by
  rw [Nat.testBit_eq_decide_div_mod_eq]
  rcases Nat.mod_two_eq_zero_or_one (x / 2 ^ n) with h | h <;> simp [h]

/-! ### Mul -/
theorem mod_succ (a i : Nat) : a % 2 ^ (i + 1) = (if a.testBit i then 2 ^ i else 0) ^^^ a % 2 ^ i := by
  apply Nat.eq_of_testBit_eq
  intro j
  rw [Nat.testBit_xor, Nat.testBit_mod_two_pow, Nat.testBit_mod_two_pow]
  by_cases h : a.testBit i
  · rw [if_pos h, Nat.testBit_two_pow]
    by_cases hj : i = j
    · subst hj; simp [h]
    · by_cases h2 : j < i
      · simp [hj, h2]; omega
      · simp [hj, h2]; omega
  · rw [if_neg h, Nat.zero_testBit]
    by_cases hj : i = j
    · subst hj; simp [h]
    · by_cases h2 : j < i
      · simp [h2]; omega
      · simp [h2]; omega
theorem mul_part (a b i : Nat) : Gf.mul (a % 2 ^ (i + 1)) b = (if a.testBit i then b * 2 ^ i else 0) ^^^ Gf.mul (a % 2 ^ i) b := by
  rw [mod_succ, Gf.xor_mul]
  split
  · rw [Gf.pow_two_mul]
  · rw [Gf.mul_zero_left]
theorem xor_mod64 (x y : Nat) : (x ^^^ y) % 18446744073709551616 = x % 18446744073709551616 ^^^ y % 18446744073709551616 := Nat.xor_mod_two_pow (n := 64)
theorem xor_div64 (x y : Nat) : (x ^^^ y) / 18446744073709551616 = x / 18446744073709551616 ^^^ y / 18446744073709551616 := by
  have h := Nat.shiftRight_xor_distrib (a := x) (b := y) (i := 64)
  simpa [Nat.shiftRight_eq_div_pow] using h
theorem high_part {b i : Nat} (hi : i ≤ 64) : b * 2 ^ i / 18446744073709551616 = b / 2 ^ (64 - i) := by
  have e : (18446744073709551616 : Nat) = 2 ^ (64 - i) * 2 ^ i := by rw [← Nat.pow_add, Nat.sub_add_cancel hi]
  rw [e, Nat.mul_div_mul_right _ _ (Nat.two_pow_pos i)]
theorem mul_lt128 {a b : Nat} (ha : a < 18446744073709551616) (hb : b < 18446744073709551616) : Gf.mul a b / 18446744073709551616 < 9223372036854775808 := by
  have h := Gf.mul_lt (n := 64) (m := 63) ha hb
  have e : (2 : Nat) ^ (64 + 63) = 9223372036854775808 * 18446744073709551616 := by decide
  rw [e] at h
  exact Nat.div_lt_of_lt_mul (by rw [Nat.mul_comm]; exact h)
/-- the product's halves -/
def hi (a b : Nat) : Nat := Gf.mul a b / 18446744073709551616
def lo (a b : Nat) : Nat := Gf.mul a b % 18446744073709551616
theorem hi_lt {a b : Nat} (ha : a < 18446744073709551616) (hb : b < 18446744073709551616) : hi a b < 18446744073709551616 := by have := mul_lt128 ha hb; unfold hi; omega
theorem lo_lt (a b : Nat) : lo a b < 18446744073709551616 := Nat.mod_lt _ (by omega)
theorem mod_lt64 {a i : Nat} (ha : a < 18446744073709551616) : a % 2 ^ i < 18446744073709551616 := Nat.lt_of_le_of_lt (Nat.mod_le _ _) ha

theorem poly_Mul.ev_l0 {a b : Nat} (ha : a < 18446744073709551616) (hb : b < 18446744073709551616) : ∀ d i : Nat, i + d = 64 →
    Ev (fun k => poly_Mul.l0 k (a : Int) (b : Int) (hi (a % 2 ^ i) b : Nat) (lo (a % 2 ^ i) b : Nat) (i : Int)) ((hi a b : Nat), (lo a b : Nat)) := by
  intro d
  induction d with
  | zero =>
    intro i hi'
    have : i = 64 := by omega
    subst this
    refine Ev.step (f := fun _ => some _) (fun k => ?_) (Ev.now _)
    simp only [poly_Mul.l0]
    rw [if_neg (by omega)]
    have : a % 2 ^ 64 = a := Nat.mod_eq_of_lt ha
    rw [this]
  | succ d ih =>
    intro i hi'
    have hw : wrap64 ((i : Int) + 1) = ((i + 1 : Nat) : Int) := by unfold wrap64; omega
    have hw2 : wrap64 (64 - (i : Int)) = ((64 - i : Nat) : Int) := by unfold wrap64; omega
    have hm := mul_part a b i
    have hl := ih (i + 1) (by omega)
    have ht := testBit_div a i
    by_cases hb1 : a.testBit i
    · rw [if_pos hb1] at hm ht
      have e1 : hi (a % 2 ^ (i + 1)) b = hi (a % 2 ^ i) b ^^^ b / 2 ^ (64 - i) := by
        unfold hi; rw [hm, xor_div64, high_part (by omega), Nat.xor_comm]
      have e2 : lo (a % 2 ^ (i + 1)) b = lo (a % 2 ^ i) b ^^^ b * 2 ^ i % 18446744073709551616 := by
        unfold lo; rw [hm, xor_mod64, Nat.xor_comm]
      refine Ev.step (fun k => ?_) hl
      simp only [poly_Mul.l0]
      rw [if_pos (by omega), if_pos (by omega), shr64 ha, and64_one (shr64_lt ha i), ht, if_neg (by omega), hw2, if_pos (by omega), shr64 hb, shl64, xor64 (hi_lt (mod_lt64 ha) hb) (shr64_lt hb _), xor64 (lo_lt _ _) (shl64_lt _ _), hw, e1, e2]
    · rw [if_neg hb1] at hm ht
      rw [Nat.zero_xor] at hm
      have e1 : hi (a % 2 ^ (i + 1)) b = hi (a % 2 ^ i) b := by unfold hi; rw [hm]
      have e2 : lo (a % 2 ^ (i + 1)) b = lo (a % 2 ^ i) b := by unfold lo; rw [hm]
      refine Ev.step (fun k => ?_) hl
      simp only [poly_Mul.l0]
      rw [if_pos (by omega), if_pos (by omega), shr64 ha, and64_one (shr64_lt ha i), ht, if_pos (by omega), hw, e1, e2]
theorem poly_Mul.ev {a b : Nat} (ha : a < 18446744073709551616) (hb : b < 18446744073709551616) : Ev (fun k => poly_Mul.f k (a : Int) (b : Int)) ((hi a b : Nat), (lo a b : Nat)) := by
  have h := poly_Mul.ev_l0 ha hb 64 0 (by omega)
  have e1 : hi (a % 2 ^ 0) b = 0 := by unfold hi; simp [Nat.mod_one, Gf.mul_zero_left]
  have e2 : lo (a % 2 ^ 0) b = 0 := by unfold lo; simp [Nat.mod_one, Gf.mul_zero_left]
  rw [e1, e2] at h
  exact h
theorem outpostref02_Bit.eq {a i : Nat} (ha : a < 18446744073709551616) (hi : i < 18446744073709551616) : outpostref02_Bit.f (a : Int) (i : Int) = some ((if a.testBit i then 1 else 0 : Nat) : Int) := by
  unfold outpostref02_Bit.f
  rw [wrapu_nat hi, if_pos (by omega), shr64 ha, and64_one (shr64_lt ha i), testBit_div]
theorem outpostref02_Mul.ev_l0 {a b : Nat} (ha : a < 18446744073709551616) (hb : b < 18446744073709551616) : ∀ d i : Nat, i + d = 64 →
    Ev (fun k => outpostref02_Mul.l0 k (a : Int) (b : Int) (hi (a % 2 ^ i) b : Nat) (lo (a % 2 ^ i) b : Nat) (i : Int)) ((hi a b : Nat), (lo a b : Nat)) := by
  intro d
  induction d with
  | zero =>
    intro i hi'
    have : i = 64 := by omega
    subst this
    refine Ev.step (f := fun _ => some _) (fun k => ?_) (Ev.now _)
    simp only [outpostref02_Mul.l0]
    rw [if_neg (by omega)]
    have : a % 2 ^ 64 = a := Nat.mod_eq_of_lt ha
    rw [this]
  | succ d ih =>
    intro i hi'
    have hw : wrap64 ((i : Int) + 1) = ((i + 1 : Nat) : Int) := by unfold wrap64; omega
    have hw2 : wrap64 (64 - (i : Int)) = ((64 - i : Nat) : Int) := by unfold wrap64; omega
    have hm := mul_part a b i
    have hl := ih (i + 1) (by omega)
    by_cases hb1 : a.testBit i
    · rw [if_pos hb1] at hm
      have e1 : hi (a % 2 ^ (i + 1)) b = hi (a % 2 ^ i) b ^^^ b / 2 ^ (64 - i) := by
        unfold hi; rw [hm, xor_div64, high_part (by omega), Nat.xor_comm]
      have e2 : lo (a % 2 ^ (i + 1)) b = lo (a % 2 ^ i) b ^^^ b * 2 ^ i % 18446744073709551616 := by
        unfold lo; rw [hm, xor_mod64, Nat.xor_comm]
      refine Ev.step (fun k => ?_) hl
      simp only [outpostref02_Mul.l0]
      rw [if_pos (by omega), outpostref02_Bit.eq ha (by omega), if_pos hb1]
      simp only [Option.bind_some]
      rw [if_pos (by omega), wrapu_nat (by omega), if_pos (by omega)]
      by_cases h0 : (i : Int) > 0
      · rw [if_pos h0, hw2, wrapu_nat (by omega), if_pos (by omega), shr64 hb, shl64, xor64 (hi_lt (mod_lt64 ha) hb) (shr64_lt hb _), xor64 (lo_lt _ _) (shl64_lt _ _), hw, e1, e2]
      · have : i = 0 := by omega
        subst this
        rw [if_neg h0, shl64, xor64 (lo_lt _ _) (shl64_lt _ _), hw, e1, e2]
        have : b / 2 ^ (64 - 0) = 0 := Nat.div_eq_of_lt hb
        rw [this, Nat.xor_zero]
    · rw [if_neg hb1] at hm
      rw [Nat.zero_xor] at hm
      have e1 : hi (a % 2 ^ (i + 1)) b = hi (a % 2 ^ i) b := by unfold hi; rw [hm]
      have e2 : lo (a % 2 ^ (i + 1)) b = lo (a % 2 ^ i) b := by unfold lo; rw [hm]
      refine Ev.step (fun k => ?_) hl
      simp only [outpostref02_Mul.l0]
      rw [if_pos (by omega), outpostref02_Bit.eq ha (by omega), if_neg hb1]
      simp only [Option.bind_some]
      rw [if_neg (by omega), hw, e1, e2]
theorem outpostref02_Mul.ev {a b : Nat} (ha : a < 18446744073709551616) (hb : b < 18446744073709551616) : Ev (fun k => outpostref02_Mul.f k (a : Int) (b : Int)) ((hi a b : Nat), (lo a b : Nat)) := by
  have h := outpostref02_Mul.ev_l0 ha hb 64 0 (by omega)
  have e1 : hi (a % 2 ^ 0) b = 0 := by unfold hi; simp [Nat.mod_one, Gf.mul_zero_left]
  have e2 : lo (a % 2 ^ 0) b = 0 := by unfold lo; simp [Nat.mod_one, Gf.mul_zero_left]
  rw [e1, e2] at h
  exact h

/-! ### Degree -/
/-- the degree, as the program tells it -/
def dg (a : Nat) : Int := if a = 0 then -1 else (a.log2 : Int)
def len (a : Nat) : Nat := if a = 0 then 0 else a.log2 + 1
theorem len_div {a : Nat} (n : Nat) (h : 2 ^ n ≤ a) : len a = len (a / 2 ^ n) + n := by
  have h0 := Nat.two_pow_pos n
  have h1 : a / 2 ^ n ≠ 0 := by
    have := Nat.div_pos h h0
    omega
  have h2 : a ≠ 0 := by omega
  unfold len
  rw [if_neg h2, if_neg h1]
  have l1 := Nat.log2_self_le h1
  have l2 := Nat.lt_log2_self (n := a / 2 ^ n)
  have : a.log2 = (a / 2 ^ n).log2 + n := by
    refine (Nat.log2_eq_iff h2).2 ⟨?_, ?_⟩
    · rw [Nat.pow_add]
      exact Nat.le_trans (Nat.mul_le_mul_right _ l1) (Nat.div_mul_le_self _ _)
    · have e : (a / 2 ^ n).log2 + n + 1 = ((a / 2 ^ n).log2 + 1) + n := by omega
      rw [e, Nat.pow_add]
      exact (Nat.div_lt_iff_lt_mul h0).1 l2
  omega
end Go.Proofs.Ytofdnjlcnpaecaa.P
namespace Go.Proofs.Ytofdnjlcnpaecaa.P
open Go.RowKit Go.Proofs.YtofdnjlcnpaecaaW.PrintWords Go.Proofs.YtofdnjlcnpaecaaW.PrintLast Go.Proofs.YtofdnjlcnpaecaaW.PrintMore
set_option linter.unusedSimpArgs false
/-! ### Degree -/
theorem nat_div (a n : Nat) : (a : Int) / (n : Int) = ((a / n : Nat) : Int) := rfl
theorem len8 : ∀ i : Nat, i < 256 → (if i = 0 then 0 else i.log2 + 1) = (if i ≥ 128 then 8 else if i ≥ 64 then 7 else if i ≥ 32 then 6 else if i ≥ 16 then 5 else if i ≥ 8 then 4 else if i ≥ 4 then 3 else if i ≥ 2 then 2 else i) := by decide +kernel
theorem len_table (i : Nat) (h : i < 256) : ∀ T : ByteArray, (∀ i : Nat, i < 256 → bt T (i : Int) = ((if i ≥ 128 then 8 else if i ≥ 64 then 7 else if i ≥ 32 then 6 else if i ≥ 16 then 5 else if i ≥ 8 then 4 else if i ≥ 4 then 3 else if i ≥ 2 then 2 else i : Nat) : Int)) → wrap64 (bt T (i : Int)) = (len i : Nat) := by
  intro T hT
  rw [hT i h, ← len8 i h]
  have : (if i = 0 then 0 else i.log2 + 1) ≤ 8 := by
    rw [len8 i h]; (repeat' split) <;> omega
  unfold len wrap64
  omega
theorem len_le {a n : Nat} (h : a < 2 ^ n) : len a ≤ n := by
  unfold len
  split
  · omega
  · rename_i h0
    have := (Nat.log2_lt h0).2 h
    omega
set_option maxRecDepth 100000 in
set_option maxHeartbeats 4000000 in
theorem bits_Len64.ev_j0 {x n : Nat} (hx : x < 4294967296) (hn : n ≤ 32) (k : Nat) : bits_Len64.j0 (k + 1) (x : Int) (n : Int) = some ((len x + n : Nat) : Int) := by
  have w1 : ∀ y : Nat, y ≤ 100 → wrap64 (y : Int) = (y : Int) := by intro y hy; unfold wrap64; omega
  have a1 : wrap64 ((n : Int) + 16) = ((n + 16 : Nat) : Int) := by unfold wrap64; omega
  have a2 : wrap64 (((n + 16 : Nat) : Int) + 8) = ((n + 24 : Nat) : Int) := by unfold wrap64; omega
  have a3 : wrap64 ((n : Int) + 8) = ((n + 8 : Nat) : Int) := by unfold wrap64; omega
  have fin : ∀ i m : Nat, i < 256 → m ≤ 100 → wrap64 ((m : Int) + ((len i : Nat) : Int)) = ((len i + m : Nat) : Int) := by
    intro i m hi hm
    have := len_le (n := 8) hi
    unfold wrap64; omega
  simp only [bits_Len64.j0]
  by_cases h1 : (x : Int) ≥ 65536
  · rw [if_pos h1]
    have d1 : (x : Int) / 65536 = ((x / 65536 : Nat) : Int) := rfl
    have l1 : len x = len (x / 65536) + 16 := len_div 16 (by simp; omega)
    rw [d1]
    by_cases h2 : ((x / 65536 : Nat) : Int) ≥ 256
    · rw [if_pos h2]
      have d2 : ((x / 65536 : Nat) : Int) / 256 % 256 = ((x / 65536 / 256 : Nat) : Int) := by omega
      have l2 : len (x / 65536) = len (x / 65536 / 256) + 8 := len_div 8 (by simp; omega)
      rw [d2, if_pos (by omega), if_pos (by omega), a1, a2, len_table _ (by omega) _ (by decide +kernel), fin _ _ (by omega) (by omega), l1, l2]
      congr 1; omega
    · rw [if_neg h2]
      have d2 : ((x / 65536 : Nat) : Int) % 256 = ((x / 65536 : Nat) : Int) := by omega
      rw [d2, if_pos (by omega), if_pos (by omega), a1, len_table _ (by omega) _ (by decide +kernel), fin _ _ (by omega) (by omega), l1]
      congr 1; omega
  · rw [if_neg h1]
    by_cases h2 : (x : Int) ≥ 256
    · rw [if_pos h2]
      have d2 : (x : Int) / 256 % 256 = ((x / 256 : Nat) : Int) := by omega
      have l2 : len x = len (x / 256) + 8 := len_div 8 (by simp; omega)
      rw [d2, if_pos (by omega), if_pos (by omega), a3, len_table _ (by omega) _ (by decide +kernel), fin _ _ (by omega) (by omega), l2]
      congr 1; omega
    · rw [if_neg h2]
      have d2 : (x : Int) % 256 = (x : Int) := by omega
      rw [d2, if_pos (by omega), if_pos (by omega), len_table _ (by omega) _ (by decide +kernel), fin _ _ (by omega) (by omega)]
theorem bits_Len64.ev {x : Nat} (hx : x < 18446744073709551616) : Ev (fun k => bits_Len64.f k (x : Int)) ((len x : Nat) : Int) := by
  refine ⟨1, fun k hk => ?_⟩
  obtain ⟨k, rfl⟩ : ∃ m, k = m + 1 := ⟨k - 1, by omega⟩
  show bits_Len64.f (k + 1) (x : Int) = _
  unfold bits_Len64.f
  by_cases h : (x : Int) ≥ 4294967296
  · rw [if_pos h]
    have d1 : (x : Int) / 4294967296 = ((x / 4294967296 : Nat) : Int) := rfl
    have l1 : len x = len (x / 4294967296) + 32 := len_div 32 (by simp; omega)
    rw [d1]
    have := bits_Len64.ev_j0 (x := x / 4294967296) (n := 32) (by omega) (by omega) k
    rw [l1]; exact this
  · rw [if_neg h]
    have := bits_Len64.ev_j0 (x := x) (n := 0) (by omega) (by omega) k
    exact this
theorem dg_len (a : Nat) : dg a = (len a : Int) - 1 := by unfold dg len; split <;> simp
theorem dg_le {a n : Nat} (h : a < 2 ^ n) : dg a < n := by rw [dg_len]; have := len_le h; omega
theorem dg_ge (a : Nat) : -1 ≤ dg a := by rw [dg_len]; omega
theorem dg_lt64 {a : Nat} (h : a < 18446744073709551616) : dg a ≤ 63 := by have := dg_le (n := 64) h; omega
theorem dg_pos {a : Nat} (h : a ≠ 0) : dg a = (a.log2 : Int) := if_neg h
theorem poly_Degree.ev {a : Nat} (ha : a < 18446744073709551616) : Ev (fun k => poly_Degree.f k (a : Int)) (dg a) := by
  unfold poly_Degree.f
  refine Ev.bind (bits_Len64.ev ha) ?_
  have : wrap64 ((len a : Nat) - 1 : Int) = dg a := by
    rw [dg_len]
    have := len_le (n := 64) ha
    unfold wrap64; omega
  rw [this]
  exact Ev.now _
theorem outpostref02_Degree.ev {a : Nat} (ha : a < 18446744073709551616) : Ev (fun k => outpostref02_Degree.f k (a : Int)) (dg a) := by
  have gen : ∀ (d : Nat) (a : Nat) (n : Int), len a = d → -1 ≤ n → n + d ≤ 1000 → Ev (fun k => outpostref02_Degree.l0 k (a : Int) n) (n + d) := by
    intro d
    induction d with
    | zero =>
      intro a n hl h0 h1
      have : a = 0 := by unfold len at hl; split at hl <;> omega
      subst this
      refine Ev.step (f := fun _ => some n) (fun k => by simp only [outpostref02_Degree.l0]; rw [if_pos (by omega)]) ?_
      simpa using Ev.now n
    | succ d ih =>
      intro a n hl h0 h1
      have hz : a ≠ 0 := by
        intro e
        rw [e] at hl
        unfold len at hl
        simp at hl
      have hlen : len a = len (a / 2) + 1 := by
        by_cases h1 : a = 1
        · subst h1; decide +kernel
        · have := len_div (a := a) 1 (by omega)
          simpa using this
      have hw : wrap64 (n + 1) = n + 1 := by unfold wrap64; omega
      have dd : (a : Int) / 2 = ((a / 2 : Nat) : Int) := rfl
      have h := ih (a / 2) (n + 1) (by omega) (by omega) (by omega)
      have e : n + 1 + (d : Int) = n + ((d + 1 : Nat) : Int) := by omega
      rw [e] at h
      refine Ev.step (fun k => ?_) h
      simp only [outpostref02_Degree.l0]
      rw [if_neg (show ¬ ((a : Int) = 0) by omega), hw, dd]
  have h := gen (len a) a (-1) rfl (by omega) (by have := len_le (n := 64) ha; omega)
  have e : -1 + (len a : Int) = dg a := by rw [dg_len]; omega
  rw [e] at h
  exact h
end Go.Proofs.Ytofdnjlcnpaecaa.P
namespace Go.Proofs.Ytofdnjlcnpaecaa.P
open Go.RowKit Go.Proofs.YtofdnjlcnpaecaaW.PrintWords Go.Proofs.YtofdnjlcnpaecaaW.PrintLast Go.Proofs.YtofdnjlcnpaecaaW.PrintMore
set_option linter.unusedSimpArgs false
/-! ### long division -/
theorem xor_cancel_top {a b n : Nat} (ha1 : 2 ^ n ≤ a) (ha2 : a < 2 ^ (n + 1)) (hb1 : 2 ^ n ≤ b) (hb2 : b < 2 ^ (n + 1)) : a ^^^ b < 2 ^ n := by
  rcases Nat.lt_or_ge (a ^^^ b) (2 ^ n) with h | h
  · exact h
  · have t3 := Gf.top_bit h (Gf.xor_lt ha2 hb2)
    rw [Nat.testBit_xor, Gf.top_bit ha1 ha2, Gf.top_bit hb1 hb2] at t3
    simp at t3
theorem lt_of_no_bit {a n : Nat} (h : a < 2 ^ (n + 1)) (hb : a.testBit n = false) : a < 2 ^ n := by
  rcases Nat.lt_or_ge a (2 ^ n) with h' | h'
  · exact h'
  · rw [Gf.top_bit h' h] at hb; cases hb
theorem or_eq_xor {q s : Nat} (h : 2 ^ (s + 1) ∣ q) : q ||| 2 ^ s = q ^^^ 2 ^ s := by
  obtain ⟨c, rfl⟩ := h
  apply Nat.eq_of_testBit_eq
  intro j
  rw [Nat.testBit_or, Nat.testBit_xor, Nat.testBit_two_pow]
  by_cases hj : s = j
  · subst hj
    rw [Nat.testBit_two_pow_mul]
    simp
  · simp [hj]
theorem xor_pow {q s : Nat} (h : 2 ^ (s + 1) ∣ q) : 2 ^ s ∣ q ^^^ 2 ^ s := by
  obtain ⟨c, rfl⟩ := h
  refine ⟨2 * c ^^^ 1, ?_⟩
  have e : 2 ^ s * (2 * c ^^^ 1) = (2 * c ^^^ 1) <<< s := by rw [Nat.shiftLeft_eq, Nat.mul_comm]
  rw [e, Nat.shiftLeft_xor_distrib, Nat.shiftLeft_eq, Nat.shiftLeft_eq, Nat.one_mul, Nat.pow_succ]
  congr 1
  ac_rfl
theorem mod_or {Q s : Nat} (hs : s < 64) (h : 2 ^ (s + 1) ∣ Q) : (Q % 18446744073709551616) ||| 2 ^ s = (Q ^^^ 2 ^ s) % 18446744073709551616 := by
  have h1 : 2 ^ (s + 1) ∣ Q % 18446744073709551616 := by
    have : (18446744073709551616 : Nat) = 2 ^ 64 := by decide
    rw [this]
    exact (Nat.dvd_mod_iff (Nat.pow_dvd_pow 2 (by omega))).2 h
  rw [or_eq_xor h1, xor_mod64]
  congr 1
  have : 2 ^ s < 2 ^ 64 := Nat.pow_lt_pow_right (by omega) hs
  exact (Nat.mod_eq_of_lt this).symm
theorem bshift {b s n : Nat} (hb : b ≠ 0) (hn : b.log2 + s = n) : 2 ^ n ≤ b * 2 ^ s ∧ b * 2 ^ s < 2 ^ (n + 1) := by
  subst hn
  have h0 := Nat.two_pow_pos s
  constructor
  · rw [Nat.pow_add]; exact Nat.mul_le_mul_right _ (Gf.pow_log2_le hb)
  · have e : b.log2 + s + 1 = (b.log2 + 1) + s := by omega
    rw [e, Nat.pow_add]; exact Nat.mul_lt_mul_of_pos_right (Gf.lt_pow_log2 b) h0
theorem pow64 : (2 : Nat) ^ 64 = 18446744073709551616 := by decide
theorem lt64_of {a n : Nat} (hn : n ≤ 64) (h : a < 2 ^ n) : a < 18446744073709551616 := by
  have := Nat.pow_le_pow_right (n := 2) (by omega) hn
  rw [pow64] at this
  omega
theorem log2_le63 {b : Nat} (hb : b ≠ 0) (h : b < 18446744073709551616) : b.log2 ≤ 63 := by
  have := (Nat.log2_lt (n := b) (k := 64) hb).2 h
  omega
theorem poly_long.ev_l1 {b N : Nat} (hb : b ≠ 0) (hb64 : b < 18446744073709551616) : ∀ (m : Nat) (i : Int) (lo Q : Nat), i ≤ 63 → -1 ≤ i → i + 1 ≤ m → lo < 2 ^ (i + 1).toNat → N = Gf.mul Q b ^^^ lo → 2 ^ (i + 1 - (b.log2 : Int)).toNat ∣ Q →
    Ev (fun k => poly_long.l1 k (lo : Int) (b : Int) ((Q % 18446744073709551616 : Nat) : Int) (dg b) i) (((Gf.quo N b % 18446744073709551616 : Nat) : Int), ((Gf.rem N b : Nat) : Int)) := by
  intro m
  have hl63 := log2_le63 hb hb64
  have stop : ∀ (i : Int) (lo Q : Nat), i < (b.log2 : Int) → -1 ≤ i → lo < 2 ^ (i + 1).toNat → N = Gf.mul Q b ^^^ lo → Ev (fun k => poly_long.l1 k (lo : Int) (b : Int) ((Q % 18446744073709551616 : Nat) : Int) (dg b) i) (((Gf.quo N b % 18446744073709551616 : Nat) : Int), ((Gf.rem N b : Nat) : Int)) := by
    intro i lo Q hi h1 hlo hN
    have hd : Gf.IsDiv N b Q lo := ⟨hN, Nat.lt_of_lt_of_le hlo (Nat.pow_le_pow_right (by omega) (by omega))⟩
    rw [hd.quo_eq hb, hd.rem_eq hb]
    refine Ev.step (f := fun _ => some _) (fun k => ?_) (Ev.now _)
    simp only [poly_long.l1]
    rw [dg_pos hb, if_neg (by omega)]
  induction m with
  | zero =>
    intro i lo Q h63 h1 hm hlo hN hQ
    exact stop i lo Q (by omega) h1 hlo hN
  | succ m ih =>
    intro i lo Q h63 h1 hm hlo hN hQ
    by_cases hi : i < (b.log2 : Int)
    · exact stop i lo Q hi h1 hlo hN
    · obtain ⟨j, rfl⟩ := Int.eq_ofNat_of_zero_le (show 0 ≤ i by omega)
      have e1 : ((j : Int) + 1).toNat = j + 1 := by omega
      have e2 : ((j : Int) + 1 - (b.log2 : Int)).toNat = (j - b.log2) + 1 := by omega
      rw [e1] at hlo
      rw [e2] at hQ
      have hlo64 : lo < 18446744073709551616 := lt64_of (n := j + 1) (by omega) hlo
      have hw : wrap64 ((j : Int) - 1) = (j : Int) - 1 := by unfold wrap64; omega
      have hw2 : wrap64 ((j : Int) - (b.log2 : Int)) = ((j - b.log2 : Nat) : Int) := by unfold wrap64; omega
      by_cases hbit : lo.testBit j
      · obtain ⟨s1, s2⟩ := bshift (s := j - b.log2) (n := j) hb (by omega)
        have hlo2 : 2 ^ j ≤ lo := by
          rcases Nat.lt_or_ge lo (2 ^ j) with h' | h'
          · rw [Nat.testBit_lt_two_pow h'] at hbit; cases hbit
          · exact h'
        have hs64 : b * 2 ^ (j - b.log2) < 18446744073709551616 := lt64_of (n := j + 1) (by omega) s2
        have h := ih ((j : Int) - 1) (lo ^^^ b * 2 ^ (j - b.log2)) (Q ^^^ 2 ^ (j - b.log2)) (by omega) (by omega) (by omega)
          (by have : ((j : Int) - 1 + 1).toNat = j := by omega
              rw [this]; exact xor_cancel_top hlo2 hlo s1 s2)
          (by rw [hN, Gf.xor_mul, Gf.pow_two_mul]
              have : Gf.mul Q b ^^^ b * 2 ^ (j - b.log2) ^^^ (lo ^^^ b * 2 ^ (j - b.log2)) = Gf.mul Q b ^^^ lo ^^^ (b * 2 ^ (j - b.log2) ^^^ b * 2 ^ (j - b.log2)) := by ac_rfl
              rw [this, Nat.xor_self, Nat.xor_zero])
          (by have : ((j : Int) - 1 + 1 - (b.log2 : Int)).toNat = j - b.log2 := by omega
              rw [this]; exact xor_pow hQ)
        refine Ev.step (fun k => ?_) h
        simp only [poly_long.l1]
        rw [dg_pos hb, if_pos (by omega), if_pos (by omega), shr64 hlo64, and64_one (shr64_lt hlo64 j), testBit_div, if_pos hbit, if_neg (by omega), hw2, if_pos (by omega)]
        have o1 : shl .u64 1 ((j - b.log2 : Nat) : Int) = ((2 ^ (j - b.log2) : Nat) : Int) := by
          have := shl64 1 (j - b.log2)
          rw [Nat.one_mul, Nat.mod_eq_of_lt (lt64_of (n := j - b.log2 + 1) (by omega) (Nat.pow_lt_pow_right (by omega) (by omega)))] at this
          exact this
        rw [o1, shl64, Nat.mod_eq_of_lt hs64, xor64 hlo64 hs64, or64 (Nat.mod_lt _ (by omega)) (lt64_of (n := j - b.log2 + 1) (by omega) (Nat.pow_lt_pow_right (by omega) (by omega))), mod_or (by omega) hQ, hw]
      · have hb0 : lo.testBit j = false := by simpa using hbit
        have h := ih ((j : Int) - 1) lo Q (by omega) (by omega) (by omega)
          (by have : ((j : Int) - 1 + 1).toNat = j := by omega
              rw [this]; exact lt_of_no_bit hlo hb0) hN
          (by have : ((j : Int) - 1 + 1 - (b.log2 : Int)).toNat = j - b.log2 := by omega
              rw [this]; exact Nat.dvd_trans (Nat.pow_dvd_pow 2 (by omega)) hQ)
        refine Ev.step (fun k => ?_) h
        simp only [poly_long.l1]
        rw [dg_pos hb, if_pos (by omega), if_pos (by omega), shr64 hlo64, and64_one (shr64_lt hlo64 j), testBit_div, if_neg hbit, if_pos (by omega), hw]
theorem dg_bound {a : Nat} : a < 2 ^ (dg a + 1).toNat := by
  unfold dg
  split
  · rename_i h; subst h; decide
  · have : ((a.log2 : Int) + 1).toNat = a.log2 + 1 := by omega
    rw [this]; exact Gf.lt_pow_log2 a
theorem wrap_s (j d : Nat) (hj : j ≤ 63) (hd : d ≤ 63) : wrap64 (wrap64 (64 + (j : Int)) - (d : Int)) = ((64 + j - d : Nat) : Int) := by
  have h1 : wrap64 (64 + (j : Int)) = 64 + (j : Int) := by unfold wrap64; omega
  have h2 : wrap64 (64 + (j : Int) - (d : Int)) = 64 + (j : Int) - (d : Int) := by unfold wrap64; omega
  rw [h1, h2]; omega
theorem split64 (B : Nat) : B = B / 2 ^ 64 * 2 ^ 64 ^^^ B % 2 ^ 64 := by
  apply Nat.eq_of_testBit_eq
  intro t
  rw [Nat.testBit_xor, Nat.testBit_mod_two_pow, Nat.mul_comm (_ / _), Nat.testBit_two_pow_mul, Nat.testBit_div_two_pow]
  by_cases ht : t < 64
  · have h1 : ¬ t ≥ 64 := by omega
    simp [ht, h1]
  · have h1 : t ≥ 64 := by omega
    have h2 : t - 64 + 64 = t := by omega
    simp [ht, h1, h2]
theorem long_val {N Q b h lo s : Nat} (hN : N = Gf.mul Q b ^^^ (h * 2 ^ 64 ^^^ lo)) :
    N = Gf.mul (Q ^^^ 2 ^ s) b ^^^ ((h ^^^ b * 2 ^ s / 2 ^ 64) * 2 ^ 64 ^^^ (lo ^^^ b * 2 ^ s % 2 ^ 64)) := by
  rw [hN, Gf.xor_mul, Gf.pow_two_mul]
  have d : (h ^^^ b * 2 ^ s / 2 ^ 64) * 2 ^ 64 = h * 2 ^ 64 ^^^ (b * 2 ^ s / 2 ^ 64) * 2 ^ 64 := by
    rw [← Nat.shiftLeft_eq, Nat.shiftLeft_xor_distrib, Nat.shiftLeft_eq, Nat.shiftLeft_eq]
  rw [d]
  have hsplit := split64 (b * 2 ^ s)
  generalize b * 2 ^ s = B at hsplit
  have r : Gf.mul Q b ^^^ B ^^^ (h * 2 ^ 64 ^^^ B / 2 ^ 64 * 2 ^ 64 ^^^ (lo ^^^ B % 2 ^ 64)) = Gf.mul Q b ^^^ (h * 2 ^ 64 ^^^ lo) ^^^ (B ^^^ (B / 2 ^ 64 * 2 ^ 64 ^^^ B % 2 ^ 64)) := by ac_rfl
  rw [r, ← hsplit, Nat.xor_self, Nat.xor_zero]
theorem long_top {b h j s : Nat} (hb : b ≠ 0) (hs : b.log2 + s = 64 + j) : 2 ^ j ≤ b * 2 ^ s / 2 ^ 64 ∧ b * 2 ^ s / 2 ^ 64 < 2 ^ (j + 1) := by
  obtain ⟨s1, s2⟩ := bshift hb hs
  have e64 : (2 : Nat) ^ (64 + j) = 2 ^ j * 2 ^ 64 := by rw [Nat.pow_add, Nat.mul_comm]
  have e65 : (2 : Nat) ^ (64 + j + 1) = 2 ^ (j + 1) * 2 ^ 64 := by rw [Nat.add_assoc, Nat.pow_add, Nat.mul_comm]
  exact ⟨(Nat.le_div_iff_mul_le (Nat.two_pow_pos 64)).2 (by rw [← e64]; exact s1), (Nat.div_lt_iff_lt_mul (Nat.two_pow_pos 64)).2 (by rw [← e65]; exact s2)⟩
theorem long_down {b h j s : Nat} (hb : b ≠ 0) (hs : b.log2 + s = 64 + j) (hh : h < 2 ^ (j + 1)) (hbit : h.testBit j = true) : h ^^^ b * 2 ^ s / 2 ^ 64 < 2 ^ j := by
  obtain ⟨t1, t2⟩ := long_top (h := h) hb hs
  have hh2 : 2 ^ j ≤ h := by
    rcases Nat.lt_or_ge h (2 ^ j) with h' | h'
    · rw [Nat.testBit_lt_two_pow h'] at hbit; cases hbit
    · exact h'
  exact xor_cancel_top hh2 hh t1 t2
theorem long_far {b j s : Nat} (hb : b ≠ 0) (hj : j ≤ 63) (hs : b.log2 + s = 64 + j) (h64 : 64 ≤ s) :
    b * 2 ^ s / 2 ^ 64 = b * 2 ^ (s - 64) ∧ b * 2 ^ s % 2 ^ 64 = 0 ∧ b * 2 ^ (s - 64) < 18446744073709551616 ∧ ∀ Q, (Q ^^^ 2 ^ s) % 18446744073709551616 = Q % 18446744073709551616 := by
  have esp : b * 2 ^ s = b * 2 ^ (s - 64) * 2 ^ 64 := by rw [Nat.mul_assoc, ← Nat.pow_add, Nat.sub_add_cancel h64]
  have hq2 : b * 2 ^ s / 2 ^ 64 = b * 2 ^ (s - 64) := by rw [esp, Nat.mul_div_cancel _ (Nat.two_pow_pos 64)]
  refine ⟨hq2, by rw [esp, Nat.mul_mod_left], ?_, fun Q => ?_⟩
  · have t2 := (long_top (h := 0) hb hs).2
    rw [hq2] at t2
    exact lt64_of (n := j + 1) (by omega) t2
  · rw [xor_mod64]
    have : 2 ^ s % 18446744073709551616 = 0 := by
      rw [← pow64]; exact Nat.mod_eq_zero_of_dvd (Nat.pow_dvd_pow 2 h64)
    rw [this, Nat.xor_zero]
theorem shl_one {s : Nat} (hs : s < 64) : shl .u64 1 (s : Int) = ((2 ^ s : Nat) : Int) ∧ 2 ^ s < 18446744073709551616 := by
  have hlt : 2 ^ s < 18446744073709551616 := by rw [← pow64]; exact Nat.pow_lt_pow_right (by omega) hs
  have := shl64 1 s
  rw [Nat.one_mul, Nat.mod_eq_of_lt hlt] at this
  exact ⟨this, hlt⟩
theorem wrap_pred (j : Nat) (hj : j ≤ 1000) : wrap64 ((j : Int) - 1) = (j : Int) - 1 := by unfold wrap64; omega
theorem wrap_sub (a b : Nat) (h : b ≤ a) (ha : a ≤ 1000) : wrap64 ((a : Int) - (b : Int)) = ((a - b : Nat) : Int) := by unfold wrap64; omega
theorem toNat_pred (j : Nat) : ((j : Int) - 1 + 1).toNat = j := by omega
theorem long_stay {b j : Nat} (hd : b.log2 ≤ 63) : (64 + ((j : Int) - 1) + 1 - (b.log2 : Int)).toNat = 64 + j - b.log2 := by omega
theorem poly_long.ev_l0 {b N : Nat} (hb : b ≠ 0) (hb64 : b < 18446744073709551616) : ∀ (m : Nat) (i : Int) (h lo Q : Nat), i ≤ 63 → -1 ≤ i → i + 1 = m → h < 2 ^ (i + 1).toNat → lo < 18446744073709551616 → N = Gf.mul Q b ^^^ (h * 2 ^ 64 ^^^ lo) → 2 ^ (64 + i + 1 - (b.log2 : Int)).toNat ∣ Q →
    Ev (fun k => poly_long.l0 k (h : Int) (lo : Int) (b : Int) ((Q % 18446744073709551616 : Nat) : Int) (dg b) i) (((Gf.quo N b % 18446744073709551616 : Nat) : Int), ((Gf.rem N b : Nat) : Int)) := by
  intro m
  have hl63 := log2_le63 hb hb64
  induction m with
  | zero =>
    intro i h lo Q h63 h1 hm hh hlo hN hQ
    have : i = -1 := by clear hh hN hQ; omega
    subst this
    have h0 : h = 0 := by simpa using hh
    subst h0
    rw [Nat.zero_mul, Nat.zero_xor] at hN
    have e : Ev (fun k => (poly_Degree.f k (lo : Int)).bind fun t106 => (poly_long.l1 k (lo : Int) (b : Int) ((Q % 18446744073709551616 : Nat) : Int) (dg b) t106)) (((Gf.quo N b % 18446744073709551616 : Nat) : Int), ((Gf.rem N b : Nat) : Int)) := by
      refine Ev.bind (poly_Degree.ev hlo) ?_
      have hd := dg_lt64 hlo
      have hg := dg_ge lo
      refine poly_long.ev_l1 hb hb64 64 (dg lo) lo Q hd hg (by clear hN hQ; omega) dg_bound hN (Nat.dvd_trans (Nat.pow_dvd_pow 2 ?_) hQ)
      clear hN hQ
      omega
    refine Ev.step (fun k => ?_) e
    simp only [poly_long.l0]
    rw [if_neg (by decide)]
  | succ m ih =>
    intro i h lo Q h63 h1 hm hh hlo hN hQ
    obtain ⟨j, rfl⟩ := Int.eq_ofNat_of_zero_le (show 0 ≤ i by clear hh hN hQ; omega)
    have hj : j ≤ 63 := by clear hh hN hQ; omega
    obtain ⟨s, hs⟩ : ∃ s, b.log2 + s = 64 + j := ⟨64 + j - b.log2, by clear hh hN hQ; omega⟩
    have hs1000 : s ≤ 1000 := by clear hh hN hQ; omega
    have hsi : ∀ n : Nat, n ≤ s → (s : Int) ≥ (n : Int) := by clear hh hN hQ; intro n hn; omega
    have hsn : ∀ n : Nat, s < n → ¬ (s : Int) ≥ (n : Int) := by clear hh hN hQ; intro n hn; omega
    have e1 : ((j : Int) + 1).toNat = j + 1 := by clear hh hN hQ; omega
    have e2 : (64 + (j : Int) + 1 - (b.log2 : Int)).toNat = s + 1 := by clear hh hN hQ; omega
    have e3 : (64 + ((j : Int) - 1) + 1 - (b.log2 : Int)).toNat = s := by clear hh hN hQ; omega
    rw [e1] at hh
    rw [e2] at hQ
    have hh64 : h < 18446744073709551616 := lt64_of (n := j + 1) (Nat.succ_le_succ hj) hh
    have hw := wrap_pred j (by clear hh hN hQ; omega)
    have hw2 : wrap64 (wrap64 (64 + (j : Int)) - (b.log2 : Int)) = (s : Int) := by
      rw [wrap_s j b.log2 hj hl63]
      have : 64 + j - b.log2 = s := by clear hh hN hQ; omega
      rw [this]
    have c1 : (j : Int) ≥ 0 := Int.natCast_nonneg j
    have hm' : (j : Int) - 1 + 1 = m := by clear hh hN hQ; omega
    have hj1 : (j : Int) - 1 ≤ 63 := by clear hh hN hQ; omega
    have hj2 : -1 ≤ (j : Int) - 1 := by clear hh hN hQ; omega
    by_cases hbit : h.testBit j = true
    · have hn := ih ((j : Int) - 1) (h ^^^ b * 2 ^ s / 2 ^ 64) (lo ^^^ b * 2 ^ s % 2 ^ 64) (Q ^^^ 2 ^ s) hj1 hj2 hm' (by rw [toNat_pred]; exact long_down hb hs hh hbit) (xor64_lt hlo (by rw [pow64]; exact Nat.mod_lt _ (by decide))) (long_val hN) (by rw [e3]; exact xor_pow hQ)
      refine Ev.step (fun k => ?_) hn
      simp only [poly_long.l0]
      rw [dg_pos hb, if_pos c1, if_pos c1, shr64 hh64, and64_one (shr64_lt hh64 j), testBit_div, if_pos hbit, if_neg (by decide), hw2]
      by_cases hs64 : 64 ≤ s
      · obtain ⟨f1, f2, f3, f4⟩ := long_far hb hj hs hs64
        have hw3 := wrap_sub s 64 hs64 hs1000
        have c2 : (s : Int) ≥ 64 := hsi 64 hs64
        rw [if_pos c2]
        have c3 : (0 : Int) ≤ ((s - 64 : Nat) : Int) := Int.natCast_nonneg _
        have hw4 : wrap64 ((s : Int) - 64) = ((s - 64 : Nat) : Int) := hw3
        rw [hw4, if_pos c3, shl64, Nat.mod_eq_of_lt f3, xor64 hh64 f3, hw, f4, f1, f2, Nat.xor_zero]
      · have hs' : s < 64 := Nat.lt_of_not_le hs64
        have c2 : ¬ (s : Int) ≥ 64 := hsn 64 hs'
        have c3 : (0 : Int) ≤ (s : Int) := Int.natCast_nonneg _
        have hw3 : wrap64 (64 - (s : Int)) = ((64 - s : Nat) : Int) := wrap_sub 64 s (Nat.le_of_lt hs') (by decide)
        have c4 : (0 : Int) ≤ ((64 - s : Nat) : Int) := Int.natCast_nonneg _
        have hp : b * 2 ^ s / 2 ^ 64 = b / 2 ^ (64 - s) := by rw [pow64]; exact high_part (Nat.le_of_lt hs')
        obtain ⟨o1, o2⟩ := shl_one hs'
        rw [if_neg c2, if_pos c3, hw3, if_pos c4, shr64 hb64, xor64 hh64 (shr64_lt hb64 _), shl64, xor64 hlo (shl64_lt _ _), o1, or64 (Nat.mod_lt _ (by decide)) o2, mod_or hs' hQ, hw, ← hp, pow64]
    · have hb0 : h.testBit j = false := by simpa using hbit
      have hn := ih ((j : Int) - 1) h lo Q hj1 hj2 hm' (by rw [toNat_pred]; exact lt_of_no_bit hh hb0) hlo hN (by rw [e3]; exact Nat.dvd_trans (Nat.pow_dvd_pow 2 (Nat.le_succ s)) hQ)
      refine Ev.step (fun k => ?_) hn
      simp only [poly_long.l0]
      rw [if_pos c1, if_pos c1, shr64 hh64, and64_one (shr64_lt hh64 j), testBit_div, if_neg hbit, if_pos (by decide), hw]
/-- the number that two halves make -/
def whole (h l : Nat) : Nat := h * 18446744073709551616 ^^^ l
theorem whole_zero (l : Nat) : whole 0 l = l := by unfold whole; simp
theorem poly_long.ev {h l b : Nat} (hh : h < 18446744073709551616) (hl : l < 18446744073709551616) (hb : b ≠ 0) (hb64 : b < 18446744073709551616) :
    Ev (fun k => poly_long.f k (h : Int) (l : Int) (b : Int)) (((Gf.quo (whole h l) b % 18446744073709551616 : Nat) : Int), ((Gf.rem (whole h l) b : Nat) : Int)) := by
  unfold poly_long.f
  refine Ev.bind (poly_Degree.ev hb64) (Ev.bind (poly_Degree.ev hh) ?_)
  have h1 := dg_lt64 hh
  have h2 := dg_ge h
  exact poly_long.ev_l0 hb hb64 (dg h + 1).toNat (dg h) h l 0 (by omega) (by omega) (by omega) dg_bound hl (by rw [Gf.mul_zero_left, Nat.zero_xor, pow64]; rfl) (Nat.dvd_zero _)
end Go.Proofs.Ytofdnjlcnpaecaa.P
namespace Go.Proofs.Ytofdnjlcnpaecaa.P
open Go.RowKit Go.Proofs.YtofdnjlcnpaecaaW.PrintWords Go.Proofs.YtofdnjlcnpaecaaW.PrintLast Go.Proofs.YtofdnjlcnpaecaaW.PrintMore
set_option linter.unusedSimpArgs false
/-! ### the reference's division: bit by bit -/
theorem two_mul_or (r t : Nat) (ht : t ≤ 1) : 2 * r ||| t = 2 * r ^^^ t := by
  have h : t = 0 ∨ t = 1 := by omega
  rcases h with rfl | rfl
  · simp
  · have := or_eq_xor (q := 2 * r) (s := 0) (by simp; omega)
    simpa using this
theorem two_mul_xor_lt {r t n : Nat} (hr : r < 2 ^ n) (ht : t ≤ 1) : 2 * r ^^^ t < 2 ^ (n + 1) := by
  refine Gf.xor_lt (by rw [Nat.pow_succ]; omega) ?_
  have := Nat.two_pow_pos n
  rw [Nat.pow_succ]; omega
theorem bit_step (N i : Nat) : N / 2 ^ i = 2 * (N / 2 ^ (i + 1)) ^^^ (if N.testBit i then 1 else 0) := by
  have h := testBit_div N i
  have e : N / 2 ^ (i + 1) = N / 2 ^ i / 2 := by rw [Nat.div_div_eq_div_mul, ← Nat.pow_succ]
  rw [← h, e]
  generalize N / 2 ^ i = M
  rcases Nat.mod_two_eq_zero_or_one M with h1 | h1
  · rw [h1, Nat.xor_zero]; omega
  · rw [h1, Gf.even_xor_one]; omega
theorem whole_mod (Q : Nat) : IntKind.u64.wrap (((Q % 18446744073709551616 : Nat) : Int) * 2) = ((2 * Q % 18446744073709551616 : Nat) : Int) := by
  rw [IntKind.wrap_u64]; omega
theorem whole_mod_or (Q t : Nat) (ht : t ≤ 1) : (2 * Q % 18446744073709551616) ||| t = (2 * Q ^^^ t) % 18446744073709551616 := by
  have e : 2 * Q % 18446744073709551616 = 2 * (Q % 9223372036854775808) := by omega
  rw [e, two_mul_or _ _ ht, xor_mod64, e]
  congr 1
  omega
theorem div_mod64 {N i : Nat} : (N / 2 ^ i).testBit 0 = N.testBit i := by rw [Nat.testBit_div_two_pow, Nat.zero_add]
theorem bit_le (b : Bool) : (if b then 1 else 0 : Nat) ≤ 1 := by cases b <;> simp
theorem bit_cast (b : Bool) : (((if b then 1 else 0 : Nat) : Nat) : Int) = if b then 1 else 0 := by cases b <;> rfl
theorem wrap_dec (j : Nat) (hj : j ≤ 1000) : wrap64 (((j + 1 : Nat) : Int) - 1 - 1) = (j : Int) - 1 := by unfold wrap64; omega
theorem Whole.next {b N Q r i : Nat} (hb : b ≠ 0) (hN : N / 2 ^ (i + 1) = Gf.mul Q b ^^^ r) (hr : r < 2 ^ b.log2) :
    (b.log2 = 0 → N / 2 ^ i = Gf.mul (2 * Q ^^^ (if N.testBit i then 1 else 0)) b ^^^ 0 ∧ r = 0) ∧
    (2 * r ^^^ (if N.testBit i then 1 else 0) < 2 ^ (b.log2 + 1)) ∧
    ((2 * r ^^^ (if N.testBit i then 1 else 0)).testBit b.log2 = true → N / 2 ^ i = Gf.mul (2 * Q ^^^ 1) b ^^^ (2 * r ^^^ (if N.testBit i then 1 else 0) ^^^ b) ∧ 2 * r ^^^ (if N.testBit i then 1 else 0) ^^^ b < 2 ^ b.log2) ∧
    ((2 * r ^^^ (if N.testBit i then 1 else 0)).testBit b.log2 = false → N / 2 ^ i = Gf.mul (2 * Q) b ^^^ (2 * r ^^^ (if N.testBit i then 1 else 0)) ∧ 2 * r ^^^ (if N.testBit i then 1 else 0) < 2 ^ b.log2) := by
  have hs := bit_step N i
  have ht := bit_le (N.testBit i)
  have hlt := two_mul_xor_lt (n := b.log2) hr ht
  generalize (if N.testBit i then 1 else 0) = t at hs ht hlt ⊢
  rw [hN, Gf.two_mul_xor, ← Gf.mul_two_left] at hs
  refine ⟨fun h0 => ?_, hlt, fun hb1 => ⟨?_, ?_⟩, fun hb0 => ⟨?_, lt_of_no_bit hlt hb0⟩⟩
  · have hr0 : r = 0 := by rw [h0] at hr; simpa using hr
    have hb1 : b = 1 := by
      have := Gf.lt_pow_log2 b
      rw [h0] at this
      simp at this; omega
    subst hr0 hb1
    refine ⟨?_, rfl⟩
    rw [hs, Gf.mul_one, Gf.mul_one]; simp
  · rw [hs, Gf.xor_mul, Gf.one_mul]
    have : Gf.mul (2 * Q) b ^^^ b ^^^ (2 * r ^^^ t ^^^ b) = Gf.mul (2 * Q) b ^^^ (2 * r ^^^ t) ^^^ (b ^^^ b) := by ac_rfl
    rw [this, Nat.xor_self, Nat.xor_zero, Nat.xor_assoc]
  · have h2 : 2 ^ b.log2 ≤ 2 * r ^^^ t := by
      rcases Nat.lt_or_ge (2 * r ^^^ t) (2 ^ b.log2) with h' | h'
      · rw [Nat.testBit_lt_two_pow h'] at hb1; cases hb1
      · exact h'
    exact xor_cancel_top h2 hlt (Gf.pow_log2_le hb) (Gf.lt_pow_log2 b)
  · rw [hs, Nat.xor_assoc]
theorem whole_bit_hi {h l i : Nat} (hl : l < 18446744073709551616) (hi : 64 ≤ i) : (whole h l).testBit i = h.testBit (i - 64) := by
  unfold whole
  have e : h * 18446744073709551616 = 2 ^ 64 * h := by rw [pow64, Nat.mul_comm]
  rw [Nat.testBit_xor, e, Nat.testBit_two_pow_mul, Nat.testBit_lt_two_pow (x := l) (i := i) (Nat.lt_of_lt_of_le (by rw [pow64]; exact hl) (Nat.pow_le_pow_right (by decide) hi))]
  simp [hi]
theorem whole_bit_lo {h l i : Nat} (hi : i < 64) : (whole h l).testBit i = l.testBit i := by
  unfold whole
  have e : h * 18446744073709551616 = 2 ^ 64 * h := by rw [pow64, Nat.mul_comm]
  rw [Nat.testBit_xor, e, Nat.testBit_two_pow_mul]
  have : ¬ i ≥ 64 := Nat.not_le.2 hi
  simp [this]
theorem whole_lt {h l : Nat} (hh : h < 18446744073709551616) (hl : l < 18446744073709551616) : whole h l < 2 ^ 128 := by
  unfold whole
  have e : (2 : Nat) ^ 128 = 18446744073709551616 * 18446744073709551616 := by decide
  refine Gf.xor_lt ?_ ?_
  · rw [e]; exact Nat.mul_lt_mul_of_pos_right hh (by decide)
  · rw [e]; omega
theorem outpostref02_Whole.ev_l0 {b h l : Nat} (hb : b ≠ 0) (hb64 : b < 18446744073709551616) (hh : h < 18446744073709551616) (hl : l < 18446744073709551616) : ∀ (n : Nat) (Q r : Nat), n ≤ 128 → whole h l / 2 ^ n = Gf.mul Q b ^^^ r → r < 2 ^ b.log2 →
    Ev (fun k => outpostref02_Whole.l0 k (h : Int) (l : Int) (b : Int) ((Q % 18446744073709551616 : Nat) : Int) (r : Int) (dg b) ((n : Int) - 1)) (((Gf.quo (whole h l) b % 18446744073709551616 : Nat) : Int), ((Gf.rem (whole h l) b : Nat) : Int)) := by
  intro n
  have hl63 := log2_le63 hb hb64
  induction n with
  | zero =>
    intro Q r hn hN hr
    have hN' : whole h l = Gf.mul Q b ^^^ r := by simpa using hN
    have hd : Gf.IsDiv (whole h l) b Q r := ⟨hN', hr⟩
    rw [hd.quo_eq hb, hd.rem_eq hb]
    refine Ev.step (f := fun _ => some _) (fun k => ?_) (Ev.now _)
    simp only [outpostref02_Whole.l0]
    rw [if_neg (by decide)]
  | succ j ih =>
    intro Q r hn hN hr
    have hj : j ≤ 127 := Nat.le_of_succ_le_succ hn
    have hw : wrap64 (((j + 1 : Nat) : Int) - 1 - 1) = (j : Int) - 1 := wrap_dec j (Nat.le_trans hj (by decide))
    have hc1 : ((j + 1 : Nat) : Int) - 1 = (j : Int) := by clear hN hr; omega
    have c1 : (j : Int) ≥ 0 := Int.natCast_nonneg j
    have hjb : j < 18446744073709551616 := Nat.lt_of_le_of_lt hj (by decide)
    obtain ⟨n1, n2, n3, n4⟩ := Whole.next hb hN hr
    have hr64 : r < 9223372036854775808 := Nat.lt_of_lt_of_le hr (by
      have := Nat.pow_le_pow_right (n := 2) (by decide) hl63
      exact this)
    have hlog64 : b.log2 < 18446744073709551616 := Nat.lt_of_le_of_lt hl63 (by decide)
    have hr2 : IntKind.u64.wrap ((r : Int) * 2) = ((2 * r : Nat) : Int) := by clear hN hr n1 n2 n3 n4; rw [IntKind.wrap_u64]; omega
    have hr3 : 2 * r < 18446744073709551616 := by clear hN hr n1 n2 n3 n4; omega
    have inner : ∀ t : Nat, t = (if (whole h l).testBit j then 1 else 0) → Ev (fun k => outpostref02_Whole.j1 k (h : Int) (l : Int) (b : Int) ((Q % 18446744073709551616 : Nat) : Int) (r : Int) (dg b) (((j + 1 : Nat) : Int) - 1) (t : Int)) (((Gf.quo (whole h l) b % 18446744073709551616 : Nat) : Int), ((Gf.rem (whole h l) b : Nat) : Int)) := by
      intro t ht
      rw [← ht] at n1 n2 n3 n4
      have ht1 : t ≤ 1 := by rw [ht]; exact bit_le _
      have ht64 : t < 18446744073709551616 := Nat.lt_of_le_of_lt ht1 (by decide)
      have ho : Go.bits .or .u64 ((2 * r : Nat) : Int) (t : Int) = ((2 * r ^^^ t : Nat) : Int) := by rw [or64 hr3 ht64, two_mul_or _ _ ht1]
      have hx64 : 2 * r ^^^ t < 18446744073709551616 := xor64_lt hr3 ht64
      by_cases h0 : b.log2 = 0
      · obtain ⟨m1, m2⟩ := n1 h0
        subst m2
        refine Ev.step (fun k => ?_) (ih _ 0 (Nat.le_of_succ_le hn) m1 (Nat.two_pow_pos _))
        simp only [outpostref02_Whole.j1]
        have hd0 : dg b = 0 := by rw [dg_pos hb, h0]; rfl
        rw [hd0, if_pos rfl, whole_mod, or64 (Nat.mod_lt _ (by decide)) ht64, whole_mod_or _ _ ht1, hw]
      · have hd0 : ¬ dg b = 0 := by rw [dg_pos hb]; clear hN hr n1 n2 n3 n4; omega
        by_cases hbit : (2 * r ^^^ t).testBit b.log2 = true
        · obtain ⟨m1, m2⟩ := n3 hbit
          refine Ev.step (fun k => ?_) (ih _ _ (Nat.le_of_succ_le hn) m1 m2)
          simp only [outpostref02_Whole.j1]
          rw [if_neg hd0, hr2, ho, dg_pos hb, outpostref02_Bit.eq hx64 hlog64, if_pos hbit]
          simp only [Option.bind_some]
          have o1 : Go.bits .or .u64 ((2 * Q % 18446744073709551616 : Nat) : Int) 1 = (((2 * Q ^^^ 1) % 18446744073709551616 : Nat) : Int) := by
            have := or64 (x := 2 * Q % 18446744073709551616) (y := 1) (Nat.mod_lt _ (by decide)) (by decide)
            rw [whole_mod_or _ 1 (by decide)] at this
            exact this
          rw [if_pos (by decide), whole_mod, o1, xor64 hx64 hb64, hw]
        · have hb0 : (2 * r ^^^ t).testBit b.log2 = false := by simpa using hbit
          obtain ⟨m1, m2⟩ := n4 hb0
          refine Ev.step (fun k => ?_) (ih _ _ (Nat.le_of_succ_le hn) m1 m2)
          simp only [outpostref02_Whole.j1]
          rw [if_neg hd0, hr2, ho, dg_pos hb, outpostref02_Bit.eq hx64 hlog64, if_neg hbit]
          simp only [Option.bind_some]
          rw [if_neg (by decide), whole_mod, hw]
    by_cases h64 : 64 ≤ j
    · have c2 : (j : Int) ≥ 64 := by clear hN hr n1 n2 n3 n4; omega
      refine Ev.step (fun k => ?_) (inner (if (whole h l).testBit j then 1 else 0) rfl)
      simp only [outpostref02_Whole.l0]
      have hw64 : wrap64 ((j : Int) - 64) = ((j - 64 : Nat) : Int) := wrap_sub j 64 h64 (Nat.le_trans hj (by decide))
      rw [hc1, if_pos c1, if_pos c2, hw64, outpostref02_Bit.eq hh (Nat.lt_of_le_of_lt (Nat.sub_le _ _) hjb), whole_bit_hi hl h64]
      rfl
    · have hlt : j < 64 := Nat.lt_of_not_le h64
      have c2 : ¬ (j : Int) ≥ 64 := by clear hN hr n1 n2 n3 n4; omega
      refine Ev.step (fun k => ?_) (inner (if (whole h l).testBit j then 1 else 0) rfl)
      simp only [outpostref02_Whole.l0]
      rw [hc1, if_pos c1, if_neg c2, outpostref02_Bit.eq hl hjb, whole_bit_lo hlt]
      rfl
theorem outpostref02_Whole.ev {h l b : Nat} (hh : h < 18446744073709551616) (hl : l < 18446744073709551616) (hb : b ≠ 0) (hb64 : b < 18446744073709551616) :
    Ev (fun k => outpostref02_Whole.f k (h : Int) (l : Int) (b : Int)) (((Gf.quo (whole h l) b % 18446744073709551616 : Nat) : Int), ((Gf.rem (whole h l) b : Nat) : Int)) := by
  unfold outpostref02_Whole.f
  refine Ev.bind (outpostref02_Degree.ev hb64) ?_
  have h0 : whole h l / 2 ^ 128 = Gf.mul 0 b ^^^ 0 := by rw [Nat.div_eq_of_lt (whole_lt hh hl), Gf.mul_zero_left]; rfl
  exact outpostref02_Whole.ev_l0 hb hb64 hh hl 128 0 0 (by decide) h0 (Nat.two_pow_pos _)
end Go.Proofs.Ytofdnjlcnpaecaa.P
namespace Go.Proofs.Ytofdnjlcnpaecaa.P
open Go.RowKit Go.Proofs.YtofdnjlcnpaecaaW.PrintWords Go.Proofs.YtofdnjlcnpaecaaW.PrintLast Go.Proofs.YtofdnjlcnpaecaaW.PrintMore
set_option linter.unusedSimpArgs false
theorem outpostlaw02_live.at : outpostlaw02_live.f 90 = some true := by decide +kernel
theorem outpostlaw02_live.ev : Ev (fun k => outpostlaw02_live.f k) true := Ev.of outpostlaw02_live.mono outpostlaw02_live.at
theorem whole_mul (a b : Nat) : whole (hi a b) (lo a b) = Gf.mul a b := by
  unfold whole hi lo
  have := split64 (Gf.mul a b)
  rw [pow64] at this
  exact this.symm
theorem rem_lt64 {a b : Nat} (hb : b ≠ 0) (hb64 : b < 18446744073709551616) : Gf.rem a b < 18446744073709551616 := Nat.lt_trans (Gf.rem_lt' a b hb) hb64
theorem poly_rest.ev {a b : Nat} (ha : a < 18446744073709551616) (hb : b ≠ 0) (hb64 : b < 18446744073709551616) : Ev (fun k => poly_rest.f k (a : Int) (b : Int)) ((Gf.rem a b : Nat) : Int) := by
  unfold poly_rest.f
  have h := poly_long.ev (h := 0) (l := a) (b := b) (by decide) ha hb hb64
  rw [whole_zero] at h
  exact Ev.bind h (Ev.now _)
end Go.Proofs.Ytofdnjlcnpaecaa.P
namespace Go.Proofs.Ytofdnjlcnpaecaa.P
open Go.RowKit Go.Proofs.YtofdnjlcnpaecaaW.PrintWords Go.Proofs.YtofdnjlcnpaecaaW.PrintLast Go.Proofs.YtofdnjlcnpaecaaW.PrintMore
set_option linter.unusedSimpArgs false
/-! ### the derivative -/
def drv (a : Nat) : Nat := a / 2 &&& 6148914691236517205
theorem mask_bit (t : Nat) : (6148914691236517205 : Nat).testBit t = (decide (t < 64) && decide (t % 2 = 0)) := by
  by_cases h : t < 64
  · have : ∀ t : Nat, t < 64 → (6148914691236517205 : Nat).testBit t = decide (t % 2 = 0) := by decide +kernel
    rw [this t h]; simp [h]
  · rw [Nat.testBit_lt_two_pow (Nat.lt_of_lt_of_le (show 6148914691236517205 < 2 ^ 64 by decide) (Nat.pow_le_pow_right (by decide) (Nat.le_of_not_lt h)))]
    simp [h]
theorem drv_bit (a t : Nat) : (drv a).testBit t = (a.testBit (t + 1) && (decide (t < 64) && decide (t % 2 = 0))) := by
  unfold drv
  rw [Nat.testBit_and, mask_bit]
  have : a / 2 = a / 2 ^ 1 := by simp
  rw [this, Nat.testBit_div_two_pow]
theorem drv_lt (a : Nat) : drv a < 18446744073709551616 := Nat.lt_of_le_of_lt Nat.and_le_right (by decide)
theorem poly_Derive.eq {a : Nat} (ha : a < 18446744073709551616) : poly_Derive.f (a : Int) = some ((drv a : Nat) : Int) := by
  unfold poly_Derive.f drv
  have d : (a : Int) / 2 = ((a / 2 : Nat) : Int) := rfl
  rw [d]
  have := and64 (x := a / 2) (y := 6148914691236517205) (Nat.lt_of_le_of_lt (Nat.div_le_self _ _) ha) (by decide)
  exact congrArg some this
theorem drv_step (a j : Nat) (hj : j % 2 = 0) (hlt : j < 64) : drv a % 2 ^ j ||| (if a.testBit (j + 1) then 1 else 0) * 2 ^ j = drv a % 2 ^ (j + 2) := by
  apply Nat.eq_of_testBit_eq
  intro t
  have e : (if a.testBit (j + 1) = true then 1 else 0) * 2 ^ j = if a.testBit (j + 1) = true then 2 ^ j else 0 := by split <;> simp
  rw [Nat.testBit_or, Nat.testBit_mod_two_pow, Nat.testBit_mod_two_pow, e]
  have e2 : (if a.testBit (j + 1) = true then 2 ^ j else 0).testBit t = (a.testBit (j + 1) && decide (j = t)) := by
    cases a.testBit (j + 1) <;> simp [Nat.testBit_two_pow]
  rw [e2, drv_bit]
  by_cases h1 : t < j
  · have : ¬ j = t := by omega
    have h2 : t < j + 2 := by omega
    simp [h1, this, h2]
  · by_cases h2 : t = j
    · subst h2; simp [hlt, hj]
    · have h3 : ¬ j = t := fun e => h2 e.symm
      by_cases h4 : t < j + 2
      · have h5 : ¬ t % 2 = 0 := by omega
        simp [h1, h3, h4, h5]
      · simp [h1, h3, h4]
theorem outpostref02_Derive.ev_l0 {a : Nat} (ha : a < 18446744073709551616) : ∀ d n : Nat, n + d = 32 →
    Ev (fun k => outpostref02_Derive.l0 k (a : Int) ((drv a % 2 ^ (2 * n) : Nat) : Int) ((2 * n + 1 : Nat) : Int)) ((drv a : Nat) : Int) := by
  intro d
  induction d with
  | zero =>
    intro n hn
    have : n = 32 := by omega
    subst this
    refine Ev.step (f := fun _ => some _) (fun k => ?_) (Ev.now _)
    simp only [outpostref02_Derive.l0]
    rw [if_neg (by decide)]
    congr 2
    exact Nat.mod_eq_of_lt (drv_lt a)
  | succ d ih =>
    intro n hn
    have h := ih (n + 1) (by omega)
    have hw : wrap64 (((2 * n + 1 : Nat) : Int) - 1) = ((2 * n : Nat) : Int) := by unfold wrap64; omega
    have hw2 : wrap64 (((2 * n + 1 : Nat) : Int) + 2) = ((2 * (n + 1) + 1 : Nat) : Int) := by unfold wrap64; omega
    have c1 : ((2 * n + 1 : Nat) : Int) < 64 := by omega
    have hb : 2 * n + 1 < 18446744073709551616 := by omega
    have hb2 : 2 * n < 18446744073709551616 := by omega
    have hst := drv_step a (2 * n) (by omega) (by omega)
    have e : 2 * (n + 1) = 2 * n + 2 := by omega
    have hlt : (if a.testBit (2 * n + 1) then 1 else 0) * 2 ^ (2 * n) < 18446744073709551616 := by
      have h1 : (2 : Nat) ^ (2 * n) < 2 ^ 64 := Nat.pow_lt_pow_right (by decide) (by omega)
      rw [pow64] at h1
      split
      · rw [Nat.one_mul]; exact h1
      · simp
    refine Ev.step (fun k => ?_) h
    simp only [outpostref02_Derive.l0]
    rw [if_pos c1, outpostref02_Bit.eq ha hb]
    simp only [Option.bind_some]
    rw [hw, wrapu_nat hb2, if_pos (Int.natCast_nonneg _), shl64, Nat.mod_eq_of_lt hlt, or64 (mod_lt64 (drv_lt a)) hlt, hst, hw2, e]
theorem outpostref02_Derive.ev {a : Nat} (ha : a < 18446744073709551616) : Ev (fun k => outpostref02_Derive.f k (a : Int)) ((drv a : Nat) : Int) := by
  have h := outpostref02_Derive.ev_l0 ha 32 0 (by decide)
  have : drv a % 2 ^ (2 * 0) = 0 := by simp [Nat.mod_one]
  rw [this] at h
  exact h
/-- an argument of the machine as a natural number -/
theorem u64_nat {a : Int} (h : (Lit.int .u64 a).wf = true) : ∃ n : Nat, a = n ∧ n < 18446744073709551616 := by
  have hx : 0 ≤ a ∧ a ≤ 18446744073709551615 := by simpa [Lit.wf, IntKind.min, IntKind.max, IntKind.signed, IntKind.bits] using h
  exact ⟨a.toNat, by omega, by omega⟩
end Go.Proofs.Ytofdnjlcnpaecaa.P
namespace Go.Proofs.Ytofdnjlcnpaecaa.P
open Go.RowKit Go.Proofs.YtofdnjlcnpaecaaW.PrintWords Go.Proofs.YtofdnjlcnpaecaaW.PrintLast Go.Proofs.YtofdnjlcnpaecaaW.PrintMore
theorem Ev.pos {α : Type} {c : Prop} [Decidable c] {f g : Nat → Option α} {r : α} (hc : c) (h : Ev f r) : Ev (fun n => if c then f n else g n) r := by
  simpa [hc] using h
theorem Ev.neg {α : Type} {c : Prop} [Decidable c] {f g : Nat → Option α} {r : α} (hc : ¬ c) (h : Ev g r) : Ev (fun n => if c then f n else g n) r := by
  simpa [hc] using h
theorem Ev.some_bind {α β : Type} {x : Option α} {a : α} {f : Nat → α → Option β} {r : β} (hx : x = some a) (h : Ev (fun n => f n a) r) : Ev (fun n => x.bind (f n)) r := by
  subst hx; exact h
theorem Ev.live {β : Type} {f : Nat → Bool → Option β} {r : β} (h : Ev (fun n => f n true) r) : Ev (fun n => (outpostlaw02_live.f n).bind (f n)) r := Ev.bind outpostlaw02_live.ev h
end Go.Proofs.Ytofdnjlcnpaecaa.P
namespace Go.Proofs.Ytofdnjlcnpaecaa.P
open Go.RowKit Go.Proofs.YtofdnjlcnpaecaaW.PrintWords Go.Proofs.YtofdnjlcnpaecaaW.PrintLast Go.Proofs.YtofdnjlcnpaecaaW.PrintMore
set_option linter.unusedSimpArgs false
theorem cast_ne {b : Nat} (h : b ≠ 0) : ¬ (b : Int) = 0 := fun e => h (Int.ofNat_eq_zero.1 e)
theorem cast_zero {b : Nat} (h : b = 0) : (b : Int) = 0 := by rw [h]; rfl
theorem quo_le {a b : Nat} (hb : b ≠ 0) (ha : a < 18446744073709551616) : Gf.quo a b < 18446744073709551616 := by
  by_cases hq : Gf.quo a b = 0
  · rw [hq]; decide
  · have h := Gf.div_eq a b hb
    have h1 : Gf.mul (Gf.quo a b) b = a ^^^ Gf.rem a b := (Gf.xor_eq_iff.1 h.symm)
    have h2 : a ^^^ Gf.rem a b < 2 ^ 64 := by
      by_cases hl : b.log2 < 64
      · exact Gf.xor_lt (by rw [pow64]; exact ha) (Nat.lt_of_lt_of_le (Gf.rem_lt a b hb) (Nat.pow_le_pow_right (by decide) (Nat.le_of_lt hl)))
      · have hlt : a < 2 ^ b.log2 := Nat.lt_of_lt_of_le (by rw [pow64]; exact ha) (Nat.pow_le_pow_right (by decide) (Nat.le_of_not_lt hl))
        rw [Gf.rem_of_lt hb hlt, Nat.xor_self]; exact Nat.two_pow_pos 64
    rw [← h1] at h2
    have h3 := (Gf.mul_size hq hb).1
    have h4 : 2 ^ ((Gf.quo a b).log2 + b.log2) < 2 ^ 64 := Nat.lt_of_le_of_lt h3 h2
    have h5 := (Nat.pow_lt_pow_iff_right (a := 2) (by decide)).1 h4
    have h6 := Gf.lt_pow_log2 (Gf.quo a b)
    have h7 := Nat.pow_le_pow_right (n := 2) (by decide) (show (Gf.quo a b).log2 + 1 ≤ 64 by omega)
    rw [pow64] at h7
    exact Nat.lt_of_lt_of_le h6 h7
theorem poly_Div.ev {a b : Nat} (ha : a < 18446744073709551616) (hb : b ≠ 0) (hb64 : b < 18446744073709551616) : Ev (fun k => poly_Div.f k (a : Int) (b : Int)) (((Gf.quo a b : Nat) : Int), ((Gf.rem a b : Nat) : Int), 0) := by
  unfold poly_Div.f
  refine Ev.neg (cast_ne hb) ?_
  have h := poly_long.ev (h := 0) (l := a) (b := b) (by decide) ha hb hb64
  rw [whole_zero, Nat.mod_eq_of_lt (quo_le hb ha)] at h
  exact Ev.bind h (Ev.now _)
theorem poly_Div.zero (k : Nat) (a : Int) : poly_Div.f k a 0 = some (0, 0, 20) := by unfold poly_Div.f; rw [if_pos rfl]
/-! ### products and powers modulo -/
theorem poly_MulMod.ev {a b m : Nat} (ha : a < 18446744073709551616) (hb : b < 18446744073709551616) (hm : m ≠ 0) (hm64 : m < 18446744073709551616) : Ev (fun k => poly_MulMod.f k (a : Int) (b : Int) (m : Int)) (((Gf.rem (Gf.mul a b) m : Nat) : Int), 0) := by
  unfold poly_MulMod.f
  refine Ev.neg (cast_ne hm) (Ev.bind (poly_Mul.ev ha hb) ?_)
  have h := poly_long.ev (hi_lt ha hb) (lo_lt a b) hm hm64
  rw [whole_mul] at h
  exact Ev.bind h (Ev.now _)
theorem outpostref02_MulMod.ev {a b m : Nat} (ha : a < 18446744073709551616) (hb : b < 18446744073709551616) (hm : m ≠ 0) (hm64 : m < 18446744073709551616) : Ev (fun k => outpostref02_MulMod.f k (a : Int) (b : Int) (m : Int)) (((Gf.rem (Gf.mul a b) m : Nat) : Int), 0) := by
  unfold outpostref02_MulMod.f
  refine Ev.neg (cast_ne hm) (Ev.bind (outpostref02_Mul.ev ha hb) ?_)
  have h := outpostref02_Whole.ev (hi_lt ha hb) (lo_lt a b) hm hm64
  rw [whole_mul] at h
  exact Ev.bind h (Ev.now _)
/-- powers -/
def pw (a : Nat) : Nat → Nat
  | 0 => 1
  | n + 1 => Gf.mul (pw a n) a
theorem pw_add (a n m : Nat) : pw a (n + m) = Gf.mul (pw a n) (pw a m) := by
  induction m with
  | zero => simp [pw, Gf.mul_one]
  | succ m ih => rw [← Nat.add_assoc, pw, ih, pw, Gf.mul_assoc]
theorem pw_sq (a n : Nat) : pw (Gf.mul a a) n = pw a (2 * n) := by
  induction n with
  | zero => rfl
  | succ n ih => rw [pw, ih, show 2 * (n + 1) = 2 * n + 1 + 1 by omega, pw, pw, Gf.mul_assoc]
theorem pw_half (a n : Nat) : pw a n = if n % 2 = 1 then Gf.mul a (pw (Gf.mul a a) (n / 2)) else pw (Gf.mul a a) (n / 2) := by
  rw [pw_sq]
  rcases Nat.mod_two_eq_zero_or_one n with h | h
  · rw [if_neg (by omega)]; congr 1; omega
  · rw [if_pos h]
    have : n = 2 * (n / 2) + 1 := by omega
    conv => lhs; rw [this, pw, Gf.mul_comm]
theorem rem_mul_both (a b m : Nat) (hm : m ≠ 0) : Gf.rem (Gf.mul (Gf.rem a m) (Gf.rem b m)) m = Gf.rem (Gf.mul a b) m := by rw [Gf.rem_mul_left _ _ _ hm, Gf.rem_mul_right _ _ _ hm]
theorem rem_pw (a m n : Nat) (hm : m ≠ 0) : Gf.rem (pw (Gf.rem a m) n) m = Gf.rem (pw a n) m := by
  induction n with
  | zero => rfl
  | succ n ih => rw [pw, pw, Gf.rem_mul_right _ _ _ hm, ← Gf.rem_mul_left _ _ _ hm, ih, Gf.rem_mul_left _ _ _ hm]
theorem poly_power.ev {m : Nat} (hm : m ≠ 0) (hm64 : m < 18446744073709551616) : ∀ (d n one x : Nat), n < 2 ^ d → n < 18446744073709551616 → one < 18446744073709551616 → Gf.rem one m = one → x < 18446744073709551616 →
    Ev (fun k => poly_power.l0 k (one : Int) (x : Int) (n : Int) (m : Int)) ((Gf.rem (Gf.mul one (pw x n)) m : Nat) : Int) := by
  intro d
  have stop : ∀ (one x : Nat), Gf.rem one m = one → Ev (fun k => poly_power.l0 k (one : Int) (x : Int) ((0 : Nat) : Int) (m : Int)) ((Gf.rem (Gf.mul one (pw x 0)) m : Nat) : Int) := by
    intro one x h
    rw [pw, Gf.mul_one, h]
    refine Ev.step (f := fun _ => some _) (fun k => ?_) (Ev.now _)
    simp only [poly_power.l0]
    rw [if_neg (by decide)]
  induction d with
  | zero =>
    intro n one x hn _ _ h1 _
    have : n = 0 := by omega
    subst this
    exact stop one x h1
  | succ d ih =>
    intro n one x hn hn64 hone h1 hx
    by_cases h0 : n = 0
    · subst h0; exact stop one x h1
    · have c1 : (n : Int) > 0 := by omega
      have hd : (n : Int) / 2 = ((n / 2 : Nat) : Int) := rfl
      have hx2 : Gf.rem (Gf.mul x x) m < 18446744073709551616 := rem_lt64 hm hm64
      have hn2 : n / 2 < 2 ^ d := by rw [Nat.pow_succ] at hn; omega
      have hn3 : n / 2 < 18446744073709551616 := by omega
      have hp : ∀ o : Nat, Gf.rem (Gf.mul o (pw (Gf.rem (Gf.mul x x) m) (n / 2))) m = Gf.rem (Gf.mul o (pw (Gf.mul x x) (n / 2))) m := by
        intro o
        rw [← Gf.rem_mul_right _ _ _ hm, rem_pw _ _ _ hm, Gf.rem_mul_right _ _ _ hm]
      rcases Nat.mod_two_eq_zero_or_one n with h2 | h2
      · have hh := ih (n / 2) one (Gf.rem (Gf.mul x x) m) hn2 hn3 hone h1 hx2
        rw [hp] at hh
        have e : pw x n = pw (Gf.mul x x) (n / 2) := by rw [pw_half x n, if_neg (by omega)]
        rw [e]
        have hb := Ev.bind (poly_MulMod.ev hx hx hm hm64) (f := fun k b => poly_power.l0 k (one : Int) b.1 ((n / 2 : Nat) : Int) (m : Int)) hh
        refine Ev.step (fun k => ?_) hb
        simp only [poly_power.l0]
        rw [if_pos c1, and64_one hn64, h2, if_pos (by decide), hd]
      · have ho2 : Gf.rem (Gf.mul one x) m < 18446744073709551616 := rem_lt64 hm hm64
        have hh := ih (n / 2) (Gf.rem (Gf.mul one x) m) (Gf.rem (Gf.mul x x) m) hn2 hn3 ho2 (Gf.rem_rem _ _ hm) hx2
        rw [hp, Gf.rem_mul_left _ _ _ hm, Gf.mul_assoc] at hh
        have e : pw x n = Gf.mul x (pw (Gf.mul x x) (n / 2)) := by rw [pw_half x n, if_pos h2]
        rw [e]
        have hb := Ev.bind (poly_MulMod.ev hone hx hm hm64) (f := fun k b => (poly_MulMod.f k (x : Int) (x : Int) (m : Int)).bind fun c => poly_power.l0 k b.1 c.1 ((n / 2 : Nat) : Int) (m : Int)) (Ev.bind (poly_MulMod.ev hx hx hm hm64) hh)
        refine Ev.step (fun k => ?_) hb
        simp only [poly_power.l0]
        rw [if_pos c1, and64_one hn64, h2, if_neg (by decide), hd]
theorem poly_PowMod.ev {a n m : Nat} (ha : a < 18446744073709551616) (hn : n < 18446744073709551616) (hm : m ≠ 0) (hm64 : m < 18446744073709551616) : Ev (fun k => poly_PowMod.f k (a : Int) (n : Int) (m : Int)) (((Gf.rem (pw a n) m : Nat) : Int), 0) := by
  unfold poly_PowMod.f
  refine Ev.pos (Int.natCast_nonneg n) (Ev.neg (cast_ne hm) ?_)
  have h1 := poly_rest.ev (a := 1) (by decide) hm hm64
  have h2 := poly_power.ev hm hm64 64 n (Gf.rem 1 m) a (by rw [pow64]; exact hn) hn (rem_lt64 hm hm64) (Gf.rem_rem _ _ hm) ha
  rw [Gf.rem_mul_left _ _ _ hm, Gf.one_mul] at h2
  exact Ev.bind h1 (Ev.bind h2 (Ev.now _))
theorem outpostref02_PowMod.ev_l0 {a n m : Nat} (ha : a < 18446744073709551616) (hn : n < 18446744073709551616) (hm : m ≠ 0) (hm64 : m < 18446744073709551616) : ∀ i : Nat, i ≤ 64 →
    Ev (fun k => outpostref02_PowMod.l0 k (a : Int) (n : Int) (m : Int) ((Gf.rem (pw a (n / 2 ^ i)) m : Nat) : Int) ((i : Int) - 1)) (((Gf.rem (pw a n) m : Nat) : Int), 0) := by
  intro i
  induction i with
  | zero =>
    intro _
    have : n / 2 ^ 0 = n := by simp
    rw [this]
    refine Ev.step (f := fun _ => some _) (fun k => ?_) (Ev.now _)
    simp only [outpostref02_PowMod.l0]
    rw [if_neg (by decide)]
  | succ j ih =>
    intro hj
    have hh := ih (by omega)
    have hw : wrap64 ((j : Int) - 1) = (j : Int) - 1 := wrap_pred j (by omega)
    have i1 : (((1 : Nat) : Int) = 1) = True := by simp
    have i0 : (((0 : Nat) : Int) = 1) = False := by simp
    have hc1 : ((j + 1 : Nat) : Int) - 1 = (j : Int) := by omega
    have e : n / 2 ^ (j + 1) = n / 2 ^ j / 2 := by rw [Nat.div_div_eq_div_mul, ← Nat.pow_succ]
    have ht := testBit_div n j
    have hx : Gf.rem (pw a (n / 2 ^ (j + 1))) m < 18446744073709551616 := rem_lt64 hm hm64
    have hsq : Gf.rem (Gf.mul (Gf.rem (pw a (n / 2 ^ (j + 1))) m) (Gf.rem (pw a (n / 2 ^ (j + 1))) m)) m = Gf.rem (pw a (2 * (n / 2 ^ (j + 1)))) m := by
      rw [rem_mul_both _ _ _ hm, ← pw_add]; congr 2; omega
    have hx2 : Gf.rem (pw a (2 * (n / 2 ^ (j + 1)))) m < 18446744073709551616 := rem_lt64 hm hm64
    have h1 := outpostref02_MulMod.ev hx hx hm hm64
    rw [hsq] at h1
    by_cases hb : n.testBit j = true
    · have hm1 : Gf.rem (Gf.mul (Gf.rem (pw a (2 * (n / 2 ^ (j + 1)))) m) a) m = Gf.rem (pw a (n / 2 ^ j)) m := by
        rw [Gf.rem_mul_left _ _ _ hm]
        have : n / 2 ^ j = 2 * (n / 2 ^ (j + 1)) + 1 := by rw [if_pos hb] at ht; rw [e]; omega
        rw [this, pw]
      have h2 := outpostref02_MulMod.ev hx2 ha hm hm64
      rw [hm1] at h2
      have hb2 := Ev.bind h1 (f := fun k b => (outpostref02_MulMod.f k b.1 (a : Int) (m : Int)).bind fun c => outpostref02_PowMod.l0 k (a : Int) (n : Int) (m : Int) c.1 ((j : Int) - 1)) (Ev.bind h2 hh)
      refine Ev.step (fun k => ?_) hb2
      simp only [outpostref02_PowMod.l0]
      rw [hc1, if_pos (Int.natCast_nonneg _), outpostref02_Bit.eq hn (by omega), if_pos hb, hw]
      simp only [Option.bind_some, i1, if_true]
    · have hb0 : n / 2 ^ j = 2 * (n / 2 ^ (j + 1)) := by rw [if_neg hb] at ht; rw [e]; omega
      rw [hb0] at hh
      have hb2 := Ev.bind h1 (f := fun k b => outpostref02_PowMod.l0 k (a : Int) (n : Int) (m : Int) b.1 ((j : Int) - 1)) hh
      refine Ev.step (fun k => ?_) hb2
      simp only [outpostref02_PowMod.l0]
      rw [hc1, if_pos (Int.natCast_nonneg _), outpostref02_Bit.eq hn (by omega), if_neg hb, hw]
      simp only [Option.bind_some, i0, if_false]
theorem outpostref02_PowMod.ev {a n m : Nat} (ha : a < 18446744073709551616) (hn : n < 18446744073709551616) (hm : m ≠ 0) (hm64 : m < 18446744073709551616) : Ev (fun k => outpostref02_PowMod.f k (a : Int) (n : Int) (m : Int)) (((Gf.rem (pw a n) m : Nat) : Int), 0) := by
  unfold outpostref02_PowMod.f
  refine Ev.neg (cast_ne hm) ?_
  have h := outpostref02_Whole.ev (h := 0) (l := 1) (by decide) (by decide) hm hm64
  rw [whole_zero] at h
  have h2 := outpostref02_PowMod.ev_l0 ha hn hm hm64 64 (by decide)
  have e : n / 2 ^ 64 = 0 := Nat.div_eq_of_lt (by rw [pow64]; exact hn)
  rw [e] at h2
  exact Ev.bind h h2
end Go.Proofs.Ytofdnjlcnpaecaa.P
/-! Small words on contracts that answer after some rounds. No condition. -/
namespace Go.Proofs.Ytofdnjlcnpaecaa.P
open Go.RowKit Go.Proofs.YtofdnjlcnpaecaaW.PrintWords Go.Proofs.YtofdnjlcnpaecaaW.PrintLast Go.Proofs.YtofdnjlcnpaecaaW.PrintMore
theorem Ev.all {α : Type} {f : Nat → Option α} {r : α} (h : ∀ k, f k = some r) : Ev f r := ⟨0, fun n _ => h n⟩
end Go.Proofs.Ytofdnjlcnpaecaa.P
