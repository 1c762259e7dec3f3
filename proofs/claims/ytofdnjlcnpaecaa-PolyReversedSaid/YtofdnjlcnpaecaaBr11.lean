/- Turning words around: what the program and the reference compute. No condition. -/
import Derived.Test.YtofdnjlcnpaecaaBr9
import Derived.Test.YtofdnjlcnpaecaaP9
set_option linter.unusedVariables false
namespace Go.Proofs.Ytofdnjlcnpaecaa.P
open Go.RowKit Go.Proofs.YtofdnjlcnpaecaaW.PrintWords Go.Proofs.YtofdnjlcnpaecaaW.PrintLast Go.Proofs.YtofdnjlcnpaecaaW.PrintMore
theorem wrapu_mod (x : Nat) : IntKind.u64.wrap (x : Int) = ((x % 18446744073709551616 : Nat) : Int) := by
  rw [IntKind.wrap_u64]; omega
/-- a word with its groups of bits exchanged. -/
def swp (x M s : Nat) : Nat := (x / 2 ^ s &&& M) ||| ((x &&& M) * 2 ^ s % 18446744073709551616)
theorem swp_lt {x M : Nat} (s : Nat) (hM : M < 18446744073709551616) : swp x M s < 18446744073709551616 :=
  or64_lt (Nat.lt_of_le_of_lt Nat.and_le_right hM) (shl64_lt _ _)
theorem swp_bit {x M s : Nat} (hx : x < 18446744073709551616) (hM : ∀ j < 64, M.testBit j = decide (j &&& s = 0)) (hs : ∀ j < 64, (j &&& s = 0 → j + s = j ^^^ s) ∧ (¬ j &&& s = 0 → s ≤ j ∧ (j - s) &&& s = 0 ∧ j - s = j ^^^ s)) (hs2 : ∀ j < 64, j &&& s = 0 → s ≤ j → ¬ (j - s) &&& s = 0)
    (i : Nat) (hi : i < 64) : (swp x M s).testBit i = x.testBit (i ^^^ s) := by
  unfold swp
  rw [show (18446744073709551616 : Nat) = 2 ^ 64 by decide, Nat.testBit_or, Nat.testBit_and, Nat.testBit_mod_two_pow, Nat.testBit_mul_two_pow, Nat.testBit_div_two_pow, hM i hi, decide_eq_true hi, Bool.true_and]
  by_cases h : i &&& s = 0
  · rw [decide_eq_true h, Bool.and_true]
    by_cases h2 : s ≤ i
    · rw [decide_eq_true h2, Bool.true_and, Nat.testBit_and, hM (i - s) (by omega), decide_eq_false (hs2 i hi h h2), Bool.and_false, Bool.or_false, (hs i hi).1 h]
    · rw [decide_eq_false h2, Bool.false_and, Bool.or_false, (hs i hi).1 h]
  · obtain ⟨h1, h2, h3⟩ := (hs i hi).2 h
    rw [decide_eq_false h, Bool.and_false, Bool.false_or, decide_eq_true h1, Bool.true_and, Nat.testBit_and, hM (i - s) (by omega), decide_eq_true h2, Bool.and_true, h3]
/-- the word turned around. -/
def rev64 (a : Nat) : Nat :=
  let x5 := swp (swp (swp (swp (swp a 6148914691236517205 1) 3689348814741910323 2) 1085102592571150095 4) 71777214294589695 8) 281470681808895 16
  (x5 / 2 ^ 32) ||| (x5 * 2 ^ 32 % 18446744073709551616)
theorem m1 : ∀ j < 64, (6148914691236517205 : Nat).testBit j = decide (j &&& 1 = 0) := by decide +kernel
theorem m2 : ∀ j < 64, (3689348814741910323 : Nat).testBit j = decide (j &&& 2 = 0) := by decide +kernel
theorem m4 : ∀ j < 64, (1085102592571150095 : Nat).testBit j = decide (j &&& 4 = 0) := by decide +kernel
theorem m8 : ∀ j < 64, (71777214294589695 : Nat).testBit j = decide (j &&& 8 = 0) := by decide +kernel
theorem m16 : ∀ j < 64, (281470681808895 : Nat).testBit j = decide (j &&& 16 = 0) := by decide +kernel
theorem swp_all (s : Nat) (hs : s = 1 ∨ s = 2 ∨ s = 4 ∨ s = 8 ∨ s = 16) : (∀ j < 64, (j &&& s = 0 → j + s = j ^^^ s) ∧ (¬ j &&& s = 0 → s ≤ j ∧ (j - s) &&& s = 0 ∧ j - s = j ^^^ s)) ∧ (∀ j < 64, j &&& s = 0 → s ≤ j → ¬ (j - s) &&& s = 0) ∧ ∀ j < 64, j ^^^ s < 64 := by
  rcases hs with rfl | rfl | rfl | rfl | rfl <;> decide +kernel
theorem turn_last : ∀ j < 64, (((((j ^^^ 32) ^^^ 16) ^^^ 8) ^^^ 4) ^^^ 2) ^^^ 1 = 63 - j := by decide +kernel
theorem turn_32 : ∀ j < 64, (j < 32 → j + 32 = j ^^^ 32) ∧ (¬ j < 32 → j - 32 = j ^^^ 32) ∧ j ^^^ 32 < 64 := by decide +kernel
theorem rev64_lt {a : Nat} : rev64 a < 18446744073709551616 := by
  unfold rev64
  exact or64_lt (shr64_lt (swp_lt _ (by decide)) 32) (shl64_lt _ _)
theorem rev64_bit {a : Nat} (ha : a < 18446744073709551616) (i : Nat) (hi : i < 64) : (rev64 a).testBit i = a.testBit (63 - i) := by
  unfold rev64
  have l1 := swp_lt (x := a) (M := 6148914691236517205) 1 (by decide)
  have b1 := swp_bit ha m1 (swp_all 1 (by simp)).1 (swp_all 1 (by simp)).2.1
  generalize swp a 6148914691236517205 1 = x1 at *
  have l2 := swp_lt (x := x1) (M := 3689348814741910323) 2 (by decide)
  have b2 := swp_bit l1 m2 (swp_all 2 (by simp)).1 (swp_all 2 (by simp)).2.1
  generalize swp x1 3689348814741910323 2 = x2 at *
  have l3 := swp_lt (x := x2) (M := 1085102592571150095) 4 (by decide)
  have b3 := swp_bit l2 m4 (swp_all 4 (by simp)).1 (swp_all 4 (by simp)).2.1
  generalize swp x2 1085102592571150095 4 = x3 at *
  have l4 := swp_lt (x := x3) (M := 71777214294589695) 8 (by decide)
  have b4 := swp_bit l3 m8 (swp_all 8 (by simp)).1 (swp_all 8 (by simp)).2.1
  generalize swp x3 71777214294589695 8 = x4 at *
  have l5 := swp_lt (x := x4) (M := 281470681808895) 16 (by decide)
  have b5 := swp_bit l4 m16 (swp_all 16 (by simp)).1 (swp_all 16 (by simp)).2.1
  generalize swp x4 281470681808895 16 = x5 at *
  have hl : ∀ j < 64, ((x5 / 2 ^ 32) ||| (x5 * 2 ^ 32 % 18446744073709551616)).testBit j = x5.testBit (j ^^^ 32) := by
    intro j hj
    obtain ⟨t1, t2, t3⟩ := turn_32 j hj
    rw [show (18446744073709551616 : Nat) = 2 ^ 64 by decide, Nat.testBit_or, Nat.testBit_mod_two_pow, Nat.testBit_mul_two_pow, Nat.testBit_div_two_pow, decide_eq_true hj, Bool.true_and]
    by_cases h : j < 32
    · rw [decide_eq_false (show ¬ 32 ≤ j by omega), Bool.false_and, Bool.or_false, t1 h]
    · rw [decide_eq_true (show 32 ≤ j by omega), Bool.true_and, t2 h]
      have : x5.testBit (j + 32) = false := Nat.testBit_lt_two_pow (Nat.lt_of_lt_of_le (show x5 < 2 ^ 64 from l5) (Nat.pow_le_pow_right (by decide) (by omega)))
      rw [this, Bool.false_or]
  show ((x5 / 2 ^ 32) ||| (x5 * 2 ^ 32 % 18446744073709551616)).testBit i = _
  have c1 := (turn_32 i hi).2.2
  have c2 := (swp_all 16 (by simp)).2.2 _ c1
  have c3 := (swp_all 8 (by simp)).2.2 _ c2
  have c4 := (swp_all 4 (by simp)).2.2 _ c3
  have c5 := (swp_all 2 (by simp)).2.2 _ c4
  rw [hl i hi, b5 _ c1, b4 _ c2, b3 _ c3, b2 _ c4, b1 _ c5, turn_last i hi]
theorem swp_go {x M s : Nat} {Mi p : Int} (hx : x < 18446744073709551616) (hM : M < 18446744073709551616) (hMi : Mi = (M : Int)) (hp : p = ((2 ^ s : Nat) : Int)) :
    Go.bits .or .u64 (Go.bits .and .u64 ((x : Int) / p) Mi) (IntKind.u64.wrap ((Go.bits .and .u64 (x : Int) Mi) * p)) = ((swp x M s : Nat) : Int) := by
  subst hMi hp
  rw [nat_div, and64 (shr64_lt hx s) hM, and64 hx hM]
  have h : IntKind.u64.wrap (((x &&& M : Nat) : Int) * ((2 ^ s : Nat) : Int)) = (((x &&& M) * 2 ^ s % 18446744073709551616 : Nat) : Int) := by
    rw [← Int.natCast_mul]; exact wrapu_mod _
  rw [h, or64 (Nat.lt_of_le_of_lt Nat.and_le_right hM) (shl64_lt _ _)]
  rfl
theorem bits_Reverse64.eq {a : Nat} (ha : a < 18446744073709551616) : bits_Reverse64.f (a : Int) = some ((rev64 a : Nat) : Int) := by
  unfold bits_Reverse64.f
  have l1 := swp_lt (x := a) (M := 6148914691236517205) 1 (by decide)
  rw [swp_go (s := 1) (p := 2) (Mi := 6148914691236517205) (M := 6148914691236517205) ha (by decide) rfl rfl]
  have l2 := swp_lt (x := swp a 6148914691236517205 1) (M := 3689348814741910323) 2 (by decide)
  rw [swp_go (s := 2) (p := 4) (Mi := 3689348814741910323) (M := 3689348814741910323) l1 (by decide) rfl rfl]
  have l3 := swp_lt (x := swp (swp a 6148914691236517205 1) 3689348814741910323 2) (M := 1085102592571150095) 4 (by decide)
  rw [swp_go (s := 4) (p := 16) (Mi := 1085102592571150095) (M := 1085102592571150095) l2 (by decide) rfl rfl]
  unfold bits_ReverseBytes64.f rev64
  generalize swp (swp (swp a 6148914691236517205 1) 3689348814741910323 2) 1085102592571150095 4 = x at *
  have l4 := swp_lt (x := x) (M := 71777214294589695) 8 (by decide)
  rw [swp_go (s := 8) (p := 256) (Mi := 71777214294589695) (M := 71777214294589695) l3 (by decide) rfl rfl]
  have l5 := swp_lt (x := swp x 71777214294589695 8) (M := 281470681808895) 16 (by decide)
  rw [swp_go (s := 16) (p := 65536) (Mi := 281470681808895) (M := 281470681808895) l4 (by decide) rfl rfl]
  generalize swp (swp x 71777214294589695 8) 281470681808895 16 = y at *
  show some _ = some _
  congr 1
  have h : IntKind.u64.wrap ((y : Int) * 4294967296) = ((y * 2 ^ 32 % 18446744073709551616 : Nat) : Int) := by
    rw [show ((y : Int) * 4294967296) = ((y * 2 ^ 32 : Nat) : Int) by omega]; exact wrapu_mod _
  have h2 : (y : Int) / 4294967296 = ((y / 2 ^ 32 : Nat) : Int) := by omega
  rw [h, h2, or64 (shr64_lt l5 32) (shl64_lt _ _)]
/-- the first n + 1 bits turned around. -/
def rv (n a : Nat) : Nat := rev64 a / 2 ^ (63 - n)
theorem rv_bit {a n : Nat} (ha : a < 18446744073709551616) (hn : n ≤ 63) (i : Nat) : (rv n a).testBit i = (decide (i ≤ n) && a.testBit (n - i)) := by
  unfold rv
  rw [Nat.testBit_div_two_pow]
  by_cases h : i ≤ n
  · rw [rev64_bit ha _ (by omega), decide_eq_true h, Bool.true_and]; congr 1; omega
  · rw [decide_eq_false h, Bool.false_and]
    exact Nat.testBit_lt_two_pow (Nat.lt_of_lt_of_le (show rev64 a < 2 ^ 64 from rev64_lt) (Nat.pow_le_pow_right (by decide) (by omega)))
theorem rv_lt {a n : Nat} : rv n a < 18446744073709551616 := shr64_lt rev64_lt _
end Go.Proofs.Ytofdnjlcnpaecaa.P
