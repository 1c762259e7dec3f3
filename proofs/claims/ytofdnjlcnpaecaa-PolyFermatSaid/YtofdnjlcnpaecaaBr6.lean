import Derived.Test.YtofdnjlcnpaecaaBr5
namespace Go.Proofs.Ytofdnjlcnpaecaa.P
open Go.RowKit Go.Proofs.YtofdnjlcnpaecaaW.PrintWords Go.Proofs.YtofdnjlcnpaecaaW.PrintLast Go.Proofs.YtofdnjlcnpaecaaW.PrintMore
set_option linter.unusedVariables false
set_option linter.unusedSimpArgs false
/-! ### the derivative -/
def drv (a : Nat) : Nat := a / 2 &&& 6148914691236517205
theorem mask_bit (t : Nat) : (6148914691236517205 : Nat).testBit t = (decide (t < 64) && decide (t % 2 = 0)) := by
  by_cases h : t < 64
  · have : ∀ t : Nat, t < 64 → (6148914691236517205 : Nat).testBit t = decide (t % 2 = 0) := by decide +kernel
    rw [this t h]; simp [h]
  · rw [Nat.testBit_lt_two_pow (Nat.lt_of_lt_of_le (show 6148914691236517205 < 2 ^ 64 by decide) (Nat.pow_le_pow_right (by decide) (Nat.le_of_not_lt h)))]
    simp [h]
theorem drv_bit (a t : Nat) : (drv a).testBit t = (a.testBit (t + 1) && (decide (t < 64) && decide (t % 2 = 0))) := by
  unfold drv
  rw [Nat.testBit_and, mask_bit]
  have : a / 2 = a / 2 ^ 1 := by simp
  rw [this, Nat.testBit_div_two_pow]
theorem drv_lt (a : Nat) : drv a < 18446744073709551616 := Nat.lt_of_le_of_lt Nat.and_le_right (by decide)
theorem poly_Derive.eq {a : Nat} (ha : a < 18446744073709551616) : poly_Derive.f (a : Int) = some ((drv a : Nat) : Int) := by
  unfold poly_Derive.f drv
  have d : (a : Int) / 2 = ((a / 2 : Nat) : Int) := rfl
  rw [d]
  have := and64 (x := a / 2) (y := 6148914691236517205) (Nat.lt_of_le_of_lt (Nat.div_le_self _ _) ha) (by decide)
  exact congrArg some this
theorem drv_step (a j : Nat) (hj : j % 2 = 0) (hlt : j < 64) : drv a % 2 ^ j ||| (if a.testBit (j + 1) then 1 else 0) * 2 ^ j = drv a % 2 ^ (j + 2) := by
  apply Nat.eq_of_testBit_eq
  intro t
  have e : (if a.testBit (j + 1) = true then 1 else 0) * 2 ^ j = if a.testBit (j + 1) = true then 2 ^ j else 0 := by split <;> simp
  rw [Nat.testBit_or, Nat.testBit_mod_two_pow, Nat.testBit_mod_two_pow, e]
  have e2 : (if a.testBit (j + 1) = true then 2 ^ j else 0).testBit t = (a.testBit (j + 1) && decide (j = t)) := by
    cases a.testBit (j + 1) <;> simp [Nat.testBit_two_pow]
  rw [e2, drv_bit]
  by_cases h1 : t < j
  · have : ¬ j = t := by omega
    have h2 : t < j + 2 := by omega
    simp [h1, this, h2]
  · by_cases h2 : t = j
    · subst h2; simp [hlt, hj]
    · have h3 : ¬ j = t := fun e => h2 e.symm
      by_cases h4 : t < j + 2
      · have h5 : ¬ t % 2 = 0 := by omega
        simp [h1, h3, h4, h5]
      · simp [h1, h3, h4]
theorem outpostref02_Derive.ev_l0 {a : Nat} (ha : a < 18446744073709551616) : ∀ d n : Nat, n + d = 32 →
    Ev (fun k => outpostref02_Derive.l0 k (a : Int) ((drv a % 2 ^ (2 * n) : Nat) : Int) ((2 * n + 1 : Nat) : Int)) ((drv a : Nat) : Int) := by
  intro d
  induction d with
  | zero =>
    intro n hn
    have : n = 32 := by omega
    subst this
    refine Ev.step (f := fun _ => some _) (fun k => ?_) (Ev.now _)
    simp only [outpostref02_Derive.l0]
    rw [if_neg (by decide)]
    congr 2
    exact Nat.mod_eq_of_lt (drv_lt a)
  | succ d ih =>
    intro n hn
    have h := ih (n + 1) (by omega)
    have hw : wrap64 (((2 * n + 1 : Nat) : Int) - 1) = ((2 * n : Nat) : Int) := by unfold wrap64; omega
    have hw2 : wrap64 (((2 * n + 1 : Nat) : Int) + 2) = ((2 * (n + 1) + 1 : Nat) : Int) := by unfold wrap64; omega
    have c1 : ((2 * n + 1 : Nat) : Int) < 64 := by omega
    have hb : 2 * n + 1 < 18446744073709551616 := by omega
    have hb2 : 2 * n < 18446744073709551616 := by omega
    have hst := drv_step a (2 * n) (by omega) (by omega)
    have e : 2 * (n + 1) = 2 * n + 2 := by omega
    have hlt : (if a.testBit (2 * n + 1) then 1 else 0) * 2 ^ (2 * n) < 18446744073709551616 := by
      have h1 : (2 : Nat) ^ (2 * n) < 2 ^ 64 := Nat.pow_lt_pow_right (by decide) (by omega)
      rw [pow64] at h1
      split
      · rw [Nat.one_mul]; exact h1
      · simp
    refine Ev.step (fun k => ?_) h
    simp only [outpostref02_Derive.l0]
    rw [if_pos c1, outpostref02_Bit.eq ha hb]
    simp only [Option.bind_some]
    rw [hw, wrapu_nat hb2, if_pos (Int.natCast_nonneg _), shl64, Nat.mod_eq_of_lt hlt, or64 (mod_lt64 (drv_lt a)) hlt, hst, hw2, e]
theorem outpostref02_Derive.ev {a : Nat} (ha : a < 18446744073709551616) : Ev (fun k => outpostref02_Derive.f k (a : Int)) ((drv a : Nat) : Int) := by
  have h := outpostref02_Derive.ev_l0 ha 32 0 (by decide)
  have : drv a % 2 ^ (2 * 0) = 0 := by simp [Nat.mod_one]
  rw [this] at h
  exact h
/-- an argument of the machine as a natural number -/
theorem u64_nat {a : Int} (h : (Lit.int .u64 a).wf = true) : ∃ n : Nat, a = n ∧ n < 18446744073709551616 := by
  have hx : 0 ≤ a ∧ a ≤ 18446744073709551615 := by simpa [Lit.wf, IntKind.min, IntKind.max, IntKind.signed, IntKind.bits] using h
  exact ⟨a.toNat, by omega, by omega⟩
end Go.Proofs.Ytofdnjlcnpaecaa.P
