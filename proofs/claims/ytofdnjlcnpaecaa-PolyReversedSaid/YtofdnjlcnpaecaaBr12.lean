/- Turning words around, the calls: what the program and the reference compute. No condition. -/
import Derived.Test.YtofdnjlcnpaecaaBr11
set_option linter.unusedVariables false
namespace Go.Proofs.Ytofdnjlcnpaecaa.P
open Go.RowKit Go.Proofs.YtofdnjlcnpaecaaW.PrintWords Go.Proofs.YtofdnjlcnpaecaaW.PrintLast Go.Proofs.YtofdnjlcnpaecaaW.PrintMore
/-- the answer of both. -/
def rvOk (a : Nat) (n : Int) : Prop := 0 ≤ n ∧ n ≤ 63 ∧ dg a ≤ n
theorem lt_of_dg {a n : Nat} (h : dg a ≤ n) : a < 2 ^ (n + 1) := by
  have h1 := dg_bound (a := a)
  have h2 := dg_ge a
  exact Nat.lt_of_lt_of_le h1 (Nat.pow_le_pow_right (by decide) (by omega))
theorem poly_Reverse.ev {a : Nat} (ha : a < 18446744073709551616) {n : Nat} (hn : n ≤ 63) (hd : dg a ≤ n) : Ev (fun k => poly_Reverse.f k (a : Int) (n : Int)) (((rv n a : Nat) : Int), 0) := by
  unfold poly_Reverse.f
  refine Ev.neg (by omega) (Ev.neg (by omega) (Ev.bind (poly_Degree.ev ha) (Ev.neg (by omega) (Ev.some_bind (bits_Reverse64.eq ha) ?_))))
  have h : wrap64 (63 - (n : Int)) = ((63 - n : Nat) : Int) := by unfold wrap64; omega
  rw [h, shr64 rev64_lt]
  exact Ev.pos (by omega) (Ev.now _)
theorem poly_Reverse.bad {a : Nat} (ha : a < 18446744073709551616) {n : Int} (h : ¬ rvOk a n) : Ev (fun k => poly_Reverse.f k (a : Int) n) (0, 21) := by
  unfold poly_Reverse.f
  by_cases h1 : n < 0
  · exact Ev.pos h1 (Ev.now _)
  · by_cases h2 : n > 63
    · exact Ev.neg h1 (Ev.pos h2 (Ev.now _))
    · refine Ev.neg h1 (Ev.neg h2 (Ev.bind (poly_Degree.ev ha) (Ev.pos ?_ (Ev.now _))))
      unfold rvOk at h; omega
theorem rv_mod {a n i : Nat} (ha : a < 18446744073709551616) (hn : n ≤ 63) (hi : i ≤ n) : rv n (a % 2 ^ i) ||| (if a.testBit i then 1 else 0) * 2 ^ (n - i) % 18446744073709551616 = rv n (a % 2 ^ (i + 1)) := by
  apply Nat.eq_of_testBit_eq; intro j
  have hsb : ∀ X : Nat, (X * 2 ^ (n - i) % 18446744073709551616).testBit j = (decide (j < 64) && (decide (n - i ≤ j) && X.testBit (j - (n - i)))) := by
    intro X
    rw [show (18446744073709551616 : Nat) = 2 ^ 64 by decide, Nat.testBit_mod_two_pow, Nat.testBit_mul_two_pow]
  rw [Nat.testBit_or, rv_bit (mod_lt64 ha) hn, rv_bit (mod_lt64 ha) hn, hsb, Nat.testBit_mod_two_pow, Nat.testBit_mod_two_pow]
  have hb : ∀ t : Nat, (if a.testBit i then 1 else 0 : Nat).testBit t = (decide (t = 0) && a.testBit i) := by
    intro t
    cases a.testBit i
    · simp
    · cases t with
      | zero => rfl
      | succ t => simp [Nat.testBit_succ]
  rw [hb]
  by_cases h : j ≤ n
  · rw [decide_eq_true h, Bool.true_and, Bool.true_and]
    by_cases h1 : j = n - i
    · have e : n - j = i := by omega
      rw [e, decide_eq_false (show ¬ i < i by omega), Bool.false_and, Bool.false_or, decide_eq_true (show j < 64 by omega), decide_eq_true (show n - i ≤ j by omega), decide_eq_true (show j - (n - i) = 0 by omega), decide_eq_true (show i < i + 1 by omega)]
      rfl
    · by_cases h2 : n - j < i
      · rw [decide_eq_true h2, decide_eq_true (show n - j < i + 1 by omega), decide_eq_false (show ¬ j - (n - i) = 0 by omega)]
        simp
      · rw [decide_eq_false h2, decide_eq_false (show ¬ n - j < i + 1 by omega), decide_eq_false (show ¬ n - i ≤ j by omega)]
        simp
  · rw [decide_eq_false h, decide_eq_false (show ¬ j - (n - i) = 0 by omega)]
    simp
theorem rv_zero (n : Nat) (hn : n ≤ 63) : rv n 0 = 0 := by
  apply Nat.eq_of_testBit_eq; intro j
  rw [rv_bit (by decide) hn]; simp
theorem outpostref02_Reverse.ev_l0 {a n : Nat} (ha : a < 18446744073709551616) (hn : n ≤ 63) : ∀ d i : Nat, i + d = n + 1 →
    Ev (fun k => outpostref02_Reverse.l0 k (a : Int) (n : Int) ((rv n (a % 2 ^ i) : Nat) : Int) (i : Int)) (((rv n (a % 2 ^ (n + 1)) : Nat) : Int), 0) := by
  intro d
  induction d with
  | zero =>
    intro i h
    obtain rfl : i = n + 1 := by omega
    refine Ev.step (f := fun _ => some (((rv n (a % 2 ^ (n + 1)) : Nat) : Int), 0)) (fun k => ?_) (Ev.now _)
    simp only [outpostref02_Reverse.l0]
    rw [if_neg (show ¬ ((n + 1 : Nat) : Int) ≤ (n : Int) by omega)]
  | succ d ih =>
    intro i h
    have hb := outpostref02_Bit.eq (i := i) ha (by omega)
    refine Ev.step (f := fun k => outpostref02_Reverse.l0 k (a : Int) (n : Int) ((rv n (a % 2 ^ (i + 1)) : Nat) : Int) ((i + 1 : Nat) : Int)) (fun k => ?_) (ih (i + 1) (by omega))
    simp only [outpostref02_Reverse.l0]
    have e1 : IntKind.u64.wrap (wrap64 ((n : Int) - (i : Int))) = ((n - i : Nat) : Int) := by
      rw [wrap_sub n i (by omega) (by omega)]; exact wrapu_nat (by omega)
    have e2 : wrap64 ((i : Int) + 1) = ((i + 1 : Nat) : Int) := by unfold wrap64; omega
    rw [if_pos (show (i : Int) ≤ (n : Int) by omega), hb, Option.bind_some, e1, e2, if_pos (by omega), shl64, or64 rv_lt (shl64_lt _ _), rv_mod ha hn (by omega)]
theorem outpostref02_Reverse.ev {a : Nat} (ha : a < 18446744073709551616) {n : Nat} (hn : n ≤ 63) (hd : dg a ≤ n) : Ev (fun k => outpostref02_Reverse.f k (a : Int) (n : Int)) (((rv n a : Nat) : Int), 0) := by
  unfold outpostref02_Reverse.f
  refine Ev.neg (by omega) (Ev.neg (by omega) (Ev.bind (outpostref02_Degree.ev ha) ?_))
  rw [decide_eq_false (show ¬ dg a > n by omega)]
  have h := outpostref02_Reverse.ev_l0 ha hn (n + 1) 0 (by omega)
  rw [Nat.mod_eq_of_lt (lt_of_dg hd), Nat.pow_zero, Nat.mod_one, rv_zero n hn] at h
  refine Ev.step (fun k => ?_) h
  simp only [outpostref02_Reverse.j0]; rfl
theorem outpostref02_Reverse.bad {a : Nat} (ha : a < 18446744073709551616) {n : Int} (h : ¬ rvOk a n) : Ev (fun k => outpostref02_Reverse.f k (a : Int) n) (0, 21) := by
  have hj : Ev (fun k => outpostref02_Reverse.j0 k (a : Int) n true) (0, 21) := Ev.step (f := fun _ => some (0, 21)) (fun k => by simp only [outpostref02_Reverse.j0]; rfl) (Ev.now _)
  unfold outpostref02_Reverse.f
  by_cases h1 : n < 0
  · exact Ev.pos h1 hj
  · by_cases h2 : n > 63
    · exact Ev.neg h1 (Ev.pos h2 hj)
    · refine Ev.neg h1 (Ev.neg h2 (Ev.bind (outpostref02_Degree.ev ha) ?_))
      rw [decide_eq_true (show dg a > n by unfold rvOk at h; omega)]
      exact hj
/-- turned twice it is what it was. -/
theorem rv_rv {a n : Nat} (ha : a < 18446744073709551616) (hn : n ≤ 63) (hd : dg a ≤ n) : rv n (rv n a) = a := by
  apply Nat.eq_of_testBit_eq; intro j
  rw [rv_bit rv_lt hn, rv_bit ha hn]
  by_cases h : j ≤ n
  · rw [decide_eq_true h, decide_eq_true (show n - j ≤ n by omega), Bool.true_and, Bool.true_and]; congr 1; omega
  · rw [decide_eq_false h, Bool.false_and]
    exact (Nat.testBit_lt_two_pow (Nat.lt_of_lt_of_le (lt_of_dg hd) (Nat.pow_le_pow_right (by decide) (by omega)))).symm
theorem rv_dg {a n : Nat} (ha : a < 18446744073709551616) (hn : n ≤ 63) : dg (rv n a) ≤ n := by
  have h : rv n a < 2 ^ (n + 1) := by
    apply Nat.lt_pow_two_of_testBit
    intro i hi
    rw [rv_bit ha hn, decide_eq_false (show ¬ i ≤ n by omega), Bool.false_and]
  have := dg_le h; omega
theorem rv_xor {a b n : Nat} (ha : a < 18446744073709551616) (hb : b < 18446744073709551616) (hn : n ≤ 63) : rv n (a ^^^ b) = rv n a ^^^ rv n b := by
  apply Nat.eq_of_testBit_eq; intro j
  rw [Nat.testBit_xor, rv_bit (xor64_lt ha hb) hn, rv_bit ha hn, rv_bit hb hn, Nat.testBit_xor]
  cases decide (j ≤ n) <;> simp
theorem rv_shift {b n m i : Nat} (hb : b < 2 ^ (m + 1)) (hnm : n + m ≤ 63) (hi : i ≤ n) : rv (n + m) (b * 2 ^ i) = rv m b * 2 ^ (n - i) := by
  have hb64 : b < 18446744073709551616 := Nat.lt_of_lt_of_le hb (by rw [show (18446744073709551616 : Nat) = 2 ^ 64 by decide]; exact Nat.pow_le_pow_right (by decide) (by omega))
  have hbi : b * 2 ^ i < 18446744073709551616 := by
    have h1 : b * 2 ^ i < 2 ^ (m + 1) * 2 ^ i := Nat.mul_lt_mul_of_pos_right hb (Nat.two_pow_pos i)
    rw [← Nat.pow_add] at h1
    exact lt64_of (n := m + 1 + i) (by omega) h1
  apply Nat.eq_of_testBit_eq; intro j
  rw [rv_bit hbi hnm, Nat.testBit_mul_two_pow, Nat.testBit_mul_two_pow, rv_bit hb64 (by omega)]
  by_cases h1 : n - i ≤ j
  · rw [decide_eq_true h1, Bool.true_and]
    by_cases h2 : j - (n - i) ≤ m
    · rw [decide_eq_true h2, decide_eq_true (show j ≤ n + m by omega), decide_eq_true (show i ≤ n + m - j by omega), Bool.true_and, Bool.true_and, Bool.true_and]
      congr 1; omega
    · rw [decide_eq_false h2, Bool.false_and]
      by_cases h3 : j ≤ n + m
      · rw [decide_eq_false (show ¬ i ≤ n + m - j by omega), Bool.false_and, Bool.and_false]
      · rw [decide_eq_false h3, Bool.false_and]
  · rw [decide_eq_false h1, Bool.false_and, Nat.testBit_lt_two_pow (Nat.lt_of_lt_of_le hb (Nat.pow_le_pow_right (by decide) (show m + 1 ≤ n + m - j - i by omega))), Bool.and_false, Bool.and_false]
/-- it goes with products. -/
theorem rv_mul {a b n m : Nat} (ha : a < 2 ^ (n + 1)) (hb : b < 2 ^ (m + 1)) (hnm : n + m ≤ 63) : Gf.mul (rv n a) (rv m b) = rv (n + m) (Gf.mul a b) := by
  have ha64 : a < 18446744073709551616 := lt64_of (n := n + 1) (by omega) ha
  have hb64 : b < 18446744073709551616 := lt64_of (n := m + 1) (by omega) hb
  have hp : ∀ i, i ≤ n + 1 → Gf.mul (rv n (a % 2 ^ i)) (rv m b) = rv (n + m) (Gf.mul (a % 2 ^ i) b) := by
    intro i
    induction i with
    | zero => intro _; rw [Nat.pow_zero, Nat.mod_one, rv_zero n (by omega), Gf.mul_zero_left, Gf.mul_zero_left, rv_zero _ hnm]
    | succ i ih =>
      intro hi
      have hlt : Gf.mul (a % 2 ^ i) b < 18446744073709551616 := by
        have h1 := Gf.mul_lt (n := i) (m := m) (Nat.mod_lt a (Nat.two_pow_pos i)) hb
        exact lt64_of (n := i + m) (by omega) h1
      have hsh : ∀ t : Bool, (if t then b * 2 ^ i else 0 : Nat) < 18446744073709551616 := by
        intro t
        cases t
        · exact Nat.two_pow_pos 64
        · have h1 : b * 2 ^ i < 2 ^ (m + 1) * 2 ^ i := Nat.mul_lt_mul_of_pos_right hb (Nat.two_pow_pos i)
          rw [← Nat.pow_add] at h1
          exact lt64_of (n := m + 1 + i) (by omega) h1
      have hsp : ∀ t : Bool, (if t then 2 ^ i else 0 : Nat) < 18446744073709551616 := by
        intro t
        cases t
        · exact Nat.two_pow_pos 64
        · exact lt64_of (n := i + 1) (by omega) (Nat.pow_lt_pow_right (by decide) (by omega))
      rw [mul_part, mod_succ, rv_xor (hsp _) (mod_lt64 ha64) (by omega), rv_xor (hsh _) hlt hnm, Gf.xor_mul, ih (by omega)]
      congr 1
      cases a.testBit i
      · simp [rv_zero n (show n ≤ 63 by omega), rv_zero _ hnm, Gf.mul_zero_left]
      · have e1 := rv_shift (b := 1) (n := n) (m := 0) (i := i) (by decide) (by omega) (by omega)
        rw [Nat.one_mul] at e1
        have e0 : rv 0 1 = 1 := by
          apply Nat.eq_of_testBit_eq; intro j
          rw [rv_bit (by decide) (by omega)]
          cases j with
          | zero => rfl
          | succ j => simp [Nat.testBit_succ]
        have e2 := rv_shift (n := n) (i := i) hb hnm (by omega)
        simp only [if_true]
        rw [e2]
        rw [Nat.add_zero, e0, Nat.one_mul] at e1
        rw [e1, Gf.pow_two_mul]
  have h := hp (n + 1) (Nat.le_refl _)
  rw [Nat.mod_eq_of_lt ha] at h
  exact h
theorem i64_int {a : Int} (h : (Lit.int .i64 a).wf = true) : -9223372036854775808 ≤ a ∧ a ≤ 9223372036854775807 := by
  simpa [Lit.wf, IntKind.min, IntKind.max, IntKind.signed, IntKind.bits] using h
end Go.Proofs.Ytofdnjlcnpaecaa.P
