import Derived.Test.YtofdnjlcnpaecaaBr7
import Derived.Test.YtofdnjlcnpaecaaP11
import Derived.Test.YtofdnjlcnpaecaaP12
namespace Go.Proofs.Ytofdnjlcnpaecaa.P
open Go.RowKit Go.Proofs.YtofdnjlcnpaecaaW.PrintWords Go.Proofs.YtofdnjlcnpaecaaW.PrintLast Go.Proofs.YtofdnjlcnpaecaaW.PrintMore
set_option linter.unusedVariables false
set_option linter.unusedSimpArgs false
theorem cast_ne {b : Nat} (h : b ≠ 0) : ¬ (b : Int) = 0 := fun e => h (Int.ofNat_eq_zero.1 e)
theorem cast_zero {b : Nat} (h : b = 0) : (b : Int) = 0 := by rw [h]; rfl
theorem quo_le {a b : Nat} (hb : b ≠ 0) (ha : a < 18446744073709551616) : Gf.quo a b < 18446744073709551616 := by
  by_cases hq : Gf.quo a b = 0
  · rw [hq]; decide
  · have h := Gf.div_eq a b hb
    have h1 : Gf.mul (Gf.quo a b) b = a ^^^ Gf.rem a b := (Gf.xor_eq_iff.1 h.symm)
    have h2 : a ^^^ Gf.rem a b < 2 ^ 64 := by
      by_cases hl : b.log2 < 64
      · exact Gf.xor_lt (by rw [pow64]; exact ha) (Nat.lt_of_lt_of_le (Gf.rem_lt a b hb) (Nat.pow_le_pow_right (by decide) (Nat.le_of_lt hl)))
      · have hlt : a < 2 ^ b.log2 := Nat.lt_of_lt_of_le (by rw [pow64]; exact ha) (Nat.pow_le_pow_right (by decide) (Nat.le_of_not_lt hl))
        rw [Gf.rem_of_lt hb hlt, Nat.xor_self]; exact Nat.two_pow_pos 64
    rw [← h1] at h2
    have h3 := (Gf.mul_size hq hb).1
    have h4 : 2 ^ ((Gf.quo a b).log2 + b.log2) < 2 ^ 64 := Nat.lt_of_le_of_lt h3 h2
    have h5 := (Nat.pow_lt_pow_iff_right (a := 2) (by decide)).1 h4
    have h6 := Gf.lt_pow_log2 (Gf.quo a b)
    have h7 := Nat.pow_le_pow_right (n := 2) (by decide) (show (Gf.quo a b).log2 + 1 ≤ 64 by omega)
    rw [pow64] at h7
    exact Nat.lt_of_lt_of_le h6 h7
theorem poly_Div.ev {a b : Nat} (ha : a < 18446744073709551616) (hb : b ≠ 0) (hb64 : b < 18446744073709551616) : Ev (fun k => poly_Div.f k (a : Int) (b : Int)) (((Gf.quo a b : Nat) : Int), ((Gf.rem a b : Nat) : Int), 0) := by
  unfold poly_Div.f
  refine Ev.neg (cast_ne hb) ?_
  have h := poly_long.ev (h := 0) (l := a) (b := b) (by decide) ha hb hb64
  rw [whole_zero, Nat.mod_eq_of_lt (quo_le hb ha)] at h
  exact Ev.bind h (Ev.now _)
theorem poly_Div.zero (k : Nat) (a : Int) : poly_Div.f k a 0 = some (0, 0, 20) := by unfold poly_Div.f; rw [if_pos rfl]
/-! ### products and powers modulo -/
theorem poly_MulMod.ev {a b m : Nat} (ha : a < 18446744073709551616) (hb : b < 18446744073709551616) (hm : m ≠ 0) (hm64 : m < 18446744073709551616) : Ev (fun k => poly_MulMod.f k (a : Int) (b : Int) (m : Int)) (((Gf.rem (Gf.mul a b) m : Nat) : Int), 0) := by
  unfold poly_MulMod.f
  refine Ev.neg (cast_ne hm) (Ev.bind (poly_Mul.ev ha hb) ?_)
  have h := poly_long.ev (hi_lt ha hb) (lo_lt a b) hm hm64
  rw [whole_mul] at h
  exact Ev.bind h (Ev.now _)
theorem outpostref02_MulMod.ev {a b m : Nat} (ha : a < 18446744073709551616) (hb : b < 18446744073709551616) (hm : m ≠ 0) (hm64 : m < 18446744073709551616) : Ev (fun k => outpostref02_MulMod.f k (a : Int) (b : Int) (m : Int)) (((Gf.rem (Gf.mul a b) m : Nat) : Int), 0) := by
  unfold outpostref02_MulMod.f
  refine Ev.neg (cast_ne hm) (Ev.bind (outpostref02_Mul.ev ha hb) ?_)
  have h := outpostref02_Whole.ev (hi_lt ha hb) (lo_lt a b) hm hm64
  rw [whole_mul] at h
  exact Ev.bind h (Ev.now _)
/-- powers -/
def pw (a : Nat) : Nat → Nat
  | 0 => 1
  | n + 1 => Gf.mul (pw a n) a
theorem pw_add (a n m : Nat) : pw a (n + m) = Gf.mul (pw a n) (pw a m) := by
  induction m with
  | zero => simp [pw, Gf.mul_one]
  | succ m ih => rw [← Nat.add_assoc, pw, ih, pw, Gf.mul_assoc]
theorem pw_sq (a n : Nat) : pw (Gf.mul a a) n = pw a (2 * n) := by
  induction n with
  | zero => rfl
  | succ n ih => rw [pw, ih, show 2 * (n + 1) = 2 * n + 1 + 1 by omega, pw, pw, Gf.mul_assoc]
theorem pw_half (a n : Nat) : pw a n = if n % 2 = 1 then Gf.mul a (pw (Gf.mul a a) (n / 2)) else pw (Gf.mul a a) (n / 2) := by
  rw [pw_sq]
  rcases Nat.mod_two_eq_zero_or_one n with h | h
  · rw [if_neg (by omega)]; congr 1; omega
  · rw [if_pos h]
    have : n = 2 * (n / 2) + 1 := by omega
    conv => lhs; rw [this, pw, Gf.mul_comm]
theorem rem_mul_both (a b m : Nat) (hm : m ≠ 0) : Gf.rem (Gf.mul (Gf.rem a m) (Gf.rem b m)) m = Gf.rem (Gf.mul a b) m := by rw [Gf.rem_mul_left _ _ _ hm, Gf.rem_mul_right _ _ _ hm]
theorem rem_pw (a m n : Nat) (hm : m ≠ 0) : Gf.rem (pw (Gf.rem a m) n) m = Gf.rem (pw a n) m := by
  induction n with
  | zero => rfl
  | succ n ih => rw [pw, pw, Gf.rem_mul_right _ _ _ hm, ← Gf.rem_mul_left _ _ _ hm, ih, Gf.rem_mul_left _ _ _ hm]
theorem poly_power.ev {m : Nat} (hm : m ≠ 0) (hm64 : m < 18446744073709551616) : ∀ (d n one x : Nat), n < 2 ^ d → n < 18446744073709551616 → one < 18446744073709551616 → Gf.rem one m = one → x < 18446744073709551616 →
    Ev (fun k => poly_power.l0 k (one : Int) (x : Int) (n : Int) (m : Int)) ((Gf.rem (Gf.mul one (pw x n)) m : Nat) : Int) := by
  intro d
  have stop : ∀ (one x : Nat), Gf.rem one m = one → Ev (fun k => poly_power.l0 k (one : Int) (x : Int) ((0 : Nat) : Int) (m : Int)) ((Gf.rem (Gf.mul one (pw x 0)) m : Nat) : Int) := by
    intro one x h
    rw [pw, Gf.mul_one, h]
    refine Ev.step (f := fun _ => some _) (fun k => ?_) (Ev.now _)
    simp only [poly_power.l0]
    rw [if_neg (by decide)]
  induction d with
  | zero =>
    intro n one x hn _ _ h1 _
    have : n = 0 := by omega
    subst this
    exact stop one x h1
  | succ d ih =>
    intro n one x hn hn64 hone h1 hx
    by_cases h0 : n = 0
    · subst h0; exact stop one x h1
    · have c1 : (n : Int) > 0 := by omega
      have hd : (n : Int) / 2 = ((n / 2 : Nat) : Int) := rfl
      have hx2 : Gf.rem (Gf.mul x x) m < 18446744073709551616 := rem_lt64 hm hm64
      have hn2 : n / 2 < 2 ^ d := by rw [Nat.pow_succ] at hn; omega
      have hn3 : n / 2 < 18446744073709551616 := by omega
      have hp : ∀ o : Nat, Gf.rem (Gf.mul o (pw (Gf.rem (Gf.mul x x) m) (n / 2))) m = Gf.rem (Gf.mul o (pw (Gf.mul x x) (n / 2))) m := by
        intro o
        rw [← Gf.rem_mul_right _ _ _ hm, rem_pw _ _ _ hm, Gf.rem_mul_right _ _ _ hm]
      rcases Nat.mod_two_eq_zero_or_one n with h2 | h2
      · have hh := ih (n / 2) one (Gf.rem (Gf.mul x x) m) hn2 hn3 hone h1 hx2
        rw [hp] at hh
        have e : pw x n = pw (Gf.mul x x) (n / 2) := by rw [pw_half x n, if_neg (by omega)]
        rw [e]
        have hb := Ev.bind (poly_MulMod.ev hx hx hm hm64) (f := fun k b => poly_power.l0 k (one : Int) b.1 ((n / 2 : Nat) : Int) (m : Int)) hh
        refine Ev.step (fun k => ?_) hb
        simp only [poly_power.l0]
        rw [if_pos c1, and64_one hn64, h2, if_pos (by decide), hd]
      · have ho2 : Gf.rem (Gf.mul one x) m < 18446744073709551616 := rem_lt64 hm hm64
        have hh := ih (n / 2) (Gf.rem (Gf.mul one x) m) (Gf.rem (Gf.mul x x) m) hn2 hn3 ho2 (Gf.rem_rem _ _ hm) hx2
        rw [hp, Gf.rem_mul_left _ _ _ hm, Gf.mul_assoc] at hh
        have e : pw x n = Gf.mul x (pw (Gf.mul x x) (n / 2)) := by rw [pw_half x n, if_pos h2]
        rw [e]
        have hb := Ev.bind (poly_MulMod.ev hone hx hm hm64) (f := fun k b => (poly_MulMod.f k (x : Int) (x : Int) (m : Int)).bind fun c => poly_power.l0 k b.1 c.1 ((n / 2 : Nat) : Int) (m : Int)) (Ev.bind (poly_MulMod.ev hx hx hm hm64) hh)
        refine Ev.step (fun k => ?_) hb
        simp only [poly_power.l0]
        rw [if_pos c1, and64_one hn64, h2, if_neg (by decide), hd]
theorem poly_PowMod.ev {a n m : Nat} (ha : a < 18446744073709551616) (hn : n < 18446744073709551616) (hm : m ≠ 0) (hm64 : m < 18446744073709551616) : Ev (fun k => poly_PowMod.f k (a : Int) (n : Int) (m : Int)) (((Gf.rem (pw a n) m : Nat) : Int), 0) := by
  unfold poly_PowMod.f
  refine Ev.pos (Int.natCast_nonneg n) (Ev.neg (cast_ne hm) ?_)
  have h1 := poly_rest.ev (a := 1) (by decide) hm hm64
  have h2 := poly_power.ev hm hm64 64 n (Gf.rem 1 m) a (by rw [pow64]; exact hn) hn (rem_lt64 hm hm64) (Gf.rem_rem _ _ hm) ha
  rw [Gf.rem_mul_left _ _ _ hm, Gf.one_mul] at h2
  exact Ev.bind h1 (Ev.bind h2 (Ev.now _))
theorem outpostref02_PowMod.ev_l0 {a n m : Nat} (ha : a < 18446744073709551616) (hn : n < 18446744073709551616) (hm : m ≠ 0) (hm64 : m < 18446744073709551616) : ∀ i : Nat, i ≤ 64 →
    Ev (fun k => outpostref02_PowMod.l0 k (a : Int) (n : Int) (m : Int) ((Gf.rem (pw a (n / 2 ^ i)) m : Nat) : Int) ((i : Int) - 1)) (((Gf.rem (pw a n) m : Nat) : Int), 0) := by
  intro i
  induction i with
  | zero =>
    intro _
    have : n / 2 ^ 0 = n := by simp
    rw [this]
    refine Ev.step (f := fun _ => some _) (fun k => ?_) (Ev.now _)
    simp only [outpostref02_PowMod.l0]
    rw [if_neg (by decide)]
  | succ j ih =>
    intro hj
    have hh := ih (by omega)
    have hw : wrap64 ((j : Int) - 1) = (j : Int) - 1 := wrap_pred j (by omega)
    have i1 : (((1 : Nat) : Int) = 1) = True := by simp
    have i0 : (((0 : Nat) : Int) = 1) = False := by simp
    have hc1 : ((j + 1 : Nat) : Int) - 1 = (j : Int) := by omega
    have e : n / 2 ^ (j + 1) = n / 2 ^ j / 2 := by rw [Nat.div_div_eq_div_mul, ← Nat.pow_succ]
    have ht := testBit_div n j
    have hx : Gf.rem (pw a (n / 2 ^ (j + 1))) m < 18446744073709551616 := rem_lt64 hm hm64
    have hsq : Gf.rem (Gf.mul (Gf.rem (pw a (n / 2 ^ (j + 1))) m) (Gf.rem (pw a (n / 2 ^ (j + 1))) m)) m = Gf.rem (pw a (2 * (n / 2 ^ (j + 1)))) m := by
      rw [rem_mul_both _ _ _ hm, ← pw_add]; congr 2; omega
    have hx2 : Gf.rem (pw a (2 * (n / 2 ^ (j + 1)))) m < 18446744073709551616 := rem_lt64 hm hm64
    have h1 := outpostref02_MulMod.ev hx hx hm hm64
    rw [hsq] at h1
    by_cases hb : n.testBit j = true
    · have hm1 : Gf.rem (Gf.mul (Gf.rem (pw a (2 * (n / 2 ^ (j + 1)))) m) a) m = Gf.rem (pw a (n / 2 ^ j)) m := by
        rw [Gf.rem_mul_left _ _ _ hm]
        have : n / 2 ^ j = 2 * (n / 2 ^ (j + 1)) + 1 := by rw [if_pos hb] at ht; rw [e]; omega
        rw [this, pw]
      have h2 := outpostref02_MulMod.ev hx2 ha hm hm64
      rw [hm1] at h2
      have hb2 := Ev.bind h1 (f := fun k b => (outpostref02_MulMod.f k b.1 (a : Int) (m : Int)).bind fun c => outpostref02_PowMod.l0 k (a : Int) (n : Int) (m : Int) c.1 ((j : Int) - 1)) (Ev.bind h2 hh)
      refine Ev.step (fun k => ?_) hb2
      simp only [outpostref02_PowMod.l0]
      rw [hc1, if_pos (Int.natCast_nonneg _), outpostref02_Bit.eq hn (by omega), if_pos hb, hw]
      simp only [Option.bind_some, i1, if_true]
    · have hb0 : n / 2 ^ j = 2 * (n / 2 ^ (j + 1)) := by rw [if_neg hb] at ht; rw [e]; omega
      rw [hb0] at hh
      have hb2 := Ev.bind h1 (f := fun k b => outpostref02_PowMod.l0 k (a : Int) (n : Int) (m : Int) b.1 ((j : Int) - 1)) hh
      refine Ev.step (fun k => ?_) hb2
      simp only [outpostref02_PowMod.l0]
      rw [hc1, if_pos (Int.natCast_nonneg _), outpostref02_Bit.eq hn (by omega), if_neg hb, hw]
      simp only [Option.bind_some, i0, if_false]
theorem outpostref02_PowMod.ev {a n m : Nat} (ha : a < 18446744073709551616) (hn : n < 18446744073709551616) (hm : m ≠ 0) (hm64 : m < 18446744073709551616) : Ev (fun k => outpostref02_PowMod.f k (a : Int) (n : Int) (m : Int)) (((Gf.rem (pw a n) m : Nat) : Int), 0) := by
  unfold outpostref02_PowMod.f
  refine Ev.neg (cast_ne hm) ?_
  have h := outpostref02_Whole.ev (h := 0) (l := 1) (by decide) (by decide) hm hm64
  rw [whole_zero] at h
  have h2 := outpostref02_PowMod.ev_l0 ha hn hm hm64 64 (by decide)
  have e : n / 2 ^ 64 = 0 := Nat.div_eq_of_lt (by rw [pow64]; exact hn)
  rw [e] at h2
  exact Ev.bind h h2
end Go.Proofs.Ytofdnjlcnpaecaa.P
