/- The order of x: what the program computes. No condition. -/
import Derived.Test.YtofdnjlcnpaecaaBr10
import Derived.Test.YtofdnjlcnpaecaaGf
import Derived.Test.YtofdnjlcnpaecaaP7
set_option linter.unusedVariables false
namespace Go.Proofs.Ytofdnjlcnpaecaa.P
open Go.RowKit Go.Proofs.YtofdnjlcnpaecaaW.PrintWords Go.Proofs.YtofdnjlcnpaecaaW.PrintLast Go.Proofs.YtofdnjlcnpaecaaW.PrintMore
theorem rem_small {x a : Nat} (ha : a ≠ 0) (h20 : a.log2 ≤ 20) : Gf.rem x a < 1048576 := Nat.lt_of_lt_of_le (Gf.rem_lt x a ha) (Nat.pow_le_pow_right (n := 2) (by decide) h20)
theorem twice_wrap {x : Nat} (h : x < 1048576) : IntKind.u64.wrap ((x : Int) * 2) = ((2 * x : Nat) : Int) := by
  rw [wrapu_int (by omega) (by omega)]; omega
theorem poly_Order.ev_l0 {a N : Nat} (ha : a ≠ 0) (ha64 : a < 18446744073709551616) (h20 : a.log2 ≤ 20) (hN : Gf.Ord a N) (hb : N ≤ 1048576) : ∀ d n : Nat, n + d = N → 1 ≤ n →
    Ev (fun k => poly_Order.l0 k (a : Int) ((Gf.rem 1 a : Nat) : Int) ((Gf.rem (2 ^ n) a : Nat) : Int) (n : Int)) ((N : Int), 0) := by
  intro d
  induction d with
  | zero =>
    intro n h h1
    obtain rfl : n = N := by omega
    refine Ev.step (f := fun _ => some ((n : Int), 0)) (fun k => ?_) (Ev.now _)
    simp only [poly_Order.l0]; rw [hN.one, if_pos rfl]
  | succ d ih =>
    intro n h h1
    have hne : ¬ ((Gf.rem (2 ^ n) a : Nat) : Int) = ((Gf.rem 1 a : Nat) : Int) := fun e => hN.least n h1 (by omega) (Int.ofNat.inj e)
    have hs := rem_small (x := 2 ^ n) ha h20
    refine Ev.step (f := fun k => (poly_rest.f k (IntKind.u64.wrap (((Gf.rem (2 ^ n) a : Nat) : Int) * 2)) (a : Int)).bind fun t127 => (poly_Order.l0 k (a : Int) ((Gf.rem 1 a : Nat) : Int) t127 (wrap64 ((n : Int) + 1)))) (fun k => ?_) ?_
    · simp only [poly_Order.l0]; rw [if_neg hne]
    · rw [twice_wrap hs]
      refine Ev.bind (poly_rest.ev (by omega) ha ha64) ?_
      have e : wrap64 ((n : Int) + 1) = ((n + 1 : Nat) : Int) := by unfold wrap64; omega
      rw [Gf.rem_pow_step ha, e]
      exact ih (n + 1) (by omega) (by omega)
/-- what both answer: the errno of a bad one, or the order. -/
theorem dg_zero : dg 0 = -1 := rfl
theorem poly_Order.ev {a : Nat} (ha64 : a < 18446744073709551616) (h1 : a % 2 = 1) (h20 : a.log2 ≤ 20) {N : Nat} (hN : Gf.Ord a N) (hb : N ≤ 1048576) : Ev (fun k => poly_Order.f k (a : Int)) ((N : Int), 0) := by
  have ha : a ≠ 0 := by omega
  have hd := dg_pos ha
  unfold poly_Order.f
  refine Ev.bind (poly_Degree.ev ha64) (Ev.neg (by omega) ?_)
  rw [decide_eq_false (by omega)]
  have h := poly_Order.ev_l0 ha ha64 h20 hN hb (N - 1) 1 (by have := hN.pos; omega) (by omega)
  refine Ev.step (f := fun k => (poly_rest.f k 1 (a : Int)).bind fun t125 => ((poly_rest.f k 2 (a : Int)).bind fun t126 => (poly_Order.l0 k (a : Int) t125 t126 1))) (fun k => ?_) (Ev.bind (poly_rest.ev (by decide) ha ha64) (Ev.bind (poly_rest.ev (by decide) ha ha64) h))
  simp only [poly_Order.j0]
  rw [if_neg (by decide), and64_one ha64, h1, if_neg (by decide)]
theorem poly_Order.even {a : Nat} (ha64 : a < 18446744073709551616) (h0 : a ≠ 0) (h1 : a % 2 = 0) (h20 : a.log2 ≤ 20) : Ev (fun k => poly_Order.f k (a : Int)) (0, 22) := by
  have hd := dg_pos h0
  unfold poly_Order.f
  refine Ev.bind (poly_Degree.ev ha64) (Ev.neg (by omega) ?_)
  rw [decide_eq_false (by omega)]
  refine Ev.step (f := fun k => some (0, 22)) (fun k => ?_) (Ev.now _)
  simp only [poly_Order.j0]
  rw [if_neg (by decide), and64_one ha64, h1]; rfl
theorem poly_Order.bad {a : Nat} (ha64 : a < 18446744073709551616) (h : a = 0 ∨ 20 < a.log2) : Ev (fun k => poly_Order.f k (a : Int)) (0, 21) := by
  have hj : Ev (fun k => poly_Order.j0 k (a : Int) true) (0, 21) := Ev.step (f := fun _ => some (0, 21)) (fun k => by simp only [poly_Order.j0]; rfl) (Ev.now _)
  unfold poly_Order.f
  refine Ev.bind (poly_Degree.ev ha64) ?_
  by_cases h0 : a = 0
  · subst h0; exact Ev.pos (by decide) hj
  · have hd := dg_pos h0
    refine Ev.neg (by omega) ?_
    rw [decide_eq_true (by omega)]; exact hj
theorem pw_two (n : Nat) : pw 2 n = 2 ^ n := by
  induction n with
  | zero => rfl
  | succ n ih =>
    rw [pw, ih, Gf.mul_comm, show (2 : Nat) = 2 * 1 by rfl, Gf.mul_two_left, Gf.one_mul, Nat.mul_one, Nat.pow_succ, Nat.mul_comm]
end Go.Proofs.Ytofdnjlcnpaecaa.P
