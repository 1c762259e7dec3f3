/- The order of x, the reference's way, and primitive polynomials. No condition. -/
import Derived.Test.YtofdnjlcnpaecaaBr13
import Derived.Test.YtofdnjlcnpaecaaBr17
import Derived.Test.YtofdnjlcnpaecaaP15
set_option linter.unusedVariables false
namespace Go.Proofs.Ytofdnjlcnpaecaa.P
open Go.RowKit Go.Proofs.YtofdnjlcnpaecaaW.PrintWords Go.Proofs.YtofdnjlcnpaecaaW.PrintLast Go.Proofs.YtofdnjlcnpaecaaW.PrintMore
theorem outpostref02_Order.ev_l0 {a N : Nat} (ha : a ≠ 0) (ha64 : a < 18446744073709551616) (h20 : a.log2 ≤ 20) (hN : Gf.Ord a N) (hb : N ≤ 1048576) : ∀ d n : Nat, n + d + 1 = N →
    Ev (fun k => outpostref02_Order.l0 k (a : Int) ((Gf.rem 1 a : Nat) : Int) ((Gf.rem (2 ^ n) a : Nat) : Int) ((n + 1 : Nat) : Int)) ((N : Int), 0) := by
  intro d
  induction d with
  | zero =>
    intro n h
    obtain rfl : N = n + 1 := by omega
    have hs := rem_small (x := 2 ^ n) ha h20
    have hl := Gf.rem_lt (2 ^ n) a ha
    have hd1 := outpostref02_Degree.ev (a := 2 * Gf.rem (2 ^ n) a) (by omega)
    have hd2 := outpostref02_Degree.ev ha64
    have hx := Gf.rem_double ha hl
    rw [Gf.rem_pow_step ha, hN.one] at hx
    refine Ev.step (f := fun k => (outpostref02_Degree.f k (IntKind.u64.wrap (((Gf.rem (2 ^ n) a : Nat) : Int) * 2))).bind fun t387 => ((outpostref02_Degree.f k (a : Int)).bind fun t388 => (if t387 = t388 then (if (a : Int) = 1 then (some (((n + 1 : Nat) : Int), 0)) else (if (Go.bits .xor .u64 (IntKind.u64.wrap (((Gf.rem (2 ^ n) a : Nat) : Int) * 2)) (a : Int)) = ((Gf.rem 1 a : Nat) : Int) then (some (((n + 1 : Nat) : Int), 0)) else (outpostref02_Order.l0 k (a : Int) ((Gf.rem 1 a : Nat) : Int) (Go.bits .xor .u64 (IntKind.u64.wrap (((Gf.rem (2 ^ n) a : Nat) : Int) * 2)) (a : Int)) (wrap64 (((n + 1 : Nat) : Int) + 1))))) else (if (a : Int) = 1 then (some (((n + 1 : Nat) : Int), 0)) else (if (IntKind.u64.wrap (((Gf.rem (2 ^ n) a : Nat) : Int) * 2)) = ((Gf.rem 1 a : Nat) : Int) then (some (((n + 1 : Nat) : Int), 0)) else (outpostref02_Order.l0 k (a : Int) ((Gf.rem 1 a : Nat) : Int) (IntKind.u64.wrap (((Gf.rem (2 ^ n) a : Nat) : Int) * 2)) (wrap64 (((n + 1 : Nat) : Int) + 1)))))))) (fun k => ?_) ?_
    · simp only [outpostref02_Order.l0]
    · rw [twice_wrap hs]
      refine Ev.bind hd1 (Ev.bind hd2 ?_)
      by_cases h1 : a = 1
      · have : (a : Int) = 1 := by omega
        by_cases hc : dg (2 * Gf.rem (2 ^ n) a) = dg a
        · exact Ev.pos hc (Ev.pos this (Ev.now _))
        · exact Ev.neg hc (Ev.pos this (Ev.now _))
      · by_cases hc : 2 ^ a.log2 ≤ 2 * Gf.rem (2 ^ n) a
        · rw [if_pos hc] at hx
          have hlog : (2 * Gf.rem (2 ^ n) a).log2 = a.log2 := Gf.log2_eq hc (by rw [Nat.pow_succ]; omega)
          have h0 : 2 * Gf.rem (2 ^ n) a ≠ 0 := by have := Nat.two_pow_pos a.log2; omega
          refine Ev.pos (by rw [dg_pos h0, dg_pos ha, hlog]) (Ev.neg (by omega) (Ev.pos ?_ (Ev.now _)))
          rw [xor64 (by omega) ha64, hx]
        · rw [if_neg hc] at hx
          refine Ev.neg ?_ (Ev.neg (by omega) (Ev.pos ?_ (Ev.now _)))
          · intro e
            have h0 : 2 * Gf.rem (2 ^ n) a ≠ 0 := fun e0 => by rw [e0, dg_pos ha, dg_zero] at e; omega
            rw [dg_pos h0, dg_pos ha] at e
            have h3 := Gf.pow_log2_le h0
            rw [Int.ofNat.inj e] at h3
            exact hc h3
          · rw [← hx]
  | succ d ih =>
    intro n h
    have hs := rem_small (x := 2 ^ n) ha h20
    have hl := Gf.rem_lt (2 ^ n) a ha
    have hd1 := outpostref02_Degree.ev (a := 2 * Gf.rem (2 ^ n) a) (by omega)
    have hd2 := outpostref02_Degree.ev ha64
    have hx := Gf.rem_double ha hl
    rw [Gf.rem_pow_step ha] at hx
    have hne := hN.least (n + 1) (by omega) (by omega)
    have h1 : a ≠ 1 := by
      intro e; subst e
      have h1 := Gf.rem_lt (2 ^ (n + 1)) 1 ha
      have h2 := Gf.rem_lt 1 1 ha
      have : (2 : Nat) ^ (Nat.log2 1) = 1 := by decide
      omega
    have hi := ih (n + 1) (by omega)
    have e : wrap64 (((n + 1 : Nat) : Int) + 1) = ((n + 1 + 1 : Nat) : Int) := by unfold wrap64; omega
    refine Ev.step (f := fun k => (outpostref02_Degree.f k (IntKind.u64.wrap (((Gf.rem (2 ^ n) a : Nat) : Int) * 2))).bind fun t387 => ((outpostref02_Degree.f k (a : Int)).bind fun t388 => (if t387 = t388 then (if (a : Int) = 1 then (some (((n + 1 : Nat) : Int), 0)) else (if (Go.bits .xor .u64 (IntKind.u64.wrap (((Gf.rem (2 ^ n) a : Nat) : Int) * 2)) (a : Int)) = ((Gf.rem 1 a : Nat) : Int) then (some (((n + 1 : Nat) : Int), 0)) else (outpostref02_Order.l0 k (a : Int) ((Gf.rem 1 a : Nat) : Int) (Go.bits .xor .u64 (IntKind.u64.wrap (((Gf.rem (2 ^ n) a : Nat) : Int) * 2)) (a : Int)) (wrap64 (((n + 1 : Nat) : Int) + 1))))) else (if (a : Int) = 1 then (some (((n + 1 : Nat) : Int), 0)) else (if (IntKind.u64.wrap (((Gf.rem (2 ^ n) a : Nat) : Int) * 2)) = ((Gf.rem 1 a : Nat) : Int) then (some (((n + 1 : Nat) : Int), 0)) else (outpostref02_Order.l0 k (a : Int) ((Gf.rem 1 a : Nat) : Int) (IntKind.u64.wrap (((Gf.rem (2 ^ n) a : Nat) : Int) * 2)) (wrap64 (((n + 1 : Nat) : Int) + 1)))))))) (fun k => ?_) ?_
    · simp only [outpostref02_Order.l0]
    · rw [twice_wrap hs, e]
      refine Ev.bind hd1 (Ev.bind hd2 ?_)
      by_cases hc : 2 ^ a.log2 ≤ 2 * Gf.rem (2 ^ n) a
      · rw [if_pos hc] at hx
        have hlog : (2 * Gf.rem (2 ^ n) a).log2 = a.log2 := Gf.log2_eq hc (by rw [Nat.pow_succ]; omega)
        have h0 : 2 * Gf.rem (2 ^ n) a ≠ 0 := by have := Nat.two_pow_pos a.log2; omega
        rw [xor64 (by omega) ha64, ← hx]
        exact Ev.pos (by rw [dg_pos h0, dg_pos ha, hlog]) (Ev.neg (by omega) (Ev.neg (fun e => hne (Int.ofNat.inj e)) hi))
      · rw [if_neg hc] at hx
        refine Ev.neg ?_ (Ev.neg (by omega) (Ev.neg ?_ ?_))
        · intro e
          have h0 : 2 * Gf.rem (2 ^ n) a ≠ 0 := fun e0 => by rw [e0, dg_pos ha, dg_zero] at e; omega
          rw [dg_pos h0, dg_pos ha] at e
          have h3 := Gf.pow_log2_le h0
          rw [Int.ofNat.inj e] at h3
          exact hc h3
        · rw [← hx]; exact fun e => hne (Int.ofNat.inj e)
        · rw [← hx]; exact hi
theorem bit0 {a : Nat} (ha64 : a < 18446744073709551616) : outpostref02_Bit.f (a : Int) 0 = some ((a % 2 : Nat) : Int) := by
  have h := outpostref02_Bit.eq (i := 0) ha64 (by decide)
  rw [Nat.testBit_zero] at h
  rw [show ((0 : Nat) : Int) = 0 from rfl] at h
  rw [h]
  rcases Nat.mod_two_eq_zero_or_one a with e | e <;> rw [e] <;> rfl
theorem outpostref02_Order.ev {a : Nat} (ha64 : a < 18446744073709551616) (h1 : a % 2 = 1) (h20 : a.log2 ≤ 20) {N : Nat} (hN : Gf.Ord a N) (hb : N ≤ 1048576) : Ev (fun k => outpostref02_Order.f k (a : Int)) ((N : Int), 0) := by
  have ha : a ≠ 0 := by omega
  have hd := outpostref02_Degree.ev ha64
  rw [dg_pos ha] at hd
  unfold outpostref02_Order.f
  refine Ev.bind hd (Ev.neg (by omega) (Ev.bind hd ?_))
  rw [decide_eq_false (by omega)]
  have h := outpostref02_Order.ev_l0 ha ha64 h20 hN hb (N - 1) 0 (by have := hN.pos; omega)
  rw [Nat.pow_zero] at h
  refine Ev.step (f := fun k => (outpostref02_Whole.f k 0 1 (a : Int)).bind fun bt385 => (outpostref02_Order.l0 k (a : Int) bt385.2 bt385.2 1)) (fun k => ?_) (Ev.bind (whole0 (l := 1) (by decide) ha ha64) h)
  simp only [outpostref02_Order.j0]
  rw [if_neg (by decide), bit0 ha64, Option.bind_some, h1, if_neg (by decide)]
theorem outpostref02_Order.even {a : Nat} (ha64 : a < 18446744073709551616) (h0 : a ≠ 0) (h1 : a % 2 = 0) (h20 : a.log2 ≤ 20) : Ev (fun k => outpostref02_Order.f k (a : Int)) (0, 22) := by
  have hd := outpostref02_Degree.ev ha64
  rw [dg_pos h0] at hd
  unfold outpostref02_Order.f
  refine Ev.bind hd (Ev.neg (by omega) (Ev.bind hd ?_))
  rw [decide_eq_false (by omega)]
  refine Ev.step (f := fun k => some (0, 22)) (fun k => ?_) (Ev.now _)
  simp only [outpostref02_Order.j0]
  rw [if_neg (by decide), bit0 ha64, h1]; rfl
theorem outpostref02_Order.bad {a : Nat} (ha64 : a < 18446744073709551616) (h : a = 0 ∨ 20 < a.log2) : Ev (fun k => outpostref02_Order.f k (a : Int)) (0, 21) := by
  have hj : Ev (fun k => outpostref02_Order.j0 k (a : Int) true) (0, 21) := Ev.step (f := fun _ => some (0, 21)) (fun k => by simp only [outpostref02_Order.j0]; rfl) (Ev.now _)
  have hd := outpostref02_Degree.ev ha64
  unfold outpostref02_Order.f
  refine Ev.bind hd ?_
  by_cases h0 : a = 0
  · subst h0; exact Ev.pos (by decide) hj
  · have hd2 := dg_pos h0
    refine Ev.neg (by omega) (Ev.bind hd ?_)
    rw [decide_eq_true (by omega)]; exact hj
/-- both say the same of every polynomial's order. -/
theorem orders {a : Nat} (ha64 : a < 18446744073709551616) : ∃ n e : Int, Ev (fun k => poly_Order.f k (a : Int)) (n, e) ∧ Ev (fun k => outpostref02_Order.f k (a : Int)) (n, e) := by
  by_cases hb : a = 0 ∨ 20 < a.log2
  · exact ⟨_, _, poly_Order.bad ha64 hb, outpostref02_Order.bad ha64 hb⟩
  · have ha0 : a ≠ 0 := fun e => hb (Or.inl e)
    have h20 : a.log2 ≤ 20 := Nat.le_of_not_lt fun e => hb (Or.inr e)
    by_cases h2 : a % 2 = 0
    · exact ⟨_, _, poly_Order.even ha64 ha0 h2 h20, outpostref02_Order.even ha64 ha0 h2 h20⟩
    · have h2' : a % 2 = 1 := by omega
      obtain ⟨N, hN, hle⟩ := Gf.ord_exists h2'
      have hb : N ≤ 1048576 := Nat.le_trans hle (Nat.pow_le_pow_right (n := 2) (by decide) h20)
      exact ⟨_, _, poly_Order.ev ha64 h2' h20 hN hb, outpostref02_Order.ev ha64 h2' h20 hN hb⟩
/-- and of whether it is primitive. -/
theorem primitives {a : Nat} (ha64 : a < 18446744073709551616) : ∃ (b : Bool) (e : Int), Ev (fun k => poly_Primitive.f k (a : Int)) (b, e) ∧ Ev (fun k => outpostref02_Primitive.f k (a : Int)) (b, e) := by
  have d1 := poly_Degree.ev ha64
  have d2 := outpostref02_Degree.ev ha64
  by_cases hk : 2 ≤ a ∧ a.log2 ≤ 20
  · obtain ⟨h2, h20⟩ := hk
    have ha0 : a ≠ 0 := by omega
    have hl := Gf.log2_pos h2
    rw [dg_pos ha0] at d1 d2
    obtain ⟨n, e, o1, o2⟩ := orders ha64
    obtain ⟨t, p1, k1⟩ := poly_prime.ev h2 ha64
    obtain ⟨s, p2, k2⟩ := outpostref02_Irreducible.ev h2 (by omega)
    have : t = s := by rw [Bool.eq_iff_iff, k1, k2]
    subst this
    have hand := and64_one ha64
    have hw : IntKind.u64.wrap (a.log2 : Int) = (a.log2 : Int) := wrapu_nat (by omega)
    refine ⟨if a % 2 = 0 then false else if t = true then n == wrap64 ((shl .i64 1 (a.log2 : Int)) - 1) else false, 0, ?_, ?_⟩
    · unfold poly_Primitive.f
      refine Ev.bind d1 (Ev.neg (by omega) ?_)
      rw [decide_eq_false (by omega)]
      refine Ev.step (f := fun k => (if ((a % 2 : Nat) : Int) = 0 then (some (false, 0)) else ((poly_prime.f k (a : Int)).bind fun t390 => (if t390 = true then ((poly_Order.f k (a : Int)).bind fun bt391 => (if 0 ≤ (a.log2 : Int) then (some ((bt391.1 == (wrap64 ((shl .i64 1 (a.log2 : Int)) - 1))), 0)) else (none))) else (some (false, 0)))))) (fun k => ?_) ?_
      · simp only [poly_Primitive.j0]; rw [if_neg (by decide), hand]
      · by_cases h0 : a % 2 = 0
        · rw [h0]; exact Ev.pos rfl (Ev.now _)
        · rw [if_neg h0]
          refine Ev.neg (by omega) (Ev.bind p1 ?_)
          cases t with
          | true => exact Ev.pos rfl (Ev.bind o1 (Ev.pos (by omega) (Ev.now _)))
          | false => exact Ev.neg (by decide) (Ev.now _)
    · unfold outpostref02_Primitive.f
      refine Ev.bind d2 (Ev.neg (by omega) ?_)
      rw [decide_eq_false (by omega)]
      refine Ev.step (f := fun k => ((outpostref02_Irreducible.f k (a : Int)).bind fun bt394 => (if bt394.1 = true then ((some ((a % 2 : Nat) : Int)).bind fun t396 => (if t396 = 0 then (some (false, 0)) else ((outpostref02_Order.f k (a : Int)).bind fun bt397 => (if 0 ≤ (a.log2 : Int) then (some ((bt397.1 == (wrap64 ((shl .i64 1 (a.log2 : Int)) - 1))), 0)) else (none))))) else (some (false, 0))))) (fun k => ?_) ?_
      · simp only [outpostref02_Primitive.j0]; rw [if_neg (by decide), bit0 ha64, hw]
      · refine Ev.bind p2 ?_
        by_cases h0 : a % 2 = 0
        · rw [if_pos h0, h0]
          cases t with
          | true => exact Ev.pos rfl (Ev.some_bind rfl (Ev.pos rfl (Ev.now _)))
          | false => exact Ev.neg (by decide) (Ev.now _)
        · rw [if_neg h0]
          cases t with
          | true => exact Ev.pos rfl (Ev.some_bind rfl (Ev.neg (by omega) (Ev.bind o2 (Ev.pos (by omega) (Ev.now _)))))
          | false => exact Ev.neg (by decide) (Ev.now _)
  · have j1 : Ev (fun k => poly_Primitive.j0 k (a : Int) (dg a) true) (false, 21) := Ev.step (f := fun _ => some (false, 21)) (fun k => by simp only [poly_Primitive.j0]; rfl) (Ev.now _)
    have j2 : Ev (fun k => outpostref02_Primitive.j0 k (a : Int) (dg a) true) (false, 21) := Ev.step (f := fun _ => some (false, 21)) (fun k => by simp only [outpostref02_Primitive.j0]; rfl) (Ev.now _)
    refine ⟨false, 21, ?_, ?_⟩
    · unfold poly_Primitive.f
      refine Ev.bind d1 ?_
      by_cases h2 : 2 ≤ a
      · have hl := Gf.log2_pos h2
        have hd := dg_pos (show a ≠ 0 by omega)
        refine Ev.neg (by omega) ?_
        rw [decide_eq_true (show dg a > 20 by omega)]; exact j1
      · refine Ev.pos ?_ j1
        obtain rfl | rfl : a = 0 ∨ a = 1 := by omega
        · decide
        · unfold dg; rw [if_neg (by decide), show Nat.log2 1 = 0 by decide]; decide
    · unfold outpostref02_Primitive.f
      refine Ev.bind d2 ?_
      by_cases h2 : 2 ≤ a
      · have hl := Gf.log2_pos h2
        have hd := dg_pos (show a ≠ 0 by omega)
        refine Ev.neg (by omega) ?_
        rw [decide_eq_true (show dg a > 20 by omega)]; exact j2
      · refine Ev.pos ?_ j2
        obtain rfl | rfl : a = 0 ∨ a = 1 := by omega
        · decide
        · unfold dg; rw [if_neg (by decide), show Nat.log2 1 = 0 by decide]; decide
end Go.Proofs.Ytofdnjlcnpaecaa.P
