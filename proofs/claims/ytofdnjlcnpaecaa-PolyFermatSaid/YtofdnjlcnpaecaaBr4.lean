import Derived.Test.YtofdnjlcnpaecaaBr3
namespace Go.Proofs.Ytofdnjlcnpaecaa.P
open Go.RowKit Go.Proofs.YtofdnjlcnpaecaaW.PrintWords Go.Proofs.YtofdnjlcnpaecaaW.PrintLast Go.Proofs.YtofdnjlcnpaecaaW.PrintMore
set_option linter.unusedVariables false
set_option linter.unusedSimpArgs false
/-! ### the reference's division: bit by bit -/
theorem two_mul_or (r t : Nat) (ht : t ≤ 1) : 2 * r ||| t = 2 * r ^^^ t := by
  have h : t = 0 ∨ t = 1 := by omega
  rcases h with rfl | rfl
  · simp
  · have := or_eq_xor (q := 2 * r) (s := 0) (by simp; omega)
    simpa using this
theorem two_mul_xor_lt {r t n : Nat} (hr : r < 2 ^ n) (ht : t ≤ 1) : 2 * r ^^^ t < 2 ^ (n + 1) := by
  refine Gf.xor_lt (by rw [Nat.pow_succ]; omega) ?_
  have := Nat.two_pow_pos n
  rw [Nat.pow_succ]; omega
theorem bit_step (N i : Nat) : N / 2 ^ i = 2 * (N / 2 ^ (i + 1)) ^^^ (if N.testBit i then 1 else 0) := by
  have h := testBit_div N i
  have e : N / 2 ^ (i + 1) = N / 2 ^ i / 2 := by rw [Nat.div_div_eq_div_mul, ← Nat.pow_succ]
  rw [← h, e]
  generalize N / 2 ^ i = M
  rcases Nat.mod_two_eq_zero_or_one M with h1 | h1
  · rw [h1, Nat.xor_zero]; omega
  · rw [h1, Gf.even_xor_one]; omega
theorem whole_mod (Q : Nat) : IntKind.u64.wrap (((Q % 18446744073709551616 : Nat) : Int) * 2) = ((2 * Q % 18446744073709551616 : Nat) : Int) := by
  rw [IntKind.wrap_u64]; omega
theorem whole_mod_or (Q t : Nat) (ht : t ≤ 1) : (2 * Q % 18446744073709551616) ||| t = (2 * Q ^^^ t) % 18446744073709551616 := by
  have e : 2 * Q % 18446744073709551616 = 2 * (Q % 9223372036854775808) := by omega
  rw [e, two_mul_or _ _ ht, xor_mod64, e]
  congr 1
  omega
theorem div_mod64 {N i : Nat} : (N / 2 ^ i).testBit 0 = N.testBit i := by rw [Nat.testBit_div_two_pow, Nat.zero_add]
theorem bit_le (b : Bool) : (if b then 1 else 0 : Nat) ≤ 1 := by cases b <;> simp
theorem bit_cast (b : Bool) : (((if b then 1 else 0 : Nat) : Nat) : Int) = if b then 1 else 0 := by cases b <;> rfl
theorem wrap_dec (j : Nat) (hj : j ≤ 1000) : wrap64 (((j + 1 : Nat) : Int) - 1 - 1) = (j : Int) - 1 := by unfold wrap64; omega
theorem Whole.next {b N Q r i : Nat} (hb : b ≠ 0) (hN : N / 2 ^ (i + 1) = Gf.mul Q b ^^^ r) (hr : r < 2 ^ b.log2) :
    (b.log2 = 0 → N / 2 ^ i = Gf.mul (2 * Q ^^^ (if N.testBit i then 1 else 0)) b ^^^ 0 ∧ r = 0) ∧
    (2 * r ^^^ (if N.testBit i then 1 else 0) < 2 ^ (b.log2 + 1)) ∧
    ((2 * r ^^^ (if N.testBit i then 1 else 0)).testBit b.log2 = true → N / 2 ^ i = Gf.mul (2 * Q ^^^ 1) b ^^^ (2 * r ^^^ (if N.testBit i then 1 else 0) ^^^ b) ∧ 2 * r ^^^ (if N.testBit i then 1 else 0) ^^^ b < 2 ^ b.log2) ∧
    ((2 * r ^^^ (if N.testBit i then 1 else 0)).testBit b.log2 = false → N / 2 ^ i = Gf.mul (2 * Q) b ^^^ (2 * r ^^^ (if N.testBit i then 1 else 0)) ∧ 2 * r ^^^ (if N.testBit i then 1 else 0) < 2 ^ b.log2) := by
  have hs := bit_step N i
  have ht := bit_le (N.testBit i)
  have hlt := two_mul_xor_lt (n := b.log2) hr ht
  generalize (if N.testBit i then 1 else 0) = t at hs ht hlt ⊢
  rw [hN, Gf.two_mul_xor, ← Gf.mul_two_left] at hs
  refine ⟨fun h0 => ?_, hlt, fun hb1 => ⟨?_, ?_⟩, fun hb0 => ⟨?_, lt_of_no_bit hlt hb0⟩⟩
  · have hr0 : r = 0 := by rw [h0] at hr; simpa using hr
    have hb1 : b = 1 := by
      have := Gf.lt_pow_log2 b
      rw [h0] at this
      simp at this; omega
    subst hr0 hb1
    refine ⟨?_, rfl⟩
    rw [hs, Gf.mul_one, Gf.mul_one]; simp
  · rw [hs, Gf.xor_mul, Gf.one_mul]
    have : Gf.mul (2 * Q) b ^^^ b ^^^ (2 * r ^^^ t ^^^ b) = Gf.mul (2 * Q) b ^^^ (2 * r ^^^ t) ^^^ (b ^^^ b) := by ac_rfl
    rw [this, Nat.xor_self, Nat.xor_zero, Nat.xor_assoc]
  · have h2 : 2 ^ b.log2 ≤ 2 * r ^^^ t := by
      rcases Nat.lt_or_ge (2 * r ^^^ t) (2 ^ b.log2) with h' | h'
      · rw [Nat.testBit_lt_two_pow h'] at hb1; cases hb1
      · exact h'
    exact xor_cancel_top h2 hlt (Gf.pow_log2_le hb) (Gf.lt_pow_log2 b)
  · rw [hs, Nat.xor_assoc]
theorem whole_bit_hi {h l i : Nat} (hl : l < 18446744073709551616) (hi : 64 ≤ i) : (whole h l).testBit i = h.testBit (i - 64) := by
  unfold whole
  have e : h * 18446744073709551616 = 2 ^ 64 * h := by rw [pow64, Nat.mul_comm]
  rw [Nat.testBit_xor, e, Nat.testBit_two_pow_mul, Nat.testBit_lt_two_pow (x := l) (i := i) (Nat.lt_of_lt_of_le (by rw [pow64]; exact hl) (Nat.pow_le_pow_right (by decide) hi))]
  simp [hi]
theorem whole_bit_lo {h l i : Nat} (hi : i < 64) : (whole h l).testBit i = l.testBit i := by
  unfold whole
  have e : h * 18446744073709551616 = 2 ^ 64 * h := by rw [pow64, Nat.mul_comm]
  rw [Nat.testBit_xor, e, Nat.testBit_two_pow_mul]
  have : ¬ i ≥ 64 := Nat.not_le.2 hi
  simp [this]
theorem whole_lt {h l : Nat} (hh : h < 18446744073709551616) (hl : l < 18446744073709551616) : whole h l < 2 ^ 128 := by
  unfold whole
  have e : (2 : Nat) ^ 128 = 18446744073709551616 * 18446744073709551616 := by decide
  refine Gf.xor_lt ?_ ?_
  · rw [e]; exact Nat.mul_lt_mul_of_pos_right hh (by decide)
  · rw [e]; omega
theorem outpostref02_Whole.ev_l0 {b h l : Nat} (hb : b ≠ 0) (hb64 : b < 18446744073709551616) (hh : h < 18446744073709551616) (hl : l < 18446744073709551616) : ∀ (n : Nat) (Q r : Nat), n ≤ 128 → whole h l / 2 ^ n = Gf.mul Q b ^^^ r → r < 2 ^ b.log2 →
    Ev (fun k => outpostref02_Whole.l0 k (h : Int) (l : Int) (b : Int) ((Q % 18446744073709551616 : Nat) : Int) (r : Int) (dg b) ((n : Int) - 1)) (((Gf.quo (whole h l) b % 18446744073709551616 : Nat) : Int), ((Gf.rem (whole h l) b : Nat) : Int)) := by
  intro n
  have hl63 := log2_le63 hb hb64
  induction n with
  | zero =>
    intro Q r hn hN hr
    have hN' : whole h l = Gf.mul Q b ^^^ r := by simpa using hN
    have hd : Gf.IsDiv (whole h l) b Q r := ⟨hN', hr⟩
    rw [hd.quo_eq hb, hd.rem_eq hb]
    refine Ev.step (f := fun _ => some _) (fun k => ?_) (Ev.now _)
    simp only [outpostref02_Whole.l0]
    rw [if_neg (by decide)]
  | succ j ih =>
    intro Q r hn hN hr
    have hj : j ≤ 127 := Nat.le_of_succ_le_succ hn
    have hw : wrap64 (((j + 1 : Nat) : Int) - 1 - 1) = (j : Int) - 1 := wrap_dec j (Nat.le_trans hj (by decide))
    have hc1 : ((j + 1 : Nat) : Int) - 1 = (j : Int) := by clear hN hr; omega
    have c1 : (j : Int) ≥ 0 := Int.natCast_nonneg j
    have hjb : j < 18446744073709551616 := Nat.lt_of_le_of_lt hj (by decide)
    obtain ⟨n1, n2, n3, n4⟩ := Whole.next hb hN hr
    have hr64 : r < 9223372036854775808 := Nat.lt_of_lt_of_le hr (by
      have := Nat.pow_le_pow_right (n := 2) (by decide) hl63
      exact this)
    have hlog64 : b.log2 < 18446744073709551616 := Nat.lt_of_le_of_lt hl63 (by decide)
    have hr2 : IntKind.u64.wrap ((r : Int) * 2) = ((2 * r : Nat) : Int) := by clear hN hr n1 n2 n3 n4; rw [IntKind.wrap_u64]; omega
    have hr3 : 2 * r < 18446744073709551616 := by clear hN hr n1 n2 n3 n4; omega
    have inner : ∀ t : Nat, t = (if (whole h l).testBit j then 1 else 0) → Ev (fun k => outpostref02_Whole.j1 k (h : Int) (l : Int) (b : Int) ((Q % 18446744073709551616 : Nat) : Int) (r : Int) (dg b) (((j + 1 : Nat) : Int) - 1) (t : Int)) (((Gf.quo (whole h l) b % 18446744073709551616 : Nat) : Int), ((Gf.rem (whole h l) b : Nat) : Int)) := by
      intro t ht
      rw [← ht] at n1 n2 n3 n4
      have ht1 : t ≤ 1 := by rw [ht]; exact bit_le _
      have ht64 : t < 18446744073709551616 := Nat.lt_of_le_of_lt ht1 (by decide)
      have ho : Go.bits .or .u64 ((2 * r : Nat) : Int) (t : Int) = ((2 * r ^^^ t : Nat) : Int) := by rw [or64 hr3 ht64, two_mul_or _ _ ht1]
      have hx64 : 2 * r ^^^ t < 18446744073709551616 := xor64_lt hr3 ht64
      by_cases h0 : b.log2 = 0
      · obtain ⟨m1, m2⟩ := n1 h0
        subst m2
        refine Ev.step (fun k => ?_) (ih _ 0 (Nat.le_of_succ_le hn) m1 (Nat.two_pow_pos _))
        simp only [outpostref02_Whole.j1]
        have hd0 : dg b = 0 := by rw [dg_pos hb, h0]; rfl
        rw [hd0, if_pos rfl, whole_mod, or64 (Nat.mod_lt _ (by decide)) ht64, whole_mod_or _ _ ht1, hw]
      · have hd0 : ¬ dg b = 0 := by rw [dg_pos hb]; clear hN hr n1 n2 n3 n4; omega
        by_cases hbit : (2 * r ^^^ t).testBit b.log2 = true
        · obtain ⟨m1, m2⟩ := n3 hbit
          refine Ev.step (fun k => ?_) (ih _ _ (Nat.le_of_succ_le hn) m1 m2)
          simp only [outpostref02_Whole.j1]
          rw [if_neg hd0, hr2, ho, dg_pos hb, outpostref02_Bit.eq hx64 hlog64, if_pos hbit]
          simp only [Option.bind_some]
          have o1 : Go.bits .or .u64 ((2 * Q % 18446744073709551616 : Nat) : Int) 1 = (((2 * Q ^^^ 1) % 18446744073709551616 : Nat) : Int) := by
            have := or64 (x := 2 * Q % 18446744073709551616) (y := 1) (Nat.mod_lt _ (by decide)) (by decide)
            rw [whole_mod_or _ 1 (by decide)] at this
            exact this
          rw [if_pos (by decide), whole_mod, o1, xor64 hx64 hb64, hw]
        · have hb0 : (2 * r ^^^ t).testBit b.log2 = false := by simpa using hbit
          obtain ⟨m1, m2⟩ := n4 hb0
          refine Ev.step (fun k => ?_) (ih _ _ (Nat.le_of_succ_le hn) m1 m2)
          simp only [outpostref02_Whole.j1]
          rw [if_neg hd0, hr2, ho, dg_pos hb, outpostref02_Bit.eq hx64 hlog64, if_neg hbit]
          simp only [Option.bind_some]
          rw [if_neg (by decide), whole_mod, hw]
    by_cases h64 : 64 ≤ j
    · have c2 : (j : Int) ≥ 64 := by clear hN hr n1 n2 n3 n4; omega
      refine Ev.step (fun k => ?_) (inner (if (whole h l).testBit j then 1 else 0) rfl)
      simp only [outpostref02_Whole.l0]
      have hw64 : wrap64 ((j : Int) - 64) = ((j - 64 : Nat) : Int) := wrap_sub j 64 h64 (Nat.le_trans hj (by decide))
      rw [hc1, if_pos c1, if_pos c2, hw64, outpostref02_Bit.eq hh (Nat.lt_of_le_of_lt (Nat.sub_le _ _) hjb), whole_bit_hi hl h64]
      rfl
    · have hlt : j < 64 := Nat.lt_of_not_le h64
      have c2 : ¬ (j : Int) ≥ 64 := by clear hN hr n1 n2 n3 n4; omega
      refine Ev.step (fun k => ?_) (inner (if (whole h l).testBit j then 1 else 0) rfl)
      simp only [outpostref02_Whole.l0]
      rw [hc1, if_pos c1, if_neg c2, outpostref02_Bit.eq hl hjb, whole_bit_lo hlt]
      rfl
theorem outpostref02_Whole.ev {h l b : Nat} (hh : h < 18446744073709551616) (hl : l < 18446744073709551616) (hb : b ≠ 0) (hb64 : b < 18446744073709551616) :
    Ev (fun k => outpostref02_Whole.f k (h : Int) (l : Int) (b : Int)) (((Gf.quo (whole h l) b % 18446744073709551616 : Nat) : Int), ((Gf.rem (whole h l) b : Nat) : Int)) := by
  unfold outpostref02_Whole.f
  refine Ev.bind (outpostref02_Degree.ev hb64) ?_
  have h0 : whole h l / 2 ^ 128 = Gf.mul 0 b ^^^ 0 := by rw [Nat.div_eq_of_lt (whole_lt hh hl), Gf.mul_zero_left]; rfl
  exact outpostref02_Whole.ev_l0 hb hb64 hh hl 128 0 0 (by decide) h0 (Nat.two_pow_pos _)
end Go.Proofs.Ytofdnjlcnpaecaa.P
