import Derived.Test.YtofdnjlcnpaecaaP10
import Derived.Test.YtofdnjlcnpaecaaBr2
namespace Go.Proofs.Ytofdnjlcnpaecaa.P
open Go.RowKit Go.Proofs.YtofdnjlcnpaecaaW.PrintWords Go.Proofs.YtofdnjlcnpaecaaW.PrintLast Go.Proofs.YtofdnjlcnpaecaaW.PrintMore
set_option linter.unusedVariables false
set_option linter.unusedSimpArgs false
/-! ### long division -/
theorem xor_cancel_top {a b n : Nat} (ha1 : 2 ^ n ≤ a) (ha2 : a < 2 ^ (n + 1)) (hb1 : 2 ^ n ≤ b) (hb2 : b < 2 ^ (n + 1)) : a ^^^ b < 2 ^ n := by
  rcases Nat.lt_or_ge (a ^^^ b) (2 ^ n) with h | h
  · exact h
  · have t3 := Gf.top_bit h (Gf.xor_lt ha2 hb2)
    rw [Nat.testBit_xor, Gf.top_bit ha1 ha2, Gf.top_bit hb1 hb2] at t3
    simp at t3
theorem lt_of_no_bit {a n : Nat} (h : a < 2 ^ (n + 1)) (hb : a.testBit n = false) : a < 2 ^ n := by
  rcases Nat.lt_or_ge a (2 ^ n) with h' | h'
  · exact h'
  · rw [Gf.top_bit h' h] at hb; cases hb
theorem or_eq_xor {q s : Nat} (h : 2 ^ (s + 1) ∣ q) : q ||| 2 ^ s = q ^^^ 2 ^ s := by
  obtain ⟨c, rfl⟩ := h
  apply Nat.eq_of_testBit_eq
  intro j
  rw [Nat.testBit_or, Nat.testBit_xor, Nat.testBit_two_pow]
  by_cases hj : s = j
  · subst hj
    rw [Nat.testBit_two_pow_mul]
    simp
  · simp [hj]
theorem xor_pow {q s : Nat} (h : 2 ^ (s + 1) ∣ q) : 2 ^ s ∣ q ^^^ 2 ^ s := by
  obtain ⟨c, rfl⟩ := h
  refine ⟨2 * c ^^^ 1, ?_⟩
  have e : 2 ^ s * (2 * c ^^^ 1) = (2 * c ^^^ 1) <<< s := by rw [Nat.shiftLeft_eq, Nat.mul_comm]
  rw [e, Nat.shiftLeft_xor_distrib, Nat.shiftLeft_eq, Nat.shiftLeft_eq, Nat.one_mul, Nat.pow_succ]
  congr 1
  ac_rfl
theorem mod_or {Q s : Nat} (hs : s < 64) (h : 2 ^ (s + 1) ∣ Q) : (Q % 18446744073709551616) ||| 2 ^ s = (Q ^^^ 2 ^ s) % 18446744073709551616 := by
  have h1 : 2 ^ (s + 1) ∣ Q % 18446744073709551616 := by
    have : (18446744073709551616 : Nat) = 2 ^ 64 := by decide
    rw [this]
    exact (Nat.dvd_mod_iff (Nat.pow_dvd_pow 2 (by omega))).2 h
  rw [or_eq_xor h1, xor_mod64]
  congr 1
  have : 2 ^ s < 2 ^ 64 := Nat.pow_lt_pow_right (by omega) hs
  exact (Nat.mod_eq_of_lt this).symm
theorem bshift {b s n : Nat} (hb : b ≠ 0) (hn : b.log2 + s = n) : 2 ^ n ≤ b * 2 ^ s ∧ b * 2 ^ s < 2 ^ (n + 1) := by
  subst hn
  have h0 := Nat.two_pow_pos s
  constructor
  · rw [Nat.pow_add]; exact Nat.mul_le_mul_right _ (Gf.pow_log2_le hb)
  · have e : b.log2 + s + 1 = (b.log2 + 1) + s := by omega
    rw [e, Nat.pow_add]; exact Nat.mul_lt_mul_of_pos_right (Gf.lt_pow_log2 b) h0
theorem pow64 : (2 : Nat) ^ 64 = 18446744073709551616 := by decide
theorem lt64_of {a n : Nat} (hn : n ≤ 64) (h : a < 2 ^ n) : a < 18446744073709551616 := by
  have := Nat.pow_le_pow_right (n := 2) (by omega) hn
  rw [pow64] at this
  omega
theorem log2_le63 {b : Nat} (hb : b ≠ 0) (h : b < 18446744073709551616) : b.log2 ≤ 63 := by
  have := (Nat.log2_lt (n := b) (k := 64) hb).2 h
  omega
theorem poly_long.ev_l1 {b N : Nat} (hb : b ≠ 0) (hb64 : b < 18446744073709551616) : ∀ (m : Nat) (i : Int) (lo Q : Nat), i ≤ 63 → -1 ≤ i → i + 1 ≤ m → lo < 2 ^ (i + 1).toNat → N = Gf.mul Q b ^^^ lo → 2 ^ (i + 1 - (b.log2 : Int)).toNat ∣ Q →
    Ev (fun k => poly_long.l1 k (lo : Int) (b : Int) ((Q % 18446744073709551616 : Nat) : Int) (dg b) i) (((Gf.quo N b % 18446744073709551616 : Nat) : Int), ((Gf.rem N b : Nat) : Int)) := by
  intro m
  have hl63 := log2_le63 hb hb64
  have stop : ∀ (i : Int) (lo Q : Nat), i < (b.log2 : Int) → -1 ≤ i → lo < 2 ^ (i + 1).toNat → N = Gf.mul Q b ^^^ lo → Ev (fun k => poly_long.l1 k (lo : Int) (b : Int) ((Q % 18446744073709551616 : Nat) : Int) (dg b) i) (((Gf.quo N b % 18446744073709551616 : Nat) : Int), ((Gf.rem N b : Nat) : Int)) := by
    intro i lo Q hi h1 hlo hN
    have hd : Gf.IsDiv N b Q lo := ⟨hN, Nat.lt_of_lt_of_le hlo (Nat.pow_le_pow_right (by omega) (by omega))⟩
    rw [hd.quo_eq hb, hd.rem_eq hb]
    refine Ev.step (f := fun _ => some _) (fun k => ?_) (Ev.now _)
    simp only [poly_long.l1]
    rw [dg_pos hb, if_neg (by omega)]
  induction m with
  | zero =>
    intro i lo Q h63 h1 hm hlo hN hQ
    exact stop i lo Q (by omega) h1 hlo hN
  | succ m ih =>
    intro i lo Q h63 h1 hm hlo hN hQ
    by_cases hi : i < (b.log2 : Int)
    · exact stop i lo Q hi h1 hlo hN
    · obtain ⟨j, rfl⟩ := Int.eq_ofNat_of_zero_le (show 0 ≤ i by omega)
      have e1 : ((j : Int) + 1).toNat = j + 1 := by omega
      have e2 : ((j : Int) + 1 - (b.log2 : Int)).toNat = (j - b.log2) + 1 := by omega
      rw [e1] at hlo
      rw [e2] at hQ
      have hlo64 : lo < 18446744073709551616 := lt64_of (n := j + 1) (by omega) hlo
      have hw : wrap64 ((j : Int) - 1) = (j : Int) - 1 := by unfold wrap64; omega
      have hw2 : wrap64 ((j : Int) - (b.log2 : Int)) = ((j - b.log2 : Nat) : Int) := by unfold wrap64; omega
      by_cases hbit : lo.testBit j
      · obtain ⟨s1, s2⟩ := bshift (s := j - b.log2) (n := j) hb (by omega)
        have hlo2 : 2 ^ j ≤ lo := by
          rcases Nat.lt_or_ge lo (2 ^ j) with h' | h'
          · rw [Nat.testBit_lt_two_pow h'] at hbit; cases hbit
          · exact h'
        have hs64 : b * 2 ^ (j - b.log2) < 18446744073709551616 := lt64_of (n := j + 1) (by omega) s2
        have h := ih ((j : Int) - 1) (lo ^^^ b * 2 ^ (j - b.log2)) (Q ^^^ 2 ^ (j - b.log2)) (by omega) (by omega) (by omega)
          (by have : ((j : Int) - 1 + 1).toNat = j := by omega
              rw [this]; exact xor_cancel_top hlo2 hlo s1 s2)
          (by rw [hN, Gf.xor_mul, Gf.pow_two_mul]
              have : Gf.mul Q b ^^^ b * 2 ^ (j - b.log2) ^^^ (lo ^^^ b * 2 ^ (j - b.log2)) = Gf.mul Q b ^^^ lo ^^^ (b * 2 ^ (j - b.log2) ^^^ b * 2 ^ (j - b.log2)) := by ac_rfl
              rw [this, Nat.xor_self, Nat.xor_zero])
          (by have : ((j : Int) - 1 + 1 - (b.log2 : Int)).toNat = j - b.log2 := by omega
              rw [this]; exact xor_pow hQ)
        refine Ev.step (fun k => ?_) h
        simp only [poly_long.l1]
        rw [dg_pos hb, if_pos (by omega), if_pos (by omega), shr64 hlo64, and64_one (shr64_lt hlo64 j), testBit_div, if_pos hbit, if_neg (by omega), hw2, if_pos (by omega)]
        have o1 : shl .u64 1 ((j - b.log2 : Nat) : Int) = ((2 ^ (j - b.log2) : Nat) : Int) := by
          have := shl64 1 (j - b.log2)
          rw [Nat.one_mul, Nat.mod_eq_of_lt (lt64_of (n := j - b.log2 + 1) (by omega) (Nat.pow_lt_pow_right (by omega) (by omega)))] at this
          exact this
        rw [o1, shl64, Nat.mod_eq_of_lt hs64, xor64 hlo64 hs64, or64 (Nat.mod_lt _ (by omega)) (lt64_of (n := j - b.log2 + 1) (by omega) (Nat.pow_lt_pow_right (by omega) (by omega))), mod_or (by omega) hQ, hw]
      · have hb0 : lo.testBit j = false := by simpa using hbit
        have h := ih ((j : Int) - 1) lo Q (by omega) (by omega) (by omega)
          (by have : ((j : Int) - 1 + 1).toNat = j := by omega
              rw [this]; exact lt_of_no_bit hlo hb0) hN
          (by have : ((j : Int) - 1 + 1 - (b.log2 : Int)).toNat = j - b.log2 := by omega
              rw [this]; exact Nat.dvd_trans (Nat.pow_dvd_pow 2 (by omega)) hQ)
        refine Ev.step (fun k => ?_) h
        simp only [poly_long.l1]
        rw [dg_pos hb, if_pos (by omega), if_pos (by omega), shr64 hlo64, and64_one (shr64_lt hlo64 j), testBit_div, if_neg hbit, if_pos (by omega), hw]
theorem dg_bound {a : Nat} : a < 2 ^ (dg a + 1).toNat := by
  unfold dg
  split
  · rename_i h; subst h; decide
  · have : ((a.log2 : Int) + 1).toNat = a.log2 + 1 := by omega
    rw [this]; exact Gf.lt_pow_log2 a
theorem wrap_s (j d : Nat) (hj : j ≤ 63) (hd : d ≤ 63) : wrap64 (wrap64 (64 + (j : Int)) - (d : Int)) = ((64 + j - d : Nat) : Int) := by
  have h1 : wrap64 (64 + (j : Int)) = 64 + (j : Int) := by unfold wrap64; omega
  have h2 : wrap64 (64 + (j : Int) - (d : Int)) = 64 + (j : Int) - (d : Int) := by unfold wrap64; omega
  rw [h1, h2]; omega
theorem split64 (B : Nat) : B = B / 2 ^ 64 * 2 ^ 64 ^^^ B % 2 ^ 64 := by
  apply Nat.eq_of_testBit_eq
  intro t
  rw [Nat.testBit_xor, Nat.testBit_mod_two_pow, Nat.mul_comm (_ / _), Nat.testBit_two_pow_mul, Nat.testBit_div_two_pow]
  by_cases ht : t < 64
  · have h1 : ¬ t ≥ 64 := by omega
    simp [ht, h1]
  · have h1 : t ≥ 64 := by omega
    have h2 : t - 64 + 64 = t := by omega
    simp [ht, h1, h2]
theorem long_val {N Q b h lo s : Nat} (hN : N = Gf.mul Q b ^^^ (h * 2 ^ 64 ^^^ lo)) :
    N = Gf.mul (Q ^^^ 2 ^ s) b ^^^ ((h ^^^ b * 2 ^ s / 2 ^ 64) * 2 ^ 64 ^^^ (lo ^^^ b * 2 ^ s % 2 ^ 64)) := by
  rw [hN, Gf.xor_mul, Gf.pow_two_mul]
  have d : (h ^^^ b * 2 ^ s / 2 ^ 64) * 2 ^ 64 = h * 2 ^ 64 ^^^ (b * 2 ^ s / 2 ^ 64) * 2 ^ 64 := by
    rw [← Nat.shiftLeft_eq, Nat.shiftLeft_xor_distrib, Nat.shiftLeft_eq, Nat.shiftLeft_eq]
  rw [d]
  have hsplit := split64 (b * 2 ^ s)
  generalize b * 2 ^ s = B at hsplit
  have r : Gf.mul Q b ^^^ B ^^^ (h * 2 ^ 64 ^^^ B / 2 ^ 64 * 2 ^ 64 ^^^ (lo ^^^ B % 2 ^ 64)) = Gf.mul Q b ^^^ (h * 2 ^ 64 ^^^ lo) ^^^ (B ^^^ (B / 2 ^ 64 * 2 ^ 64 ^^^ B % 2 ^ 64)) := by ac_rfl
  rw [r, ← hsplit, Nat.xor_self, Nat.xor_zero]
theorem long_top {b h j s : Nat} (hb : b ≠ 0) (hs : b.log2 + s = 64 + j) : 2 ^ j ≤ b * 2 ^ s / 2 ^ 64 ∧ b * 2 ^ s / 2 ^ 64 < 2 ^ (j + 1) := by
  obtain ⟨s1, s2⟩ := bshift hb hs
  have e64 : (2 : Nat) ^ (64 + j) = 2 ^ j * 2 ^ 64 := by rw [Nat.pow_add, Nat.mul_comm]
  have e65 : (2 : Nat) ^ (64 + j + 1) = 2 ^ (j + 1) * 2 ^ 64 := by rw [Nat.add_assoc, Nat.pow_add, Nat.mul_comm]
  exact ⟨(Nat.le_div_iff_mul_le (Nat.two_pow_pos 64)).2 (by rw [← e64]; exact s1), (Nat.div_lt_iff_lt_mul (Nat.two_pow_pos 64)).2 (by rw [← e65]; exact s2)⟩
theorem long_down {b h j s : Nat} (hb : b ≠ 0) (hs : b.log2 + s = 64 + j) (hh : h < 2 ^ (j + 1)) (hbit : h.testBit j = true) : h ^^^ b * 2 ^ s / 2 ^ 64 < 2 ^ j := by
  obtain ⟨t1, t2⟩ := long_top (h := h) hb hs
  have hh2 : 2 ^ j ≤ h := by
    rcases Nat.lt_or_ge h (2 ^ j) with h' | h'
    · rw [Nat.testBit_lt_two_pow h'] at hbit; cases hbit
    · exact h'
  exact xor_cancel_top hh2 hh t1 t2
theorem long_far {b j s : Nat} (hb : b ≠ 0) (hj : j ≤ 63) (hs : b.log2 + s = 64 + j) (h64 : 64 ≤ s) :
    b * 2 ^ s / 2 ^ 64 = b * 2 ^ (s - 64) ∧ b * 2 ^ s % 2 ^ 64 = 0 ∧ b * 2 ^ (s - 64) < 18446744073709551616 ∧ ∀ Q, (Q ^^^ 2 ^ s) % 18446744073709551616 = Q % 18446744073709551616 := by
  have esp : b * 2 ^ s = b * 2 ^ (s - 64) * 2 ^ 64 := by rw [Nat.mul_assoc, ← Nat.pow_add, Nat.sub_add_cancel h64]
  have hq2 : b * 2 ^ s / 2 ^ 64 = b * 2 ^ (s - 64) := by rw [esp, Nat.mul_div_cancel _ (Nat.two_pow_pos 64)]
  refine ⟨hq2, by rw [esp, Nat.mul_mod_left], ?_, fun Q => ?_⟩
  · have t2 := (long_top (h := 0) hb hs).2
    rw [hq2] at t2
    exact lt64_of (n := j + 1) (by omega) t2
  · rw [xor_mod64]
    have : 2 ^ s % 18446744073709551616 = 0 := by
      rw [← pow64]; exact Nat.mod_eq_zero_of_dvd (Nat.pow_dvd_pow 2 h64)
    rw [this, Nat.xor_zero]
theorem shl_one {s : Nat} (hs : s < 64) : shl .u64 1 (s : Int) = ((2 ^ s : Nat) : Int) ∧ 2 ^ s < 18446744073709551616 := by
  have hlt : 2 ^ s < 18446744073709551616 := by rw [← pow64]; exact Nat.pow_lt_pow_right (by omega) hs
  have := shl64 1 s
  rw [Nat.one_mul, Nat.mod_eq_of_lt hlt] at this
  exact ⟨this, hlt⟩
theorem wrap_pred (j : Nat) (hj : j ≤ 1000) : wrap64 ((j : Int) - 1) = (j : Int) - 1 := by unfold wrap64; omega
theorem wrap_sub (a b : Nat) (h : b ≤ a) (ha : a ≤ 1000) : wrap64 ((a : Int) - (b : Int)) = ((a - b : Nat) : Int) := by unfold wrap64; omega
theorem toNat_pred (j : Nat) : ((j : Int) - 1 + 1).toNat = j := by omega
theorem long_stay {b j : Nat} (hd : b.log2 ≤ 63) : (64 + ((j : Int) - 1) + 1 - (b.log2 : Int)).toNat = 64 + j - b.log2 := by omega
theorem poly_long.ev_l0 {b N : Nat} (hb : b ≠ 0) (hb64 : b < 18446744073709551616) : ∀ (m : Nat) (i : Int) (h lo Q : Nat), i ≤ 63 → -1 ≤ i → i + 1 = m → h < 2 ^ (i + 1).toNat → lo < 18446744073709551616 → N = Gf.mul Q b ^^^ (h * 2 ^ 64 ^^^ lo) → 2 ^ (64 + i + 1 - (b.log2 : Int)).toNat ∣ Q →
    Ev (fun k => poly_long.l0 k (h : Int) (lo : Int) (b : Int) ((Q % 18446744073709551616 : Nat) : Int) (dg b) i) (((Gf.quo N b % 18446744073709551616 : Nat) : Int), ((Gf.rem N b : Nat) : Int)) := by
  intro m
  have hl63 := log2_le63 hb hb64
  induction m with
  | zero =>
    intro i h lo Q h63 h1 hm hh hlo hN hQ
    have : i = -1 := by clear hh hN hQ; omega
    subst this
    have h0 : h = 0 := by simpa using hh
    subst h0
    rw [Nat.zero_mul, Nat.zero_xor] at hN
    have e : Ev (fun k => (poly_Degree.f k (lo : Int)).bind fun t106 => (poly_long.l1 k (lo : Int) (b : Int) ((Q % 18446744073709551616 : Nat) : Int) (dg b) t106)) (((Gf.quo N b % 18446744073709551616 : Nat) : Int), ((Gf.rem N b : Nat) : Int)) := by
      refine Ev.bind (poly_Degree.ev hlo) ?_
      have hd := dg_lt64 hlo
      have hg := dg_ge lo
      refine poly_long.ev_l1 hb hb64 64 (dg lo) lo Q hd hg (by clear hN hQ; omega) dg_bound hN (Nat.dvd_trans (Nat.pow_dvd_pow 2 ?_) hQ)
      clear hN hQ
      omega
    refine Ev.step (fun k => ?_) e
    simp only [poly_long.l0]
    rw [if_neg (by decide)]
  | succ m ih =>
    intro i h lo Q h63 h1 hm hh hlo hN hQ
    obtain ⟨j, rfl⟩ := Int.eq_ofNat_of_zero_le (show 0 ≤ i by clear hh hN hQ; omega)
    have hj : j ≤ 63 := by clear hh hN hQ; omega
    obtain ⟨s, hs⟩ : ∃ s, b.log2 + s = 64 + j := ⟨64 + j - b.log2, by clear hh hN hQ; omega⟩
    have hs1000 : s ≤ 1000 := by clear hh hN hQ; omega
    have hsi : ∀ n : Nat, n ≤ s → (s : Int) ≥ (n : Int) := by clear hh hN hQ; intro n hn; omega
    have hsn : ∀ n : Nat, s < n → ¬ (s : Int) ≥ (n : Int) := by clear hh hN hQ; intro n hn; omega
    have e1 : ((j : Int) + 1).toNat = j + 1 := by clear hh hN hQ; omega
    have e2 : (64 + (j : Int) + 1 - (b.log2 : Int)).toNat = s + 1 := by clear hh hN hQ; omega
    have e3 : (64 + ((j : Int) - 1) + 1 - (b.log2 : Int)).toNat = s := by clear hh hN hQ; omega
    rw [e1] at hh
    rw [e2] at hQ
    have hh64 : h < 18446744073709551616 := lt64_of (n := j + 1) (Nat.succ_le_succ hj) hh
    have hw := wrap_pred j (by clear hh hN hQ; omega)
    have hw2 : wrap64 (wrap64 (64 + (j : Int)) - (b.log2 : Int)) = (s : Int) := by
      rw [wrap_s j b.log2 hj hl63]
      have : 64 + j - b.log2 = s := by clear hh hN hQ; omega
      rw [this]
    have c1 : (j : Int) ≥ 0 := Int.natCast_nonneg j
    have hm' : (j : Int) - 1 + 1 = m := by clear hh hN hQ; omega
    have hj1 : (j : Int) - 1 ≤ 63 := by clear hh hN hQ; omega
    have hj2 : -1 ≤ (j : Int) - 1 := by clear hh hN hQ; omega
    by_cases hbit : h.testBit j = true
    · have hn := ih ((j : Int) - 1) (h ^^^ b * 2 ^ s / 2 ^ 64) (lo ^^^ b * 2 ^ s % 2 ^ 64) (Q ^^^ 2 ^ s) hj1 hj2 hm' (by rw [toNat_pred]; exact long_down hb hs hh hbit) (xor64_lt hlo (by rw [pow64]; exact Nat.mod_lt _ (by decide))) (long_val hN) (by rw [e3]; exact xor_pow hQ)
      refine Ev.step (fun k => ?_) hn
      simp only [poly_long.l0]
      rw [dg_pos hb, if_pos c1, if_pos c1, shr64 hh64, and64_one (shr64_lt hh64 j), testBit_div, if_pos hbit, if_neg (by decide), hw2]
      by_cases hs64 : 64 ≤ s
      · obtain ⟨f1, f2, f3, f4⟩ := long_far hb hj hs hs64
        have hw3 := wrap_sub s 64 hs64 hs1000
        have c2 : (s : Int) ≥ 64 := hsi 64 hs64
        rw [if_pos c2]
        have c3 : (0 : Int) ≤ ((s - 64 : Nat) : Int) := Int.natCast_nonneg _
        have hw4 : wrap64 ((s : Int) - 64) = ((s - 64 : Nat) : Int) := hw3
        rw [hw4, if_pos c3, shl64, Nat.mod_eq_of_lt f3, xor64 hh64 f3, hw, f4, f1, f2, Nat.xor_zero]
      · have hs' : s < 64 := Nat.lt_of_not_le hs64
        have c2 : ¬ (s : Int) ≥ 64 := hsn 64 hs'
        have c3 : (0 : Int) ≤ (s : Int) := Int.natCast_nonneg _
        have hw3 : wrap64 (64 - (s : Int)) = ((64 - s : Nat) : Int) := wrap_sub 64 s (Nat.le_of_lt hs') (by decide)
        have c4 : (0 : Int) ≤ ((64 - s : Nat) : Int) := Int.natCast_nonneg _
        have hp : b * 2 ^ s / 2 ^ 64 = b / 2 ^ (64 - s) := by rw [pow64]; exact high_part (Nat.le_of_lt hs')
        obtain ⟨o1, o2⟩ := shl_one hs'
        rw [if_neg c2, if_pos c3, hw3, if_pos c4, shr64 hb64, xor64 hh64 (shr64_lt hb64 _), shl64, xor64 hlo (shl64_lt _ _), o1, or64 (Nat.mod_lt _ (by decide)) o2, mod_or hs' hQ, hw, ← hp, pow64]
    · have hb0 : h.testBit j = false := by simpa using hbit
      have hn := ih ((j : Int) - 1) h lo Q hj1 hj2 hm' (by rw [toNat_pred]; exact lt_of_no_bit hh hb0) hlo hN (by rw [e3]; exact Nat.dvd_trans (Nat.pow_dvd_pow 2 (Nat.le_succ s)) hQ)
      refine Ev.step (fun k => ?_) hn
      simp only [poly_long.l0]
      rw [if_pos c1, if_pos c1, shr64 hh64, and64_one (shr64_lt hh64 j), testBit_div, if_neg hbit, if_pos (by decide), hw]
/-- the number that two halves make -/
def whole (h l : Nat) : Nat := h * 18446744073709551616 ^^^ l
theorem whole_zero (l : Nat) : whole 0 l = l := by unfold whole; simp
theorem poly_long.ev {h l b : Nat} (hh : h < 18446744073709551616) (hl : l < 18446744073709551616) (hb : b ≠ 0) (hb64 : b < 18446744073709551616) :
    Ev (fun k => poly_long.f k (h : Int) (l : Int) (b : Int)) (((Gf.quo (whole h l) b % 18446744073709551616 : Nat) : Int), ((Gf.rem (whole h l) b : Nat) : Int)) := by
  unfold poly_long.f
  refine Ev.bind (poly_Degree.ev hb64) (Ev.bind (poly_Degree.ev hh) ?_)
  have h1 := dg_lt64 hh
  have h2 := dg_ge h
  exact poly_long.ev_l0 hb hb64 (dg h + 1).toNat (dg h) h l 0 (by omega) (by omega) (by omega) dg_bound hl (by rw [Gf.mul_zero_left, Nat.zero_xor, pow64]; rfl) (Nat.dvd_zero _)
end Go.Proofs.Ytofdnjlcnpaecaa.P
