/- Polynomials over the field of two elements: greatest common divisors, irreducible ones, how often one divides. Plain Lean, no program. -/
import Derived.Test.YtofdnjlcnpaecaaGf1
set_option linter.unusedVariables false
namespace Gf

noncomputable def gcd (a b : Nat) : Nat := if h : b = 0 then a else gcd b (rem a b)
termination_by b
decreasing_by exact rem_lt' a b h
theorem gcd_zero (a : Nat) : gcd a 0 = a := by rw [gcd, dif_pos rfl]
theorem gcd_rem (a b : Nat) (h : b ≠ 0) : gcd a b = gcd b (rem a b) := by rw [gcd, dif_neg h]
theorem gcd_spec (b : Nat) : ∀ a, (Dvd (gcd a b) a ∧ Dvd (gcd a b) b) ∧ ∃ u v, mul u a ^^^ mul v b = gcd a b := by
  induction b using Nat.strongRecOn with
  | _ b ih =>
    intro a
    by_cases h : b = 0
    · subst h
      rw [gcd_zero]
      exact ⟨⟨dvd_refl a, dvd_zero a⟩, 1, 0, by rw [one_mul, mul_zero_left, Nat.xor_zero]⟩
    · rw [gcd_rem a b h]
      obtain ⟨⟨h1, h2⟩, u, v, h3⟩ := ih (rem a b) (rem_lt' a b h) b
      have e := div_eq a b h
      refine ⟨⟨?_, h1⟩, v, u ^^^ mul v (quo a b), ?_⟩
      · have h4 := dvd_xor (dvd_mul (quo a b) h1) h2
        rwa [← e] at h4
      · have e2 : rem a b = a ^^^ mul (quo a b) b := xor_eq_iff.1 (by rw [Nat.xor_comm]; exact e.symm)
        rw [← h3]
        conv => rhs; rw [e2, mul_xor, ← mul_assoc]
        rw [xor_mul]
        ac_rfl
theorem gcd_dvd_left (a b : Nat) : Dvd (gcd a b) a := (gcd_spec b a).1.1
theorem gcd_dvd_right (a b : Nat) : Dvd (gcd a b) b := (gcd_spec b a).1.2
theorem bezout (a b : Nat) : ∃ u v, mul u a ^^^ mul v b = gcd a b := (gcd_spec b a).2
theorem dvd_gcd {c a b : Nat} (h : Dvd c a) (k : Dvd c b) : Dvd c (gcd a b) := by
  obtain ⟨u, v, e⟩ := bezout a b
  rw [← e]
  exact dvd_xor (dvd_mul u h) (dvd_mul v k)
theorem gcd_unique {a b g : Nat} (h1 : Dvd g a) (h2 : Dvd g b) (h3 : ∀ c, Dvd c a → Dvd c b → Dvd c g) : g = gcd a b :=
  dvd_antisymm (dvd_gcd h1 h2) (h3 _ (gcd_dvd_left a b) (gcd_dvd_right a b))
theorem mul_dvd_mul {a b : Nat} (c : Nat) (h : Dvd a b) : Dvd (mul a c) (mul b c) := by
  obtain ⟨x, rfl⟩ := h
  exact ⟨x, mul_assoc x a c⟩
theorem gcd_mul (a b c : Nat) : gcd (mul a c) (mul b c) = mul (gcd a b) c := by
  symm
  refine gcd_unique (mul_dvd_mul c (gcd_dvd_left a b)) (mul_dvd_mul c (gcd_dvd_right a b)) fun d h1 h2 => ?_
  obtain ⟨u, v, e⟩ := bezout a b
  rw [← e, xor_mul, mul_assoc, mul_assoc]
  exact dvd_xor (dvd_mul u h1) (dvd_mul v h2)
theorem gcd_ne_zero {a b : Nat} (h : a ≠ 0 ∨ b ≠ 0) : gcd a b ≠ 0 := by
  intro e
  have h1 := gcd_dvd_left a b
  have h2 := gcd_dvd_right a b
  rw [e] at h1 h2
  have := zero_dvd.1 h1
  have := zero_dvd.1 h2
  omega
theorem gcd_comm (a b : Nat) : gcd a b = gcd b a := gcd_unique (gcd_dvd_right a b) (gcd_dvd_left a b) fun _ h1 h2 => dvd_gcd h2 h1

/-! ### irreducible ones -/
structure Irr (p : Nat) : Prop where
  two : 2 ≤ p
  one : ∀ a b, mul a b = p → a = 1 ∨ b = 1
theorem Irr.ne {p : Nat} (h : Irr p) : p ≠ 0 := by have := h.two; omega
theorem log2_pos {p : Nat} (h : 2 ≤ p) : 1 ≤ p.log2 := by
  rw [Nat.le_log2 (by omega)]; omega
theorem Irr.dvd {p d : Nat} (h : Irr p) (hd : Dvd d p) : d = 1 ∨ d = p := by
  obtain ⟨c, hc⟩ := hd
  rcases h.one c d hc.symm with rfl | h1
  · right; rw [hc, one_mul]
  · exact .inl h1
theorem Irr.coprime {p a : Nat} (h : Irr p) (ha : ¬ Dvd p a) : gcd p a = 1 := by
  rcases h.dvd (gcd_dvd_left p a) with h1 | h1
  · exact h1
  · have := gcd_dvd_right p a
    rw [h1] at this
    exact absurd this ha
theorem Irr.prime {p a b : Nat} (h : Irr p) (hd : Dvd p (mul a b)) : Dvd p a ∨ Dvd p b := by
  by_cases ha : Dvd p a
  · exact .inl ha
  · right
    obtain ⟨u, v, e⟩ := bezout p a
    rw [h.coprime ha] at e
    have : b = mul (mul u b) p ^^^ mul v (mul a b) := by
      have e2 := congrArg (fun x => mul x b) e
      simp only [xor_mul, one_mul] at e2
      refine e2.symm.trans ?_
      rw [mul_assoc u p b, mul_comm p b, ← mul_assoc u b p, mul_assoc v a b]
    rw [this]
    exact dvd_xor (dvd_mul_left p _) (dvd_mul v hd)
theorem Irr.not_one {p : Nat} (h : Irr p) : ¬ Dvd p 1 := fun hd => by have := dvd_one hd; have := h.two; omega
theorem lt_of_dvd {d a : Nat} (ha : a ≠ 0) (hd : Dvd d a) (hne : d ≠ a) : d.log2 < a.log2 ∧ d < a := by
  obtain ⟨c, rfl⟩ := hd
  have hc : c ≠ 0 := by rintro rfl; exact ha (mul_zero_left d)
  have hd0 : d ≠ 0 := by rintro rfl; exact ha (mul_zero c)
  have hc1 : c ≠ 1 := by rintro rfl; exact hne (one_mul d).symm
  have hl := log2_mul hc hd0
  have h2 := log2_pos (show 2 ≤ c by omega)
  have hlt : d.log2 < (mul c d).log2 := by omega
  refine ⟨hlt, ?_⟩
  have h3 := lt_pow_log2 d
  have h4 := pow_log2_le ha
  have h5 := Nat.pow_le_pow_right (n := 2) (by omega) (show d.log2 + 1 ≤ (mul c d).log2 by omega)
  omega
/-- the least divisor is irreducible -/
theorem irr_of_least {p a : Nat} (h2 : 2 ≤ p) (hd : Dvd p a) (hl : ∀ d, 2 ≤ d → d < p → ¬ Dvd d a) : Irr p := by
  refine ⟨h2, fun x y hxy => ?_⟩
  have hy : Dvd y p := ⟨x, hxy.symm⟩
  have hx : Dvd x p := ⟨y, by rw [mul_comm, hxy]⟩
  by_cases e : y = p
  · left
    have h0 : y ≠ 0 := by omega
    have : mul y x = mul y 1 := by rw [mul_comm, hxy, mul_one, e]
    exact mul_left_cancel h0 this
  · right
    have hlt := (lt_of_dvd (by omega) hy e).2
    have hy0 : y ≠ 0 := by rintro rfl; rw [mul_zero] at hxy; omega
    rcases Nat.lt_or_ge y 2 with h | h
    · omega
    · exact absurd (dvd_trans hy hd) (hl y h hlt)
theorem exists_irr {a : Nat} (h : 2 ≤ a) : ∃ p, Irr p ∧ Dvd p a := by
  induction a using Nat.strongRecOn with
  | _ a ih =>
    by_cases hi : Irr a
    · exact ⟨a, hi, dvd_refl a⟩
    · have : ∃ x y, mul x y = a ∧ x ≠ 1 ∧ y ≠ 1 := by
        refine Classical.byContradiction fun hn => hi ⟨h, fun x y hxy => ?_⟩
        by_cases hx : x = 1
        · exact .inl hx
        · by_cases hy : y = 1
          · exact .inr hy
          · exact absurd ⟨x, y, hxy, hx, hy⟩ hn
      obtain ⟨x, y, hxy, hx, hy⟩ := this
      have hx0 : x ≠ 0 := by rintro rfl; rw [mul_zero_left] at hxy; omega
      have hy0 : y ≠ 0 := by rintro rfl; rw [mul_zero] at hxy; omega
      have hdy : Dvd y a := ⟨x, hxy.symm⟩
      have hne : y ≠ a := by
        rintro rfl
        have : mul y x = mul y 1 := by rw [mul_comm, hxy, mul_one]
        exact hx (mul_left_cancel hy0 this)
      obtain ⟨p, hp, hd⟩ := ih y (lt_of_dvd (by omega) hdy hne).2 (by omega)
      exact ⟨p, hp, dvd_trans hd hdy⟩
/-- with no divisor up to half its degree it is irreducible -/
theorem irr_of_half {a : Nat} (h2 : 2 ≤ a) (hl : ∀ d, 2 ≤ d → 2 * d.log2 ≤ a.log2 → ¬ Dvd d a) : Irr a := by
  refine ⟨h2, fun x y hxy => ?_⟩
  have hx0 : x ≠ 0 := by rintro rfl; rw [mul_zero_left] at hxy; omega
  have hy0 : y ≠ 0 := by rintro rfl; rw [mul_zero] at hxy; omega
  have hlog := log2_mul hx0 hy0
  rw [hxy] at hlog
  by_cases hx : x = 1
  · exact .inl hx
  · by_cases hy : y = 1
    · exact .inr hy
    · rcases Nat.le_total x.log2 y.log2 with h | h
      · exact absurd ⟨y, by rw [mul_comm, hxy]⟩ (hl x (by omega) (by omega))
      · exact absurd ⟨x, hxy.symm⟩ (hl y (by omega) (by omega))

/-! ### how often p divides a -/
theorem quo_lt {p a : Nat} (hp : 2 ≤ p) (ha : a ≠ 0) (hd : Dvd p a) : quo a p ≠ 0 ∧ quo a p < a ∧ a = mul (quo a p) p := by
  have h0 : p ≠ 0 := by omega
  have e := div_eq a p h0
  rw [(dvd_iff_rem h0).1 hd, Nat.xor_zero] at e
  have hq : quo a p ≠ 0 := by intro h; rw [h, mul_zero_left] at e; exact ha e
  refine ⟨hq, ?_, e⟩
  have hd2 : Dvd (quo a p) a := ⟨p, by rw [mul_comm]; exact e⟩
  refine (lt_of_dvd ha hd2 fun h => ?_).2
  rw [h] at e
  have : mul a p = mul a 1 := by rw [mul_one]; exact e.symm
  have := mul_left_cancel ha this
  omega
open Classical in
noncomputable def val (p a : Nat) : Nat := if h : 2 ≤ p ∧ a ≠ 0 ∧ Dvd p a then val p (quo a p) + 1 else 0
termination_by a
decreasing_by exact (quo_lt h.1 h.2.1 h.2.2).2.1
theorem val_of_not {p a : Nat} (h : ¬ Dvd p a) : val p a = 0 := by rw [val, dif_neg (fun k => h k.2.2)]
theorem val_step {p a : Nat} (hp : 2 ≤ p) (ha : a ≠ 0) : val p (mul a p) = val p a + 1 := by
  have h0 : p ≠ 0 := by omega
  have hne := mul_ne_zero ha h0
  rw [val, dif_pos ⟨hp, hne, dvd_mul_left p a⟩]
  have e := (quo_lt hp hne (dvd_mul_left p a)).2.2
  have : mul p a = mul p (quo (mul a p) p) := by rw [mul_comm, mul_comm p]; exact e
  rw [← mul_left_cancel h0 this]
theorem val_pos {p a : Nat} (hp : 2 ≤ p) (ha : a ≠ 0) : 0 < val p a ↔ Dvd p a := by
  constructor
  · intro h
    refine Classical.byContradiction fun hn => ?_
    rw [val_of_not hn] at h; omega
  · intro h
    rw [val, dif_pos ⟨hp, ha, h⟩]; omega
theorem val_mul {p a b : Nat} (hp : Irr p) (ha : a ≠ 0) (hb : b ≠ 0) : val p (mul a b) = val p a + val p b := by
  induction a using Nat.strongRecOn with
  | _ a ih =>
    by_cases hd : Dvd p a
    · obtain ⟨hq, hlt, e⟩ := quo_lt hp.two ha hd
      have := ih _ hlt hq
      rw [e, val_step hp.two hq, mul_assoc, mul_comm p b, ← mul_assoc, val_step hp.two (mul_ne_zero hq hb), this]
      omega
    · rw [val_of_not hd, Nat.zero_add]
      clear ih
      induction b using Nat.strongRecOn with
      | _ b ih =>
        by_cases hd2 : Dvd p b
        · obtain ⟨hq, hlt, e⟩ := quo_lt hp.two hb hd2
          have := ih _ hlt hq
          rw [e, ← mul_assoc, val_step hp.two (mul_ne_zero ha hq), this, val_step hp.two hq]
        · rw [val_of_not hd2]
          refine val_of_not fun h => ?_
          rcases hp.prime h with h | h
          · exact hd h
          · exact hd2 h
theorem val_one {p : Nat} (hp : 2 ≤ p) : val p 1 = 0 := val_of_not fun h => by have := dvd_one h; omega
theorem val_self {p : Nat} (hp : 2 ≤ p) : val p p = 1 := by
  have := val_step hp (a := 1) (by omega)
  rw [one_mul, val_one hp] at this
  exact this
theorem val_other {p q : Nat} (hp : Irr p) (hq : Irr q) (hne : p ≠ q) : val p q = 0 := val_of_not fun h => by
  rcases hq.dvd h with h1 | h1
  · have := hp.two; omega
  · exact hne h1
/-- what has the same valuations is the same -/
theorem eq_of_val : ∀ (a b : Nat), a ≠ 0 → b ≠ 0 → (∀ p, Irr p → val p a = val p b) → a = b := by
  intro a
  induction a using Nat.strongRecOn with
  | _ a ih =>
    intro b ha hb h
    by_cases h1 : a = 1
    · subst h1
      rcases Nat.lt_or_ge b 2 with h2 | h2
      · omega
      · obtain ⟨p, hp, hd⟩ := exists_irr h2
        have h3 := (val_pos hp.two hb).2 hd
        have h4 := h p hp
        rw [val_one hp.two] at h4
        omega
    · obtain ⟨p, hp, hd⟩ := exists_irr (show 2 ≤ a by omega)
      have h3 := (val_pos hp.two ha).2 hd
      have hd2 := (val_pos hp.two hb).1 (by rw [← h p hp]; exact h3)
      obtain ⟨q1, l1, e1⟩ := quo_lt hp.two ha hd
      obtain ⟨q2, l2, e2⟩ := quo_lt hp.two hb hd2
      have : quo a p = quo b p := by
        refine ih _ l1 _ q1 q2 fun r hr => ?_
        have := h r hr
        rw [e1, e2, val_mul hr q1 hp.ne, val_mul hr q2 hp.ne] at this
        omega
      rw [e1, e2, this]
end Gf
