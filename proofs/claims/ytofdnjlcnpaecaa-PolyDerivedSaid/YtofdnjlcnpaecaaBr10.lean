/- Greatest common divisors, inverses and Bezout's numbers: what the program and the reference compute. No condition. -/
import Derived.Test.YtofdnjlcnpaecaaBrA
import Derived.Test.YtofdnjlcnpaecaaGf
import Derived.Test.YtofdnjlcnpaecaaP14
set_option linter.unusedVariables false
namespace Go.Proofs.Ytofdnjlcnpaecaa.P
open Go.RowKit Go.Proofs.YtofdnjlcnpaecaaW.PrintWords Go.Proofs.YtofdnjlcnpaecaaW.PrintLast Go.Proofs.YtofdnjlcnpaecaaW.PrintMore
theorem long0 {l b : Nat} (hl : l < 18446744073709551616) (hb : b ≠ 0) (hb64 : b < 18446744073709551616) : Ev (fun k => poly_long.f k 0 (l : Int) (b : Int)) (((Gf.quo l b : Nat) : Int), ((Gf.rem l b : Nat) : Int)) := by
  have h := poly_long.ev (h := 0) (l := l) (b := b) (by decide) hl hb hb64
  rw [whole_zero, Nat.mod_eq_of_lt (quo_le hb hl)] at h
  exact h
theorem whole0 {l b : Nat} (hl : l < 18446744073709551616) (hb : b ≠ 0) (hb64 : b < 18446744073709551616) : Ev (fun k => outpostref02_Whole.f k 0 (l : Int) (b : Int)) (((Gf.quo l b : Nat) : Int), ((Gf.rem l b : Nat) : Int)) := by
  have h := outpostref02_Whole.ev (h := 0) (l := l) (b := b) (by decide) hl hb hb64
  rw [whole_zero, Nat.mod_eq_of_lt (quo_le hb hl)] at h
  exact h
theorem longm {a b m : Nat} (ha : a < 18446744073709551616) (hb : b < 18446744073709551616) (hm : m ≠ 0) (hm64 : m < 18446744073709551616) :
    Ev (fun k => poly_long.f k ((hi a b : Nat) : Int) ((lo a b : Nat) : Int) (m : Int)) (((Gf.quo (Gf.mul a b) m % 18446744073709551616 : Nat) : Int), ((Gf.rem (Gf.mul a b) m : Nat) : Int)) := by
  have h := poly_long.ev (hi_lt ha hb) (lo_lt a b) hm hm64
  rw [whole_mul] at h; exact h
theorem wholem {a b m : Nat} (ha : a < 18446744073709551616) (hb : b < 18446744073709551616) (hm : m ≠ 0) (hm64 : m < 18446744073709551616) :
    Ev (fun k => outpostref02_Whole.f k ((hi a b : Nat) : Int) ((lo a b : Nat) : Int) (m : Int)) (((Gf.quo (Gf.mul a b) m % 18446744073709551616 : Nat) : Int), ((Gf.rem (Gf.mul a b) m : Nat) : Int)) := by
  have h := outpostref02_Whole.ev (hi_lt ha hb) (lo_lt a b) hm hm64
  rw [whole_mul] at h; exact h
theorem poly_Gcd.ev (b : Nat) : ∀ a : Nat, a < 18446744073709551616 → b < 18446744073709551616 → Ev (fun k => poly_Gcd.f k (a : Int) (b : Int)) ((Gf.gcd a b : Nat) : Int) := by
  induction b using Nat.strongRecOn with
  | _ b ih =>
    intro a ha hb
    by_cases h : b = 0
    · subst h
      rw [Gf.gcd_zero]
      refine Ev.step (f := fun _ => some (a : Int)) (fun k => ?_) (Ev.now _)
      simp [poly_Gcd.f, poly_Gcd.l0]
    · rw [Gf.gcd_rem a b h]
      refine Ev.step (f := fun k => (poly_rest.f k (a : Int) (b : Int)).bind fun t => poly_Gcd.f k (b : Int) t) (fun k => ?_) ?_
      · simp only [poly_Gcd.f, poly_Gcd.l0]; rw [if_neg (cast_ne h)]
      · exact Ev.bind (poly_rest.ev ha h hb) (ih _ (Gf.rem_lt' a b h) b hb (rem_lt64 h hb))
theorem outpostref02_Gcd.ev (b : Nat) : ∀ a : Nat, a < 18446744073709551616 → b < 18446744073709551616 → Ev (fun k => outpostref02_Gcd.f k (a : Int) (b : Int)) ((Gf.gcd a b : Nat) : Int) := by
  induction b using Nat.strongRecOn with
  | _ b ih =>
    intro a ha hb
    by_cases h : b = 0
    · subst h
      rw [Gf.gcd_zero]
      refine Ev.step (f := fun _ => some (a : Int)) (fun k => ?_) (Ev.now _)
      simp [outpostref02_Gcd.f, outpostref02_Gcd.l0]
    · rw [Gf.gcd_rem a b h]
      refine Ev.step (f := fun k => (outpostref02_Whole.f k 0 (a : Int) (b : Int)).bind fun bt => outpostref02_Gcd.f k (b : Int) bt.2) (fun k => ?_) ?_
      · simp only [outpostref02_Gcd.f, outpostref02_Gcd.l0]; rw [if_neg (cast_ne h)]
      · exact Ev.bind (whole0 ha h hb) (ih _ (Gf.rem_lt' a b h) b hb (rem_lt64 h hb))
theorem pow_log2_lt64 {m p : Nat} (hm : m ≠ 0) (hm64 : m < 18446744073709551616) (h : p < 2 ^ m.log2) : p < 18446744073709551616 := Nat.lt_trans (Nat.lt_of_lt_of_le h (Gf.pow_log2_le hm)) hm64
theorem poly_inverse.ev_l0 {x m : Nat} (hm : m ≠ 0) (hm64 : m < 18446744073709551616) (s : Nat) : ∀ r p q : Nat, r < 18446744073709551616 → s < 18446744073709551616 → p < 2 ^ m.log2 → q < 2 ^ m.log2 →
    Gf.Dvd m (Gf.mul p x ^^^ r) → Gf.Dvd m (Gf.mul q x ^^^ s) → Gf.gcd r s = 1 → ∃ z, Gf.Inv x m z ∧ Ev (fun k => poly_inverse.l0 k (m : Int) (r : Int) (s : Int) (p : Int) (q : Int)) (z : Int) := by
  induction s using Nat.strongRecOn with
  | _ s ih =>
    intro r p q hr hs hp hq h1 h2 hg
    by_cases h : s = 0
    · subst h
      rw [Gf.gcd_zero] at hg
      subst hg
      refine ⟨p, ⟨hp, h1⟩, Ev.step (f := fun _ => some (p : Int)) (fun k => ?_) (Ev.now _)⟩
      simp [poly_inverse.l0]
    · have hq64 := pow_log2_lt64 hm hm64 hq
      have hp64 := pow_log2_lt64 hm hm64 hp
      have hw := Gf.rem_lt (Gf.mul (Gf.quo r s) q) m hm
      rw [Gf.gcd_rem r s h] at hg
      obtain ⟨z, hz, hev⟩ := ih _ (Gf.rem_lt' r s h) s q (p ^^^ Gf.rem (Gf.mul (Gf.quo r s) q) m) hs (rem_lt64 h hs) hq (Gf.xor_lt hp hw) h2 (Gf.inv_step hm h h1 h2) hg
      refine ⟨z, hz, ?_⟩
      refine Ev.step (f := fun k => (poly_long.f k 0 (r : Int) (s : Int)).bind fun bt330 => ((poly_Mul.f k bt330.1 (q : Int)).bind fun bt332 => ((poly_long.f k bt332.1 bt332.2 (m : Int)).bind fun bt334 => (poly_inverse.l0 k (m : Int) (s : Int) bt330.2 (q : Int) (Go.bits .xor .u64 (p : Int) bt334.2))))) (fun k => ?_) ?_
      · simp only [poly_inverse.l0]; rw [if_neg (cast_ne h)]
      · refine Ev.bind (long0 hr h hs) (Ev.bind (poly_Mul.ev (quo_le h hr) hq64) (Ev.bind (longm (quo_le h hr) hq64 hm hm64) ?_))
        show Ev (fun k => poly_inverse.l0 k (m : Int) (s : Int) ((Gf.rem r s : Nat) : Int) (q : Int) (Go.bits .xor .u64 (p : Int) ((Gf.rem (Gf.mul (Gf.quo r s) q) m : Nat) : Int))) (z : Int)
        rw [xor64 hp64 (rem_lt64 hm hm64)]
        exact hev
theorem poly_inverse.ev {x m : Nat} (hx : x < 18446744073709551616) (hm : m ≠ 0) (hm64 : m < 18446744073709551616) (hg : Gf.gcd x m = 1) : ∃ z, Gf.Inv x m z ∧ Ev (fun k => poly_inverse.f k (x : Int) (m : Int)) (z : Int) := by
  have d0 : Gf.Dvd m (Gf.mul 0 x ^^^ m) := by rw [Gf.mul_zero_left, Nat.zero_xor]; exact Gf.dvd_refl m
  have d1 : Gf.Dvd m (Gf.mul (Gf.rem 1 m) x ^^^ Gf.rem x m) := by
    rw [Gf.dvd_iff_rem hm, Gf.rem_xor _ _ _ hm, Gf.rem_mul_left _ _ _ hm, Gf.one_mul, Gf.rem_rem _ _ hm, Nat.xor_self]
  have hg' : Gf.gcd m (Gf.rem x m) = 1 := by rw [← Gf.gcd_rem x m hm]; exact hg
  obtain ⟨z, hz, hev⟩ := poly_inverse.ev_l0 hm hm64 (Gf.rem x m) m 0 (Gf.rem 1 m) hm64 (rem_lt64 hm hm64) (Nat.two_pow_pos _) (Gf.rem_lt 1 m hm) d0 d1 hg'
  refine ⟨z, hz, ?_⟩
  unfold poly_inverse.f
  exact Ev.bind (poly_rest.ev hx hm hm64) (Ev.bind (poly_rest.ev (by decide) hm hm64) hev)
/-- the reference's way: g times the same numbers. -/
theorem outpostref02_lowest.ev_l0 {x m g : Nat} (hm : m ≠ 0) (hm64 : m < 18446744073709551616) (hg0 : g ≠ 0) (hg64 : g < 18446744073709551616) (s : Nat) : ∀ r p q : Nat, Gf.mul r g < 18446744073709551616 → Gf.mul s g < 18446744073709551616 → p < 18446744073709551616 → q < 18446744073709551616 →
    Gf.Dvd m (Gf.mul p x ^^^ r) → Gf.Dvd m (Gf.mul q x ^^^ s) → Gf.gcd r s = 1 → ∃ z, Gf.Inv x m z ∧ Ev (fun k => outpostref02_lowest.l0 k (g : Int) (m : Int) ((Gf.mul r g : Nat) : Int) ((Gf.mul s g : Nat) : Int) (p : Int) (q : Int)) (z : Int) := by
  induction s using Nat.strongRecOn with
  | _ s ih =>
    intro r p q hr hs hp hq h1 h2 hg
    by_cases h1' : r = 1
    · subst h1'
      rw [Gf.one_mul]
      refine ⟨Gf.rem p m, ⟨Gf.rem_lt p m hm, Gf.inv_reduce hm h1⟩, Ev.step (f := fun k => (outpostref02_Whole.f k 0 (p : Int) (m : Int)).bind fun bt348 => (some bt348.2)) (fun k => ?_) (Ev.bind (whole0 hp hm hm64) (Ev.now _))⟩
      simp only [outpostref02_lowest.l0]; rw [if_pos trivial]
    · have hne : Gf.mul r g ≠ g := fun e => h1' (Gf.mul_left_cancel hg0 (by rw [Gf.mul_one, Gf.mul_comm]; exact e))
      have h : s ≠ 0 := fun e => by rw [e, Gf.gcd_zero] at hg; exact h1' hg
      have hsg : Gf.mul s g ≠ 0 := Gf.mul_ne_zero h hg0
      obtain ⟨hq', hr'⟩ := Gf.div_common (r := r) h hg0
      have hql := quo_le hsg hr
      have hw0 := whole0 hr hsg hs
      rw [hq', hr'] at hw0
      rw [hq'] at hql
      have hrl := rem_lt64 (a := Gf.mul r g) hsg hs
      rw [hr'] at hrl
      have hw := Gf.rem_lt (Gf.mul (Gf.quo r s) q) m hm
      have hx64 := xor64_lt hp (rem_lt64 (a := Gf.mul (Gf.quo r s) q) hm hm64)
      rw [Gf.gcd_rem r s h] at hg
      obtain ⟨z, hz, hev⟩ := ih _ (Gf.rem_lt' r s h) s q (Gf.rem (p ^^^ Gf.rem (Gf.mul (Gf.quo r s) q) m) m) hs hrl hq (rem_lt64 hm hm64) h2 (Gf.inv_reduce hm (Gf.inv_step hm h h1 h2)) hg
      refine ⟨z, hz, ?_⟩
      refine Ev.step (f := fun k => (outpostref02_Whole.f k 0 ((Gf.mul r g : Nat) : Int) ((Gf.mul s g : Nat) : Int)).bind fun bt350 => ((outpostref02_Mul.f k bt350.1 (q : Int)).bind fun bt352 => ((outpostref02_Whole.f k bt352.1 bt352.2 (m : Int)).bind fun bt354 => ((outpostref02_Whole.f k 0 (Go.bits .xor .u64 (p : Int) bt354.2) (m : Int)).bind fun bt356 => (outpostref02_lowest.l0 k (g : Int) (m : Int) ((Gf.mul s g : Nat) : Int) bt350.2 (q : Int) bt356.2))))) (fun k => ?_) ?_
      · simp only [outpostref02_lowest.l0]; rw [if_neg (show ¬ ((Gf.mul r g : Nat) : Int) = (g : Int) from fun e => hne (Int.ofNat.inj e)), if_neg (cast_ne hsg)]
      · refine Ev.bind hw0 (Ev.bind (outpostref02_Mul.ev hql hq) (Ev.bind (wholem hql hq hm hm64) ?_))
        show Ev (fun k => (outpostref02_Whole.f k 0 (Go.bits .xor .u64 (p : Int) ((Gf.rem (Gf.mul (Gf.quo r s) q) m : Nat) : Int)) (m : Int)).bind fun bt356 => (outpostref02_lowest.l0 k (g : Int) (m : Int) ((Gf.mul s g : Nat) : Int) ((Gf.mul (Gf.rem r s) g : Nat) : Int) (q : Int) bt356.2)) (z : Int)
        rw [xor64 hp (rem_lt64 hm hm64)]
        exact Ev.bind (whole0 hx64 hm hm64) hev
/-- what both of them answer to Bezout's question. -/
theorem bezouts {a b : Nat} (ha : a < 18446744073709551616) (hb : b < 18446744073709551616) : ∃ u v : Nat, u < 18446744073709551616 ∧ v < 18446744073709551616 ∧ Gf.mul u a ^^^ Gf.mul v b = Gf.gcd a b ∧
    Ev (fun k => poly_Bezout.f k (a : Int) (b : Int)) (((Gf.gcd a b : Nat) : Int), (u : Int), (v : Int)) ∧ Ev (fun k => outpostref02_Bezout.f k (a : Int) (b : Int)) (((Gf.gcd a b : Nat) : Int), (u : Int), (v : Int)) := by
  by_cases h : b = 0
  · subst h
    rw [Gf.gcd_zero]
    by_cases h0 : a = 0
    · subst h0
      exact ⟨0, 0, by decide, by decide, by rw [Gf.mul_zero_left]; rfl, Ev.all fun k => by unfold poly_Bezout.f; rw [if_pos (show ((0 : Nat) : Int) = 0 from rfl)]; rfl, Ev.all fun k => by unfold outpostref02_Bezout.f; rw [if_pos (show ((0 : Nat) : Int) = 0 from rfl)]; rfl⟩
    · refine ⟨1, 0, by decide, by decide, by rw [Gf.one_mul, Gf.mul_zero_left, Nat.xor_zero], Ev.all fun k => ?_, Ev.all fun k => ?_⟩
      · unfold poly_Bezout.f; rw [if_pos (show ((0 : Nat) : Int) = 0 from rfl)]
        unfold mn
        by_cases h1 : a = 1
        · subst h1; rfl
        · rw [if_pos (by omega)]; rfl
      · unfold outpostref02_Bezout.f; rw [if_pos (show ((0 : Nat) : Int) = 0 from rfl), if_neg (cast_ne h0)]; rfl
  · have hg0 : Gf.gcd a b ≠ 0 := Gf.gcd_ne_zero (a := a) (Or.inr h)
    have hga := Gf.quo_dvd hg0 (Gf.gcd_dvd_left a b)
    have hgb := Gf.quo_dvd hg0 (Gf.gcd_dvd_right a b)
    have hc := Gf.cofactors (a := a) h
    have e1 := poly_Gcd.ev b a ha hb
    have e2 := outpostref02_Gcd.ev b a ha hb
    have hg64 : Gf.gcd a b < 18446744073709551616 := by
      have h1 := Gf.log2_le_of_dvd h (Gf.gcd_dvd_right a b)
      have h2 := log2_le63 h hb
      exact lt64_of (n := (Gf.gcd a b).log2 + 1) (by omega) (Gf.lt_pow_log2 _)
    have e3 := long0 hb hg0 hg64
    have e4 := long0 ha hg0 hg64
    have e5 := whole0 hb hg0 hg64
    have hx64 := quo_le hg0 ha
    have hm64 := quo_le hg0 hb
    generalize Gf.gcd a b = g at *
    generalize Gf.quo a g = x at *
    generalize Gf.quo b g = m at *
    have hm : m ≠ 0 := fun e => h (by rw [hgb, e, Gf.mul_zero_left])
    obtain ⟨z, hz, hev⟩ := poly_inverse.ev hx64 hm hm64 hc
    have d0 : Gf.Dvd m (Gf.mul 0 x ^^^ m) := by rw [Gf.mul_zero_left, Nat.zero_xor]; exact Gf.dvd_refl m
    have d1 : Gf.Dvd m (Gf.mul 1 x ^^^ x) := by rw [Gf.one_mul, Nat.xor_self]; exact Gf.dvd_zero m
    obtain ⟨z', hz', hev'⟩ := outpostref02_lowest.ev_l0 hm hm64 hg0 hg64 m x 1 0 (by rw [← hga]; exact ha) (by rw [← hgb]; exact hb) (by decide) (by decide) d1 d0 hc
    rw [← hga, ← hgb] at hev'
    obtain rfl := hz.unique hm hz'
    have hz64 := pow_log2_lt64 hm hm64 hz.lt
    have hd : Gf.Dvd b (Gf.mul z a ^^^ g) := by
      have h1 := Gf.mul_dvd_mul g hz.dvd
      rw [Gf.xor_mul, Gf.one_mul, Gf.mul_assoc, ← hga, ← hgb] at h1; exact h1
    have hw : whole (hi z a) (lo z a ^^^ g) = Gf.mul z a ^^^ g := by
      rw [← whole_mul z a]; unfold whole; rw [Nat.xor_assoc]
    have hq := Gf.quo_dvd h hd
    have hv : Gf.quo (Gf.mul z a ^^^ g) b < 18446744073709551616 := by
      by_cases hq0 : Gf.quo (Gf.mul z a ^^^ g) b = 0
      · rw [hq0]; decide
      · generalize hQ : Gf.quo (Gf.mul z a ^^^ g) b = Q at *
        -- deg (z a + g) is under 64 + deg b
        have hlt : Gf.mul z a ^^^ g < 2 ^ (63 + b.log2 + 1) := by
          refine Gf.xor_lt ?_ ?_
          · have hml : m.log2 ≤ b.log2 := by
              rw [hgb]; exact Gf.log2_le_of_dvd (by rw [← hgb]; exact h) (Gf.dvd_mul_right m g)
            have h1 := Gf.mul_lt (m := 63) hz.lt (show a < 2 ^ (63 + 1) from ha)
            exact Nat.lt_of_lt_of_le h1 (Nat.pow_le_pow_right (by decide) (by omega))
          · have : g.log2 ≤ b.log2 := by
              rw [hgb]; exact Gf.log2_le_of_dvd (by rw [← hgb]; exact h) (Gf.dvd_mul_left g m)
            exact Nat.lt_of_lt_of_le (Gf.lt_pow_log2 g) (Nat.pow_le_pow_right (by decide) (by omega))
        rw [hq] at hlt
        have h3 := (Gf.mul_size hq0 h).1
        have h5 := (Nat.pow_lt_pow_iff_right (a := 2) (by decide)).1 (Nat.lt_of_le_of_lt h3 hlt)
        exact lt64_of (n := Q.log2 + 1) (by omega) (Gf.lt_pow_log2 _)
    refine ⟨z, Gf.quo (Gf.mul z a ^^^ g) b, hz64, hv, ?_, ?_, ?_⟩
    · rw [← hq, ← Nat.xor_assoc, Nat.xor_self, Nat.zero_xor]
    · unfold poly_Bezout.f
      refine Ev.neg (cast_ne h) (Ev.bind e1 (Ev.bind e3 (Ev.bind e4 (Ev.bind hev (Ev.bind (poly_Mul.ev hz64 ha) ?_)))))
      have hl := poly_long.ev (hi_lt hz64 ha) (xor64_lt (lo_lt z a) hg64) h hb
      rw [hw, Nat.mod_eq_of_lt hv] at hl
      show Ev (fun k => (poly_long.f k ((hi z a : Nat) : Int) (Go.bits .xor .u64 ((lo z a : Nat) : Int) (g : Int)) (b : Int)).bind fun bt344 => some ((g : Int), (z : Int), bt344.1)) _
      rw [xor64 (lo_lt z a) hg64]
      exact Ev.bind hl (Ev.now _)
    · unfold outpostref02_Bezout.f
      refine Ev.neg (cast_ne h) (Ev.bind e2 (Ev.bind e5 (Ev.bind hev' (Ev.bind (outpostref02_Mul.ev hz64 ha) ?_))))
      have hl := outpostref02_Whole.ev (hi_lt hz64 ha) (xor64_lt (lo_lt z a) hg64) h hb
      rw [hw, Nat.mod_eq_of_lt hv] at hl
      show Ev (fun k => (outpostref02_Whole.f k ((hi z a : Nat) : Int) (Go.bits .xor .u64 ((lo z a : Nat) : Int) (g : Int)) (b : Int)).bind fun bt344 => some ((g : Int), (z : Int), bt344.1)) _
      rw [xor64 (lo_lt z a) hg64]
      exact Ev.bind hl (Ev.now _)
end Go.Proofs.Ytofdnjlcnpaecaa.P
