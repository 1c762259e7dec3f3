/- The field of residues modulo an irreducible polynomial: Fermat's law, roots, Rabin's test. Plain Lean, no program. No condition. -/
import Derived.Test.YtofdnjlcnpaecaaGf4
set_option linter.unusedVariables false
namespace Gf
def pow (a : Nat) : Nat → Nat
  | 0 => 1
  | n + 1 => mul (pow a n) a
theorem pow_add (a n m : Nat) : pow a (n + m) = mul (pow a n) (pow a m) := by
  induction m with
  | zero => simp [pow, mul_one]
  | succ m ih => rw [← Nat.add_assoc, pow, ih, pow, mul_assoc]
/-- squared so many times -/
def sq : Nat → Nat → Nat
  | 0, a => a
  | i + 1, a => mul (sq i a) (sq i a)
theorem sq_pow (i a : Nat) : sq i a = pow a (2 ^ i) := by
  induction i with
  | zero => simp [sq, pow, one_mul]
  | succ i ih => rw [sq, ih, ← pow_add, Nat.pow_succ]; congr 1; omega
theorem square_xor (a b : Nat) : mul (a ^^^ b) (a ^^^ b) = mul a a ^^^ mul b b := by
  rw [xor_mul, mul_xor, mul_xor, mul_comm b a, Nat.xor_assoc, ← Nat.xor_assoc (mul a b), Nat.xor_self, Nat.zero_xor]
theorem sq_xor (i a b : Nat) : sq i (a ^^^ b) = sq i a ^^^ sq i b := by
  induction i with
  | zero => rfl
  | succ i ih => rw [sq, ih, square_xor]; rfl
theorem sq_mul (i a b : Nat) : sq i (mul a b) = mul (sq i a) (sq i b) := by
  induction i with
  | zero => rfl
  | succ i ih => rw [sq, ih, sq, sq, mul_assoc, mul_left_comm (sq i b), ← mul_assoc]
theorem sq_zero (i : Nat) : sq i 0 = 0 := by
  induction i with
  | zero => rfl
  | succ i ih => rw [sq, ih, mul_zero]
theorem sq_one (i : Nat) : sq i 1 = 1 := by
  induction i with
  | zero => rfl
  | succ i ih => rw [sq, ih, mul_one]
theorem sq_add (i j a : Nat) : sq (i + j) a = sq i (sq j a) := by
  induction i with
  | zero => rw [Nat.zero_add]; rfl
  | succ i ih => rw [show i + 1 + j = i + j + 1 by omega, sq, ih]; rfl
theorem dvd_sq {p a : Nat} (i : Nat) (h : Dvd p a) : Dvd p (sq i a) := by
  induction i with
  | zero => exact h
  | succ i ih => exact dvd_mul _ ih
theorem sq_congr {p a b : Nat} (i : Nat) (h : Dvd p (a ^^^ b)) : Dvd p (sq i a ^^^ sq i b) := by rw [← sq_xor]; exact dvd_sq i h
theorem dvd_xor_trans {p a b c : Nat} (h : Dvd p (a ^^^ b)) (k : Dvd p (b ^^^ c)) : Dvd p (a ^^^ c) := by
  have := dvd_xor h k
  rwa [Nat.xor_assoc, ← Nat.xor_assoc b, Nat.xor_self, Nat.zero_xor] at this
theorem dvd_xor_symm {p a b : Nat} (h : Dvd p (a ^^^ b)) : Dvd p (b ^^^ a) := by rwa [Nat.xor_comm]
/-! ### products over lists -/
def prod : List Nat → Nat
  | [] => 1
  | x :: l => mul x (prod l)
theorem prod_erase : ∀ (l : List Nat) (x : Nat), x ∈ l → prod l = mul x (prod (l.erase x))
  | y :: l, x, h => by
    by_cases e : y = x
    · subst e; rw [List.erase_cons_head]; rfl
    · rw [List.erase_cons_tail (by simpa using e)]
      have hm : x ∈ l := by
        rcases List.mem_cons.1 h with h | h
        · exact absurd h.symm e
        · exact h
      show mul y (prod l) = mul x (mul y (prod (l.erase x)))
      rw [prod_erase l x hm, mul_left_comm]
theorem prod_eq : ∀ (l m : List Nat), l.Nodup → m.Nodup → (∀ x, x ∈ l ↔ x ∈ m) → prod l = prod m
  | [], m, _, _, h => by
    have : m = [] := by
      cases m with
      | nil => rfl
      | cons y m => exact absurd ((h y).2 (by simp)) (by simp)
    rw [this]
  | x :: l, m, hl, hm, h => by
    have hx : x ∈ m := (h x).1 (by simp)
    obtain ⟨h1, h2⟩ := List.nodup_cons.1 hl
    rw [prod_erase m x hx]
    show mul x (prod l) = _
    rw [prod_eq l (m.erase x) h2 (hm.erase x) fun y => ?_]
    rw [hm.mem_erase_iff]
    constructor
    · intro hy
      exact ⟨fun e => h1 (e ▸ hy), (h y).1 (by simp [hy])⟩
    · rintro ⟨hne, hy⟩
      rcases List.mem_cons.1 ((h y).2 hy) with e | e
      · exact absurd e hne
      · exact e
theorem prod_map (a : Nat) : ∀ l : List Nat, prod (l.map (mul a)) = mul (pow a l.length) (prod l)
  | [] => by simp [prod, pow, mul_one]
  | x :: l => by
    show mul (mul a x) (prod (l.map (mul a))) = mul (mul (pow a l.length) a) (mul x (prod l))
    rw [prod_map a l, mul_assoc, mul_assoc, mul_left_comm x (pow a l.length), mul_left_comm a (pow a l.length)]
theorem prod_rem {p : Nat} (hp : p ≠ 0) : ∀ l : List Nat, rem (prod (l.map fun s => rem s p)) p = rem (prod l) p
  | [] => rfl
  | x :: l => by
    show rem (mul (rem x p) (prod (l.map fun s => rem s p))) p = rem (mul x (prod l)) p
    rw [rem_mul_left _ _ _ hp, ← rem_mul_right _ _ _ hp, prod_rem hp l, rem_mul_right _ _ _ hp]
theorem prod_prime {p : Nat} (hp : Irr p) : ∀ l : List Nat, (∀ x ∈ l, ¬ Dvd p x) → ¬ Dvd p (prod l)
  | [], _ => hp.not_one
  | x :: l, h => fun hd => by
    rcases hp.prime (show Dvd p (mul x (prod l)) from hd) with h1 | h1
    · exact h x (by simp) h1
    · exact prod_prime hp l (fun y hy => h y (by simp [hy])) h1
/-- the residues that are not 0. -/
def units (n : Nat) : List Nat := (List.range (2 ^ n - 1)).map (· + 1)
theorem mem_units {n x : Nat} : x ∈ units n ↔ 1 ≤ x ∧ x < 2 ^ n := by
  unfold units
  rw [List.mem_map]
  constructor
  · rintro ⟨i, hi, rfl⟩
    rw [List.mem_range] at hi; omega
  · rintro ⟨h1, h2⟩
    exact ⟨x - 1, by rw [List.mem_range]; omega, by omega⟩
theorem units_nodup (n : Nat) : (units n).Nodup := by
  unfold units
  rw [List.Nodup, List.pairwise_map]
  exact List.Pairwise.imp (fun h => by omega) (List.nodup_range (n := 2 ^ n - 1))
theorem units_length (n : Nat) : (units n).length = 2 ^ n - 1 := by unfold units; rw [List.length_map, List.length_range]
theorem small_not_dvd {p x : Nat} (hp : p ≠ 0) (h1 : x ≠ 0) (h2 : x < 2 ^ p.log2) : ¬ Dvd p x := fun h => h1 (dvd_small hp h h2)
theorem fermat_unit {p a : Nat} (hp : Irr p) (ha : ¬ Dvd p a) : Dvd p (pow a (2 ^ p.log2 - 1) ^^^ 1) := by
  have hne := hp.ne
  obtain ⟨v, b, hb⟩ := bezout p a
  rw [hp.coprime ha] at hb
  have hb1 : Dvd p (mul b a ^^^ 1) := by
    rw [← hb, Nat.xor_comm, Nat.xor_assoc, Nat.xor_self, Nat.xor_zero]; exact dvd_mul_left p v
  have hnd : ∀ x ∈ units p.log2, ¬ Dvd p x := fun x hx => by
    obtain ⟨h1, h2⟩ := mem_units.1 hx
    exact small_not_dvd hne (by omega) h2
  have hperm : prod ((units p.log2).map fun s => rem (mul a s) p) = prod (units p.log2) := by
    refine prod_eq _ _ ?_ (units_nodup _) fun y => ?_
    · rw [List.Nodup, List.pairwise_map]
      refine List.Pairwise.imp_of_mem (fun {s t} hs ht hst => ?_) (units_nodup p.log2)
      intro e
      obtain ⟨_, hs2⟩ := mem_units.1 hs
      obtain ⟨_, ht2⟩ := mem_units.1 ht
      have h1 := (rem_eq_iff hne).1 e
      rw [← mul_xor] at h1
      rcases hp.prime h1 with h2 | h2
      · exact ha h2
      · exact hst (xor_eq_zero.1 (dvd_small hne h2 (xor_lt hs2 ht2)))
    · rw [List.mem_map, mem_units]
      constructor
      · rintro ⟨s, hs, rfl⟩
        refine ⟨?_, rem_lt _ _ hne⟩
        have h1 : ¬ rem (mul a s) p = 0 := fun e => by
          rcases hp.prime ((dvd_iff_rem hne).2 e) with h2 | h2
          · exact ha h2
          · exact hnd s hs h2
        omega
      · rintro ⟨h1, h2⟩
        have hy : ¬ Dvd p y := small_not_dvd hne (by omega) h2
        have hb' : ¬ Dvd p b := fun h => by
          have h3 : Dvd p (mul b a) := by rw [mul_comm]; exact dvd_mul a h
          exact hp.not_one ((dvd_xor_left h3).1 hb1)
        have e1 : rem (mul a (rem (mul b y) p)) p = y := by
          rw [rem_mul_right _ _ _ hne, ← mul_assoc, mul_comm a b]
          have h3 := (rem_eq_iff hne).2 hb1
          rw [← rem_mul_left _ _ _ hne, h3, rem_mul_left _ _ _ hne, one_mul, rem_of_lt hne h2]
        refine ⟨rem (mul b y) p, mem_units.2 ⟨?_, rem_lt _ _ hne⟩, e1⟩
        have h3 : ¬ rem (mul b y) p = 0 := fun e => by
          rcases hp.prime ((dvd_iff_rem hne).2 e) with h4 | h4
          · exact hb' h4
          · exact hy h4
        omega
  have e1 := prod_rem hne ((units p.log2).map (mul a))
  rw [List.map_map, prod_map, units_length] at e1
  have e2 : ((fun s => rem s p) ∘ mul a) = fun s => rem (mul a s) p := rfl
  rw [e2, hperm] at e1
  have h1 := (rem_eq_iff hne).1 e1
  have e3 : prod (units p.log2) ^^^ mul (pow a (2 ^ p.log2 - 1)) (prod (units p.log2)) = mul (pow a (2 ^ p.log2 - 1) ^^^ 1) (prod (units p.log2)) := by
    rw [xor_mul, one_mul, Nat.xor_comm]
  rw [e3] at h1
  rcases hp.prime h1 with h2 | h2
  · exact h2
  · exact absurd h2 (prod_prime hp _ hnd)
theorem fermat {p : Nat} (hp : Irr p) (a : Nat) : Dvd p (sq p.log2 a ^^^ a) := by
  by_cases ha : Dvd p a
  · exact dvd_xor (dvd_sq _ ha) ha
  · have h := dvd_mul a (fermat_unit hp ha)
    rw [mul_xor, mul_one, mul_comm, show mul (pow a (2 ^ p.log2 - 1)) a = pow a (2 ^ p.log2 - 1 + 1) from rfl, Nat.sub_add_cancel (Nat.two_pow_pos _), ← sq_pow] at h
    exact h
/-! ### roots -/
/-- a monic polynomial in y, by its lower coefficients. -/
def ev : List Nat → Nat → Nat
  | [], _ => 1
  | c :: cs, y => c ^^^ mul y (ev cs y)
theorem quotient : ∀ (c : Nat) (cs : List Nat) (r : Nat), ∃ qs : List Nat, qs.length = cs.length ∧ ∀ y, ev (c :: cs) y ^^^ ev (c :: cs) r = mul (y ^^^ r) (ev qs y)
  | c, [], r => ⟨[], rfl, fun y => by
      simp only [ev, mul_one]
      rw [Nat.xor_assoc, xor_left_comm y, ← Nat.xor_assoc c, Nat.xor_self, Nat.zero_xor]⟩
  | c, d :: cs, r => by
    obtain ⟨qs, hq, h⟩ := quotient d cs r
    refine ⟨ev (d :: cs) r :: qs, by simp [hq], fun y => ?_⟩
    have h1 := h y
    show (c ^^^ mul y (ev (d :: cs) y)) ^^^ (c ^^^ mul r (ev (d :: cs) r)) = mul (y ^^^ r) (ev (d :: cs) r ^^^ mul y (ev qs y))
    rw [mul_xor, mul_left_comm _ y, ← h1, mul_xor, xor_mul]
    generalize mul y (ev (d :: cs) y) = A; generalize mul r (ev (d :: cs) r) = B; generalize mul y (ev (d :: cs) r) = C
    apply Nat.eq_of_testBit_eq; intro i; simp only [Nat.testBit_xor]
    cases A.testBit i <;> cases B.testBit i <;> cases C.testBit i <;> cases c.testBit i <;> rfl
theorem roots {p : Nat} (hp : Irr p) : ∀ (n : Nat) (cs rs : List Nat), cs.length = n → n < rs.length → rs.Pairwise (fun a b => ¬ Dvd p (a ^^^ b)) → (∀ r ∈ rs, Dvd p (ev cs r)) → False
  | 0, cs, rs, hc, hl, _, h => by
    obtain rfl : cs = [] := List.length_eq_zero_iff.1 hc
    cases rs with
    | nil => simp at hl
    | cons r rs => exact hp.not_one (h r (by simp))
  | n + 1, [], rs, hc, _, _, _ => by simp at hc
  | n + 1, c :: cs, [], hc, hl, _, _ => by simp at hl
  | n + 1, c :: cs, r :: rs, hc, hl, hd, h => by
    obtain ⟨qs, hq, e⟩ := quotient c cs r
    obtain ⟨h1, h2⟩ := List.pairwise_cons.1 hd
    refine roots hp n qs rs (by rw [hq]; simpa using hc) (by simpa using hl) h2 fun s hs => ?_
    have h3 := dvd_xor (h s (by simp [hs])) (h r (by simp))
    rw [e s] at h3
    rcases hp.prime h3 with h4 | h4
    · exact absurd (dvd_xor_symm h4) (h1 s hs)
    · exact h4
theorem ev_zeros : ∀ (m y : Nat), ev (List.replicate m 0) y = pow y m
  | 0, y => rfl
  | m + 1, y => by
    rw [List.replicate_succ]
    show 0 ^^^ mul y (ev (List.replicate m 0) y) = mul (pow y m) y
    rw [Nat.zero_xor, ev_zeros m y, mul_comm]
theorem fixed_all {p i : Nat} (h : Dvd p (sq i 2 ^^^ 2)) (y : Nat) : Dvd p (sq i y ^^^ y) := by
  induction y using Nat.strongRecOn with
  | _ y ih =>
    by_cases h0 : y = 0
    · subst h0; rw [sq_zero]; exact dvd_zero p
    · have h1 := ih (y / 2) (by omega)
      have e := halves y
      have e2 : 2 * (y / 2) = mul 2 (y / 2) := by rw [show (2 : Nat) = 2 * 1 by rfl, mul_two_left, one_mul]
      have h2 : Dvd p (sq i (mul 2 (y / 2)) ^^^ mul 2 (y / 2)) := by
        rw [sq_mul]
        have a1 := dvd_mul (sq i (y / 2)) h
        have a2 := dvd_mul 2 h1
        rw [mul_xor] at a1 a2
        rw [mul_comm _ (sq i 2), mul_comm _ 2] at a1
        exact dvd_xor_trans a1 a2
      have h3 : Dvd p (sq i (if y % 2 = 1 then 1 else 0) ^^^ (if y % 2 = 1 then 1 else 0)) := by
        split
        · rw [sq_one, Nat.xor_self]; exact dvd_zero p
        · rw [sq_zero]; exact dvd_zero p
      rw [e2] at e
      have h4 := dvd_xor h3 h2
      have e3 : sq i (if y % 2 = 1 then 1 else 0) ^^^ (if y % 2 = 1 then 1 else 0) ^^^ (sq i (mul 2 (y / 2)) ^^^ mul 2 (y / 2)) = sq i y ^^^ y := by
        conv => rhs; rw [e, sq_xor]
        generalize sq i (if y % 2 = 1 then 1 else 0) = A; generalize (if y % 2 = 1 then 1 else 0) = B; generalize sq i (mul 2 (y / 2)) = C; generalize mul 2 (y / 2) = D
        apply Nat.eq_of_testBit_eq; intro j; simp only [Nat.testBit_xor]
        cases A.testBit j <;> cases B.testBit j <;> cases C.testBit j <;> cases D.testBit j <;> rfl
      rw [← e3]; exact h4
/-- modulo an irreducible one of degree n no fewer than n squarings bring x back. -/
theorem not_fixed {p i : Nat} (hp : Irr p) (h1 : 1 ≤ i) (h2 : i < p.log2) : ¬ Dvd p (sq i 2 ^^^ 2) := fun h => by
  have hne := hp.ne
  have hpow : (2 : Nat) ≤ 2 ^ i := by
    have := Nat.pow_le_pow_right (n := 2) (by decide) h1; simpa using this
  have hlt : 2 ^ i < 2 ^ p.log2 := Nat.pow_lt_pow_right (by decide) h2
  refine roots hp (2 ^ i) (0 :: 1 :: List.replicate (2 ^ i - 2) 0) (List.range (2 ^ p.log2)) (by simp; omega) (by simpa using hlt) ?_ fun r _ => ?_
  · refine List.Pairwise.imp_of_mem (fun {s t} hs ht hst => ?_) (List.nodup_range (n := 2 ^ p.log2))
    rw [List.mem_range] at hs ht
    exact fun hd => hst (xor_eq_zero.1 (dvd_small hne hd (xor_lt hs ht)))
  · have hf := fixed_all h r
    show Dvd p (0 ^^^ mul r (1 ^^^ mul r (ev (List.replicate (2 ^ i - 2) 0) r)))
    rw [ev_zeros, Nat.zero_xor, mul_xor, mul_one, mul_comm r (pow r (2 ^ i - 2)), show mul (pow r (2 ^ i - 2)) r = pow r (2 ^ i - 2 + 1) from rfl, mul_comm r, show mul (pow r (2 ^ i - 2 + 1)) r = pow r (2 ^ i - 2 + 1 + 1) from rfl, show 2 ^ i - 2 + 1 + 1 = 2 ^ i by omega, ← sq_pow]
    exact dvd_xor_symm hf
/-! ### Rabin's test -/
theorem fix_sub {p u v : Nat} (h : u ≤ v) (h1 : Dvd p (sq u 2 ^^^ 2)) (h2 : Dvd p (sq v 2 ^^^ 2)) : Dvd p (sq (v - u) 2 ^^^ 2) := by
  have h3 := sq_congr (v - u) h1
  rw [← sq_add, Nat.sub_add_cancel h] at h3
  exact dvd_xor_trans (dvd_xor_symm h3) h2
theorem fix_mod {p u : Nat} (h1 : Dvd p (sq u 2 ^^^ 2)) : ∀ v, Dvd p (sq v 2 ^^^ 2) → Dvd p (sq (v % u) 2 ^^^ 2) := by
  intro v
  induction v using Nat.strongRecOn with
  | _ v ih =>
    intro h2
    by_cases hu : u = 0
    · rw [hu, Nat.mod_zero]; exact h2
    · by_cases h : u ≤ v
      · rw [Nat.mod_eq_sub_mod h]; exact ih (v - u) (by omega) (fix_sub h h1 h2)
      · rw [Nat.mod_eq_of_lt (by omega)]; exact h2
theorem fix_gcd {p : Nat} : ∀ u v, Dvd p (sq u 2 ^^^ 2) → Dvd p (sq v 2 ^^^ 2) → Dvd p (sq (Nat.gcd u v) 2 ^^^ 2) := by
  intro u
  induction u using Nat.strongRecOn with
  | _ u ih =>
    intro v h1 h2
    by_cases hu : u = 0
    · rw [hu, Nat.gcd_zero_left]; exact h2
    · rw [Nat.gcd_rec]; exact ih (v % u) (Nat.mod_lt _ (by omega)) u (fix_mod h1 v h2) h1
structure Rabin (a : Nat) : Prop where
  low : ∀ i, 1 ≤ i → i < a.log2 → a.log2 % i = 0 → gcd (sq i 2 ^^^ 2) a = 1
  top : Dvd a (sq a.log2 2 ^^^ 2)
theorem eq_of_log2 {p a : Nat} (ha : a ≠ 0) (h : Dvd p a) (hl : p.log2 = a.log2) : p = a := by
  by_cases e : p = a
  · exact e
  · have := lt_of_dvd ha h e; omega
theorem rabin {a : Nat} (h2 : 2 ≤ a) : Rabin a ↔ Irr a := by
  have hl := log2_pos h2
  constructor
  · intro h
    obtain ⟨p, hp, hd⟩ := exists_irr h2
    have f1 : Dvd p (sq p.log2 2 ^^^ 2) := fermat hp 2
    have f2 : Dvd p (sq a.log2 2 ^^^ 2) := dvd_trans hd h.top
    have f3 := fix_gcd _ _ f1 f2
    have g1 := Nat.gcd_dvd_left p.log2 a.log2
    have g2 := Nat.gcd_dvd_right p.log2 a.log2
    have g0 : 0 < Nat.gcd p.log2 a.log2 := Nat.gcd_pos_of_pos_right _ (by omega)
    have hpa : p.log2 ≤ a.log2 := log2_le_of_dvd (by omega) hd
    have hp1 := log2_pos hp.two
    by_cases hlt : Nat.gcd p.log2 a.log2 < a.log2
    · have h3 := h.low _ g0 hlt (Nat.mod_eq_zero_of_dvd g2)
      have h4 := dvd_gcd f3 hd
      rw [h3] at h4
      exact absurd h4 hp.not_one
    · have h3 : Nat.gcd p.log2 a.log2 ≤ p.log2 := Nat.le_of_dvd (by omega) g1
      have := eq_of_log2 (by omega) hd (by omega)
      rw [← this]; exact hp
  · intro h
    refine ⟨fun i h1 h2 _ => ?_, fermat h 2⟩
    rw [gcd_comm]
    exact h.coprime (not_fixed h h1 h2)
end Gf
