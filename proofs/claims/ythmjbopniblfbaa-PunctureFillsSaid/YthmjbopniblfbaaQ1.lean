/- What the functions of this seat come to, in plain Lean, part 1. No condition. -/
import Derived.Test.YthmjbopniblfbaaG1
import Derived.IntWalk
set_option linter.unusedVariables false
set_option linter.unusedSimpArgs false
/- From some number of rounds on. No condition. -/
namespace Go.Eng.Pu
open Go Go.Eng Go.Proofs
def Ev {α : Type} (f : Nat → Option α) (v : α) : Prop := ∃ K, ∀ k, K ≤ k → f k = some v
theorem Ev.of_succ {α : Type} {f g : Nat → Option α} {v : α} (h : ∀ k, f (k + 1) = g k) (hg : Ev g v) : Ev f v := by
  obtain ⟨K, hK⟩ := hg
  refine ⟨K + 1, fun k hk => ?_⟩
  obtain ⟨j, rfl⟩ : ∃ j, k = j + 1 := ⟨k - 1, by omega⟩
  rw [h]; exact hK j (by omega)
theorem Ev.now {α : Type} {f : Nat → Option α} {v : α} (h : ∀ k, f (k + 1) = some v) : Ev f v := Ev.of_succ (g := fun _ => some v) h ⟨0, fun _ _ => rfl⟩
theorem wi {n : Int} (h0 : -9223372036854775808 ≤ n) (h : n ≤ 9223372036854775807) : IntKind.wrap IntKind.i64 n = n := by rw [IntKind.wrap_i64]; omega
theorem wu {n : Int} (h0 : 0 ≤ n) (h : n < 18446744073709551616) : IntKind.wrap IntKind.u64 n = n := by exact IntWalk.u64_in n ⟨h0, by omega⟩
theorem w1 : IntKind.wrap IntKind.i64 (0 + 1) = 1 := by decide
theorem w2 : IntKind.wrap IntKind.i64 (1 + 1) = 2 := by decide
theorem w3 : IntKind.wrap IntKind.i64 (2 + 1) = 3 := by decide
theorem w4 : IntKind.wrap IntKind.i64 (3 + 1) = 4 := by decide
theorem shr_lt {x : Int} (h0 : 0 ≤ x) (h1 : x < 18446744073709551616) {s : Nat} (hs : s ≤ 64) : shr' IntKind.u64 x (s : Int) = x / 2 ^ s := by
  unfold shr'
  rw [show min (Int.toNat (s : Int)) IntKind.u64.bits = s from by rw [Int.toNat_natCast]; exact Nat.min_eq_left hs]
  rw [Int.fdiv_eq_ediv_of_nonneg _ (Int.le_of_lt (Int.pow_pos (by omega)))]
theorem and_one {x : Int} (h0 : 0 ≤ x) (h1 : x < 18446744073709551616) : IntKind.wrap IntKind.u64 (((BitVec.ofInt 64 x &&& BitVec.ofInt 64 1).toNat : Nat) : Int) = x % 2 := by
  obtain ⟨n, rfl⟩ := Int.eq_ofNat_of_zero_le h0
  have e : (BitVec.ofInt 64 (n : Int) &&& BitVec.ofInt 64 1).toNat = n % 2 := by
    rw [BitVec.toNat_and, BitVec.toNat_ofInt, BitVec.toNat_ofInt]
    rw [show ((n : Int) % ((2 ^ 64 : Nat) : Int)).toNat = n from by omega, show ((1 : Int) % ((2 ^ 64 : Nat) : Int)).toNat = 1 from by decide, Nat.and_one_is_mod]
  rw [e, wu (by omega) (by omega)]; omega
theorem or_zero {x y : Int} (hx0 : 0 ≤ x) (hx1 : x < 18446744073709551616) (hy0 : 0 ≤ y) (hy1 : y < 18446744073709551616) :
    (IntKind.wrap IntKind.u64 (((BitVec.ofInt 64 x ||| BitVec.ofInt 64 y).toNat : Nat) : Int) = 0 ↔ x = 0 ∧ y = 0) ∧ 0 ≤ IntKind.wrap IntKind.u64 (((BitVec.ofInt 64 x ||| BitVec.ofInt 64 y).toNat : Nat) : Int) ∧ IntKind.wrap IntKind.u64 (((BitVec.ofInt 64 x ||| BitVec.ofInt 64 y).toNat : Nat) : Int) < 18446744073709551616 := by
  obtain ⟨n, rfl⟩ := Int.eq_ofNat_of_zero_le hx0
  obtain ⟨m, rfl⟩ := Int.eq_ofNat_of_zero_le hy0
  have e : (BitVec.ofInt 64 (n : Int) ||| BitVec.ofInt 64 (m : Int)).toNat = n ||| m := by
    rw [BitVec.toNat_or, BitVec.toNat_ofInt, BitVec.toNat_ofInt]
    rw [show ((n : Int) % ((2 ^ 64 : Nat) : Int)).toNat = n from by omega, show ((m : Int) % ((2 ^ 64 : Nat) : Int)).toNat = m from by omega]
  have hlt : n ||| m < 2 ^ 64 := Nat.or_lt_two_pow (by omega) (by omega)
  rw [e, wu (by omega) (by omega)]
  refine ⟨?_, by omega, by omega⟩
  constructor
  · intro h
    have h : n ||| m = 0 := by omega
    have := Nat.or_eq_zero_iff.1 h
    omega
  · rintro ⟨h1, h2⟩
    have h1 : n = 0 := by omega
    have h2 : m = 0 := by omega
    subst h1 h2; rfl
/-- Is the i-th symbol of the step t kept? -/
def kb (per : Int) (keep : List Int) (i t : Int) : Bool := decide (keep.getD i.toNat 0 / 2 ^ (t % per).toNat % 2 = 1)
structure Pat (per : Int) (keep : List Int) : Prop where
  len : keep.length = 3
  u64 : ∀ x ∈ keep, 0 ≤ x ∧ x < 18446744073709551616
  lo : 1 ≤ per
  hi : per ≤ 64
theorem Pat.at {per : Int} {keep : List Int} (h : Pat per keep) {i : Nat} (hi : i < 3) : 0 ≤ keep.getD i 0 ∧ keep.getD i 0 < 18446744073709551616 := by
  have h1 : i < keep.length := by rw [h.len]; exact hi
  rw [List.getD_eq_getElem?_getD, List.getElem?_eq_getElem h1]
  exact h.u64 _ (List.getElem_mem h1)
theorem bit_ok {per : Int} {keep : List Int} (h : Pat per keep) {i t : Int} (hi0 : 0 ≤ i) (hi : i < 3) (ht : 0 ≤ t) :
    IntKind.wrap IntKind.u64 (((BitVec.ofInt 64 (shr' IntKind.u64 (keep.getD (i.toNat * 1) 0) (t.tmod per)) &&& BitVec.ofInt 64 1).toNat : Nat) : Int) = keep.getD i.toNat 0 / 2 ^ (t % per).toNat % 2 := by
  obtain ⟨a, b⟩ := h.at (i := i.toNat) (by omega)
  have hl := h.lo; have hh := h.hi
  have hm0 : 0 ≤ t % per := Int.emod_nonneg _ (by omega)
  have hm1 : t % per < per := Int.emod_lt_of_pos _ (by omega)
  rw [Nat.mul_one, Int.tmod_eq_emod_of_nonneg ht]
  obtain ⟨s, hs⟩ := Int.eq_ofNat_of_zero_le hm0
  rw [hs, shr_lt a b (by omega), Int.toNat_natCast]
  have hd0 : 0 ≤ keep.getD i.toNat 0 / 2 ^ s := Int.ediv_nonneg a (Int.le_of_lt (Int.pow_pos (by omega)))
  have hd1 : keep.getD i.toNat 0 / 2 ^ s ≤ keep.getD i.toNat 0 := Int.ediv_le_self _ a
  exact and_one hd0 (by omega)
theorem keep63 {per : Int} {keep : List Int} (h : Pat per keep) {i t : Int} (hi0 : 0 ≤ i) (hi : i < 3) (ht : 0 ≤ t) : F63 (t, i, (), ()) ((per, keep, ()), ()) = some (kb per keep i t, (per, keep, ()), ()) := by
  have hl := h.lo
  have hm : ¬ t.tmod per < 0 := by rw [Int.tmod_eq_emod_of_nonneg ht]; have := Int.emod_nonneg t (b := per) (by omega); omega
  simp only [F63]
  rw [if_pos ⟨hi0, hi⟩, if_pos (show i.toNat * 1 < 3 by omega), if_neg (show ¬ per = 0 by omega), if_neg hm, bit_ok h hi0 hi ht]
  congr 2
  unfold kb
  rcases Int.emod_two_eq (keep.getD i.toNat 0 / 2 ^ (t % per).toNat) with e | e <;> rw [e] <;> rfl
theorem keep42 {per : Int} {keep : List Int} (h : Pat per keep) {i t : Int} (hi0 : 0 ≤ i) (hi : i < 3) (ht : 0 ≤ t) : F42 ((per, keep, ()), i, t, ()) () = some (kb per keep i t, ()) := by
  have hl := h.lo; have hh := h.hi
  have hm0 : 0 ≤ t % per := Int.emod_nonneg _ (by omega)
  have hm1 : t % per < per := Int.emod_lt_of_pos _ (by omega)
  have hw : IntKind.wrap IntKind.u64 (t.tmod per) = t.tmod per := by rw [Int.tmod_eq_emod_of_nonneg ht]; exact wu hm0 (by omega)
  simp only [F42]
  rw [if_pos ⟨hi0, hi⟩, if_pos (show i.toNat * 1 < 3 by omega), if_neg (show ¬ per = 0 by omega), hw, if_neg (show ¬ t.tmod per < 0 by rw [Int.tmod_eq_emod_of_nonneg ht]; omega), bit_ok h hi0 hi ht]
  rfl
end Go.Eng.Pu

/- What the plain functions of puncture come to: counts, checks, rates. No condition. -/
namespace Go.Eng.Pu
open Go Go.Eng Go.Proofs
theorem v1 : IntKind.wrap IntKind.i64 1 = 1 := by decide
theorem v2 : IntKind.wrap IntKind.i64 2 = 2 := by decide
theorem v3 : IntKind.wrap IntKind.i64 3 = 3 := by decide
theorem v4 : IntKind.wrap IntKind.i64 4 = 4 := by decide
/-- How many of the first r symbols of the step t are kept. -/
def row1 (per : Int) (keep : List Int) (t : Int) : Nat → Int
  | 0 => 0
  | i + 1 => row1 per keep t i + if kb per keep i t then 1 else 0
/-- .. of the first s steps. -/
def tot (per : Int) (keep : List Int) (r : Nat) : Nat → Int
  | 0 => 0
  | s + 1 => tot per keep r s + row1 per keep s r
theorem row1_le (per : Int) (keep : List Int) (t : Int) : ∀ r, 0 ≤ row1 per keep t r ∧ row1 per keep t r ≤ r
  | 0 => ⟨Int.le_refl _, Int.le_refl _⟩
  | r + 1 => by have := row1_le per keep t r; simp only [row1]; split <;> omega
theorem tot_le (per : Int) (keep : List Int) (r : Nat) : ∀ s, 0 ≤ tot per keep r s ∧ tot per keep r s ≤ r * s
  | 0 => ⟨Int.le_refl _, by simp [tot]⟩
  | s + 1 => by
    have h1 := tot_le per keep r s; have h2 := row1_le per keep s r
    simp only [tot]
    rw [show ((s + 1 : Nat) : Int) = (s : Int) + 1 by omega, Int.mul_add]; omega
theorem tot3 {per : Int} {keep : List Int} {r : Nat} (hr : r ≤ 3) {s : Nat} (hs : s ≤ 1000000) : 0 ≤ tot per keep r s ∧ tot per keep r s ≤ 3000000 := by
  have h := tot_le per keep r s
  have : (r : Int) * s ≤ 3 * 1000000 := Int.mul_le_mul (by omega) (by omega) (by omega) (by omega)
  omega
section
variable {per : Int} {keep : List Int} (h : Pat per keep)
include h
theorem in45 {r : Nat} (hr : r ≤ 3) {S t : Nat} (hS : S ≤ 1000000) (ht : t < S) : ∀ (d j : Nat) (n : Int) (k : Nat) (_ : j + d = r) (_ : 0 ≤ n) (_ : n + d ≤ 4000000),
    L45_7 (k + d + 1) ((r : Int), ((), ()), n, (t : Int), (S : Int), (t : Int), (r : Int), (j : Int), ()) ((per, keep, ()), ()) = L45_4 k ((r : Int), ((), ()), n + (row1 per keep t r - row1 per keep t j), (S : Int), ((t + 1 : Nat) : Int), ()) ((per, keep, ()), ()) := by
  intro d
  induction d with
  | zero =>
    intro j n k hj hn hn'
    have hj : j = r := by omega
    subst hj
    rw [L45_7]
    rw [if_neg (by simp), wi (by omega) (by omega), Int.sub_self, Int.add_zero, show (t : Int) + 1 = ((t + 1 : Nat) : Int) by omega]
  | succ d ih =>
    intro j n k hj hn hn'
    rw [show k + (d + 1) + 1 = (k + d + 1) + 1 by omega, L45_7]
    rw [if_pos (by simp; omega), keep63 h (by omega) (by omega) (by omega)]
    simp only [Option.bind_some]
    have hj1 : IntKind.wrap IntKind.i64 ((j : Int) + 1) = ((j + 1 : Nat) : Int) := wi (by omega) (by omega)
    have hr1 : row1 per keep t (j + 1) = row1 per keep t j + if kb per keep j t then 1 else 0 := rfl
    rw [hj1]
    split
    · rename_i hk
      rw [wi (by omega) (by omega), ih (j + 1) (n + 1) k (by omega) (by omega) (by omega), hr1, if_pos hk, show n + 1 + (row1 per keep t r - (row1 per keep t j + 1)) = n + (row1 per keep t r - row1 per keep t j) by omega]
    · rename_i hk
      rw [ih (j + 1) n k (by omega) (by omega) (by omega), hr1, if_neg hk, Int.add_zero]
theorem out45 {r : Nat} (hr : r ≤ 3) {S : Nat} (hS : S ≤ 1000000) : ∀ (d t : Nat) (k : Nat), t + d = S →
    L45_4 (k + d * (r + 2) + 1) ((r : Int), ((), ()), tot per keep r t, (S : Int), (t : Int), ()) ((per, keep, ()), ()) = some (tot per keep r S, ())
  | 0, t, k, ht => by
    have ht : t = S := by omega
    subst ht
    rw [L45_4, if_neg (by simp)]
  | d + 1, t, k, ht => by
    have hb := tot3 (per := per) (keep := keep) hr (s := t) (by omega)
    rw [L45_4, if_pos (by simp; omega)]
    rw [show k + (d + 1) * (r + 2) = (k + d * (r + 2) + 1) + r + 1 by rw [Nat.succ_mul]; omega]
    have := in45 h hr hS (t := t) (by omega) r 0 (tot per keep r t) (k + d * (r + 2) + 1) (by omega) hb.1 (by omega)
    refine this.trans ?_
    have e : tot per keep r t + (row1 per keep t r - row1 per keep t 0) = tot per keep r (t + 1) := by simp [tot, row1]
    rw [e]
    exact out45 hr hS d (t + 1) k (by omega)
theorem count_ok {r S : Nat} (hr : r ≤ 3) (hS : S ≤ 1000000) : ∃ K, ∀ k, K ≤ k → F45 k ((per, keep, ()), (r : Int), (S : Int), ()) () = some (tot per keep r S, ()) := by
  refine ⟨S * (r + 2) + 1, fun k hk => ?_⟩
  obtain ⟨j, rfl⟩ : ∃ j, k = j + S * (r + 2) + 1 := ⟨k - (S * (r + 2) + 1), by omega⟩
  exact out45 h hr hS S 0 j (by omega)
theorem in46 {r : Nat} (hr : r ≤ 3) {S t : Nat} (hS : S ≤ 1000000) (ht : t < S) : ∀ (d j : Nat) (n : Int) (k : Nat) (_ : j + d = r) (_ : 0 ≤ n) (_ : n + d ≤ 4000000),
    L46_6 (k + d + 1) ((r : Int), (S : Int), (), n, (t : Int), (j : Int), ()) ((per, keep, ()), ()) = L46_3 k ((r : Int), (S : Int), (), n + (row1 per keep t r - row1 per keep t j), ((t + 1 : Nat) : Int), ()) ((per, keep, ()), ()) := by
  intro d
  induction d with
  | zero =>
    intro j n k hj hn hn'
    have hj : j = r := by omega
    subst hj
    rw [L46_6]
    rw [if_neg (by simp), wi (by omega) (by omega), Int.sub_self, Int.add_zero, show (t : Int) + 1 = ((t + 1 : Nat) : Int) by omega]
  | succ d ih =>
    intro j n k hj hn hn'
    rw [show k + (d + 1) + 1 = (k + d + 1) + 1 by omega, L46_6]
    rw [if_pos (by simp; omega), keep42 h (by omega) (by omega) (by omega)]
    simp only [Option.bind_some]
    have hj1 : IntKind.wrap IntKind.i64 ((j : Int) + 1) = ((j + 1 : Nat) : Int) := wi (by omega) (by omega)
    have hr1 : row1 per keep t (j + 1) = row1 per keep t j + if kb per keep j t then 1 else 0 := rfl
    rw [hj1]
    split
    · rename_i hk
      rw [wi (by omega) (by omega), ih (j + 1) (n + 1) k (by omega) (by omega) (by omega), hr1, if_pos hk, show n + 1 + (row1 per keep t r - (row1 per keep t j + 1)) = n + (row1 per keep t r - row1 per keep t j) by omega]
    · rename_i hk
      rw [ih (j + 1) n k (by omega) (by omega) (by omega), hr1, if_neg hk, Int.add_zero]
theorem out46 {r : Nat} (hr : r ≤ 3) {S : Nat} (hS : S ≤ 1000000) : ∀ (d t : Nat) (k : Nat), t + d = S →
    L46_3 (k + d * (r + 2) + 1) ((r : Int), (S : Int), (), tot per keep r t, (t : Int), ()) ((per, keep, ()), ()) = some (tot per keep r S, ())
  | 0, t, k, ht => by
    have ht : t = S := by omega
    subst ht
    rw [L46_3, if_neg (by simp)]
  | d + 1, t, k, ht => by
    have hb := tot3 (per := per) (keep := keep) hr (s := t) (by omega)
    rw [L46_3, if_pos (by simp; omega)]
    rw [show k + (d + 1) * (r + 2) = (k + d * (r + 2) + 1) + r + 1 by rw [Nat.succ_mul]; omega]
    have := in46 h hr hS (t := t) (by omega) r 0 (tot per keep r t) (k + d * (r + 2) + 1) (by omega) hb.1 (by omega)
    refine this.trans ?_
    have e : tot per keep r t + (row1 per keep t r - row1 per keep t 0) = tot per keep r (t + 1) := by simp [tot, row1]
    rw [e]
    exact out46 hr hS d (t + 1) k (by omega)
theorem sent_ok {r S : Nat} (hr : r ≤ 3) (hS : S ≤ 1000000) : ∃ K, ∀ k, K ≤ k → F46 k ((per, keep, ()), (r : Int), (S : Int), ()) () = some (tot per keep r S, ()) := by
  refine ⟨S * (r + 2) + 1, fun k hk => ?_⟩
  obtain ⟨j, rfl⟩ : ∃ j, k = j + S * (r + 2) + 1 := ⟨k - (S * (r + 2) + 1), by omega⟩
  exact out46 h hr hS S 0 j (by omega)
end
/-! ### checks -/
def bad (per rate : Int) (i : Int) (v : Int) : Bool := (decide (rate ≤ i) && !decide (v = 0)) || (decide (per < 64) && !decide (v / 2 ^ per.toNat = 0))
def chk (per : Int) (x y z rate : Int) : Int :=
  if rate ≠ 2 ∧ rate ≠ 3 then 1
  else if per < 1 ∨ 64 < per then 340
  else if bad per rate 0 x || (bad per rate 1 y || bad per rate 2 z) then 340
  else if x = 0 ∧ y = 0 ∧ z = 0 then 340 else 0
theorem chk29 {per x y z rate : Int} (hx : 0 ≤ x ∧ x < 18446744073709551616) (hy : 0 ≤ y ∧ y < 18446744073709551616) (hz : 0 ≤ z ∧ z < 18446744073709551616) (k : Nat) :
    F29 (k + 5) ((per, [x, y, z], ()), rate, ()) () = some (chk per x y z rate, ()) := by
  by_cases hp : per < 1 ∨ 64 < per
  · by_cases h2 : rate = 2
    · subst h2; rcases hp with hp | hp <;> simp [F29, chk, hp] <;> omega
    · by_cases h3 : rate = 3
      · subst h3; rcases hp with hp | hp <;> simp [F29, chk, hp] <;> omega
      · simp [F29, chk, h2, h3]
  · obtain ⟨p, rfl⟩ := Int.eq_ofNat_of_zero_le (show 0 ≤ per by omega)
    have hw : IntKind.wrap IntKind.u64 (p : Int) = (p : Int) := wu (by omega) (by omega)
    have e : ∀ v : Int, 0 ≤ v → v < 18446744073709551616 → shr' IntKind.u64 v (p : Int) = v / 2 ^ p := fun v a b => shr_lt a b (by omega)
    have e0 : shr' IntKind.u64 0 (p : Int) = 0 := by rw [e 0 (by omega) (by omega)]; simp
    have ex := e x hx.1 hx.2
    have ey := e y hy.1 hy.2
    have ez := e z hz.1 hz.2
    have hp0 : ¬ ((p : Int) < 0) := by omega
    have hp1 : ¬ ((p : Int) < 1) := by omega
    have hp2 : ¬ (64 < (p : Int)) := by omega
    by_cases h64 : (p : Int) < 64 <;> by_cases x0 : x = 0 <;> by_cases y0 : y = 0 <;> by_cases z0 : z = 0 <;> by_cases xs : x / 2 ^ p = 0 <;> by_cases ys : y / 2 ^ p = 0 <;> by_cases zs : z / 2 ^ p = 0 <;> 
    (by_cases h2 : rate = 2
     · subst h2; simp [F29, L29_7, chk, bad, hw, e0, ex, ey, ez, hp0, hp1, hp2, v1, v2, v3, h64, x0, y0, z0, xs, ys, zs]
     · by_cases h3 : rate = 3
       · subst h3; simp [F29, L29_7, chk, bad, hw, e0, ex, ey, ez, hp0, hp1, hp2, v1, v2, v3, h64, x0, y0, z0, xs, ys, zs]
       · simp [F29, chk, h2, h3])
end Go.Eng.Pu

/- What the plain functions of puncture come to: the program's check, names, rates. No condition. -/
namespace Go.Eng.Pu
open Go Go.Eng Go.Proofs
def wh (per x y z rate : Int) : Bool := decide (rate = 2) && (decide (per = 2 ∧ x = 1 ∧ y = 3 ∧ z = 0) || (decide (per = 3 ∧ x = 5 ∧ y = 3 ∧ z = 0) || (decide (per = 5 ∧ x = 21 ∧ y = 11 ∧ z = 0) || decide (per = 7 ∧ x = 81 ∧ y = 47 ∧ z = 0))))
theorem whole48 {per x y z rate : Int} (k : Nat) : F48 (k + 6) ((per, [x, y, z], ()), rate, ()) () = some (wh per x y z rate, ()) := by
  by_cases h2 : rate = 2
  · subst h2
    by_cases a1 : (2 = per ∧ [1, 3, 0] = [x, y, z])
    · obtain ⟨rfl, h⟩ := a1; cases h; rfl
    by_cases a2 : (3 = per ∧ [5, 3, 0] = [x, y, z])
    · obtain ⟨rfl, h⟩ := a2; cases h; rfl
    by_cases a3 : (5 = per ∧ [21, 11, 0] = [x, y, z])
    · obtain ⟨rfl, h⟩ := a3; cases h; rfl
    by_cases a4 : (7 = per ∧ [81, 47, 0] = [x, y, z])
    · obtain ⟨rfl, h⟩ := a4; cases h; rfl
    have hw : wh per x y z 2 = false := by
      simp only [List.cons.injEq] at a1 a2 a3 a4
      simp only [wh, decide_true, Bool.true_and, Bool.or_eq_false_iff, decide_eq_false_iff_not]
      refine ⟨fun h => a1 ?_, fun h => a2 ?_, fun h => a3 ?_, fun h => a4 ?_⟩ <;> (obtain ⟨rfl, rfl, rfl, rfl⟩ := h; simp)
    rw [hw]
    simp [F48, F47, L48_2, v1, v2, v3, v4, List.replicate]
    simp only [List.cons.injEq] at a1 a2 a3 a4
    simp only [and_true] at a1 a2 a3 a4
    rw [if_neg a1, if_neg a2, if_neg a3, if_neg a4]
  · have hw : wh per x y z rate = false := by simp [wh, h2]
    rw [hw]
    simp [F48, F47, L48_2, v1, v2, v3, v4, h2]
theorem orU_zero {x y : Int} (hx : 0 ≤ x ∧ x < 18446744073709551616) (hy : 0 ≤ y ∧ y < 18446744073709551616) :
    (IntKind.wrap IntKind.u64 (((BitVec.ofInt 64 x ||| BitVec.ofInt 64 y).toNat : Nat) : Int) = 0 ↔ x = 0 ∧ y = 0) := (or_zero hx.1 hx.2 hy.1 hy.2).1
def orU (x y : Int) : Int := IntKind.wrap IntKind.u64 (((BitVec.ofInt 64 x ||| BitVec.ofInt 64 y).toNat : Nat) : Int)
theorem orU_in {x y : Int} (hx : 0 ≤ x ∧ x < 18446744073709551616) (hy : 0 ≤ y ∧ y < 18446744073709551616) : 0 ≤ orU x y ∧ orU x y < 18446744073709551616 := (or_zero hx.1 hx.2 hy.1 hy.2).2
theorem orU_def (x y : Int) : IntKind.wrap IntKind.u64 (((BitVec.ofInt 64 x ||| BitVec.ofInt 64 y).toNat : Nat) : Int) = orU x y := rfl
theorem F28_eq {per x y z rate : Int} (k : Nat) : F28 (k + 6) ((per, [x, y, z], ()), rate, ()) () = if rate ≠ 2 ∧ rate ≠ 3 then some (1, ()) else if wh per x y z rate = true then some (0, ()) else if per < 1 ∨ 64 < per then some (340, ()) else
    L28_9 (k + 6) (k + 6) (rate, (), 0, [x, y, z], 0, ()) ((per, [x, y, z], ()), ()) := by
  have hF := whole48 (per := per) (x := x) (y := y) (z := z) (rate := rate) k
  simp only [F28]
  rw [hF]
  simp only [Option.bind_some]
  by_cases h2 : rate = 2
  · subst h2
    by_cases h4 : per < 1 <;> by_cases h5 : 64 < per <;> simp [h4, h5]
  · by_cases h3 : rate = 3
    · subst h3
      by_cases h4 : per < 1 <;> by_cases h5 : 64 < per <;> simp [h4, h5]
    · simp [h2, h3]
theorem L28_step {p rate acc v : Int} {keep keep' : List Int} {K : Nat} (k i : Nat) (hi : i < 3) (hv : keep.getD i 0 = v) (ex : shr' IntKind.u64 v p = v / 2 ^ p.toNat) (hp0 : ¬ p < 0) :
    L28_9 K (k + 1) (rate, (), acc, keep, (i : Int), ()) ((p, keep', ()), ()) = if bad p rate i v = true then some (340, ()) else L28_9 K k (rate, (), orU acc v, keep, ((i + 1 : Nat) : Int), ()) ((p, keep', ()), ()) := by
  rw [L28_9]
  simp only [orU_def, Int.toNat_natCast, hv, ex]
  rw [show IntKind.wrap IntKind.i64 ((i : Int) + 1) = ((i + 1 : Nat) : Int) from wi (by omega) (by omega), if_pos (show decide ((i : Int) < 3) = true by simp; omega), if_pos (show 0 ≤ (i : Int) ∧ (i : Int) < 3 by omega)]
  clear hv ex
  unfold bad
  by_cases h1 : rate ≤ (i : Int) <;> by_cases h2 : v = 0 <;> by_cases h3 : p < 64 <;> by_cases h4 : v / 2 ^ p.toNat = 0 <;> (try (subst h2; simp at h4; done)) <;> simp [h1, h2, h3, h4, hp0]
theorem L28_eq {p x y z rate : Int} {K : Nat} (k : Nat) (ex : shr' IntKind.u64 x p = x / 2 ^ p.toNat) (ey : shr' IntKind.u64 y p = y / 2 ^ p.toNat) (ez : shr' IntKind.u64 z p = z / 2 ^ p.toNat) (hp0 : ¬ p < 0) :
    L28_9 K (k + 4) (rate, (), 0, [x, y, z], 0, ()) ((p, [x, y, z], ()), ()) = some (if bad p rate 0 x || (bad p rate 1 y || bad p rate 2 z) then 340 else if orU (orU (orU 0 x) y) z = 0 then 340 else 0, ()) := by
  have h0 := L28_step (K := K) (p := p) (rate := rate) (acc := 0) (keep := [x, y, z]) (keep' := [x, y, z]) (k + 3) 0 (by omega) rfl ex hp0
  have h1 := L28_step (K := K) (p := p) (rate := rate) (acc := orU 0 x) (keep := [x, y, z]) (keep' := [x, y, z]) (k + 2) 1 (by omega) rfl ey hp0
  have h2 := L28_step (K := K) (p := p) (rate := rate) (acc := orU (orU 0 x) y) (keep := [x, y, z]) (keep' := [x, y, z]) (k + 1) 2 (by omega) rfl ez hp0
  have h3 : L28_9 K (k + 1) (rate, (), orU (orU (orU 0 x) y) z, [x, y, z], ((2 + 1 : Nat) : Int), ()) ((p, [x, y, z], ()), ()) = some (if orU (orU (orU 0 x) y) z = 0 then 340 else 0, ()) := by
    rw [L28_9, if_neg (by simp)]; by_cases hq : orU (orU (orU 0 x) y) z = 0 <;> simp [hq]
  refine h0.trans ?_
  show (if bad p rate ((0 : Nat) : Int) x = true then some (340, ()) else _) = _
  cases b0 : bad p rate ((0 : Nat) : Int) x
  · rw [if_neg (by simp)]
    refine h1.trans ?_
    show (if bad p rate ((1 : Nat) : Int) y = true then some (340, ()) else _) = _
    cases b1 : bad p rate ((1 : Nat) : Int) y
    · rw [if_neg (by simp)]
      refine h2.trans ?_
      show (if bad p rate ((2 : Nat) : Int) z = true then some (340, ()) else _) = _
      cases b2 : bad p rate ((2 : Nat) : Int) z
      · rw [if_neg (by simp)]
        refine h3.trans ?_
        rfl
      · rfl
    · rfl
  · rfl
theorem chk28 {per x y z rate : Int} (hx : 0 ≤ x ∧ x < 18446744073709551616) (hy : 0 ≤ y ∧ y < 18446744073709551616) (hz : 0 ≤ z ∧ z < 18446744073709551616) (k : Nat) :
    F28 (k + 6) ((per, [x, y, z], ()), rate, ()) () = some (chk per x y z rate, ()) := by
  have hwh : wh per x y z rate = true → chk per x y z rate = 0 := by
    intro h
    simp only [wh, Bool.and_eq_true, Bool.or_eq_true, decide_eq_true_eq] at h
    obtain ⟨rfl, h | h | h | h⟩ := h <;> (obtain ⟨rfl, rfl, rfl, rfl⟩ := h; decide)
  rw [F28_eq]
  by_cases hr : rate ≠ 2 ∧ rate ≠ 3
  · rw [if_pos hr]; unfold chk; rw [if_pos hr]
  rw [if_neg hr]
  cases hw : wh per x y z rate with
  | true => rw [if_pos rfl, hwh hw]
  | false =>
    rw [if_neg (by simp)]
    unfold chk
    rw [if_neg hr]
    by_cases hp : per < 1 ∨ 64 < per
    · rw [if_pos hp, if_pos hp]
    rw [if_neg hp, if_neg hp]
    obtain ⟨p, rfl⟩ := Int.eq_ofNat_of_zero_le (show 0 ≤ per by omega)
    have e : ∀ v : Int, 0 ≤ v → v < 18446744073709551616 → shr' IntKind.u64 v (p : Int) = v / 2 ^ ((p : Int).toNat) := fun v a b => by rw [Int.toNat_natCast]; exact shr_lt a b (by omega)
    have o1 := orU_in (x := 0) (by omega) hx
    have o2 := orU_in o1 hy
    have q3 : orU (orU (orU 0 x) y) z = 0 ↔ x = 0 ∧ y = 0 ∧ z = 0 := by
      rw [show orU (orU (orU 0 x) y) z = 0 ↔ _ from orU_zero o2 hz, show orU (orU 0 x) y = 0 ↔ _ from orU_zero o1 hy, show orU 0 x = 0 ↔ _ from orU_zero (by omega) hx]
      simp only [true_and]
      constructor
      · rintro ⟨⟨a, b⟩, c⟩; exact ⟨a, b, c⟩
      · rintro ⟨a, b, c⟩; exact ⟨⟨a, b⟩, c⟩
    rw [L28_eq (k + 2) (e x hx.1 hx.2) (e y hy.1 hy.2) (e z hz.1 hz.2) (by omega)]
    simp only [q3]
end Go.Eng.Pu

/- What the plain functions of puncture come to: rates, names, what is sent. No condition. -/
namespace Go.Eng.Pu
open Go Go.Eng Go.Proofs
theorem tmod_nat (a b : Nat) : (a : Int).tmod b = ((a % b : Nat) : Int) := by
  rw [Int.tmod_eq_emod_of_nonneg (by omega)]; exact (Int.natCast_emod a b).symm
theorem gcd24 {n per : Int} {keep : List Int} {K : Nat} : ∀ (b a k : Nat), 0 < a → L24_6 K (k + b + 1) ((), n, (a : Int), (b : Int), ()) ((per, keep, ()), ()) =
    some ((IntKind.wrap IntKind.i64 (Int.tdiv per (Nat.gcd a b : Nat)), IntKind.wrap IntKind.i64 (Int.tdiv n (Nat.gcd a b : Nat)), 0, ()), ()) := by
  intro b
  induction b using Nat.strongRecOn with
  | ind b ih =>
    intro a k ha
    rw [L24_6]
    rcases Nat.eq_zero_or_pos b with hb | hb
    · subst hb
      rw [if_neg (by simp), if_neg (show ¬ (a : Int) = 0 by omega), if_neg (show ¬ (a : Int) = 0 by omega), Nat.gcd_zero_right]
    · rw [if_pos (show decide ((0 : Int) < b) = true by simp; omega), if_neg (show ¬ (b : Int) = 0 by omega), tmod_nat]
      have hlt := Nat.mod_lt a hb
      have := ih (a % b) hlt b (k + b - a % b - 1) hb
      rw [show k + b - a % b - 1 + a % b + 1 = k + b by omega] at this
      rw [this, Nat.gcd_comm b, ← Nat.gcd_rec, Nat.gcd_comm]
theorem down25 {K : Nat} {a b : Nat} (ha : 0 < a) (ha' : a ≤ 1000000) : ∀ (d c k : Nat), c = Nat.gcd a b + d → c ≤ a → L25_8 K (k + d + 1) ((a : Int), (b : Int), (c : Int), ()) () =
    some ((IntKind.wrap IntKind.i64 (Int.tdiv a (Nat.gcd a b : Nat)), IntKind.wrap IntKind.i64 (Int.tdiv b (Nat.gcd a b : Nat)), 0, ()), ()) := by
  have hg : 0 < Nat.gcd a b := Nat.gcd_pos_of_pos_left _ ha
  intro d
  induction d with
  | zero =>
    intro c k hc hca
    have hc : c = Nat.gcd a b := by omega
    subst hc
    rw [L25_8, tmod_nat, tmod_nat, Nat.mod_eq_zero_of_dvd (Nat.gcd_dvd_left a b), Nat.mod_eq_zero_of_dvd (Nat.gcd_dvd_right a b)]
    have h0 : ¬ ((Nat.gcd a b : Nat) : Int) = 0 := by omega
    simp only [if_neg h0]
    rfl
  | succ d ih =>
    intro c k hc hca
    have h0 : ¬ (c : Int) = 0 := by omega
    rw [show k + (d + 1) + 1 = (k + d + 1) + 1 by omega, L25_8, tmod_nat, tmod_nat, show IntKind.wrap IntKind.i64 ((c : Int) - 1) = ((c - 1 : Nat) : Int) from by rw [wi (by omega) (by omega)]; omega, ih (c - 1) k (by omega) (by omega), if_neg h0]
    by_cases h1 : decide (((a % c : Nat) : Int) = 0) = true
    · by_cases h2 : decide (((b % c : Nat) : Int) = 0) = true
      · exfalso
        have e1 : a % c = 0 := by simp only [decide_eq_true_eq] at h1; omega
        have e2 : b % c = 0 := by simp only [decide_eq_true_eq] at h2; omega
        have := Nat.le_of_dvd hg (Nat.dvd_gcd (Nat.dvd_of_mod_eq_zero e1) (Nat.dvd_of_mod_eq_zero e2))
        omega
      · rw [if_pos h1, if_neg h0, if_neg h2]
    · rw [if_neg h1]
/-- A pattern that is well. -/
theorem chk_pat {per x y z rate : Int} (hx : 0 ≤ x ∧ x < 18446744073709551616) (hy : 0 ≤ y ∧ y < 18446744073709551616) (hz : 0 ≤ z ∧ z < 18446744073709551616) (h : chk per x y z rate = 0) : Pat per [x, y, z] ∧ (rate = 2 ∨ rate = 3) := by
  unfold chk at h
  by_cases h1 : rate ≠ 2 ∧ rate ≠ 3
  · rw [if_pos h1] at h; cases h
  rw [if_neg h1] at h
  by_cases h2 : per < 1 ∨ 64 < per
  · rw [if_pos h2] at h; cases h
  refine ⟨⟨rfl, fun v hv => ?_, by omega, by omega⟩, by omega⟩
  simp only [List.mem_cons, List.not_mem_nil, or_false] at hv
  rcases hv with rfl | rfl | rfl <;> assumption
theorem rate_cases {rate : Int} (h : rate = 2 ∨ rate = 3) : ∃ r : Nat, rate = r ∧ 0 < r ∧ r ≤ 3 := by
  rcases h with rfl | rfl
  · exact ⟨2, rfl, by omega, by omega⟩
  · exact ⟨3, rfl, by omega, by omega⟩
section
variable {per x y z rate : Int} (hx : 0 ≤ x ∧ x < 18446744073709551616) (hy : 0 ≤ y ∧ y < 18446744073709551616) (hz : 0 ≤ z ∧ z < 18446744073709551616)
include hx hy hz
/-- What both rates come to. -/
theorem rate_ok : ∃ a b c : Int, ∃ K, ∀ k, K ≤ k → F24 k ((per, [x, y, z], ()), rate, ()) () = some ((a, b, c, ()), ()) ∧ F25 k ((per, [x, y, z], ()), rate, ()) () = some ((a, b, c, ()), ()) := by
  have e28 := fun k => chk28 (per := per) (rate := rate) hx hy hz k
  have e29 := fun k => chk29 (per := per) (rate := rate) hx hy hz k
  by_cases hc : chk per x y z rate = 0
  · obtain ⟨hp, hr⟩ := chk_pat hx hy hz hc
    obtain ⟨r, rfl, hr0, hr3⟩ := rate_cases hr
    have hlo := hp.lo
    have hhi := hp.hi
    obtain ⟨p, rfl⟩ := Int.eq_ofNat_of_zero_le (show 0 ≤ per by omega)
    obtain ⟨K1, h1⟩ := count_ok hp hr3 (S := p) (by omega)
    obtain ⟨K2, h2⟩ := sent_ok hp hr3 (S := p) (by omega)
    obtain ⟨n, hn⟩ := Int.eq_ofNat_of_zero_le (tot_le (p : Int) [x, y, z] r p).1
    refine ⟨IntKind.wrap IntKind.i64 (Int.tdiv p (Nat.gcd p n : Nat)), IntKind.wrap IntKind.i64 (Int.tdiv n (Nat.gcd p n : Nat)), 0, K1 + K2 + p + n + 10, fun k hk => ⟨?_, ?_⟩⟩
    · simp only [F24]
      rw [show k = k - 6 + 6 by omega, e28, hc, ← show k = k - 6 + 6 by omega]
      simp only [Option.bind_some, decide_true, Bool.not_true, Bool.false_eq_true, if_false]
      rw [h1 k (by omega)]
      simp only [Option.bind_some]
      rw [hn]
      have := gcd24 (n := (n : Int)) (per := (p : Int)) (keep := [x, y, z]) (K := k) n p (k - n - 1) (by omega)
      rw [show k - n - 1 + n + 1 = k by omega] at this
      exact this
    · simp only [F25]
      rw [show k = k - 5 + 5 by omega, e29, hc, ← show k = k - 5 + 5 by omega]
      simp only [Option.bind_some, decide_true, Bool.not_true, Bool.false_eq_true, if_false]
      rw [h2 k (by omega)]
      simp only [Option.bind_some]
      rw [hn]
      have hg := Nat.gcd_le_left n (show 0 < p by omega)
      have := down25 (K := k) (a := p) (b := n) (by omega) (by omega) (p - Nat.gcd p n) p (k - (p - Nat.gcd p n) - 1) (by omega) (Nat.le_refl _)
      rw [show k - (p - Nat.gcd p n) - 1 + (p - Nat.gcd p n) + 1 = k by omega] at this
      exact this
  · refine ⟨0, 0, chk per x y z rate, 10, fun k hk => ⟨?_, ?_⟩⟩
    · simp only [F24]
      rw [show k = k - 6 + 6 by omega, e28]
      simp [hc]
    · simp only [F25]
      rw [show k = k - 5 + 5 by omega, e29]
      simp [hc]
/-- What both tell of so many steps. -/
theorem sent2_ok {steps : Int} : ∃ n e : Int, ∃ K, ∀ k, K ≤ k → F26 k ((per, [x, y, z], ()), rate, steps, ()) () = some ((n, e, ()), ()) ∧ F27 k ((per, [x, y, z], ()), rate, steps, ()) () = some ((n, e, ()), ()) := by
  have e28 := fun k => chk28 (per := per) (rate := rate) hx hy hz k
  have e29 := fun k => chk29 (per := per) (rate := rate) hx hy hz k
  by_cases hc : chk per x y z rate = 0
  · obtain ⟨hp, hr⟩ := chk_pat hx hy hz hc
    obtain ⟨r, rfl, hr0, hr3⟩ := rate_cases hr
    by_cases hs : steps < 0 ∨ 1055 < steps
    · refine ⟨0, 1, 10, fun k hk => ⟨?_, ?_⟩⟩
      · simp only [F26]
        rw [show k = k - 6 + 6 by omega, e28, hc]
        rcases hs with hs | hs
        · simp [hs]
        · simp [hs]
      · simp only [F27]
        rw [show k = k - 5 + 5 by omega, e29, hc]
        rcases hs with hs | hs
        · simp [hs]
        · simp [hs]
    · obtain ⟨s, rfl⟩ := Int.eq_ofNat_of_zero_le (show 0 ≤ steps by omega)
      obtain ⟨K1, h1⟩ := count_ok hp hr3 (S := s) (by omega)
      obtain ⟨K2, h2⟩ := sent_ok hp hr3 (S := s) (by omega)
      have q1 : ¬ ((s : Int) < 0) := by omega
      have q2 : ¬ (1055 < (s : Int)) := by omega
      refine ⟨tot per [x, y, z] r s, 0, K1 + K2 + 10, fun k hk => ⟨?_, ?_⟩⟩
      · simp only [F26]
        rw [show k = k - 6 + 6 by omega, e28, hc, ← show k = k - 6 + 6 by omega, h1 k (by omega)]
        simp [q1, q2]
      · simp only [F27]
        rw [show k = k - 5 + 5 by omega, e29, hc, ← show k = k - 5 + 5 by omega, h2 k (by omega)]
        simp [q1, q2]
  · refine ⟨0, chk per x y z rate, 10, fun k hk => ⟨?_, ?_⟩⟩
    · simp only [F26]
      rw [show k = k - 6 + 6 by omega, e28]
      simp [hc]
    · simp only [F27]
      rw [show k = k - 5 + 5 by omega, e29]
      simp [hc]
end
theorem named_ok (s : List Int) (k : Nat) : F22 (k + 6) (s, ()) () = F23 (s, ()) () := by
  by_cases h1 : s = [114, 50, 51]
  · subst h1; rfl
  by_cases h2 : s = [114, 51, 52]
  · subst h2; rfl
  by_cases h3 : s = [114, 53, 54]
  · subst h3; rfl
  by_cases h4 : s = [114, 55, 56]
  · subst h4; rfl
  have e : ∀ t : List Int, ¬ s = t → ¬ t = s := fun t h h' => h h'.symm
  simp [F22, F23, F47, L22_2, v1, v2, v3, v4, h1, h2, h3, h4, e _ h1, e _ h2, e _ h3, e _ h4]
theorem named_some (s : List Int) : ∃ a b c, F23 (s, ()) () = some (((a, b, ()), c, ()), ()) := by
  simp only [F23]
  repeat' split
  all_goals exact ⟨_, _, _, rfl⟩
theorem live_ok (k : Nat) : F19 (k + 30) () () = some (true, ()) := by rfl
theorem tells {per x y z rate steps : Int} {name : List Int} (hx : 0 ≤ x ∧ x < 18446744073709551616) (hy : 0 ≤ y ∧ y < 18446744073709551616) (hz : 0 ≤ z ∧ z < 18446744073709551616) :
    ∃ k, F6 k ((per, [x, y, z], ()), rate, steps, name, ()) () = some (true, ()) := by
  obtain ⟨a, b, c, K1, h1⟩ := rate_ok (per := per) (rate := rate) hx hy hz
  obtain ⟨n, e, K2, h2⟩ := sent2_ok (per := per) (rate := rate) (steps := steps) hx hy hz
  obtain ⟨q, w, u, hn⟩ := named_some name
  refine ⟨K1 + K2 + 40, ?_⟩
  have e28 := chk28 (per := per) (rate := rate) hx hy hz (K1 + K2 + 34)
  have e29 := chk29 (per := per) (rate := rate) hx hy hz (K1 + K2 + 35)
  have e22 := named_ok name (K1 + K2 + 34)
  have el := live_ok (K1 + K2 + 10)
  simp only [show K1 + K2 + 34 + 6 = K1 + K2 + 40 by omega, show K1 + K2 + 35 + 5 = K1 + K2 + 40 by omega, show K1 + K2 + 10 + 30 = K1 + K2 + 40 by omega] at e28 e29 e22 el
  simp only [F6]
  rw [e22, hn, (h1 _ (show K1 ≤ K1 + K2 + 40 by omega)).1, (h1 _ (show K1 ≤ K1 + K2 + 40 by omega)).2, (h2 _ (show K2 ≤ K1 + K2 + 40 by omega)).1, (h2 _ (show K2 ≤ K1 + K2 + 40 by omega)).2, e28, e29, el]
  simp [F15]
end Go.Eng.Pu

/- What the plain functions of puncture come to: cuts; counts. No condition. -/
namespace Go.Eng.Pu
open Go Go.Eng Go.Proofs
/-- Is the k-th symbol of a row kept? -/
def kat (per : Int) (keep : List Int) (r k : Nat) : Bool := kb per keep ((k % r : Nat) : Int) ((k / r : Nat) : Int)
def picks (per : Int) (keep : List Int) (r : Nat) : List Int → Nat → List Int
  | [], _ => []
  | x :: l, k => (if kat per keep r k then [x] else []) ++ picks per keep r l (k + 1)
/-- How many of the first k symbols are kept. -/
def cntF (per : Int) (keep : List Int) (r : Nat) : Nat → Nat
  | 0 => 0
  | k + 1 => cntF per keep r k + if kat per keep r k then 1 else 0
theorem picks_len (per : Int) (keep : List Int) (r : Nat) : ∀ (l : List Int) (k : Nat), (picks per keep r l k).length + cntF per keep r k = cntF per keep r (k + l.length)
  | [], k => by simp [picks]
  | x :: l, k => by
    have := picks_len per keep r l (k + 1)
    simp only [picks, List.length_append, List.length_cons]
    rw [show k + (l.length + 1) = k + 1 + l.length by omega, ← this]
    simp only [cntF]
    split <;> simp <;> omega
theorem cntF_row (per : Int) (keep : List Int) {r s : Nat} (hr : 0 < r) : ∀ j, j ≤ r → (cntF per keep r (r * s + j) : Int) = cntF per keep r (r * s) + row1 per keep s j
  | 0, _ => by simp [row1]
  | j + 1, hj => by
    rw [← Nat.add_assoc]
    simp only [cntF, row1]
    have e : kat per keep r (r * s + j) = kb per keep j s := by
      unfold kat
      rw [Nat.mul_add_mod, Nat.mod_eq_of_lt (by omega), Nat.mul_add_div hr, Nat.div_eq_of_lt (by omega), Nat.add_zero]
    rw [e, Int.natCast_add, cntF_row per keep hr j (by omega)]
    split <;> simp <;> omega
theorem cntF_tot (per : Int) (keep : List Int) {r : Nat} (hr : 0 < r) : ∀ s, (cntF per keep r (r * s) : Int) = tot per keep r s
  | 0 => rfl
  | s + 1 => by rw [Nat.mul_succ, cntF_row per keep hr r (Nat.le_refl _), cntF_tot per keep hr s]; rfl
theorem tdiv_nat (a b : Nat) : (a : Int).tdiv b = ((a / b : Nat) : Int) := by
  rw [Int.tdiv_eq_ediv_of_nonneg (by omega)]; exact (Int.natCast_ediv a b).symm
section
variable {per : Int} {keep : List Int} (h : Pat per keep)
include h
theorem keep63' {r k : Nat} (hr0 : 0 < r) (hr : r ≤ 3) (hk : k ≤ 9223372036854775807) : F63 (IntKind.wrap IntKind.i64 (Int.tdiv (k : Int) (r : Int)), Int.tmod (k : Int) (r : Int), (), ()) ((per, keep, ()), ()) = some (kat per keep r k, (per, keep, ()), ()) := by
  have h1 := Nat.mod_lt k hr0
  have h2 := Nat.div_le_self k r
  rw [tdiv_nat, tmod_nat]
  unfold kat
  generalize k / r = q at *
  generalize k % r = m at *
  rw [wi (by omega) (by omega)]
  exact keep63 h (by omega) (by omega) (by omega)
theorem loop13 {r : Nat} (hr0 : 0 < r) (hr : r ≤ 3) {K : Nat} : ∀ (l2 l1 acc : List Int) (k : Nat) (_ : acc.length ≤ l1.length) (_ : l1.length + l2.length ≤ 140737488355328),
    L13_9 K (k + l2.length + 1) ((r : Int), ((), ()), (), l1 ++ l2, ((l1 ++ l2).length : Int), (l1.length : Int), ()) ((per, keep, ()), acc, ()) = some (((), 0, ()), acc ++ picks per keep r l2 l1.length, ()) := by
  intro l2
  induction l2 with
  | nil =>
    intro l1 acc k ha hl
    rw [L13_9, if_neg (by simp)]; simp [picks]
  | cons x l2 ih =>
    intro l1 acc k ha hl
    simp only [List.length_cons] at hl
    have ih' := ih (l1 ++ [x])
    rw [show (l1 ++ [x]) ++ l2 = l1 ++ x :: l2 by simp, show ((l1 ++ [x]).length : Int) = (l1.length : Int) + 1 by simp, show (l1 ++ [x]).length = l1.length + 1 by simp] at ih'
    rw [show k + (x :: l2).length + 1 = (k + l2.length + 1) + 1 by simp; omega, L13_9]
    have e1 : IntKind.wrap IntKind.i64 ((l1.length : Int) + 1) = (l1.length : Int) + 1 := wi (by omega) (by omega)
    have hr' : ¬ (r : Int) = 0 := by omega
    rw [if_pos (show decide ((l1.length : Int) < ((l1 ++ x :: l2).length : Int)) = true by simp; omega), if_pos (show (0 : Int) ≤ (l1.length : Int) ∧ (l1.length : Int) < ((l1 ++ x :: l2).length : Int) by simp; omega), if_neg hr', if_neg hr', keep63' h hr0 hr (by omega), e1]
    simp only [Option.bind_some]
    split
    · rename_i hk
      rw [if_pos (show (acc.length + 1) * 1 ≤ 140737488355328 by omega), ih' _ _ (by simp; omega) (by omega)]
      simp [picks, hk]
    · rename_i hk
      rw [ih' _ _ (by omega) (by omega)]
      simp [picks, hk]
end
/-- What Cut comes to. -/
theorem cut_ok {per x y z : Int} (hx : 0 ≤ x ∧ x < 18446744073709551616) (hy : 0 ≤ y ∧ y < 18446744073709551616) (hz : 0 ≤ z ∧ z < 18446744073709551616) {r : Nat} (hr0 : 0 < r) (hr : r ≤ 3) (hc : chk per x y z r = 0) {l : List Int} (hl : l.length ≤ 140737488355328) (hd : l.length % r = 0) :
    ∃ K, ∀ k, K ≤ k → F13 k ((per, [x, y, z], ()), (r : Int), l, ()) () = some (((), 0, ()), picks per [x, y, z] r l 0, ()) := by
  obtain ⟨hp, _⟩ := chk_pat hx hy hz hc
  refine ⟨l.length + 10, fun k hk => ?_⟩
  have e28 := chk28 (per := per) (rate := r) hx hy hz (k - 6)
  rw [show k - 6 + 6 = k by omega, hc] at e28
  have hr' : ¬ (r : Int) = 0 := by omega
  simp only [F13]
  rw [e28]
  simp only [Option.bind_some, decide_true, Bool.not_true, Bool.false_eq_true, if_false]
  rw [if_neg hr', tmod_nat, hd]
  simp only [F43, Option.bind_some]
  have := loop13 hp hr0 hr (K := k) l [] [] (k - l.length - 1) (Nat.le_refl _) (by simpa using hl)
  rw [show k - l.length - 1 + l.length + 1 = k by omega] at this
  simpa using this
theorem rate_val {per x y z : Int} (hx : 0 ≤ x ∧ x < 18446744073709551616) (hy : 0 ≤ y ∧ y < 18446744073709551616) (hz : 0 ≤ z ∧ z < 18446744073709551616) {r p n : Nat} (hper : per = p) (hr : r ≤ 3) (hc : chk per x y z r = 0) (hn : tot per [x, y, z] r p = n) :
    ∃ K, ∀ k, K ≤ k → F24 k ((per, [x, y, z], ()), (r : Int), ()) () = some ((((p / Nat.gcd p n : Nat) : Int), ((n / Nat.gcd p n : Nat) : Int), 0, ()), ()) := by
  obtain ⟨hp, _⟩ := chk_pat hx hy hz hc
  subst hper
  have hlo := hp.lo
  have hhi := hp.hi
  obtain ⟨K1, h1⟩ := count_ok hp hr (S := p) (by omega)
  have hb := tot3 (per := (p : Int)) (keep := [x, y, z]) hr (s := p) (by omega)
  refine ⟨K1 + p + n + 10, fun k hk => ?_⟩
  have e28 := chk28 (per := (p : Int)) (rate := r) hx hy hz (k - 6)
  rw [show k - 6 + 6 = k by omega, hc] at e28
  simp only [F24]
  rw [e28]
  simp only [Option.bind_some, decide_true, Bool.not_true, Bool.false_eq_true, if_false]
  rw [h1 k (by omega)]
  simp only [Option.bind_some]
  rw [hn]
  have := gcd24 (n := (n : Int)) (per := (p : Int)) (keep := [x, y, z]) (K := k) n p (k - n - 1) (by omega)
  rw [show k - n - 1 + n + 1 = k by omega, tdiv_nat, tdiv_nat] at this
  have q1 := Nat.div_le_self p (Nat.gcd p n)
  have q2 := Nat.div_le_self n (Nat.gcd p n)
  generalize p / Nat.gcd p n = a1 at *
  generalize n / Nat.gcd p n = a2 at *
  rw [wi (by omega) (by omega), wi (by omega) (by omega)] at this
  exact this
theorem sent_val {per x y z : Int} (hx : 0 ≤ x ∧ x < 18446744073709551616) (hy : 0 ≤ y ∧ y < 18446744073709551616) (hz : 0 ≤ z ∧ z < 18446744073709551616) {r s : Nat} (hr : r ≤ 3) (hc : chk per x y z r = 0) (hs : s ≤ 1055) :
    ∃ K, ∀ k, K ≤ k → F26 k ((per, [x, y, z], ()), (r : Int), (s : Int), ()) () = some ((tot per [x, y, z] r s, 0, ()), ()) := by
  obtain ⟨hp, _⟩ := chk_pat hx hy hz hc
  obtain ⟨K1, h1⟩ := count_ok hp hr (S := s) (by omega)
  have q1 : ¬ ((s : Int) < 0) := by omega
  have q2 : ¬ (1055 < (s : Int)) := by omega
  refine ⟨K1 + 10, fun k hk => ?_⟩
  have e28 := chk28 (per := per) (rate := r) hx hy hz (k - 6)
  rw [show k - 6 + 6 = k by omega, hc] at e28
  simp only [F26]
  rw [e28, h1 k (by omega)]
  simp [q1, q2]
/-- Whole periods are alike. -/
theorem row1_per {p : Nat} {keep : List Int} (t : Nat) : ∀ r, row1 (p : Int) keep ((t + p : Nat) : Int) r = row1 (p : Int) keep (t : Int) r
  | 0 => rfl
  | r + 1 => by
    have e : kb (p : Int) keep r ((t + p : Nat) : Int) = kb (p : Int) keep r (t : Int) := by
      unfold kb
      rw [show ((t + p : Nat) : Int) = (t : Int) + p by omega, Int.add_emod_right]
    simp only [row1]; rw [row1_per t r, e]
theorem tot_add {p : Nat} {keep : List Int} {r : Nat} : ∀ s, tot (p : Int) keep r (s + p) = tot (p : Int) keep r s + tot (p : Int) keep r p
  | 0 => by simp [tot]
  | s + 1 => by
    rw [show s + 1 + p = (s + p) + 1 by omega]
    simp only [tot]
    rw [tot_add s, row1_per]; omega
theorem tot_mul {p : Nat} {keep : List Int} {r : Nat} : ∀ q : Nat, tot (p : Int) keep r (q * p) = q * tot (p : Int) keep r p
  | 0 => by simp [tot]
  | q + 1 => by rw [Nat.succ_mul, tot_add, tot_mul q]; rw [show ((q + 1 : Nat) : Int) = (q : Int) + 1 by omega, Int.add_mul, Int.one_mul]
/-- A number that isn't 0 has a bit. -/
theorem has_bit : ∀ (p : Nat) (v : Nat), v ≠ 0 → v < 2 ^ p → ∃ t, t < p ∧ v / 2 ^ t % 2 = 1
  | 0, v, h0, h1 => by omega
  | p + 1, v, h0, h1 => by
    by_cases ho : v % 2 = 1
    · exact ⟨0, by omega, by simpa using ho⟩
    · obtain ⟨t, ht, hv⟩ := has_bit p (v / 2) (by omega) (by rw [Nat.pow_succ] at h1; omega)
      refine ⟨t + 1, by omega, ?_⟩
      rw [Nat.pow_succ, Nat.mul_comm, ← Nat.div_div_eq_div_mul]; exact hv
theorem row1_pos {per : Int} {keep : List Int} {t : Int} {i : Nat} (hb : kb per keep i t = true) : ∀ r, i < r → 1 ≤ row1 per keep t r
  | 0, h => by omega
  | r + 1, h => by
    have := (row1_le per keep t r).1
    simp only [row1]
    by_cases hi : i = r
    · subst hi; rw [if_pos hb]; omega
    · have := row1_pos hb r (by omega); split <;> omega
theorem tot_pos {per : Int} {keep : List Int} {r : Nat} {t : Nat} (h : 1 ≤ row1 per keep t r) : ∀ s, t < s → 1 ≤ tot per keep r s
  | 0, h => by omega
  | s + 1, hs => by
    have h1 := (tot_le per keep r s).1
    have h2 := (row1_le per keep s r).1
    simp only [tot]
    by_cases hi : t = s
    · subst hi; omega
    · have := tot_pos h s (by omega); omega
theorem chk_pos {x y z : Int} {p r : Nat} (hx : 0 ≤ x ∧ x < 18446744073709551616) (hy : 0 ≤ y ∧ y < 18446744073709551616) (hz : 0 ≤ z ∧ z < 18446744073709551616) (hc : chk (p : Int) x y z r = 0) : 1 ≤ tot (p : Int) [x, y, z] r p := by
  obtain ⟨hp, hr⟩ := chk_pat hx hy hz hc
  have hlo := hp.lo
  have hhi := hp.hi
  unfold chk at hc
  rw [if_neg (by omega), if_neg (by omega)] at hc
  have key : ∀ (i : Nat) (v : Int), i < 3 → [x, y, z].getD i 0 = v → 0 ≤ v → v < 18446744073709551616 → v ≠ 0 → bad (p : Int) (r : Int) i v = false → 1 ≤ tot (p : Int) [x, y, z] r p := by
    intro i v hi hv v0 v1 vn hb
    simp only [bad, Bool.or_eq_false_iff, Bool.and_eq_false_iff, decide_eq_false_iff_not, Bool.not_eq_false', decide_eq_true_eq] at hb
    obtain ⟨n, rfl⟩ := Int.eq_ofNat_of_zero_le v0
    have hir : i < r := by
      rcases hb.1 with h | h
      · omega
      · exact (vn h).elim
    have hlt : n < 2 ^ p := by
      rcases hb.2 with h | h
      · have : p = 64 := by omega
        subst this; omega
      · rw [Int.toNat_natCast] at h
        have h : ((n / 2 ^ p : Nat) : Int) = 0 := by rw [Int.natCast_ediv]; simpa using h
        have h : n / 2 ^ p = 0 := by omega
        rcases (Nat.div_eq_zero_iff).1 h with h | h
        · have := Nat.pow_pos (n := p) (show 0 < 2 by omega); omega
        · exact h
    obtain ⟨t, ht, hbt⟩ := has_bit p n (by omega) hlt
    refine tot_pos (t := t) (row1_pos (i := i) ?_ r hir) p ht
    unfold kb
    rw [Int.toNat_natCast, hv, show (t : Int) % (p : Int) = t from Int.emod_eq_of_lt (by omega) (by omega), Int.toNat_natCast]
    have : (((n / 2 ^ t % 2 : Nat)) : Int) = (n : Int) / 2 ^ t % 2 := by rw [Int.natCast_emod, Int.natCast_ediv]; simp
    rw [← this, hbt]; rfl
  cases b0 : bad (p : Int) r 0 x with
  | true => rw [b0] at hc; simp at hc
  | false =>
    cases b1 : bad (p : Int) r 1 y with
    | true => rw [b0, b1] at hc; simp at hc
    | false =>
      cases b2 : bad (p : Int) r 2 z with
      | true => rw [b0, b1, b2] at hc; simp at hc
      | false =>
        rw [b0, b1, b2] at hc
        simp only [Bool.or_self, Bool.false_eq_true, if_false] at hc
        by_cases x0 : x = 0
        · by_cases y0 : y = 0
          · by_cases z0 : z = 0
            · rw [if_pos ⟨x0, y0, z0⟩] at hc; cases hc
            · exact key 2 z (by omega) rfl hz.1 hz.2 z0 b2
          · exact key 1 y (by omega) rfl hy.1 hy.2 y0 b1
        · exact key 0 x (by omega) rfl hx.1 hx.2 x0 b0
theorem counts {per x y z rate periods : Int} (hx : 0 ≤ x ∧ x < 18446744073709551616) (hy : 0 ≤ y ∧ y < 18446744073709551616) (hz : 0 ≤ z ∧ z < 18446744073709551616) :
    ∃ k, F7 k ((per, [x, y, z], ()), rate, periods, ()) () = some (true, ()) := by
  have el := fun k => live_ok k
  have e29 := fun k => chk29 (per := per) (rate := rate) hx hy hz k
  have none_ok : ∀ k, 30 ≤ k → (Option.bind (F19 k () ()) fun val => some (val.1, ())) = (some (true, ()) : Option (Bool × Unit)) := fun k hk => by
    have := el (k - 30); rw [show k - 30 + 30 = k by omega] at this; rw [this]; rfl
  by_cases hc : chk per x y z rate = 0
  · by_cases hneg : periods < 0
    · refine ⟨40, ?_⟩
      simp only [F7]
      rw [show (40 : Nat) = 35 + 5 by omega, e29, hc]
      simp only [Option.bind_some, decide_true, Bool.not_true, Bool.false_eq_true, if_false]
      rw [if_pos (by simpa using hneg)]
      exact none_ok _ (by omega)
    obtain ⟨hp, hr⟩ := chk_pat hx hy hz hc
    obtain ⟨r, rfl, hr0, hr3⟩ := rate_cases hr
    have hlo := hp.lo
    have hhi := hp.hi
    obtain ⟨p, rfl⟩ := Int.eq_ofNat_of_zero_le (show 0 ≤ per by omega)
    obtain ⟨q, rfl⟩ := Int.eq_ofNat_of_zero_le (show 0 ≤ periods by omega)
    have hp0 : ¬ (p : Int) = 0 := by omega
    have hw1 : IntKind.wrap IntKind.i64 (Int.tdiv 1055 (p : Int)) = ((1055 / p : Nat) : Int) := by
      have := tdiv_nat 1055 p
      have e : ((1055 : Nat) : Int) = 1055 := rfl
      rw [e] at this
      have := Nat.div_le_self 1055 p
      rw [‹Int.tdiv 1055 (p : Int) = _›]
      generalize 1055 / p = a at *
      exact wi (by omega) (by omega)
    by_cases hbig : (1055 / p : Nat) < q
    · refine ⟨40, ?_⟩
      simp only [F7]
      rw [show (40 : Nat) = 35 + 5 by omega, e29, hc]
      simp only [Option.bind_some, decide_true, Bool.not_true, Bool.false_eq_true, if_false]
      rw [if_neg (by simp), if_neg hp0, hw1, if_pos (by simp only [decide_eq_true_eq]; omega)]
      exact none_ok _ (by omega)
    · have hqp : q * p ≤ 1055 := by
        have h1 : q ≤ 1055 / p := by omega
        have := Nat.mul_le_mul_right p h1
        have := Nat.div_mul_le_self 1055 p
        omega
      have hrqp : r * q * p ≤ 3165 := by
        rw [Nat.mul_assoc]
        have := Nat.mul_le_mul hr3 hqp
        omega
      have hq1 : q ≤ 1055 := by
        have : q * 1 ≤ q * p := Nat.mul_le_mul_left _ (by omega)
        omega
      have hrq : r * q ≤ 3165 := by
        have := Nat.mul_le_mul hr3 hq1; omega
      obtain ⟨n1, hn1⟩ := Int.eq_ofNat_of_zero_le (tot_le (p : Int) [x, y, z] r p).1
      have hb1 := tot3 (per := (p : Int)) (keep := [x, y, z]) hr3 (s := p) (by omega)
      obtain ⟨K1, h1⟩ := sent_val hx hy hz hr3 hc hqp
      obtain ⟨K2, h2⟩ := sent_val hx hy hz hr3 hc (s := p) (by omega)
      obtain ⟨K3, h3⟩ := cut_ok hx hy hz hr0 hr3 hc (l := List.replicate (r * q * p) 0) (by simp; omega) (by rw [List.length_replicate, Nat.mul_assoc]; exact Nat.mul_mod_right r (q * p))
      obtain ⟨K4, h4⟩ := rate_val hx hy hz (p := p) rfl hr3 hc hn1
      have hpos := chk_pos hx hy hz hc
      refine ⟨K1 + K2 + K3 + K4 + 40, ?_⟩
      have e29' := e29 (K1 + K2 + K3 + K4 + 35)
      rw [show K1 + K2 + K3 + K4 + 35 + 5 = K1 + K2 + K3 + K4 + 40 by omega, hc] at e29'
      generalize hk : K1 + K2 + K3 + K4 + 40 = k at *
      have w1 : IntKind.wrap IntKind.i64 ((q : Int) * (p : Int)) = ((q * p : Nat) : Int) := by rw [Int.natCast_mul]; exact wi (by omega) (by rw [← Int.natCast_mul]; omega)
      have w2 : IntKind.wrap IntKind.i64 ((r : Int) * (q : Int)) = ((r * q : Nat) : Int) := by rw [Int.natCast_mul]; exact wi (by rw [← Int.natCast_mul]; omega) (by rw [← Int.natCast_mul]; omega)
      have w3 : IntKind.wrap IntKind.i64 (((r * q : Nat) : Int) * (p : Int)) = ((r * q * p : Nat) : Int) := by rw [← Int.natCast_mul]; exact wi (by omega) (by omega)
      simp only [F7]
      rw [e29']
      simp only [Option.bind_some, decide_true, Bool.not_true, Bool.false_eq_true, if_false]
      rw [if_neg (by simp), if_neg hp0, hw1, if_neg (by simp only [decide_eq_true_eq]; omega), w1, w2, w3, h1 k (by omega), h2 k (by omega)]
      simp only [Option.bind_some]
      rw [if_pos (show (0 : Int) ≤ ((r * q * p : Nat) : Int) ∧ ((r * q * p : Nat) : Int) ≤ ((r * q * p : Nat) : Int) ∧ ((r * q * p : Nat) : Int) * 1 ≤ 140737488355328 by omega), Int.toNat_natCast, h3 k (by omega), h4 k (by omega)]
      have hlive := el (k - 30)
      rw [show k - 30 + 30 = k by omega] at hlive
      have hlen : ((picks (p : Int) [x, y, z] r (List.replicate (r * q * p) 0) 0).length : Int) = tot (p : Int) [x, y, z] r (q * p) := by
        have := picks_len (p : Int) [x, y, z] r (List.replicate (r * q * p) 0) 0
        rw [List.length_replicate, Nat.zero_add, Nat.mul_assoc] at this
        rw [← cntF_tot (p : Int) [x, y, z] hr0, ← this]
        simp [cntF, Nat.mul_assoc]
      have hb2 := tot3 (per := (p : Int)) (keep := [x, y, z]) hr3 (s := q * p) (by omega)
      have hmul := tot_mul (p := p) (keep := [x, y, z]) (r := r) q
      have hw4 : IntKind.wrap IntKind.i64 ((q : Int) * tot (p : Int) [x, y, z] r p) = tot (p : Int) [x, y, z] r (q * p) := by rw [← hmul]; exact wi (by omega) (by omega)
      have hn0 : 0 < n1 := by omega
      have hp1 : 0 < p := by omega
      have g0 : 0 < Nat.gcd p n1 := Nat.gcd_pos_of_pos_left _ hp1
      have d1 : 1 ≤ p / Nat.gcd p n1 := Nat.div_pos (Nat.gcd_le_left _ hp1) g0
      have d2 : 1 ≤ n1 / Nat.gcd p n1 := Nat.div_pos (Nat.gcd_le_right _ hn0) g0
      have hcross : p / Nat.gcd p n1 * n1 = n1 / Nat.gcd p n1 * p := by
        have a1 := Nat.div_mul_cancel (Nat.gcd_dvd_left p n1)
        have a2 := Nat.div_mul_cancel (Nat.gcd_dvd_right p n1)
        generalize p / Nat.gcd p n1 = u at *
        generalize n1 / Nat.gcd p n1 = v at *
        generalize Nat.gcd p n1 = g at *
        calc u * n1 = u * (v * g) := by rw [a2]
          _ = v * (u * g) := Nat.mul_left_comm u v g
          _ = v * p := by rw [a1]
      have hcross' : ((p / Nat.gcd p n1 : Nat) : Int) * (n1 : Int) = ((n1 / Nat.gcd p n1 : Nat) : Int) * (p : Int) := by rw [← Int.natCast_mul, ← Int.natCast_mul, hcross]
      have d1' : (1 : Int) ≤ ((p / Nat.gcd p n1 : Nat) : Int) := by omega
      have d2' : (1 : Int) ≤ ((n1 / Nat.gcd p n1 : Nat) : Int) := by omega
      generalize ((p / Nat.gcd p n1 : Nat) : Int) = u at *
      generalize ((n1 / Nat.gcd p n1 : Nat) : Int) = v at *
      simp only [Option.bind_some, F15, decide_true, if_true, hw4, hlen]
      rw [hn1, hcross', if_pos (by simp only [decide_eq_true_eq]; omega), if_pos (by simp only [decide_eq_true_eq]; omega), if_pos (by simp), hlive]
      rfl
  · refine ⟨40, ?_⟩
    simp only [F7]
    rw [show (40 : Nat) = 35 + 5 by omega, e29]
    simp only [Option.bind_some]
    rw [if_pos (by simp [hc])]
    exact none_ok _ (by omega)
end Go.Eng.Pu

/- What the plain functions of puncture come to: fills; there and back. No condition. -/
namespace Go.Eng.Pu
open Go Go.Eng Go.Proofs
def fills (per : Int) (keep : List Int) (r : Nat) (lv : Int) : Nat → Nat → List Int → List Int
  | 0, _, _ => []
  | n + 1, k, w => if kat per keep r k then w.headD 0 :: fills per keep r lv n (k + 1) w.tail else lv :: fills per keep r lv n (k + 1) w
theorem fills_len (per : Int) (keep : List Int) (r : Nat) (lv : Int) : ∀ n k w, (fills per keep r lv n k w).length = n
  | 0, k, w => rfl
  | n + 1, k, w => by simp only [fills]; split <;> simp [fills_len per keep r lv n]
theorem set_at (pre : List Int) (n : Nat) (x : Int) : List.set (pre ++ List.replicate (n + 1) 0) pre.length x = (pre ++ [x]) ++ List.replicate n 0 := by
  rw [List.set_append, if_neg (by omega), Nat.sub_self, List.replicate_succ]; simp
theorem set_last (pre : List Int) (l : List Int) (x y : Int) : List.set ((pre ++ [x]) ++ l) pre.length y = (pre ++ [y]) ++ l := by
  rw [List.append_assoc, List.set_append, if_neg (by omega), Nat.sub_self]; simp
theorem cntF_mono (per : Int) (keep : List Int) (r k : Nat) : ∀ n, cntF per keep r k ≤ cntF per keep r (k + n)
  | 0 => Nat.le_refl _
  | n + 1 => Nat.le_trans (cntF_mono per keep r k n) (by rw [← Nat.add_assoc]; simp only [cntF]; omega)
theorem wu8 {n : Int} (h0 : 0 ≤ n) (h : n ≤ 255) : IntKind.wrap IntKind.u8 n = n := IntWalk.u8_in n ⟨h0, h⟩
section
variable {per : Int} {keep : List Int} (h : Pat per keep)
include h
theorem loop18 {r : Nat} (hr0 : 0 < r) (hr : r ≤ 3) {lv : Int} (l0 : 0 ≤ lv) (l1 : lv ≤ 255) {K : Nat} : ∀ (n : Nat) (pre w1 w2 : List Int) (kk : Nat) (_ : pre.length + n ≤ 1000000) (_ : w1.length + w2.length ≤ 1000000) (_ : cntF per keep r (pre.length + n) = cntF per keep r pre.length + w2.length),
    L20_18 K (kk + n + 1) ((r : Int), lv, w1 ++ w2, ((), ()), (), (w1.length : Int), ((pre.length + n : Nat) : Int), (pre.length : Int), ()) ((per, keep, ()), pre ++ List.replicate n 0, ()) = some (((), 0, ()), pre ++ fills per keep r lv n pre.length w2, ()) := by
  intro n
  induction n with
  | zero =>
    intro pre w1 w2 kk hp hw hcn
    rw [L20_18, if_neg (by simp)]; simp [fills]
  | succ n ih =>
    intro pre w1 w2 kk hp hw hcn
    rw [show kk + (n + 1) + 1 = (kk + n + 1) + 1 by omega, L20_18]
    have hr' : ¬ (r : Int) = 0 := by omega
    have hlen : (pre ++ List.replicate (n + 1) (0 : Int)).length = pre.length + (n + 1) := by simp
    have e1 : IntKind.wrap IntKind.i64 ((pre.length : Int) + 1) = (pre.length : Int) + 1 := wi (by omega) (by omega)
    have e2 : IntKind.wrap IntKind.i64 ((w1.length : Int) + 1) = (w1.length : Int) + 1 := wi (by omega) (by omega)
    rw [if_pos (show decide ((pre.length : Int) < ((pre.length + (n + 1) : Nat) : Int)) = true by simp; omega), if_pos (show (0 : Int) ≤ (pre.length : Int) ∧ (pre.length : Int) < ((pre ++ List.replicate (n + 1) (0 : Int)).length : Int) by rw [hlen]; omega), Int.toNat_natCast,
      if_pos (show pre.length < (pre ++ List.replicate (n + 1) (0 : Int)).length by rw [hlen]; omega), if_neg hr', if_neg hr', keep63' h hr0 hr (by omega), e1, e2, wu8 l0 l1, set_at, set_last]
    simp only [Option.bind_some]
    have hlen2 : ((pre ++ [lv]) ++ List.replicate n (0 : Int)).length = pre.length + (n + 1) := by simp only [List.length_append, List.length_singleton, List.length_replicate]; omega
    rw [show pre.length + (n + 1) = (pre.length + 1) + n by omega] at hcn
    by_cases hk : kat per keep r pre.length = true
    · have hc1 : cntF per keep r (pre.length + 1) = cntF per keep r pre.length + 1 := by simp only [cntF]; rw [if_pos hk]
      have hmono := cntF_mono per keep r (pre.length + 1) n
      match w2, hcn, hw with
      | [], hcn, hw => simp at hcn; omega
      | a :: w2, hcn, hw =>
        simp only [List.length_cons] at hcn hw
        have ih' := ih (pre ++ [a]) (w1 ++ [a]) w2 kk (by simp; omega) (by simp; omega) (by simp only [List.length_append, List.length_singleton]; omega)
        simp only [List.length_append, List.length_singleton, Int.natCast_add, Int.natCast_one] at ih'
        rw [if_pos hk, if_pos (show (0 : Int) ≤ (w1.length : Int) ∧ (w1.length : Int) < ((w1 ++ a :: w2).length : Int) by simp; omega), if_pos (show (0 : Int) ≤ (pre.length : Int) ∧ (pre.length : Int) < (((pre ++ [lv]) ++ List.replicate n (0 : Int)).length : Int) by rw [hlen2]; omega), if_pos (by rw [hlen2]; omega)]
        rw [Int.toNat_natCast, show List.getD (w1 ++ a :: w2) w1.length 0 = a by simp [List.getD_eq_getElem?_getD]]
        rw [show (w1 ++ [a]) ++ w2 = w1 ++ a :: w2 by simp] at ih'
        have e3 : ((pre.length + (n + 1) : Nat) : Int) = (pre.length : Int) + 1 + (n : Int) := by omega
        rw [e3, ih']
        simp [fills, hk]
    · have hc1 : cntF per keep r (pre.length + 1) = cntF per keep r pre.length := by simp only [cntF]; rw [if_neg hk]; rfl
      have ih' := ih (pre ++ [lv]) w1 w2 kk (by simp; omega) hw (by simp only [List.length_append, List.length_singleton]; omega)
      simp only [List.length_append, List.length_singleton, Int.natCast_add, Int.natCast_one] at ih'
      have e3 : ((pre.length + (n + 1) : Nat) : Int) = (pre.length : Int) + 1 + (n : Int) := by omega
      rw [if_neg hk, e3, ih']
      simp [fills, hk]
end
theorem loop9 {per : Int} {keep : List Int} {r : Nat} (hr : r ≤ 3) {lv : Int} {S : Nat} (hS : S ≤ 1055) {w : List Int} (hw8 : ∀ x ∈ w, 0 ≤ x ∧ x ≤ 255) (hwl : w.length ≤ 1000000) {K : Nat} : ∀ (l2 p2 : List Int) (kk : Nat) (_ : w = p2 ++ l2),
    L20_9 K (kk + l2.length + 1) ((r : Int), lv, (S : Int), w, (), w, (w.length : Int), (p2.length : Int), ()) ((per, keep, ()), ()) =
      if (∀ x ∈ l2, x < lv) then L20_18 K kk ((r : Int), lv, w, ((), ()), (), 0, ((r * S : Nat) : Int), 0, ()) ((per, keep, ()), List.replicate (r * S) 0, ()) else some (((), 91, ()), [], ()) := by
  intro l2
  induction l2 with
  | nil =>
    intro p2 kk hw
    have hrS : r * S ≤ 3165 := by have := Nat.mul_le_mul hr hS; omega
    have e1 : IntKind.wrap IntKind.i64 ((r : Int) * (S : Int)) = ((r * S : Nat) : Int) := by rw [← Int.natCast_mul]; exact wi (by omega) (by omega)
    subst hw
    rw [if_pos (by simp), show kk + ([] : List Int).length + 1 = kk + 1 from rfl, L20_9, if_neg (by simp)]
    simp only [F43, Option.bind_some, e1]
    rw [if_pos (by omega), Int.toNat_natCast, List.length_replicate]
  | cons x l2 ih =>
    intro p2 kk hw
    have ih' := ih (p2 ++ [x]) kk (by simp [hw])
    simp only [List.length_append, List.length_singleton, Int.natCast_add, Int.natCast_one] at ih'
    have hlen : w.length = p2.length + (l2.length + 1) := by rw [hw]; simp
    have hx := hw8 x (by rw [hw]; simp)
    have hget : List.getD w p2.length 0 = x := by rw [hw]; simp [List.getD_eq_getElem?_getD]
    rw [show kk + (x :: l2).length + 1 = (kk + l2.length + 1) + 1 by simp; omega, L20_9, if_pos (show decide ((p2.length : Int) < (w.length : Int)) = true by simp; omega), if_pos (show (0 : Int) ≤ (p2.length : Int) ∧ (p2.length : Int) < (w.length : Int) by omega), Int.toNat_natCast, hget, wi (n := x) (by omega) (by omega), wi (n := (p2.length : Int) + 1) (by omega) (by omega)]
    by_cases hlt : x < lv
    · rw [if_neg (show ¬ decide (lv ≤ x) = true by simp; omega), ih']
      by_cases ha : ∀ y ∈ l2, y < lv
      · rw [if_pos ha, if_pos (by simpa [hlt] using ha)]
      · rw [if_neg ha, if_neg (by simpa [hlt] using ha)]
    · rw [if_pos (show decide (lv ≤ x) = true by simp; omega), if_neg (by simp [hlt])]
/-- What Fill comes to. -/
theorem fill_ok {per x y z rate lv steps : Int} {w : List Int} (hx : 0 ≤ x ∧ x < 18446744073709551616) (hy : 0 ≤ y ∧ y < 18446744073709551616) (hz : 0 ≤ z ∧ z < 18446744073709551616) (hw8 : ∀ x ∈ w, 0 ≤ x ∧ x ≤ 255) :
    ∃ K e l, (∀ k, K ≤ k → F20 k ((per, [x, y, z], ()), rate, lv, steps, w, ()) () = some (((), e, ()), l, ())) ∧
      (e = 0 → chk per x y z rate = 0 ∧ 2 ≤ lv ∧ lv ≤ 15 ∧ (∀ v ∈ w, v < lv) ∧ ∃ r S : Nat, rate = r ∧ 0 < r ∧ r ≤ 3 ∧ steps = S ∧ S ≤ 1055 ∧ (w.length : Int) = tot per [x, y, z] r S ∧ l = fills per [x, y, z] r lv (r * S) 0 w) ∧
      (e ≠ 0 → ¬ (chk per x y z rate = 0 ∧ 2 ≤ lv ∧ lv ≤ 15 ∧ (∀ v ∈ w, v < lv) ∧ ∃ r S : Nat, rate = r ∧ steps = S ∧ S ≤ 1055 ∧ (w.length : Int) = tot per [x, y, z] r S)) := by
  have e28 := fun k => chk28 (per := per) (rate := rate) hx hy hz k
  by_cases hc : chk per x y z rate = 0
  · by_cases hb : lv < 2 ∨ 15 < lv ∨ steps < 0 ∨ 1055 < steps
    · refine ⟨10, 1, [], fun k hk => ?_, (fun h => by cases h), fun _ h => ?_⟩
      · simp only [F20]
        rw [show k = k - 6 + 6 by omega, e28, hc]
        simp only [Option.bind_some, decide_true, Bool.not_true, Bool.false_eq_true, if_false]
        by_cases h1 : lv < 2
        · simp [h1]
        · by_cases h2 : 15 < lv
          · simp [h1, h2]
          · by_cases h3 : steps < 0
            · simp [h1, h2, h3]
            · have h4 : 1055 < steps := by omega
              simp [h1, h2, h3, h4]
      · obtain ⟨_, a, b, _, r, S, _, rfl, c, _⟩ := h; omega
    · obtain ⟨hp, hr⟩ := chk_pat hx hy hz hc
      obtain ⟨r, rfl, hr0, hr3⟩ := rate_cases hr
      obtain ⟨S, rfl⟩ := Int.eq_ofNat_of_zero_le (show 0 ≤ steps by omega)
      obtain ⟨K1, h1⟩ := count_ok hp hr3 (S := S) (by omega)
      have b1 : ¬ lv < 2 := by omega
      have b2 : ¬ 15 < lv := by omega
      have b3 : ¬ (S : Int) < 0 := by omega
      have b4 : ¬ 1055 < (S : Int) := by omega
      have hrS : r * S ≤ 3165 := by have := Nat.mul_le_mul hr3 (show S ≤ 1055 by omega); omega
      have hb3 := tot3 (per := per) (keep := [x, y, z]) hr3 (s := S) (by omega)
      have head : ∀ k, K1 + 10 ≤ k → F20 k ((per, [x, y, z], ()), (r : Int), lv, (S : Int), w, ()) () = if (!decide ((w.length : Int) = tot per [x, y, z] r S)) = true then some (((), 5, ()), [], ()) else L20_9 k k ((r : Int), lv, (S : Int), w, (), w, (w.length : Int), 0, ()) ((per, [x, y, z], ()), ()) := fun k hk => by
        have e28' := e28 (k - 6)
        rw [show k - 6 + 6 = k by omega, hc] at e28'
        simp only [F20]
        rw [e28', h1 k (by omega)]
        simp [b1, b2, b3, b4]
      by_cases hn : (w.length : Int) = tot per [x, y, z] r S
      · have hwl : w.length ≤ 1000000 := by
          have := tot_le per [x, y, z] r S
          have e : ((r * S : Nat) : Int) = (r : Int) * S := Int.natCast_mul r S
          omega
        have h9 := fun K kk => loop9 (per := per) (keep := [x, y, z]) hr3 (lv := lv) (S := S) (by omega) hw8 hwl (K := K) w [] kk rfl
        by_cases hlv : ∀ v ∈ w, v < lv
        · refine ⟨K1 + 20 + w.length + r * S, 0, fills per [x, y, z] r lv (r * S) 0 w, fun k hk => ?_, fun _ => ⟨hc, by omega, by omega, hlv, r, S, rfl, hr0, hr3, rfl, by omega, hn, rfl⟩, fun h => by cases h rfl⟩
          rw [head k (by omega), if_neg (by simp [hn])]
          have := h9 k (k - w.length - 1)
          rw [show k - w.length - 1 + w.length + 1 = k by omega, if_pos hlv] at this
          refine this.trans ?_
          have h18 := loop18 hp hr0 hr3 (lv := lv) (by omega) (by omega) (K := k) (r * S) [] [] w (k - w.length - 1 - r * S - 1) (by simpa using (by omega : r * S ≤ 1000000)) (by simpa using hwl) (by
            have := cntF_tot per [x, y, z] hr0 S
            simp only [List.length_nil, Nat.zero_add]
            simp only [cntF]; omega)
          rw [show k - w.length - 1 - r * S - 1 + r * S + 1 = k - w.length - 1 by omega] at h18
          simpa using h18
        · refine ⟨K1 + 20 + w.length, 91, [], fun k hk => ?_, (fun h => by cases h), fun _ h => hlv h.2.2.2.1⟩
          rw [head k (by omega), if_neg (by simp [hn])]
          have := h9 k (k - w.length - 1)
          rw [show k - w.length - 1 + w.length + 1 = k by omega, if_neg hlv] at this
          exact this
      · refine ⟨K1 + 10, 5, [], fun k hk => ?_, (fun h => by cases h), fun _ h => ?_⟩
        · rw [head k hk, if_pos (by simp [hn])]
        · obtain ⟨_, _, _, _, r', S', e1, e2, _, e3⟩ := h
          have : r' = r := by omega
          have : S' = S := by omega
          subst r' S'; exact hn e3
  · refine ⟨10, chk per x y z rate, [], fun k hk => ?_, fun h => (hc h).elim, fun _ h => hc h.1⟩
    simp only [F20]
    rw [show k = k - 6 + 6 by omega, e28]
    simp [hc]
end Go.Eng.Pu

/- There and back. No condition. -/
namespace Go.Eng.Pu
open Go Go.Eng Go.Proofs
def marks : Nat → Nat → List Int
  | _, 0 => []
  | i, d + 1 => (200 + i : Int) :: marks (i + 1) d
theorem lent_loop {w : List Int} : ∀ (d i : Nat) (a : List Int) (k : Nat) (_ : i + d = 8) (_ : w.length ≤ a.length) (_ : a.length + d ≤ 140737488355328),
    L12_3 (k + d + 1) (w, (), (i : Int), ()) (a, ()) = some ((0, w.length), a ++ marks i d, ()) := by
  intro d
  induction d with
  | zero =>
    intro i a k hi hw ha
    rw [L12_3, if_neg (show ¬ decide ((i : Int) < 8) = true by simp; omega), if_pos (show (0 : Int) ≤ (w.length : Int) ∧ (w.length : Int) ≤ (a.length : Int) by omega)]
    simp [marks]
  | succ d ih =>
    intro i a k hi hw ha
    rw [show k + (d + 1) + 1 = (k + d + 1) + 1 by omega, L12_3, if_pos (show decide ((i : Int) < 8) = true by simp; omega), if_pos (show (a.length + 1) * 1 ≤ 140737488355328 by omega), wi (n := (i : Int) + 1) (by omega) (by omega), wi (n := 200 + (i : Int)) (by omega) (by omega), wu8 (by omega) (by omega)]
    have := ih (i + 1) (a ++ [(200 + i : Int)]) k (by omega) (by simp; omega) (by simp; omega)
    rw [show ((i + 1 : Nat) : Int) = (i : Int) + 1 by omega] at this
    rw [this]; simp [marks]
theorem lent_ok {w : List Int} (hw : w.length ≤ 140737488351232) (k : Nat) : F12 (k + 9) (w, ()) () = some ((0, w.length), w ++ marks 0 8, ()) := by
  simp only [F12]
  rw [if_pos (by omega)]
  exact lent_loop 8 0 w k (by omega) (Nat.le_refl _) (by omega)
def ov (per : Int) (keep : List Int) (r : Nat) (lv : Int) : List Int → Nat → List Int
  | [], _ => []
  | x :: l, k => (if kat per keep r k then x else lv) :: ov per keep r lv l (k + 1)
theorem fills_picks (per : Int) (keep : List Int) (r : Nat) (lv : Int) : ∀ (l : List Int) (k : Nat), fills per keep r lv l.length k (picks per keep r l k) = ov per keep r lv l k
  | [], k => rfl
  | x :: l, k => by
    simp only [List.length_cons, fills, picks, ov]
    by_cases h : kat per keep r k = true
    · simp [h, fills_picks per keep r lv l]
    · simp [h, fills_picks per keep r lv l]
theorem picks_fills (per : Int) (keep : List Int) (r : Nat) (lv : Int) : ∀ (n k : Nat) (w : List Int), cntF per keep r (k + n) = cntF per keep r k + w.length → picks per keep r (fills per keep r lv n k w) k = w
  | 0, k, w, h => by
    have : w = [] := List.eq_nil_of_length_eq_zero (by rw [Nat.add_zero] at h; omega)
    subst this; rfl
  | n + 1, k, w, h => by
    rw [show k + (n + 1) = (k + 1) + n by omega] at h
    simp only [fills]
    by_cases hk : kat per keep r k = true
    · have hc1 : cntF per keep r (k + 1) = cntF per keep r k + 1 := by simp only [cntF]; rw [if_pos hk]
      have hmono := cntF_mono per keep r (k + 1) n
      match w, h with
      | [], h => simp at h; omega
      | a :: w, h =>
        rw [if_pos hk]
        simp only [picks, hk, if_true, List.headD_cons, List.tail_cons, List.singleton_append]
        rw [picks_fills per keep r lv n (k + 1) w (by simp at h; omega)]
    · have hc1 : cntF per keep r (k + 1) = cntF per keep r k := by simp only [cntF]; rw [if_neg hk]; rfl
      rw [if_neg hk]
      simp only [picks]
      rw [if_neg hk, picks_fills per keep r lv n (k + 1) w (by omega)]; rfl
theorem picks_mem (per : Int) (keep : List Int) (r : Nat) {x : Int} : ∀ {l : List Int} {k : Nat}, x ∈ picks per keep r l k → x ∈ l
  | [], k, h => by simp [picks] at h
  | y :: l, k, h => by
    simp only [picks, List.mem_append] at h
    rcases h with h | h
    · split at h
      · simp at h; subst h; exact List.mem_cons_self ..
      · simp at h
    · exact List.mem_cons_of_mem _ (picks_mem per keep r h)
/-- Two rows, one of which says nothing where the other one does. -/
def Fit (lv : Int) : List Int → List Int → List Int → Prop
  | [], [], [] => True
  | a :: la, x :: lx, d :: ld => (0 ≤ x ∧ x < lv) ∧ (0 ≤ a) ∧ ((d = x ∧ a < lv) ∨ (d = lv ∧ a = lv)) ∧ Fit lv la lx ld
  | _, _, _ => False
theorem fit_ok (per : Int) (keep : List Int) (r : Nat) (lv : Int) (h0 : 0 ≤ lv) : ∀ (l : List Int) (k : Nat) (w : List Int), (∀ x ∈ l, 0 ≤ x ∧ x < lv) → (∀ x ∈ w, 0 ≤ x ∧ x < lv) → cntF per keep r (k + l.length) = cntF per keep r k + w.length →
    Fit lv (fills per keep r lv l.length k w) l (ov per keep r lv l k)
  | [], k, w, hl, hw, h => trivial
  | x :: l, k, w, hl, hw, h => by
    simp only [List.length_cons] at h
    rw [show k + (l.length + 1) = (k + 1) + l.length by omega] at h
    simp only [List.length_cons, fills, ov]
    by_cases hk : kat per keep r k = true
    · have hc1 : cntF per keep r (k + 1) = cntF per keep r k + 1 := by simp only [cntF]; rw [if_pos hk]
      have hmono := cntF_mono per keep r (k + 1) l.length
      match w, h, hw with
      | [], h, hw => simp at h; omega
      | a :: w, h, hw =>
        rw [if_pos hk, if_pos hk]
        exact ⟨hl x (by simp), (hw a (by simp)).1, .inl ⟨rfl, (hw a (by simp)).2⟩, fit_ok per keep r lv h0 l (k + 1) w (fun y hy => hl y (List.mem_cons_of_mem _ hy)) (fun y hy => hw y (List.mem_cons_of_mem _ hy)) (by simp at h; omega)⟩
    · have hc1 : cntF per keep r (k + 1) = cntF per keep r k := by simp only [cntF]; rw [if_neg hk]; rfl
      rw [if_neg hk, if_neg hk]
      exact ⟨hl x (by simp), h0, .inr ⟨rfl, rfl⟩, fit_ok per keep r lv h0 l (k + 1) w (fun y hy => hl y (List.mem_cons_of_mem _ hy)) hw (by omega)⟩
theorem loop517 {per rate lv steps : Int} {keep w : List Int} (hlv : lv ≤ 15) {K : Nat} (hK : F19 K () () = some (true, ())) : ∀ (a2 x2 d2 a1 x1 d1 : List Int) (k : Nat), Fit lv a2 x2 d2 → a1.length = x1.length → x1.length = d1.length → d1.length + d2.length ≤ 1000000 →
    L5_17 K (k + d2.length + 1) ((), (), (), (), (d1.length : Int), ()) ((per, keep, rate, lv, steps, w, ()), a1 ++ a2, x1 ++ x2, d1 ++ d2, ()) = some (true, ())
  | [], [], [], a1, x1, d1, k, hf, h1, h2, hb => by
    rw [show k + ([] : List Int).length + 1 = k + 1 from rfl, L5_17, if_neg (by simp), hK]; rfl
  | a :: a2, x :: x2, d :: d2, a1, x1, d1, k, hf, h1, h2, hb => by
    obtain ⟨⟨x0, xl⟩, a0, hd, hf'⟩ := hf
    simp only [List.length_cons] at hb
    have ih := loop517 (per := per) (rate := rate) (steps := steps) (keep := keep) (w := w) hlv hK a2 x2 d2 (a1 ++ [a]) (x1 ++ [x]) (d1 ++ [d]) k hf' (by simp; omega) (by simp; omega) (by simp; omega)
    rw [show (d1 ++ [d]).length = d1.length + 1 by simp, show (a1 ++ [a]) ++ a2 = a1 ++ a :: a2 by simp, show (x1 ++ [x]) ++ x2 = x1 ++ x :: x2 by simp, show (d1 ++ [d]) ++ d2 = d1 ++ d :: d2 by simp, show ((d1.length + 1 : Nat) : Int) = (d1.length : Int) + 1 by omega] at ih
    have gd : List.getD (d1 ++ d :: d2) d1.length 0 = d := by simp [List.getD_eq_getElem?_getD]
    have gx : List.getD (x1 ++ x :: x2) d1.length 0 = x := by rw [← h2]; simp [List.getD_eq_getElem?_getD]
    have ga : List.getD (a1 ++ a :: a2) d1.length 0 = a := by rw [← h2, ← h1]; simp [List.getD_eq_getElem?_getD]
    have ld : d1.length < (d1 ++ d :: d2).length := by simp
    have lx : d1.length < (x1 ++ x :: x2).length := by simp; omega
    have la : d1.length < (a1 ++ a :: a2).length := by simp; omega
    have ld' : (0 : Int) ≤ (d1.length : Int) ∧ (d1.length : Int) < ((d1 ++ d :: d2).length : Int) := by omega
    have lx' : (0 : Int) ≤ (d1.length : Int) ∧ (d1.length : Int) < ((x1 ++ x :: x2).length : Int) := by omega
    have la' : (0 : Int) ≤ (d1.length : Int) ∧ (d1.length : Int) < ((a1 ++ a :: a2).length : Int) := by omega
    have wd : IntKind.wrap IntKind.i64 d = d := wi (by omega) (by omega)
    have wa : IntKind.wrap IntKind.i64 a = a := wi (by omega) (by omega)
    have w1 : IntKind.wrap IntKind.i64 ((d1.length : Int) + 1) = (d1.length : Int) + 1 := wi (by omega) (by omega)
    rw [show k + (d :: d2).length + 1 = (k + d2.length + 1) + 1 by simp; omega, L5_17]
    simp only [Int.toNat_natCast, gd, gx, ga, wd, wa, w1]
    rw [if_pos (show decide ((d1.length : Int) < ((d1 ++ d :: d2).length : Int)) = true by simp only [decide_eq_true_eq]; omega)]
    simp only [if_pos ld, if_pos lx, if_pos la, if_pos ld', if_pos lx', if_pos la']
    rcases hd with ⟨rfl, ha⟩ | ⟨rfl, rfl⟩
    · have n1 : ¬ d = lv := by omega
      have n2 : ¬ a = lv := by omega
      simp [n1, n2, ih]
    · have n1 : ¬ a = x := by omega
      simp [n1, ih]
end Go.Eng.Pu

/- ApartBytes, Stays, R.Cut. No condition. -/
set_option linter.unusedVariables false
namespace Go.Eng.Pu
open Go Go.Eng Go.Proofs
theorem inN {i n : Nat} (h : i < n) : (0 : Int) ≤ (i : Int) ∧ (i : Int) < (n : Int) := by omega
theorem bind_of {α β : Type} {o : Option α} {v : α} {f : α → Option β} {r : Option β} (h : o = some v) (h2 : f v = r) : Option.bind o f = r := by rw [h]; exact h2
theorem add1 {i : Nat} (hi : i < 4611686018427387904) : IntKind.wrap IntKind.i64 ((i : Int) + (1 : Int)) = ((i + 1 : Nat) : Int) := by
  rw [wi (by omega) (by omega)]; omega
theorem dlt {i n : Nat} (h : i < n) : decide ((i : Int) < (n : Int)) = true := by rw [decide_eq_true_eq]; omega
theorem ndlt {i n : Nat} (h : n ≤ i) : ¬ decide ((i : Int) < (n : Int)) = true := by rw [decide_eq_true_eq]; omega
theorem nd_t {p : Prop} [Decidable p] (h : p) : ¬ (!decide p) = true := by rw [decide_eq_true h]; decide
def mk (i j : Int) : Int := IntKind.wrap IntKind.u8 (IntKind.wrap IntKind.i64 (IntKind.wrap IntKind.i64 (IntKind.wrap IntKind.i64 ((31 : Int) * i) + IntKind.wrap IntKind.i64 ((7 : Int) * j)) + (1 : Int)))
theorem getD_set {l : List Int} {i j : Nat} {v : Int} (hi : i < l.length) : (l.set i v).getD j 0 = if j = i then v else l.getD j 0 := by
  simp only [List.getD_eq_getElem?_getD, List.getElem?_set]
  by_cases h : j = i
  · subst h; rw [if_pos rfl, if_pos hi, if_pos rfl]; rfl
  · rw [if_neg (Ne.symm h), if_neg h]
/-- A row that is written from j on, up to m. -/
def Wr (i : Int) (m j : Nat) (l l' : List Int) : Prop := l'.length = l.length ∧ ∀ t, t < m → (j ≤ t → l'.getD t 0 = mk i (t : Int)) ∧ (t < j → l'.getD t 0 = l.getD t 0)
theorem Wr.step {i : Int} {m j : Nat} {l l' : List Int} (hj : j < m) (hm : m ≤ l.length) (h : Wr i m (j + 1) (l.set j (mk i (j : Int))) l') : Wr i m j l l' := by
  refine ⟨by rw [h.1, List.length_set], fun t ht => ⟨fun h1 => ?_, fun h1 => ?_⟩⟩
  · by_cases e : t = j
    · subst e
      rw [(h.2 t ht).2 (Nat.lt_succ_self _), getD_set (by omega), if_pos rfl]
    · exact (h.2 t ht).1 (by omega)
  · rw [(h.2 t ht).2 (by omega), getD_set (by omega), if_neg (by omega)]
section
variable {n : Nat}
theorem w5_0 {B G : List Int} : ∀ (d j : Nat) (A : List Int) (k : Nat), j + d = A.length → A.length ≤ 1000000000000000 → ∃ A', Wr 0 A.length j A A' ∧ L18_5 (k + d + 1) ((0, 3), 0, (j : Int), ()) (((), (), (0, n), ()), A, B, G, ()) = L18_2 k ((0, 3), 1, ()) (((), (), (0, n), ()), A', B, G, ())
  | 0, j, A, k, hj, hL => by
    refine ⟨A, ⟨rfl, fun t ht => ⟨fun h => by omega, fun _ => rfl⟩⟩, ?_⟩
    rw [L18_5]
    refine (if_pos ⟨rfl, by decide, by decide⟩).trans ((if_pos rfl).trans ((if_neg (ndlt (show A.length ≤ j by omega))).trans ?_))
    rfl
  | d + 1, j, A, k, hj, hL => by
    have h : j < A.length := by omega
    have hw : IntKind.wrap IntKind.i64 ((j : Int) + (1 : Int)) = ((j + 1 : Nat) : Int) := add1 (by omega)
    obtain ⟨A', h1, h2⟩ := w5_0 d (j + 1) (A.set j (mk 0 (j : Int))) k (by rw [List.length_set]; omega) (by rw [List.length_set]; omega)
    refine ⟨A', Wr.step h (Nat.le_refl _) (by rw [List.length_set] at h1; exact h1), ?_⟩
    rw [← h2, show k + (d + 1) + 1 = (k + d + 1) + 1 by omega, L18_5]
    refine (if_pos ⟨rfl, by decide, by decide⟩).trans ((if_pos rfl).trans ((if_pos (dlt h)).trans ((if_pos ⟨rfl, by decide, by decide⟩).trans ((if_pos rfl).trans (?_)))))
    refine bind_of (v := (mk 0 (j : Int), ())) rfl ((if_pos (inN h)).trans ((if_pos h).trans ?_))
    rw [hw]; rfl
theorem w5_1 {A G : List Int} : ∀ (d j : Nat) (B : List Int) (k : Nat), j + d = B.length → B.length ≤ 1000000000000000 → ∃ B', Wr 1 B.length j B B' ∧ L18_5 (k + d + 1) ((0, 3), 1, (j : Int), ()) (((), (), (0, n), ()), A, B, G, ()) = L18_2 k ((0, 3), 2, ()) (((), (), (0, n), ()), A, B', G, ())
  | 0, j, B, k, hj, hL => by
    refine ⟨B, ⟨rfl, fun t ht => ⟨fun h => by omega, fun _ => rfl⟩⟩, ?_⟩
    rw [L18_5]
    refine (if_pos ⟨rfl, by decide, by decide⟩).trans ((if_neg (by decide)).trans ((if_pos rfl).trans ((if_neg (ndlt (show B.length ≤ j by omega))).trans ?_)))
    rfl
  | d + 1, j, B, k, hj, hL => by
    have h : j < B.length := by omega
    have hw : IntKind.wrap IntKind.i64 ((j : Int) + (1 : Int)) = ((j + 1 : Nat) : Int) := add1 (by omega)
    obtain ⟨B', h1, h2⟩ := w5_1 d (j + 1) (B.set j (mk 1 (j : Int))) k (by rw [List.length_set]; omega) (by rw [List.length_set]; omega)
    refine ⟨B', Wr.step h (Nat.le_refl _) (by rw [List.length_set] at h1; exact h1), ?_⟩
    rw [← h2, show k + (d + 1) + 1 = (k + d + 1) + 1 by omega, L18_5]
    refine (if_pos ⟨rfl, by decide, by decide⟩).trans ((if_neg (by decide)).trans ((if_pos rfl).trans ((if_pos (dlt h)).trans ((if_pos ⟨rfl, by decide, by decide⟩).trans ((if_neg (by decide)).trans ((if_pos rfl).trans (?_)))))))
    refine bind_of (v := (mk 1 (j : Int), ())) rfl ((if_pos (inN h)).trans ((if_pos h).trans ?_))
    rw [hw]; rfl
theorem w5_2 {A B : List Int} : ∀ (d j : Nat) (G : List Int) (k : Nat) (hn : n ≤ G.length), j + d = n → n ≤ 1000000000000000 → ∃ G', Wr 2 n j G G' ∧ L18_5 (k + d + 1) ((0, 3), 2, (j : Int), ()) (((), (), (0, n), ()), A, B, G, ()) = L18_2 k ((0, 3), 3, ()) (((), (), (0, n), ()), A, B, G', ())
  | 0, j, G, k, hn, hj, hL => by
    refine ⟨G, ⟨rfl, fun t ht => ⟨fun h => by omega, fun _ => rfl⟩⟩, ?_⟩
    rw [L18_5]
    refine (if_pos ⟨rfl, by decide, by decide⟩).trans ((if_neg (by decide)).trans ((if_neg (by decide)).trans ((if_pos rfl).trans ((if_neg (ndlt (show n ≤ j by omega))).trans ?_))))
    rfl
  | d + 1, j, G, k, hn, hj, hL => by
    have h : j < n := by omega
    have hw : IntKind.wrap IntKind.i64 ((j : Int) + (1 : Int)) = ((j + 1 : Nat) : Int) := add1 (by omega)
    obtain ⟨G', h1, h2⟩ := w5_2 d (j + 1) (G.set j (mk 2 (j : Int))) k (by rw [List.length_set]; exact hn) (by omega) (by omega)
    refine ⟨G', Wr.step h hn h1, ?_⟩
    rw [← h2, show k + (d + 1) + 1 = (k + d + 1) + 1 by omega, L18_5]
    refine (if_pos ⟨rfl, by decide, by decide⟩).trans ((if_neg (by decide)).trans ((if_neg (by decide)).trans ((if_pos rfl).trans ((if_pos (dlt h)).trans ((if_pos ⟨rfl, by decide, by decide⟩).trans ((if_neg (by decide)).trans ((if_neg (by decide)).trans ((if_pos rfl).trans (?_)))))))))
    refine bind_of (v := (mk 2 (j : Int), ())) rfl ((if_pos (inN h)).trans ((if_pos (show 0 + j < G.length by omega)).trans ?_))
    rw [hw]
    show L18_5 _ _ (((), (), (0, n), ()), A, B, List.set G (0 + j) (mk 2 (j : Int)), ()) = _
    rw [Nat.zero_add]
theorem r20_0 {A B G : List Int} (hr : ∀ t, t < A.length → A.getD t 0 = mk 0 (t : Int)) (hL : A.length ≤ 1000000000000000) : ∀ (d j k : Nat), j + d = A.length → L18_20 (k + d + 1) ((0, 3), 0, (j : Int), ()) (((), (), (0, n), ()), A, B, G, ()) = L18_17 k ((0, 3), 1, ()) (((), (), (0, n), ()), A, B, G, ())
  | 0, j, k, hj => by
    rw [L18_20]
    refine (if_pos ⟨rfl, by decide, by decide⟩).trans ((if_pos rfl).trans ((if_neg (ndlt (show A.length ≤ j by omega))).trans ?_))
    rfl
  | d + 1, j, k, hj => by
    have h : j < A.length := by omega
    have hw : IntKind.wrap IntKind.i64 ((j : Int) + (1 : Int)) = ((j + 1 : Nat) : Int) := add1 (by omega)
    have h2 := r20_0 (A := A) (B := B) (G := G) hr hL d (j + 1) k (by omega)
    rw [← h2, show k + (d + 1) + 1 = (k + d + 1) + 1 by omega, L18_20]
    refine (if_pos ⟨rfl, by decide, by decide⟩).trans ((if_pos rfl).trans ((if_pos (dlt h)).trans ((if_pos ⟨rfl, by decide, by decide⟩).trans ((if_pos rfl).trans ((if_pos (inN h)).trans ((if_pos h).trans ?_))))))
    refine bind_of (v := (mk 0 (j : Int), ())) rfl ((if_neg (nd_t ?_)).trans ?_)
    · exact hr j h
    · rw [hw]
theorem r20_1 {A B G : List Int} (hr : ∀ t, t < B.length → B.getD t 0 = mk 1 (t : Int)) (hL : B.length ≤ 1000000000000000) : ∀ (d j k : Nat), j + d = B.length → L18_20 (k + d + 1) ((0, 3), 1, (j : Int), ()) (((), (), (0, n), ()), A, B, G, ()) = L18_17 k ((0, 3), 2, ()) (((), (), (0, n), ()), A, B, G, ())
  | 0, j, k, hj => by
    rw [L18_20]
    refine (if_pos ⟨rfl, by decide, by decide⟩).trans ((if_neg (by decide)).trans ((if_pos rfl).trans ((if_neg (ndlt (show B.length ≤ j by omega))).trans ?_)))
    rfl
  | d + 1, j, k, hj => by
    have h : j < B.length := by omega
    have hw : IntKind.wrap IntKind.i64 ((j : Int) + (1 : Int)) = ((j + 1 : Nat) : Int) := add1 (by omega)
    have h2 := r20_1 (A := A) (B := B) (G := G) hr hL d (j + 1) k (by omega)
    rw [← h2, show k + (d + 1) + 1 = (k + d + 1) + 1 by omega, L18_20]
    refine (if_pos ⟨rfl, by decide, by decide⟩).trans ((if_neg (by decide)).trans ((if_pos rfl).trans ((if_pos (dlt h)).trans ((if_pos ⟨rfl, by decide, by decide⟩).trans ((if_neg (by decide)).trans ((if_pos rfl).trans ((if_pos (inN h)).trans ((if_pos h).trans ?_))))))))
    refine bind_of (v := (mk 1 (j : Int), ())) rfl ((if_neg (nd_t ?_)).trans ?_)
    · exact hr j h
    · rw [hw]
theorem r20_2 {A B G : List Int} (hr : ∀ t, t < n → G.getD t 0 = mk 2 (t : Int)) (hn : n ≤ G.length) (hL : n ≤ 1000000000000000) : ∀ (d j k : Nat), j + d = n → L18_20 (k + d + 1) ((0, 3), 2, (j : Int), ()) (((), (), (0, n), ()), A, B, G, ()) = L18_17 k ((0, 3), 3, ()) (((), (), (0, n), ()), A, B, G, ())
  | 0, j, k, hj => by
    rw [L18_20]
    refine (if_pos ⟨rfl, by decide, by decide⟩).trans ((if_neg (by decide)).trans ((if_neg (by decide)).trans ((if_pos rfl).trans ((if_neg (ndlt (show n ≤ j by omega))).trans ?_))))
    rfl
  | d + 1, j, k, hj => by
    have h : j < n := by omega
    have hw : IntKind.wrap IntKind.i64 ((j : Int) + (1 : Int)) = ((j + 1 : Nat) : Int) := add1 (by omega)
    have h2 := r20_2 (A := A) (B := B) (G := G) hr hn hL d (j + 1) k (by omega)
    rw [← h2, show k + (d + 1) + 1 = (k + d + 1) + 1 by omega, L18_20]
    refine (if_pos ⟨rfl, by decide, by decide⟩).trans ((if_neg (by decide)).trans ((if_neg (by decide)).trans ((if_pos rfl).trans ((if_pos (dlt h)).trans ((if_pos ⟨rfl, by decide, by decide⟩).trans ((if_neg (by decide)).trans ((if_neg (by decide)).trans ((if_pos rfl).trans ((if_pos (inN h)).trans ((if_pos (show 0 + j < G.length by omega)).trans ?_))))))))))
    refine bind_of (v := (mk 2 (j : Int), ())) rfl ((if_neg (nd_t ?_)).trans ?_)
    · show G.getD (0 + j) 0 = _
      rw [Nat.zero_add]; exact hr j h
    · rw [hw]
theorem end17 {A B G : List Int} (k : Nat) : L18_17 (k + 1) ((0, 3), 3, ()) (((), (), (0, n), ()), A, B, G, ()) = some (true, ((), (), (0, n), ()), A, B, G, ()) := by
  rw [L18_17]; exact if_neg (by decide)
theorem at17 {A B G : List Int} (k : Nat) {i : Int} (h : i < 3) : L18_17 (k + 1) ((0, 3), i, ()) (((), (), (0, n), ()), A, B, G, ()) = L18_20 k ((0, 3), i, 0, ()) (((), (), (0, n), ()), A, B, G, ()) := by
  rw [L18_17]; exact if_pos (decide_eq_true h)
theorem at2 {A B G : List Int} (k : Nat) {i : Int} (h : i < 3) : L18_2 (k + 1) ((0, 3), i, ()) (((), (), (0, n), ()), A, B, G, ()) = L18_5 k ((0, 3), i, 0, ()) (((), (), (0, n), ()), A, B, G, ()) := by
  rw [L18_2]; exact if_pos (decide_eq_true h)
theorem end2 {A B G : List Int} (k : Nat) : L18_2 (k + 1) ((0, 3), 3, ()) (((), (), (0, n), ()), A, B, G, ()) = L18_9 k ((0, 3), 0, ()) (((), (), (0, n), ()), A, B, G, ()) := by
  rw [L18_2]; exact if_neg (by decide)
/-- What is grown leaves the lists as they were. -/
theorem mid9 {A B G : List Int} (k : Nat) (hA : A.length ≤ 140737488351232) (hB : B.length ≤ 140737488351232) (hn : n ≤ 140737488351232) (hG : n ≤ G.length) : ∃ G', n ≤ G'.length ∧ (∀ t, t < n → G'.getD t 0 = G.getD t 0) ∧
    L18_9 (k + 4) ((0, 3), 0, ()) (((), (), (0, n), ()), A, B, G, ()) = L18_17 k ((0, 3), 0, ()) (((), (), (0, n), ()), A, B, G', ()) := by
  refine ⟨List.take (0 + n) G ++ (List.replicate (min 40 (G.length - (0 + n))) (254 : Int) ++ List.drop (0 + n + 40) G), ?_, ?_, ?_⟩
  rotate_right
  · rw [L18_9]
    refine (if_pos (by decide)).trans ((if_pos ⟨rfl, by decide, by decide⟩).trans ((if_pos rfl).trans ((if_pos (by omega)).trans ?_)))
    rw [w1, L18_9]
    refine (if_pos (by decide)).trans ((if_pos ⟨rfl, by decide, by decide⟩).trans ((if_neg (by decide)).trans ((if_pos rfl).trans ((if_pos (by omega)).trans ?_))))
    rw [w2, L18_9]
    refine (if_pos (by decide)).trans ((if_pos ⟨rfl, by decide, by decide⟩).trans ((if_neg (by decide)).trans ((if_neg (by decide)).trans ((if_pos rfl).trans ((if_pos (by omega)).trans ?_)))))
    rw [w3, L18_9]
    exact if_neg (by decide)
  · rw [Nat.zero_add, List.length_append, List.length_take]; omega
  · intro t ht
    rw [Nat.zero_add, List.getD_eq_getElem?_getD, List.getElem?_append_left (by rw [List.length_take]; omega), List.getElem?_take, if_pos ht, ← List.getD_eq_getElem?_getD]
/-- No two lists share anything. -/
theorem apart_ok {A B G : List Int} (hA : A.length ≤ 140737488351232) (hB : B.length ≤ 140737488351232) (hn : n ≤ 140737488351232) (hG : n ≤ G.length) : ∃ K, ∀ k, K ≤ k → ∃ A' B' G', F18 k ((0, 3), ()) (((), (), (0, n), ()), A, B, G, ()) = some (true, ((), (), (0, n), ()), A', B', G', ()) := by
  refine ⟨2 * (A.length + B.length + n) + 30, fun k hk => ?_⟩
  obtain ⟨c, rfl⟩ : ∃ c, k = c + 1 + n + 1 + 1 + B.length + 1 + 1 + A.length + 1 + 1 + 4 + 1 + n + 1 + 1 + B.length + 1 + 1 + A.length + 1 + 1 := ⟨k - (2 * (A.length + B.length + n) + 18), by omega⟩
  obtain ⟨A', a1, a2⟩ := w5_0 (B := B) (G := G) (n := n) A.length 0 A (c + 1 + n + 1 + 1 + B.length + 1 + 1 + A.length + 1 + 1 + 4 + 1 + n + 1 + 1 + B.length + 1 + 1) (by omega) (by omega)
  obtain ⟨B', b1, b2⟩ := w5_1 (A := A') (G := G) (n := n) B.length 0 B (c + 1 + n + 1 + 1 + B.length + 1 + 1 + A.length + 1 + 1 + 4 + 1 + n + 1 + 1) (by omega) (by omega)
  obtain ⟨G', g1, g2⟩ := w5_2 (A := A') (B := B') (n := n) n 0 G (c + 1 + n + 1 + 1 + B.length + 1 + 1 + A.length + 1 + 1 + 4 + 1) hG (by omega) (by omega)
  obtain ⟨G2, z1, z2, z3⟩ := mid9 (n := n) (A := A') (B := B') (G := G') (c + 1 + n + 1 + 1 + B.length + 1 + 1 + A.length + 1 + 1) (by rw [a1.1]; exact hA) (by rw [b1.1]; exact hB) hn (by rw [g1.1]; exact hG)
  have ra := r20_0 (n := n) (A := A') (B := B') (G := G2) (fun t ht => (a1.2 t (by rw [a1.1] at ht; exact ht)).1 (Nat.zero_le _)) (by rw [a1.1]; omega) A'.length 0 (c + 1 + n + 1 + 1 + B.length + 1 + 1) (by omega)
  have rb := r20_1 (n := n) (A := A') (B := B') (G := G2) (fun t ht => (b1.2 t (by rw [b1.1] at ht; exact ht)).1 (Nat.zero_le _)) (by rw [b1.1]; omega) B'.length 0 (c + 1 + n + 1 + 1) (by omega)
  have rg := r20_2 (n := n) (A := A') (B := B') (G := G2) (fun t ht => by rw [z2 t ht]; exact (g1.2 t ht).1 (Nat.zero_le _)) z1 (by omega) n 0 (c + 1) (by omega)
  rw [a1.1] at ra
  rw [b1.1] at rb
  refine ⟨A', B', G2, ?_⟩
  show L18_2 _ ((0, 3), 0, ()) _ = _
  rw [at2 _ (by decide)]
  refine a2.trans ?_
  rw [at2 _ (by decide)]
  refine b2.trans ?_
  rw [at2 _ (by decide)]
  refine g2.trans ?_
  refine (end2 _).trans ?_
  refine z3.trans ?_
  rw [at17 _ (by decide)]
  refine ra.trans ?_
  rw [at17 _ (by decide)]
  refine rb.trans ?_
  rw [at17 _ (by decide)]
  refine rg.trans ?_
  exact end17 _
end
end Go.Eng.Pu

/- PunctureCuts, plain. No condition. -/
set_option linter.unusedVariables false
namespace Go.Eng.Pu
open Go Go.Eng Go.Proofs
theorem marks_at : ∀ i : Nat, i < 8 → (marks 0 8).getD i 0 = 200 + (i : Int) := by decide
theorem marks_len : (marks 0 8).length = 8 := rfl
theorem lent_at {w : List Int} {i : Nat} (hi : i < 8) : (w ++ marks 0 8).getD (w.length + i) 0 = 200 + (i : Int) := by
  rw [← marks_at i hi, List.getD_eq_getElem?_getD, List.getD_eq_getElem?_getD, List.getElem?_append_right (by omega)]
  congr 2; omega
theorem stays_loop {w : List Int} (hw : w.length ≤ 140737488351232) : ∀ (d i k : Nat), i + d = 8 → L17_3 (k + d + 1) (w, (0, w.length + 8), (i : Int), ()) (w ++ marks 0 8, ()) = some (true, w ++ marks 0 8, ())
  | 0, i, k, hi => by
    have hlen : (w ++ marks 0 8).length = w.length + 8 := by rw [List.length_append, marks_len]
    rw [L17_3]
    refine (if_neg (fun h => absurd (of_decide_eq_true h) (show ¬ ((i : Int) < 8) by omega))).trans ((if_pos (by rw [hlen]; omega)).trans ((if_pos (by rw [hlen]; omega)).trans ?_))
    have e : List.take (Int.toNat (w.length : Int) - 0) (List.drop (0 + 0) (w ++ marks 0 8)) = w := by
      show List.take w.length (w ++ marks 0 8) = w
      rw [List.take_left' rfl]
    rw [e]
    refine (if_pos (by omega)).trans ((if_pos (by omega)).trans ?_)
    rw [decide_eq_true rfl]
  | d + 1, i, k, hi => by
    have hlen : (w ++ marks 0 8).length = w.length + 8 := by rw [List.length_append, marks_len]
    have h1 : IntKind.wrap IntKind.i64 ((w.length : Int) + (i : Int)) = ((w.length + i : Nat) : Int) := by rw [wi (by omega) (by omega)]; omega
    have h2 : IntKind.wrap IntKind.i64 ((i : Int) + (1 : Int)) = ((i + 1 : Nat) : Int) := add1 (by omega)
    have h3 : IntKind.wrap IntKind.u8 (IntKind.wrap IntKind.i64 ((200 : Int) + (i : Int))) = 200 + (i : Int) := by rw [wi (by omega) (by omega), wu8 (by omega) (by omega)]
    rw [show k + (d + 1) + 1 = (k + d + 1) + 1 by omega, L17_3, h1, h2, h3]
    refine (if_pos (decide_eq_true (show (i : Int) < 8 by omega))).trans ((if_pos (by omega)).trans ((if_pos (by rw [hlen]; show 0 + (w.length + i) < _; omega)).trans ((if_neg (nd_t ?_)).trans ?_)))
    · show (w ++ marks 0 8).getD (0 + (w.length + i)) 0 = _
      rw [Nat.zero_add]; exact lent_at (by omega)
    · exact stays_loop hw d (i + 1) k (by omega)
theorem stays_ok {w : List Int} (hw : w.length ≤ 140737488351232) (k : Nat) : F17 (k + 9) ((0, w.length), w, ()) (w ++ marks 0 8, ()) = some (true, w ++ marks 0 8, ()) := by
  have hlen : (w ++ marks 0 8).length = w.length + 8 := by rw [List.length_append, marks_len]
  have h1 : IntKind.wrap IntKind.i64 ((w.length : Int) + (8 : Int)) = ((w.length + 8 : Nat) : Int) := by rw [wi (by omega) (by omega)]; omega
  simp only [F17]
  rw [h1]
  refine (if_pos (by rw [hlen]; omega)).trans ((if_pos (by rw [hlen]; omega)).trans ?_)
  exact stays_loop hw 8 0 k rfl
theorem keep42' {per : Int} {keep : List Int} (h : Pat per keep) {r k : Nat} (hr0 : 0 < r) (hr : r ≤ 3) (hk : k ≤ 9223372036854775807) : F42 ((per, keep, ()), Int.tmod (k : Int) (r : Int), IntKind.wrap IntKind.i64 (Int.tdiv (k : Int) (r : Int)), ()) () = some (kat per keep r k, ()) := by
  have h1 := Nat.mod_lt k hr0
  have h2 := Nat.div_le_self k r
  rw [tdiv_nat, tmod_nat]
  unfold kat
  generalize k / r = q at *
  generalize k % r = m at *
  rw [wi (by omega) (by omega)]
  exact keep42 h (by omega) (by omega) (by omega)
theorem loop14 {per : Int} {keep : List Int} (h : Pat per keep) {r : Nat} (hr0 : 0 < r) (hr : r ≤ 3) {K : Nat} : ∀ (l2 l1 acc : List Int) (k : Nat) (_ : acc.length ≤ l1.length) (_ : l1.length + l2.length ≤ 140737488355328),
    L14_8 K (k + l2.length + 1) ((r : Int), l1 ++ l2, (), (), (l1.length : Int), ()) ((per, keep, ()), acc, ()) = some (((), 0, ()), acc ++ picks per keep r l2 l1.length, ()) := by
  intro l2
  induction l2 with
  | nil =>
    intro l1 acc k ha hl
    rw [L14_8, if_neg (by simp)]; simp [picks]
  | cons x l2 ih =>
    intro l1 acc k ha hl
    simp only [List.length_cons] at hl
    have ih' := ih (l1 ++ [x])
    rw [show (l1 ++ [x]) ++ l2 = l1 ++ x :: l2 by simp, show ((l1 ++ [x]).length : Int) = (l1.length : Int) + 1 by simp, show (l1 ++ [x]).length = l1.length + 1 by simp] at ih'
    rw [show k + (x :: l2).length + 1 = (k + l2.length + 1) + 1 by simp; omega, L14_8]
    have e1 : IntKind.wrap IntKind.i64 ((l1.length : Int) + 1) = (l1.length : Int) + 1 := wi (by omega) (by omega)
    have hr' : ¬ (r : Int) = 0 := by omega
    rw [if_pos (show decide ((l1.length : Int) < ((l1 ++ x :: l2).length : Int)) = true by simp; omega), if_neg hr', if_neg hr', keep42' h hr0 hr (by omega), e1]
    simp only [Option.bind_some]
    split
    · rename_i hk
      rw [if_pos (show (0 : Int) ≤ (l1.length : Int) ∧ (l1.length : Int) < ((l1 ++ x :: l2).length : Int) by simp; omega), if_pos (show (acc.length + 1) * 1 ≤ 140737488355328 by omega), ih' _ _ (by simp; omega) (by omega)]
      simp [picks, hk]
    · rename_i hk
      rw [ih' _ _ (by omega) (by omega)]
      simp [picks, hk]
theorem picks_le (per : Int) (keep : List Int) (r : Nat) : ∀ (l : List Int) (k : Nat), (picks per keep r l k).length ≤ l.length
  | [], k => Nat.le_refl _
  | x :: l, k => by
    have := picks_le per keep r l (k + 1)
    simp only [picks, List.length_append, List.length_cons]
    split <;> simp <;> omega
/-- What both cuts come to. -/
theorem cut2_ok {per x y z rate : Int} (hx : 0 ≤ x ∧ x < 18446744073709551616) (hy : 0 ≤ y ∧ y < 18446744073709551616) (hz : 0 ≤ z ∧ z < 18446744073709551616) {l : List Int} (hl : l.length ≤ 140737488351232) :
    ∃ (e : Int) (c : List Int) (K : Nat), c.length ≤ l.length ∧ ∀ k, K ≤ k → F13 k ((per, [x, y, z], ()), rate, l, ()) () = some (((), e, ()), c, ()) ∧ F14 k ((per, [x, y, z], ()), rate, l, ()) () = some (((), e, ()), c, ()) := by
  have e28 := fun (k : Nat) (hk : 10 ≤ k) => by have := chk28 (per := per) (rate := rate) hx hy hz (k - 6); rwa [show k - 6 + 6 = k by omega] at this
  have e29 := fun (k : Nat) (hk : 10 ≤ k) => by have := chk29 (per := per) (rate := rate) hx hy hz (k - 5); rwa [show k - 5 + 5 = k by omega] at this
  by_cases hc : chk per x y z rate = 0
  · obtain ⟨hp, hr⟩ := chk_pat hx hy hz hc
    obtain ⟨r, rfl, hr0, hr3⟩ := rate_cases hr
    have hr' : ¬ (r : Int) = 0 := by omega
    by_cases hd : l.length % r = 0
    · obtain ⟨K, h13⟩ := cut_ok hx hy hz hr0 hr3 hc (l := l) (by omega) hd
      refine ⟨0, picks per [x, y, z] r l 0, K + l.length + 10, picks_le _ _ _ _ _, fun k hk => ⟨h13 k (by omega), ?_⟩⟩
      simp only [F14]
      rw [e29 k (by omega), hc]
      simp only [Option.bind_some, decide_true, if_true, Bool.not_true, Bool.false_eq_true, if_false]
      rw [if_neg hr', tmod_nat, hd]
      have := loop14 hp hr0 hr3 (K := k) l [] [] (k - l.length - 1) (Nat.le_refl _) (by simp; omega)
      rw [show k - l.length - 1 + l.length + 1 = k by omega] at this
      simpa using this
    · refine ⟨5, [], 10, Nat.zero_le _, fun k hk => ?_⟩
      have hd' : ¬ ((l.length % r : Nat) : Int) = 0 := by omega
      constructor
      · simp only [F13]
        rw [e28 k hk, hc]
        simp only [Option.bind_some, decide_true, Bool.not_true, Bool.false_eq_true, if_false]
        rw [if_neg hr', tmod_nat]
        exact if_pos (by rw [decide_eq_false hd']; rfl)
      · simp only [F14]
        rw [e29 k hk, hc]
        simp only [Option.bind_some, decide_true, if_true, Bool.not_true, Bool.false_eq_true, if_false]
        rw [if_neg hr', tmod_nat]
        exact if_pos (by rw [decide_eq_false hd']; rfl)
  · refine ⟨chk per x y z rate, [], 10, Nat.zero_le _, fun k hk => ?_⟩
    constructor
    · simp only [F13]
      rw [e28 k hk]
      simp [hc]
    · simp only [F14]
      rw [e29 k hk]
      simp [hc]
theorem cuts {per x y z rate : Int} (hx : 0 ≤ x ∧ x < 18446744073709551616) (hy : 0 ≤ y ∧ y < 18446744073709551616) (hz : 0 ≤ z ∧ z < 18446744073709551616) {l : List Int} (hl : l.length ≤ 140737488351232) :
    ∃ k, F3 k ((per, [x, y, z], ()), rate, l, ()) () = some (true, ()) := by
  obtain ⟨e, c, K1, hcl, h1⟩ := cut2_ok (per := per) (rate := rate) hx hy hz hl
  have hlen : (l ++ marks 0 8).length = l.length + 8 := by rw [List.length_append, marks_len]
  obtain ⟨K2, h2⟩ := apart_ok (n := l.length) (A := c) (B := c) (G := l ++ marks 0 8) (by omega) (by omega) (by omega) (by omega)
  refine ⟨K1 + K2 + 40, ?_⟩
  obtain ⟨A', B', G', h18⟩ := h2 (K1 + K2 + 40) (by omega)
  obtain ⟨h13, h14⟩ := h1 (K1 + K2 + 40) (by omega)
  have h12 := lent_ok hl (K1 + K2 + 31)
  have h17 := stays_ok hl (K1 + K2 + 31)
  have h19 := live_ok (K1 + K2 + 10)
  rw [show K1 + K2 + 31 + 9 = K1 + K2 + 40 by omega] at h12 h17
  rw [show K1 + K2 + 10 + 30 = K1 + K2 + 40 by omega] at h19
  generalize K1 + K2 + 40 = k at *
  have et : List.take l.length (List.drop 0 (l ++ marks 0 8)) = l := by rw [List.drop_zero, List.take_left' rfl]
  have h16 : F16 (c, c, ()) () = some (true, ()) := by
    simp only [F16]
    rw [if_pos (by omega), if_pos (by omega), decide_true]
  simp only [F3]
  have h13' : F13 k ((per, [x, y, z], ()), rate, List.take l.length (List.drop 0 (l ++ marks 0 8)), ()) () = some (((), e, ()), c, ()) := by rw [et]; exact h13
  refine bind_of h12 ?_
  refine bind_of h13' ?_
  refine bind_of h13' ?_
  refine bind_of h14 ?_
  refine bind_of (v := (e, ())) rfl ?_
  refine (if_pos (decide_eq_true rfl)).trans ?_
  refine bind_of h16 ?_
  refine (if_pos rfl).trans ?_
  refine bind_of h16 ?_
  refine (if_pos rfl).trans ?_
  refine bind_of h17 ?_
  refine (if_pos rfl).trans ?_
  refine bind_of h18 ?_
  refine (if_pos rfl).trans ?_
  exact bind_of h19 rfl
end Go.Eng.Pu

/- PunctureFills, plain. No condition. -/
set_option linter.unusedVariables false
namespace Go.Eng.Pu
open Go Go.Eng Go.Proofs
theorem loop16 {per : Int} {keep : List Int} (h : Pat per keep) {r S : Nat} (hr0 : 0 < r) (hr : r ≤ 3) (hS : S ≤ 1055) {lv : Int} (l0 : 0 ≤ lv) (l1 : lv ≤ 255) {K : Nat} : ∀ (n k0 : Nat) (acc w1 w2 : List Int) (kk : Nat) (_ : k0 + n = r * S) (_ : acc.length = k0) (_ : w1.length + w2.length ≤ 1000000) (_ : cntF per keep r (k0 + n) = cntF per keep r k0 + w2.length),
    L21_16 K (kk + n + 1) ((r : Int), lv, (S : Int), w1 ++ w2, (), (), (w1.length : Int), (k0 : Int), ()) ((per, keep, ()), acc, ()) = some (((), 0, ()), acc ++ fills per keep r lv n k0 w2, ()) := by
  have hrS : r * S ≤ 3165 := by have := Nat.mul_le_mul hr hS; omega
  have e0 : IntKind.wrap IntKind.i64 ((r : Int) * (S : Int)) = ((r * S : Nat) : Int) := by rw [← Int.natCast_mul]; exact wi (by omega) (by omega)
  intro n
  induction n with
  | zero =>
    intro k0 acc w1 w2 kk hp ha hw hcn
    rw [L21_16, e0]
    refine (if_neg (ndlt (by omega))).trans ?_
    simp [fills]
  | succ n ih =>
    intro k0 acc w1 w2 kk hp ha hw hcn
    have hr' : ¬ (r : Int) = 0 := by omega
    have e1 : IntKind.wrap IntKind.i64 ((k0 : Int) + (1 : Int)) = ((k0 + 1 : Nat) : Int) := add1 (by omega)
    have e2 : IntKind.wrap IntKind.i64 ((w1.length : Int) + (1 : Int)) = ((w1.length + 1 : Nat) : Int) := add1 (by omega)
    rw [show kk + (n + 1) + 1 = (kk + n + 1) + 1 by omega, L21_16, e0, e1, e2, wu8 l0 l1]
    rw [show k0 + (n + 1) = (k0 + 1) + n by omega] at hcn
    refine (if_pos (dlt (by omega))).trans ((if_neg hr').trans ((if_neg hr').trans ?_))
    refine bind_of (keep42' h hr0 hr (by omega)) ?_
    by_cases hk : kat per keep r k0 = true
    · have hc1 : cntF per keep r (k0 + 1) = cntF per keep r k0 + 1 := by simp only [cntF]; rw [if_pos hk]
      have hmono := cntF_mono per keep r (k0 + 1) n
      match w2, hcn, hw with
      | [], hcn, hw => simp at hcn; omega
      | a :: w2, hcn, hw =>
        simp only [List.length_cons] at hcn hw
        have ih' := ih (k0 + 1) (acc ++ [a]) (w1 ++ [a]) w2 kk (by omega) (by simp; omega) (by simp; omega) (by omega)
        rw [show (w1 ++ [a]) ++ w2 = w1 ++ a :: w2 by simp, show (w1 ++ [a]).length = w1.length + 1 by simp] at ih'
        refine (if_pos hk).trans ((if_pos (inN (show w1.length < (w1 ++ a :: w2).length by simp))).trans ((if_pos (show (acc.length + 1) * 1 ≤ 140737488355328 by omega)).trans ?_))
        have hget : List.getD (w1 ++ a :: w2) (Int.toNat (w1.length : Int)) 0 = a := by rw [Int.toNat_natCast]; simp [List.getD_eq_getElem?_getD]
        rw [hget, ih']
        simp [fills, hk]
    · have hc1 : cntF per keep r (k0 + 1) = cntF per keep r k0 := by simp only [cntF]; rw [if_neg hk]; rfl
      have ih' := ih (k0 + 1) (acc ++ [lv]) w1 w2 kk (by omega) (by simp; omega) hw (by omega)
      refine (if_neg hk).trans ((if_pos (show (acc.length + 1) * 1 ≤ 140737488355328 by omega)).trans ?_)
      rw [ih']
      simp [fills, hk]
theorem loop219 {per : Int} {keep : List Int} {r : Nat} {lv : Int} {S : Nat} {w : List Int} (hw8 : ∀ x ∈ w, 0 ≤ x ∧ x ≤ 255) (hwl : w.length ≤ 1000000) {K : Nat} : ∀ (l2 p2 : List Int) (kk : Nat) (_ : w = p2 ++ l2),
    L21_9 K (kk + l2.length + 1) ((r : Int), lv, (S : Int), w, (), (p2.length : Int), ()) ((per, keep, ()), ()) =
      if (∀ x ∈ l2, x < lv) then L21_16 K kk ((r : Int), lv, (S : Int), w, (), (), 0, 0, ()) ((per, keep, ()), [], ()) else some (((), 91, ()), [], ()) := by
  intro l2
  induction l2 with
  | nil =>
    intro p2 kk hw
    subst hw
    rw [if_pos (by simp), show kk + ([] : List Int).length + 1 = kk + 1 from rfl, L21_9, if_neg (by simp)]
  | cons x l2 ih =>
    intro p2 kk hw
    have ih' := ih (p2 ++ [x]) kk (by simp [hw])
    simp only [List.length_append, List.length_singleton, Int.natCast_add, Int.natCast_one] at ih'
    have hlen : w.length = p2.length + (l2.length + 1) := by rw [hw]; simp
    have hx := hw8 x (by rw [hw]; simp)
    have hget : List.getD w p2.length 0 = x := by rw [hw]; simp [List.getD_eq_getElem?_getD]
    rw [show kk + (x :: l2).length + 1 = (kk + l2.length + 1) + 1 by simp; omega, L21_9, if_pos (show decide ((p2.length : Int) < (w.length : Int)) = true by simp; omega), if_pos (show (0 : Int) ≤ (p2.length : Int) ∧ (p2.length : Int) < (w.length : Int) by omega), Int.toNat_natCast, hget, wi (n := x) (by omega) (by omega), wi (n := (p2.length : Int) + 1) (by omega) (by omega)]
    by_cases hlt : x < lv
    · rw [if_neg (show ¬ decide (lv ≤ x) = true by simp; omega), ih']
      by_cases ha : ∀ y ∈ l2, y < lv
      · rw [if_pos ha, if_pos (by simpa [hlt] using ha)]
      · rw [if_neg ha, if_neg (by simpa [hlt] using ha)]
    · rw [if_pos (show decide (lv ≤ x) = true by simp; omega), if_neg (by simp [hlt])]
/-- What both fills come to. -/
theorem fill2_ok {per x y z rate lv steps : Int} {w : List Int} (hx : 0 ≤ x ∧ x < 18446744073709551616) (hy : 0 ≤ y ∧ y < 18446744073709551616) (hz : 0 ≤ z ∧ z < 18446744073709551616) (hw8 : ∀ x ∈ w, 0 ≤ x ∧ x ≤ 255) :
    ∃ (e : Int) (c : List Int) (K : Nat), c.length ≤ 1000000 ∧ ∀ k, K ≤ k → F20 k ((per, [x, y, z], ()), rate, lv, steps, w, ()) () = some (((), e, ()), c, ()) ∧ F21 k ((per, [x, y, z], ()), rate, lv, steps, w, ()) () = some (((), e, ()), c, ()) := by
  have e28 := fun (k : Nat) (hk : 10 ≤ k) => by have := chk28 (per := per) (rate := rate) hx hy hz (k - 6); rwa [show k - 6 + 6 = k by omega] at this
  have e29 := fun (k : Nat) (hk : 10 ≤ k) => by have := chk29 (per := per) (rate := rate) hx hy hz (k - 5); rwa [show k - 5 + 5 = k by omega] at this
  by_cases hc : chk per x y z rate = 0
  · by_cases hb : lv < 2 ∨ 15 < lv ∨ steps < 0 ∨ 1055 < steps
    · refine ⟨1, [], 10, Nat.zero_le _, fun k hk => ?_⟩
      simp only [F20, F21]
      rw [e28 k hk, e29 k hk, hc]
      simp only [Option.bind_some, decide_true, Bool.not_true, Bool.false_eq_true, if_false]
      by_cases h1 : lv < 2
      · simp [h1]
      · by_cases h2 : 15 < lv
        · simp [h1, h2]
        · by_cases h3 : steps < 0
          · simp [h1, h2, h3]
          · have h4 : 1055 < steps := by omega
            simp [h1, h2, h3, h4]
    · obtain ⟨hp, hr⟩ := chk_pat hx hy hz hc
      obtain ⟨r, rfl, hr0, hr3⟩ := rate_cases hr
      obtain ⟨S, rfl⟩ := Int.eq_ofNat_of_zero_le (show 0 ≤ steps by omega)
      obtain ⟨K1, h1⟩ := count_ok hp hr3 (S := S) (by omega)
      obtain ⟨K2, h2⟩ := sent_ok hp hr3 (S := S) (by omega)
      have b1 : ¬ lv < 2 := by omega
      have b2 : ¬ 15 < lv := by omega
      have b3 : ¬ (S : Int) < 0 := by omega
      have b4 : ¬ 1055 < (S : Int) := by omega
      have hrS : r * S ≤ 3165 := by have := Nat.mul_le_mul hr3 (show S ≤ 1055 by omega); omega
      have hb3 := tot3 (per := per) (keep := [x, y, z]) hr3 (s := S) (by omega)
      have head : ∀ k, K1 + 10 ≤ k → F20 k ((per, [x, y, z], ()), (r : Int), lv, (S : Int), w, ()) () = if (!decide ((w.length : Int) = tot per [x, y, z] r S)) = true then some (((), 5, ()), [], ()) else L20_9 k k ((r : Int), lv, (S : Int), w, (), w, (w.length : Int), 0, ()) ((per, [x, y, z], ()), ()) := fun k hk => by
        simp only [F20]
        rw [e28 k (by omega), hc, h1 k (by omega)]
        simp [b1, b2, b3, b4]
      have head2 : ∀ k, K2 + 10 ≤ k → F21 k ((per, [x, y, z], ()), (r : Int), lv, (S : Int), w, ()) () = if (!decide ((w.length : Int) = tot per [x, y, z] r S)) = true then some (((), 5, ()), [], ()) else L21_9 k k ((r : Int), lv, (S : Int), w, (), 0, ()) ((per, [x, y, z], ()), ()) := fun k hk => by
        simp only [F21]
        rw [e29 k (by omega), hc, h2 k (by omega)]
        simp [b1, b2, b3, b4]
      by_cases hn : (w.length : Int) = tot per [x, y, z] r S
      · have hwl : w.length ≤ 1000000 := by
          have := tot_le per [x, y, z] r S
          have e : ((r * S : Nat) : Int) = (r : Int) * S := Int.natCast_mul r S
          omega
        have h9 := fun K kk => loop9 (per := per) (keep := [x, y, z]) hr3 (lv := lv) (S := S) (by omega) hw8 hwl (K := K) w [] kk rfl
        have h9' := fun K kk => loop219 (per := per) (keep := [x, y, z]) (r := r) (lv := lv) (S := S) hw8 hwl (K := K) w [] kk rfl
        by_cases hlv : ∀ v ∈ w, v < lv
        · refine ⟨0, fills per [x, y, z] r lv (r * S) 0 w, K1 + K2 + 20 + w.length + r * S, by rw [fills_len]; omega, fun k hk => ⟨?_, ?_⟩⟩
          · rw [head k (by omega), if_neg (by simp [hn])]
            have := h9 k (k - w.length - 1)
            rw [show k - w.length - 1 + w.length + 1 = k by omega, if_pos hlv] at this
            refine this.trans ?_
            have h18 := loop18 hp hr0 hr3 (lv := lv) (by omega) (by omega) (K := k) (r * S) [] [] w (k - w.length - 1 - r * S - 1) (by simpa using (by omega : r * S ≤ 1000000)) (by simpa using hwl) (by
              have := cntF_tot per [x, y, z] hr0 S
              simp only [List.length_nil, Nat.zero_add]
              simp only [cntF]; omega)
            rw [show k - w.length - 1 - r * S - 1 + r * S + 1 = k - w.length - 1 by omega] at h18
            simpa using h18
          · rw [head2 k (by omega), if_neg (by simp [hn])]
            have := h9' k (k - w.length - 1)
            rw [show k - w.length - 1 + w.length + 1 = k by omega, if_pos hlv] at this
            refine this.trans ?_
            have h16 := loop16 hp hr0 hr3 (S := S) (by omega) (lv := lv) (by omega) (by omega) (K := k) (r * S) 0 [] [] w (k - w.length - 1 - r * S - 1) (Nat.zero_add _) rfl (by simpa using hwl) (by
              have := cntF_tot per [x, y, z] hr0 S
              simp only [Nat.zero_add]
              simp only [cntF]; omega)
            rw [show k - w.length - 1 - r * S - 1 + r * S + 1 = k - w.length - 1 by omega] at h16
            simpa using h16
        · refine ⟨91, [], K1 + K2 + 20 + w.length, Nat.zero_le _, fun k hk => ⟨?_, ?_⟩⟩
          · rw [head k (by omega), if_neg (by simp [hn])]
            have := h9 k (k - w.length - 1)
            rw [show k - w.length - 1 + w.length + 1 = k by omega, if_neg hlv] at this
            exact this
          · rw [head2 k (by omega), if_neg (by simp [hn])]
            have := h9' k (k - w.length - 1)
            rw [show k - w.length - 1 + w.length + 1 = k by omega, if_neg hlv] at this
            exact this
      · refine ⟨5, [], K1 + K2 + 10, Nat.zero_le _, fun k hk => ⟨?_, ?_⟩⟩
        · rw [head k (by omega), if_pos (by simp [hn])]
        · rw [head2 k (by omega), if_pos (by simp [hn])]
  · refine ⟨chk per x y z rate, [], 10, Nat.zero_le _, fun k hk => ?_⟩
    simp only [F20, F21]
    rw [e28 k hk, e29 k hk]
    simp [hc]
theorem all_fills {per x y z rate lv steps : Int} {w : List Int} (hx : 0 ≤ x ∧ x < 18446744073709551616) (hy : 0 ≤ y ∧ y < 18446744073709551616) (hz : 0 ≤ z ∧ z < 18446744073709551616) (hw8 : ∀ x ∈ w, 0 ≤ x ∧ x ≤ 255) (hl : w.length ≤ 140737488351232) :
    ∃ k, F4 k ((per, [x, y, z], rate, lv, steps, w, ()), ()) () = some (true, ()) := by
  obtain ⟨e, c, K1, hcl, h1⟩ := fill2_ok (per := per) (rate := rate) (lv := lv) (steps := steps) hx hy hz hw8
  have hlen : (w ++ marks 0 8).length = w.length + 8 := by rw [List.length_append, marks_len]
  obtain ⟨K2, h2⟩ := apart_ok (n := w.length) (A := c) (B := c) (G := w ++ marks 0 8) (by omega) (by omega) (by omega) (by omega)
  refine ⟨K1 + K2 + 40, ?_⟩
  obtain ⟨A', B', G', h18⟩ := h2 (K1 + K2 + 40) (by omega)
  obtain ⟨h20, h21⟩ := h1 (K1 + K2 + 40) (by omega)
  have h12 := lent_ok hl (K1 + K2 + 31)
  have h17 := stays_ok hl (K1 + K2 + 31)
  have h19 := live_ok (K1 + K2 + 10)
  rw [show K1 + K2 + 31 + 9 = K1 + K2 + 40 by omega] at h12 h17
  rw [show K1 + K2 + 10 + 30 = K1 + K2 + 40 by omega] at h19
  generalize K1 + K2 + 40 = k at *
  have et : List.take w.length (List.drop 0 (w ++ marks 0 8)) = w := by rw [List.drop_zero, List.take_left' rfl]
  have h16 : F16 (c, c, ()) () = some (true, ()) := by
    simp only [F16]
    rw [if_pos (by omega), if_pos (by omega), decide_true]
  have h20' : F20 k ((per, [x, y, z], ()), rate, lv, steps, List.take w.length (List.drop 0 (w ++ marks 0 8)), ()) () = some (((), e, ()), c, ()) := by rw [et]; exact h20
  simp only [F4]
  refine bind_of h12 ?_
  refine bind_of h20' ?_
  refine bind_of h20' ?_
  refine bind_of h21 ?_
  refine bind_of (v := (e, ())) rfl ?_
  refine (if_pos (decide_eq_true rfl)).trans ?_
  refine bind_of h16 ?_
  refine (if_pos rfl).trans ?_
  refine bind_of h16 ?_
  refine (if_pos rfl).trans ?_
  refine bind_of h17 ?_
  refine (if_pos rfl).trans ?_
  refine bind_of h18 ?_
  refine (if_pos rfl).trans ?_
  exact bind_of h19 rfl
end Go.Eng.Pu

