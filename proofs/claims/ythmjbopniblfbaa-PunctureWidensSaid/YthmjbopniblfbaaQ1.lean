/- What the functions of this seat come to, in plain Lean, part 1. No condition. -/
import Derived.Test.YthmjbopniblfbaaG1
import Derived.IntWalk
set_option linter.unusedVariables false
set_option linter.unusedSimpArgs false
/- From some number of rounds on. No condition. -/
namespace Go.Eng.Pu
open Go Go.Eng Go.Proofs
def Ev {α : Type} (f : Nat → Option α) (v : α) : Prop := ∃ K, ∀ k, K ≤ k → f k = some v
theorem Ev.of_succ {α : Type} {f g : Nat → Option α} {v : α} (h : ∀ k, f (k + 1) = g k) (hg : Ev g v) : Ev f v := by
  obtain ⟨K, hK⟩ := hg
  refine ⟨K + 1, fun k hk => ?_⟩
  obtain ⟨j, rfl⟩ : ∃ j, k = j + 1 := ⟨k - 1, by omega⟩
  rw [h]; exact hK j (by omega)
theorem Ev.now {α : Type} {f : Nat → Option α} {v : α} (h : ∀ k, f (k + 1) = some v) : Ev f v := Ev.of_succ (g := fun _ => some v) h ⟨0, fun _ _ => rfl⟩
theorem wi {n : Int} (h0 : -9223372036854775808 ≤ n) (h : n ≤ 9223372036854775807) : IntKind.wrap IntKind.i64 n = n := by rw [IntKind.wrap_i64]; omega
theorem wu {n : Int} (h0 : 0 ≤ n) (h : n < 18446744073709551616) : IntKind.wrap IntKind.u64 n = n := by exact IntWalk.u64_in n ⟨h0, by omega⟩
theorem w1 : IntKind.wrap IntKind.i64 (0 + 1) = 1 := by decide
theorem w2 : IntKind.wrap IntKind.i64 (1 + 1) = 2 := by decide
theorem w3 : IntKind.wrap IntKind.i64 (2 + 1) = 3 := by decide
theorem w4 : IntKind.wrap IntKind.i64 (3 + 1) = 4 := by decide
theorem shr_lt {x : Int} (h0 : 0 ≤ x) (h1 : x < 18446744073709551616) {s : Nat} (hs : s ≤ 64) : shr' IntKind.u64 x (s : Int) = x / 2 ^ s := by
  unfold shr'
  rw [show min (Int.toNat (s : Int)) IntKind.u64.bits = s from by rw [Int.toNat_natCast]; exact Nat.min_eq_left hs]
  rw [Int.fdiv_eq_ediv_of_nonneg _ (Int.le_of_lt (Int.pow_pos (by omega)))]
theorem and_one {x : Int} (h0 : 0 ≤ x) (h1 : x < 18446744073709551616) : IntKind.wrap IntKind.u64 (((BitVec.ofInt 64 x &&& BitVec.ofInt 64 1).toNat : Nat) : Int) = x % 2 := by
  obtain ⟨n, rfl⟩ := Int.eq_ofNat_of_zero_le h0
  have e : (BitVec.ofInt 64 (n : Int) &&& BitVec.ofInt 64 1).toNat = n % 2 := by
    rw [BitVec.toNat_and, BitVec.toNat_ofInt, BitVec.toNat_ofInt]
    rw [show ((n : Int) % ((2 ^ 64 : Nat) : Int)).toNat = n from by omega, show ((1 : Int) % ((2 ^ 64 : Nat) : Int)).toNat = 1 from by decide, Nat.and_one_is_mod]
  rw [e, wu (by omega) (by omega)]; omega
theorem or_zero {x y : Int} (hx0 : 0 ≤ x) (hx1 : x < 18446744073709551616) (hy0 : 0 ≤ y) (hy1 : y < 18446744073709551616) :
    (IntKind.wrap IntKind.u64 (((BitVec.ofInt 64 x ||| BitVec.ofInt 64 y).toNat : Nat) : Int) = 0 ↔ x = 0 ∧ y = 0) ∧ 0 ≤ IntKind.wrap IntKind.u64 (((BitVec.ofInt 64 x ||| BitVec.ofInt 64 y).toNat : Nat) : Int) ∧ IntKind.wrap IntKind.u64 (((BitVec.ofInt 64 x ||| BitVec.ofInt 64 y).toNat : Nat) : Int) < 18446744073709551616 := by
  obtain ⟨n, rfl⟩ := Int.eq_ofNat_of_zero_le hx0
  obtain ⟨m, rfl⟩ := Int.eq_ofNat_of_zero_le hy0
  have e : (BitVec.ofInt 64 (n : Int) ||| BitVec.ofInt 64 (m : Int)).toNat = n ||| m := by
    rw [BitVec.toNat_or, BitVec.toNat_ofInt, BitVec.toNat_ofInt]
    rw [show ((n : Int) % ((2 ^ 64 : Nat) : Int)).toNat = n from by omega, show ((m : Int) % ((2 ^ 64 : Nat) : Int)).toNat = m from by omega]
  have hlt : n ||| m < 2 ^ 64 := Nat.or_lt_two_pow (by omega) (by omega)
  rw [e, wu (by omega) (by omega)]
  refine ⟨?_, by omega, by omega⟩
  constructor
  · intro h
    have h : n ||| m = 0 := by omega
    have := Nat.or_eq_zero_iff.1 h
    omega
  · rintro ⟨h1, h2⟩
    have h1 : n = 0 := by omega
    have h2 : m = 0 := by omega
    subst h1 h2; rfl
/-- Is the i-th symbol of the step t kept? -/
def kb (per : Int) (keep : List Int) (i t : Int) : Bool := decide (keep.getD i.toNat 0 / 2 ^ (t % per).toNat % 2 = 1)
structure Pat (per : Int) (keep : List Int) : Prop where
  len : keep.length = 3
  u64 : ∀ x ∈ keep, 0 ≤ x ∧ x < 18446744073709551616
  lo : 1 ≤ per
  hi : per ≤ 64
theorem Pat.at {per : Int} {keep : List Int} (h : Pat per keep) {i : Nat} (hi : i < 3) : 0 ≤ keep.getD i 0 ∧ keep.getD i 0 < 18446744073709551616 := by
  have h1 : i < keep.length := by rw [h.len]; exact hi
  rw [List.getD_eq_getElem?_getD, List.getElem?_eq_getElem h1]
  exact h.u64 _ (List.getElem_mem h1)
theorem bit_ok {per : Int} {keep : List Int} (h : Pat per keep) {i t : Int} (hi0 : 0 ≤ i) (hi : i < 3) (ht : 0 ≤ t) :
    IntKind.wrap IntKind.u64 (((BitVec.ofInt 64 (shr' IntKind.u64 (keep.getD (i.toNat * 1) 0) (t.tmod per)) &&& BitVec.ofInt 64 1).toNat : Nat) : Int) = keep.getD i.toNat 0 / 2 ^ (t % per).toNat % 2 := by
  obtain ⟨a, b⟩ := h.at (i := i.toNat) (by omega)
  have hl := h.lo; have hh := h.hi
  have hm0 : 0 ≤ t % per := Int.emod_nonneg _ (by omega)
  have hm1 : t % per < per := Int.emod_lt_of_pos _ (by omega)
  rw [Nat.mul_one, Int.tmod_eq_emod_of_nonneg ht]
  obtain ⟨s, hs⟩ := Int.eq_ofNat_of_zero_le hm0
  rw [hs, shr_lt a b (by omega), Int.toNat_natCast]
  have hd0 : 0 ≤ keep.getD i.toNat 0 / 2 ^ s := Int.ediv_nonneg a (Int.le_of_lt (Int.pow_pos (by omega)))
  have hd1 : keep.getD i.toNat 0 / 2 ^ s ≤ keep.getD i.toNat 0 := Int.ediv_le_self _ a
  exact and_one hd0 (by omega)
theorem keep63 {per : Int} {keep : List Int} (h : Pat per keep) {i t : Int} (hi0 : 0 ≤ i) (hi : i < 3) (ht : 0 ≤ t) : F63 (t, i, (), ()) ((per, keep, ()), ()) = some (kb per keep i t, (per, keep, ()), ()) := by
  have hl := h.lo
  have hm : ¬ t.tmod per < 0 := by rw [Int.tmod_eq_emod_of_nonneg ht]; have := Int.emod_nonneg t (b := per) (by omega); omega
  simp only [F63]
  rw [if_pos ⟨hi0, hi⟩, if_pos (show i.toNat * 1 < 3 by omega), if_neg (show ¬ per = 0 by omega), if_neg hm, bit_ok h hi0 hi ht]
  congr 2
  unfold kb
  rcases Int.emod_two_eq (keep.getD i.toNat 0 / 2 ^ (t % per).toNat) with e | e <;> rw [e] <;> rfl
theorem keep42 {per : Int} {keep : List Int} (h : Pat per keep) {i t : Int} (hi0 : 0 ≤ i) (hi : i < 3) (ht : 0 ≤ t) : F42 ((per, keep, ()), i, t, ()) () = some (kb per keep i t, ()) := by
  have hl := h.lo; have hh := h.hi
  have hm0 : 0 ≤ t % per := Int.emod_nonneg _ (by omega)
  have hm1 : t % per < per := Int.emod_lt_of_pos _ (by omega)
  have hw : IntKind.wrap IntKind.u64 (t.tmod per) = t.tmod per := by rw [Int.tmod_eq_emod_of_nonneg ht]; exact wu hm0 (by omega)
  simp only [F42]
  rw [if_pos ⟨hi0, hi⟩, if_pos (show i.toNat * 1 < 3 by omega), if_neg (show ¬ per = 0 by omega), hw, if_neg (show ¬ t.tmod per < 0 by rw [Int.tmod_eq_emod_of_nonneg ht]; omega), bit_ok h hi0 hi ht]
  rfl
end Go.Eng.Pu

/- What the plain functions of puncture come to: counts, checks, rates. No condition. -/
namespace Go.Eng.Pu
open Go Go.Eng Go.Proofs
theorem v1 : IntKind.wrap IntKind.i64 1 = 1 := by decide
theorem v2 : IntKind.wrap IntKind.i64 2 = 2 := by decide
theorem v3 : IntKind.wrap IntKind.i64 3 = 3 := by decide
theorem v4 : IntKind.wrap IntKind.i64 4 = 4 := by decide
/-- How many of the first r symbols of the step t are kept. -/
def row1 (per : Int) (keep : List Int) (t : Int) : Nat → Int
  | 0 => 0
  | i + 1 => row1 per keep t i + if kb per keep i t then 1 else 0
/-- .. of the first s steps. -/
def tot (per : Int) (keep : List Int) (r : Nat) : Nat → Int
  | 0 => 0
  | s + 1 => tot per keep r s + row1 per keep s r
theorem row1_le (per : Int) (keep : List Int) (t : Int) : ∀ r, 0 ≤ row1 per keep t r ∧ row1 per keep t r ≤ r
  | 0 => ⟨Int.le_refl _, Int.le_refl _⟩
  | r + 1 => by have := row1_le per keep t r; simp only [row1]; split <;> omega
theorem tot_le (per : Int) (keep : List Int) (r : Nat) : ∀ s, 0 ≤ tot per keep r s ∧ tot per keep r s ≤ r * s
  | 0 => ⟨Int.le_refl _, by simp [tot]⟩
  | s + 1 => by
    have h1 := tot_le per keep r s; have h2 := row1_le per keep s r
    simp only [tot]
    rw [show ((s + 1 : Nat) : Int) = (s : Int) + 1 by omega, Int.mul_add]; omega
theorem tot3 {per : Int} {keep : List Int} {r : Nat} (hr : r ≤ 3) {s : Nat} (hs : s ≤ 1000000) : 0 ≤ tot per keep r s ∧ tot per keep r s ≤ 3000000 := by
  have h := tot_le per keep r s
  have : (r : Int) * s ≤ 3 * 1000000 := Int.mul_le_mul (by omega) (by omega) (by omega) (by omega)
  omega
section
variable {per : Int} {keep : List Int} (h : Pat per keep)
include h
theorem in45 {r : Nat} (hr : r ≤ 3) {S t : Nat} (hS : S ≤ 1000000) (ht : t < S) : ∀ (d j : Nat) (n : Int) (k : Nat) (_ : j + d = r) (_ : 0 ≤ n) (_ : n + d ≤ 4000000),
    L45_7 (k + d + 1) ((r : Int), ((), ()), n, (t : Int), (S : Int), (t : Int), (r : Int), (j : Int), ()) ((per, keep, ()), ()) = L45_4 k ((r : Int), ((), ()), n + (row1 per keep t r - row1 per keep t j), (S : Int), ((t + 1 : Nat) : Int), ()) ((per, keep, ()), ()) := by
  intro d
  induction d with
  | zero =>
    intro j n k hj hn hn'
    have hj : j = r := by omega
    subst hj
    rw [L45_7]
    rw [if_neg (by simp), wi (by omega) (by omega), Int.sub_self, Int.add_zero, show (t : Int) + 1 = ((t + 1 : Nat) : Int) by omega]
  | succ d ih =>
    intro j n k hj hn hn'
    rw [show k + (d + 1) + 1 = (k + d + 1) + 1 by omega, L45_7]
    rw [if_pos (by simp; omega), keep63 h (by omega) (by omega) (by omega)]
    simp only [Option.bind_some]
    have hj1 : IntKind.wrap IntKind.i64 ((j : Int) + 1) = ((j + 1 : Nat) : Int) := wi (by omega) (by omega)
    have hr1 : row1 per keep t (j + 1) = row1 per keep t j + if kb per keep j t then 1 else 0 := rfl
    rw [hj1]
    split
    · rename_i hk
      rw [wi (by omega) (by omega), ih (j + 1) (n + 1) k (by omega) (by omega) (by omega), hr1, if_pos hk, show n + 1 + (row1 per keep t r - (row1 per keep t j + 1)) = n + (row1 per keep t r - row1 per keep t j) by omega]
    · rename_i hk
      rw [ih (j + 1) n k (by omega) (by omega) (by omega), hr1, if_neg hk, Int.add_zero]
theorem out45 {r : Nat} (hr : r ≤ 3) {S : Nat} (hS : S ≤ 1000000) : ∀ (d t : Nat) (k : Nat), t + d = S →
    L45_4 (k + d * (r + 2) + 1) ((r : Int), ((), ()), tot per keep r t, (S : Int), (t : Int), ()) ((per, keep, ()), ()) = some (tot per keep r S, ())
  | 0, t, k, ht => by
    have ht : t = S := by omega
    subst ht
    rw [L45_4, if_neg (by simp)]
  | d + 1, t, k, ht => by
    have hb := tot3 (per := per) (keep := keep) hr (s := t) (by omega)
    rw [L45_4, if_pos (by simp; omega)]
    rw [show k + (d + 1) * (r + 2) = (k + d * (r + 2) + 1) + r + 1 by rw [Nat.succ_mul]; omega]
    have := in45 h hr hS (t := t) (by omega) r 0 (tot per keep r t) (k + d * (r + 2) + 1) (by omega) hb.1 (by omega)
    refine this.trans ?_
    have e : tot per keep r t + (row1 per keep t r - row1 per keep t 0) = tot per keep r (t + 1) := by simp [tot, row1]
    rw [e]
    exact out45 hr hS d (t + 1) k (by omega)
theorem count_ok {r S : Nat} (hr : r ≤ 3) (hS : S ≤ 1000000) : ∃ K, ∀ k, K ≤ k → F45 k ((per, keep, ()), (r : Int), (S : Int), ()) () = some (tot per keep r S, ()) := by
  refine ⟨S * (r + 2) + 1, fun k hk => ?_⟩
  obtain ⟨j, rfl⟩ : ∃ j, k = j + S * (r + 2) + 1 := ⟨k - (S * (r + 2) + 1), by omega⟩
  exact out45 h hr hS S 0 j (by omega)
theorem in46 {r : Nat} (hr : r ≤ 3) {S t : Nat} (hS : S ≤ 1000000) (ht : t < S) : ∀ (d j : Nat) (n : Int) (k : Nat) (_ : j + d = r) (_ : 0 ≤ n) (_ : n + d ≤ 4000000),
    L46_6 (k + d + 1) ((r : Int), (S : Int), (), n, (t : Int), (j : Int), ()) ((per, keep, ()), ()) = L46_3 k ((r : Int), (S : Int), (), n + (row1 per keep t r - row1 per keep t j), ((t + 1 : Nat) : Int), ()) ((per, keep, ()), ()) := by
  intro d
  induction d with
  | zero =>
    intro j n k hj hn hn'
    have hj : j = r := by omega
    subst hj
    rw [L46_6]
    rw [if_neg (by simp), wi (by omega) (by omega), Int.sub_self, Int.add_zero, show (t : Int) + 1 = ((t + 1 : Nat) : Int) by omega]
  | succ d ih =>
    intro j n k hj hn hn'
    rw [show k + (d + 1) + 1 = (k + d + 1) + 1 by omega, L46_6]
    rw [if_pos (by simp; omega), keep42 h (by omega) (by omega) (by omega)]
    simp only [Option.bind_some]
    have hj1 : IntKind.wrap IntKind.i64 ((j : Int) + 1) = ((j + 1 : Nat) : Int) := wi (by omega) (by omega)
    have hr1 : row1 per keep t (j + 1) = row1 per keep t j + if kb per keep j t then 1 else 0 := rfl
    rw [hj1]
    split
    · rename_i hk
      rw [wi (by omega) (by omega), ih (j + 1) (n + 1) k (by omega) (by omega) (by omega), hr1, if_pos hk, show n + 1 + (row1 per keep t r - (row1 per keep t j + 1)) = n + (row1 per keep t r - row1 per keep t j) by omega]
    · rename_i hk
      rw [ih (j + 1) n k (by omega) (by omega) (by omega), hr1, if_neg hk, Int.add_zero]
theorem out46 {r : Nat} (hr : r ≤ 3) {S : Nat} (hS : S ≤ 1000000) : ∀ (d t : Nat) (k : Nat), t + d = S →
    L46_3 (k + d * (r + 2) + 1) ((r : Int), (S : Int), (), tot per keep r t, (t : Int), ()) ((per, keep, ()), ()) = some (tot per keep r S, ())
  | 0, t, k, ht => by
    have ht : t = S := by omega
    subst ht
    rw [L46_3, if_neg (by simp)]
  | d + 1, t, k, ht => by
    have hb := tot3 (per := per) (keep := keep) hr (s := t) (by omega)
    rw [L46_3, if_pos (by simp; omega)]
    rw [show k + (d + 1) * (r + 2) = (k + d * (r + 2) + 1) + r + 1 by rw [Nat.succ_mul]; omega]
    have := in46 h hr hS (t := t) (by omega) r 0 (tot per keep r t) (k + d * (r + 2) + 1) (by omega) hb.1 (by omega)
    refine this.trans ?_
    have e : tot per keep r t + (row1 per keep t r - row1 per keep t 0) = tot per keep r (t + 1) := by simp [tot, row1]
    rw [e]
    exact out46 hr hS d (t + 1) k (by omega)
theorem sent_ok {r S : Nat} (hr : r ≤ 3) (hS : S ≤ 1000000) : ∃ K, ∀ k, K ≤ k → F46 k ((per, keep, ()), (r : Int), (S : Int), ()) () = some (tot per keep r S, ()) := by
  refine ⟨S * (r + 2) + 1, fun k hk => ?_⟩
  obtain ⟨j, rfl⟩ : ∃ j, k = j + S * (r + 2) + 1 := ⟨k - (S * (r + 2) + 1), by omega⟩
  exact out46 h hr hS S 0 j (by omega)
end
/-! ### checks -/
def bad (per rate : Int) (i : Int) (v : Int) : Bool := (decide (rate ≤ i) && !decide (v = 0)) || (decide (per < 64) && !decide (v / 2 ^ per.toNat = 0))
def chk (per : Int) (x y z rate : Int) : Int :=
  if rate ≠ 2 ∧ rate ≠ 3 then 1
  else if per < 1 ∨ 64 < per then 340
  else if bad per rate 0 x || (bad per rate 1 y || bad per rate 2 z) then 340
  else if x = 0 ∧ y = 0 ∧ z = 0 then 340 else 0
theorem chk29 {per x y z rate : Int} (hx : 0 ≤ x ∧ x < 18446744073709551616) (hy : 0 ≤ y ∧ y < 18446744073709551616) (hz : 0 ≤ z ∧ z < 18446744073709551616) (k : Nat) :
    F29 (k + 5) ((per, [x, y, z], ()), rate, ()) () = some (chk per x y z rate, ()) := by
  by_cases hp : per < 1 ∨ 64 < per
  · by_cases h2 : rate = 2
    · subst h2; rcases hp with hp | hp <;> simp [F29, chk, hp] <;> omega
    · by_cases h3 : rate = 3
      · subst h3; rcases hp with hp | hp <;> simp [F29, chk, hp] <;> omega
      · simp [F29, chk, h2, h3]
  · obtain ⟨p, rfl⟩ := Int.eq_ofNat_of_zero_le (show 0 ≤ per by omega)
    have hw : IntKind.wrap IntKind.u64 (p : Int) = (p : Int) := wu (by omega) (by omega)
    have e : ∀ v : Int, 0 ≤ v → v < 18446744073709551616 → shr' IntKind.u64 v (p : Int) = v / 2 ^ p := fun v a b => shr_lt a b (by omega)
    have e0 : shr' IntKind.u64 0 (p : Int) = 0 := by rw [e 0 (by omega) (by omega)]; simp
    have ex := e x hx.1 hx.2
    have ey := e y hy.1 hy.2
    have ez := e z hz.1 hz.2
    have hp0 : ¬ ((p : Int) < 0) := by omega
    have hp1 : ¬ ((p : Int) < 1) := by omega
    have hp2 : ¬ (64 < (p : Int)) := by omega
    by_cases h64 : (p : Int) < 64 <;> by_cases x0 : x = 0 <;> by_cases y0 : y = 0 <;> by_cases z0 : z = 0 <;> by_cases xs : x / 2 ^ p = 0 <;> by_cases ys : y / 2 ^ p = 0 <;> by_cases zs : z / 2 ^ p = 0 <;> 
    (by_cases h2 : rate = 2
     · subst h2; simp [F29, L29_7, chk, bad, hw, e0, ex, ey, ez, hp0, hp1, hp2, v1, v2, v3, h64, x0, y0, z0, xs, ys, zs]
     · by_cases h3 : rate = 3
       · subst h3; simp [F29, L29_7, chk, bad, hw, e0, ex, ey, ez, hp0, hp1, hp2, v1, v2, v3, h64, x0, y0, z0, xs, ys, zs]
       · simp [F29, chk, h2, h3])
end Go.Eng.Pu

/- What the plain functions of puncture come to: the program's check, names, rates. No condition. -/
namespace Go.Eng.Pu
open Go Go.Eng Go.Proofs
def wh (per x y z rate : Int) : Bool := decide (rate = 2) && (decide (per = 2 ∧ x = 1 ∧ y = 3 ∧ z = 0) || (decide (per = 3 ∧ x = 5 ∧ y = 3 ∧ z = 0) || (decide (per = 5 ∧ x = 21 ∧ y = 11 ∧ z = 0) || decide (per = 7 ∧ x = 81 ∧ y = 47 ∧ z = 0))))
theorem whole48 {per x y z rate : Int} (k : Nat) : F48 (k + 6) ((per, [x, y, z], ()), rate, ()) () = some (wh per x y z rate, ()) := by
  by_cases h2 : rate = 2
  · subst h2
    by_cases a1 : (2 = per ∧ [1, 3, 0] = [x, y, z])
    · obtain ⟨rfl, h⟩ := a1; cases h; rfl
    by_cases a2 : (3 = per ∧ [5, 3, 0] = [x, y, z])
    · obtain ⟨rfl, h⟩ := a2; cases h; rfl
    by_cases a3 : (5 = per ∧ [21, 11, 0] = [x, y, z])
    · obtain ⟨rfl, h⟩ := a3; cases h; rfl
    by_cases a4 : (7 = per ∧ [81, 47, 0] = [x, y, z])
    · obtain ⟨rfl, h⟩ := a4; cases h; rfl
    have hw : wh per x y z 2 = false := by
      simp only [List.cons.injEq] at a1 a2 a3 a4
      simp only [wh, decide_true, Bool.true_and, Bool.or_eq_false_iff, decide_eq_false_iff_not]
      refine ⟨fun h => a1 ?_, fun h => a2 ?_, fun h => a3 ?_, fun h => a4 ?_⟩ <;> (obtain ⟨rfl, rfl, rfl, rfl⟩ := h; simp)
    rw [hw]
    simp [F48, F47, L48_2, v1, v2, v3, v4, List.replicate]
    simp only [List.cons.injEq] at a1 a2 a3 a4
    simp only [and_true] at a1 a2 a3 a4
    rw [if_neg a1, if_neg a2, if_neg a3, if_neg a4]
  · have hw : wh per x y z rate = false := by simp [wh, h2]
    rw [hw]
    simp [F48, F47, L48_2, v1, v2, v3, v4, h2]
theorem orU_zero {x y : Int} (hx : 0 ≤ x ∧ x < 18446744073709551616) (hy : 0 ≤ y ∧ y < 18446744073709551616) :
    (IntKind.wrap IntKind.u64 (((BitVec.ofInt 64 x ||| BitVec.ofInt 64 y).toNat : Nat) : Int) = 0 ↔ x = 0 ∧ y = 0) := (or_zero hx.1 hx.2 hy.1 hy.2).1
def orU (x y : Int) : Int := IntKind.wrap IntKind.u64 (((BitVec.ofInt 64 x ||| BitVec.ofInt 64 y).toNat : Nat) : Int)
theorem orU_in {x y : Int} (hx : 0 ≤ x ∧ x < 18446744073709551616) (hy : 0 ≤ y ∧ y < 18446744073709551616) : 0 ≤ orU x y ∧ orU x y < 18446744073709551616 := (or_zero hx.1 hx.2 hy.1 hy.2).2
theorem orU_def (x y : Int) : IntKind.wrap IntKind.u64 (((BitVec.ofInt 64 x ||| BitVec.ofInt 64 y).toNat : Nat) : Int) = orU x y := rfl
theorem F28_eq {per x y z rate : Int} (k : Nat) : F28 (k + 6) ((per, [x, y, z], ()), rate, ()) () = if rate ≠ 2 ∧ rate ≠ 3 then some (1, ()) else if wh per x y z rate = true then some (0, ()) else if per < 1 ∨ 64 < per then some (340, ()) else
    L28_9 (k + 6) (k + 6) (rate, (), 0, [x, y, z], 0, ()) ((per, [x, y, z], ()), ()) := by
  have hF := whole48 (per := per) (x := x) (y := y) (z := z) (rate := rate) k
  simp only [F28]
  rw [hF]
  simp only [Option.bind_some]
  by_cases h2 : rate = 2
  · subst h2
    by_cases h4 : per < 1 <;> by_cases h5 : 64 < per <;> simp [h4, h5]
  · by_cases h3 : rate = 3
    · subst h3
      by_cases h4 : per < 1 <;> by_cases h5 : 64 < per <;> simp [h4, h5]
    · simp [h2, h3]
theorem L28_step {p rate acc v : Int} {keep keep' : List Int} {K : Nat} (k i : Nat) (hi : i < 3) (hv : keep.getD i 0 = v) (ex : shr' IntKind.u64 v p = v / 2 ^ p.toNat) (hp0 : ¬ p < 0) :
    L28_9 K (k + 1) (rate, (), acc, keep, (i : Int), ()) ((p, keep', ()), ()) = if bad p rate i v = true then some (340, ()) else L28_9 K k (rate, (), orU acc v, keep, ((i + 1 : Nat) : Int), ()) ((p, keep', ()), ()) := by
  rw [L28_9]
  simp only [orU_def, Int.toNat_natCast, hv, ex]
  rw [show IntKind.wrap IntKind.i64 ((i : Int) + 1) = ((i + 1 : Nat) : Int) from wi (by omega) (by omega), if_pos (show decide ((i : Int) < 3) = true by simp; omega), if_pos (show 0 ≤ (i : Int) ∧ (i : Int) < 3 by omega)]
  clear hv ex
  unfold bad
  by_cases h1 : rate ≤ (i : Int) <;> by_cases h2 : v = 0 <;> by_cases h3 : p < 64 <;> by_cases h4 : v / 2 ^ p.toNat = 0 <;> (try (subst h2; simp at h4; done)) <;> simp [h1, h2, h3, h4, hp0]
theorem L28_eq {p x y z rate : Int} {K : Nat} (k : Nat) (ex : shr' IntKind.u64 x p = x / 2 ^ p.toNat) (ey : shr' IntKind.u64 y p = y / 2 ^ p.toNat) (ez : shr' IntKind.u64 z p = z / 2 ^ p.toNat) (hp0 : ¬ p < 0) :
    L28_9 K (k + 4) (rate, (), 0, [x, y, z], 0, ()) ((p, [x, y, z], ()), ()) = some (if bad p rate 0 x || (bad p rate 1 y || bad p rate 2 z) then 340 else if orU (orU (orU 0 x) y) z = 0 then 340 else 0, ()) := by
  have h0 := L28_step (K := K) (p := p) (rate := rate) (acc := 0) (keep := [x, y, z]) (keep' := [x, y, z]) (k + 3) 0 (by omega) rfl ex hp0
  have h1 := L28_step (K := K) (p := p) (rate := rate) (acc := orU 0 x) (keep := [x, y, z]) (keep' := [x, y, z]) (k + 2) 1 (by omega) rfl ey hp0
  have h2 := L28_step (K := K) (p := p) (rate := rate) (acc := orU (orU 0 x) y) (keep := [x, y, z]) (keep' := [x, y, z]) (k + 1) 2 (by omega) rfl ez hp0
  have h3 : L28_9 K (k + 1) (rate, (), orU (orU (orU 0 x) y) z, [x, y, z], ((2 + 1 : Nat) : Int), ()) ((p, [x, y, z], ()), ()) = some (if orU (orU (orU 0 x) y) z = 0 then 340 else 0, ()) := by
    rw [L28_9, if_neg (by simp)]; by_cases hq : orU (orU (orU 0 x) y) z = 0 <;> simp [hq]
  refine h0.trans ?_
  show (if bad p rate ((0 : Nat) : Int) x = true then some (340, ()) else _) = _
  cases b0 : bad p rate ((0 : Nat) : Int) x
  · rw [if_neg (by simp)]
    refine h1.trans ?_
    show (if bad p rate ((1 : Nat) : Int) y = true then some (340, ()) else _) = _
    cases b1 : bad p rate ((1 : Nat) : Int) y
    · rw [if_neg (by simp)]
      refine h2.trans ?_
      show (if bad p rate ((2 : Nat) : Int) z = true then some (340, ()) else _) = _
      cases b2 : bad p rate ((2 : Nat) : Int) z
      · rw [if_neg (by simp)]
        refine h3.trans ?_
        rfl
      · rfl
    · rfl
  · rfl
theorem chk28 {per x y z rate : Int} (hx : 0 ≤ x ∧ x < 18446744073709551616) (hy : 0 ≤ y ∧ y < 18446744073709551616) (hz : 0 ≤ z ∧ z < 18446744073709551616) (k : Nat) :
    F28 (k + 6) ((per, [x, y, z], ()), rate, ()) () = some (chk per x y z rate, ()) := by
  have hwh : wh per x y z rate = true → chk per x y z rate = 0 := by
    intro h
    simp only [wh, Bool.and_eq_true, Bool.or_eq_true, decide_eq_true_eq] at h
    obtain ⟨rfl, h | h | h | h⟩ := h <;> (obtain ⟨rfl, rfl, rfl, rfl⟩ := h; decide)
  rw [F28_eq]
  by_cases hr : rate ≠ 2 ∧ rate ≠ 3
  · rw [if_pos hr]; unfold chk; rw [if_pos hr]
  rw [if_neg hr]
  cases hw : wh per x y z rate with
  | true => rw [if_pos rfl, hwh hw]
  | false =>
    rw [if_neg (by simp)]
    unfold chk
    rw [if_neg hr]
    by_cases hp : per < 1 ∨ 64 < per
    · rw [if_pos hp, if_pos hp]
    rw [if_neg hp, if_neg hp]
    obtain ⟨p, rfl⟩ := Int.eq_ofNat_of_zero_le (show 0 ≤ per by omega)
    have e : ∀ v : Int, 0 ≤ v → v < 18446744073709551616 → shr' IntKind.u64 v (p : Int) = v / 2 ^ ((p : Int).toNat) := fun v a b => by rw [Int.toNat_natCast]; exact shr_lt a b (by omega)
    have o1 := orU_in (x := 0) (by omega) hx
    have o2 := orU_in o1 hy
    have q3 : orU (orU (orU 0 x) y) z = 0 ↔ x = 0 ∧ y = 0 ∧ z = 0 := by
      rw [show orU (orU (orU 0 x) y) z = 0 ↔ _ from orU_zero o2 hz, show orU (orU 0 x) y = 0 ↔ _ from orU_zero o1 hy, show orU 0 x = 0 ↔ _ from orU_zero (by omega) hx]
      simp only [true_and]
      constructor
      · rintro ⟨⟨a, b⟩, c⟩; exact ⟨a, b, c⟩
      · rintro ⟨a, b, c⟩; exact ⟨⟨a, b⟩, c⟩
    rw [L28_eq (k + 2) (e x hx.1 hx.2) (e y hy.1 hy.2) (e z hz.1 hz.2) (by omega)]
    simp only [q3]
end Go.Eng.Pu

/- What the plain functions of puncture come to: rates, names, what is sent. No condition. -/
namespace Go.Eng.Pu
open Go Go.Eng Go.Proofs
theorem tmod_nat (a b : Nat) : (a : Int).tmod b = ((a % b : Nat) : Int) := by
  rw [Int.tmod_eq_emod_of_nonneg (by omega)]; exact (Int.natCast_emod a b).symm
theorem gcd24 {n per : Int} {keep : List Int} {K : Nat} : ∀ (b a k : Nat), 0 < a → L24_6 K (k + b + 1) ((), n, (a : Int), (b : Int), ()) ((per, keep, ()), ()) =
    some ((IntKind.wrap IntKind.i64 (Int.tdiv per (Nat.gcd a b : Nat)), IntKind.wrap IntKind.i64 (Int.tdiv n (Nat.gcd a b : Nat)), 0, ()), ()) := by
  intro b
  induction b using Nat.strongRecOn with
  | ind b ih =>
    intro a k ha
    rw [L24_6]
    rcases Nat.eq_zero_or_pos b with hb | hb
    · subst hb
      rw [if_neg (by simp), if_neg (show ¬ (a : Int) = 0 by omega), if_neg (show ¬ (a : Int) = 0 by omega), Nat.gcd_zero_right]
    · rw [if_pos (show decide ((0 : Int) < b) = true by simp; omega), if_neg (show ¬ (b : Int) = 0 by omega), tmod_nat]
      have hlt := Nat.mod_lt a hb
      have := ih (a % b) hlt b (k + b - a % b - 1) hb
      rw [show k + b - a % b - 1 + a % b + 1 = k + b by omega] at this
      rw [this, Nat.gcd_comm b, ← Nat.gcd_rec, Nat.gcd_comm]
theorem down25 {K : Nat} {a b : Nat} (ha : 0 < a) (ha' : a ≤ 1000000) : ∀ (d c k : Nat), c = Nat.gcd a b + d → c ≤ a → L25_8 K (k + d + 1) ((a : Int), (b : Int), (c : Int), ()) () =
    some ((IntKind.wrap IntKind.i64 (Int.tdiv a (Nat.gcd a b : Nat)), IntKind.wrap IntKind.i64 (Int.tdiv b (Nat.gcd a b : Nat)), 0, ()), ()) := by
  have hg : 0 < Nat.gcd a b := Nat.gcd_pos_of_pos_left _ ha
  intro d
  induction d with
  | zero =>
    intro c k hc hca
    have hc : c = Nat.gcd a b := by omega
    subst hc
    rw [L25_8, tmod_nat, tmod_nat, Nat.mod_eq_zero_of_dvd (Nat.gcd_dvd_left a b), Nat.mod_eq_zero_of_dvd (Nat.gcd_dvd_right a b)]
    have h0 : ¬ ((Nat.gcd a b : Nat) : Int) = 0 := by omega
    simp only [if_neg h0]
    rfl
  | succ d ih =>
    intro c k hc hca
    have h0 : ¬ (c : Int) = 0 := by omega
    rw [show k + (d + 1) + 1 = (k + d + 1) + 1 by omega, L25_8, tmod_nat, tmod_nat, show IntKind.wrap IntKind.i64 ((c : Int) - 1) = ((c - 1 : Nat) : Int) from by rw [wi (by omega) (by omega)]; omega, ih (c - 1) k (by omega) (by omega), if_neg h0]
    by_cases h1 : decide (((a % c : Nat) : Int) = 0) = true
    · by_cases h2 : decide (((b % c : Nat) : Int) = 0) = true
      · exfalso
        have e1 : a % c = 0 := by simp only [decide_eq_true_eq] at h1; omega
        have e2 : b % c = 0 := by simp only [decide_eq_true_eq] at h2; omega
        have := Nat.le_of_dvd hg (Nat.dvd_gcd (Nat.dvd_of_mod_eq_zero e1) (Nat.dvd_of_mod_eq_zero e2))
        omega
      · rw [if_pos h1, if_neg h0, if_neg h2]
    · rw [if_neg h1]
/-- A pattern that is well. -/
theorem chk_pat {per x y z rate : Int} (hx : 0 ≤ x ∧ x < 18446744073709551616) (hy : 0 ≤ y ∧ y < 18446744073709551616) (hz : 0 ≤ z ∧ z < 18446744073709551616) (h : chk per x y z rate = 0) : Pat per [x, y, z] ∧ (rate = 2 ∨ rate = 3) := by
  unfold chk at h
  by_cases h1 : rate ≠ 2 ∧ rate ≠ 3
  · rw [if_pos h1] at h; cases h
  rw [if_neg h1] at h
  by_cases h2 : per < 1 ∨ 64 < per
  · rw [if_pos h2] at h; cases h
  refine ⟨⟨rfl, fun v hv => ?_, by omega, by omega⟩, by omega⟩
  simp only [List.mem_cons, List.not_mem_nil, or_false] at hv
  rcases hv with rfl | rfl | rfl <;> assumption
theorem rate_cases {rate : Int} (h : rate = 2 ∨ rate = 3) : ∃ r : Nat, rate = r ∧ 0 < r ∧ r ≤ 3 := by
  rcases h with rfl | rfl
  · exact ⟨2, rfl, by omega, by omega⟩
  · exact ⟨3, rfl, by omega, by omega⟩
section
variable {per x y z rate : Int} (hx : 0 ≤ x ∧ x < 18446744073709551616) (hy : 0 ≤ y ∧ y < 18446744073709551616) (hz : 0 ≤ z ∧ z < 18446744073709551616)
include hx hy hz
/-- What both rates come to. -/
theorem rate_ok : ∃ a b c : Int, ∃ K, ∀ k, K ≤ k → F24 k ((per, [x, y, z], ()), rate, ()) () = some ((a, b, c, ()), ()) ∧ F25 k ((per, [x, y, z], ()), rate, ()) () = some ((a, b, c, ()), ()) := by
  have e28 := fun k => chk28 (per := per) (rate := rate) hx hy hz k
  have e29 := fun k => chk29 (per := per) (rate := rate) hx hy hz k
  by_cases hc : chk per x y z rate = 0
  · obtain ⟨hp, hr⟩ := chk_pat hx hy hz hc
    obtain ⟨r, rfl, hr0, hr3⟩ := rate_cases hr
    have hlo := hp.lo
    have hhi := hp.hi
    obtain ⟨p, rfl⟩ := Int.eq_ofNat_of_zero_le (show 0 ≤ per by omega)
    obtain ⟨K1, h1⟩ := count_ok hp hr3 (S := p) (by omega)
    obtain ⟨K2, h2⟩ := sent_ok hp hr3 (S := p) (by omega)
    obtain ⟨n, hn⟩ := Int.eq_ofNat_of_zero_le (tot_le (p : Int) [x, y, z] r p).1
    refine ⟨IntKind.wrap IntKind.i64 (Int.tdiv p (Nat.gcd p n : Nat)), IntKind.wrap IntKind.i64 (Int.tdiv n (Nat.gcd p n : Nat)), 0, K1 + K2 + p + n + 10, fun k hk => ⟨?_, ?_⟩⟩
    · simp only [F24]
      rw [show k = k - 6 + 6 by omega, e28, hc, ← show k = k - 6 + 6 by omega]
      simp only [Option.bind_some, decide_true, Bool.not_true, Bool.false_eq_true, if_false]
      rw [h1 k (by omega)]
      simp only [Option.bind_some]
      rw [hn]
      have := gcd24 (n := (n : Int)) (per := (p : Int)) (keep := [x, y, z]) (K := k) n p (k - n - 1) (by omega)
      rw [show k - n - 1 + n + 1 = k by omega] at this
      exact this
    · simp only [F25]
      rw [show k = k - 5 + 5 by omega, e29, hc, ← show k = k - 5 + 5 by omega]
      simp only [Option.bind_some, decide_true, Bool.not_true, Bool.false_eq_true, if_false]
      rw [h2 k (by omega)]
      simp only [Option.bind_some]
      rw [hn]
      have hg := Nat.gcd_le_left n (show 0 < p by omega)
      have := down25 (K := k) (a := p) (b := n) (by omega) (by omega) (p - Nat.gcd p n) p (k - (p - Nat.gcd p n) - 1) (by omega) (Nat.le_refl _)
      rw [show k - (p - Nat.gcd p n) - 1 + (p - Nat.gcd p n) + 1 = k by omega] at this
      exact this
  · refine ⟨0, 0, chk per x y z rate, 10, fun k hk => ⟨?_, ?_⟩⟩
    · simp only [F24]
      rw [show k = k - 6 + 6 by omega, e28]
      simp [hc]
    · simp only [F25]
      rw [show k = k - 5 + 5 by omega, e29]
      simp [hc]
/-- What both tell of so many steps. -/
theorem sent2_ok {steps : Int} : ∃ n e : Int, ∃ K, ∀ k, K ≤ k → F26 k ((per, [x, y, z], ()), rate, steps, ()) () = some ((n, e, ()), ()) ∧ F27 k ((per, [x, y, z], ()), rate, steps, ()) () = some ((n, e, ()), ()) := by
  have e28 := fun k => chk28 (per := per) (rate := rate) hx hy hz k
  have e29 := fun k => chk29 (per := per) (rate := rate) hx hy hz k
  by_cases hc : chk per x y z rate = 0
  · obtain ⟨hp, hr⟩ := chk_pat hx hy hz hc
    obtain ⟨r, rfl, hr0, hr3⟩ := rate_cases hr
    by_cases hs : steps < 0 ∨ 1055 < steps
    · refine ⟨0, 1, 10, fun k hk => ⟨?_, ?_⟩⟩
      · simp only [F26]
        rw [show k = k - 6 + 6 by omega, e28, hc]
        rcases hs with hs | hs
        · simp [hs]
        · simp [hs]
      · simp only [F27]
        rw [show k = k - 5 + 5 by omega, e29, hc]
        rcases hs with hs | hs
        · simp [hs]
        · simp [hs]
    · obtain ⟨s, rfl⟩ := Int.eq_ofNat_of_zero_le (show 0 ≤ steps by omega)
      obtain ⟨K1, h1⟩ := count_ok hp hr3 (S := s) (by omega)
      obtain ⟨K2, h2⟩ := sent_ok hp hr3 (S := s) (by omega)
      have q1 : ¬ ((s : Int) < 0) := by omega
      have q2 : ¬ (1055 < (s : Int)) := by omega
      refine ⟨tot per [x, y, z] r s, 0, K1 + K2 + 10, fun k hk => ⟨?_, ?_⟩⟩
      · simp only [F26]
        rw [show k = k - 6 + 6 by omega, e28, hc, ← show k = k - 6 + 6 by omega, h1 k (by omega)]
        simp [q1, q2]
      · simp only [F27]
        rw [show k = k - 5 + 5 by omega, e29, hc, ← show k = k - 5 + 5 by omega, h2 k (by omega)]
        simp [q1, q2]
  · refine ⟨0, chk per x y z rate, 10, fun k hk => ⟨?_, ?_⟩⟩
    · simp only [F26]
      rw [show k = k - 6 + 6 by omega, e28]
      simp [hc]
    · simp only [F27]
      rw [show k = k - 5 + 5 by omega, e29]
      simp [hc]
end
theorem named_ok (s : List Int) (k : Nat) : F22 (k + 6) (s, ()) () = F23 (s, ()) () := by
  by_cases h1 : s = [114, 50, 51]
  · subst h1; rfl
  by_cases h2 : s = [114, 51, 52]
  · subst h2; rfl
  by_cases h3 : s = [114, 53, 54]
  · subst h3; rfl
  by_cases h4 : s = [114, 55, 56]
  · subst h4; rfl
  have e : ∀ t : List Int, ¬ s = t → ¬ t = s := fun t h h' => h h'.symm
  simp [F22, F23, F47, L22_2, v1, v2, v3, v4, h1, h2, h3, h4, e _ h1, e _ h2, e _ h3, e _ h4]
theorem named_some (s : List Int) : ∃ a b c, F23 (s, ()) () = some (((a, b, ()), c, ()), ()) := by
  simp only [F23]
  repeat' split
  all_goals exact ⟨_, _, _, rfl⟩
theorem live_ok (k : Nat) : F19 (k + 30) () () = some (true, ()) := by rfl
theorem tells {per x y z rate steps : Int} {name : List Int} (hx : 0 ≤ x ∧ x < 18446744073709551616) (hy : 0 ≤ y ∧ y < 18446744073709551616) (hz : 0 ≤ z ∧ z < 18446744073709551616) :
    ∃ k, F6 k ((per, [x, y, z], ()), rate, steps, name, ()) () = some (true, ()) := by
  obtain ⟨a, b, c, K1, h1⟩ := rate_ok (per := per) (rate := rate) hx hy hz
  obtain ⟨n, e, K2, h2⟩ := sent2_ok (per := per) (rate := rate) (steps := steps) hx hy hz
  obtain ⟨q, w, u, hn⟩ := named_some name
  refine ⟨K1 + K2 + 40, ?_⟩
  have e28 := chk28 (per := per) (rate := rate) hx hy hz (K1 + K2 + 34)
  have e29 := chk29 (per := per) (rate := rate) hx hy hz (K1 + K2 + 35)
  have e22 := named_ok name (K1 + K2 + 34)
  have el := live_ok (K1 + K2 + 10)
  simp only [show K1 + K2 + 34 + 6 = K1 + K2 + 40 by omega, show K1 + K2 + 35 + 5 = K1 + K2 + 40 by omega, show K1 + K2 + 10 + 30 = K1 + K2 + 40 by omega] at e28 e29 e22 el
  simp only [F6]
  rw [e22, hn, (h1 _ (show K1 ≤ K1 + K2 + 40 by omega)).1, (h1 _ (show K1 ≤ K1 + K2 + 40 by omega)).2, (h2 _ (show K2 ≤ K1 + K2 + 40 by omega)).1, (h2 _ (show K2 ≤ K1 + K2 + 40 by omega)).2, e28, e29, el]
  simp [F15]
end Go.Eng.Pu

/- PunctureWidens in plain Lean. No condition. -/
namespace Go.Eng.Pu
open Go Go.Eng Go.Proofs
/-- An entry that is well. -/
def wellT (n : Int) (m : List Int) (b r : Nat) : Prop := -4096 ≤ m.getD (b * 16 + r) 0 ∧ m.getD (b * 16 + r) 0 ≤ 4096 ∧ (n ≤ (r : Int) → m.getD (b * 16 + r) 0 = 0)
section
variable {n : Int} {m : List Int}
theorem row32 {b : Nat} (hb : b < 2) {d : Nat} : ∀ (r : Nat), r + d = 16 → ∀ {c0 : Int} {K0 : Nat} {G : Prop}, (∀ k, K0 ≤ k → L32_4 k ((), ((b + 1 : Nat) : Int), ()) ((n, m, ()), ()) = some (c0, ())) → (c0 = 0 ↔ G) → c0 = 0 ∨ c0 = 100 →
    ∃ c, (∀ k, K0 + d + 1 ≤ k → L32_7 k ((), (b : Int), (r : Int), ()) ((n, m, ()), ()) = some (c, ())) ∧ (c = 0 ↔ (∀ r', r ≤ r' → r' < 16 → wellT n m b r') ∧ G) ∧ (c = 0 ∨ c = 100) := by
  induction d with
  | zero =>
    intro r hr c0 K0 G h0 hG hc
    refine ⟨c0, fun k hk => ?_, ?_, hc⟩
    · obtain ⟨j, rfl⟩ : ∃ j, k = j + 1 := ⟨k - 1, by omega⟩
      rw [L32_7, if_neg (show ¬ decide ((r : Int) < 16) = true by simp; omega), wi (n := (b : Int) + 1) (by omega) (by omega), show (b : Int) + 1 = ((b + 1 : Nat) : Int) by omega]
      exact h0 j (by omega)
    · rw [hG]; constructor
      · exact fun g => ⟨fun r' h1 h2 => by omega, g⟩
      · exact fun g => g.2
  | succ d ih =>
    intro r hr c0 K0 G h0 hG hc
    obtain ⟨c1, h1, h2, h3⟩ := ih (r + 1) (by omega) h0 hG hc
    have idx : (Int.toNat (b : Int)) * 16 + (Int.toNat (r : Int)) * 1 = b * 16 + r := by simp
    have step : ∀ j, L32_7 (j + 1) ((), (b : Int), (r : Int), ()) ((n, m, ()), ()) = if m.getD (b * 16 + r) 0 < -4096 then some (100, ()) else if 4096 < m.getD (b * 16 + r) 0 then some (100, ()) else if n ≤ (r : Int) then (if ¬ m.getD (b * 16 + r) 0 = 0 then some (100, ()) else L32_7 j ((), (b : Int), ((r + 1 : Nat) : Int), ()) ((n, m, ()), ())) else L32_7 j ((), (b : Int), ((r + 1 : Nat) : Int), ()) ((n, m, ()), ()) := fun j => by
      rw [L32_7, if_pos (show decide ((r : Int) < 16) = true by simp; omega), if_pos (show (0 : Int) ≤ (b : Int) ∧ (b : Int) < 2 by omega), if_pos (show (0 : Int) ≤ (r : Int) ∧ (r : Int) < 16 by omega), idx, if_pos (show b * 16 + r < 32 by omega), wi (n := (r : Int) + 1) (by omega) (by omega), show (r : Int) + 1 = ((r + 1 : Nat) : Int) by omega]
      simp only [decide_eq_true_eq, Bool.not_eq_true', decide_eq_false_iff_not]
    have split' : (∀ r', r ≤ r' → r' < 16 → wellT n m b r') ↔ wellT n m b r ∧ ∀ r', r + 1 ≤ r' → r' < 16 → wellT n m b r' := by
      constructor
      · exact fun h => ⟨h r (Nat.le_refl _) (by omega), fun r' a b => h r' (by omega) b⟩
      · rintro ⟨a, b⟩ r' c d
        rcases Nat.eq_or_lt_of_le c with rfl | c
        · exact a
        · exact b r' c d
    by_cases hw : wellT n m b r
    · refine ⟨c1, fun k hk => ?_, ?_, h3⟩
      · obtain ⟨j, rfl⟩ : ∃ j, k = j + 1 := ⟨k - 1, by omega⟩
        rw [step, if_neg (by have := hw.1; omega), if_neg (by have := hw.2.1; omega)]
        by_cases hn : n ≤ (r : Int)
        · rw [if_pos hn, if_neg (fun h => h (hw.2.2 hn))]; exact h1 j (by omega)
        · rw [if_neg hn]; exact h1 j (by omega)
      · rw [h2, split']; simp [hw]
    · refine ⟨100, fun k hk => ?_, ?_, .inr rfl⟩
      · obtain ⟨j, rfl⟩ : ∃ j, k = j + 1 := ⟨k - 1, by omega⟩
        rw [step]
        by_cases a : m.getD (b * 16 + r) 0 < -4096
        · rw [if_pos a]
        · rw [if_neg a]
          by_cases a2 : 4096 < m.getD (b * 16 + r) 0
          · rw [if_pos a2]
          · rw [if_neg a2]
            by_cases hn : n ≤ (r : Int)
            · rw [if_pos hn]
              by_cases a3 : m.getD (b * 16 + r) 0 = 0
              · exact (hw ⟨by omega, by omega, fun _ => a3⟩).elim
              · rw [if_pos a3]
            · exact (hw ⟨by omega, by omega, fun h => (hn h).elim⟩).elim
      · constructor
        · intro h; cases h
        · rw [split']; exact fun h => (hw h.1.1).elim
theorem all32 : ∃ c K, (∀ k, K ≤ k → L32_4 k ((), 0, ()) ((n, m, ()), ()) = some (c, ())) ∧ (c = 0 ↔ ∀ b r, b < 2 → r < 16 → wellT n m b r) ∧ (c = 0 ∨ c = 100) := by
  have h2 : ∀ k, 1 ≤ k → L32_4 k ((), ((1 + 1 : Nat) : Int), ()) ((n, m, ()), ()) = some (0, ()) := fun k hk => by
    obtain ⟨j, rfl⟩ : ∃ j, k = j + 1 := ⟨k - 1, by omega⟩
    rw [L32_4, if_neg (by decide)]
  obtain ⟨c1, a1, b1, d1⟩ := row32 (n := n) (m := m) (b := 1) (by omega) (d := 16) 0 rfl (G := True) h2 (by simp) (.inl rfl)
  have h1 : ∀ k, 19 ≤ k → L32_4 k ((), ((0 + 1 : Nat) : Int), ()) ((n, m, ()), ()) = some (c1, ()) := fun k hk => by
    obtain ⟨j, rfl⟩ : ∃ j, k = j + 1 := ⟨k - 1, by omega⟩
    rw [L32_4, if_pos (by decide)]; exact a1 j (by omega)
  obtain ⟨c0, a0, b0, d0⟩ := row32 (n := n) (m := m) (b := 0) (by omega) (d := 16) 0 rfl h1 b1 d1
  refine ⟨c0, 40, fun k hk => ?_, ?_, d0⟩
  · obtain ⟨j, rfl⟩ : ∃ j, k = j + 1 := ⟨k - 1, by omega⟩
    rw [L32_4, if_pos (by decide)]; exact a0 j (by omega)
  · rw [b0]
    constructor
    · rintro ⟨p, q, _⟩ b r hb hr
      rcases (show b = 0 ∨ b = 1 by omega) with rfl | rfl
      · exact p r (Nat.zero_le _) hr
      · exact q r (Nat.zero_le _) hr
    · exact fun h => ⟨fun r _ hr => h 0 r (by omega) hr, fun r _ hr => h 1 r (by omega) hr, trivial⟩
theorem row_get {b r : Nat} (hr : r < 16) : List.getD (List.take 16 (List.drop (b * 16) m)) r 0 = m.getD (b * 16 + r) 0 := by
  simp [List.getD_eq_getElem?_getD, List.getElem?_take, hr, List.getElem?_drop]
/-- Both checks go in step. -/
theorem both49 : ∀ k, (∀ b r : Nat, b < 2 → r ≤ 16 → L49_7 k ((), m, (b : Int), List.take 16 (List.drop (b * 16) m), (r : Int), ()) ((n, m, ()), ()) = L32_7 k ((), (b : Int), (r : Int), ()) ((n, m, ()), ())) ∧
    ∀ b : Nat, b ≤ 2 → L49_4 k ((), m, (b : Int), ()) ((n, m, ()), ()) = L32_4 k ((), (b : Int), ()) ((n, m, ()), ())
  | 0 => ⟨fun _ _ _ _ => rfl, fun _ _ => rfl⟩
  | k + 1 => by
    obtain ⟨h7, h4⟩ := both49 k
    constructor
    · intro b r hb hr
      have idx : (Int.toNat (b : Int)) * 16 + (Int.toNat (r : Int)) * 1 = b * 16 + r := by simp
      have e1 : IntKind.wrap IntKind.i64 ((b : Int) + 1) = ((b + 1 : Nat) : Int) := by rw [wi (by omega) (by omega)]; omega
      have e2 : IntKind.wrap IntKind.i64 ((r : Int) + 1) = ((r + 1 : Nat) : Int) := by rw [wi (by omega) (by omega)]; omega
      rw [L49_7, L32_7, e1, e2, h4 (b + 1) (by omega), idx]
      by_cases h16 : r < 16
      · rw [Int.toNat_natCast, row_get h16, if_pos (show decide ((r : Int) < 16) = true by simp; omega), if_pos (show decide ((r : Int) < 16) = true by simp; omega), if_pos (show (0 : Int) ≤ (r : Int) ∧ (r : Int) < 16 by omega), if_pos (show (0 : Int) ≤ (b : Int) ∧ (b : Int) < 2 by omega), if_pos (show (0 : Int) ≤ (r : Int) ∧ (r : Int) < 16 by omega), if_pos (show b * 16 + r < 32 by omega), h7 b (r + 1) hb (by omega)]
      · rw [if_neg (show ¬ decide ((r : Int) < 16) = true by simp; omega), if_neg (show ¬ decide ((r : Int) < 16) = true by simp; omega)]
    · intro b hb
      rw [L49_4, L32_4]
      by_cases h2 : b < 2
      · have := h7 b 0 h2 (by omega)
        have this : L49_7 k ((), m, (b : Int), List.take 16 (List.drop (b * 16) m), 0, ()) ((n, m, ()), ()) = L32_7 k ((), (b : Int), 0, ()) ((n, m, ()), ()) := this
        rw [if_pos (show decide ((b : Int) < 2) = true by simp; omega), if_pos (show decide ((b : Int) < 2) = true by simp; omega), if_pos (show (0 : Int) ≤ (b : Int) ∧ (b : Int) < 2 by omega), Int.toNat_natCast, this]
      · rw [if_neg (show ¬ decide ((b : Int) < 2) = true by simp; omega), if_neg (show ¬ decide ((b : Int) < 2) = true by simp; omega)]
theorem same49 (k : Nat) : F49 k ((n, m, ()), ()) () = F32 k ((n, m, ()), ()) () := by
  have h := (both49 (n := n) (m := m) k).2 0 (by omega)
  have h : L49_4 k ((), m, 0, ()) ((n, m, ()), ()) = L32_4 k ((), 0, ()) ((n, m, ()), ()) := h
  simp only [F49, F32, h]
theorem chk32 : ∃ c K, (∀ k, K ≤ k → F32 k ((n, m, ()), ()) () = some (c, ())) ∧ (c = 0 ↔ 2 ≤ n ∧ n ≤ 16 ∧ ∀ b r, b < 2 → r < 16 → wellT n m b r) := by
  obtain ⟨c, K, h1, h2, h3⟩ := all32 (n := n) (m := m)
  by_cases a : n < 2
  · refine ⟨100, 0, fun k _ => ?_, ?_⟩
    · simp only [F32]; rw [if_pos (by simpa using a)]
    · constructor
      · intro h; cases h
      · rintro ⟨h, _⟩; omega
  · by_cases b : 16 < n
    · refine ⟨100, 0, fun k _ => ?_, ?_⟩
      · simp only [F32]; rw [if_neg (by simpa using a), if_pos (by simpa using b)]
      · constructor
        · intro h; cases h
        · rintro ⟨_, h, _⟩; omega
    · refine ⟨c, K, fun k hk => ?_, ?_⟩
      · simp only [F32]; rw [if_neg (by simpa using a), if_neg (by simpa using b)]; exact h1 k hk
      · rw [h2]; constructor
        · exact fun h => ⟨by omega, by omega, h⟩
        · exact fun h => h.2.2
theorem widens : ∃ k, F8 k ((n, m, ()), ()) () = some (true, ()) := by
  obtain ⟨c, K1, h1, g1⟩ := chk32 (n := n) (m := m)
  obtain ⟨c', K2, h2, g2⟩ := chk32 (n := n + 1) (m := m)
  have hlive : ∀ k, 30 ≤ k → F19 k () () = some (true, ()) := fun k hk => by have := live_ok (k - 30); rwa [show k - 30 + 30 = k by omega] at this
  refine ⟨K1 + K2 + 30, ?_⟩
  generalize hk : K1 + K2 + 30 = k
  have e1 := h1 k (by omega)
  have e2 := h2 k (by omega)
  have e3 := hlive k (by omega)
  simp only [F8, F30, F31]
  rw [same49, e1]
  simp only [Option.bind_some]
  by_cases hc : c = 0
  · by_cases h16 : n = 16
    · simp [hc, h16, F15, e3]
    · have hn := g1.1 hc
      have hc' : c' = 0 := g2.2 ⟨by omega, by omega, fun b r hb hr => by
        obtain ⟨q1, q2, q3⟩ := hn.2.2 b r hb hr
        exact ⟨q1, q2, fun h => q3 (by omega)⟩⟩
      have ew : IntKind.wrap IntKind.i64 (n + 1) = n + 1 := wi (by omega) (by omega)
      simp [hc, h16, F15, e3, ew, e2, hc']
  · simp [hc, F15, e3]
end
end Go.Eng.Pu

