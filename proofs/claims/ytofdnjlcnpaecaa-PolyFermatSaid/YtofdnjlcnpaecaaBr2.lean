import Derived.Test.YtofdnjlcnpaecaaP3
import Derived.Test.YtofdnjlcnpaecaaBr1
namespace Go.Proofs.Ytofdnjlcnpaecaa.P
open Go.RowKit Go.Proofs.YtofdnjlcnpaecaaW.PrintWords Go.Proofs.YtofdnjlcnpaecaaW.PrintLast Go.Proofs.YtofdnjlcnpaecaaW.PrintMore
set_option linter.unusedVariables false
set_option linter.unusedSimpArgs false
/-! ### Degree -/
theorem nat_div (a n : Nat) : (a : Int) / (n : Int) = ((a / n : Nat) : Int) := rfl
theorem len8 : ∀ i : Nat, i < 256 → (if i = 0 then 0 else i.log2 + 1) = (if i ≥ 128 then 8 else if i ≥ 64 then 7 else if i ≥ 32 then 6 else if i ≥ 16 then 5 else if i ≥ 8 then 4 else if i ≥ 4 then 3 else if i ≥ 2 then 2 else i) := by decide +kernel
theorem len_table (i : Nat) (h : i < 256) : ∀ T : ByteArray, (∀ i : Nat, i < 256 → bt T (i : Int) = ((if i ≥ 128 then 8 else if i ≥ 64 then 7 else if i ≥ 32 then 6 else if i ≥ 16 then 5 else if i ≥ 8 then 4 else if i ≥ 4 then 3 else if i ≥ 2 then 2 else i : Nat) : Int)) → wrap64 (bt T (i : Int)) = (len i : Nat) := by
  intro T hT
  rw [hT i h, ← len8 i h]
  have : (if i = 0 then 0 else i.log2 + 1) ≤ 8 := by
    rw [len8 i h]; (repeat' split) <;> omega
  unfold len wrap64
  omega
theorem len_le {a n : Nat} (h : a < 2 ^ n) : len a ≤ n := by
  unfold len
  split
  · omega
  · rename_i h0
    have := (Nat.log2_lt h0).2 h
    omega
set_option maxRecDepth 100000 in
set_option maxHeartbeats 4000000 in
theorem bits_Len64.ev_j0 {x n : Nat} (hx : x < 4294967296) (hn : n ≤ 32) (k : Nat) : bits_Len64.j0 (k + 1) (x : Int) (n : Int) = some ((len x + n : Nat) : Int) := by
  have w1 : ∀ y : Nat, y ≤ 100 → wrap64 (y : Int) = (y : Int) := by intro y hy; unfold wrap64; omega
  have a1 : wrap64 ((n : Int) + 16) = ((n + 16 : Nat) : Int) := by unfold wrap64; omega
  have a2 : wrap64 (((n + 16 : Nat) : Int) + 8) = ((n + 24 : Nat) : Int) := by unfold wrap64; omega
  have a3 : wrap64 ((n : Int) + 8) = ((n + 8 : Nat) : Int) := by unfold wrap64; omega
  have fin : ∀ i m : Nat, i < 256 → m ≤ 100 → wrap64 ((m : Int) + ((len i : Nat) : Int)) = ((len i + m : Nat) : Int) := by
    intro i m hi hm
    have := len_le (n := 8) hi
    unfold wrap64; omega
  simp only [bits_Len64.j0]
  by_cases h1 : (x : Int) ≥ 65536
  · rw [if_pos h1]
    have d1 : (x : Int) / 65536 = ((x / 65536 : Nat) : Int) := rfl
    have l1 : len x = len (x / 65536) + 16 := len_div 16 (by simp; omega)
    rw [d1]
    by_cases h2 : ((x / 65536 : Nat) : Int) ≥ 256
    · rw [if_pos h2]
      have d2 : ((x / 65536 : Nat) : Int) / 256 % 256 = ((x / 65536 / 256 : Nat) : Int) := by omega
      have l2 : len (x / 65536) = len (x / 65536 / 256) + 8 := len_div 8 (by simp; omega)
      rw [d2, if_pos (by omega), if_pos (by omega), a1, a2, len_table _ (by omega) _ (by decide +kernel), fin _ _ (by omega) (by omega), l1, l2]
      congr 1; omega
    · rw [if_neg h2]
      have d2 : ((x / 65536 : Nat) : Int) % 256 = ((x / 65536 : Nat) : Int) := by omega
      rw [d2, if_pos (by omega), if_pos (by omega), a1, len_table _ (by omega) _ (by decide +kernel), fin _ _ (by omega) (by omega), l1]
      congr 1; omega
  · rw [if_neg h1]
    by_cases h2 : (x : Int) ≥ 256
    · rw [if_pos h2]
      have d2 : (x : Int) / 256 % 256 = ((x / 256 : Nat) : Int) := by omega
      have l2 : len x = len (x / 256) + 8 := len_div 8 (by simp; omega)
      rw [d2, if_pos (by omega), if_pos (by omega), a3, len_table _ (by omega) _ (by decide +kernel), fin _ _ (by omega) (by omega), l2]
      congr 1; omega
    · rw [if_neg h2]
      have d2 : (x : Int) % 256 = (x : Int) := by omega
      rw [d2, if_pos (by omega), if_pos (by omega), len_table _ (by omega) _ (by decide +kernel), fin _ _ (by omega) (by omega)]
theorem bits_Len64.ev {x : Nat} (hx : x < 18446744073709551616) : Ev (fun k => bits_Len64.f k (x : Int)) ((len x : Nat) : Int) := by
  refine ⟨1, fun k hk => ?_⟩
  obtain ⟨k, rfl⟩ : ∃ m, k = m + 1 := ⟨k - 1, by omega⟩
  show bits_Len64.f (k + 1) (x : Int) = _
  unfold bits_Len64.f
  by_cases h : (x : Int) ≥ 4294967296
  · rw [if_pos h]
    have d1 : (x : Int) / 4294967296 = ((x / 4294967296 : Nat) : Int) := rfl
    have l1 : len x = len (x / 4294967296) + 32 := len_div 32 (by simp; omega)
    rw [d1]
    have := bits_Len64.ev_j0 (x := x / 4294967296) (n := 32) (by omega) (by omega) k
    rw [l1]; exact this
  · rw [if_neg h]
    have := bits_Len64.ev_j0 (x := x) (n := 0) (by omega) (by omega) k
    exact this
theorem dg_len (a : Nat) : dg a = (len a : Int) - 1 := by unfold dg len; split <;> simp
theorem dg_le {a n : Nat} (h : a < 2 ^ n) : dg a < n := by rw [dg_len]; have := len_le h; omega
theorem dg_ge (a : Nat) : -1 ≤ dg a := by rw [dg_len]; omega
theorem dg_lt64 {a : Nat} (h : a < 18446744073709551616) : dg a ≤ 63 := by have := dg_le (n := 64) h; omega
theorem dg_pos {a : Nat} (h : a ≠ 0) : dg a = (a.log2 : Int) := if_neg h
theorem poly_Degree.ev {a : Nat} (ha : a < 18446744073709551616) : Ev (fun k => poly_Degree.f k (a : Int)) (dg a) := by
  unfold poly_Degree.f
  refine Ev.bind (bits_Len64.ev ha) ?_
  have : wrap64 ((len a : Nat) - 1 : Int) = dg a := by
    rw [dg_len]
    have := len_le (n := 64) ha
    unfold wrap64; omega
  rw [this]
  exact Ev.now _
theorem outpostref02_Degree.ev {a : Nat} (ha : a < 18446744073709551616) : Ev (fun k => outpostref02_Degree.f k (a : Int)) (dg a) := by
  have gen : ∀ (d : Nat) (a : Nat) (n : Int), len a = d → -1 ≤ n → n + d ≤ 1000 → Ev (fun k => outpostref02_Degree.l0 k (a : Int) n) (n + d) := by
    intro d
    induction d with
    | zero =>
      intro a n hl h0 h1
      have : a = 0 := by unfold len at hl; split at hl <;> omega
      subst this
      refine Ev.step (f := fun _ => some n) (fun k => by simp only [outpostref02_Degree.l0]; rw [if_pos (by omega)]) ?_
      simpa using Ev.now n
    | succ d ih =>
      intro a n hl h0 h1
      have hz : a ≠ 0 := by
        intro e
        rw [e] at hl
        unfold len at hl
        simp at hl
      have hlen : len a = len (a / 2) + 1 := by
        by_cases h1 : a = 1
        · subst h1; decide +kernel
        · have := len_div (a := a) 1 (by omega)
          simpa using this
      have hw : wrap64 (n + 1) = n + 1 := by unfold wrap64; omega
      have dd : (a : Int) / 2 = ((a / 2 : Nat) : Int) := rfl
      have h := ih (a / 2) (n + 1) (by omega) (by omega) (by omega)
      have e : n + 1 + (d : Int) = n + ((d + 1 : Nat) : Int) := by omega
      rw [e] at h
      refine Ev.step (fun k => ?_) h
      simp only [outpostref02_Degree.l0]
      rw [if_neg (show ¬ ((a : Int) = 0) by omega), hw, dd]
  have h := gen (len a) a (-1) rfl (by omega) (by have := len_le (n := 64) ha; omega)
  have e : -1 + (len a : Int) = dg a := by rw [dg_len]; omega
  rw [e] at h
  exact h
end Go.Proofs.Ytofdnjlcnpaecaa.P
