/- Rabin's test: what the program computes. No condition. -/
import Derived.Test.YtofdnjlcnpaecaaBr10
import Derived.Test.YtofdnjlcnpaecaaGf
import Derived.Test.YtofdnjlcnpaecaaP13
set_option linter.unusedVariables false
namespace Go.Proofs.Ytofdnjlcnpaecaa.P
open Go.RowKit Go.Proofs.YtofdnjlcnpaecaaW.PrintWords Go.Proofs.YtofdnjlcnpaecaaW.PrintLast Go.Proofs.YtofdnjlcnpaecaaW.PrintMore
theorem gcd_rem_left {z a : Nat} (ha : a ≠ 0) : Gf.gcd (Gf.rem z a) a = Gf.gcd z a := by rw [Gf.gcd_rem z a ha, Gf.gcd_comm]
theorem rem_sq {a i : Nat} (ha : a ≠ 0) : Gf.rem (Gf.mul (Gf.rem (Gf.sq i 2) a) (Gf.rem (Gf.sq i 2) a)) a = Gf.rem (Gf.sq (i + 1) 2) a := rem_mul_both _ _ _ ha
theorem poly_prime.ev_l0 {a n : Nat} (ha : a ≠ 0) (ha64 : a < 18446744073709551616) (hn : n ≤ 63) : ∀ d i : Nat, i + d = n → 
    ∃ t : Bool, Ev (fun k => poly_prime.l0 k (a : Int) (n : Int) ((Gf.rem (Gf.sq i 2) a : Nat) : Int) ((i + 1 : Nat) : Int)) t ∧
      (t = true ↔ (∀ j, i + 1 ≤ j → j < n → n % j = 0 → Gf.gcd (Gf.sq j 2 ^^^ 2) a = 1) ∧ Gf.Dvd a (Gf.sq n 2 ^^^ 2)) := by
  intro d
  induction d with
  | zero =>
    intro i h
    obtain rfl : i = n := by omega
    refine ⟨((Gf.rem (Gf.sq i 2) a : Nat) : Int) == ((Gf.rem 2 a : Nat) : Int), ?_, ?_⟩
    · refine Ev.step (f := fun k => (poly_rest.f k 2 (a : Int)).bind fun t267 => (some (((Gf.rem (Gf.sq i 2) a : Nat) : Int) == t267))) (fun k => ?_) (Ev.bind (poly_rest.ev (by decide) ha ha64) (Ev.now _))
      simp only [poly_prime.l0]; rw [if_neg (by omega)]
    · rw [beq_iff_eq, ← Gf.rem_eq_iff ha]
      constructor
      · intro e; exact ⟨fun j h1 h2 => by omega, Int.ofNat.inj e⟩
      · rintro ⟨_, e⟩; rw [e]
  | succ d ih =>
    intro i h
    obtain ⟨t, ht, hi⟩ := ih (i + 1) (by omega)
    have hr := rem_lt64 (a := Gf.sq i 2) ha ha64
    have e1 : wrap64 (((i + 1 : Nat) : Int) + 1) = ((i + 1 + 1 : Nat) : Int) := by unfold wrap64; omega
    have hm := poly_MulMod.ev hr hr ha ha64
    rw [rem_sq ha] at hm
    by_cases hc : i + 1 < n ∧ n % (i + 1) = 0
    · -- it is tested here
      have hr2 := rem_lt64 (a := Gf.sq (i + 1) 2) ha ha64
      have hr3 := rem_lt64 (a := 2) ha ha64
      have hg := poly_Gcd.ev a (Gf.rem (Gf.sq (i + 1) 2) a ^^^ Gf.rem 2 a) (xor64_lt hr2 hr3) ha64
      rw [← Gf.rem_xor _ _ _ ha, gcd_rem_left ha] at hg
      have run : ∀ r : Bool, Ev (fun k => if ((Gf.gcd (Gf.sq (i + 1) 2 ^^^ 2) a : Nat) : Int) = 1 then (poly_prime.l0 k (a : Int) (n : Int) ((Gf.rem (Gf.sq (i + 1) 2) a : Nat) : Int) ((i + 1 + 1 : Nat) : Int)) else some false) r → Ev (fun k => poly_prime.l0 k (a : Int) (n : Int) ((Gf.rem (Gf.sq i 2) a : Nat) : Int) ((i + 1 : Nat) : Int)) r := by
        intro r hrun
        refine Ev.step (f := fun k => (poly_MulMod.f k ((Gf.rem (Gf.sq i 2) a : Nat) : Int) ((Gf.rem (Gf.sq i 2) a : Nat) : Int) (a : Int)).bind fun bt268 => ((poly_rest.f k 2 (a : Int)).bind fun t270 => ((poly_Gcd.f k (Go.bits .xor .u64 bt268.1 t270) (a : Int)).bind fun t271 => (if t271 = 1 then (poly_prime.l0 k (a : Int) (n : Int) bt268.1 (wrap64 (((i + 1 : Nat) : Int) + 1))) else (some false))))) (fun k => ?_) ?_
        · simp only [poly_prime.l0]
          rw [if_pos (show ((i + 1 : Nat) : Int) ≤ (n : Int) by omega)]
          congr 1; funext bt
          rw [if_pos (show ((i + 1 : Nat) : Int) < (n : Int) by omega), if_neg (show ¬ ((i + 1 : Nat) : Int) = 0 by omega), if_pos (show Int.tmod (n : Int) ((i + 1 : Nat) : Int) = 0 by rw [← Int.ofNat_tmod, hc.2]; rfl)]
        · refine Ev.bind hm (Ev.bind (poly_rest.ev (by decide) ha ha64) ?_)
          rw [e1]
          show Ev (fun k => (poly_Gcd.f k (Go.bits .xor .u64 ((Gf.rem (Gf.sq (i + 1) 2) a : Nat) : Int) ((Gf.rem 2 a : Nat) : Int)) (a : Int)).bind fun t271 => (if t271 = 1 then (poly_prime.l0 k (a : Int) (n : Int) ((Gf.rem (Gf.sq (i + 1) 2) a : Nat) : Int) ((i + 1 + 1 : Nat) : Int)) else (some false))) r
          rw [xor64 hr2 hr3, ← Gf.rem_xor _ _ _ ha]
          exact Ev.bind hg hrun
      by_cases h1 : Gf.gcd (Gf.sq (i + 1) 2 ^^^ 2) a = 1
      · refine ⟨t, run t (Ev.pos (by rw [h1]; rfl) ht), ?_⟩
        rw [hi]
        constructor
        · rintro ⟨a1, a2⟩
          refine ⟨fun j j1 j2 j3 => ?_, a2⟩
          by_cases e : j = i + 1
          · rw [e]; exact h1
          · exact a1 j (by omega) j2 j3
        · rintro ⟨a1, a2⟩
          exact ⟨fun j j1 j2 j3 => a1 j (by omega) j2 j3, a2⟩
      · refine ⟨false, run false (Ev.neg (by omega) (Ev.now _)), ?_⟩
        constructor
        · intro e; exact absurd e (by decide)
        · rintro ⟨a1, _⟩; exact absurd (a1 (i + 1) (by omega) hc.1 hc.2) h1
    · refine ⟨t, ?_, ?_⟩
      · refine Ev.step (f := fun k => (poly_MulMod.f k ((Gf.rem (Gf.sq i 2) a : Nat) : Int) ((Gf.rem (Gf.sq i 2) a : Nat) : Int) (a : Int)).bind fun bt268 => (poly_prime.l0 k (a : Int) (n : Int) bt268.1 (wrap64 (((i + 1 : Nat) : Int) + 1)))) (fun k => ?_) ?_
        · simp only [poly_prime.l0]
          rw [if_pos (show ((i + 1 : Nat) : Int) ≤ (n : Int) by omega)]
          congr 1; funext bt
          by_cases h1 : i + 1 < n
          · rw [if_pos (show ((i + 1 : Nat) : Int) < (n : Int) by omega), if_neg (show ¬ ((i + 1 : Nat) : Int) = 0 by omega), if_neg (show ¬ Int.tmod (n : Int) ((i + 1 : Nat) : Int) = 0 by rw [← Int.ofNat_tmod]; intro e; exact hc ⟨h1, Int.ofNat.inj e⟩)]
          · rw [if_neg (show ¬ ((i + 1 : Nat) : Int) < (n : Int) by omega)]
        · rw [e1]; exact Ev.bind hm ht
      · rw [hi]
        constructor
        · rintro ⟨a1, a2⟩
          refine ⟨fun j j1 j2 j3 => ?_, a2⟩
          by_cases e : j = i + 1
          · exact absurd ⟨e ▸ j2, e ▸ j3⟩ hc
          · exact a1 j (by omega) j2 j3
        · rintro ⟨a1, a2⟩
          exact ⟨fun j j1 j2 j3 => a1 j (by omega) j2 j3, a2⟩
theorem poly_prime.ev {a : Nat} (h2 : 2 ≤ a) (ha64 : a < 18446744073709551616) : ∃ t : Bool, Ev (fun k => poly_prime.f k (a : Int)) t ∧ (t = true ↔ Gf.Irr a) := by
  have ha : a ≠ 0 := by omega
  obtain ⟨t, ht, hi⟩ := poly_prime.ev_l0 ha ha64 (log2_le63 ha ha64) a.log2 0 (by omega)
  refine ⟨t, ?_, ?_⟩
  · have hd := poly_Degree.ev ha64
    rw [dg_pos ha] at hd
    unfold poly_prime.f
    exact Ev.bind hd (Ev.bind (poly_rest.ev (by decide) ha ha64) ht)
  · rw [hi, ← Gf.rabin h2]
    constructor
    · rintro ⟨a1, a2⟩; exact ⟨fun i i1 i2 i3 => a1 i (by omega) i2 i3, a2⟩
    · intro h; exact ⟨fun j j1 j2 j3 => h.low j (by omega) j2 j3, h.top⟩
theorem poly_Irreducible.ev {a : Nat} (h2 : 2 ≤ a) (h32 : a.log2 ≤ 32) (ha64 : a < 18446744073709551616) : ∃ t : Bool, Ev (fun k => poly_Irreducible.f k (a : Int)) (t, 0) ∧ (t = true ↔ Gf.Irr a) := by
  obtain ⟨t, ht, hi⟩ := poly_prime.ev h2 ha64
  refine ⟨t, ?_, hi⟩
  have h1 := Gf.log2_pos h2
  have hd := dg_pos (show a ≠ 0 by omega)
  unfold poly_Irreducible.f
  exact Ev.bind (poly_Degree.ev ha64) (Ev.neg (by omega) (Ev.neg (by omega) (Ev.bind ht (Ev.now _))))
theorem poly_Irreducible.bad {a : Nat} (h : ¬ (2 ≤ a ∧ a.log2 ≤ 32)) (ha64 : a < 18446744073709551616) : Ev (fun k => poly_Irreducible.f k (a : Int)) (false, 21) := by
  unfold poly_Irreducible.f
  refine Ev.bind (poly_Degree.ev ha64) ?_
  by_cases h2 : 2 ≤ a
  · have h1 := Gf.log2_pos h2
    have hd := dg_pos (show a ≠ 0 by omega)
    exact Ev.neg (by omega) (Ev.pos (by omega) (Ev.now _))
  · refine Ev.pos ?_ (Ev.now _)
    obtain rfl | rfl : a = 0 ∨ a = 1 := by omega
    · decide
    · unfold dg; rw [if_neg (by decide), show Nat.log2 1 = 0 by decide]; decide
end Go.Proofs.Ytofdnjlcnpaecaa.P
