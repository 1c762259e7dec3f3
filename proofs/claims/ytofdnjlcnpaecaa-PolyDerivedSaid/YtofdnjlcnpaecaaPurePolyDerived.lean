/- The plain statement of PolyDerived: the law of the derivative of a product, and a square divides just when the polynomial and its derivative have something in common. No condition. -/
import Derived.Test.YtofdnjlcnpaecaaPPolyDerived
import Derived.Test.YtofdnjlcnpaecaaBr16
import Derived.Test.YtofdnjlcnpaecaaGd
set_option linter.unusedVariables false
namespace Go.Proofs.Ytofdnjlcnpaecaa.Pure
open Go.RowKit Go.Proofs.Ytofdnjlcnpaecaa.P Go.Proofs.YtofdnjlcnpaecaaW.PrintWords Go.Proofs.YtofdnjlcnpaecaaW.PrintLast

theorem drv_der {a : Nat} (ha : a < 18446744073709551616) : drv a = Gf.der a := by
  apply Nat.eq_of_testBit_eq; intro t
  rw [drv_bit, Gf.der_bit]
  by_cases h : t < 64
  · rw [decide_eq_true h, Bool.true_and]
  · rw [Nat.testBit_lt_two_pow (Nat.lt_of_lt_of_le (show a < 2 ^ 64 from ha) (Nat.pow_le_pow_right (by decide) (by omega)))]; rfl
/-- the loop: is one of the counts above 1? -/
theorem derived_l0 {a : Nat} (ha : a < 18446744073709551616) {l : List S40} (hl : l.length < 1000000000000) (hv : ((∃ x ∈ l, x.f1 > 1) ↔ Gf.gcd a (drv a) ≠ 1)) : ∀ d i : Nat, ∀ b : Bool, i + d = l.length → (b = true ↔ ∃ j, j < i ∧ ∃ h : j < l.length, (l[j]).f1 > 1) →
    Ev (fun k => outpostlaw02_PolyDerived.l0 k (a : Int) l b (i : Int)) true := by
  intro d
  induction d with
  | zero =>
    intro i b h hb
    have hbv : b = (((Gf.gcd a (drv a) : Nat) : Int) != 1) := by
      rw [Bool.eq_iff_iff, hb, bne_iff_ne, show (((Gf.gcd a (drv a) : Nat) : Int) ≠ 1 ↔ Gf.gcd a (drv a) ≠ 1) by omega, ← hv]
      constructor
      · rintro ⟨j, _, hj, h2⟩; exact ⟨l[j], List.getElem_mem hj, h2⟩
      · rintro ⟨x, hx, h2⟩
        obtain ⟨j, hj, rfl⟩ := List.getElem_of_mem hx
        exact ⟨j, by omega, hj, h2⟩
    refine Ev.step (f := fun k => (poly_Derive.f (a : Int)).bind fun t185 => ((poly_Gcd.f k (a : Int) t185).bind fun t186 => (if (b == (t186 != 1)) = true then ((outpostlaw02_live.f k).bind fun t187 => (some t187)) else (some false)))) (fun k => ?_) ?_
    · simp only [outpostlaw02_PolyDerived.l0]; rw [if_neg (by omega)]
    · refine Ev.some_bind (poly_Derive.eq ha) (Ev.bind (poly_Gcd.ev _ _ ha (drv_lt a)) (Ev.pos ?_ (Ev.live (Ev.now _))))
      rw [hbv]; exact beq_self_eq_true _
  | succ d ih =>
    intro i b h hb
    have hi : i < l.length := by omega
    have e : wrap64 ((i : Int) + 1) = ((i + 1 : Nat) : Int) := by unfold wrap64; omega
    have hr : rd_T40 l (i : Int) = l[i] := by
      unfold rd_T40
      simp [hi]
    refine Ev.step (fun k => ?_) (ih (i + 1) (if b = true then true else decide ((rd_T40 l (i : Int)).f1 > 1)) (by omega) ?_)
    · simp only [outpostlaw02_PolyDerived.l0]
      rw [if_pos (by omega), e]
      cases b
      · rw [if_neg (by decide), if_pos (by omega), if_neg (by decide)]
      · rw [if_pos rfl, if_pos rfl]
    · rw [hr]
      cases b
      · rw [if_neg (by decide), decide_eq_true_iff]
        have hb' : ¬ ∃ j, j < i ∧ ∃ h : j < l.length, (l[j]).f1 > 1 := fun h => by have := hb.2 h; exact absurd this (by decide)
        constructor
        · intro h1; exact ⟨i, by omega, hi, h1⟩
        · rintro ⟨j, h1, h2, h3⟩
          by_cases e : j = i
          · subst e; exact h3
          · exact absurd ⟨j, by omega, h2, h3⟩ hb'
      · rw [if_pos rfl]
        obtain ⟨j, h1, h2⟩ := hb.1 rfl
        exact ⟨fun _ => ⟨j, by omega, h2⟩, fun _ => rfl⟩
theorem derived_j1t {a : Int} {l : List S40} : Ev (fun k => outpostlaw02_PolyDerived.j1 k a l true) true := by
  refine Ev.step (f := fun k => (outpostlaw02_live.f k).bind fun t => (some t)) (fun k => ?_) (Ev.live (Ev.now _))
  simp only [outpostlaw02_PolyDerived.j1]; rfl
theorem derived_j0 {a : Nat} (ha : a < 18446744073709551616) : Ev (fun k => outpostlaw02_PolyDerived.j0 k (a : Int)) true := by
  refine Ev.step (f := fun k => (poly_Factor.f k (a : Int)).bind fun bt177 => ((outpostlaw02_num.f bt177.2).bind fun t181 => (if t181 = 0 then ((poly_Degree.f k (a : Int)).bind fun t182 => (outpostlaw02_PolyDerived.j1 k (a : Int) bt177.1 (decide (t182 < 1)))) else (outpostlaw02_PolyDerived.j1 k (a : Int) bt177.1 true)))) (fun k => ?_) ?_
  · simp only [outpostlaw02_PolyDerived.j0]
  · by_cases h0 : a = 0
    · subst h0
      exact Ev.bind poly_Factor.zero (Ev.some_bind rfl (Ev.neg (by decide) derived_j1t))
    · by_cases h32 : a.log2 ≤ 32
      · obtain ⟨r, hg, he⟩ := poly_Factor.ev h0 h32
        have hd := poly_Degree.ev ha
        rw [dg_pos h0] at hd
        refine Ev.bind he (Ev.some_bind rfl (Ev.pos rfl (Ev.bind hd ?_)))
        by_cases h1 : a.log2 < 1
        · rw [decide_eq_true (by omega)]; exact derived_j1t
        · rw [decide_eq_false (by omega)]
          have hl : r.length < 1000000000000 := by
            have hA := lt64_log2 h32
            have hb : ∀ (l : List S40) (lo hi : Int), Up l → (∀ x ∈ l, lo ≤ x.f0 ∧ x.f0 < hi) → (l.length : Int) ≤ (if lo ≤ hi then hi - lo else 0) := by
              intro l
              induction l with
              | nil => intro lo hi _ _; simp; split <;> omega
              | cons x l ih =>
                intro lo hi h hb
                obtain ⟨h1, h2⟩ := List.pairwise_cons.1 h
                have h3 := ih (x.f0 + 1) hi h2 fun y hy => ⟨by have := h1 y hy; omega, (hb y (by simp [hy])).2⟩
                have h4 := hb x (by simp)
                rw [List.length_cons]
                split at h3 <;> split <;> omega
            have h2 := hb r 0 8589934592 hg.up fun x hx => by
              obtain ⟨q, _, h2, rfl⟩ := (hg.mem x).1 hx
              have := Gf.le_of_dvd h0 h2
              exact ⟨Int.natCast_nonneg q, by show (q : Int) < _; omega⟩
            split at h2 <;> omega
          refine Ev.step (fun k => ?_) (derived_l0 ha hl ?_ r.length 0 false (by omega) ?_)
          · simp only [outpostlaw02_PolyDerived.j1]; rw [if_neg (by decide)]; rfl
          · rw [drv_der ha, ← Gf.square_iff h0]
            constructor
            · rintro ⟨x, hx, h2⟩
              obtain ⟨q, hq, _, rfl⟩ := (hg.mem x).1 hx
              refine ⟨q, hq, ?_⟩
              have h3 : ((Gf.val q a : Nat) : Int) > 1 := h2
              omega
            · rintro ⟨p, hp, hv⟩
              have hd := (Gf.val_pos hp.two h0).1 (by omega)
              exact ⟨⟨(p : Int), ((Gf.val p a : Nat) : Int)⟩, (hg.mem _).2 ⟨p, hp, hd, rfl⟩, by show ((Gf.val p a : Nat) : Int) > 1; omega⟩
          · constructor
            · intro h; exact absurd h (by decide)
            · rintro ⟨j, h, _⟩; omega
      · exact Ev.bind (poly_Factor.long h0 ha (by omega)) (Ev.some_bind rfl (Ev.neg (by decide) derived_j1t))
theorem PolyDerived : outpostlaw02_PolyDerived.Pure := by
  intro a0 a1 h0 h1
  obtain ⟨a, rfl, ha⟩ := u64_nat h0
  obtain ⟨b, rfl, hb⟩ := u64_nat h1
  refine Ev.rounds (g := fun k => outpostlaw02_PolyDerived.f k (a : Int) (b : Int)) ?_
  unfold outpostlaw02_PolyDerived.f
  refine Ev.bind (poly_Mul.ev ha hb) ?_
  by_cases hh : hi a b = 0
  · have hlo : lo a b = Gf.mul a b := by
      have := whole_mul a b
      rw [hh, whole_zero] at this; exact this
    refine Ev.pos (cast_zero hh) (Ev.some_bind (poly_Derive.eq ha) (Ev.bind (poly_Mul.ev (drv_lt a) hb) (Ev.some_bind (poly_Derive.eq hb) (Ev.bind (poly_Mul.ev ha (drv_lt b)) (Ev.some_bind (poly_Derive.eq (lo_lt a b)) (Ev.pos ?_ (derived_j0 ha)))))))
    show ((drv (lo a b) : Nat) : Int) = Go.bits .xor .u64 ((lo (drv a) b : Nat) : Int) ((lo a (drv b) : Nat) : Int)
    rw [xor64 (lo_lt _ _) (lo_lt _ _)]
    congr 1
    have h2 := Gf.der_mul a b
    rw [← drv_der ha, ← drv_der hb, ← hlo, ← drv_der (lo_lt a b)] at h2
    unfold lo at h2 ⊢
    rw [← xor_mod64, ← h2, Nat.mod_eq_of_lt (drv_lt _)]
  · exact Ev.neg (cast_ne hh) (derived_j0 ha)
end Go.Proofs.Ytofdnjlcnpaecaa.Pure
