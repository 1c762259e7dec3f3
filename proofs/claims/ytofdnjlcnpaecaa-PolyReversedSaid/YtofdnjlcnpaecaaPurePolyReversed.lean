/- The plain statement of PolyReversed: a word turned twice is what it was, and turning goes with products. No condition. -/
import Derived.Test.YtofdnjlcnpaecaaPPolyReversed
import Derived.Test.YtofdnjlcnpaecaaBr12
set_option linter.unusedVariables false
namespace Go.Proofs.Ytofdnjlcnpaecaa.Pure
open Go.RowKit Go.Proofs.Ytofdnjlcnpaecaa.P Go.Proofs.YtofdnjlcnpaecaaW.PrintWords Go.Proofs.YtofdnjlcnpaecaaW.PrintLast

theorem reversed_j1 {a b n m : Nat} (ha : a < 18446744073709551616) (hb : b < 18446744073709551616) (hn : n ≤ 63) (hm : m ≤ 63) (da : dg a ≤ n) (db : dg b ≤ m) :
    Ev (fun k => outpostlaw02_PolyReversed.j1 k ((rv n a : Nat) : Int) ((rv m b : Nat) : Int) (decide (wrap64 ((n : Int) + (m : Int)) > 63)) (a : Int) (b : Int) (n : Int) (m : Int)) true := by
  have hw : wrap64 ((n : Int) + (m : Int)) = ((n + m : Nat) : Int) := by unfold wrap64; omega
  rw [hw]
  by_cases h : n + m ≤ 63
  · rw [decide_eq_false (by omega)]
    have la := lt_of_dg da
    have lb := lt_of_dg db
    have hp := Gf.mul_lt (n := n + 1) (m := m) la lb
    have hp64 : Gf.mul a b < 18446744073709551616 := lt64_of (n := n + 1 + m) (by omega) hp
    have hlo : lo a b = Gf.mul a b := by unfold lo; exact Nat.mod_eq_of_lt hp64
    have hr := rv_mul la lb h
    have hhi : hi (rv n a) (rv m b) = 0 := by unfold hi; rw [hr]; exact Nat.div_eq_of_lt rv_lt
    have hl2 : lo (rv n a) (rv m b) = rv (n + m) (Gf.mul a b) := by unfold lo; rw [hr]; exact Nat.mod_eq_of_lt rv_lt
    have hd : dg (lo a b) ≤ ((n + m : Nat) : Int) := by
      rw [hlo]
      have := dg_le (n := n + 1 + m) hp; omega
    refine Ev.step (f := fun k => (poly_Mul.f k (a : Int) (b : Int)).bind fun bt211 => ((poly_Mul.f k ((rv n a : Nat) : Int) ((rv m b : Nat) : Int)).bind fun bt213 => ((poly_Reverse.f k bt211.2 (wrap64 ((n : Int) + (m : Int)))).bind fun bt215 => ((outpostlaw02_num.f bt215.2).bind fun t217 => (if t217 = 0 then (if bt213.1 = 0 then (some (bt215.1 == bt213.2)) else (some false)) else (some false)))))) (fun k => ?_) ?_
    · simp only [outpostlaw02_PolyReversed.j1]; rw [if_neg (by decide)]
    · rw [hw]
      refine Ev.bind (poly_Mul.ev ha hb) (Ev.bind (poly_Mul.ev rv_lt rv_lt) (Ev.bind (poly_Reverse.ev (lo_lt a b) h hd) (Ev.some_bind rfl (Ev.pos rfl (Ev.pos (cast_zero hhi) ?_)))))
      rw [hl2, hlo]
      exact Ev.all fun k => by simp
  · rw [decide_eq_true (by omega)]
    refine Ev.step (f := fun _ => some true) (fun k => ?_) (Ev.now _)
    simp only [outpostlaw02_PolyReversed.j1]; rfl
theorem reversed_j0 {a b n : Nat} {m : Int} (ha : a < 18446744073709551616) (hb : b < 18446744073709551616) (hn : n ≤ 63) (da : dg a ≤ n) :
    ∃ r e : Int, Ev (fun k => poly_Reverse.f k (b : Int) m) (r, e) ∧ Ev (fun k => outpostlaw02_PolyReversed.j0 k ((rv n a : Nat) : Int) r e false (a : Int) (b : Int) (n : Int) m) true := by
  by_cases hk : rvOk b m
  · obtain ⟨k1, k2, k3⟩ := hk
    obtain ⟨m, rfl⟩ : ∃ l : Nat, m = l := ⟨m.toNat, by omega⟩
    refine ⟨_, _, poly_Reverse.ev hb (by omega) k3, ?_⟩
    refine Ev.step (fun k => ?_) (reversed_j1 ha hb hn (by omega) da k3)
    simp only [outpostlaw02_PolyReversed.j0]; rw [if_neg (by decide)]; rfl
  · refine ⟨_, _, poly_Reverse.bad hb hk, ?_⟩
    have h1 : Ev (fun k => outpostlaw02_PolyReversed.j1 k ((rv n a : Nat) : Int) 0 true (a : Int) (b : Int) (n : Int) m) true := Ev.step (f := fun _ => some true) (fun k => by simp only [outpostlaw02_PolyReversed.j1]; rfl) (Ev.now _)
    refine Ev.step (fun k => ?_) h1
    simp only [outpostlaw02_PolyReversed.j0]; rw [if_neg (by decide)]; rfl
theorem PolyReversed : ∀ a0 a1 a2 a3 : Int, (Lit.int .u64 a0).wf = true → (Lit.int .u64 a1).wf = true → (Lit.int .i64 a2).wf = true → (Lit.int .i64 a3).wf = true → ∃ k, outpostlaw02_PolyReversed.f k a0 a1 a2 a3 = some true := by
  intro a0 a1 n m h0 h1 h2 h3
  obtain ⟨a, rfl, ha⟩ := u64_nat h0
  obtain ⟨b, rfl, hb⟩ := u64_nat h1
  refine Ev.rounds (g := fun k => outpostlaw02_PolyReversed.f k (a : Int) (b : Int) n m) ?_
  unfold outpostlaw02_PolyReversed.f
  by_cases hk : rvOk a n
  · obtain ⟨k1, k2, k3⟩ := hk
    obtain ⟨n, rfl⟩ : ∃ l : Nat, n = l := ⟨n.toNat, by omega⟩
    obtain ⟨r, e, e1, e2⟩ := reversed_j0 (m := m) ha hb (by omega) k3
    refine Ev.bind (poly_Reverse.ev ha (by omega) k3) (Ev.bind e1 (Ev.some_bind rfl (Ev.pos rfl ?_)))
    refine Ev.bind (poly_Reverse.ev rv_lt (by omega) (rv_dg ha (by omega))) (Ev.some_bind rfl (Ev.pos rfl (Ev.pos ?_ (Ev.live e2))))
    show ((rv n (rv n a) : Nat) : Int) = (a : Int)
    rw [rv_rv ha (by omega) k3]
  · obtain ⟨r, e, e1⟩ : ∃ r e : Int, Ev (fun k => poly_Reverse.f k (b : Int) m) (r, e) := by
      by_cases hk2 : rvOk b m
      · obtain ⟨k1, k2, k3⟩ := hk2
        obtain ⟨m, rfl⟩ : ∃ l : Nat, m = l := ⟨m.toNat, by omega⟩
        exact ⟨_, _, poly_Reverse.ev hb (by omega) k3⟩
      · exact ⟨_, _, poly_Reverse.bad hb hk2⟩
    exact Ev.bind (poly_Reverse.bad ha hk) (Ev.bind e1 (Ev.some_bind rfl (Ev.neg (by decide) (Ev.live (Ev.now _)))))
end Go.Proofs.Ytofdnjlcnpaecaa.Pure
