/- This session's own text, laid by its program out of the translation: functions of the Go code as Lean functions, each with a proof that its call comes to that function's answers. No condition. -/
import Derived.Test.YtofdnjlcnpaecaaP0
import Derived.Test.YtofdnjlcnpaecaaP6
import Derived.Test.YtofdnjlcnpaecaaP7
import Derived.Test.YtofdnjlcnpaecaaP9
namespace Go.Proofs.Ytofdnjlcnpaecaa.P
open Go.RowKit Go.Proofs.YtofdnjlcnpaecaaW.PrintWords Go.Proofs.YtofdnjlcnpaecaaW.PrintLast Go.Proofs.YtofdnjlcnpaecaaW.PrintMore
attribute [local go_sem] max2_int min2_int max_two min_two max_three min_three max_four min_four   -- for this text's walks alone
set_option linter.unusedVariables false
set_option linter.unusedSimpArgs false

/-! ### poly_PowMod: function 31 (by hand) -/
-- IMPORTS 
theorem poly_PowMod_1.calls (k : Nat) (a b m r1 r2 : Int) (B : Nat) (w : World) (hc : w.cell? ⟨B, 0, none⟩ = some (.int .u64 m)) (h : poly_MulMod.f k a b m = some (r1, r2)) :
    Calls Try.prog 56 #[.int .u64 a, .int .u64 b, .pointer (some ⟨B, 0, none⟩)] w fun e w' => e = .returned (.int .u64 r1) ∧ Drawn0 w w' := by
  have H := Aside0.mk h
  clear h
  go_enter Try.func56, Try.ntmps56
  go_wp2_with fail
  refine (poly_MulMod.calls k a b m r1 r2 _ H.out).mono ?_
  rintro e w' ⟨rfl, hd⟩
  have HD := Aside0.mk hd
  clear hd
  go_wp2
  go_ret
  exact ⟨rfl, HD.out⟩
def poly_power.l0 : Nat → Int → Int → Int → Int → Option Int
  | 0, _, _, _, _ => none
  | k + 1, one, x, n, m => if n > 0 then (if (Go.bits .and .u64 n 1) = 0 then ((poly_MulMod.f k x x m).bind fun b => (poly_power.l0 k one b.1 (n / 2) m)) else ((poly_MulMod.f k one x m).bind fun b => ((poly_MulMod.f k x x m).bind fun c => (poly_power.l0 k b.1 c.1 (n / 2) m)))) else (some one)
theorem poly_power.mono_l : ∀ k, (∀ y0 y1 y2 y3, LeO (poly_power.l0 k y0 y1 y2 y3) (poly_power.l0 (k + 1) y0 y1 y2 y3))
  | 0 => fun _ _ _ _ r h => by simp [poly_power.l0] at h
  | k + 1 => by
    have ih0 := poly_power.mono_l k
    intro y0 y1 y2 y3
    unfold poly_power.l0
    repeat' first
      | (with_reducible exact ih0 _ _ _ _)
      | (with_reducible exact poly_MulMod.mono _ _ _ _)
      | (with_reducible exact LeO.refl _)
      | (with_reducible exact LeO.none _)
      | (with_reducible refine LeO.ite ?_ ?_)
      | (with_reducible refine LeO.bind ?_ (fun _ => ?_))
theorem drawn_cell {w w' : World} (h : Drawn0 w w') {p : Addr} {v : Value} (hc : w.cell? p = some v) : w'.cell? p = some v := by
  obtain ⟨n, rfl⟩ := h.out
  exact hc
theorem drawn_trans {a b c : World} (h : Drawn0 a b) (h2 : Drawn0 b c) : Drawn0 a c := by
  obtain ⟨n, rfl⟩ := h2.out
  exact h.step n
set_option maxHeartbeats 1000000 in
set_option maxRecDepth 100000 in
theorem poly_power.calls (k : Nat) (one x n m r : Int) (B : Nat) (w : World) (hc : w.cell? ⟨B, 0, none⟩ = some (.int .u64 m)) (h0 : 0 ≤ n) (h : poly_power.l0 k one x n m = some r) :
    Calls Try.prog 55 #[.int .u64 one, .int .u64 x, .int .u64 n, .func (.func 56) #[] #[.pointer (some ⟨B, 0, none⟩)]] w fun e w' => e = .returned (.int .u64 r) ∧ Drawn0 w w' := by
  have H' := Aside0.mk h
  have HC := Aside0.mk hc
  clear h hc
  go_enter Try.func55, Try.ntmps55
  go_wp2
  go_loopg [0, 1, 2] k (fun kq v0 v1 v2 w' => ∃ one x n : Int, v0 = .int .u64 one ∧ v1 = .int .u64 x ∧ v2 = .int .u64 n ∧ 0 ≤ n ∧ Aside0 (poly_power.l0 kq one x n m = some r) ∧ Aside0 (kq ≤ k) ∧ Aside0 (Drawn0 w w'))
  case atStart => exact ⟨one, x, n, rfl, rfl, rfl, h0, H', ⟨Nat.le_refl _⟩, ⟨Drawn0.refl _⟩⟩
  case round =>
    clear H'
    obtain ⟨one, x, n, rfl, rfl, rfl, hn, HA, HK1, HD⟩ := hrel
    cases gk with
    | zero => exact absurd HA.out (by simp [poly_power.l0])
    | succ k1 =>
      have H := HA.out
      clear HA
      simp only [poly_power.l0] at H
      by_cases c1 : n > 0
      · rw [if_pos c1] at H
        have c1b : decide (0 < n) = true := decide_eq_true c1
        by_cases c2 : (Go.bits .and .u64 n 1) = 0
        · rw [if_pos c2] at H
          have c2b : ((Go.bits .and .u64 n 1) != 0) = false := bne_eq_false_iff_eq.mpr c2
          clear c2
          obtain ⟨⟨b, b2⟩, A1, H⟩ := Option.bind_eq_some_iff.mp H
          have A2 := Aside0.mk A1
          have H' := Aside0.mk H
          clear A1 H
          go_wp2_with fail
          refine (poly_PowMod_1.calls k1 x x m b b2 B _ (drawn_cell HD.out HC.out) A2.out).mono ?_
          rintro e w' ⟨rfl, hd⟩
          have HD2 := Aside0.mk (drawn_trans HD.out hd)
          clear hd
          go_wp2
          go_roundg k1
          case measure => have := HK1.out; omega
          case rel => exact ⟨one, b, n / 2, rfl, rfl, rfl, by omega, H', ⟨by have := HK1.out; omega⟩, HD2⟩
        · rw [if_neg c2] at H
          have c2b : ((Go.bits .and .u64 n 1) != 0) = true := bne_iff_ne.mpr c2
          clear c2
          obtain ⟨⟨b, b2⟩, A1, H⟩ := Option.bind_eq_some_iff.mp H
          have A2 := Aside0.mk A1
          obtain ⟨⟨c, c3⟩, A3, H⟩ := Option.bind_eq_some_iff.mp H
          have A4 := Aside0.mk A3
          have H' := Aside0.mk H
          clear A1 A3 H
          go_wp2_with fail
          refine (poly_PowMod_1.calls k1 one x m b b2 B _ (drawn_cell HD.out HC.out) A2.out).mono ?_
          rintro e w' ⟨rfl, hd⟩
          have HD2 := Aside0.mk (drawn_trans HD.out hd)
          clear hd
          go_wp2_with fail
          refine (poly_PowMod_1.calls k1 x x m c c3 B _ (drawn_cell HD2.out HC.out) A4.out).mono ?_
          rintro e w' ⟨rfl, hd⟩
          have HD3 := Aside0.mk (drawn_trans HD2.out hd)
          clear hd
          go_wp2
          go_roundg k1
          case measure => have := HK1.out; omega
          case rel => exact ⟨b, c, n / 2, rfl, rfl, rfl, by omega, H', ⟨by have := HK1.out; omega⟩, HD3⟩
      · rw [if_neg c1] at H
        have c1b : decide (0 < n) = false := decide_eq_false c1
        clear c1
        obtain rfl := Option.some.inj H
        go_wp2
        go_ret
        exact ⟨rfl, HD.out⟩
def poly_PowMod.f (k : Nat) (a0 : Int) (a1 : Int) (a2 : Int) : Option (Int × Int) := if 0 ≤ a1 then (if a2 = 0 then (some (0, 20)) else ((poly_rest.f k 1 a2).bind fun t => ((poly_power.l0 k t a0 a1 a2).bind fun r => (some (r, 0))))) else none
theorem poly_PowMod.mono : ∀ a0 a1 a2 k, LeO (poly_PowMod.f k a0 a1 a2) (poly_PowMod.f (k + 1) a0 a1 a2) := by
  intro a0 a1 a2 k
  unfold poly_PowMod.f
  repeat' first
      | (with_reducible exact poly_power.mono_l _ _ _ _ _)
      | (with_reducible exact poly_rest.mono _ _ _)
      | (with_reducible exact LeO.refl _)
      | (with_reducible exact LeO.none _)
      | (with_reducible refine LeO.ite ?_ ?_)
      | (with_reducible refine LeO.bind ?_ (fun _ => ?_))
set_option maxHeartbeats 1000000 in
set_option maxRecDepth 100000 in
theorem poly_PowMod.calls (k : Nat) (a0 : Int) (a1 : Int) (a2 : Int) (r1 : Int) (r2 : Int) (w : World) (h : poly_PowMod.f k a0 a1 a2 = some (r1, r2)) :
    Calls Try.prog 31 #[.int .u64 a0, .int .u64 a1, .int .u64 a2] w fun e w' => e = .returned (.tuple #[.int .u64 r1, .int .i64 r2]) ∧ Below w.heap.size w w' := by
  have HB := Aside0.mk (Below.refl w.heap.size w)
  unfold poly_PowMod.f at h
  by_cases c0 : 0 ≤ a1
  · rw [if_pos c0] at h
    by_cases c1 : a2 = 0
    · rw [if_pos c1] at h
      have c1b : (a2 == 0) = true := beq_iff_eq.mpr c1
      clear c1 c0
      simp only [Option.some.injEq, Prod.mk.injEq] at h
      obtain ⟨rfl, rfl⟩ := h
      go_enter Try.func31, Try.ntmps31
      go_wp2
      go_ret2
      exact ⟨rfl, below_alloc HB.out _⟩
    · rw [if_neg c1] at h
      have c1b : (a2 == 0) = false := beq_eq_false_iff_ne.mpr c1
      clear c1
      obtain ⟨t, A1, h⟩ := Option.bind_eq_some_iff.mp h
      obtain ⟨r, A2, h⟩ := Option.bind_eq_some_iff.mp h
      simp only [Option.some.injEq, Prod.mk.injEq] at h
      obtain ⟨rfl, rfl⟩ := h
      have H1 := Aside0.mk A1
      have H2 := Aside0.mk A2
      have H0 := Aside0.mk c0
      clear A1 A2 c0
      have hmf : ∀ (fn : Fn) (first cap : Array Value) (w : World), (Instr.makeFunc fn first cap).run Try.prog w = .ok (.func fn first cap) w := fun _ _ _ _ => rfl
      go_enter Try.func31, Try.ntmps31
      go_wp2_with fail
      refine (poly_rest.calls k 1 a2 t _ H1.out).mono ?_
      rintro e w' ⟨rfl, hd⟩
      have HD := Aside0.mk hd
      clear hd
      go_wp2_with fail
      refine (poly_power.calls k t a0 a1 a2 r w.heap.size _ (drawn_cell HD.out (by go_simp)) H0.out H2.out).mono ?_
      rintro e w2 ⟨rfl, hd⟩
      have HD2 := Aside0.mk (drawn_trans HD.out hd)
      clear hd hmf
      go_wp2
      go_ret2
      exact ⟨rfl, below_drawn (below_alloc HB.out _) HD2.out⟩
  · rw [if_neg c0] at h
    exact absurd h (by simp)

end Go.Proofs.Ytofdnjlcnpaecaa.P
