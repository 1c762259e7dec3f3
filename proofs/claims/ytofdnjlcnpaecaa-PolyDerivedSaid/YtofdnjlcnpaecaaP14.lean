/- This session's own text, laid by its program out of the translation: functions of the Go code as Lean functions, each with a proof that its call comes to that function's answers. No condition. -/
import Derived.Test.YtofdnjlcnpaecaaP0
import Derived.Test.YtofdnjlcnpaecaaP2
import Derived.Test.YtofdnjlcnpaecaaP3
import Derived.Test.YtofdnjlcnpaecaaP7
import Derived.Test.YtofdnjlcnpaecaaP8
import Derived.Test.YtofdnjlcnpaecaaP10
import Derived.Test.YtofdnjlcnpaecaaP11
namespace Go.Proofs.Ytofdnjlcnpaecaa.P
open Go.RowKit Go.Proofs.YtofdnjlcnpaecaaW.PrintWords Go.Proofs.YtofdnjlcnpaecaaW.PrintLast Go.Proofs.YtofdnjlcnpaecaaW.PrintMore
attribute [local go_sem] max2_int min2_int max_two min_two max_three min_three max_four min_four   -- for this text's walks alone
set_option linter.unusedVariables false
set_option linter.unusedSimpArgs false

/-! ### outpostref02_Div: function 39 -/
def outpostref02_Div.f (k : Nat) (a0 : Int) (a1 : Int) : Option (Int × Int × Int) := if a1 = 0 then (some (0, 0, 20)) else ((outpostref02_Whole.f k 0 a0 a1).bind fun bt326 => (some (bt326.1, bt326.2, 0)))
theorem outpostref02_Div.mono : ∀ a0 a1 k, LeO (outpostref02_Div.f k a0 a1) (outpostref02_Div.f (k + 1) a0 a1) := by
  intro a0 a1 k
  unfold outpostref02_Div.f
  repeat' first
      | (with_reducible exact outpostref02_Whole.mono _ _ _ _)
      | (with_reducible exact LeO.refl _)
      | (with_reducible exact LeO.none _)
      | (with_reducible refine LeO.ite ?_ ?_)
      | (with_reducible refine LeO.bind ?_ (fun _ => ?_))
      | exact outpostref02_Whole.mono _ _ _ _
      | exact LeO.none _
      | refine LeO.ite ?_ ?_
      | refine LeO.bind ?_ (fun _ => ?_)
set_option maxHeartbeats 8000000 in
set_option maxRecDepth 100000 in
theorem outpostref02_Div.calls (k : Nat) (a0 : Int) (a1 : Int) (r1 : Int) (r2 : Int) (r3 : Int) (w : World) (h : outpostref02_Div.f k a0 a1 = some (r1, r2, r3)) :
    Calls Try.prog 39 #[.int .u64 a0, .int .u64 a1] w fun e w' => e = .returned (.tuple #[.int .u64 r1, .int .u64 r2, .int .i64 r3]) ∧ Drawn0 w w' := by
  have H : (if a1 = 0 then (some (0, 0, 20)) else ((outpostref02_Whole.f k 0 a0 a1).bind fun bt326 => (some (bt326.1, bt326.2, 0)))) = some (r1, r2, r3) := h
  clear h
  by_cases c3 : a1 = 0
  · rw [if_pos c3] at H
    have c3b0 : (a1 == 0) = true := beq_iff_eq.mpr c3
    have c3b1 : (a1 != 0) = false := bne_eq_false_iff_eq.mpr c3
    clear c3
    simp only [Option.some.injEq, Prod.mk.injEq] at H
    obtain ⟨rfl, rfl, rfl⟩ := H
    go_enter Try.func39, Try.ntmps39
    go_wp2
    go_ret3
    exact ⟨by first | rfl | (simp; done) | (simp [*]; done), by repeat (first | exact Drawn0.refl _ | apply Drawn0.step)⟩
  · rw [if_neg c3] at H
    have c3b0 : (a1 == 0) = false := beq_eq_false_iff_ne.mpr c3
    have c3b1 : (a1 != 0) = true := bne_iff_ne.mpr c3
    replace H := Option.bind_eq_some_iff.mp H
    obtain ⟨⟨t326, t327⟩, A40, H⟩ := H
    replace H : (some (t326, t327, 0)) = some (r1, r2, r3) := H
    have A4 := Aside0.mk A40
    clear A40
    simp only [Option.some.injEq, Prod.mk.injEq] at H
    obtain ⟨rfl, rfl, rfl⟩ := H
    go_enter Try.func39, Try.ntmps39
    go_wp2_with (first | ((with_reducible refine gate_callee (f := 54) rfl ?_); refine goesL_ (some 14) rfl rfl Try.func54 (by kernel_rfl) rfl #[.int .u64 0, .int .u64 a0, .int .u64 a1] rfl (by (try simp only [List.map_toArray, List.map_cons, List.map_nil]); first | done | rfl | (simp only [List.length_drop, List.length_take]; rfl)) ?_; (with_reducible refine (outpostref02_Whole.calls k 0 a0 a1 t326 t327 _ A4.out).mono ?_); rintro e w' ⟨rfl, ⟨nd, rfl⟩⟩; refine ⟨_, rfl, ?_⟩))
    go_ret3
    exact ⟨by first | rfl | (simp; done) | (simp [*]; done), by repeat (first | exact Drawn0.refl _ | apply Drawn0.step)⟩

/-! ### poly_inverse: function 59 -/
def poly_inverse.l0 : Nat → Int → Int → Int → Int → Int → Option (Int)
  | 0, _, _, _, _, _ => none
  | k + 1, x1, x5, x6, x7, x8 => if x6 = 0 then (some x7) else ((poly_long.f k 0 x5 x6).bind fun bt330 => ((poly_Mul.f k bt330.1 x8).bind fun bt332 => ((poly_long.f k bt332.1 bt332.2 x1).bind fun bt334 => (poly_inverse.l0 k x1 x6 bt330.2 x8 (Go.bits .xor .u64 x7 bt334.2)))))
def poly_inverse.f (k : Nat) (a0 : Int) (a1 : Int) : Option (Int) := (poly_rest.f k a0 a1).bind fun t328 => ((poly_rest.f k 1 a1).bind fun t329 => (poly_inverse.l0 k a1 a1 t328 0 t329))
theorem poly_inverse.mono_l : ∀ k, (∀ y0 y1 y2 y3 y4, LeO (poly_inverse.l0 k y0 y1 y2 y3 y4) (poly_inverse.l0 (k + 1) y0 y1 y2 y3 y4))
  | 0 => fun _ _ _ _ _ r h => by simp [poly_inverse.l0] at h
  | k + 1 => by
    have ih0 := poly_inverse.mono_l k
    · intro y0 y1 y2 y3 y4
      unfold poly_inverse.l0
      repeat' first
      | (with_reducible exact ih0 _ _ _ _ _)
      | (with_reducible exact poly_Mul.mono _ _ _)
      | (with_reducible exact poly_long.mono _ _ _ _)
      | (with_reducible exact poly_rest.mono _ _ _)
      | (with_reducible exact LeO.refl _)
      | (with_reducible exact LeO.none _)
      | (with_reducible refine LeO.ite ?_ ?_)
      | (with_reducible refine LeO.bind ?_ (fun _ => ?_))
      | exact ih0 _ _ _ _ _
      | exact poly_Mul.mono _ _ _
      | exact poly_long.mono _ _ _ _
      | exact poly_rest.mono _ _ _
      | exact LeO.none _
      | refine LeO.ite ?_ ?_
      | refine LeO.bind ?_ (fun _ => ?_)
theorem poly_inverse.mono : ∀ a0 a1 k, LeO (poly_inverse.f k a0 a1) (poly_inverse.f (k + 1) a0 a1) := by
  intro a0 a1 k
  have ih0 := poly_inverse.mono_l k
  unfold poly_inverse.f
  repeat' first
      | (with_reducible exact ih0 _ _ _ _ _)
      | (with_reducible exact poly_Mul.mono _ _ _)
      | (with_reducible exact poly_long.mono _ _ _ _)
      | (with_reducible exact poly_rest.mono _ _ _)
      | (with_reducible exact LeO.refl _)
      | (with_reducible exact LeO.none _)
      | (with_reducible refine LeO.ite ?_ ?_)
      | (with_reducible refine LeO.bind ?_ (fun _ => ?_))
      | exact ih0 _ _ _ _ _
      | exact poly_Mul.mono _ _ _
      | exact poly_long.mono _ _ _ _
      | exact poly_rest.mono _ _ _
      | exact LeO.none _
      | refine LeO.ite ?_ ?_
      | refine LeO.bind ?_ (fun _ => ?_)
set_option maxHeartbeats 8000000 in
set_option maxRecDepth 100000 in
theorem poly_inverse.calls (k : Nat) (a0 : Int) (a1 : Int) (r : Int) (w : World) (h : poly_inverse.f k a0 a1 = some r) :
    Calls Try.prog 59 #[.int .u64 a0, .int .u64 a1] w fun e w' => e = .returned (.int .u64 r) ∧ Drawn0 w w' := by
  have H : ((poly_rest.f k a0 a1).bind fun t328 => ((poly_rest.f k 1 a1).bind fun t329 => (poly_inverse.l0 k a1 a1 t328 0 t329))) = some r := h
  clear h
  replace H := Option.bind_eq_some_iff.mp H
  obtain ⟨t328, A30, H⟩ := H
  replace H : ((poly_rest.f k 1 a1).bind fun t329 => (poly_inverse.l0 k a1 a1 t328 0 t329)) = some r := H
  have A3 := Aside0.mk A30
  clear A30
  replace H := Option.bind_eq_some_iff.mp H
  obtain ⟨t329, A40, H⟩ := H
  replace H : (poly_inverse.l0 k a1 a1 t328 0 t329) = some r := H
  have A4 := Aside0.mk A40
  clear A40
  have H' := Aside0.mk H
  clear H
  go_enter Try.func59, Try.ntmps59
  go_wp2_with (first | ((with_reducible refine gate_callee (f := 52) rfl ?_); refine goesL_ (some 18) rfl rfl Try.func52 (by kernel_rfl) rfl #[.int .u64 a0, .int .u64 a1] rfl (by (try simp only [List.map_toArray, List.map_cons, List.map_nil]); first | done | rfl | (simp only [List.length_drop, List.length_take]; rfl)) ?_; (with_reducible refine (poly_rest.calls k a0 a1 t328 _ A3.out).mono ?_); rintro e w' ⟨rfl, ⟨nd, rfl⟩⟩; refine ⟨_, rfl, ?_⟩) | ((with_reducible refine gate_callee (f := 52) rfl ?_); refine goesL_ (some 20) rfl rfl Try.func52 (by kernel_rfl) rfl #[.int .u64 1, .int .u64 a1] rfl (by (try simp only [List.map_toArray, List.map_cons, List.map_nil]); first | done | rfl | (simp only [List.length_drop, List.length_take]; rfl)) ?_; (with_reducible refine (poly_rest.calls k 1 a1 t329 _ A4.out).mono ?_); rintro e w' ⟨rfl, ⟨nd, rfl⟩⟩; refine ⟨_, rfl, ?_⟩))
  go_loopg [5, 6, 7, 8] k (fun kq v5 v6 v7 v8 w' => ∃ (x5_1 : Int) (x6_1 : Int) (x7_1 : Int) (x8_1 : Int), v5 = .int .u64 x5_1 ∧ v6 = .int .u64 x6_1 ∧ v7 = .int .u64 x7_1 ∧ v8 = .int .u64 x8_1 ∧ Aside0 (poly_inverse.l0 kq a1 x5_1 x6_1 x7_1 x8_1 = some r) ∧ Aside0 (kq ≤ k) ∧ Drawn0 w w')
  case atStart => exact ⟨(a1), (t328), (0), (t329), (by first | rfl | (simp; done) | (simp [*]; done)), (by first | rfl | (simp; done) | (simp [*]; done)), (by first | rfl | (simp; done) | (simp [*]; done)), (by first | rfl | (simp; done) | (simp [*]; done)), H', ⟨Nat.le_refl _⟩, by repeat (first | exact Drawn0.refl _ | apply Drawn0.step)⟩
  case round =>
    clear H'
    try clear p2
    obtain ⟨x5_1, x6_1, x7_1, x8_1, rfl, rfl, rfl, rfl, HA, HK1, ⟨m1, rfl⟩⟩ := hrel
    cases gk with
    | zero => exact absurd HA.out (by simp [poly_inverse.l0])
    | succ k1 =>
      have H := HA.out
      clear HA
      simp only [poly_inverse.l0] at H
      by_cases c5 : x6_1 = 0
      · rw [if_pos c5] at H
        have c5b0 : (x6_1 == 0) = true := beq_iff_eq.mpr c5
        have c5b1 : (x6_1 != 0) = false := bne_eq_false_iff_eq.mpr c5
        clear c5
        obtain rfl := Option.some.inj H
        go_wp2
        go_ret
        exact ⟨by first | rfl | (simp; done) | (simp [*]; done), by repeat (first | exact Drawn0.refl _ | apply Drawn0.step)⟩
      · rw [if_neg c5] at H
        have c5b0 : (x6_1 == 0) = false := beq_eq_false_iff_ne.mpr c5
        have c5b1 : (x6_1 != 0) = true := bne_iff_ne.mpr c5
        replace H := Option.bind_eq_some_iff.mp H
        obtain ⟨⟨t330, t331⟩, A60, H⟩ := H
        replace H : ((poly_Mul.f k1 t330 x8_1).bind fun bt332 => ((poly_long.f k1 bt332.1 bt332.2 a1).bind fun bt334 => (poly_inverse.l0 k1 a1 x6_1 t331 x8_1 (Go.bits .xor .u64 x7_1 bt334.2)))) = some r := H
        have A6 := Aside0.mk A60
        clear A60
        replace H := Option.bind_eq_some_iff.mp H
        obtain ⟨⟨t332, t333⟩, A70, H⟩ := H
        replace H : ((poly_long.f k1 t332 t333 a1).bind fun bt334 => (poly_inverse.l0 k1 a1 x6_1 t331 x8_1 (Go.bits .xor .u64 x7_1 bt334.2))) = some r := H
        have A7 := Aside0.mk A70
        clear A70
        replace H := Option.bind_eq_some_iff.mp H
        obtain ⟨⟨t334, t335⟩, A80, H⟩ := H
        replace H : (poly_inverse.l0 k1 a1 x6_1 t331 x8_1 (Go.bits .xor .u64 x7_1 t335)) = some r := H
        have A8 := Aside0.mk A80
        clear A80
        have H' := Aside0.mk H
        clear H
        go_wp2_with (first | ((with_reducible refine gate_callee (f := 49) rfl ?_); refine goesL_ (some 26) rfl rfl Try.func49 (by kernel_rfl) rfl #[.int .u64 0, .int .u64 x5_1, .int .u64 x6_1] rfl (by (try simp only [List.map_toArray, List.map_cons, List.map_nil]); first | done | rfl | (simp only [List.length_drop, List.length_take]; rfl)) ?_; (with_reducible refine (poly_long.calls k1 0 x5_1 x6_1 t330 t331 _ A6.out).mono ?_); rintro e w' ⟨rfl, ⟨nd, rfl⟩⟩; refine ⟨_, rfl, ?_⟩) | ((with_reducible refine gate_callee (f := 16) rfl ?_); refine goesL_ (some 32) rfl rfl Try.func16 (by kernel_rfl) rfl #[.int .u64 t330, .int .u64 x8_1] rfl (by (try simp only [List.map_toArray, List.map_cons, List.map_nil]); first | done | rfl | (simp only [List.length_drop, List.length_take]; rfl)) ?_; (with_reducible refine (poly_Mul.calls k1 t330 x8_1 t332 t333 _ A7.out).mono ?_); rintro e w' ⟨rfl, ⟨nd, rfl⟩⟩; refine ⟨_, rfl, ?_⟩) | ((with_reducible refine gate_callee (f := 49) rfl ?_); refine goesL_ (some 39) rfl rfl Try.func49 (by kernel_rfl) rfl #[.int .u64 t332, .int .u64 t333, .int .u64 a1] rfl (by (try simp only [List.map_toArray, List.map_cons, List.map_nil]); first | done | rfl | (simp only [List.length_drop, List.length_take]; rfl)) ?_; (with_reducible refine (poly_long.calls k1 t332 t333 a1 t334 t335 _ A8.out).mono ?_); rintro e w' ⟨rfl, ⟨nd, rfl⟩⟩; refine ⟨_, rfl, ?_⟩))
        go_roundg k1
        case measure => have := HK1.out; omega
        case rel => exact ⟨(x6_1), (t331), (x8_1), (Go.bits .xor .u64 x7_1 t335), (by first | rfl | (simp; done) | (simp [*]; done)), (by first | rfl | (simp; done) | (simp [*]; done)), (by first | rfl | (simp; done) | (simp [*]; done)), (by first | rfl | (simp; done) | (simp [*]; done)), H', ⟨by have := HK1.out; omega⟩, by repeat (first | exact Drawn0.refl _ | apply Drawn0.step)⟩

/-! ### poly_Bezout: function 40 -/
def poly_Bezout.f (k : Nat) (a0 : Int) (a1 : Int) : Option (Int × Int × Int) := if a1 = 0 then (some (a0, mn a0 1, 0)) else ((poly_Gcd.f k a0 a1).bind fun t336 => ((poly_long.f k 0 a1 t336).bind fun bt337 => ((poly_long.f k 0 a0 t336).bind fun bt339 => ((poly_inverse.f k bt339.1 bt337.1).bind fun t341 => ((poly_Mul.f k t341 a0).bind fun bt342 => ((poly_long.f k bt342.1 (Go.bits .xor .u64 bt342.2 t336) a1).bind fun bt344 => (some (t336, t341, bt344.1))))))))
theorem poly_Bezout.mono : ∀ a0 a1 k, LeO (poly_Bezout.f k a0 a1) (poly_Bezout.f (k + 1) a0 a1) := by
  intro a0 a1 k
  unfold poly_Bezout.f
  repeat' first
      | (with_reducible exact poly_Gcd.mono _ _ _)
      | (with_reducible exact poly_Mul.mono _ _ _)
      | (with_reducible exact poly_inverse.mono _ _ _)
      | (with_reducible exact poly_long.mono _ _ _ _)
      | (with_reducible exact LeO.refl _)
      | (with_reducible exact LeO.none _)
      | (with_reducible refine LeO.ite ?_ ?_)
      | (with_reducible refine LeO.bind ?_ (fun _ => ?_))
      | exact poly_Gcd.mono _ _ _
      | exact poly_Mul.mono _ _ _
      | exact poly_inverse.mono _ _ _
      | exact poly_long.mono _ _ _ _
      | exact LeO.none _
      | refine LeO.ite ?_ ?_
      | refine LeO.bind ?_ (fun _ => ?_)
set_option maxHeartbeats 8000000 in
set_option maxRecDepth 100000 in
theorem poly_Bezout.calls (k : Nat) (a0 : Int) (a1 : Int) (r1 : Int) (r2 : Int) (r3 : Int) (w : World) (h : poly_Bezout.f k a0 a1 = some (r1, r2, r3)) :
    Calls Try.prog 40 #[.int .u64 a0, .int .u64 a1] w fun e w' => e = .returned (.tuple #[.int .u64 r1, .int .u64 r2, .int .u64 r3]) ∧ Below w.heap.size w w' := by
  have HB := Aside0.mk (Below.refl w.heap.size w)
  have H : (if a1 = 0 then (some (a0, mn a0 1, 0)) else ((poly_Gcd.f k a0 a1).bind fun t336 => ((poly_long.f k 0 a1 t336).bind fun bt337 => ((poly_long.f k 0 a0 t336).bind fun bt339 => ((poly_inverse.f k bt339.1 bt337.1).bind fun t341 => ((poly_Mul.f k t341 a0).bind fun bt342 => ((poly_long.f k bt342.1 (Go.bits .xor .u64 bt342.2 t336) a1).bind fun bt344 => (some (t336, t341, bt344.1))))))))) = some (r1, r2, r3) := h
  clear h
  by_cases c3 : a1 = 0
  · rw [if_pos c3] at H
    have c3b0 : (a1 == 0) = true := beq_iff_eq.mpr c3
    have c3b1 : (a1 != 0) = false := bne_eq_false_iff_eq.mpr c3
    clear c3
    obtain ⟨ji4, hji4⟩ : ∃ j_ : Int, (mn a0 1) = j_ := ⟨_, rfl⟩
    replace H : (some (a0, ji4, 0)) = some (r1, r2, r3) := by first | (rw [hji4] at H; exact H) | (simp only [hji4] at H ⊢; exact H)
    (try (have hji4h : ji4 ≤ 1 := by (rw [← hji4]; unfold mn; (repeat' split) <;> omega)))
    (try (have hji4g : ji4 ≤ 64 := by omega))
    have hji4_ : (if 1 < a0 then 1 else a0) = ji4 := hji4
    simp only [Option.some.injEq, Prod.mk.injEq] at H
    obtain ⟨rfl, rfl, rfl⟩ := H
    go_enter Try.func40, Try.ntmps40
    go_wp2
    go_ret3
    exact ⟨by first | rfl | (simp [errW_none, errW_some] <;> rfl) | (simp only [← hji4]; first | rfl | (simp [errW_none, errW_some] <;> rfl)) | (simp [*, errW_none, errW_some] <;> rfl), by repeat (first | (with_reducible first | exact HB.out | apply below_alloc | apply pw_below_drewN | apply below_drew1) | exact HB.out)⟩
  · rw [if_neg c3] at H
    have c3b0 : (a1 == 0) = false := beq_eq_false_iff_ne.mpr c3
    have c3b1 : (a1 != 0) = true := bne_iff_ne.mpr c3
    replace H := Option.bind_eq_some_iff.mp H
    obtain ⟨t336, A50, H⟩ := H
    replace H : ((poly_long.f k 0 a1 t336).bind fun bt337 => ((poly_long.f k 0 a0 t336).bind fun bt339 => ((poly_inverse.f k bt339.1 bt337.1).bind fun t341 => ((poly_Mul.f k t341 a0).bind fun bt342 => ((poly_long.f k bt342.1 (Go.bits .xor .u64 bt342.2 t336) a1).bind fun bt344 => (some (t336, t341, bt344.1))))))) = some (r1, r2, r3) := H
    have A5 := Aside0.mk A50
    clear A50
    replace H := Option.bind_eq_some_iff.mp H
    obtain ⟨⟨t337, t338⟩, A60, H⟩ := H
    replace H : ((poly_long.f k 0 a0 t336).bind fun bt339 => ((poly_inverse.f k bt339.1 t337).bind fun t341 => ((poly_Mul.f k t341 a0).bind fun bt342 => ((poly_long.f k bt342.1 (Go.bits .xor .u64 bt342.2 t336) a1).bind fun bt344 => (some (t336, t341, bt344.1)))))) = some (r1, r2, r3) := H
    have A6 := Aside0.mk A60
    clear A60
    replace H := Option.bind_eq_some_iff.mp H
    obtain ⟨⟨t339, t340⟩, A70, H⟩ := H
    replace H : ((poly_inverse.f k t339 t337).bind fun t341 => ((poly_Mul.f k t341 a0).bind fun bt342 => ((poly_long.f k bt342.1 (Go.bits .xor .u64 bt342.2 t336) a1).bind fun bt344 => (some (t336, t341, bt344.1))))) = some (r1, r2, r3) := H
    have A7 := Aside0.mk A70
    clear A70
    replace H := Option.bind_eq_some_iff.mp H
    obtain ⟨t341, A80, H⟩ := H
    replace H : ((poly_Mul.f k t341 a0).bind fun bt342 => ((poly_long.f k bt342.1 (Go.bits .xor .u64 bt342.2 t336) a1).bind fun bt344 => (some (t336, t341, bt344.1)))) = some (r1, r2, r3) := H
    have A8 := Aside0.mk A80
    clear A80
    replace H := Option.bind_eq_some_iff.mp H
    obtain ⟨⟨t342, t343⟩, A90, H⟩ := H
    replace H : ((poly_long.f k t342 (Go.bits .xor .u64 t343 t336) a1).bind fun bt344 => (some (t336, t341, bt344.1))) = some (r1, r2, r3) := H
    have A9 := Aside0.mk A90
    clear A90
    replace H := Option.bind_eq_some_iff.mp H
    obtain ⟨⟨t344, t345⟩, A100, H⟩ := H
    replace H : (some (t336, t341, t344)) = some (r1, r2, r3) := H
    have A10 := Aside0.mk A100
    clear A100
    simp only [Option.some.injEq, Prod.mk.injEq] at H
    obtain ⟨rfl, rfl, rfl⟩ := H
    go_enter Try.func40, Try.ntmps40
    go_wp2_with (first | ((with_reducible refine gate_callee (f := 26) rfl ?_); refine goesL_ (some 20) rfl rfl Try.func26 (by kernel_rfl) rfl #[.int .u64 a0, .int .u64 a1] rfl (by (try simp only [List.map_toArray, List.map_cons, List.map_nil]); first | done | rfl | (simp only [List.length_drop, List.length_take]; rfl)) ?_; (with_reducible refine (poly_Gcd.calls k a0 a1 t336 _ A5.out).mono ?_); rintro e w' ⟨rfl, ⟨nd, rfl⟩⟩; refine ⟨_, rfl, ?_⟩) | ((with_reducible refine gate_callee (f := 49) rfl ?_); refine goesL_ (some 24) rfl rfl Try.func49 (by kernel_rfl) rfl #[.int .u64 0, .int .u64 a1, .int .u64 t336] rfl (by (try simp only [List.map_toArray, List.map_cons, List.map_nil]); first | done | rfl | (simp only [List.length_drop, List.length_take]; rfl)) ?_; (with_reducible refine (poly_long.calls k 0 a1 t336 t337 t338 _ A6.out).mono ?_); rintro e w' ⟨rfl, ⟨nd, rfl⟩⟩; refine ⟨_, rfl, ?_⟩) | ((with_reducible refine gate_callee (f := 49) rfl ?_); refine goesL_ (some 30) rfl rfl Try.func49 (by kernel_rfl) rfl #[.int .u64 0, .int .u64 a0, .int .u64 t336] rfl (by (try simp only [List.map_toArray, List.map_cons, List.map_nil]); first | done | rfl | (simp only [List.length_drop, List.length_take]; rfl)) ?_; (with_reducible refine (poly_long.calls k 0 a0 t336 t339 t340 _ A7.out).mono ?_); rintro e w' ⟨rfl, ⟨nd, rfl⟩⟩; refine ⟨_, rfl, ?_⟩) | ((with_reducible refine gate_callee (f := 59) rfl ?_); refine goesL_ (some 35) rfl rfl Try.func59 (by kernel_rfl) rfl #[.int .u64 t339, .int .u64 t337] rfl (by (try simp only [List.map_toArray, List.map_cons, List.map_nil]); first | done | rfl | (simp only [List.length_drop, List.length_take]; rfl)) ?_; (with_reducible refine (poly_inverse.calls k t339 t337 t341 _ A8.out).mono ?_); rintro e w' ⟨rfl, ⟨nd, rfl⟩⟩; refine ⟨_, rfl, ?_⟩) | ((with_reducible refine gate_callee (f := 16) rfl ?_); refine goesL_ (some 39) rfl rfl Try.func16 (by kernel_rfl) rfl #[.int .u64 t341, .int .u64 a0] rfl (by (try simp only [List.map_toArray, List.map_cons, List.map_nil]); first | done | rfl | (simp only [List.length_drop, List.length_take]; rfl)) ?_; (with_reducible refine (poly_Mul.calls k t341 a0 t342 t343 _ A9.out).mono ?_); rintro e w' ⟨rfl, ⟨nd, rfl⟩⟩; refine ⟨_, rfl, ?_⟩) | ((with_reducible refine gate_callee (f := 49) rfl ?_); refine goesL_ (some 48) rfl rfl Try.func49 (by kernel_rfl) rfl #[.int .u64 t342, .int .u64 (Go.bits .xor .u64 t343 t336), .int .u64 a1] rfl (by (try simp only [List.map_toArray, List.map_cons, List.map_nil]); first | done | rfl | (simp only [List.length_drop, List.length_take]; rfl)) ?_; (with_reducible refine (poly_long.calls k t342 (Go.bits .xor .u64 t343 t336) a1 t344 t345 _ A10.out).mono ?_); rintro e w' ⟨rfl, ⟨nd, rfl⟩⟩; refine ⟨_, rfl, ?_⟩))
    go_ret3
    exact ⟨by first | rfl | (simp [errW_none, errW_some] <;> rfl) | (simp [*, errW_none, errW_some] <;> rfl), by repeat (first | (with_reducible first | exact HB.out | apply below_alloc | apply pw_below_drewN | apply below_drew1) | exact HB.out)⟩

/-! ### outpostref02_Gcd: function 42 -/
def outpostref02_Gcd.l0 : Nat → Int → Int → Option (Int)
  | 0, _, _ => none
  | k + 1, x0, x1 => if x1 = 0 then (some x0) else ((outpostref02_Whole.f k 0 x0 x1).bind fun bt346 => (outpostref02_Gcd.l0 k x1 bt346.2))
def outpostref02_Gcd.f (k : Nat) (a0 : Int) (a1 : Int) : Option (Int) := outpostref02_Gcd.l0 k a0 a1
theorem outpostref02_Gcd.mono_l : ∀ k, (∀ y0 y1, LeO (outpostref02_Gcd.l0 k y0 y1) (outpostref02_Gcd.l0 (k + 1) y0 y1))
  | 0 => fun _ _ r h => by simp [outpostref02_Gcd.l0] at h
  | k + 1 => by
    have ih0 := outpostref02_Gcd.mono_l k
    · intro y0 y1
      unfold outpostref02_Gcd.l0
      repeat' first
      | (with_reducible exact ih0 _ _)
      | (with_reducible exact outpostref02_Whole.mono _ _ _ _)
      | (with_reducible exact LeO.refl _)
      | (with_reducible exact LeO.none _)
      | (with_reducible refine LeO.ite ?_ ?_)
      | (with_reducible refine LeO.bind ?_ (fun _ => ?_))
      | exact ih0 _ _
      | exact outpostref02_Whole.mono _ _ _ _
      | exact LeO.none _
      | refine LeO.ite ?_ ?_
      | refine LeO.bind ?_ (fun _ => ?_)
theorem outpostref02_Gcd.mono : ∀ a0 a1 k, LeO (outpostref02_Gcd.f k a0 a1) (outpostref02_Gcd.f (k + 1) a0 a1) := by
  intro a0 a1 k
  have ih0 := outpostref02_Gcd.mono_l k
  unfold outpostref02_Gcd.f
  repeat' first
      | (with_reducible exact ih0 _ _)
      | (with_reducible exact outpostref02_Whole.mono _ _ _ _)
      | (with_reducible exact LeO.refl _)
      | (with_reducible exact LeO.none _)
      | (with_reducible refine LeO.ite ?_ ?_)
      | (with_reducible refine LeO.bind ?_ (fun _ => ?_))
      | exact ih0 _ _
      | exact outpostref02_Whole.mono _ _ _ _
      | exact LeO.none _
      | refine LeO.ite ?_ ?_
      | refine LeO.bind ?_ (fun _ => ?_)
set_option maxHeartbeats 8000000 in
set_option maxRecDepth 100000 in
theorem outpostref02_Gcd.calls (k : Nat) (a0 : Int) (a1 : Int) (r : Int) (w : World) (h : outpostref02_Gcd.f k a0 a1 = some r) :
    Calls Try.prog 42 #[.int .u64 a0, .int .u64 a1] w fun e w' => e = .returned (.int .u64 r) ∧ Drawn0 w w' := by
  have H : (outpostref02_Gcd.l0 k a0 a1) = some r := h
  clear h
  have H' := Aside0.mk H
  clear H
  go_enter Try.func42, Try.ntmps42
  go_wp2
  go_loopg [0, 1] k (fun kq v0 v1 w' => ∃ (x0_1 : Int) (x1_1 : Int), v0 = .int .u64 x0_1 ∧ v1 = .int .u64 x1_1 ∧ Aside0 (outpostref02_Gcd.l0 kq x0_1 x1_1 = some r) ∧ Aside0 (kq ≤ k) ∧ Drawn0 w w')
  case atStart => exact ⟨(a0), (a1), (by first | rfl | (simp; done) | (simp [*]; done)), (by first | rfl | (simp; done) | (simp [*]; done)), H', ⟨Nat.le_refl _⟩, by repeat (first | exact Drawn0.refl _ | apply Drawn0.step)⟩
  case round =>
    clear H'
    try clear p2
    obtain ⟨x0_1, x1_1, rfl, rfl, HA, HK1, ⟨m1, rfl⟩⟩ := hrel
    cases gk with
    | zero => exact absurd HA.out (by simp [outpostref02_Gcd.l0])
    | succ k1 =>
      have H := HA.out
      clear HA
      simp only [outpostref02_Gcd.l0] at H
      by_cases c3 : x1_1 = 0
      · rw [if_pos c3] at H
        have c3b0 : (x1_1 == 0) = true := beq_iff_eq.mpr c3
        have c3b1 : (x1_1 != 0) = false := bne_eq_false_iff_eq.mpr c3
        clear c3
        obtain rfl := Option.some.inj H
        go_wp2
        go_ret
        exact ⟨by first | rfl | (simp; done) | (simp [*]; done), by repeat (first | exact Drawn0.refl _ | apply Drawn0.step)⟩
      · rw [if_neg c3] at H
        have c3b0 : (x1_1 == 0) = false := beq_eq_false_iff_ne.mpr c3
        have c3b1 : (x1_1 != 0) = true := bne_iff_ne.mpr c3
        replace H := Option.bind_eq_some_iff.mp H
        obtain ⟨⟨t346, t347⟩, A40, H⟩ := H
        replace H : (outpostref02_Gcd.l0 k1 x1_1 t347) = some r := H
        have A4 := Aside0.mk A40
        clear A40
        have H' := Aside0.mk H
        clear H
        go_wp2_with (first | ((with_reducible refine gate_callee (f := 54) rfl ?_); refine goesL_ (some 12) rfl rfl Try.func54 (by kernel_rfl) rfl #[.int .u64 0, .int .u64 x0_1, .int .u64 x1_1] rfl (by (try simp only [List.map_toArray, List.map_cons, List.map_nil]); first | done | rfl | (simp only [List.length_drop, List.length_take]; rfl)) ?_; (with_reducible refine (outpostref02_Whole.calls k1 0 x0_1 x1_1 t346 t347 _ A4.out).mono ?_); rintro e w' ⟨rfl, ⟨nd, rfl⟩⟩; refine ⟨_, rfl, ?_⟩))
        go_roundg k1
        case measure => have := HK1.out; omega
        case rel => exact ⟨(x1_1), (t347), (by first | rfl | (simp; done) | (simp [*]; done)), (by first | rfl | (simp; done) | (simp [*]; done)), H', ⟨by have := HK1.out; omega⟩, by repeat (first | exact Drawn0.refl _ | apply Drawn0.step)⟩

/-! ### outpostref02_lowest: function 60 -/
def outpostref02_lowest.l0 : Nat → Int → Int → Int → Int → Int → Int → Option (Int)
  | 0, _, _, _, _, _, _ => none
  | k + 1, x2, x3, x9, x10, x11, x12 => if x9 = x2 then ((outpostref02_Whole.f k 0 x11 x3).bind fun bt348 => (some bt348.2)) else (if x10 = 0 then (some 0) else ((outpostref02_Whole.f k 0 x9 x10).bind fun bt350 => ((outpostref02_Mul.f k bt350.1 x12).bind fun bt352 => ((outpostref02_Whole.f k bt352.1 bt352.2 x3).bind fun bt354 => ((outpostref02_Whole.f k 0 (Go.bits .xor .u64 x11 bt354.2) x3).bind fun bt356 => (outpostref02_lowest.l0 k x2 x3 x10 bt350.2 x12 bt356.2))))))
def outpostref02_lowest.f (k : Nat) (a0 : Int) (a1 : Int) (a2 : Int) (a3 : Int) : Option (Int) := outpostref02_lowest.l0 k a2 a3 a0 a1 1 0
theorem outpostref02_lowest.mono_l : ∀ k, (∀ y0 y1 y2 y3 y4 y5, LeO (outpostref02_lowest.l0 k y0 y1 y2 y3 y4 y5) (outpostref02_lowest.l0 (k + 1) y0 y1 y2 y3 y4 y5))
  | 0 => fun _ _ _ _ _ _ r h => by simp [outpostref02_lowest.l0] at h
  | k + 1 => by
    have ih0 := outpostref02_lowest.mono_l k
    · intro y0 y1 y2 y3 y4 y5
      unfold outpostref02_lowest.l0
      repeat' first
      | (with_reducible exact ih0 _ _ _ _ _ _)
      | (with_reducible exact outpostref02_Mul.mono _ _ _)
      | (with_reducible exact outpostref02_Whole.mono _ _ _ _)
      | (with_reducible exact LeO.refl _)
      | (with_reducible exact LeO.none _)
      | (with_reducible refine LeO.ite ?_ ?_)
      | (with_reducible refine LeO.bind ?_ (fun _ => ?_))
      | exact ih0 _ _ _ _ _ _
      | exact outpostref02_Mul.mono _ _ _
      | exact outpostref02_Whole.mono _ _ _ _
      | exact LeO.none _
      | refine LeO.ite ?_ ?_
      | refine LeO.bind ?_ (fun _ => ?_)
theorem outpostref02_lowest.mono : ∀ a0 a1 a2 a3 k, LeO (outpostref02_lowest.f k a0 a1 a2 a3) (outpostref02_lowest.f (k + 1) a0 a1 a2 a3) := by
  intro a0 a1 a2 a3 k
  have ih0 := outpostref02_lowest.mono_l k
  unfold outpostref02_lowest.f
  repeat' first
      | (with_reducible exact ih0 _ _ _ _ _ _)
      | (with_reducible exact outpostref02_Mul.mono _ _ _)
      | (with_reducible exact outpostref02_Whole.mono _ _ _ _)
      | (with_reducible exact LeO.refl _)
      | (with_reducible exact LeO.none _)
      | (with_reducible refine LeO.ite ?_ ?_)
      | (with_reducible refine LeO.bind ?_ (fun _ => ?_))
      | exact ih0 _ _ _ _ _ _
      | exact outpostref02_Mul.mono _ _ _
      | exact outpostref02_Whole.mono _ _ _ _
      | exact LeO.none _
      | refine LeO.ite ?_ ?_
      | refine LeO.bind ?_ (fun _ => ?_)
set_option maxHeartbeats 8000000 in
set_option maxRecDepth 100000 in
theorem outpostref02_lowest.calls (k : Nat) (a0 : Int) (a1 : Int) (a2 : Int) (a3 : Int) (r : Int) (w : World) (h : outpostref02_lowest.f k a0 a1 a2 a3 = some r) :
    Calls Try.prog 60 #[.int .u64 a0, .int .u64 a1, .int .u64 a2, .int .u64 a3] w fun e w' => e = .returned (.int .u64 r) ∧ Drawn0 w w' := by
  have H : (outpostref02_lowest.l0 k a2 a3 a0 a1 1 0) = some r := h
  clear h
  have H' := Aside0.mk H
  clear H
  go_enter Try.func60, Try.ntmps60
  go_wp2
  go_loopg [9, 10, 11, 12] k (fun kq v9 v10 v11 v12 w' => ∃ (x9_1 : Int) (x10_1 : Int) (x11_1 : Int) (x12_1 : Int), v9 = .int .u64 x9_1 ∧ v10 = .int .u64 x10_1 ∧ v11 = .int .u64 x11_1 ∧ v12 = .int .u64 x12_1 ∧ Aside0 (outpostref02_lowest.l0 kq a2 a3 x9_1 x10_1 x11_1 x12_1 = some r) ∧ Aside0 (kq ≤ k) ∧ Drawn0 w w')
  case atStart => exact ⟨(a0), (a1), (1), (0), (by first | rfl | (simp; done) | (simp [*]; done)), (by first | rfl | (simp; done) | (simp [*]; done)), (by first | rfl | (simp; done) | (simp [*]; done)), (by first | rfl | (simp; done) | (simp [*]; done)), H', ⟨Nat.le_refl _⟩, by repeat (first | exact Drawn0.refl _ | apply Drawn0.step)⟩
  case round =>
    clear H'
    try clear p2
    obtain ⟨x9_1, x10_1, x11_1, x12_1, rfl, rfl, rfl, rfl, HA, HK1, ⟨m1, rfl⟩⟩ := hrel
    cases gk with
    | zero => exact absurd HA.out (by simp [outpostref02_lowest.l0])
    | succ k1 =>
      have H := HA.out
      clear HA
      simp only [outpostref02_lowest.l0] at H
      by_cases c5 : x9_1 = a2
      · rw [if_pos c5] at H
        have c5b0 : (x9_1 == a2) = true := beq_iff_eq.mpr c5
        have c5b1 : (x9_1 != a2) = false := bne_eq_false_iff_eq.mpr c5
        clear c5
        replace H := Option.bind_eq_some_iff.mp H
        obtain ⟨⟨t348, t349⟩, A60, H⟩ := H
        replace H : (some t349) = some r := H
        have A6 := Aside0.mk A60
        clear A60
        obtain rfl := Option.some.inj H
        go_wp2_with (first | ((with_reducible refine gate_callee (f := 54) rfl ?_); refine goesL_ (some 62) rfl rfl Try.func54 (by kernel_rfl) rfl #[.int .u64 0, .int .u64 x11_1, .int .u64 a3] rfl (by (try simp only [List.map_toArray, List.map_cons, List.map_nil]); first | done | rfl | (simp only [List.length_drop, List.length_take]; rfl)) ?_; (with_reducible refine (outpostref02_Whole.calls k1 0 x11_1 a3 t348 t349 _ A6.out).mono ?_); rintro e w' ⟨rfl, ⟨nd, rfl⟩⟩; refine ⟨_, rfl, ?_⟩))
        go_ret
        exact ⟨by first | rfl | (simp; done) | (simp [*]; done), by repeat (first | exact Drawn0.refl _ | apply Drawn0.step)⟩
      · rw [if_neg c5] at H
        have c5b0 : (x9_1 == a2) = false := beq_eq_false_iff_ne.mpr c5
        have c5b1 : (x9_1 != a2) = true := bne_iff_ne.mpr c5
        by_cases c7 : x10_1 = 0
        · rw [if_pos c7] at H
          have c7b0 : (x10_1 == 0) = true := beq_iff_eq.mpr c7
          have c7b1 : (x10_1 != 0) = false := bne_eq_false_iff_eq.mpr c7
          clear c7
          obtain rfl := Option.some.inj H
          go_wp2
          go_ret
          exact ⟨by first | rfl | (simp; done) | (simp [*]; done), by repeat (first | exact Drawn0.refl _ | apply Drawn0.step)⟩
        · rw [if_neg c7] at H
          have c7b0 : (x10_1 == 0) = false := beq_eq_false_iff_ne.mpr c7
          have c7b1 : (x10_1 != 0) = true := bne_iff_ne.mpr c7
          replace H := Option.bind_eq_some_iff.mp H
          obtain ⟨⟨t350, t351⟩, A80, H⟩ := H
          replace H : ((outpostref02_Mul.f k1 t350 x12_1).bind fun bt352 => ((outpostref02_Whole.f k1 bt352.1 bt352.2 a3).bind fun bt354 => ((outpostref02_Whole.f k1 0 (Go.bits .xor .u64 x11_1 bt354.2) a3).bind fun bt356 => (outpostref02_lowest.l0 k1 a2 a3 x10_1 t351 x12_1 bt356.2)))) = some r := H
          have A8 := Aside0.mk A80
          clear A80
          replace H := Option.bind_eq_some_iff.mp H
          obtain ⟨⟨t352, t353⟩, A90, H⟩ := H
          replace H : ((outpostref02_Whole.f k1 t352 t353 a3).bind fun bt354 => ((outpostref02_Whole.f k1 0 (Go.bits .xor .u64 x11_1 bt354.2) a3).bind fun bt356 => (outpostref02_lowest.l0 k1 a2 a3 x10_1 t351 x12_1 bt356.2))) = some r := H
          have A9 := Aside0.mk A90
          clear A90
          replace H := Option.bind_eq_some_iff.mp H
          obtain ⟨⟨t354, t355⟩, A100, H⟩ := H
          replace H : ((outpostref02_Whole.f k1 0 (Go.bits .xor .u64 x11_1 t355) a3).bind fun bt356 => (outpostref02_lowest.l0 k1 a2 a3 x10_1 t351 x12_1 bt356.2)) = some r := H
          have A10 := Aside0.mk A100
          clear A100
          replace H := Option.bind_eq_some_iff.mp H
          obtain ⟨⟨t356, t357⟩, A110, H⟩ := H
          replace H : (outpostref02_lowest.l0 k1 a2 a3 x10_1 t351 x12_1 t357) = some r := H
          have A11 := Aside0.mk A110
          clear A110
          have H' := Aside0.mk H
          clear H
          go_wp2_with (first | ((with_reducible refine gate_callee (f := 54) rfl ?_); refine goesL_ (some 31) rfl rfl Try.func54 (by kernel_rfl) rfl #[.int .u64 0, .int .u64 x9_1, .int .u64 x10_1] rfl (by (try simp only [List.map_toArray, List.map_cons, List.map_nil]); first | done | rfl | (simp only [List.length_drop, List.length_take]; rfl)) ?_; (with_reducible refine (outpostref02_Whole.calls k1 0 x9_1 x10_1 t350 t351 _ A8.out).mono ?_); rintro e w' ⟨rfl, ⟨nd, rfl⟩⟩; refine ⟨_, rfl, ?_⟩) | ((with_reducible refine gate_callee (f := 17) rfl ?_); refine goesL_ (some 37) rfl rfl Try.func17 (by kernel_rfl) rfl #[.int .u64 t350, .int .u64 x12_1] rfl (by (try simp only [List.map_toArray, List.map_cons, List.map_nil]); first | done | rfl | (simp only [List.length_drop, List.length_take]; rfl)) ?_; (with_reducible refine (outpostref02_Mul.calls k1 t350 x12_1 t352 t353 _ A9.out).mono ?_); rintro e w' ⟨rfl, ⟨nd, rfl⟩⟩; refine ⟨_, rfl, ?_⟩) | ((with_reducible refine gate_callee (f := 54) rfl ?_); refine goesL_ (some 44) rfl rfl Try.func54 (by kernel_rfl) rfl #[.int .u64 t352, .int .u64 t353, .int .u64 a3] rfl (by (try simp only [List.map_toArray, List.map_cons, List.map_nil]); first | done | rfl | (simp only [List.length_drop, List.length_take]; rfl)) ?_; (with_reducible refine (outpostref02_Whole.calls k1 t352 t353 a3 t354 t355 _ A10.out).mono ?_); rintro e w' ⟨rfl, ⟨nd, rfl⟩⟩; refine ⟨_, rfl, ?_⟩) | ((with_reducible refine gate_callee (f := 54) rfl ?_); refine goesL_ (some 56) rfl rfl Try.func54 (by kernel_rfl) rfl #[.int .u64 0, .int .u64 (Go.bits .xor .u64 x11_1 t355), .int .u64 a3] rfl (by (try simp only [List.map_toArray, List.map_cons, List.map_nil]); first | done | rfl | (simp only [List.length_drop, List.length_take]; rfl)) ?_; (with_reducible refine (outpostref02_Whole.calls k1 0 (Go.bits .xor .u64 x11_1 t355) a3 t356 t357 _ A11.out).mono ?_); rintro e w' ⟨rfl, ⟨nd, rfl⟩⟩; refine ⟨_, rfl, ?_⟩))
          go_roundg k1
          case measure => have := HK1.out; omega
          case rel => exact ⟨(x10_1), (t351), (x12_1), (t357), (by first | rfl | (simp; done) | (simp [*]; done)), (by first | rfl | (simp; done) | (simp [*]; done)), (by first | rfl | (simp; done) | (simp [*]; done)), (by first | rfl | (simp; done) | (simp [*]; done)), H', ⟨by have := HK1.out; omega⟩, by repeat (first | exact Drawn0.refl _ | apply Drawn0.step)⟩

/-! ### outpostref02_Bezout: function 41 -/
def outpostref02_Bezout.f (k : Nat) (a0 : Int) (a1 : Int) : Option (Int × Int × Int) := if a1 = 0 then (if a0 = 0 then (some (0, 0, 0)) else (some (a0, 1, 0))) else ((outpostref02_Gcd.f k a0 a1).bind fun t358 => ((outpostref02_Whole.f k 0 a1 t358).bind fun bt359 => ((outpostref02_lowest.f k a0 a1 t358 bt359.1).bind fun t361 => ((outpostref02_Mul.f k t361 a0).bind fun bt362 => ((outpostref02_Whole.f k bt362.1 (Go.bits .xor .u64 bt362.2 t358) a1).bind fun bt364 => (some (t358, t361, bt364.1)))))))
theorem outpostref02_Bezout.mono : ∀ a0 a1 k, LeO (outpostref02_Bezout.f k a0 a1) (outpostref02_Bezout.f (k + 1) a0 a1) := by
  intro a0 a1 k
  unfold outpostref02_Bezout.f
  repeat' first
      | (with_reducible exact outpostref02_Gcd.mono _ _ _)
      | (with_reducible exact outpostref02_Mul.mono _ _ _)
      | (with_reducible exact outpostref02_Whole.mono _ _ _ _)
      | (with_reducible exact outpostref02_lowest.mono _ _ _ _ _)
      | (with_reducible exact LeO.refl _)
      | (with_reducible exact LeO.none _)
      | (with_reducible refine LeO.ite ?_ ?_)
      | (with_reducible refine LeO.bind ?_ (fun _ => ?_))
      | exact outpostref02_Gcd.mono _ _ _
      | exact outpostref02_Mul.mono _ _ _
      | exact outpostref02_Whole.mono _ _ _ _
      | exact outpostref02_lowest.mono _ _ _ _ _
      | exact LeO.none _
      | refine LeO.ite ?_ ?_
      | refine LeO.bind ?_ (fun _ => ?_)
set_option maxHeartbeats 8000000 in
set_option maxRecDepth 100000 in
theorem outpostref02_Bezout.calls (k : Nat) (a0 : Int) (a1 : Int) (r1 : Int) (r2 : Int) (r3 : Int) (w : World) (h : outpostref02_Bezout.f k a0 a1 = some (r1, r2, r3)) :
    Calls Try.prog 41 #[.int .u64 a0, .int .u64 a1] w fun e w' => e = .returned (.tuple #[.int .u64 r1, .int .u64 r2, .int .u64 r3]) ∧ Drawn0 w w' := by
  have H : (if a1 = 0 then (if a0 = 0 then (some (0, 0, 0)) else (some (a0, 1, 0))) else ((outpostref02_Gcd.f k a0 a1).bind fun t358 => ((outpostref02_Whole.f k 0 a1 t358).bind fun bt359 => ((outpostref02_lowest.f k a0 a1 t358 bt359.1).bind fun t361 => ((outpostref02_Mul.f k t361 a0).bind fun bt362 => ((outpostref02_Whole.f k bt362.1 (Go.bits .xor .u64 bt362.2 t358) a1).bind fun bt364 => (some (t358, t361, bt364.1)))))))) = some (r1, r2, r3) := h
  clear h
  by_cases c3 : a1 = 0
  · rw [if_pos c3] at H
    have c3b0 : (a1 == 0) = true := beq_iff_eq.mpr c3
    have c3b1 : (a1 != 0) = false := bne_eq_false_iff_eq.mpr c3
    clear c3
    by_cases c4 : a0 = 0
    · rw [if_pos c4] at H
      have c4b0 : (a0 == 0) = true := beq_iff_eq.mpr c4
      have c4b1 : (a0 != 0) = false := bne_eq_false_iff_eq.mpr c4
      clear c4
      simp only [Option.some.injEq, Prod.mk.injEq] at H
      obtain ⟨rfl, rfl, rfl⟩ := H
      go_enter Try.func41, Try.ntmps41
      go_wp2
      go_ret3
      exact ⟨by first | rfl | (simp; done) | (simp [*]; done), by repeat (first | exact Drawn0.refl _ | apply Drawn0.step)⟩
    · rw [if_neg c4] at H
      have c4b0 : (a0 == 0) = false := beq_eq_false_iff_ne.mpr c4
      have c4b1 : (a0 != 0) = true := bne_iff_ne.mpr c4
      simp only [Option.some.injEq, Prod.mk.injEq] at H
      obtain ⟨rfl, rfl, rfl⟩ := H
      go_enter Try.func41, Try.ntmps41
      go_wp2
      go_ret3
      exact ⟨by first | rfl | (simp; done) | (simp [*]; done), by repeat (first | exact Drawn0.refl _ | apply Drawn0.step)⟩
  · rw [if_neg c3] at H
    have c3b0 : (a1 == 0) = false := beq_eq_false_iff_ne.mpr c3
    have c3b1 : (a1 != 0) = true := bne_iff_ne.mpr c3
    replace H := Option.bind_eq_some_iff.mp H
    obtain ⟨t358, A50, H⟩ := H
    replace H : ((outpostref02_Whole.f k 0 a1 t358).bind fun bt359 => ((outpostref02_lowest.f k a0 a1 t358 bt359.1).bind fun t361 => ((outpostref02_Mul.f k t361 a0).bind fun bt362 => ((outpostref02_Whole.f k bt362.1 (Go.bits .xor .u64 bt362.2 t358) a1).bind fun bt364 => (some (t358, t361, bt364.1)))))) = some (r1, r2, r3) := H
    have A5 := Aside0.mk A50
    clear A50
    replace H := Option.bind_eq_some_iff.mp H
    obtain ⟨⟨t359, t360⟩, A60, H⟩ := H
    replace H : ((outpostref02_lowest.f k a0 a1 t358 t359).bind fun t361 => ((outpostref02_Mul.f k t361 a0).bind fun bt362 => ((outpostref02_Whole.f k bt362.1 (Go.bits .xor .u64 bt362.2 t358) a1).bind fun bt364 => (some (t358, t361, bt364.1))))) = some (r1, r2, r3) := H
    have A6 := Aside0.mk A60
    clear A60
    replace H := Option.bind_eq_some_iff.mp H
    obtain ⟨t361, A70, H⟩ := H
    replace H : ((outpostref02_Mul.f k t361 a0).bind fun bt362 => ((outpostref02_Whole.f k bt362.1 (Go.bits .xor .u64 bt362.2 t358) a1).bind fun bt364 => (some (t358, t361, bt364.1)))) = some (r1, r2, r3) := H
    have A7 := Aside0.mk A70
    clear A70
    replace H := Option.bind_eq_some_iff.mp H
    obtain ⟨⟨t362, t363⟩, A80, H⟩ := H
    replace H : ((outpostref02_Whole.f k t362 (Go.bits .xor .u64 t363 t358) a1).bind fun bt364 => (some (t358, t361, bt364.1))) = some (r1, r2, r3) := H
    have A8 := Aside0.mk A80
    clear A80
    replace H := Option.bind_eq_some_iff.mp H
    obtain ⟨⟨t364, t365⟩, A90, H⟩ := H
    replace H : (some (t358, t361, t364)) = some (r1, r2, r3) := H
    have A9 := Aside0.mk A90
    clear A90
    simp only [Option.some.injEq, Prod.mk.injEq] at H
    obtain ⟨rfl, rfl, rfl⟩ := H
    go_enter Try.func41, Try.ntmps41
    go_wp2_with (first | ((with_reducible refine gate_callee (f := 42) rfl ?_); refine goesL_ (some 22) rfl rfl Try.func42 (by kernel_rfl) rfl #[.int .u64 a0, .int .u64 a1] rfl (by (try simp only [List.map_toArray, List.map_cons, List.map_nil]); first | done | rfl | (simp only [List.length_drop, List.length_take]; rfl)) ?_; (with_reducible refine (outpostref02_Gcd.calls k a0 a1 t358 _ A5.out).mono ?_); rintro e w' ⟨rfl, ⟨nd, rfl⟩⟩; refine ⟨_, rfl, ?_⟩) | ((with_reducible refine gate_callee (f := 54) rfl ?_); refine goesL_ (some 26) rfl rfl Try.func54 (by kernel_rfl) rfl #[.int .u64 0, .int .u64 a1, .int .u64 t358] rfl (by (try simp only [List.map_toArray, List.map_cons, List.map_nil]); first | done | rfl | (simp only [List.length_drop, List.length_take]; rfl)) ?_; (with_reducible refine (outpostref02_Whole.calls k 0 a1 t358 t359 t360 _ A6.out).mono ?_); rintro e w' ⟨rfl, ⟨nd, rfl⟩⟩; refine ⟨_, rfl, ?_⟩) | ((with_reducible refine gate_callee (f := 60) rfl ?_); refine goesL_ (some 33) rfl rfl Try.func60 (by kernel_rfl) rfl #[.int .u64 a0, .int .u64 a1, .int .u64 t358, .int .u64 t359] rfl (by (try simp only [List.map_toArray, List.map_cons, List.map_nil]); first | done | rfl | (simp only [List.length_drop, List.length_take]; rfl)) ?_; (with_reducible refine (outpostref02_lowest.calls k a0 a1 t358 t359 t361 _ A7.out).mono ?_); rintro e w' ⟨rfl, ⟨nd, rfl⟩⟩; refine ⟨_, rfl, ?_⟩) | ((with_reducible refine gate_callee (f := 17) rfl ?_); refine goesL_ (some 37) rfl rfl Try.func17 (by kernel_rfl) rfl #[.int .u64 t361, .int .u64 a0] rfl (by (try simp only [List.map_toArray, List.map_cons, List.map_nil]); first | done | rfl | (simp only [List.length_drop, List.length_take]; rfl)) ?_; (with_reducible refine (outpostref02_Mul.calls k t361 a0 t362 t363 _ A8.out).mono ?_); rintro e w' ⟨rfl, ⟨nd, rfl⟩⟩; refine ⟨_, rfl, ?_⟩) | ((with_reducible refine gate_callee (f := 54) rfl ?_); refine goesL_ (some 46) rfl rfl Try.func54 (by kernel_rfl) rfl #[.int .u64 t362, .int .u64 (Go.bits .xor .u64 t363 t358), .int .u64 a1] rfl (by (try simp only [List.map_toArray, List.map_cons, List.map_nil]); first | done | rfl | (simp only [List.length_drop, List.length_take]; rfl)) ?_; (with_reducible refine (outpostref02_Whole.calls k t362 (Go.bits .xor .u64 t363 t358) a1 t364 t365 _ A9.out).mono ?_); rintro e w' ⟨rfl, ⟨nd, rfl⟩⟩; refine ⟨_, rfl, ?_⟩))
    go_ret3
    exact ⟨by first | rfl | (simp; done) | (simp [*]; done), by repeat (first | exact Drawn0.refl _ | apply Drawn0.step)⟩

end Go.Proofs.Ytofdnjlcnpaecaa.P
