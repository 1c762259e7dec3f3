/- This session's own text, laid by its program out of the translation: functions of the Go code as Lean functions, each with a proof that its call comes to that function's answers. No condition. -/
import Derived.Test.YtofdnjlcnpaecaaP0
import Derived.Test.YtofdnjlcnpaecaaP2
import Derived.Test.YtofdnjlcnpaecaaP7
import Derived.Test.YtofdnjlcnpaecaaP10
import Derived.Test.YtofdnjlcnpaecaaP13
namespace Go.Proofs.Ytofdnjlcnpaecaa.P
open Go.RowKit Go.Proofs.YtofdnjlcnpaecaaW.PrintWords Go.Proofs.YtofdnjlcnpaecaaW.PrintLast Go.Proofs.YtofdnjlcnpaecaaW.PrintMore
attribute [local go_sem] max2_int min2_int max_two min_two max_three min_three max_four min_four   -- for this text's walks alone
set_option linter.unusedVariables false
set_option linter.unusedSimpArgs false

/-! ### outpostref02_Order: function 43 -/
mutual
def outpostref02_Order.j0 : Nat → Int → Bool → Option (Int × Int)
  | 0, _, _ => none
  | k + 1, x0, x15 => if x15 = true then (some (0, 21)) else ((outpostref02_Bit.f x0 0).bind fun t384 => (if t384 = 0 then (some (0, 22)) else ((outpostref02_Whole.f k 0 1 x0).bind fun bt385 => (outpostref02_Order.l0 k x0 bt385.2 bt385.2 1))))
def outpostref02_Order.l0 : Nat → Int → Int → Int → Int → Option (Int × Int)
  | 0, _, _, _, _ => none
  | k + 1, x0, x5, x6, x7 => (outpostref02_Degree.f k (IntKind.u64.wrap (x6 * 2))).bind fun t387 => ((outpostref02_Degree.f k x0).bind fun t388 => (if t387 = t388 then (if x0 = 1 then (some (x7, 0)) else (if (Go.bits .xor .u64 (IntKind.u64.wrap (x6 * 2)) x0) = x5 then (some (x7, 0)) else (outpostref02_Order.l0 k x0 x5 (Go.bits .xor .u64 (IntKind.u64.wrap (x6 * 2)) x0) (wrap64 (x7 + 1))))) else (if x0 = 1 then (some (x7, 0)) else (if (IntKind.u64.wrap (x6 * 2)) = x5 then (some (x7, 0)) else (outpostref02_Order.l0 k x0 x5 (IntKind.u64.wrap (x6 * 2)) (wrap64 (x7 + 1)))))))
end
def outpostref02_Order.f (k : Nat) (a0 : Int) : Option (Int × Int) := (outpostref02_Degree.f k a0).bind fun t382 => (if t382 < 0 then (outpostref02_Order.j0 k a0 true) else ((outpostref02_Degree.f k a0).bind fun t383 => (outpostref02_Order.j0 k a0 (decide (t383 > 20)))))
theorem outpostref02_Order.mono_l : ∀ k, (∀ y0 y1, LeO (outpostref02_Order.j0 k y0 y1) (outpostref02_Order.j0 (k + 1) y0 y1)) ∧ (∀ y0 y1 y2 y3, LeO (outpostref02_Order.l0 k y0 y1 y2 y3) (outpostref02_Order.l0 (k + 1) y0 y1 y2 y3))
  | 0 => ⟨fun _ _ r h => by simp [outpostref02_Order.j0] at h, fun _ _ _ _ r h => by simp [outpostref02_Order.l0] at h⟩
  | k + 1 => by
    obtain ⟨ih0, ih1⟩ := outpostref02_Order.mono_l k
    refine ⟨?_, ?_⟩
    · intro y0 y1
      unfold outpostref02_Order.j0
      repeat' first
      | (with_reducible exact ih0 _ _)
      | (with_reducible exact ih1 _ _ _ _)
      | (with_reducible exact outpostref02_Degree.mono _ _)
      | (with_reducible exact outpostref02_Whole.mono _ _ _ _)
      | (with_reducible exact LeO.refl _)
      | (with_reducible exact LeO.none _)
      | (with_reducible refine LeO.ite ?_ ?_)
      | (with_reducible refine LeO.bind ?_ (fun _ => ?_))
      | exact ih0 _ _
      | exact ih1 _ _ _ _
      | exact outpostref02_Degree.mono _ _
      | exact outpostref02_Whole.mono _ _ _ _
      | exact LeO.none _
      | refine LeO.ite ?_ ?_
      | refine LeO.bind ?_ (fun _ => ?_)
    · intro y0 y1 y2 y3
      unfold outpostref02_Order.l0
      repeat' first
      | (with_reducible exact ih0 _ _)
      | (with_reducible exact ih1 _ _ _ _)
      | (with_reducible exact outpostref02_Degree.mono _ _)
      | (with_reducible exact outpostref02_Whole.mono _ _ _ _)
      | (with_reducible exact LeO.refl _)
      | (with_reducible exact LeO.none _)
      | (with_reducible refine LeO.ite ?_ ?_)
      | (with_reducible refine LeO.bind ?_ (fun _ => ?_))
      | exact ih0 _ _
      | exact ih1 _ _ _ _
      | exact outpostref02_Degree.mono _ _
      | exact outpostref02_Whole.mono _ _ _ _
      | exact LeO.none _
      | refine LeO.ite ?_ ?_
      | refine LeO.bind ?_ (fun _ => ?_)
theorem outpostref02_Order.mono : ∀ a0 k, LeO (outpostref02_Order.f k a0) (outpostref02_Order.f (k + 1) a0) := by
  intro a0 k
  obtain ⟨ih0, ih1⟩ := outpostref02_Order.mono_l k
  unfold outpostref02_Order.f
  repeat' first
      | (with_reducible exact ih0 _ _)
      | (with_reducible exact ih1 _ _ _ _)
      | (with_reducible exact outpostref02_Degree.mono _ _)
      | (with_reducible exact outpostref02_Whole.mono _ _ _ _)
      | (with_reducible exact LeO.refl _)
      | (with_reducible exact LeO.none _)
      | (with_reducible refine LeO.ite ?_ ?_)
      | (with_reducible refine LeO.bind ?_ (fun _ => ?_))
      | exact ih0 _ _
      | exact ih1 _ _ _ _
      | exact outpostref02_Degree.mono _ _
      | exact outpostref02_Whole.mono _ _ _ _
      | exact LeO.none _
      | refine LeO.ite ?_ ?_
      | refine LeO.bind ?_ (fun _ => ?_)
set_option maxHeartbeats 8000000 in
set_option maxRecDepth 100000 in
theorem outpostref02_Order.calls (k : Nat) (a0 : Int) (r1 : Int) (r2 : Int) (w : World) (h : outpostref02_Order.f k a0 = some (r1, r2)) :
    Calls Try.prog 43 #[.int .u64 a0] w fun e w' => e = .returned (.tuple #[.int .i64 r1, .int .i64 r2]) ∧ Drawn0 w w' := by
  have H : ((outpostref02_Degree.f k a0).bind fun t382 => (if t382 < 0 then (outpostref02_Order.j0 k a0 true) else ((outpostref02_Degree.f k a0).bind fun t383 => (outpostref02_Order.j0 k a0 (decide (t383 > 20)))))) = some (r1, r2) := h
  clear h
  have HC2 := Aside0.mk H
  clear H
  go_enter Try.func43, Try.ntmps43
  go_upto_region 1 with (fail)
  go_cut [15] (fun v15 wc => ∃ (kq : Nat) (x15_1 : Bool), v15 = .bool x15_1 ∧ Aside0 (outpostref02_Order.j0 kq a0 x15_1 = some (r1, r2)) ∧ Aside0 (kq ≤ k) ∧ Drawn0 w wc)
  case first =>
    have H := HC2.out
    clear HC2
    replace H := Option.bind_eq_some_iff.mp H
    obtain ⟨t382, A30, H⟩ := H
    replace H : (if t382 < 0 then (outpostref02_Order.j0 k a0 true) else ((outpostref02_Degree.f k a0).bind fun t383 => (outpostref02_Order.j0 k a0 (decide (t383 > 20))))) = some (r1, r2) := H
    have A3 := Aside0.mk A30
    clear A30
    by_cases c4 : t382 < 0
    · rw [if_pos c4] at H
      have c4b0 : decide (t382 < 0) = true := decide_eq_true c4
      clear c4
      (first | rw [c4b0] | (simp only [i64_w, i32_w]; rw [c4b0]) | skip)
      have H' := Aside0.mk H
      clear H
      go_wp2_with (first | ((with_reducible refine gate_callee (f := 19) rfl ?_); refine goesL_ (some 9) rfl rfl Try.func19 (by kernel_rfl) rfl #[.int .u64 a0] rfl (by (try simp only [List.map_toArray, List.map_cons, List.map_nil]); first | done | rfl | (simp only [List.length_drop, List.length_take]; rfl)) ?_; (with_reducible refine (outpostref02_Degree.calls k a0 t382 _ A3.out).mono ?_); rintro e w' ⟨rfl, ⟨nd, rfl⟩⟩; refine ⟨_, rfl, ?_⟩))
      go_meet
      case rel => exact ⟨_, (true), (by first | rfl | (simp; done) | (simp [*]; done)), H', ⟨by first | omega | exact Nat.le_refl _⟩, by repeat (first | exact Drawn0.refl _ | apply Drawn0.step)⟩
    · rw [if_neg c4] at H
      have c4b0 : decide (t382 < 0) = false := decide_eq_false c4
      clear c4
      (first | rw [c4b0] | (simp only [i64_w, i32_w]; rw [c4b0]) | skip)
      replace H := Option.bind_eq_some_iff.mp H
      obtain ⟨t383, A50, H⟩ := H
      replace H : (outpostref02_Order.j0 k a0 (decide (t383 > 20))) = some (r1, r2) := H
      have A5 := Aside0.mk A50
      clear A50
      have H' := Aside0.mk H
      clear H
      go_wp2_with (first | ((with_reducible refine gate_callee (f := 19) rfl ?_); refine goesL_ (some 9) rfl rfl Try.func19 (by kernel_rfl) rfl #[.int .u64 a0] rfl (by (try simp only [List.map_toArray, List.map_cons, List.map_nil]); first | done | rfl | (simp only [List.length_drop, List.length_take]; rfl)) ?_; (with_reducible refine (outpostref02_Degree.calls k a0 t382 _ A3.out).mono ?_); rintro e w' ⟨rfl, ⟨nd, rfl⟩⟩; refine ⟨_, rfl, ?_⟩) | (go_at_call 19; (with_reducible refine (outpostref02_Degree.calls k a0 t383 _ A5.out).mono ?_); rintro e w' ⟨rfl, ⟨nd, rfl⟩⟩))
      go_meet
      case rel => exact ⟨_, (decide (t383 > 20)), (by first | rfl | (simp; done) | (simp [*]; done)), H', ⟨by first | omega | exact Nat.le_refl _⟩, by repeat (first | exact Drawn0.refl _ | apply Drawn0.step)⟩
  case rest =>
    clear HC2
    try clear c1
    try clear p2
    try clear c4
    try clear c4b0
    obtain ⟨kq, x15_1, rfl, HA, HJ1, ⟨mc1, rfl⟩⟩ := hcut
    cases kq with
    | zero => exact absurd HA.out (by simp [outpostref02_Order.j0])
    | succ kj1 =>
      have H := HA.out
      clear HA
      simp only [outpostref02_Order.j0] at H
      by_cases c6 : x15_1 = true
      · subst c6
        have H1 : (some (0, 21)) = some (r1, r2) := by rw [if_pos rfl] at H; exact H
        clear H
        have H := H1
        clear H1
        simp only [Option.some.injEq, Prod.mk.injEq] at H
        obtain ⟨rfl, rfl⟩ := H
        go_wp2
        go_ret2
        exact ⟨by first | rfl | (simp; done) | (simp [*]; done), by repeat (first | exact Drawn0.refl _ | apply Drawn0.step)⟩
      · replace c6 := Bool.eq_false_iff.mpr c6
        subst c6
        have H1 : ((outpostref02_Bit.f a0 0).bind fun t384 => (if t384 = 0 then (some (0, 22)) else ((outpostref02_Whole.f kj1 0 1 a0).bind fun bt385 => (outpostref02_Order.l0 kj1 a0 bt385.2 bt385.2 1)))) = some (r1, r2) := by rw [if_neg (show ¬ (false = true) by decide)] at H; exact H
        clear H
        have H := H1
        clear H1
        replace H := Option.bind_eq_some_iff.mp H
        obtain ⟨t384, A70, H⟩ := H
        replace H : (if t384 = 0 then (some (0, 22)) else ((outpostref02_Whole.f kj1 0 1 a0).bind fun bt385 => (outpostref02_Order.l0 kj1 a0 bt385.2 bt385.2 1))) = some (r1, r2) := H
        have A7 := Aside0.mk A70
        clear A70
        by_cases c8 : t384 = 0
        · rw [if_pos c8] at H
          have c8b0 : (t384 == 0) = true := beq_iff_eq.mpr c8
          have c8b1 : (t384 != 0) = false := bne_eq_false_iff_eq.mpr c8
          clear c8
          simp only [Option.some.injEq, Prod.mk.injEq] at H
          obtain ⟨rfl, rfl⟩ := H
          go_wp2_with (first | ((with_reducible refine gate_callee (f := 47) rfl ?_); refine goesL_ (some 17) rfl rfl Try.func47 (by kernel_rfl) rfl #[.int .u64 a0, .int .i64 0] rfl (by (try simp only [List.map_toArray, List.map_cons, List.map_nil]); first | done | rfl | (simp only [List.length_drop, List.length_take]; rfl)) ?_; (with_reducible refine (outpostref02_Bit.calls a0 0 t384 _ A7.out).mono ?_); rintro e w' ⟨rfl, ⟨nd, rfl⟩⟩; refine ⟨_, rfl, ?_⟩))
          go_ret2
          exact ⟨by first | rfl | (simp; done) | (simp [*]; done), by repeat (first | exact Drawn0.refl _ | apply Drawn0.step)⟩
        · rw [if_neg c8] at H
          have c8b0 : (t384 == 0) = false := beq_eq_false_iff_ne.mpr c8
          have c8b1 : (t384 != 0) = true := bne_iff_ne.mpr c8
          replace H := Option.bind_eq_some_iff.mp H
          obtain ⟨⟨t385, t386⟩, A90, H⟩ := H
          replace H : (outpostref02_Order.l0 kj1 a0 t386 t386 1) = some (r1, r2) := H
          have A9 := Aside0.mk A90
          clear A90
          have H' := Aside0.mk H
          clear H
          go_wp2_with (first | ((with_reducible refine gate_callee (f := 47) rfl ?_); refine goesL_ (some 17) rfl rfl Try.func47 (by kernel_rfl) rfl #[.int .u64 a0, .int .i64 0] rfl (by (try simp only [List.map_toArray, List.map_cons, List.map_nil]); first | done | rfl | (simp only [List.length_drop, List.length_take]; rfl)) ?_; (with_reducible refine (outpostref02_Bit.calls a0 0 t384 _ A7.out).mono ?_); rintro e w' ⟨rfl, ⟨nd, rfl⟩⟩; refine ⟨_, rfl, ?_⟩) | ((with_reducible refine gate_callee (f := 54) rfl ?_); refine goesL_ (some 21) rfl rfl Try.func54 (by kernel_rfl) rfl #[.int .u64 0, .int .u64 1, .int .u64 a0] rfl (by (try simp only [List.map_toArray, List.map_cons, List.map_nil]); first | done | rfl | (simp only [List.length_drop, List.length_take]; rfl)) ?_; (with_reducible refine (outpostref02_Whole.calls kj1 0 1 a0 t385 t386 _ A9.out).mono ?_); rintro e w' ⟨rfl, ⟨nd, rfl⟩⟩; refine ⟨_, rfl, ?_⟩))
          go_loopg [6, 7] kj1 (fun kq v6 v7 w' => ∃ (x6_2 : Int) (x7_2 : Int), v6 = .int .u64 x6_2 ∧ v7 = .int .i64 x7_2 ∧ Aside0 (outpostref02_Order.l0 kq a0 t386 x6_2 x7_2 = some (r1, r2)) ∧ Aside0 (kq ≤ kj1) ∧ Drawn0 w w')
          case atStart => exact ⟨(t386), (1), (by first | rfl | (simp; done) | (simp [*]; done)), (by first | rfl | (simp; done) | (simp [*]; done)), H', ⟨Nat.le_refl _⟩, by repeat (first | exact Drawn0.refl _ | apply Drawn0.step)⟩
          case round =>
            clear H'
            try clear c1
            try clear p2
            try clear c4
            try clear c4b0
            try clear c5
            try clear c6
            try clear c8
            try clear c8b0
            try clear c8b1
            try clear p2
            obtain ⟨x6_2, x7_2, rfl, rfl, HA, HK2, ⟨m2, rfl⟩⟩ := hrel
            cases gk with
            | zero => exact absurd HA.out (by simp [outpostref02_Order.l0])
            | succ k2 =>
              have H := HA.out
              clear HA
              simp only [outpostref02_Order.l0] at H
              replace H := Option.bind_eq_some_iff.mp H
              obtain ⟨t387, A100, H⟩ := H
              replace H : ((outpostref02_Degree.f k2 a0).bind fun t388 => (if t387 = t388 then (if a0 = 1 then (some (x7_2, 0)) else (if (Go.bits .xor .u64 (IntKind.u64.wrap (x6_2 * 2)) a0) = t386 then (some (x7_2, 0)) else (outpostref02_Order.l0 k2 a0 t386 (Go.bits .xor .u64 (IntKind.u64.wrap (x6_2 * 2)) a0) (wrap64 (x7_2 + 1))))) else (if a0 = 1 then (some (x7_2, 0)) else (if (IntKind.u64.wrap (x6_2 * 2)) = t386 then (some (x7_2, 0)) else (outpostref02_Order.l0 k2 a0 t386 (IntKind.u64.wrap (x6_2 * 2)) (wrap64 (x7_2 + 1))))))) = some (r1, r2) := H
              have A10 := Aside0.mk A100
              clear A100
              replace H := Option.bind_eq_some_iff.mp H
              obtain ⟨t388, A110, H⟩ := H
              replace H : (if t387 = t388 then (if a0 = 1 then (some (x7_2, 0)) else (if (Go.bits .xor .u64 (IntKind.u64.wrap (x6_2 * 2)) a0) = t386 then (some (x7_2, 0)) else (outpostref02_Order.l0 k2 a0 t386 (Go.bits .xor .u64 (IntKind.u64.wrap (x6_2 * 2)) a0) (wrap64 (x7_2 + 1))))) else (if a0 = 1 then (some (x7_2, 0)) else (if (IntKind.u64.wrap (x6_2 * 2)) = t386 then (some (x7_2, 0)) else (outpostref02_Order.l0 k2 a0 t386 (IntKind.u64.wrap (x6_2 * 2)) (wrap64 (x7_2 + 1)))))) = some (r1, r2) := H
              have A11 := Aside0.mk A110
              clear A110
              by_cases c12 : t387 = t388
              · rw [if_pos c12] at H
                have c12b0 : (t387 == t388) = true := beq_iff_eq.mpr c12
                have c12b1 : (t387 != t388) = false := bne_eq_false_iff_eq.mpr c12
                clear c12
                by_cases c13 : a0 = 1
                · rw [if_pos c13] at H
                  have c13b0 : (a0 == 1) = true := beq_iff_eq.mpr c13
                  have c13b1 : (a0 != 1) = false := bne_eq_false_iff_eq.mpr c13
                  clear c13
                  simp only [Option.some.injEq, Prod.mk.injEq] at H
                  obtain ⟨rfl, rfl⟩ := H
                  go_wp2_with (first | ((with_reducible refine gate_callee (f := 19) rfl ?_); refine goesL_ (some 30) rfl rfl Try.func19 (by kernel_rfl) rfl #[.int .u64 (IntKind.u64.wrap (x6_2 * 2))] rfl (by (try simp only [List.map_toArray, List.map_cons, List.map_nil]); first | done | rfl | (simp only [List.length_drop, List.length_take]; rfl)) ?_; (with_reducible refine (outpostref02_Degree.calls k2 (IntKind.u64.wrap (x6_2 * 2)) t387 _ A10.out).mono ?_); rintro e w' ⟨rfl, ⟨nd, rfl⟩⟩; refine ⟨_, rfl, ?_⟩) | ((with_reducible refine gate_callee (f := 19) rfl ?_); refine goesL_ (some 32) rfl rfl Try.func19 (by kernel_rfl) rfl #[.int .u64 a0] rfl (by (try simp only [List.map_toArray, List.map_cons, List.map_nil]); first | done | rfl | (simp only [List.length_drop, List.length_take]; rfl)) ?_; (with_reducible refine (outpostref02_Degree.calls k2 a0 t388 _ A11.out).mono ?_); rintro e w' ⟨rfl, ⟨nd, rfl⟩⟩; refine ⟨_, rfl, ?_⟩))
                  go_ret2
                  exact ⟨by first | rfl | (simp; done) | (simp [*]; done), by repeat (first | exact Drawn0.refl _ | apply Drawn0.step)⟩
                · rw [if_neg c13] at H
                  have c13b0 : (a0 == 1) = false := beq_eq_false_iff_ne.mpr c13
                  have c13b1 : (a0 != 1) = true := bne_iff_ne.mpr c13
                  by_cases c14 : (Go.bits .xor .u64 (IntKind.u64.wrap (x6_2 * 2)) a0) = t386
                  · rw [if_pos c14] at H
                    have c14b0 : ((Go.bits .xor .u64 (IntKind.u64.wrap (x6_2 * 2)) a0) == t386) = true := beq_iff_eq.mpr c14
                    have c14b1 : ((Go.bits .xor .u64 (IntKind.u64.wrap (x6_2 * 2)) a0) != t386) = false := bne_eq_false_iff_eq.mpr c14
                    clear c14
                    simp only [Option.some.injEq, Prod.mk.injEq] at H
                    obtain ⟨rfl, rfl⟩ := H
                    go_wp2_with (first | ((with_reducible refine gate_callee (f := 19) rfl ?_); refine goesL_ (some 30) rfl rfl Try.func19 (by kernel_rfl) rfl #[.int .u64 (IntKind.u64.wrap (x6_2 * 2))] rfl (by (try simp only [List.map_toArray, List.map_cons, List.map_nil]); first | done | rfl | (simp only [List.length_drop, List.length_take]; rfl)) ?_; (with_reducible refine (outpostref02_Degree.calls k2 (IntKind.u64.wrap (x6_2 * 2)) t387 _ A10.out).mono ?_); rintro e w' ⟨rfl, ⟨nd, rfl⟩⟩; refine ⟨_, rfl, ?_⟩) | ((with_reducible refine gate_callee (f := 19) rfl ?_); refine goesL_ (some 32) rfl rfl Try.func19 (by kernel_rfl) rfl #[.int .u64 a0] rfl (by (try simp only [List.map_toArray, List.map_cons, List.map_nil]); first | done | rfl | (simp only [List.length_drop, List.length_take]; rfl)) ?_; (with_reducible refine (outpostref02_Degree.calls k2 a0 t388 _ A11.out).mono ?_); rintro e w' ⟨rfl, ⟨nd, rfl⟩⟩; refine ⟨_, rfl, ?_⟩))
                    go_ret2
                    exact ⟨by first | rfl | (simp; done) | (simp [*]; done), by repeat (first | exact Drawn0.refl _ | apply Drawn0.step)⟩
                  · rw [if_neg c14] at H
                    have c14b0 : ((Go.bits .xor .u64 (IntKind.u64.wrap (x6_2 * 2)) a0) == t386) = false := beq_eq_false_iff_ne.mpr c14
                    have c14b1 : ((Go.bits .xor .u64 (IntKind.u64.wrap (x6_2 * 2)) a0) != t386) = true := bne_iff_ne.mpr c14
                    have H' := Aside0.mk H
                    clear H
                    go_wp2_with (first | ((with_reducible refine gate_callee (f := 19) rfl ?_); refine goesL_ (some 30) rfl rfl Try.func19 (by kernel_rfl) rfl #[.int .u64 (IntKind.u64.wrap (x6_2 * 2))] rfl (by (try simp only [List.map_toArray, List.map_cons, List.map_nil]); first | done | rfl | (simp only [List.length_drop, List.length_take]; rfl)) ?_; (with_reducible refine (outpostref02_Degree.calls k2 (IntKind.u64.wrap (x6_2 * 2)) t387 _ A10.out).mono ?_); rintro e w' ⟨rfl, ⟨nd, rfl⟩⟩; refine ⟨_, rfl, ?_⟩) | ((with_reducible refine gate_callee (f := 19) rfl ?_); refine goesL_ (some 32) rfl rfl Try.func19 (by kernel_rfl) rfl #[.int .u64 a0] rfl (by (try simp only [List.map_toArray, List.map_cons, List.map_nil]); first | done | rfl | (simp only [List.length_drop, List.length_take]; rfl)) ?_; (with_reducible refine (outpostref02_Degree.calls k2 a0 t388 _ A11.out).mono ?_); rintro e w' ⟨rfl, ⟨nd, rfl⟩⟩; refine ⟨_, rfl, ?_⟩))
                    go_roundg k2
                    case measure => have := HJ1.out; have := HK2.out; omega
                    case rel => exact ⟨(Go.bits .xor .u64 (IntKind.u64.wrap (x6_2 * 2)) a0), (wrap64 (x7_2 + 1)), (by first | rfl | (simp; done) | (simp [*]; done)), (by first | rfl | (simp; done) | (simp [*]; done)), H', ⟨by have := HJ1.out; have := HK2.out; omega⟩, by repeat (first | exact Drawn0.refl _ | apply Drawn0.step)⟩
              · rw [if_neg c12] at H
                have c12b0 : (t387 == t388) = false := beq_eq_false_iff_ne.mpr c12
                have c12b1 : (t387 != t388) = true := bne_iff_ne.mpr c12
                by_cases c15 : a0 = 1
                · rw [if_pos c15] at H
                  have c15b0 : (a0 == 1) = true := beq_iff_eq.mpr c15
                  have c15b1 : (a0 != 1) = false := bne_eq_false_iff_eq.mpr c15
                  clear c15
                  simp only [Option.some.injEq, Prod.mk.injEq] at H
                  obtain ⟨rfl, rfl⟩ := H
                  go_wp2_with (first | ((with_reducible refine gate_callee (f := 19) rfl ?_); refine goesL_ (some 30) rfl rfl Try.func19 (by kernel_rfl) rfl #[.int .u64 (IntKind.u64.wrap (x6_2 * 2))] rfl (by (try simp only [List.map_toArray, List.map_cons, List.map_nil]); first | done | rfl | (simp only [List.length_drop, List.length_take]; rfl)) ?_; (with_reducible refine (outpostref02_Degree.calls k2 (IntKind.u64.wrap (x6_2 * 2)) t387 _ A10.out).mono ?_); rintro e w' ⟨rfl, ⟨nd, rfl⟩⟩; refine ⟨_, rfl, ?_⟩) | ((with_reducible refine gate_callee (f := 19) rfl ?_); refine goesL_ (some 32) rfl rfl Try.func19 (by kernel_rfl) rfl #[.int .u64 a0] rfl (by (try simp only [List.map_toArray, List.map_cons, List.map_nil]); first | done | rfl | (simp only [List.length_drop, List.length_take]; rfl)) ?_; (with_reducible refine (outpostref02_Degree.calls k2 a0 t388 _ A11.out).mono ?_); rintro e w' ⟨rfl, ⟨nd, rfl⟩⟩; refine ⟨_, rfl, ?_⟩))
                  go_ret2
                  exact ⟨by first | rfl | (simp; done) | (simp [*]; done), by repeat (first | exact Drawn0.refl _ | apply Drawn0.step)⟩
                · rw [if_neg c15] at H
                  have c15b0 : (a0 == 1) = false := beq_eq_false_iff_ne.mpr c15
                  have c15b1 : (a0 != 1) = true := bne_iff_ne.mpr c15
                  by_cases c16 : (IntKind.u64.wrap (x6_2 * 2)) = t386
                  · rw [if_pos c16] at H
                    have c16b0 : ((IntKind.u64.wrap (x6_2 * 2)) == t386) = true := beq_iff_eq.mpr c16
                    have c16b1 : ((IntKind.u64.wrap (x6_2 * 2)) != t386) = false := bne_eq_false_iff_eq.mpr c16
                    clear c16
                    simp only [Option.some.injEq, Prod.mk.injEq] at H
                    obtain ⟨rfl, rfl⟩ := H
                    go_wp2_with (first | ((with_reducible refine gate_callee (f := 19) rfl ?_); refine goesL_ (some 30) rfl rfl Try.func19 (by kernel_rfl) rfl #[.int .u64 (IntKind.u64.wrap (x6_2 * 2))] rfl (by (try simp only [List.map_toArray, List.map_cons, List.map_nil]); first | done | rfl | (simp only [List.length_drop, List.length_take]; rfl)) ?_; (with_reducible refine (outpostref02_Degree.calls k2 (IntKind.u64.wrap (x6_2 * 2)) t387 _ A10.out).mono ?_); rintro e w' ⟨rfl, ⟨nd, rfl⟩⟩; refine ⟨_, rfl, ?_⟩) | ((with_reducible refine gate_callee (f := 19) rfl ?_); refine goesL_ (some 32) rfl rfl Try.func19 (by kernel_rfl) rfl #[.int .u64 a0] rfl (by (try simp only [List.map_toArray, List.map_cons, List.map_nil]); first | done | rfl | (simp only [List.length_drop, List.length_take]; rfl)) ?_; (with_reducible refine (outpostref02_Degree.calls k2 a0 t388 _ A11.out).mono ?_); rintro e w' ⟨rfl, ⟨nd, rfl⟩⟩; refine ⟨_, rfl, ?_⟩))
                    go_ret2
                    exact ⟨by first | rfl | (simp; done) | (simp [*]; done), by repeat (first | exact Drawn0.refl _ | apply Drawn0.step)⟩
                  · rw [if_neg c16] at H
                    have c16b0 : ((IntKind.u64.wrap (x6_2 * 2)) == t386) = false := beq_eq_false_iff_ne.mpr c16
                    have c16b1 : ((IntKind.u64.wrap (x6_2 * 2)) != t386) = true := bne_iff_ne.mpr c16
                    have H' := Aside0.mk H
                    clear H
                    go_wp2_with (first | ((with_reducible refine gate_callee (f := 19) rfl ?_); refine goesL_ (some 30) rfl rfl Try.func19 (by kernel_rfl) rfl #[.int .u64 (IntKind.u64.wrap (x6_2 * 2))] rfl (by (try simp only [List.map_toArray, List.map_cons, List.map_nil]); first | done | rfl | (simp only [List.length_drop, List.length_take]; rfl)) ?_; (with_reducible refine (outpostref02_Degree.calls k2 (IntKind.u64.wrap (x6_2 * 2)) t387 _ A10.out).mono ?_); rintro e w' ⟨rfl, ⟨nd, rfl⟩⟩; refine ⟨_, rfl, ?_⟩) | ((with_reducible refine gate_callee (f := 19) rfl ?_); refine goesL_ (some 32) rfl rfl Try.func19 (by kernel_rfl) rfl #[.int .u64 a0] rfl (by (try simp only [List.map_toArray, List.map_cons, List.map_nil]); first | done | rfl | (simp only [List.length_drop, List.length_take]; rfl)) ?_; (with_reducible refine (outpostref02_Degree.calls k2 a0 t388 _ A11.out).mono ?_); rintro e w' ⟨rfl, ⟨nd, rfl⟩⟩; refine ⟨_, rfl, ?_⟩))
                    go_roundg k2
                    case measure => have := HJ1.out; have := HK2.out; omega
                    case rel => exact ⟨(IntKind.u64.wrap (x6_2 * 2)), (wrap64 (x7_2 + 1)), (by first | rfl | (simp; done) | (simp [*]; done)), (by first | rfl | (simp; done) | (simp [*]; done)), H', ⟨by have := HJ1.out; have := HK2.out; omega⟩, by repeat (first | exact Drawn0.refl _ | apply Drawn0.step)⟩

/-! ### poly_Primitive: function 44 -/
def poly_Primitive.j0 : Nat → Int → Int → Bool → Option (Bool × Int)
  | 0, _, _, _ => none
  | k + 1, x0, x4, x14 => if x14 = true then (some (false, 21)) else (if (Go.bits .and .u64 x0 1) = 0 then (some (false, 0)) else ((poly_prime.f k x0).bind fun t390 => (if t390 = true then ((poly_Order.f k x0).bind fun bt391 => (if 0 ≤ x4 then (some ((bt391.1 == (wrap64 ((shl .i64 1 x4) - 1))), 0)) else (none))) else (some (false, 0)))))
def poly_Primitive.f (k : Nat) (a0 : Int) : Option (Bool × Int) := (poly_Degree.f k a0).bind fun t389 => (if t389 < 1 then (poly_Primitive.j0 k a0 t389 true) else (poly_Primitive.j0 k a0 t389 (decide (t389 > 20))))
theorem poly_Primitive.mono_l : ∀ k, (∀ y0 y1 y2, LeO (poly_Primitive.j0 k y0 y1 y2) (poly_Primitive.j0 (k + 1) y0 y1 y2))
  | 0 => fun _ _ _ r h => by simp [poly_Primitive.j0] at h
  | k + 1 => by
    have ih0 := poly_Primitive.mono_l k
    · intro y0 y1 y2
      unfold poly_Primitive.j0
      repeat' first
      | (with_reducible exact ih0 _ _ _)
      | (with_reducible exact poly_Degree.mono _ _)
      | (with_reducible exact poly_Order.mono _ _)
      | (with_reducible exact poly_prime.mono _ _)
      | (with_reducible exact LeO.refl _)
      | (with_reducible exact LeO.none _)
      | (with_reducible refine LeO.ite ?_ ?_)
      | (with_reducible refine LeO.bind ?_ (fun _ => ?_))
      | exact ih0 _ _ _
      | exact poly_Degree.mono _ _
      | exact poly_Order.mono _ _
      | exact poly_prime.mono _ _
      | exact LeO.none _
      | refine LeO.ite ?_ ?_
      | refine LeO.bind ?_ (fun _ => ?_)
theorem poly_Primitive.mono : ∀ a0 k, LeO (poly_Primitive.f k a0) (poly_Primitive.f (k + 1) a0) := by
  intro a0 k
  have ih0 := poly_Primitive.mono_l k
  unfold poly_Primitive.f
  repeat' first
      | (with_reducible exact ih0 _ _ _)
      | (with_reducible exact poly_Degree.mono _ _)
      | (with_reducible exact poly_Order.mono _ _)
      | (with_reducible exact poly_prime.mono _ _)
      | (with_reducible exact LeO.refl _)
      | (with_reducible exact LeO.none _)
      | (with_reducible refine LeO.ite ?_ ?_)
      | (with_reducible refine LeO.bind ?_ (fun _ => ?_))
      | exact ih0 _ _ _
      | exact poly_Degree.mono _ _
      | exact poly_Order.mono _ _
      | exact poly_prime.mono _ _
      | exact LeO.none _
      | refine LeO.ite ?_ ?_
      | refine LeO.bind ?_ (fun _ => ?_)
set_option maxHeartbeats 8000000 in
set_option maxRecDepth 100000 in
theorem poly_Primitive.calls (k : Nat) (a0 : Int) (r1 : Bool) (r2 : Int) (w : World) (h : poly_Primitive.f k a0 = some (r1, r2)) :
    Calls Try.prog 44 #[.int .u64 a0] w fun e w' => e = .returned (.tuple #[.bool r1, .int .i64 r2]) ∧ Drawn0 w w' := by
  have H : ((poly_Degree.f k a0).bind fun t389 => (if t389 < 1 then (poly_Primitive.j0 k a0 t389 true) else (poly_Primitive.j0 k a0 t389 (decide (t389 > 20))))) = some (r1, r2) := h
  clear h
  replace H := Option.bind_eq_some_iff.mp H
  obtain ⟨t389, A20, H⟩ := H
  replace H : (if t389 < 1 then (poly_Primitive.j0 k a0 t389 true) else (poly_Primitive.j0 k a0 t389 (decide (t389 > 20)))) = some (r1, r2) := H
  have A2 := Aside0.mk A20
  clear A20
  have HC3 := Aside0.mk H
  clear H
  go_enter Try.func44, Try.ntmps44
  go_upto_region 2 with (first | ((with_reducible refine gate_callee (f := 18) rfl ?_); refine goesL_ (some 8) rfl rfl Try.func18 (by kernel_rfl) rfl #[.int .u64 a0] rfl (by (try simp only [List.map_toArray, List.map_cons, List.map_nil]); first | done | rfl | (simp only [List.length_drop, List.length_take]; rfl)) ?_; (with_reducible refine (poly_Degree.calls k a0 t389 _ A2.out).mono ?_); rintro e w' ⟨rfl, ⟨nd, rfl⟩⟩; refine ⟨_, rfl, ?_⟩))
  (try simp only [Act.put, List.setIfInBounds_toArray, List.set_cons_zero, List.set_cons_succ])
  go_cut [14] (fun v14 wc => ∃ (kq : Nat) (x14_2 : Bool), v14 = .bool x14_2 ∧ Aside0 (poly_Primitive.j0 kq a0 t389 x14_2 = some (r1, r2)) ∧ Aside0 (kq ≤ k) ∧ Drawn0 w wc)
  case first =>
    have H := HC3.out
    clear HC3
    by_cases c4 : t389 < 1
    · rw [if_pos c4] at H
      have c4b0 : decide (t389 < 1) = true := decide_eq_true c4
      clear c4
      (first | rw [c4b0] | (simp only [i64_w, i32_w]; rw [c4b0]) | skip)
      have H' := Aside0.mk H
      clear H
      go_wp2
      go_meet
      case rel => exact ⟨_, (true), (by first | rfl | (simp; done) | (simp [*]; done)), H', ⟨by first | omega | exact Nat.le_refl _⟩, by repeat (first | exact Drawn0.refl _ | apply Drawn0.step)⟩
    · rw [if_neg c4] at H
      have c4b0 : decide (t389 < 1) = false := decide_eq_false c4
      clear c4
      (first | rw [c4b0] | (simp only [i64_w, i32_w]; rw [c4b0]) | skip)
      have H' := Aside0.mk H
      clear H
      go_wp2
      go_meet
      case rel => exact ⟨_, (decide (t389 > 20)), (by first | rfl | (simp; done) | (simp [*]; done)), H', ⟨by first | omega | exact Nat.le_refl _⟩, by repeat (first | exact Drawn0.refl _ | apply Drawn0.step)⟩
  case rest =>
    clear HC3
    try clear c1
    try clear p2
    try clear c4
    try clear c4b0
    obtain ⟨kq, x14_2, rfl, HA, HJ2, ⟨mc2, rfl⟩⟩ := hcut
    cases kq with
    | zero => exact absurd HA.out (by simp [poly_Primitive.j0])
    | succ kj2 =>
      have H := HA.out
      clear HA
      simp only [poly_Primitive.j0] at H
      by_cases c5 : x14_2 = true
      · subst c5
        have H1 : (some (false, 21)) = some (r1, r2) := by rw [if_pos rfl] at H; exact H
        clear H
        have H := H1
        clear H1
        simp only [Option.some.injEq, Prod.mk.injEq] at H
        obtain ⟨rfl, rfl⟩ := H
        go_wp2
        go_ret2
        exact ⟨by first | rfl | (simp; done) | (simp [*]; done), by repeat (first | exact Drawn0.refl _ | apply Drawn0.step)⟩
      · replace c5 := Bool.eq_false_iff.mpr c5
        subst c5
        have H1 : (if (Go.bits .and .u64 a0 1) = 0 then (some (false, 0)) else ((poly_prime.f kj2 a0).bind fun t390 => (if t390 = true then ((poly_Order.f kj2 a0).bind fun bt391 => (if 0 ≤ t389 then (some ((bt391.1 == (wrap64 ((shl .i64 1 t389) - 1))), 0)) else (none))) else (some (false, 0))))) = some (r1, r2) := by rw [if_neg (show ¬ (false = true) by decide)] at H; exact H
        clear H
        have H := H1
        clear H1
        by_cases c6 : (Go.bits .and .u64 a0 1) = 0
        · rw [if_pos c6] at H
          have c6b0 : ((Go.bits .and .u64 a0 1) == 0) = true := beq_iff_eq.mpr c6
          have c6b1 : ((Go.bits .and .u64 a0 1) != 0) = false := bne_eq_false_iff_eq.mpr c6
          clear c6
          simp only [Option.some.injEq, Prod.mk.injEq] at H
          obtain ⟨rfl, rfl⟩ := H
          go_wp2
          go_ret2
          exact ⟨by first | rfl | (simp; done) | (simp [*]; done), by repeat (first | exact Drawn0.refl _ | apply Drawn0.step)⟩
        · rw [if_neg c6] at H
          have c6b0 : ((Go.bits .and .u64 a0 1) == 0) = false := beq_eq_false_iff_ne.mpr c6
          have c6b1 : ((Go.bits .and .u64 a0 1) != 0) = true := bne_iff_ne.mpr c6
          replace H := Option.bind_eq_some_iff.mp H
          obtain ⟨t390, A70, H⟩ := H
          replace H : (if t390 = true then ((poly_Order.f kj2 a0).bind fun bt391 => (if 0 ≤ t389 then (some ((bt391.1 == (wrap64 ((shl .i64 1 t389) - 1))), 0)) else (none))) else (some (false, 0))) = some (r1, r2) := H
          have A7 := Aside0.mk A70
          clear A70
          by_cases c8 : t390 = true
          · subst c8
            have H1 : ((poly_Order.f kj2 a0).bind fun bt391 => (if 0 ≤ t389 then (some ((bt391.1 == (wrap64 ((shl .i64 1 t389) - 1))), 0)) else (none))) = some (r1, r2) := by rw [if_pos rfl] at H; exact H
            clear H
            have H := H1
            clear H1
            replace H := Option.bind_eq_some_iff.mp H
            obtain ⟨⟨t391, t392⟩, A90, H⟩ := H
            replace H : (if 0 ≤ t389 then (some ((t391 == (wrap64 ((shl .i64 1 t389) - 1))), 0)) else (none)) = some (r1, r2) := H
            have A9 := Aside0.mk A90
            clear A90
            by_cases c10 : 0 ≤ t389
            · rw [if_pos c10] at H
              have c10b0 := eq_true c10
              have c10b1 : decide (0 ≤ t389) = true := decide_eq_true c10
              clear c10
              obtain ⟨ji11, hji11⟩ : ∃ j_ : Int, (shl .i64 1 t389) = j_ := ⟨_, rfl⟩
              replace H : (some ((t391 == (wrap64 ((ji11) - 1))), 0)) = some (r1, r2) := by first | (rw [hji11] at H; exact H) | (simp only [hji11] at H ⊢; exact H)
              (try rw [hji11] at A7)
              (try rw [hji11] at A9)
              have hji11_ : (IntKind.i64.wrap (1 * 2 ^ min t389.toNat 64)) = ji11 := hji11
              have hji11z : t389 ≤ 64 → (IntKind.i64.wrap (1 * 2 ^ t389.toNat)) = ji11 := shl_small hji11
              have hji11u : (IntKind.i64.wrap (2 ^ min t389.toNat 64)) = ji11 := by have h_ := hji11_; rw [Int.one_mul] at h_; exact h_
              have hji11v : t389 ≤ 64 → (IntKind.i64.wrap (2 ^ t389.toNat)) = ji11 := fun hle_ => by have h_ := hji11z hle_; rw [Int.one_mul] at h_; exact h_
              have hji11y : (wrap64 (1 * 2 ^ min t389.toNat 64)) = ji11 := (i64_w _).symm.trans hji11_
              have hji11x : t389 ≤ 64 → (wrap64 (1 * 2 ^ t389.toNat)) = ji11 := fun h_ => (i64_w _).symm.trans (hji11z h_)
              simp only [Option.some.injEq, Prod.mk.injEq] at H
              obtain ⟨rfl, rfl⟩ := H
              go_wp2_with (first | (go_at_call 58; (with_reducible refine (poly_prime.calls kj2 a0 true _ A7.out).mono ?_); rintro e w' ⟨rfl, ⟨nd, rfl⟩⟩) | ((with_reducible refine gate_callee (f := 38) rfl ?_); refine goesL_ (some 25) rfl rfl Try.func38 (by kernel_rfl) rfl #[.int .u64 a0] rfl (by (try simp only [List.map_toArray, List.map_cons, List.map_nil]); first | done | rfl | (simp only [List.length_drop, List.length_take]; rfl)) ?_; (with_reducible refine (poly_Order.calls kj2 a0 t391 t392 _ A9.out).mono ?_); rintro e w' ⟨rfl, ⟨nd, rfl⟩⟩; refine ⟨_, rfl, ?_⟩))
              go_ret2
              exact ⟨by first | rfl | (simp; done) | (simp only [← hji11] <;> (first | rfl | simp)) | (simp [*]; done), by repeat (first | exact Drawn0.refl _ | apply Drawn0.step)⟩
            · rw [if_neg c10] at H
              exact absurd H (by simp)
          · replace c8 := Bool.eq_false_iff.mpr c8
            subst c8
            have H1 : (some (false, 0)) = some (r1, r2) := by rw [if_neg (show ¬ (false = true) by decide)] at H; exact H
            clear H
            have H := H1
            clear H1
            simp only [Option.some.injEq, Prod.mk.injEq] at H
            obtain ⟨rfl, rfl⟩ := H
            go_wp2_with (first | (go_at_call 58; (with_reducible refine (poly_prime.calls kj2 a0 false _ A7.out).mono ?_); rintro e w' ⟨rfl, ⟨nd, rfl⟩⟩))
            go_ret2
            exact ⟨by first | rfl | (simp; done) | (simp [*]; done), by repeat (first | exact Drawn0.refl _ | apply Drawn0.step)⟩

/-! ### outpostref02_Primitive: function 45 -/
def outpostref02_Primitive.j0 : Nat → Int → Int → Bool → Option (Bool × Int)
  | 0, _, _, _ => none
  | k + 1, x0, x4, x16 => if x16 = true then (some (false, 21)) else ((outpostref02_Irreducible.f k x0).bind fun bt394 => (if bt394.1 = true then ((outpostref02_Bit.f x0 0).bind fun t396 => (if t396 = 0 then (some (false, 0)) else ((outpostref02_Order.f k x0).bind fun bt397 => (if 0 ≤ (IntKind.u64.wrap (x4)) then (some ((bt397.1 == (wrap64 ((shl .i64 1 (IntKind.u64.wrap (x4))) - 1))), 0)) else (none))))) else (some (false, 0))))
def outpostref02_Primitive.f (k : Nat) (a0 : Int) : Option (Bool × Int) := (outpostref02_Degree.f k a0).bind fun t393 => (if t393 < 1 then (outpostref02_Primitive.j0 k a0 t393 true) else (outpostref02_Primitive.j0 k a0 t393 (decide (t393 > 20))))
theorem outpostref02_Primitive.mono_l : ∀ k, (∀ y0 y1 y2, LeO (outpostref02_Primitive.j0 k y0 y1 y2) (outpostref02_Primitive.j0 (k + 1) y0 y1 y2))
  | 0 => fun _ _ _ r h => by simp [outpostref02_Primitive.j0] at h
  | k + 1 => by
    have ih0 := outpostref02_Primitive.mono_l k
    · intro y0 y1 y2
      unfold outpostref02_Primitive.j0
      repeat' first
      | (with_reducible exact ih0 _ _ _)
      | (with_reducible exact outpostref02_Degree.mono _ _)
      | (with_reducible exact outpostref02_Irreducible.mono _ _)
      | (with_reducible exact outpostref02_Order.mono _ _)
      | (with_reducible exact LeO.refl _)
      | (with_reducible exact LeO.none _)
      | (with_reducible refine LeO.ite ?_ ?_)
      | (with_reducible refine LeO.bind ?_ (fun _ => ?_))
      | exact ih0 _ _ _
      | exact outpostref02_Degree.mono _ _
      | exact outpostref02_Irreducible.mono _ _
      | exact outpostref02_Order.mono _ _
      | exact LeO.none _
      | refine LeO.ite ?_ ?_
      | refine LeO.bind ?_ (fun _ => ?_)
theorem outpostref02_Primitive.mono : ∀ a0 k, LeO (outpostref02_Primitive.f k a0) (outpostref02_Primitive.f (k + 1) a0) := by
  intro a0 k
  have ih0 := outpostref02_Primitive.mono_l k
  unfold outpostref02_Primitive.f
  repeat' first
      | (with_reducible exact ih0 _ _ _)
      | (with_reducible exact outpostref02_Degree.mono _ _)
      | (with_reducible exact outpostref02_Irreducible.mono _ _)
      | (with_reducible exact outpostref02_Order.mono _ _)
      | (with_reducible exact LeO.refl _)
      | (with_reducible exact LeO.none _)
      | (with_reducible refine LeO.ite ?_ ?_)
      | (with_reducible refine LeO.bind ?_ (fun _ => ?_))
      | exact ih0 _ _ _
      | exact outpostref02_Degree.mono _ _
      | exact outpostref02_Irreducible.mono _ _
      | exact outpostref02_Order.mono _ _
      | exact LeO.none _
      | refine LeO.ite ?_ ?_
      | refine LeO.bind ?_ (fun _ => ?_)
set_option maxHeartbeats 8000000 in
set_option maxRecDepth 100000 in
theorem outpostref02_Primitive.calls (k : Nat) (a0 : Int) (r1 : Bool) (r2 : Int) (w : World) (h : outpostref02_Primitive.f k a0 = some (r1, r2)) :
    Calls Try.prog 45 #[.int .u64 a0] w fun e w' => e = .returned (.tuple #[.bool r1, .int .i64 r2]) ∧ Below w.heap.size w w' := by
  have HB := Aside0.mk (Below.refl w.heap.size w)
  have H : ((outpostref02_Degree.f k a0).bind fun t393 => (if t393 < 1 then (outpostref02_Primitive.j0 k a0 t393 true) else (outpostref02_Primitive.j0 k a0 t393 (decide (t393 > 20))))) = some (r1, r2) := h
  clear h
  replace H := Option.bind_eq_some_iff.mp H
  obtain ⟨t393, A20, H⟩ := H
  replace H : (if t393 < 1 then (outpostref02_Primitive.j0 k a0 t393 true) else (outpostref02_Primitive.j0 k a0 t393 (decide (t393 > 20)))) = some (r1, r2) := H
  have A2 := Aside0.mk A20
  clear A20
  have HC3 := Aside0.mk H
  clear H
  go_enter Try.func45, Try.ntmps45
  go_upto_region 2 with (first | ((with_reducible refine gate_callee (f := 19) rfl ?_); refine goesL_ (some 10) rfl rfl Try.func19 (by kernel_rfl) rfl #[.int .u64 a0] rfl (by (try simp only [List.map_toArray, List.map_cons, List.map_nil]); first | done | rfl | (simp only [List.length_drop, List.length_take]; rfl)) ?_; (with_reducible refine (outpostref02_Degree.calls k a0 t393 _ A2.out).mono ?_); rintro e w' ⟨rfl, ⟨nd, rfl⟩⟩; refine ⟨_, rfl, ?_⟩))
  (try simp only [Act.put, List.setIfInBounds_toArray, List.set_cons_zero, List.set_cons_succ])
  go_cut [16] (fun v16 wc => ∃ (kq : Nat) (x16_2 : Bool), v16 = .bool x16_2 ∧ Aside0 (outpostref02_Primitive.j0 kq a0 t393 x16_2 = some (r1, r2)) ∧ Aside0 (kq ≤ k) ∧ Aside0 (Below w.heap.size w wc))
  case first =>
    have H := HC3.out
    clear HC3
    by_cases c4 : t393 < 1
    · rw [if_pos c4] at H
      have c4b0 : decide (t393 < 1) = true := decide_eq_true c4
      clear c4
      (first | rw [c4b0] | (simp only [i64_w, i32_w]; rw [c4b0]) | skip)
      have H' := Aside0.mk H
      clear H
      go_wp2
      go_meet
      case rel => exact ⟨_, (true), (by first | rfl | (simp; done) | (simp [*]; done)), H', ⟨by first | omega | exact Nat.le_refl _⟩, ⟨by repeat (first | (with_reducible first | exact HB.out | apply below_alloc | apply pw_below_drewN | apply below_drew1) | exact HB.out)⟩⟩
    · rw [if_neg c4] at H
      have c4b0 : decide (t393 < 1) = false := decide_eq_false c4
      clear c4
      (first | rw [c4b0] | (simp only [i64_w, i32_w]; rw [c4b0]) | skip)
      have H' := Aside0.mk H
      clear H
      go_wp2
      go_meet
      case rel => exact ⟨_, (decide (t393 > 20)), (by first | rfl | (simp; done) | (simp [*]; done)), H', ⟨by first | omega | exact Nat.le_refl _⟩, ⟨by repeat (first | (with_reducible first | exact HB.out | apply below_alloc | apply pw_below_drewN | apply below_drew1) | exact HB.out)⟩⟩
  case rest =>
    clear HC3
    try clear c1
    try clear p2
    try clear c4
    try clear c4b0
    obtain ⟨kq, x16_2, rfl, HA, HJ2, HB⟩ := hcut
    cases kq with
    | zero => exact absurd HA.out (by simp [outpostref02_Primitive.j0])
    | succ kj2 =>
      have H := HA.out
      clear HA
      simp only [outpostref02_Primitive.j0] at H
      by_cases c5 : x16_2 = true
      · subst c5
        have H1 : (some (false, 21)) = some (r1, r2) := by rw [if_pos rfl] at H; exact H
        clear H
        have H := H1
        clear H1
        simp only [Option.some.injEq, Prod.mk.injEq] at H
        obtain ⟨rfl, rfl⟩ := H
        go_wp2
        go_ret2
        exact ⟨by first | rfl | (simp [errW_none, errW_some] <;> rfl) | (simp [*, errW_none, errW_some] <;> rfl), by repeat (first | (with_reducible first | exact HB.out | apply below_alloc | apply pw_below_drewN | apply below_drew1) | exact HB.out)⟩
      · replace c5 := Bool.eq_false_iff.mpr c5
        subst c5
        have H1 : ((outpostref02_Irreducible.f kj2 a0).bind fun bt394 => (if bt394.1 = true then ((outpostref02_Bit.f a0 0).bind fun t396 => (if t396 = 0 then (some (false, 0)) else ((outpostref02_Order.f kj2 a0).bind fun bt397 => (if 0 ≤ (IntKind.u64.wrap (t393)) then (some ((bt397.1 == (wrap64 ((shl .i64 1 (IntKind.u64.wrap (t393))) - 1))), 0)) else (none))))) else (some (false, 0)))) = some (r1, r2) := by rw [if_neg (show ¬ (false = true) by decide)] at H; exact H
        clear H
        have H := H1
        clear H1
        replace H := Option.bind_eq_some_iff.mp H
        obtain ⟨⟨t394, t395⟩, A60, H⟩ := H
        replace H : (if t394 = true then ((outpostref02_Bit.f a0 0).bind fun t396 => (if t396 = 0 then (some (false, 0)) else ((outpostref02_Order.f kj2 a0).bind fun bt397 => (if 0 ≤ (IntKind.u64.wrap (t393)) then (some ((bt397.1 == (wrap64 ((shl .i64 1 (IntKind.u64.wrap (t393))) - 1))), 0)) else (none))))) else (some (false, 0))) = some (r1, r2) := H
        have A6 := Aside0.mk A60
        clear A60
        by_cases c7 : t394 = true
        · subst c7
          have H1 : ((outpostref02_Bit.f a0 0).bind fun t396 => (if t396 = 0 then (some (false, 0)) else ((outpostref02_Order.f kj2 a0).bind fun bt397 => (if 0 ≤ (IntKind.u64.wrap (t393)) then (some ((bt397.1 == (wrap64 ((shl .i64 1 (IntKind.u64.wrap (t393))) - 1))), 0)) else (none))))) = some (r1, r2) := by rw [if_pos rfl] at H; exact H
          clear H
          have H := H1
          clear H1
          replace H := Option.bind_eq_some_iff.mp H
          obtain ⟨t396, A80, H⟩ := H
          replace H : (if t396 = 0 then (some (false, 0)) else ((outpostref02_Order.f kj2 a0).bind fun bt397 => (if 0 ≤ (IntKind.u64.wrap (t393)) then (some ((bt397.1 == (wrap64 ((shl .i64 1 (IntKind.u64.wrap (t393))) - 1))), 0)) else (none)))) = some (r1, r2) := H
          have A8 := Aside0.mk A80
          clear A80
          by_cases c9 : t396 = 0
          · rw [if_pos c9] at H
            have c9b0 : (t396 == 0) = true := beq_iff_eq.mpr c9
            have c9b1 : (t396 != 0) = false := bne_eq_false_iff_eq.mpr c9
            clear c9
            simp only [Option.some.injEq, Prod.mk.injEq] at H
            obtain ⟨rfl, rfl⟩ := H
            go_wp2_with (first | ((with_reducible refine gate_callee (f := 35) rfl ?_); refine goesL_ (some 19) rfl rfl Try.func35 (by kernel_rfl) rfl #[.int .u64 a0] rfl (by (try simp only [List.map_toArray, List.map_cons, List.map_nil]); first | done | rfl | (simp only [List.length_drop, List.length_take]; rfl)) ?_; (with_reducible refine (outpostref02_Irreducible.calls kj2 a0 true t395 _ A6.out).mono ?_); rintro e w10 ⟨rfl, hb⟩; refine ⟨_, rfl, ?_⟩; have n0_ := Aside0.mk (below_step (by repeat (first | (with_reducible first | exact HB.out | apply below_alloc | apply pw_below_drewN | apply below_drew1) | exact HB.out)) hb); clear HB; have HB := n0_; clear n0_; (try clear hb); (try clear hb2); (try clear hk); (try clear hi)) | (go_at_call 47; (with_reducible refine (outpostref02_Bit.calls a0 0 t396 _ A8.out).mono ?_); rintro e w' ⟨rfl, ⟨nd, rfl⟩⟩))
            go_ret2
            exact ⟨by first | rfl | (simp [errW_none, errW_some] <;> rfl) | (simp [*, errW_none, errW_some] <;> rfl), by repeat (first | (with_reducible first | exact HB.out | apply below_alloc | apply pw_below_drewN | apply below_drew1) | exact HB.out)⟩
          · rw [if_neg c9] at H
            have c9b0 : (t396 == 0) = false := beq_eq_false_iff_ne.mpr c9
            have c9b1 : (t396 != 0) = true := bne_iff_ne.mpr c9
            replace H := Option.bind_eq_some_iff.mp H
            obtain ⟨⟨t397, t398⟩, A110, H⟩ := H
            replace H : (if 0 ≤ (IntKind.u64.wrap (t393)) then (some ((t397 == (wrap64 ((shl .i64 1 (IntKind.u64.wrap (t393))) - 1))), 0)) else (none)) = some (r1, r2) := H
            have A11 := Aside0.mk A110
            clear A110
            obtain ⟨ji12, hji12⟩ : ∃ j_ : Int, (IntKind.u64.wrap (t393)) = j_ := ⟨_, rfl⟩
            replace H : (if 0 ≤ (ji12) then (some ((t397 == (wrap64 ((shl .i64 1 (ji12)) - 1))), 0)) else (none)) = some (r1, r2) := by first | (rw [hji12] at H; exact H) | (simp only [hji12] at H ⊢; exact H)
            (try rw [hji12] at A6)
            (try rw [hji12] at A8)
            (try rw [hji12] at A11)
            by_cases c13 : 0 ≤ (ji12)
            · rw [if_pos c13] at H
              have c13b0 := eq_true c13
              have c13b1 : decide (0 ≤ (ji12)) = true := decide_eq_true c13
              clear c13
              obtain ⟨ji14, hji14⟩ : ∃ j_ : Int, (shl .i64 1 (ji12)) = j_ := ⟨_, rfl⟩
              replace H : (some ((t397 == (wrap64 ((ji14) - 1))), 0)) = some (r1, r2) := by first | (rw [hji14] at H; exact H) | (simp only [hji14] at H ⊢; exact H)
              (try rw [hji14] at A6)
              (try rw [hji14] at A8)
              (try rw [hji14] at A11)
              have hji14_ : (IntKind.i64.wrap (1 * 2 ^ min (ji12).toNat 64)) = ji14 := hji14
              have hji14z : (ji12) ≤ 64 → (IntKind.i64.wrap (1 * 2 ^ (ji12).toNat)) = ji14 := shl_small hji14
              have hji14u : (IntKind.i64.wrap (2 ^ min (ji12).toNat 64)) = ji14 := by have h_ := hji14_; rw [Int.one_mul] at h_; exact h_
              have hji14v : (ji12) ≤ 64 → (IntKind.i64.wrap (2 ^ (ji12).toNat)) = ji14 := fun hle_ => by have h_ := hji14z hle_; rw [Int.one_mul] at h_; exact h_
              have hji14y : (wrap64 (1 * 2 ^ min (ji12).toNat 64)) = ji14 := (i64_w _).symm.trans hji14_
              have hji14x : (ji12) ≤ 64 → (wrap64 (1 * 2 ^ (ji12).toNat)) = ji14 := fun h_ => (i64_w _).symm.trans (hji14z h_)
              simp only [Option.some.injEq, Prod.mk.injEq] at H
              obtain ⟨rfl, rfl⟩ := H
              go_wp2_with (first | ((with_reducible refine gate_callee (f := 35) rfl ?_); refine goesL_ (some 19) rfl rfl Try.func35 (by kernel_rfl) rfl #[.int .u64 a0] rfl (by (try simp only [List.map_toArray, List.map_cons, List.map_nil]); first | done | rfl | (simp only [List.length_drop, List.length_take]; rfl)) ?_; (with_reducible refine (outpostref02_Irreducible.calls kj2 a0 true t395 _ A6.out).mono ?_); rintro e w15 ⟨rfl, hb⟩; refine ⟨_, rfl, ?_⟩; have n0_ := Aside0.mk (below_step (by repeat (first | (with_reducible first | exact HB.out | apply below_alloc | apply pw_below_drewN | apply below_drew1) | exact HB.out)) hb); clear HB; have HB := n0_; clear n0_; (try clear hb); (try clear hb2); (try clear hk); (try clear hi)) | (go_at_call 47; (with_reducible refine (outpostref02_Bit.calls a0 0 t396 _ A8.out).mono ?_); rintro e w' ⟨rfl, ⟨nd, rfl⟩⟩) | ((with_reducible refine gate_callee (f := 43) rfl ?_); refine goesL_ (some 31) rfl rfl Try.func43 (by kernel_rfl) rfl #[.int .u64 a0] rfl (by (try simp only [List.map_toArray, List.map_cons, List.map_nil]); first | done | rfl | (simp only [List.length_drop, List.length_take]; rfl)) ?_; (with_reducible refine (outpostref02_Order.calls kj2 a0 t397 t398 _ A11.out).mono ?_); rintro e w' ⟨rfl, ⟨nd, rfl⟩⟩; refine ⟨_, rfl, ?_⟩))
              go_ret2
              exact ⟨by first | rfl | (simp [errW_none, errW_some] <;> rfl) | (simp only [← hji12, ← hji14]; first | rfl | (simp [errW_none, errW_some] <;> rfl)) | (simp [*, errW_none, errW_some] <;> rfl), by repeat (first | (with_reducible first | exact HB.out | apply below_alloc | apply pw_below_drewN | apply below_drew1) | exact HB.out)⟩
            · rw [if_neg c13] at H
              exact absurd H (by simp)
        · replace c7 := Bool.eq_false_iff.mpr c7
          subst c7
          have H1 : (some (false, 0)) = some (r1, r2) := by rw [if_neg (show ¬ (false = true) by decide)] at H; exact H
          clear H
          have H := H1
          clear H1
          simp only [Option.some.injEq, Prod.mk.injEq] at H
          obtain ⟨rfl, rfl⟩ := H
          go_wp2_with (first | ((with_reducible refine gate_callee (f := 35) rfl ?_); refine goesL_ (some 19) rfl rfl Try.func35 (by kernel_rfl) rfl #[.int .u64 a0] rfl (by (try simp only [List.map_toArray, List.map_cons, List.map_nil]); first | done | rfl | (simp only [List.length_drop, List.length_take]; rfl)) ?_; (with_reducible refine (outpostref02_Irreducible.calls kj2 a0 false t395 _ A6.out).mono ?_); rintro e w16 ⟨rfl, hb⟩; refine ⟨_, rfl, ?_⟩; have n0_ := Aside0.mk (below_step (by repeat (first | (with_reducible first | exact HB.out | apply below_alloc | apply pw_below_drewN | apply below_drew1) | exact HB.out)) hb); clear HB; have HB := n0_; clear n0_; (try clear hb); (try clear hb2); (try clear hk); (try clear hi)))
          go_ret2
          exact ⟨by first | rfl | (simp [errW_none, errW_some] <;> rfl) | (simp [*, errW_none, errW_some] <;> rfl), by repeat (first | (with_reducible first | exact HB.out | apply below_alloc | apply pw_below_drewN | apply below_drew1) | exact HB.out)⟩

end Go.Proofs.Ytofdnjlcnpaecaa.P
