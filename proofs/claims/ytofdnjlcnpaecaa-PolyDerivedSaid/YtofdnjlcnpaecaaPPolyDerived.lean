/- This session's own text, laid by its program out of the translation: functions of the Go code as Lean functions, each with a proof that its call comes to that function's answers. No condition. -/
import Derived.Test.YtofdnjlcnpaecaaP0
import Derived.Test.YtofdnjlcnpaecaaP2
import Derived.Test.YtofdnjlcnpaecaaP6
import Derived.Test.YtofdnjlcnpaecaaP7
import Derived.Test.YtofdnjlcnpaecaaP8
namespace Go.Proofs.Ytofdnjlcnpaecaa.P
open Go.RowKit Go.Proofs.YtofdnjlcnpaecaaW.PrintWords Go.Proofs.YtofdnjlcnpaecaaW.PrintLast Go.Proofs.YtofdnjlcnpaecaaW.PrintMore
attribute [local go_sem] max2_int min2_int max_two min_two max_three min_three max_four min_four   -- for this text's walks alone
set_option linter.unusedVariables false
set_option linter.unusedSimpArgs false

/-! ### outpostlaw02_PolyDerived: function 5 -/
mutual
def outpostlaw02_PolyDerived.j0 : Nat → Int → Option (Bool)
  | 0, _ => none
  | k + 1, x0 => (poly_Factor.f k x0).bind fun bt177 => ((outpostlaw02_num.f bt177.2).bind fun t181 => (if t181 = 0 then ((poly_Degree.f k x0).bind fun t182 => (outpostlaw02_PolyDerived.j1 k x0 bt177.1 (decide (t182 < 1)))) else (outpostlaw02_PolyDerived.j1 k x0 bt177.1 true)))
def outpostlaw02_PolyDerived.j1 : Nat → Int → List (S40) → Bool → Option (Bool)
  | 0, _, _, _ => none
  | k + 1, x0, x11, x55 => if x55 = true then ((outpostlaw02_live.f k).bind fun t183 => (some t183)) else (outpostlaw02_PolyDerived.l0 k x0 x11 false 0)
def outpostlaw02_PolyDerived.l0 : Nat → Int → List (S40) → Bool → Int → Option (Bool)
  | 0, _, _, _, _ => none
  | k + 1, x0, x11, x13, x14 => if x14 < (x11.length : Int) then (if x13 = true then (outpostlaw02_PolyDerived.l0 k x0 x11 true (wrap64 (x14 + 1))) else (if 0 ≤ x14 then (outpostlaw02_PolyDerived.l0 k x0 x11 (decide (((rd_T40 x11 x14).f1) > 1)) (wrap64 (x14 + 1))) else (none))) else ((poly_Derive.f x0).bind fun t185 => ((poly_Gcd.f k x0 t185).bind fun t186 => (if (x13 == (t186 != 1)) = true then ((outpostlaw02_live.f k).bind fun t187 => (some t187)) else (some false))))
end
def outpostlaw02_PolyDerived.f (k : Nat) (a0 : Int) (a1 : Int) : Option (Bool) := (poly_Mul.f k a0 a1).bind fun bt168 => (if bt168.1 = 0 then ((poly_Derive.f a0).bind fun t170 => ((poly_Mul.f k t170 a1).bind fun bt171 => ((poly_Derive.f a1).bind fun t173 => ((poly_Mul.f k a0 t173).bind fun bt174 => ((poly_Derive.f bt168.2).bind fun t176 => (if t176 = (Go.bits .xor .u64 bt171.2 bt174.2) then (outpostlaw02_PolyDerived.j0 k a0) else (some false))))))) else (outpostlaw02_PolyDerived.j0 k a0))
theorem outpostlaw02_PolyDerived.mono_l : ∀ k, (∀ y0, LeO (outpostlaw02_PolyDerived.j0 k y0) (outpostlaw02_PolyDerived.j0 (k + 1) y0)) ∧ (∀ y0 y1 y2, LeO (outpostlaw02_PolyDerived.j1 k y0 y1 y2) (outpostlaw02_PolyDerived.j1 (k + 1) y0 y1 y2)) ∧ (∀ y0 y1 y2 y3, LeO (outpostlaw02_PolyDerived.l0 k y0 y1 y2 y3) (outpostlaw02_PolyDerived.l0 (k + 1) y0 y1 y2 y3))
  | 0 => ⟨fun _ r h => by simp [outpostlaw02_PolyDerived.j0] at h, fun _ _ _ r h => by simp [outpostlaw02_PolyDerived.j1] at h, fun _ _ _ _ r h => by simp [outpostlaw02_PolyDerived.l0] at h⟩
  | k + 1 => by
    obtain ⟨ih0, ih1, ih2⟩ := outpostlaw02_PolyDerived.mono_l k
    refine ⟨?_, ?_, ?_⟩
    · intro y0
      unfold outpostlaw02_PolyDerived.j0
      repeat' first
      | (with_reducible exact ih0 _)
      | (with_reducible exact ih1 _ _ _)
      | (with_reducible exact ih2 _ _ _ _)
      | (with_reducible exact outpostlaw02_live.mono _)
      | (with_reducible exact poly_Degree.mono _ _)
      | (with_reducible exact poly_Factor.mono _ _)
      | (with_reducible exact poly_Gcd.mono _ _ _)
      | (with_reducible exact poly_Mul.mono _ _ _)
      | (with_reducible exact LeO.refl _)
      | (with_reducible exact LeO.none _)
      | (with_reducible refine LeO.ite ?_ ?_)
      | (with_reducible refine LeO.bind ?_ (fun _ => ?_))
      | exact ih0 _
      | exact ih1 _ _ _
      | exact ih2 _ _ _ _
      | exact outpostlaw02_live.mono _
      | exact poly_Degree.mono _ _
      | exact poly_Factor.mono _ _
      | exact poly_Gcd.mono _ _ _
      | exact poly_Mul.mono _ _ _
      | exact LeO.none _
      | refine LeO.ite ?_ ?_
      | refine LeO.bind ?_ (fun _ => ?_)
    · intro y0 y1 y2
      unfold outpostlaw02_PolyDerived.j1
      repeat' first
      | (with_reducible exact ih0 _)
      | (with_reducible exact ih1 _ _ _)
      | (with_reducible exact ih2 _ _ _ _)
      | (with_reducible exact outpostlaw02_live.mono _)
      | (with_reducible exact poly_Degree.mono _ _)
      | (with_reducible exact poly_Factor.mono _ _)
      | (with_reducible exact poly_Gcd.mono _ _ _)
      | (with_reducible exact poly_Mul.mono _ _ _)
      | (with_reducible exact LeO.refl _)
      | (with_reducible exact LeO.none _)
      | (with_reducible refine LeO.ite ?_ ?_)
      | (with_reducible refine LeO.bind ?_ (fun _ => ?_))
      | exact ih0 _
      | exact ih1 _ _ _
      | exact ih2 _ _ _ _
      | exact outpostlaw02_live.mono _
      | exact poly_Degree.mono _ _
      | exact poly_Factor.mono _ _
      | exact poly_Gcd.mono _ _ _
      | exact poly_Mul.mono _ _ _
      | exact LeO.none _
      | refine LeO.ite ?_ ?_
      | refine LeO.bind ?_ (fun _ => ?_)
    · intro y0 y1 y2 y3
      unfold outpostlaw02_PolyDerived.l0
      repeat' first
      | (with_reducible exact ih0 _)
      | (with_reducible exact ih1 _ _ _)
      | (with_reducible exact ih2 _ _ _ _)
      | (with_reducible exact outpostlaw02_live.mono _)
      | (with_reducible exact poly_Degree.mono _ _)
      | (with_reducible exact poly_Factor.mono _ _)
      | (with_reducible exact poly_Gcd.mono _ _ _)
      | (with_reducible exact poly_Mul.mono _ _ _)
      | (with_reducible exact LeO.refl _)
      | (with_reducible exact LeO.none _)
      | (with_reducible refine LeO.ite ?_ ?_)
      | (with_reducible refine LeO.bind ?_ (fun _ => ?_))
      | exact ih0 _
      | exact ih1 _ _ _
      | exact ih2 _ _ _ _
      | exact outpostlaw02_live.mono _
      | exact poly_Degree.mono _ _
      | exact poly_Factor.mono _ _
      | exact poly_Gcd.mono _ _ _
      | exact poly_Mul.mono _ _ _
      | exact LeO.none _
      | refine LeO.ite ?_ ?_
      | refine LeO.bind ?_ (fun _ => ?_)
theorem outpostlaw02_PolyDerived.mono : ∀ a0 a1 k, LeO (outpostlaw02_PolyDerived.f k a0 a1) (outpostlaw02_PolyDerived.f (k + 1) a0 a1) := by
  intro a0 a1 k
  obtain ⟨ih0, ih1, ih2⟩ := outpostlaw02_PolyDerived.mono_l k
  unfold outpostlaw02_PolyDerived.f
  repeat' first
      | (with_reducible exact ih0 _)
      | (with_reducible exact ih1 _ _ _)
      | (with_reducible exact ih2 _ _ _ _)
      | (with_reducible exact outpostlaw02_live.mono _)
      | (with_reducible exact poly_Degree.mono _ _)
      | (with_reducible exact poly_Factor.mono _ _)
      | (with_reducible exact poly_Gcd.mono _ _ _)
      | (with_reducible exact poly_Mul.mono _ _ _)
      | (with_reducible exact LeO.refl _)
      | (with_reducible exact LeO.none _)
      | (with_reducible refine LeO.ite ?_ ?_)
      | (with_reducible refine LeO.bind ?_ (fun _ => ?_))
      | exact ih0 _
      | exact ih1 _ _ _
      | exact ih2 _ _ _ _
      | exact outpostlaw02_live.mono _
      | exact poly_Degree.mono _ _
      | exact poly_Factor.mono _ _
      | exact poly_Gcd.mono _ _ _
      | exact poly_Mul.mono _ _ _
      | exact LeO.none _
      | refine LeO.ite ?_ ?_
      | refine LeO.bind ?_ (fun _ => ?_)
set_option maxHeartbeats 8000000 in
set_option maxRecDepth 100000 in
theorem outpostlaw02_PolyDerived.calls (k : Nat) (a0 : Int) (a1 : Int) (r : Bool) (w : World) (h : outpostlaw02_PolyDerived.f k a0 a1 = some r) :
    Calls Try.prog 5 #[.int .u64 a0, .int .u64 a1] w fun e w' => e = .returned (.bool r) ∧ Below w.heap.size w w' := by
  have HB := Aside0.mk (Below.refl w.heap.size w)
  have H : ((poly_Mul.f k a0 a1).bind fun bt168 => (if bt168.1 = 0 then ((poly_Derive.f a0).bind fun t170 => ((poly_Mul.f k t170 a1).bind fun bt171 => ((poly_Derive.f a1).bind fun t173 => ((poly_Mul.f k a0 t173).bind fun bt174 => ((poly_Derive.f bt168.2).bind fun t176 => (if t176 = (Go.bits .xor .u64 bt171.2 bt174.2) then (outpostlaw02_PolyDerived.j0 k a0) else (some false))))))) else (outpostlaw02_PolyDerived.j0 k a0))) = some r := h
  clear h
  replace H := Option.bind_eq_some_iff.mp H
  obtain ⟨⟨t168, t169⟩, A30, H⟩ := H
  replace H : (if t168 = 0 then ((poly_Derive.f a0).bind fun t170 => ((poly_Mul.f k t170 a1).bind fun bt171 => ((poly_Derive.f a1).bind fun t173 => ((poly_Mul.f k a0 t173).bind fun bt174 => ((poly_Derive.f t169).bind fun t176 => (if t176 = (Go.bits .xor .u64 bt171.2 bt174.2) then (outpostlaw02_PolyDerived.j0 k a0) else (some false))))))) else (outpostlaw02_PolyDerived.j0 k a0)) = some r := H
  have A3 := Aside0.mk A30
  clear A30
  have HC4 := Aside0.mk H
  clear H
  go_enter Try.func5, Try.ntmps5
  go_upto_if 22 with (first | ((with_reducible refine gate_callee (f := 16) rfl ?_); refine goesL_ (some 18) rfl rfl Try.func16 (by kernel_rfl) rfl #[.int .u64 a0, .int .u64 a1] rfl (by (try simp only [List.map_toArray, List.map_cons, List.map_nil]); first | done | rfl | (simp only [List.length_drop, List.length_take]; rfl)) ?_; (with_reducible refine (poly_Mul.calls k a0 a1 t168 t169 _ A3.out).mono ?_); rintro e w' ⟨rfl, ⟨nd, rfl⟩⟩; refine ⟨_, rfl, ?_⟩))
  (try simp only [Act.put, List.setIfInBounds_toArray, List.set_cons_zero, List.set_cons_succ])
  go_cut [] (fun wc => ∃ (kq : Nat), Aside0 (outpostlaw02_PolyDerived.j0 kq a0 = some r) ∧ Aside0 (kq ≤ k) ∧ Aside0 (Below w.heap.size w wc))
  case first =>
    have H := HC4.out
    clear HC4
    by_cases c5 : t168 = 0
    · rw [if_pos c5] at H
      have c5b0 : (t168 == 0) = true := beq_iff_eq.mpr c5
      have c5b1 : (t168 != 0) = false := bne_eq_false_iff_eq.mpr c5
      clear c5
      (first | rw [c5b0] | (simp only [i64_w, i32_w]; rw [c5b0]) | skip)
      replace H := Option.bind_eq_some_iff.mp H
      obtain ⟨t170, A60, H⟩ := H
      replace H : ((poly_Mul.f k t170 a1).bind fun bt171 => ((poly_Derive.f a1).bind fun t173 => ((poly_Mul.f k a0 t173).bind fun bt174 => ((poly_Derive.f t169).bind fun t176 => (if t176 = (Go.bits .xor .u64 bt171.2 bt174.2) then (outpostlaw02_PolyDerived.j0 k a0) else (some false)))))) = some r := H
      have A6 := Aside0.mk A60
      clear A60
      replace H := Option.bind_eq_some_iff.mp H
      obtain ⟨⟨t171, t172⟩, A70, H⟩ := H
      replace H : ((poly_Derive.f a1).bind fun t173 => ((poly_Mul.f k a0 t173).bind fun bt174 => ((poly_Derive.f t169).bind fun t176 => (if t176 = (Go.bits .xor .u64 t172 bt174.2) then (outpostlaw02_PolyDerived.j0 k a0) else (some false))))) = some r := H
      have A7 := Aside0.mk A70
      clear A70
      replace H := Option.bind_eq_some_iff.mp H
      obtain ⟨t173, A80, H⟩ := H
      replace H : ((poly_Mul.f k a0 t173).bind fun bt174 => ((poly_Derive.f t169).bind fun t176 => (if t176 = (Go.bits .xor .u64 t172 bt174.2) then (outpostlaw02_PolyDerived.j0 k a0) else (some false)))) = some r := H
      have A8 := Aside0.mk A80
      clear A80
      replace H := Option.bind_eq_some_iff.mp H
      obtain ⟨⟨t174, t175⟩, A90, H⟩ := H
      replace H : ((poly_Derive.f t169).bind fun t176 => (if t176 = (Go.bits .xor .u64 t172 t175) then (outpostlaw02_PolyDerived.j0 k a0) else (some false))) = some r := H
      have A9 := Aside0.mk A90
      clear A90
      replace H := Option.bind_eq_some_iff.mp H
      obtain ⟨t176, A100, H⟩ := H
      replace H : (if t176 = (Go.bits .xor .u64 t172 t175) then (outpostlaw02_PolyDerived.j0 k a0) else (some false)) = some r := H
      have A10 := Aside0.mk A100
      clear A100
      by_cases c11 : t176 = (Go.bits .xor .u64 t172 t175)
      · rw [if_pos c11] at H
        have c11b0 : (t176 == (Go.bits .xor .u64 t172 t175)) = true := beq_iff_eq.mpr c11
        have c11b1 : (t176 != (Go.bits .xor .u64 t172 t175)) = false := bne_eq_false_iff_eq.mpr c11
        clear c11
        have H' := Aside0.mk H
        clear H
        go_wp2_with (first | ((with_reducible refine gate_callee (f := 20) rfl ?_); refine goesL_ (some 25) rfl rfl Try.func20 (by kernel_rfl) rfl #[.int .u64 a0] rfl (by (try simp only [List.map_toArray, List.map_cons, List.map_nil]); first | done | rfl | (simp only [List.length_drop, List.length_take]; rfl)) ?_; (with_reducible refine (poly_Derive.calls a0 t170 _ A6.out).mono ?_); rintro e w' ⟨rfl, ⟨nd, rfl⟩⟩; refine ⟨_, rfl, ?_⟩) | ((with_reducible refine gate_callee (f := 16) rfl ?_); refine goesL_ (some 27) rfl rfl Try.func16 (by kernel_rfl) rfl #[.int .u64 t170, .int .u64 a1] rfl (by (try simp only [List.map_toArray, List.map_cons, List.map_nil]); first | done | rfl | (simp only [List.length_drop, List.length_take]; rfl)) ?_; (with_reducible refine (poly_Mul.calls k t170 a1 t171 t172 _ A7.out).mono ?_); rintro e w' ⟨rfl, ⟨nd, rfl⟩⟩; refine ⟨_, rfl, ?_⟩) | ((with_reducible refine gate_callee (f := 20) rfl ?_); refine goesL_ (some 33) rfl rfl Try.func20 (by kernel_rfl) rfl #[.int .u64 a1] rfl (by (try simp only [List.map_toArray, List.map_cons, List.map_nil]); first | done | rfl | (simp only [List.length_drop, List.length_take]; rfl)) ?_; (with_reducible refine (poly_Derive.calls a1 t173 _ A8.out).mono ?_); rintro e w' ⟨rfl, ⟨nd, rfl⟩⟩; refine ⟨_, rfl, ?_⟩) | ((with_reducible refine gate_callee (f := 16) rfl ?_); refine goesL_ (some 34) rfl rfl Try.func16 (by kernel_rfl) rfl #[.int .u64 a0, .int .u64 t173] rfl (by (try simp only [List.map_toArray, List.map_cons, List.map_nil]); first | done | rfl | (simp only [List.length_drop, List.length_take]; rfl)) ?_; (with_reducible refine (poly_Mul.calls k a0 t173 t174 t175 _ A9.out).mono ?_); rintro e w' ⟨rfl, ⟨nd, rfl⟩⟩; refine ⟨_, rfl, ?_⟩) | ((with_reducible refine gate_callee (f := 20) rfl ?_); refine goesL_ (some 38) rfl rfl Try.func20 (by kernel_rfl) rfl #[.int .u64 t169] rfl (by (try simp only [List.map_toArray, List.map_cons, List.map_nil]); first | done | rfl | (simp only [List.length_drop, List.length_take]; rfl)) ?_; (with_reducible refine (poly_Derive.calls t169 t176 _ A10.out).mono ?_); rintro e w' ⟨rfl, ⟨nd, rfl⟩⟩; refine ⟨_, rfl, ?_⟩))
        go_meet
        case rel => exact ⟨_, H', ⟨by first | omega | exact Nat.le_refl _⟩, ⟨by repeat (first | (with_reducible first | exact HB.out | apply below_alloc | apply pw_below_drewN | apply below_drew1) | exact HB.out)⟩⟩
      · rw [if_neg c11] at H
        have c11b0 : (t176 == (Go.bits .xor .u64 t172 t175)) = false := beq_eq_false_iff_ne.mpr c11
        have c11b1 : (t176 != (Go.bits .xor .u64 t172 t175)) = true := bne_iff_ne.mpr c11
        obtain rfl := Option.some.inj H
        go_wp2_with (first | ((with_reducible refine gate_callee (f := 20) rfl ?_); refine goesL_ (some 25) rfl rfl Try.func20 (by kernel_rfl) rfl #[.int .u64 a0] rfl (by (try simp only [List.map_toArray, List.map_cons, List.map_nil]); first | done | rfl | (simp only [List.length_drop, List.length_take]; rfl)) ?_; (with_reducible refine (poly_Derive.calls a0 t170 _ A6.out).mono ?_); rintro e w' ⟨rfl, ⟨nd, rfl⟩⟩; refine ⟨_, rfl, ?_⟩) | ((with_reducible refine gate_callee (f := 16) rfl ?_); refine goesL_ (some 27) rfl rfl Try.func16 (by kernel_rfl) rfl #[.int .u64 t170, .int .u64 a1] rfl (by (try simp only [List.map_toArray, List.map_cons, List.map_nil]); first | done | rfl | (simp only [List.length_drop, List.length_take]; rfl)) ?_; (with_reducible refine (poly_Mul.calls k t170 a1 t171 t172 _ A7.out).mono ?_); rintro e w' ⟨rfl, ⟨nd, rfl⟩⟩; refine ⟨_, rfl, ?_⟩) | ((with_reducible refine gate_callee (f := 20) rfl ?_); refine goesL_ (some 33) rfl rfl Try.func20 (by kernel_rfl) rfl #[.int .u64 a1] rfl (by (try simp only [List.map_toArray, List.map_cons, List.map_nil]); first | done | rfl | (simp only [List.length_drop, List.length_take]; rfl)) ?_; (with_reducible refine (poly_Derive.calls a1 t173 _ A8.out).mono ?_); rintro e w' ⟨rfl, ⟨nd, rfl⟩⟩; refine ⟨_, rfl, ?_⟩) | ((with_reducible refine gate_callee (f := 16) rfl ?_); refine goesL_ (some 34) rfl rfl Try.func16 (by kernel_rfl) rfl #[.int .u64 a0, .int .u64 t173] rfl (by (try simp only [List.map_toArray, List.map_cons, List.map_nil]); first | done | rfl | (simp only [List.length_drop, List.length_take]; rfl)) ?_; (with_reducible refine (poly_Mul.calls k a0 t173 t174 t175 _ A9.out).mono ?_); rintro e w' ⟨rfl, ⟨nd, rfl⟩⟩; refine ⟨_, rfl, ?_⟩) | ((with_reducible refine gate_callee (f := 20) rfl ?_); refine goesL_ (some 38) rfl rfl Try.func20 (by kernel_rfl) rfl #[.int .u64 t169] rfl (by (try simp only [List.map_toArray, List.map_cons, List.map_nil]); first | done | rfl | (simp only [List.length_drop, List.length_take]; rfl)) ?_; (with_reducible refine (poly_Derive.calls t169 t176 _ A10.out).mono ?_); rintro e w' ⟨rfl, ⟨nd, rfl⟩⟩; refine ⟨_, rfl, ?_⟩))
        go_ret
        exact ⟨by first | rfl | (simp [errW_none, errW_some] <;> rfl) | (simp [*, errW_none, errW_some] <;> rfl), by repeat (first | (with_reducible first | exact HB.out | apply below_alloc | apply pw_below_drewN | apply below_drew1) | exact HB.out)⟩
    · rw [if_neg c5] at H
      have c5b0 : (t168 == 0) = false := beq_eq_false_iff_ne.mpr c5
      have c5b1 : (t168 != 0) = true := bne_iff_ne.mpr c5
      (first | rw [c5b0] | (simp only [i64_w, i32_w]; rw [c5b0]) | skip)
      have H' := Aside0.mk H
      clear H
      go_wp2
      go_meet
      case rel => exact ⟨_, H', ⟨by first | omega | exact Nat.le_refl _⟩, ⟨by repeat (first | (with_reducible first | exact HB.out | apply below_alloc | apply pw_below_drewN | apply below_drew1) | exact HB.out)⟩⟩
  case rest =>
    clear HC4
    try clear c1
    try clear c2
    try clear p2
    try clear c5
    try clear c5b0
    try clear c5b1
    try clear c11
    try clear c11b0
    try clear c11b1
    obtain ⟨kq, HA, HJ3, HB⟩ := hcut
    cases kq with
    | zero => exact absurd HA.out (by simp [outpostlaw02_PolyDerived.j0])
    | succ kj3 =>
      have H := HA.out
      clear HA
      simp only [outpostlaw02_PolyDerived.j0] at H
      replace H := Option.bind_eq_some_iff.mp H
      obtain ⟨⟨t177, t178⟩, A120, H⟩ := H
      replace H : ((outpostlaw02_num.f t178).bind fun t181 => (if t181 = 0 then ((poly_Degree.f kj3 a0).bind fun t182 => (outpostlaw02_PolyDerived.j1 kj3 a0 t177 (decide (t182 < 1)))) else (outpostlaw02_PolyDerived.j1 kj3 a0 t177 true))) = some r := H
      have A12 := Aside0.mk A120
      clear A120
      have HC13 := Aside0.mk H
      clear H
      go_upto_region 8 with (first | ((with_reducible refine gate_callee (f := 25) rfl ?_); refine goesL_ (some 45) rfl rfl Try.func25 (by kernel_rfl) rfl #[.int .u64 a0] rfl (by (try simp only [List.map_toArray, List.map_cons, List.map_nil]); first | done | rfl | (simp only [List.length_drop, List.length_take]; rfl)) ?_; (with_reducible refine (poly_Factor.calls kj3 a0 t177 t178 _ A12.out).mono ?_); rintro e w14 ⟨v179, rfl, ho0, hb⟩; refine ⟨_, rfl, ?_⟩; have n0_ := Aside0.mk (Kd.R_lower ho0 (below_size (by repeat (first | (with_reducible first | exact HB.out | apply below_alloc | apply pw_below_drewN | apply below_drew1) | exact HB.out)))); have n1_ := Aside0.mk (below_step (by repeat (first | (with_reducible first | exact HB.out | apply below_alloc | apply pw_below_drewN | apply below_drew1) | exact HB.out)) hb); clear HB; have HO180 := n0_; have HB := n1_; clear n0_ n1_; (try clear hb); (try clear hb2); (try clear hk); (try clear hi); (try clear ho0)))
      (try simp only [Act.put, List.setIfInBounds_toArray, List.set_cons_zero, List.set_cons_succ])
      go_cut [55] (fun v55 wc => ∃ (kq : Nat) (x55_12 : Bool), v55 = .bool x55_12 ∧ Aside0 (outpostlaw02_PolyDerived.j1 kq a0 t177 x55_12 = some r) ∧ Aside0 (kq ≤ kj3) ∧ Aside0 (Kd.R k40 40 wc w.heap.size (fun _ => True) v179 t177) ∧ Aside0 (Below w.heap.size w wc))
      case first =>
        have H := HC13.out
        clear HC13
        replace H := Option.bind_eq_some_iff.mp H
        obtain ⟨t181, A150, H⟩ := H
        replace H : (if t181 = 0 then ((poly_Degree.f kj3 a0).bind fun t182 => (outpostlaw02_PolyDerived.j1 kj3 a0 t177 (decide (t182 < 1)))) else (outpostlaw02_PolyDerived.j1 kj3 a0 t177 true)) = some r := H
        have A15 := Aside0.mk A150
        clear A150
        by_cases c16 : t181 = 0
        · rw [if_pos c16] at H
          have c16b0 : (t181 == 0) = true := beq_iff_eq.mpr c16
          have c16b1 : (t181 != 0) = false := bne_eq_false_iff_eq.mpr c16
          clear c16
          (first | rw [c16b0] | (simp only [i64_w, i32_w]; rw [c16b0]) | skip)
          replace H := Option.bind_eq_some_iff.mp H
          obtain ⟨t182, A170, H⟩ := H
          replace H : (outpostlaw02_PolyDerived.j1 kj3 a0 t177 (decide (t182 < 1))) = some r := H
          have A17 := Aside0.mk A170
          clear A170
          have H' := Aside0.mk H
          clear H
          go_wp2_with (first | ((with_reducible refine gate_callee (f := 24) rfl ?_); refine goesL_ (some 49) rfl rfl Try.func24 (by kernel_rfl) rfl #[.int .i64 t178] rfl (by (try simp only [List.map_toArray, List.map_cons, List.map_nil]); first | done | rfl | (simp only [List.length_drop, List.length_take]; rfl)) ?_; (with_reducible refine (outpostlaw02_num.calls t178 t181 _ A15.out).mono ?_); rintro e w' ⟨rfl, ⟨nd, rfl⟩⟩; refine ⟨_, rfl, ?_⟩) | (go_at_call 18; (with_reducible refine (poly_Degree.calls kj3 a0 t182 _ A17.out).mono ?_); rintro e w' ⟨rfl, ⟨nd, rfl⟩⟩))
          go_meet
          case rel => exact ⟨_, (decide (t182 < 1)), (by first | rfl | (simp; done) | (simp [*]; done)), H', ⟨by have := HJ3.out; first | omega | exact Nat.le_refl _⟩, ⟨by (with_reducible repeat (first | apply Kd.R_alloc | apply Kd.R_drewN | apply Kd.R_drew)); exact HO180.out⟩, ⟨by repeat (first | (with_reducible first | exact HB.out | apply below_alloc | apply pw_below_drewN | apply below_drew1) | exact HB.out)⟩⟩
        · rw [if_neg c16] at H
          have c16b0 : (t181 == 0) = false := beq_eq_false_iff_ne.mpr c16
          have c16b1 : (t181 != 0) = true := bne_iff_ne.mpr c16
          (first | rw [c16b0] | (simp only [i64_w, i32_w]; rw [c16b0]) | skip)
          have H' := Aside0.mk H
          clear H
          go_wp2_with (first | ((with_reducible refine gate_callee (f := 24) rfl ?_); refine goesL_ (some 49) rfl rfl Try.func24 (by kernel_rfl) rfl #[.int .i64 t178] rfl (by (try simp only [List.map_toArray, List.map_cons, List.map_nil]); first | done | rfl | (simp only [List.length_drop, List.length_take]; rfl)) ?_; (with_reducible refine (outpostlaw02_num.calls t178 t181 _ A15.out).mono ?_); rintro e w' ⟨rfl, ⟨nd, rfl⟩⟩; refine ⟨_, rfl, ?_⟩))
          go_meet
          case rel => exact ⟨_, (true), (by first | rfl | (simp; done) | (simp [*]; done)), H', ⟨by have := HJ3.out; first | omega | exact Nat.le_refl _⟩, ⟨by (with_reducible repeat (first | apply Kd.R_alloc | apply Kd.R_drewN | apply Kd.R_drew)); exact HO180.out⟩, ⟨by repeat (first | (with_reducible first | exact HB.out | apply below_alloc | apply pw_below_drewN | apply below_drew1) | exact HB.out)⟩⟩
      case rest =>
        clear HC13
        try clear c1
        try clear c2
        try clear p2
        try clear c5
        try clear c5b0
        try clear c5b1
        try clear c11
        try clear c11b0
        try clear c11b1
        try clear c16
        try clear c16b0
        try clear c16b1
        try clear p2
        obtain ⟨kq, x55_12, rfl, HA, HJ12, HO_11, HB⟩ := hcut
        cases kq with
        | zero => exact absurd HA.out (by simp [outpostlaw02_PolyDerived.j1])
        | succ kj12 =>
          have H := HA.out
          clear HA
          simp only [outpostlaw02_PolyDerived.j1] at H
          by_cases c18 : x55_12 = true
          · subst c18
            have H1 : ((outpostlaw02_live.f kj12).bind fun t183 => (some t183)) = some r := by rw [if_pos rfl] at H; exact H
            clear H
            have H := H1
            clear H1
            replace H := Option.bind_eq_some_iff.mp H
            obtain ⟨t183, A190, H⟩ := H
            replace H : (some t183) = some r := H
            have A19 := Aside0.mk A190
            clear A190
            obtain rfl := Option.some.inj H
            go_wp2_with (first | ((with_reducible refine gate_callee (f := 22) rfl ?_); refine goesL_ (some 56) rfl rfl Try.func22 (by kernel_rfl) rfl #[] rfl (by (try simp only [List.map_toArray, List.map_cons, List.map_nil]); first | done | rfl | (simp only [List.length_drop, List.length_take]; rfl)) ?_; (with_reducible refine (outpostlaw02_live.calls kj12  t183 _ A19.out).mono ?_); rintro e w20 ⟨rfl, hb⟩; refine ⟨_, rfl, ?_⟩; have n0_ := Aside0.mk (Kd.R_below (by (with_reducible repeat (first | apply Kd.R_alloc | apply Kd.R_drewN | apply Kd.R_drew)); exact HO_11.out) hb); have n1_ := Aside0.mk (below_step (by repeat (first | (with_reducible first | exact HB.out | apply below_alloc | apply pw_below_drewN | apply below_drew1) | exact HB.out)) hb); clear HO_11; clear HB; have HO_11 := n0_; have HB := n1_; clear n0_ n1_; (try clear hb); (try clear hb2); (try clear hk); (try clear hi)))
            go_ret
            exact ⟨by first | rfl | (simp [errW_none, errW_some] <;> rfl) | (simp [*, errW_none, errW_some] <;> rfl), by repeat (first | (with_reducible first | exact HB.out | apply below_alloc | apply pw_below_drewN | apply below_drew1) | exact HB.out)⟩
          · replace c18 := Bool.eq_false_iff.mpr c18
            subst c18
            have H1 : (outpostlaw02_PolyDerived.l0 kj12 a0 t177 false 0) = some r := by rw [if_neg (show ¬ (false = true) by decide)] at H; exact H
            clear H
            have H := H1
            clear H1
            have H' := Aside0.mk H
            clear H
            go_wp2
            go_loopg [13, 14] kj12 (fun kq v13 v14 w' => ∃ (x13_3 : Bool) (x14_3 : Int), v13 = .bool x13_3 ∧ v14 = .int .i64 x14_3 ∧ Aside0 (outpostlaw02_PolyDerived.l0 kq a0 t177 x13_3 x14_3 = some r) ∧ Aside0 (kq ≤ kj12) ∧ Aside0 (Kd.R k40 40 w' w.heap.size (fun _ => True) v179 t177) ∧ Aside0 (Below w.heap.size w w'))
            case atStart => exact ⟨(false), (0), (by first | rfl | (simp; done) | (simp [*]; done)), (by first | rfl | (simp; done) | (simp [*]; done)), H', ⟨Nat.le_refl _⟩, ⟨by (with_reducible repeat (first | apply Kd.R_alloc | apply Kd.R_drewN | apply Kd.R_drew)); exact HO_11.out⟩, ⟨by repeat (first | (with_reducible first | exact HB.out | apply below_alloc | apply pw_below_drewN | apply below_drew1) | exact HB.out)⟩⟩
            case round =>
              clear H'
              try clear c1
              try clear c2
              try clear p2
              try clear c5
              try clear c5b0
              try clear c5b1
              try clear c11
              try clear c11b0
              try clear c11b1
              try clear c16
              try clear c16b0
              try clear c16b1
              try clear c18
              try clear c20
              try clear p2
              obtain ⟨x13_3, x14_3, rfl, rfl, HA, HK3, HO_11, HB⟩ := hrel
              cases gk with
              | zero => exact absurd HA.out (by simp [outpostlaw02_PolyDerived.l0])
              | succ k3 =>
                have H := HA.out
                clear HA
                simp only [outpostlaw02_PolyDerived.l0] at H
                by_cases c21 : x14_3 < (t177.length : Int)
                · rw [if_pos c21] at H
                  have c21b0 : decide (x14_3 < (t177.length : Int)) = true := decide_eq_true c21
                  clear c21
                  by_cases c22 : x13_3 = true
                  · subst c22
                    have H1 : (outpostlaw02_PolyDerived.l0 k3 a0 t177 true (wrap64 (x14_3 + 1))) = some r := by rw [if_pos rfl] at H; exact H
                    clear H
                    have H := H1
                    clear H1
                    have H' := Aside0.mk H
                    clear H
                    obtain ⟨Ao23, co23, eo23⟩ := Kd.R_slice HO_11.out
                    subst eo23
                    go_wp2
                    go_roundg k3
                    case measure => have := HJ3.out; have := HJ12.out; have := HK3.out; omega
                    case rel => exact ⟨(true), (wrap64 (x14_3 + 1)), (by first | rfl | (simp; done) | (simp [*]; done)), (by first | rfl | (simp; done) | (simp [*]; done)), H', ⟨by have := HJ3.out; have := HJ12.out; have := HK3.out; omega⟩, ⟨by (with_reducible repeat (first | apply Kd.R_alloc | apply Kd.R_drewN | apply Kd.R_drew)); exact HO_11.out⟩, ⟨by repeat (first | (with_reducible first | exact HB.out | apply below_alloc | apply pw_below_drewN | apply below_drew1) | exact HB.out)⟩⟩
                  · replace c22 := Bool.eq_false_iff.mpr c22
                    subst c22
                    have H1 : (if 0 ≤ x14_3 then (outpostlaw02_PolyDerived.l0 k3 a0 t177 (decide (((rd_T40 t177 x14_3).f1) > 1)) (wrap64 (x14_3 + 1))) else (none)) = some r := by rw [if_neg (show ¬ (false = true) by decide)] at H; exact H
                    clear H
                    have H := H1
                    clear H1
                    by_cases c24 : 0 ≤ x14_3
                    · rw [if_pos c24] at H
                      have c24b0 : decide (0 ≤ x14_3) = true := decide_eq_true c24
                      clear c24
                      have H' := Aside0.mk H
                      clear H
                      obtain ⟨Ao25, co25, eo25⟩ := Kd.R_slice HO_11.out
                      subst eo25
                      have p184 : 0 ≤ (x14_3 : Int) := of_decide_eq_true (by first | (with_reducible assumption) | assumption)
                      have q184 : x14_3 < (t177.length : Int) := of_decide_eq_true (by first | (with_reducible assumption) | assumption)
                      obtain ⟨ad184, e184, hx184_0, hx184_1⟩ := at_T40 (Kd.R_reads' HO_11.out).2.2 x14_3 p184 q184
                      cases e184
                      replace p184 := eq_true p184
                      replace q184 := eq_true q184
                      go_wp2
                      go_roundg k3
                      case measure => have := HJ3.out; have := HJ12.out; have := HK3.out; omega
                      case rel => exact ⟨(decide (((rd_T40 t177 x14_3).f1) > 1)), (wrap64 (x14_3 + 1)), (by first | rfl | (simp; done) | (simp [*]; done)), (by first | rfl | (simp; done) | (simp [*]; done)), H', ⟨by have := HJ3.out; have := HJ12.out; have := HK3.out; omega⟩, ⟨by (with_reducible repeat (first | apply Kd.R_alloc | apply Kd.R_drewN | apply Kd.R_drew)); exact HO_11.out⟩, ⟨by repeat (first | (with_reducible first | exact HB.out | apply below_alloc | apply pw_below_drewN | apply below_drew1) | exact HB.out)⟩⟩
                    · rw [if_neg c24] at H
                      exact absurd H (by simp)
                · rw [if_neg c21] at H
                  have c21b0 : decide (x14_3 < (t177.length : Int)) = false := decide_eq_false c21
                  clear c21
                  replace H := Option.bind_eq_some_iff.mp H
                  obtain ⟨t185, A260, H⟩ := H
                  replace H : ((poly_Gcd.f k3 a0 t185).bind fun t186 => (if (x13_3 == (t186 != 1)) = true then ((outpostlaw02_live.f k3).bind fun t187 => (some t187)) else (some false))) = some r := H
                  have A26 := Aside0.mk A260
                  clear A260
                  replace H := Option.bind_eq_some_iff.mp H
                  obtain ⟨t186, A270, H⟩ := H
                  replace H : (if (x13_3 == (t186 != 1)) = true then ((outpostlaw02_live.f k3).bind fun t187 => (some t187)) else (some false)) = some r := H
                  have A27 := Aside0.mk A270
                  clear A270
                  by_cases c28 : (x13_3 == (t186 != 1)) = true
                  · rw [if_pos c28] at H
                    have c28b0 : (x13_3 == (t186 != 1)) = true := c28
                    (try (have c28b1 : decide (x13_3 = (t186 != 1)) = true := by simpa using c28))
                    (try (have c28b2 : (x13_3 == (t186 != 1)) = true := by simpa using c28))
                    clear c28
                    replace H := Option.bind_eq_some_iff.mp H
                    obtain ⟨t187, A290, H⟩ := H
                    replace H : (some t187) = some r := H
                    have A29 := Aside0.mk A290
                    clear A290
                    obtain rfl := Option.some.inj H
                    obtain ⟨Ao30, co30, eo30⟩ := Kd.R_slice HO_11.out
                    subst eo30
                    go_wp2_with (first | ((with_reducible refine gate_callee (f := 20) rfl ?_); refine goesL_ (some 75) rfl rfl Try.func20 (by kernel_rfl) rfl #[.int .u64 a0] rfl (by (try simp only [List.map_toArray, List.map_cons, List.map_nil]); first | done | rfl | (simp only [List.length_drop, List.length_take]; rfl)) ?_; (with_reducible refine (poly_Derive.calls a0 t185 _ A26.out).mono ?_); rintro e w' ⟨rfl, ⟨nd, rfl⟩⟩; refine ⟨_, rfl, ?_⟩) | ((with_reducible refine gate_callee (f := 26) rfl ?_); refine goesL_ (some 76) rfl rfl Try.func26 (by kernel_rfl) rfl #[.int .u64 a0, .int .u64 t185] rfl (by (try simp only [List.map_toArray, List.map_cons, List.map_nil]); first | done | rfl | (simp only [List.length_drop, List.length_take]; rfl)) ?_; (with_reducible refine (poly_Gcd.calls k3 a0 t185 t186 _ A27.out).mono ?_); rintro e w' ⟨rfl, ⟨nd, rfl⟩⟩; refine ⟨_, rfl, ?_⟩) | (go_at_call 22; (with_reducible refine (outpostlaw02_live.calls k3  t187 _ A29.out).mono ?_); rintro e w31 ⟨rfl, hb⟩; have n0_ := Aside0.mk (Kd.R_below (by (with_reducible repeat (first | apply Kd.R_alloc | apply Kd.R_drewN | apply Kd.R_drew)); exact HO_11.out) hb); have n1_ := Aside0.mk (below_step (by repeat (first | (with_reducible first | exact HB.out | apply below_alloc | apply pw_below_drewN | apply below_drew1) | exact HB.out)) hb); clear HO_11; clear HB; have HO_11 := n0_; have HB := n1_; clear n0_ n1_; (try clear hb); (try clear hb2); (try clear hk); (try clear hi)))
                    go_ret
                    exact ⟨by first | rfl | (simp [errW_none, errW_some] <;> rfl) | (simp [*, errW_none, errW_some] <;> rfl), by repeat (first | (with_reducible first | exact HB.out | apply below_alloc | apply pw_below_drewN | apply below_drew1) | exact HB.out)⟩
                  · rw [if_neg c28] at H
                    have c28b0 : (x13_3 == (t186 != 1)) = false := by simpa using c28
                    (try (have c28b1 : decide (x13_3 = (t186 != 1)) = false := by simpa using c28))
                    (try (have c28b2 : (x13_3 == (t186 != 1)) = false := by simpa using c28))
                    (try (have c28b3 : ¬ (x13_3 = (t186 != 1)) := by simpa using c28))
                    clear c28
                    obtain rfl := Option.some.inj H
                    obtain ⟨Ao32, co32, eo32⟩ := Kd.R_slice HO_11.out
                    subst eo32
                    go_wp2_with (first | ((with_reducible refine gate_callee (f := 20) rfl ?_); refine goesL_ (some 75) rfl rfl Try.func20 (by kernel_rfl) rfl #[.int .u64 a0] rfl (by (try simp only [List.map_toArray, List.map_cons, List.map_nil]); first | done | rfl | (simp only [List.length_drop, List.length_take]; rfl)) ?_; (with_reducible refine (poly_Derive.calls a0 t185 _ A26.out).mono ?_); rintro e w' ⟨rfl, ⟨nd, rfl⟩⟩; refine ⟨_, rfl, ?_⟩) | ((with_reducible refine gate_callee (f := 26) rfl ?_); refine goesL_ (some 76) rfl rfl Try.func26 (by kernel_rfl) rfl #[.int .u64 a0, .int .u64 t185] rfl (by (try simp only [List.map_toArray, List.map_cons, List.map_nil]); first | done | rfl | (simp only [List.length_drop, List.length_take]; rfl)) ?_; (with_reducible refine (poly_Gcd.calls k3 a0 t185 t186 _ A27.out).mono ?_); rintro e w' ⟨rfl, ⟨nd, rfl⟩⟩; refine ⟨_, rfl, ?_⟩))
                    go_ret
                    exact ⟨by first | rfl | (simp [errW_none, errW_some] <;> rfl) | (simp [*, errW_none, errW_some] <;> rfl), by repeat (first | (with_reducible first | exact HB.out | apply below_alloc | apply pw_below_drewN | apply below_drew1) | exact HB.out)⟩

/-- THE ONE PURE STATEMENT of outpostlaw02_PolyDerived: yours. -/
def outpostlaw02_PolyDerived.Pure : Prop := ∀ (a0 : Int) (a1 : Int), (Lit.int .u64 a0).wf = true → (Lit.int .u64 a1).wf = true → ∃ k, outpostlaw02_PolyDerived.f k a0 a1 = some true
theorem outpostlaw02_PolyDerived.walk (P : outpostlaw02_PolyDerived.Pure) (a0 : Int) (a1 : Int) (w : World) (w0 : (Lit.int .u64 a0).wf = true) (w1 : (Lit.int .u64 a1).wf = true) :
    Calls Try.prog 5 #[.int .u64 a0, .int .u64 a1] w fun e w' => e = .returned (.bool true) ∧ Below w.heap.size w w' := by
  obtain ⟨k, h⟩ := P a0 a1 w0 w1
  refine (outpostlaw02_PolyDerived.calls k a0 a1 true w h).mono ?_
  rintro e w' ⟨rfl, hd⟩
  exact ⟨rfl, hd⟩

end Go.Proofs.Ytofdnjlcnpaecaa.P
