/- This session's own text, laid by its program out of the translation: functions of the Go code as Lean functions, each with a proof that its call comes to that function's answers. No condition. -/
import Derived.Test.YtofdnjlcnpaecaaP0
import Derived.Test.YtofdnjlcnpaecaaP2
import Derived.Test.YtofdnjlcnpaecaaP6
import Derived.Test.YtofdnjlcnpaecaaP7
import Derived.Test.YtofdnjlcnpaecaaP12
import Derived.Test.YtofdnjlcnpaecaaP13
namespace Go.Proofs.Ytofdnjlcnpaecaa.P
open Go.RowKit Go.Proofs.YtofdnjlcnpaecaaW.PrintWords Go.Proofs.YtofdnjlcnpaecaaW.PrintLast Go.Proofs.YtofdnjlcnpaecaaW.PrintMore
attribute [local go_sem] max2_int min2_int max_two min_two max_three min_three max_four min_four   -- for this text's walks alone
set_option linter.unusedVariables false
set_option linter.unusedSimpArgs false

/-! ### outpostlaw02_PolyFactors: function 9 -/
mutual
def outpostlaw02_PolyFactors.j0 : Nat → Int → List (S40) → List (S40) → List (S40) → Bool → Option (Bool)
  | 0, _, _, _, _, _ => none
  | k + 1, x0, x3, x5, x7, x72 => if x72 = true then (some false) else (outpostlaw02_PolyFactors.l0 k x0 x3 x5 x7 0)
def outpostlaw02_PolyFactors.l0 : Nat → Int → List (S40) → List (S40) → List (S40) → Int → Option (Bool)
  | 0, _, _, _, _, _ => none
  | k + 1, x0, x3, x5, x7, x13 => if x13 < (x3.length : Int) then (if 0 ≤ x13 then (outpostlaw02_PolyFactors.l0 k x0 (x3.set (x13 : Int).toNat (⟨99, (-1)⟩ : S40)) x5 x7 (wrap64 (x13 + 1))) else (none)) else (outpostlaw02_PolyFactors.l1 k x0 x3 x5 x7 0)
def outpostlaw02_PolyFactors.l1 : Nat → Int → List (S40) → List (S40) → List (S40) → Int → Option (Bool)
  | 0, _, _, _, _, _ => none
  | k + 1, x0, x3, x5, x7, x14 => if x14 < 64 then (if x3.length < 8796093022208 then (outpostlaw02_PolyFactors.l1 k x0 (x3 ++ [(⟨98, (-2)⟩ : S40)]) x5 x7 (wrap64 (x14 + 1))) else (none)) else ((poly_Factor.f k x0).bind fun bt306 => ((outpostlaw02_factors.f k x5 x7).bind fun t310 => (if t310 = true then ((outpostlaw02_factors.f k bt306.1 x7).bind fun t311 => (some t311)) else (some false))))
end
def outpostlaw02_PolyFactors.f (k : Nat) (a0 : Int) : Option (Bool) := (poly_Factor.f k a0).bind fun bt281 => ((poly_Factor.f k a0).bind fun bt285 => ((outpostref02_Factor.f k a0).bind fun bt289 => ((poly_Irreducible.f k a0).bind fun bt293 => ((outpostref02_Irreducible.f k a0).bind fun bt295 => ((outpostlaw02_num.f bt281.2).bind fun t297 => (if t297 = bt289.2 then ((outpostlaw02_factors.f k bt281.1 bt289.1).bind fun t298 => (if t298 = true then ((outpostlaw02_factors.f k bt285.1 bt289.1).bind fun t299 => (if t299 = true then (if (bt293.1 != bt295.1) = true then (outpostlaw02_PolyFactors.j0 k a0 bt281.1 bt285.1 bt289.1 true) else ((outpostlaw02_num.f bt293.2).bind fun t300 => (if t300 = bt295.2 then ((outpostlaw02_live.f k).bind fun t301 => (outpostlaw02_PolyFactors.j0 k a0 bt281.1 bt285.1 bt289.1 (!t301))) else (outpostlaw02_PolyFactors.j0 k a0 bt281.1 bt285.1 bt289.1 true)))) else (outpostlaw02_PolyFactors.j0 k a0 bt281.1 bt285.1 bt289.1 true))) else (outpostlaw02_PolyFactors.j0 k a0 bt281.1 bt285.1 bt289.1 true))) else (outpostlaw02_PolyFactors.j0 k a0 bt281.1 bt285.1 bt289.1 true)))))))
theorem outpostlaw02_PolyFactors.mono_l : ∀ k, (∀ y0 y1 y2 y3 y4, LeO (outpostlaw02_PolyFactors.j0 k y0 y1 y2 y3 y4) (outpostlaw02_PolyFactors.j0 (k + 1) y0 y1 y2 y3 y4)) ∧ (∀ y0 y1 y2 y3 y4, LeO (outpostlaw02_PolyFactors.l0 k y0 y1 y2 y3 y4) (outpostlaw02_PolyFactors.l0 (k + 1) y0 y1 y2 y3 y4)) ∧ (∀ y0 y1 y2 y3 y4, LeO (outpostlaw02_PolyFactors.l1 k y0 y1 y2 y3 y4) (outpostlaw02_PolyFactors.l1 (k + 1) y0 y1 y2 y3 y4))
  | 0 => ⟨fun _ _ _ _ _ r h => by simp [outpostlaw02_PolyFactors.j0] at h, fun _ _ _ _ _ r h => by simp [outpostlaw02_PolyFactors.l0] at h, fun _ _ _ _ _ r h => by simp [outpostlaw02_PolyFactors.l1] at h⟩
  | k + 1 => by
    obtain ⟨ih0, ih1, ih2⟩ := outpostlaw02_PolyFactors.mono_l k
    refine ⟨?_, ?_, ?_⟩
    · intro y0 y1 y2 y3 y4
      unfold outpostlaw02_PolyFactors.j0
      repeat' first
      | (with_reducible exact ih0 _ _ _ _ _)
      | (with_reducible exact ih1 _ _ _ _ _)
      | (with_reducible exact ih2 _ _ _ _ _)
      | (with_reducible exact outpostlaw02_factors.mono _ _ _)
      | (with_reducible exact outpostlaw02_live.mono _)
      | (with_reducible exact outpostref02_Factor.mono _ _)
      | (with_reducible exact outpostref02_Irreducible.mono _ _)
      | (with_reducible exact poly_Factor.mono _ _)
      | (with_reducible exact poly_Irreducible.mono _ _)
      | (with_reducible exact LeO.refl _)
      | (with_reducible exact LeO.none _)
      | (with_reducible refine LeO.ite ?_ ?_)
      | (with_reducible refine LeO.bind ?_ (fun _ => ?_))
      | exact ih0 _ _ _ _ _
      | exact ih1 _ _ _ _ _
      | exact ih2 _ _ _ _ _
      | exact outpostlaw02_factors.mono _ _ _
      | exact outpostlaw02_live.mono _
      | exact outpostref02_Factor.mono _ _
      | exact outpostref02_Irreducible.mono _ _
      | exact poly_Factor.mono _ _
      | exact poly_Irreducible.mono _ _
      | exact LeO.none _
      | refine LeO.ite ?_ ?_
      | refine LeO.bind ?_ (fun _ => ?_)
    · intro y0 y1 y2 y3 y4
      unfold outpostlaw02_PolyFactors.l0
      repeat' first
      | (with_reducible exact ih0 _ _ _ _ _)
      | (with_reducible exact ih1 _ _ _ _ _)
      | (with_reducible exact ih2 _ _ _ _ _)
      | (with_reducible exact outpostlaw02_factors.mono _ _ _)
      | (with_reducible exact outpostlaw02_live.mono _)
      | (with_reducible exact outpostref02_Factor.mono _ _)
      | (with_reducible exact outpostref02_Irreducible.mono _ _)
      | (with_reducible exact poly_Factor.mono _ _)
      | (with_reducible exact poly_Irreducible.mono _ _)
      | (with_reducible exact LeO.refl _)
      | (with_reducible exact LeO.none _)
      | (with_reducible refine LeO.ite ?_ ?_)
      | (with_reducible refine LeO.bind ?_ (fun _ => ?_))
      | exact ih0 _ _ _ _ _
      | exact ih1 _ _ _ _ _
      | exact ih2 _ _ _ _ _
      | exact outpostlaw02_factors.mono _ _ _
      | exact outpostlaw02_live.mono _
      | exact outpostref02_Factor.mono _ _
      | exact outpostref02_Irreducible.mono _ _
      | exact poly_Factor.mono _ _
      | exact poly_Irreducible.mono _ _
      | exact LeO.none _
      | refine LeO.ite ?_ ?_
      | refine LeO.bind ?_ (fun _ => ?_)
    · intro y0 y1 y2 y3 y4
      unfold outpostlaw02_PolyFactors.l1
      repeat' first
      | (with_reducible exact ih0 _ _ _ _ _)
      | (with_reducible exact ih1 _ _ _ _ _)
      | (with_reducible exact ih2 _ _ _ _ _)
      | (with_reducible exact outpostlaw02_factors.mono _ _ _)
      | (with_reducible exact outpostlaw02_live.mono _)
      | (with_reducible exact outpostref02_Factor.mono _ _)
      | (with_reducible exact outpostref02_Irreducible.mono _ _)
      | (with_reducible exact poly_Factor.mono _ _)
      | (with_reducible exact poly_Irreducible.mono _ _)
      | (with_reducible exact LeO.refl _)
      | (with_reducible exact LeO.none _)
      | (with_reducible refine LeO.ite ?_ ?_)
      | (with_reducible refine LeO.bind ?_ (fun _ => ?_))
      | exact ih0 _ _ _ _ _
      | exact ih1 _ _ _ _ _
      | exact ih2 _ _ _ _ _
      | exact outpostlaw02_factors.mono _ _ _
      | exact outpostlaw02_live.mono _
      | exact outpostref02_Factor.mono _ _
      | exact outpostref02_Irreducible.mono _ _
      | exact poly_Factor.mono _ _
      | exact poly_Irreducible.mono _ _
      | exact LeO.none _
      | refine LeO.ite ?_ ?_
      | refine LeO.bind ?_ (fun _ => ?_)
theorem outpostlaw02_PolyFactors.mono : ∀ a0 k, LeO (outpostlaw02_PolyFactors.f k a0) (outpostlaw02_PolyFactors.f (k + 1) a0) := by
  intro a0 k
  obtain ⟨ih0, ih1, ih2⟩ := outpostlaw02_PolyFactors.mono_l k
  unfold outpostlaw02_PolyFactors.f
  repeat' first
      | (with_reducible exact ih0 _ _ _ _ _)
      | (with_reducible exact ih1 _ _ _ _ _)
      | (with_reducible exact ih2 _ _ _ _ _)
      | (with_reducible exact outpostlaw02_factors.mono _ _ _)
      | (with_reducible exact outpostlaw02_live.mono _)
      | (with_reducible exact outpostref02_Factor.mono _ _)
      | (with_reducible exact outpostref02_Irreducible.mono _ _)
      | (with_reducible exact poly_Factor.mono _ _)
      | (with_reducible exact poly_Irreducible.mono _ _)
      | (with_reducible exact LeO.refl _)
      | (with_reducible exact LeO.none _)
      | (with_reducible refine LeO.ite ?_ ?_)
      | (with_reducible refine LeO.bind ?_ (fun _ => ?_))
      | exact ih0 _ _ _ _ _
      | exact ih1 _ _ _ _ _
      | exact ih2 _ _ _ _ _
      | exact outpostlaw02_factors.mono _ _ _
      | exact outpostlaw02_live.mono _
      | exact outpostref02_Factor.mono _ _
      | exact outpostref02_Irreducible.mono _ _
      | exact poly_Factor.mono _ _
      | exact poly_Irreducible.mono _ _
      | exact LeO.none _
      | refine LeO.ite ?_ ?_
      | refine LeO.bind ?_ (fun _ => ?_)
set_option maxHeartbeats 8000000 in
set_option maxRecDepth 100000 in
theorem outpostlaw02_PolyFactors.calls (k : Nat) (a0 : Int) (r : Bool) (w : World) (h : outpostlaw02_PolyFactors.f k a0 = some r) :
    Calls Try.prog 9 #[.int .u64 a0] w fun e w' => e = .returned (.bool r) ∧ Below w.heap.size w w' := by
  have hu40 := Try.underlying40
  have HB := Aside0.mk (Below.refl w.heap.size w)
  have H : ((poly_Factor.f k a0).bind fun bt281 => ((poly_Factor.f k a0).bind fun bt285 => ((outpostref02_Factor.f k a0).bind fun bt289 => ((poly_Irreducible.f k a0).bind fun bt293 => ((outpostref02_Irreducible.f k a0).bind fun bt295 => ((outpostlaw02_num.f bt281.2).bind fun t297 => (if t297 = bt289.2 then ((outpostlaw02_factors.f k bt281.1 bt289.1).bind fun t298 => (if t298 = true then ((outpostlaw02_factors.f k bt285.1 bt289.1).bind fun t299 => (if t299 = true then (if (bt293.1 != bt295.1) = true then (outpostlaw02_PolyFactors.j0 k a0 bt281.1 bt285.1 bt289.1 true) else ((outpostlaw02_num.f bt293.2).bind fun t300 => (if t300 = bt295.2 then ((outpostlaw02_live.f k).bind fun t301 => (outpostlaw02_PolyFactors.j0 k a0 bt281.1 bt285.1 bt289.1 (!t301))) else (outpostlaw02_PolyFactors.j0 k a0 bt281.1 bt285.1 bt289.1 true)))) else (outpostlaw02_PolyFactors.j0 k a0 bt281.1 bt285.1 bt289.1 true))) else (outpostlaw02_PolyFactors.j0 k a0 bt281.1 bt285.1 bt289.1 true))) else (outpostlaw02_PolyFactors.j0 k a0 bt281.1 bt285.1 bt289.1 true)))))))) = some r := h
  clear h
  replace H := Option.bind_eq_some_iff.mp H
  obtain ⟨⟨t281, t282⟩, A20, H⟩ := H
  replace H : ((poly_Factor.f k a0).bind fun bt285 => ((outpostref02_Factor.f k a0).bind fun bt289 => ((poly_Irreducible.f k a0).bind fun bt293 => ((outpostref02_Irreducible.f k a0).bind fun bt295 => ((outpostlaw02_num.f t282).bind fun t297 => (if t297 = bt289.2 then ((outpostlaw02_factors.f k t281 bt289.1).bind fun t298 => (if t298 = true then ((outpostlaw02_factors.f k bt285.1 bt289.1).bind fun t299 => (if t299 = true then (if (bt293.1 != bt295.1) = true then (outpostlaw02_PolyFactors.j0 k a0 t281 bt285.1 bt289.1 true) else ((outpostlaw02_num.f bt293.2).bind fun t300 => (if t300 = bt295.2 then ((outpostlaw02_live.f k).bind fun t301 => (outpostlaw02_PolyFactors.j0 k a0 t281 bt285.1 bt289.1 (!t301))) else (outpostlaw02_PolyFactors.j0 k a0 t281 bt285.1 bt289.1 true)))) else (outpostlaw02_PolyFactors.j0 k a0 t281 bt285.1 bt289.1 true))) else (outpostlaw02_PolyFactors.j0 k a0 t281 bt285.1 bt289.1 true))) else (outpostlaw02_PolyFactors.j0 k a0 t281 bt285.1 bt289.1 true))))))) = some r := H
  have A2 := Aside0.mk A20
  clear A20
  replace H := Option.bind_eq_some_iff.mp H
  obtain ⟨⟨t285, t286⟩, A30, H⟩ := H
  replace H : ((outpostref02_Factor.f k a0).bind fun bt289 => ((poly_Irreducible.f k a0).bind fun bt293 => ((outpostref02_Irreducible.f k a0).bind fun bt295 => ((outpostlaw02_num.f t282).bind fun t297 => (if t297 = bt289.2 then ((outpostlaw02_factors.f k t281 bt289.1).bind fun t298 => (if t298 = true then ((outpostlaw02_factors.f k t285 bt289.1).bind fun t299 => (if t299 = true then (if (bt293.1 != bt295.1) = true then (outpostlaw02_PolyFactors.j0 k a0 t281 t285 bt289.1 true) else ((outpostlaw02_num.f bt293.2).bind fun t300 => (if t300 = bt295.2 then ((outpostlaw02_live.f k).bind fun t301 => (outpostlaw02_PolyFactors.j0 k a0 t281 t285 bt289.1 (!t301))) else (outpostlaw02_PolyFactors.j0 k a0 t281 t285 bt289.1 true)))) else (outpostlaw02_PolyFactors.j0 k a0 t281 t285 bt289.1 true))) else (outpostlaw02_PolyFactors.j0 k a0 t281 t285 bt289.1 true))) else (outpostlaw02_PolyFactors.j0 k a0 t281 t285 bt289.1 true)))))) = some r := H
  have A3 := Aside0.mk A30
  clear A30
  replace H := Option.bind_eq_some_iff.mp H
  obtain ⟨⟨t289, t290⟩, A40, H⟩ := H
  replace H : ((poly_Irreducible.f k a0).bind fun bt293 => ((outpostref02_Irreducible.f k a0).bind fun bt295 => ((outpostlaw02_num.f t282).bind fun t297 => (if t297 = t290 then ((outpostlaw02_factors.f k t281 t289).bind fun t298 => (if t298 = true then ((outpostlaw02_factors.f k t285 t289).bind fun t299 => (if t299 = true then (if (bt293.1 != bt295.1) = true then (outpostlaw02_PolyFactors.j0 k a0 t281 t285 t289 true) else ((outpostlaw02_num.f bt293.2).bind fun t300 => (if t300 = bt295.2 then ((outpostlaw02_live.f k).bind fun t301 => (outpostlaw02_PolyFactors.j0 k a0 t281 t285 t289 (!t301))) else (outpostlaw02_PolyFactors.j0 k a0 t281 t285 t289 true)))) else (outpostlaw02_PolyFactors.j0 k a0 t281 t285 t289 true))) else (outpostlaw02_PolyFactors.j0 k a0 t281 t285 t289 true))) else (outpostlaw02_PolyFactors.j0 k a0 t281 t285 t289 true))))) = some r := H
  have A4 := Aside0.mk A40
  clear A40
  replace H := Option.bind_eq_some_iff.mp H
  obtain ⟨⟨t293, t294⟩, A50, H⟩ := H
  replace H : ((outpostref02_Irreducible.f k a0).bind fun bt295 => ((outpostlaw02_num.f t282).bind fun t297 => (if t297 = t290 then ((outpostlaw02_factors.f k t281 t289).bind fun t298 => (if t298 = true then ((outpostlaw02_factors.f k t285 t289).bind fun t299 => (if t299 = true then (if (t293 != bt295.1) = true then (outpostlaw02_PolyFactors.j0 k a0 t281 t285 t289 true) else ((outpostlaw02_num.f t294).bind fun t300 => (if t300 = bt295.2 then ((outpostlaw02_live.f k).bind fun t301 => (outpostlaw02_PolyFactors.j0 k a0 t281 t285 t289 (!t301))) else (outpostlaw02_PolyFactors.j0 k a0 t281 t285 t289 true)))) else (outpostlaw02_PolyFactors.j0 k a0 t281 t285 t289 true))) else (outpostlaw02_PolyFactors.j0 k a0 t281 t285 t289 true))) else (outpostlaw02_PolyFactors.j0 k a0 t281 t285 t289 true)))) = some r := H
  have A5 := Aside0.mk A50
  clear A50
  replace H := Option.bind_eq_some_iff.mp H
  obtain ⟨⟨t295, t296⟩, A60, H⟩ := H
  replace H : ((outpostlaw02_num.f t282).bind fun t297 => (if t297 = t290 then ((outpostlaw02_factors.f k t281 t289).bind fun t298 => (if t298 = true then ((outpostlaw02_factors.f k t285 t289).bind fun t299 => (if t299 = true then (if (t293 != t295) = true then (outpostlaw02_PolyFactors.j0 k a0 t281 t285 t289 true) else ((outpostlaw02_num.f t294).bind fun t300 => (if t300 = t296 then ((outpostlaw02_live.f k).bind fun t301 => (outpostlaw02_PolyFactors.j0 k a0 t281 t285 t289 (!t301))) else (outpostlaw02_PolyFactors.j0 k a0 t281 t285 t289 true)))) else (outpostlaw02_PolyFactors.j0 k a0 t281 t285 t289 true))) else (outpostlaw02_PolyFactors.j0 k a0 t281 t285 t289 true))) else (outpostlaw02_PolyFactors.j0 k a0 t281 t285 t289 true))) = some r := H
  have A6 := Aside0.mk A60
  clear A60
  have HC7 := Aside0.mk H
  clear H
  go_enter Try.func9, Try.ntmps9
  go_upto_region 6 with (first | ((with_reducible refine gate_callee (f := 25) rfl ?_); refine goesL_ (some 19) rfl rfl Try.func25 (by kernel_rfl) rfl #[.int .u64 a0] rfl (by (try simp only [List.map_toArray, List.map_cons, List.map_nil]); first | done | rfl | (simp only [List.length_drop, List.length_take]; rfl)) ?_; (with_reducible refine (poly_Factor.calls k a0 t281 t282 _ A2.out).mono ?_); rintro e w8 ⟨v283, rfl, ho0, hb⟩; refine ⟨_, rfl, ?_⟩; have n0_ := Aside0.mk (Kd.R_lower ho0 (below_size (by repeat (first | (with_reducible first | exact HB.out | apply below_alloc | apply pw_below_drewN | apply below_drew1) | exact HB.out)))); have n1_ := Aside0.mk (below_step (by repeat (first | (with_reducible first | exact HB.out | apply below_alloc | apply pw_below_drewN | apply below_drew1) | exact HB.out)) hb); clear HB; have HO284 := n0_; have HB := n1_; clear n0_ n1_; (try clear hb); (try clear hb2); (try clear hk); (try clear hi); (try clear ho0)) | ((with_reducible refine gate_callee (f := 25) rfl ?_); refine goesL_ (some 24) rfl rfl Try.func25 (by kernel_rfl) rfl #[.int .u64 a0] rfl (by (try simp only [List.map_toArray, List.map_cons, List.map_nil]); first | done | rfl | (simp only [List.length_drop, List.length_take]; rfl)) ?_; (with_reducible refine (poly_Factor.calls k a0 t285 t286 _ A3.out).mono ?_); rintro e w9 ⟨v287, rfl, ho0, hb⟩; refine ⟨_, rfl, ?_⟩; have n0_ := Aside0.mk (Kd.R_elder' (by (with_reducible repeat (first | apply Kd.R_alloc | apply Kd.R_drewN | apply Kd.R_drew)); exact HO284.out) (Kd.R_base ho0) hb); have n1_ := Aside0.mk (Kd.R_lower (Kd.R_new' ho0 (Kd.R_lt (by (with_reducible repeat (first | apply Kd.R_alloc | apply Kd.R_drewN | apply Kd.R_drew)); exact HO284.out))) (below_size (by repeat (first | (with_reducible first | exact HB.out | apply below_alloc | apply pw_below_drewN | apply below_drew1) | exact HB.out)))); have n2_ := Aside0.mk (below_step (by repeat (first | (with_reducible first | exact HB.out | apply below_alloc | apply pw_below_drewN | apply below_drew1) | exact HB.out)) hb); clear HO284; clear HB; have HO284 := n0_; have HO288 := n1_; have HB := n2_; clear n0_ n1_ n2_; (try clear hb); (try clear hb2); (try clear hk); (try clear hi); (try clear ho0)) | ((with_reducible refine gate_callee (f := 33) rfl ?_); refine goesL_ (some 29) rfl rfl Try.func33 (by kernel_rfl) rfl #[.int .u64 a0] rfl (by (try simp only [List.map_toArray, List.map_cons, List.map_nil]); first | done | rfl | (simp only [List.length_drop, List.length_take]; rfl)) ?_; (with_reducible refine (outpostref02_Factor.calls k a0 t289 t290 _ A4.out).mono ?_); rintro e w10 ⟨v291, rfl, ho0, hb⟩; refine ⟨_, rfl, ?_⟩; have n0_ := Aside0.mk (Kd.R_elder' (by (with_reducible repeat (first | apply Kd.R_alloc | apply Kd.R_drewN | apply Kd.R_drew)); exact HO284.out) (Kd.R_base ho0) hb); have n1_ := Aside0.mk (Kd.R_elder' (by (with_reducible repeat (first | apply Kd.R_alloc | apply Kd.R_drewN | apply Kd.R_drew)); exact HO288.out) (Kd.R_base ho0) hb); have n2_ := Aside0.mk (Kd.R_lower (Kd.R_new' (Kd.R_new' ho0 (Kd.R_lt (by (with_reducible repeat (first | apply Kd.R_alloc | apply Kd.R_drewN | apply Kd.R_drew)); exact HO284.out))) (Kd.R_lt (by (with_reducible repeat (first | apply Kd.R_alloc | apply Kd.R_drewN | apply Kd.R_drew)); exact HO288.out))) (below_size (by repeat (first | (with_reducible first | exact HB.out | apply below_alloc | apply pw_below_drewN | apply below_drew1) | exact HB.out)))); have n3_ := Aside0.mk (below_step (by repeat (first | (with_reducible first | exact HB.out | apply below_alloc | apply pw_below_drewN | apply below_drew1) | exact HB.out)) hb); clear HO284; clear HO288; clear HB; have HO284 := n0_; have HO288 := n1_; have HO292 := n2_; have HB := n3_; clear n0_ n1_ n2_ n3_; (try clear hb); (try clear hb2); (try clear hk); (try clear hi); (try clear ho0)) | ((with_reducible refine gate_callee (f := 34) rfl ?_); refine goesL_ (some 34) rfl rfl Try.func34 (by kernel_rfl) rfl #[.int .u64 a0] rfl (by (try simp only [List.map_toArray, List.map_cons, List.map_nil]); first | done | rfl | (simp only [List.length_drop, List.length_take]; rfl)) ?_; (with_reducible refine (poly_Irreducible.calls k a0 t293 t294 _ A5.out).mono ?_); rintro e w' ⟨rfl, ⟨nd, rfl⟩⟩; refine ⟨_, rfl, ?_⟩) | ((with_reducible refine gate_callee (f := 35) rfl ?_); refine goesL_ (some 39) rfl rfl Try.func35 (by kernel_rfl) rfl #[.int .u64 a0] rfl (by (try simp only [List.map_toArray, List.map_cons, List.map_nil]); first | done | rfl | (simp only [List.length_drop, List.length_take]; rfl)) ?_; (with_reducible refine (outpostref02_Irreducible.calls k a0 t295 t296 _ A6.out).mono ?_); rintro e w11 ⟨rfl, hb⟩; refine ⟨_, rfl, ?_⟩; have n0_ := Aside0.mk (Kd.R_below (by (with_reducible repeat (first | apply Kd.R_alloc | apply Kd.R_drewN | apply Kd.R_drew)); exact HO284.out) hb); have n1_ := Aside0.mk (Kd.R_below (by (with_reducible repeat (first | apply Kd.R_alloc | apply Kd.R_drewN | apply Kd.R_drew)); exact HO288.out) hb); have n2_ := Aside0.mk (Kd.R_below (by (with_reducible repeat (first | apply Kd.R_alloc | apply Kd.R_drewN | apply Kd.R_drew)); exact HO292.out) hb); have n3_ := Aside0.mk (below_step (by repeat (first | (with_reducible first | exact HB.out | apply below_alloc | apply pw_below_drewN | apply below_drew1) | exact HB.out)) hb); clear HO284; clear HO288; clear HO292; clear HB; have HO284 := n0_; have HO288 := n1_; have HO292 := n2_; have HB := n3_; clear n0_ n1_ n2_ n3_; (try clear hb); (try clear hb2); (try clear hk); (try clear hi)))
  (try simp only [Act.put, List.setIfInBounds_toArray, List.set_cons_zero, List.set_cons_succ])
  go_cut [72] (fun v72 wc => ∃ (kq : Nat) (x72_6 : Bool), v72 = .bool x72_6 ∧ Aside0 (outpostlaw02_PolyFactors.j0 kq a0 t281 t285 t289 x72_6 = some r) ∧ Aside0 (kq ≤ k) ∧ Aside0 (Kd.R k40 40 wc w.heap.size (fun k_ => some k_ ≠ (v287 : Value).ownBlock ∧ some k_ ≠ (v291 : Value).ownBlock) v283 t281) ∧ Aside0 (Kd.R k40 40 wc w.heap.size (fun k_ => some k_ ≠ (v283 : Value).ownBlock ∧ some k_ ≠ (v291 : Value).ownBlock) v287 t285) ∧ Aside0 (Kd.R k40 40 wc w.heap.size (fun k_ => some k_ ≠ (v283 : Value).ownBlock ∧ some k_ ≠ (v287 : Value).ownBlock) v291 t289) ∧ Aside0 (Below w.heap.size w wc))
  case first =>
    have H := HC7.out
    clear HC7
    replace H := Option.bind_eq_some_iff.mp H
    obtain ⟨t297, A120, H⟩ := H
    replace H : (if t297 = t290 then ((outpostlaw02_factors.f k t281 t289).bind fun t298 => (if t298 = true then ((outpostlaw02_factors.f k t285 t289).bind fun t299 => (if t299 = true then (if (t293 != t295) = true then (outpostlaw02_PolyFactors.j0 k a0 t281 t285 t289 true) else ((outpostlaw02_num.f t294).bind fun t300 => (if t300 = t296 then ((outpostlaw02_live.f k).bind fun t301 => (outpostlaw02_PolyFactors.j0 k a0 t281 t285 t289 (!t301))) else (outpostlaw02_PolyFactors.j0 k a0 t281 t285 t289 true)))) else (outpostlaw02_PolyFactors.j0 k a0 t281 t285 t289 true))) else (outpostlaw02_PolyFactors.j0 k a0 t281 t285 t289 true))) else (outpostlaw02_PolyFactors.j0 k a0 t281 t285 t289 true)) = some r := H
    have A12 := Aside0.mk A120
    clear A120
    by_cases c13 : t297 = t290
    · rw [if_pos c13] at H
      have c13b0 : (t297 == t290) = true := beq_iff_eq.mpr c13
      have c13b1 : (t297 != t290) = false := bne_eq_false_iff_eq.mpr c13
      clear c13
      (first | rw [c13b0] | (simp only [i64_w, i32_w]; rw [c13b0]) | skip)
      replace H := Option.bind_eq_some_iff.mp H
      obtain ⟨t298, A140, H⟩ := H
      replace H : (if t298 = true then ((outpostlaw02_factors.f k t285 t289).bind fun t299 => (if t299 = true then (if (t293 != t295) = true then (outpostlaw02_PolyFactors.j0 k a0 t281 t285 t289 true) else ((outpostlaw02_num.f t294).bind fun t300 => (if t300 = t296 then ((outpostlaw02_live.f k).bind fun t301 => (outpostlaw02_PolyFactors.j0 k a0 t281 t285 t289 (!t301))) else (outpostlaw02_PolyFactors.j0 k a0 t281 t285 t289 true)))) else (outpostlaw02_PolyFactors.j0 k a0 t281 t285 t289 true))) else (outpostlaw02_PolyFactors.j0 k a0 t281 t285 t289 true)) = some r := H
      have A14 := Aside0.mk A140
      clear A140
      by_cases c15 : t298 = true
      · subst c15
        have H1 : ((outpostlaw02_factors.f k t285 t289).bind fun t299 => (if t299 = true then (if (t293 != t295) = true then (outpostlaw02_PolyFactors.j0 k a0 t281 t285 t289 true) else ((outpostlaw02_num.f t294).bind fun t300 => (if t300 = t296 then ((outpostlaw02_live.f k).bind fun t301 => (outpostlaw02_PolyFactors.j0 k a0 t281 t285 t289 (!t301))) else (outpostlaw02_PolyFactors.j0 k a0 t281 t285 t289 true)))) else (outpostlaw02_PolyFactors.j0 k a0 t281 t285 t289 true))) = some r := by rw [if_pos rfl] at H; exact H
        clear H
        have H := H1
        clear H1
        replace H := Option.bind_eq_some_iff.mp H
        obtain ⟨t299, A160, H⟩ := H
        replace H : (if t299 = true then (if (t293 != t295) = true then (outpostlaw02_PolyFactors.j0 k a0 t281 t285 t289 true) else ((outpostlaw02_num.f t294).bind fun t300 => (if t300 = t296 then ((outpostlaw02_live.f k).bind fun t301 => (outpostlaw02_PolyFactors.j0 k a0 t281 t285 t289 (!t301))) else (outpostlaw02_PolyFactors.j0 k a0 t281 t285 t289 true)))) else (outpostlaw02_PolyFactors.j0 k a0 t281 t285 t289 true)) = some r := H
        have A16 := Aside0.mk A160
        clear A160
        by_cases c17 : t299 = true
        · subst c17
          have H1 : (if (t293 != t295) = true then (outpostlaw02_PolyFactors.j0 k a0 t281 t285 t289 true) else ((outpostlaw02_num.f t294).bind fun t300 => (if t300 = t296 then ((outpostlaw02_live.f k).bind fun t301 => (outpostlaw02_PolyFactors.j0 k a0 t281 t285 t289 (!t301))) else (outpostlaw02_PolyFactors.j0 k a0 t281 t285 t289 true)))) = some r := by rw [if_pos rfl] at H; exact H
          clear H
          have H := H1
          clear H1
          by_cases c18 : (t293 != t295) = true
          · rw [if_pos c18] at H
            have c18b0 : (t293 != t295) = true := c18
            (try (have c18b1 : decide (t293 = t295) = false := by simpa using c18))
            (try (have c18b2 : (t293 == t295) = false := by simpa using c18))
            (try (have c18b3 : ¬ (t293 = t295) := by simpa using c18))
            clear c18
            have H' := Aside0.mk H
            clear H
            go_wp2_with (first | ((with_reducible refine gate_callee (f := 24) rfl ?_); refine goesL_ (some 43) rfl rfl Try.func24 (by kernel_rfl) rfl #[.int .i64 t282] rfl (by (try simp only [List.map_toArray, List.map_cons, List.map_nil]); first | done | rfl | (simp only [List.length_drop, List.length_take]; rfl)) ?_; (with_reducible refine (outpostlaw02_num.calls t282 t297 _ A12.out).mono ?_); rintro e w' ⟨rfl, ⟨nd, rfl⟩⟩; refine ⟨_, rfl, ?_⟩; obtain ⟨Ao19, co19, eo19⟩ := Kd.R_slice HO284.out; subst eo19; obtain ⟨Ao20, co20, eo20⟩ := Kd.R_slice HO292.out; subst eo20) | (go_at_call 36; (with_reducible refine (outpostlaw02_factors.calls k _ _ t281 _ _ t289 true _ ?side1 ?side2 ?side3 ?side4 A14.out).mono ?_); (case side1 => repeat (first | exact (Kd.R_reads' HO284.out).2.2 | (with_reducible refine Kd.C_alloc ?_ _) | (with_reducible refine Kd.C_drewN ?_ _) | (with_reducible refine Kd.C_drew ?_))); (case side2 => exact (Kd.R_reads' HO284.out).2.1); (case side3 => repeat (first | exact (Kd.R_reads' HO292.out).2.2 | (with_reducible refine Kd.C_alloc ?_ _) | (with_reducible refine Kd.C_drewN ?_ _) | (with_reducible refine Kd.C_drew ?_))); (case side4 => exact (Kd.R_reads' HO292.out).2.1); rintro e w' ⟨rfl, ⟨nd, rfl⟩⟩; obtain ⟨Ao21, co21, eo21⟩ := Kd.R_slice HO288.out; subst eo21) | (go_at_call 36; (with_reducible refine (outpostlaw02_factors.calls k _ _ t285 _ _ t289 true _ ?side1 ?side2 ?side3 ?side4 A16.out).mono ?_); (case side1 => repeat (first | exact (Kd.R_reads' HO288.out).2.2 | (with_reducible refine Kd.C_alloc ?_ _) | (with_reducible refine Kd.C_drewN ?_ _) | (with_reducible refine Kd.C_drew ?_))); (case side2 => exact (Kd.R_reads' HO288.out).2.1); (case side3 => repeat (first | exact (Kd.R_reads' HO292.out).2.2 | (with_reducible refine Kd.C_alloc ?_ _) | (with_reducible refine Kd.C_drewN ?_ _) | (with_reducible refine Kd.C_drew ?_))); (case side4 => exact (Kd.R_reads' HO292.out).2.1); rintro e w' ⟨rfl, ⟨nd, rfl⟩⟩))
            go_meet
            case rel => exact ⟨_, (true), (by first | rfl | (simp; done) | (simp [*]; done)), H', ⟨by first | omega | exact Nat.le_refl _⟩, ⟨by (with_reducible repeat (first | apply Kd.R_alloc | apply Kd.R_drewN | apply Kd.R_drew)); exact Kd.R_mono HO284.out (fun _ hk => ⟨hk.1.2, hk.2⟩)⟩, ⟨by (with_reducible repeat (first | apply Kd.R_alloc | apply Kd.R_drewN | apply Kd.R_drew)); exact Kd.R_mono HO288.out (fun _ hk => ⟨hk.1.2, hk.2⟩)⟩, ⟨by (with_reducible repeat (first | apply Kd.R_alloc | apply Kd.R_drewN | apply Kd.R_drew)); exact Kd.R_mono HO292.out (fun _ hk => ⟨hk.1.2, hk.2⟩)⟩, ⟨by repeat (first | (with_reducible first | exact HB.out | apply below_alloc | apply pw_below_drewN | apply below_drew1) | exact HB.out)⟩⟩
          · rw [if_neg c18] at H
            have c18b0 : (t293 != t295) = false := by simpa using c18
            (try (have c18b1 : decide (t293 = t295) = true := by simpa using c18))
            (try (have c18b2 : (t293 == t295) = true := by simpa using c18))
            clear c18
            replace H := Option.bind_eq_some_iff.mp H
            obtain ⟨t300, A220, H⟩ := H
            replace H : (if t300 = t296 then ((outpostlaw02_live.f k).bind fun t301 => (outpostlaw02_PolyFactors.j0 k a0 t281 t285 t289 (!t301))) else (outpostlaw02_PolyFactors.j0 k a0 t281 t285 t289 true)) = some r := H
            have A22 := Aside0.mk A220
            clear A220
            by_cases c23 : t300 = t296
            · rw [if_pos c23] at H
              have c23b0 : (t300 == t296) = true := beq_iff_eq.mpr c23
              have c23b1 : (t300 != t296) = false := bne_eq_false_iff_eq.mpr c23
              clear c23
              replace H := Option.bind_eq_some_iff.mp H
              obtain ⟨t301, A240, H⟩ := H
              replace H : (outpostlaw02_PolyFactors.j0 k a0 t281 t285 t289 (!t301)) = some r := H
              have A24 := Aside0.mk A240
              clear A240
              have H' := Aside0.mk H
              clear H
              go_wp2_with (first | ((with_reducible refine gate_callee (f := 24) rfl ?_); refine goesL_ (some 43) rfl rfl Try.func24 (by kernel_rfl) rfl #[.int .i64 t282] rfl (by (try simp only [List.map_toArray, List.map_cons, List.map_nil]); first | done | rfl | (simp only [List.length_drop, List.length_take]; rfl)) ?_; (with_reducible refine (outpostlaw02_num.calls t282 t297 _ A12.out).mono ?_); rintro e w' ⟨rfl, ⟨nd, rfl⟩⟩; refine ⟨_, rfl, ?_⟩; obtain ⟨Ao25, co25, eo25⟩ := Kd.R_slice HO284.out; subst eo25; obtain ⟨Ao26, co26, eo26⟩ := Kd.R_slice HO292.out; subst eo26) | (go_at_call 36; (with_reducible refine (outpostlaw02_factors.calls k _ _ t281 _ _ t289 true _ ?side1 ?side2 ?side3 ?side4 A14.out).mono ?_); (case side1 => repeat (first | exact (Kd.R_reads' HO284.out).2.2 | (with_reducible refine Kd.C_alloc ?_ _) | (with_reducible refine Kd.C_drewN ?_ _) | (with_reducible refine Kd.C_drew ?_))); (case side2 => exact (Kd.R_reads' HO284.out).2.1); (case side3 => repeat (first | exact (Kd.R_reads' HO292.out).2.2 | (with_reducible refine Kd.C_alloc ?_ _) | (with_reducible refine Kd.C_drewN ?_ _) | (with_reducible refine Kd.C_drew ?_))); (case side4 => exact (Kd.R_reads' HO292.out).2.1); rintro e w' ⟨rfl, ⟨nd, rfl⟩⟩; obtain ⟨Ao27, co27, eo27⟩ := Kd.R_slice HO288.out; subst eo27) | (go_at_call 36; (with_reducible refine (outpostlaw02_factors.calls k _ _ t285 _ _ t289 true _ ?side1 ?side2 ?side3 ?side4 A16.out).mono ?_); (case side1 => repeat (first | exact (Kd.R_reads' HO288.out).2.2 | (with_reducible refine Kd.C_alloc ?_ _) | (with_reducible refine Kd.C_drewN ?_ _) | (with_reducible refine Kd.C_drew ?_))); (case side2 => exact (Kd.R_reads' HO288.out).2.1); (case side3 => repeat (first | exact (Kd.R_reads' HO292.out).2.2 | (with_reducible refine Kd.C_alloc ?_ _) | (with_reducible refine Kd.C_drewN ?_ _) | (with_reducible refine Kd.C_drew ?_))); (case side4 => exact (Kd.R_reads' HO292.out).2.1); rintro e w' ⟨rfl, ⟨nd, rfl⟩⟩) | (go_at_call 24; (with_reducible refine (outpostlaw02_num.calls t294 t300 _ A22.out).mono ?_); rintro e w' ⟨rfl, ⟨nd, rfl⟩⟩) | (go_at_call 22; (with_reducible refine (outpostlaw02_live.calls k  t301 _ A24.out).mono ?_); rintro e w28 ⟨rfl, hb⟩; have n0_ := Aside0.mk (Kd.R_below (by (with_reducible repeat (first | apply Kd.R_alloc | apply Kd.R_drewN | apply Kd.R_drew)); exact HO284.out) hb); have n1_ := Aside0.mk (Kd.R_below (by (with_reducible repeat (first | apply Kd.R_alloc | apply Kd.R_drewN | apply Kd.R_drew)); exact HO288.out) hb); have n2_ := Aside0.mk (Kd.R_below (by (with_reducible repeat (first | apply Kd.R_alloc | apply Kd.R_drewN | apply Kd.R_drew)); exact HO292.out) hb); have n3_ := Aside0.mk (below_step (by repeat (first | (with_reducible first | exact HB.out | apply below_alloc | apply pw_below_drewN | apply below_drew1) | exact HB.out)) hb); clear HO284; clear HO288; clear HO292; clear HB; have HO284 := n0_; have HO288 := n1_; have HO292 := n2_; have HB := n3_; clear n0_ n1_ n2_ n3_; (try clear hb); (try clear hb2); (try clear hk); (try clear hi)))
              go_meet
              case rel => exact ⟨_, (!t301), (by first | rfl | (simp; done) | (simp [*]; done)), H', ⟨by first | omega | exact Nat.le_refl _⟩, ⟨by (with_reducible repeat (first | apply Kd.R_alloc | apply Kd.R_drewN | apply Kd.R_drew)); exact Kd.R_mono HO284.out (fun _ hk => ⟨hk.1.2, hk.2⟩)⟩, ⟨by (with_reducible repeat (first | apply Kd.R_alloc | apply Kd.R_drewN | apply Kd.R_drew)); exact Kd.R_mono HO288.out (fun _ hk => ⟨hk.1.2, hk.2⟩)⟩, ⟨by (with_reducible repeat (first | apply Kd.R_alloc | apply Kd.R_drewN | apply Kd.R_drew)); exact Kd.R_mono HO292.out (fun _ hk => ⟨hk.1.2, hk.2⟩)⟩, ⟨by repeat (first | (with_reducible first | exact HB.out | apply below_alloc | apply pw_below_drewN | apply below_drew1) | exact HB.out)⟩⟩
            · rw [if_neg c23] at H
              have c23b0 : (t300 == t296) = false := beq_eq_false_iff_ne.mpr c23
              have c23b1 : (t300 != t296) = true := bne_iff_ne.mpr c23
              have H' := Aside0.mk H
              clear H
              go_wp2_with (first | ((with_reducible refine gate_callee (f := 24) rfl ?_); refine goesL_ (some 43) rfl rfl Try.func24 (by kernel_rfl) rfl #[.int .i64 t282] rfl (by (try simp only [List.map_toArray, List.map_cons, List.map_nil]); first | done | rfl | (simp only [List.length_drop, List.length_take]; rfl)) ?_; (with_reducible refine (outpostlaw02_num.calls t282 t297 _ A12.out).mono ?_); rintro e w' ⟨rfl, ⟨nd, rfl⟩⟩; refine ⟨_, rfl, ?_⟩; obtain ⟨Ao29, co29, eo29⟩ := Kd.R_slice HO284.out; subst eo29; obtain ⟨Ao30, co30, eo30⟩ := Kd.R_slice HO292.out; subst eo30) | (go_at_call 36; (with_reducible refine (outpostlaw02_factors.calls k _ _ t281 _ _ t289 true _ ?side1 ?side2 ?side3 ?side4 A14.out).mono ?_); (case side1 => repeat (first | exact (Kd.R_reads' HO284.out).2.2 | (with_reducible refine Kd.C_alloc ?_ _) | (with_reducible refine Kd.C_drewN ?_ _) | (with_reducible refine Kd.C_drew ?_))); (case side2 => exact (Kd.R_reads' HO284.out).2.1); (case side3 => repeat (first | exact (Kd.R_reads' HO292.out).2.2 | (with_reducible refine Kd.C_alloc ?_ _) | (with_reducible refine Kd.C_drewN ?_ _) | (with_reducible refine Kd.C_drew ?_))); (case side4 => exact (Kd.R_reads' HO292.out).2.1); rintro e w' ⟨rfl, ⟨nd, rfl⟩⟩; obtain ⟨Ao31, co31, eo31⟩ := Kd.R_slice HO288.out; subst eo31) | (go_at_call 36; (with_reducible refine (outpostlaw02_factors.calls k _ _ t285 _ _ t289 true _ ?side1 ?side2 ?side3 ?side4 A16.out).mono ?_); (case side1 => repeat (first | exact (Kd.R_reads' HO288.out).2.2 | (with_reducible refine Kd.C_alloc ?_ _) | (with_reducible refine Kd.C_drewN ?_ _) | (with_reducible refine Kd.C_drew ?_))); (case side2 => exact (Kd.R_reads' HO288.out).2.1); (case side3 => repeat (first | exact (Kd.R_reads' HO292.out).2.2 | (with_reducible refine Kd.C_alloc ?_ _) | (with_reducible refine Kd.C_drewN ?_ _) | (with_reducible refine Kd.C_drew ?_))); (case side4 => exact (Kd.R_reads' HO292.out).2.1); rintro e w' ⟨rfl, ⟨nd, rfl⟩⟩) | (go_at_call 24; (with_reducible refine (outpostlaw02_num.calls t294 t300 _ A22.out).mono ?_); rintro e w' ⟨rfl, ⟨nd, rfl⟩⟩))
              go_meet
              case rel => exact ⟨_, (true), (by first | rfl | (simp; done) | (simp [*]; done)), H', ⟨by first | omega | exact Nat.le_refl _⟩, ⟨by (with_reducible repeat (first | apply Kd.R_alloc | apply Kd.R_drewN | apply Kd.R_drew)); exact Kd.R_mono HO284.out (fun _ hk => ⟨hk.1.2, hk.2⟩)⟩, ⟨by (with_reducible repeat (first | apply Kd.R_alloc | apply Kd.R_drewN | apply Kd.R_drew)); exact Kd.R_mono HO288.out (fun _ hk => ⟨hk.1.2, hk.2⟩)⟩, ⟨by (with_reducible repeat (first | apply Kd.R_alloc | apply Kd.R_drewN | apply Kd.R_drew)); exact Kd.R_mono HO292.out (fun _ hk => ⟨hk.1.2, hk.2⟩)⟩, ⟨by repeat (first | (with_reducible first | exact HB.out | apply below_alloc | apply pw_below_drewN | apply below_drew1) | exact HB.out)⟩⟩
        · replace c17 := Bool.eq_false_iff.mpr c17
          subst c17
          have H1 : (outpostlaw02_PolyFactors.j0 k a0 t281 t285 t289 true) = some r := by rw [if_neg (show ¬ (false = true) by decide)] at H; exact H
          clear H
          have H := H1
          clear H1
          have H' := Aside0.mk H
          clear H
          go_wp2_with (first | ((with_reducible refine gate_callee (f := 24) rfl ?_); refine goesL_ (some 43) rfl rfl Try.func24 (by kernel_rfl) rfl #[.int .i64 t282] rfl (by (try simp only [List.map_toArray, List.map_cons, List.map_nil]); first | done | rfl | (simp only [List.length_drop, List.length_take]; rfl)) ?_; (with_reducible refine (outpostlaw02_num.calls t282 t297 _ A12.out).mono ?_); rintro e w' ⟨rfl, ⟨nd, rfl⟩⟩; refine ⟨_, rfl, ?_⟩; obtain ⟨Ao32, co32, eo32⟩ := Kd.R_slice HO284.out; subst eo32; obtain ⟨Ao33, co33, eo33⟩ := Kd.R_slice HO292.out; subst eo33) | (go_at_call 36; (with_reducible refine (outpostlaw02_factors.calls k _ _ t281 _ _ t289 true _ ?side1 ?side2 ?side3 ?side4 A14.out).mono ?_); (case side1 => repeat (first | exact (Kd.R_reads' HO284.out).2.2 | (with_reducible refine Kd.C_alloc ?_ _) | (with_reducible refine Kd.C_drewN ?_ _) | (with_reducible refine Kd.C_drew ?_))); (case side2 => exact (Kd.R_reads' HO284.out).2.1); (case side3 => repeat (first | exact (Kd.R_reads' HO292.out).2.2 | (with_reducible refine Kd.C_alloc ?_ _) | (with_reducible refine Kd.C_drewN ?_ _) | (with_reducible refine Kd.C_drew ?_))); (case side4 => exact (Kd.R_reads' HO292.out).2.1); rintro e w' ⟨rfl, ⟨nd, rfl⟩⟩; obtain ⟨Ao34, co34, eo34⟩ := Kd.R_slice HO288.out; subst eo34) | (go_at_call 36; (with_reducible refine (outpostlaw02_factors.calls k _ _ t285 _ _ t289 false _ ?side1 ?side2 ?side3 ?side4 A16.out).mono ?_); (case side1 => repeat (first | exact (Kd.R_reads' HO288.out).2.2 | (with_reducible refine Kd.C_alloc ?_ _) | (with_reducible refine Kd.C_drewN ?_ _) | (with_reducible refine Kd.C_drew ?_))); (case side2 => exact (Kd.R_reads' HO288.out).2.1); (case side3 => repeat (first | exact (Kd.R_reads' HO292.out).2.2 | (with_reducible refine Kd.C_alloc ?_ _) | (with_reducible refine Kd.C_drewN ?_ _) | (with_reducible refine Kd.C_drew ?_))); (case side4 => exact (Kd.R_reads' HO292.out).2.1); rintro e w' ⟨rfl, ⟨nd, rfl⟩⟩))
          go_meet
          case rel => exact ⟨_, (true), (by first | rfl | (simp; done) | (simp [*]; done)), H', ⟨by first | omega | exact Nat.le_refl _⟩, ⟨by (with_reducible repeat (first | apply Kd.R_alloc | apply Kd.R_drewN | apply Kd.R_drew)); exact Kd.R_mono HO284.out (fun _ hk => ⟨hk.1.2, hk.2⟩)⟩, ⟨by (with_reducible repeat (first | apply Kd.R_alloc | apply Kd.R_drewN | apply Kd.R_drew)); exact Kd.R_mono HO288.out (fun _ hk => ⟨hk.1.2, hk.2⟩)⟩, ⟨by (with_reducible repeat (first | apply Kd.R_alloc | apply Kd.R_drewN | apply Kd.R_drew)); exact Kd.R_mono HO292.out (fun _ hk => ⟨hk.1.2, hk.2⟩)⟩, ⟨by repeat (first | (with_reducible first | exact HB.out | apply below_alloc | apply pw_below_drewN | apply below_drew1) | exact HB.out)⟩⟩
      · replace c15 := Bool.eq_false_iff.mpr c15
        subst c15
        have H1 : (outpostlaw02_PolyFactors.j0 k a0 t281 t285 t289 true) = some r := by rw [if_neg (show ¬ (false = true) by decide)] at H; exact H
        clear H
        have H := H1
        clear H1
        have H' := Aside0.mk H
        clear H
        go_wp2_with (first | ((with_reducible refine gate_callee (f := 24) rfl ?_); refine goesL_ (some 43) rfl rfl Try.func24 (by kernel_rfl) rfl #[.int .i64 t282] rfl (by (try simp only [List.map_toArray, List.map_cons, List.map_nil]); first | done | rfl | (simp only [List.length_drop, List.length_take]; rfl)) ?_; (with_reducible refine (outpostlaw02_num.calls t282 t297 _ A12.out).mono ?_); rintro e w' ⟨rfl, ⟨nd, rfl⟩⟩; refine ⟨_, rfl, ?_⟩; obtain ⟨Ao35, co35, eo35⟩ := Kd.R_slice HO284.out; subst eo35; obtain ⟨Ao36, co36, eo36⟩ := Kd.R_slice HO292.out; subst eo36) | (go_at_call 36; (with_reducible refine (outpostlaw02_factors.calls k _ _ t281 _ _ t289 false _ ?side1 ?side2 ?side3 ?side4 A14.out).mono ?_); (case side1 => repeat (first | exact (Kd.R_reads' HO284.out).2.2 | (with_reducible refine Kd.C_alloc ?_ _) | (with_reducible refine Kd.C_drewN ?_ _) | (with_reducible refine Kd.C_drew ?_))); (case side2 => exact (Kd.R_reads' HO284.out).2.1); (case side3 => repeat (first | exact (Kd.R_reads' HO292.out).2.2 | (with_reducible refine Kd.C_alloc ?_ _) | (with_reducible refine Kd.C_drewN ?_ _) | (with_reducible refine Kd.C_drew ?_))); (case side4 => exact (Kd.R_reads' HO292.out).2.1); rintro e w' ⟨rfl, ⟨nd, rfl⟩⟩))
        go_meet
        case rel => exact ⟨_, (true), (by first | rfl | (simp; done) | (simp [*]; done)), H', ⟨by first | omega | exact Nat.le_refl _⟩, ⟨by (with_reducible repeat (first | apply Kd.R_alloc | apply Kd.R_drewN | apply Kd.R_drew)); exact Kd.R_mono HO284.out (fun _ hk => ⟨hk.1.2, hk.2⟩)⟩, ⟨by (with_reducible repeat (first | apply Kd.R_alloc | apply Kd.R_drewN | apply Kd.R_drew)); exact Kd.R_mono HO288.out (fun _ hk => ⟨hk.1.2, hk.2⟩)⟩, ⟨by (with_reducible repeat (first | apply Kd.R_alloc | apply Kd.R_drewN | apply Kd.R_drew)); exact Kd.R_mono HO292.out (fun _ hk => ⟨hk.1.2, hk.2⟩)⟩, ⟨by repeat (first | (with_reducible first | exact HB.out | apply below_alloc | apply pw_below_drewN | apply below_drew1) | exact HB.out)⟩⟩
    · rw [if_neg c13] at H
      have c13b0 : (t297 == t290) = false := beq_eq_false_iff_ne.mpr c13
      have c13b1 : (t297 != t290) = true := bne_iff_ne.mpr c13
      (first | rw [c13b0] | (simp only [i64_w, i32_w]; rw [c13b0]) | skip)
      have H' := Aside0.mk H
      clear H
      go_wp2_with (first | ((with_reducible refine gate_callee (f := 24) rfl ?_); refine goesL_ (some 43) rfl rfl Try.func24 (by kernel_rfl) rfl #[.int .i64 t282] rfl (by (try simp only [List.map_toArray, List.map_cons, List.map_nil]); first | done | rfl | (simp only [List.length_drop, List.length_take]; rfl)) ?_; (with_reducible refine (outpostlaw02_num.calls t282 t297 _ A12.out).mono ?_); rintro e w' ⟨rfl, ⟨nd, rfl⟩⟩; refine ⟨_, rfl, ?_⟩))
      go_meet
      case rel => exact ⟨_, (true), (by first | rfl | (simp; done) | (simp [*]; done)), H', ⟨by first | omega | exact Nat.le_refl _⟩, ⟨by (with_reducible repeat (first | apply Kd.R_alloc | apply Kd.R_drewN | apply Kd.R_drew)); exact Kd.R_mono HO284.out (fun _ hk => ⟨hk.1.2, hk.2⟩)⟩, ⟨by (with_reducible repeat (first | apply Kd.R_alloc | apply Kd.R_drewN | apply Kd.R_drew)); exact Kd.R_mono HO288.out (fun _ hk => ⟨hk.1.2, hk.2⟩)⟩, ⟨by (with_reducible repeat (first | apply Kd.R_alloc | apply Kd.R_drewN | apply Kd.R_drew)); exact Kd.R_mono HO292.out (fun _ hk => ⟨hk.1.2, hk.2⟩)⟩, ⟨by repeat (first | (with_reducible first | exact HB.out | apply below_alloc | apply pw_below_drewN | apply below_drew1) | exact HB.out)⟩⟩
  case rest =>
    clear HC7
    try clear c1
    try clear c2
    try clear p2
    try clear c3
    try clear c9
    try clear c13
    try clear c13b0
    try clear c13b1
    try clear c15
    try clear c17
    try clear c18
    try clear c18b0
    try clear c18b1
    try clear c18b2
    try clear c23
    try clear c23b0
    try clear c23b1
    try clear c24
    try clear c25
    try clear c33
    try clear c34
    try clear c35
    obtain ⟨kq, x72_6, rfl, HA, HJ6, HO_3, HO_5, HO_7, HB⟩ := hcut
    cases kq with
    | zero => exact absurd HA.out (by simp [outpostlaw02_PolyFactors.j0])
    | succ kj6 =>
      have H := HA.out
      clear HA
      simp only [outpostlaw02_PolyFactors.j0] at H
      by_cases c37 : x72_6 = true
      · subst c37
        have H1 : (some false) = some r := by rw [if_pos rfl] at H; exact H
        clear H
        have H := H1
        clear H1
        obtain rfl := Option.some.inj H
        go_wp2
        go_ret
        exact ⟨by first | rfl | (simp [errW_none, errW_some] <;> rfl) | (simp [*, errW_none, errW_some] <;> rfl), by repeat (first | (with_reducible first | exact HB.out | apply below_alloc | apply pw_below_drewN | apply below_drew1) | exact HB.out)⟩
      · replace c37 := Bool.eq_false_iff.mpr c37
        subst c37
        have H1 : (outpostlaw02_PolyFactors.l0 kj6 a0 t281 t285 t289 0) = some r := by rw [if_neg (show ¬ (false = true) by decide)] at H; exact H
        clear H
        have H := H1
        clear H1
        have H' := Aside0.mk H
        clear H
        go_wp2
        go_loopg [13] kj6 (fun kq v13 w' => ∃ (x3_2 : List (S40)) (x13_2 : Int), v13 = .int .i64 x13_2 ∧ Aside0 (outpostlaw02_PolyFactors.l0 kq a0 x3_2 t285 t289 x13_2 = some r) ∧ Aside0 (kq ≤ kj6) ∧ Aside0 (Kd.R k40 40 w' w.heap.size (fun k_ => some k_ ≠ (v287 : Value).ownBlock ∧ some k_ ≠ (v291 : Value).ownBlock) v283 x3_2) ∧ Aside0 (Kd.R k40 40 w' w.heap.size (fun k_ => some k_ ≠ (v283 : Value).ownBlock ∧ some k_ ≠ (v291 : Value).ownBlock) v287 t285) ∧ Aside0 (Kd.R k40 40 w' w.heap.size (fun k_ => some k_ ≠ (v283 : Value).ownBlock ∧ some k_ ≠ (v287 : Value).ownBlock) v291 t289) ∧ Aside0 (Below w.heap.size w w'))
        case atStart => exact ⟨(t281), (0), (by first | rfl | (simp; done) | (simp [*]; done)), H', ⟨Nat.le_refl _⟩, ⟨by (with_reducible repeat (first | apply Kd.R_alloc | apply Kd.R_drewN | apply Kd.R_drew)); exact HO_3.out⟩, ⟨by (with_reducible repeat (first | apply Kd.R_alloc | apply Kd.R_drewN | apply Kd.R_drew)); exact HO_5.out⟩, ⟨by (with_reducible repeat (first | apply Kd.R_alloc | apply Kd.R_drewN | apply Kd.R_drew)); exact HO_7.out⟩, ⟨by repeat (first | (with_reducible first | exact HB.out | apply below_alloc | apply pw_below_drewN | apply below_drew1) | exact HB.out)⟩⟩
        case round =>
          clear H'
          try clear c1
          try clear c2
          try clear p2
          try clear c3
          try clear c9
          try clear c13
          try clear c13b0
          try clear c13b1
          try clear c15
          try clear c17
          try clear c18
          try clear c18b0
          try clear c18b1
          try clear c18b2
          try clear c23
          try clear c23b0
          try clear c23b1
          try clear c24
          try clear c25
          try clear c33
          try clear c34
          try clear c35
          try clear c37
          try clear p2
          obtain ⟨x3_2, x13_2, rfl, HA, HK2, HO_3, HO_5, HO_7, HB⟩ := hrel
          cases gk with
          | zero => exact absurd HA.out (by simp [outpostlaw02_PolyFactors.l0])
          | succ k2 =>
            have H := HA.out
            clear HA
            simp only [outpostlaw02_PolyFactors.l0] at H
            by_cases c38 : x13_2 < (x3_2.length : Int)
            · rw [if_pos c38] at H
              have c38b0 : decide (x13_2 < (x3_2.length : Int)) = true := decide_eq_true c38
              clear c38
              by_cases c39 : 0 ≤ x13_2
              · rw [if_pos c39] at H
                have c39b0 : decide (0 ≤ x13_2) = true := decide_eq_true c39
                clear c39
                obtain ⟨y302, hy302⟩ : ∃ y_ : List (S40), y_ = (x3_2.set (x13_2 : Int).toNat (⟨99, (-1)⟩ : S40)) := ⟨_, rfl⟩
                replace H : (outpostlaw02_PolyFactors.l0 k2 a0 y302 t285 t289 (wrap64 (x13_2 + 1))) = some r := by first | (rw [hy302]; with_reducible exact H) | (have H2_ := (Option.bind_some _ _).symm.trans H; rw [hy302]; with_reducible exact H2_) | (have H2_ := (Option.bind_some _ _).symm.trans H; with_reducible exact H2_) | with_reducible exact H | (rw [hy302]; exact H) | exact H
                have Ny302 := Aside0.mk hy302
                clear hy302
                have H' := Aside0.mk H
                clear H
                obtain ⟨Ao41, co41, eo41⟩ := Kd.R_slice HO_3.out
                subst eo41
                have p40 : 0 ≤ (x13_2 : Int) := of_decide_eq_true (by first | (with_reducible assumption) | assumption)
                have q40 : (x13_2 : Int) < ((x3_2.length : Int) : Int) := of_decide_eq_true (by first | (with_reducible assumption) | assumption)
                obtain ⟨go40, co40, eo40, gb40, gl40, cl40, HG40⟩ := Kd.R_form HO_3.out (by omega)
                (first | cases eo40 | (injection eo40 with ea_ en_ ec_; (first | subst ea_ | (injection ea_ with ea_; subst ea_)); subst ec_; clear en_))
                have GB40 := Aside0.mk gb40
                have GG40 := Aside0.mk HG40
                clear gb40 gl40 HG40
                obtain ⟨ce40, hcl40, hM40, hcc40, hfr40⟩ := Kd.R_elem HO_3.out z40 (x13_2 : Int) p40 q40
                obtain rfl := k40_openM hM40
                have hx40_0 : wr.cell? ⟨go40, (x13_2 : Int).toNat * 2, none⟩ = some (.int .u64 ((rd_T40 x3_2 x13_2).f0)) := hcc40 0 _ rfl
                have hx40_1 : wr.cell? ⟨go40, (x13_2 : Int).toNat * 2 + 1, none⟩ = some (.int .i64 ((rd_T40 x3_2 x13_2).f1)) := hcc40 1 _ rfl
                have hf40_0 : wr.frozen? ⟨go40, (x13_2 : Int).toNat * 2, none⟩ = false := hfr40 0
                have hf40_1 : wr.frozen? ⟨go40, (x13_2 : Int).toNat * 2 + 1, none⟩ = false := hfr40 1
                clear hcl40 hcc40 hfr40 hM40
                replace p40 := eq_true p40
                replace q40 := eq_true q40
                have HX42 := Aside0.mk (show Kd.R k40 40 wr w.heap.size (fun k_ => some k_ ≠ (v287 : Value).ownBlock ∧ some k_ ≠ (v291 : Value).ownBlock) (.slice (some ⟨go40, 0, none⟩) x3_2.length co41) x3_2 from (by (with_reducible repeat (first | apply Kd.R_alloc | apply Kd.R_drewN | apply Kd.R_drew)); exact HO_3.out))
                obtain ⟨ce42, hcl42, hM42, hcc42, hfr42⟩ := Kd.R_elem HX42.out z40 (x13_2 : Int) (of_decide_eq_true (by first | (with_reducible assumption) | assumption)) (by have h_ : (x13_2 : Int) < ((x3_2.length : Int) : Int) := of_decide_eq_true (by first | (with_reducible assumption) | assumption); first | exact h_ | (have e_ := (Kd.R_reads' HO_3.out).1; omega) | simpa using h_)
                obtain rfl := k40_openM hM42
                have HP42 := Kd.R_seg HX42.out (x13_2 : Int) (of_decide_eq_true (by first | (with_reducible assumption) | assumption)) (by have h_ : (x13_2 : Int) < ((x3_2.length : Int) : Int) := of_decide_eq_true (by first | (with_reducible assumption) | assumption); first | exact h_ | (have e_ := (Kd.R_reads' HO_3.out).1; omega) | simpa using h_) (seg := [.int .u64 99, .int .i64 (-1)]) (j := 0) hcl42 hcc42 (show 2 ≤ 2 from by decide) (x' := (⟨99, (-1)⟩ : S40)) (k40_mkM _ _ _ (⟨99, (-1)⟩ : S40) ) (fun _ hk => hk)
                have hx42_0 := hcc42 0 _ rfl
                (try simp only [show (k40).sz = 2 from rfl, Nat.mul_one, Nat.add_zero] at hx42_0)
                have hf42_0 := hfr42 0
                (try simp only [show (k40).sz = 2 from rfl, Nat.mul_one, Nat.add_zero] at hf42_0)
                have hx42_1 := hcc42 1 _ rfl
                (try simp only [show (k40).sz = 2 from rfl, Nat.mul_one, Nat.add_zero] at hx42_1)
                have hf42_1 := hfr42 1
                (try simp only [show (k40).sz = 2 from rfl, Nat.mul_one, Nat.add_zero] at hf42_1)
                clear hcl42 hcc42 hfr42 hM42
                go_wp2_with (first | ((with_reducible refine gate_store (t := 40) (p := 82) rfl ?_); refine store_event (t := 40) (p := 82) (v := ?vo_w43) (w1 := ((wr.setCell ⟨go40, (x13_2 : Int).toNat * 2, none⟩ (.int .u64 99)).setCell ⟨go40, (x13_2 : Int).toNat * 2 + 1, none⟩ (.int .i64 (-1)))) ?hg ?ho ?hn ?hr ?_; (case ho => rfl); (case hg => rfl); (case hn => rfl); (case hr => first | (go_simp; done) | (go_simp; rfl)); intro w43 hw; have hg : wr.grownBy w43 (some go40) := (by rw [hw]; exact HP42.2); have hp_ : Kd.R k40 40 w43 w.heap.size (fun k_ => some k_ ≠ (v287 : Value).ownBlock ∧ some k_ ≠ (v291 : Value).ownBlock) (.slice (some ⟨go40, 0, none⟩) x3_2.length co41) y302 := (by rw [hw, Ny302.out]; exact HP42.1); clear HP42; have n0_ := Aside0.mk (hp_); have n1_ := Aside0.mk (Kd.R_after (v := (.slice (some ⟨go40, 0, none⟩) x3_2.length co41)) (v1 := (.slice (some ⟨go40, 0, none⟩) x3_2.length co41)) (ok := (fun k_ => some k_ ≠ (v291 : Value).ownBlock)) (by (with_reducible repeat (first | apply Kd.R_alloc | apply Kd.R_drewN | apply Kd.R_drew)); exact Kd.R_mono HO_5.out (fun _ hk => ⟨hk.2, hk.1⟩)) hg (.inl rfl)); have n2_ := Aside0.mk (Kd.R_after (v := (.slice (some ⟨go40, 0, none⟩) x3_2.length co41)) (v1 := (.slice (some ⟨go40, 0, none⟩) x3_2.length co41)) (ok := (fun k_ => some k_ ≠ (v287 : Value).ownBlock)) (by (with_reducible repeat (first | apply Kd.R_alloc | apply Kd.R_drewN | apply Kd.R_drew)); exact Kd.R_mono HO_7.out (fun _ hk => ⟨hk.2, hk.1⟩)) hg (.inl rfl)); have n3_ := Aside0.mk ((by rw [hw]; exact below_set (below_set (HB.out) GB40.out) GB40.out : Below w.heap.size w w43)); clear HO_3; clear HO_5; clear HO_7; clear HB; have HO_3 := n0_; have HO_5 := n1_; have HO_7 := n2_; have HB := n3_; clear n0_ n1_ n2_ n3_; clear hg hw hp_))
                go_roundg k2
                case measure => have := HJ6.out; have := HK2.out; omega
                case rel => exact ⟨(y302), (wrap64 (x13_2 + 1)), (by first | rfl | (simp; done) | (simp [*]; done)), H', ⟨by have := HJ6.out; have := HK2.out; omega⟩, ⟨by (with_reducible repeat (first | apply Kd.R_alloc | apply Kd.R_drewN | apply Kd.R_drew)); exact HO_3.out⟩, ⟨by (with_reducible repeat (first | apply Kd.R_alloc | apply Kd.R_drewN | apply Kd.R_drew)); exact Kd.R_mono HO_5.out (fun _ hk => ⟨hk.2, hk.1⟩)⟩, ⟨by (with_reducible repeat (first | apply Kd.R_alloc | apply Kd.R_drewN | apply Kd.R_drew)); exact Kd.R_mono HO_7.out (fun _ hk => ⟨hk.2, hk.1⟩)⟩, ⟨by repeat (first | (with_reducible first | exact HB.out | apply below_alloc | apply pw_below_drewN | apply below_drew1) | exact HB.out)⟩⟩
              · rw [if_neg c39] at H
                exact absurd H (by simp)
            · rw [if_neg c38] at H
              have c38b0 : decide (x13_2 < (x3_2.length : Int)) = false := decide_eq_false c38
              clear c38
              have H' := Aside0.mk H
              clear H
              obtain ⟨Ao44, co44, eo44⟩ := Kd.R_slice HO_3.out
              subst eo44
              go_wp2
              go_loopg [3, 14] k2 (fun kq v3 v14 w' => ∃ (x3_3 : List (S40)) (x14_3 : Int), v14 = .int .i64 x14_3 ∧ Aside0 (outpostlaw02_PolyFactors.l1 kq a0 x3_3 t285 t289 x14_3 = some r) ∧ Aside0 (kq ≤ k2) ∧ Aside0 (Kd.R k40 40 w' w.heap.size (fun k_ => some k_ ≠ (v287 : Value).ownBlock ∧ some k_ ≠ (v291 : Value).ownBlock) v3 x3_3) ∧ Aside0 (Kd.R k40 40 w' w.heap.size (fun k_ => some k_ ≠ (v3 : Value).ownBlock ∧ some k_ ≠ (v291 : Value).ownBlock) v287 t285) ∧ Aside0 (Kd.R k40 40 w' w.heap.size (fun k_ => some k_ ≠ (v3 : Value).ownBlock ∧ some k_ ≠ (v287 : Value).ownBlock) v291 t289) ∧ Aside0 (Below w.heap.size w w'))
              case atStart => exact ⟨(x3_2), (0), (by first | rfl | (simp; done) | (simp [*]; done)), H', ⟨Nat.le_refl _⟩, ⟨by (with_reducible repeat (first | apply Kd.R_alloc | apply Kd.R_drewN | apply Kd.R_drew)); exact HO_3.out⟩, ⟨by (with_reducible repeat (first | apply Kd.R_alloc | apply Kd.R_drewN | apply Kd.R_drew)); exact HO_5.out⟩, ⟨by (with_reducible repeat (first | apply Kd.R_alloc | apply Kd.R_drewN | apply Kd.R_drew)); exact HO_7.out⟩, ⟨by repeat (first | (with_reducible first | exact HB.out | apply below_alloc | apply pw_below_drewN | apply below_drew1) | exact HB.out)⟩⟩
              case round =>
                clear H'
                try clear c1
                try clear c2
                try clear p2
                try clear c3
                try clear c4
                try clear p4
                try clear q4
                try clear hx4
                try clear hf4
                try clear p6
                try clear c9
                try clear c13
                try clear c13b0
                try clear c13b1
                try clear c15
                try clear c17
                try clear c18
                try clear c18b0
                try clear c18b1
                try clear c18b2
                try clear c23
                try clear c23b0
                try clear c23b1
                try clear c24
                try clear c25
                try clear c33
                try clear c34
                try clear c35
                try clear c37
                try clear c38
                try clear c38b0
                try clear c39
                try clear c39b0
                try clear c40
                try clear p40
                try clear q40
                try clear hx40
                try clear hf40
                try clear c42
                try clear hx42
                try clear hf42
                try clear hx40_0
                try clear hx40_1
                try clear hx42_0
                try clear hx42_1
                try clear p2
                try clear p40
                try clear q40
                obtain ⟨x3_3, x14_3, rfl, HA, HK3, HO_3, HO_5, HO_7, HB⟩ := hrel
                cases gk with
                | zero => exact absurd HA.out (by simp [outpostlaw02_PolyFactors.l1])
                | succ k3 =>
                  have H := HA.out
                  clear HA
                  simp only [outpostlaw02_PolyFactors.l1] at H
                  by_cases c45 : x14_3 < 64
                  · rw [if_pos c45] at H
                    have c45b0 : decide (x14_3 < 64) = true := decide_eq_true c45
                    clear c45
                    by_cases c46 : x3_3.length < 8796093022208
                    · rw [if_pos c46] at H
                      have LMc46 := Aside0.mk c46
                      clear c46
                      obtain ⟨y303, hy303⟩ : ∃ y_ : List (S40), y_ = (x3_3 ++ [(⟨98, (-2)⟩ : S40)]) := ⟨_, rfl⟩
                      replace H : (outpostlaw02_PolyFactors.l1 k3 a0 y303 t285 t289 (wrap64 (x14_3 + 1))) = some r := by first | (rw [hy303]; with_reducible exact H) | (have H2_ := (Option.bind_some _ _).symm.trans H; rw [hy303]; with_reducible exact H2_) | (have H2_ := (Option.bind_some _ _).symm.trans H; with_reducible exact H2_) | with_reducible exact H | (rw [hy303]; exact H) | exact H
                      have Ny303 := Aside0.mk hy303
                      clear hy303
                      have H' := Aside0.mk H
                      clear H
                      go_wp2_with (first | ((with_reducible refine gate_builtin (b := .append) (xs := #[.tmp 87, .tmp 89]) rfl ?_); at_builtin; refine Kd.R_append k40 (w0 := w) w.heap.size rfl (.tmp 87) (.tmp 89) 36 40 (.agg #[(.int .u64 0), (.int .i64 0)]) 16 rfl Try.underlying36 info40 rfl (by decide) (by omega) u3 x3_3 (⟨98, (-2)⟩ : S40) [.int .u64 98, .int .i64 (-2)] (fun k_ => some k_ ≠ (v287 : Value).ownBlock ∧ some k_ ≠ (v291 : Value).ownBlock) (fun _ => False) rfl rfl ?aP (fun _ hk => hk.elim) ?aF ?aO ?aB ?aS ?aL ?_; (case aP => exact k40_mkM _ _ _ (⟨98, (-2)⟩ : S40)); (case aB => exact (by repeat (first | (with_reducible first | exact HB.out | apply below_alloc | apply pw_below_drewN | apply below_drew1) | exact HB.out))); (case aF => exact (fun k_ hk => ⟨Kd.fresh' (Kd.R_lt (by (with_reducible repeat (first | apply Kd.R_alloc | apply Kd.R_drewN | apply Kd.R_drew)); exact HO_5.out)) k_ hk, Kd.fresh' (Kd.R_lt (by (with_reducible repeat (first | apply Kd.R_alloc | apply Kd.R_drewN | apply Kd.R_drew)); exact HO_7.out)) k_ hk⟩)); (case aO => exact (by (with_reducible repeat (first | apply Kd.R_alloc | apply Kd.R_drewN | apply Kd.R_drew)); exact HO_3.out)); (case aS => exact (below_size (by repeat (first | (with_reducible first | exact HB.out | apply below_alloc | apply pw_below_drewN | apply below_drew1) | exact HB.out)))); (case aL => have := LMc46.out; omega); intro v304 w47 ho hb hg hat; rw [← Ny303.out] at ho; have n0_ := Aside0.mk (Kd.R_after (ok := (fun k_ => some k_ ≠ (v291 : Value).ownBlock)) (by (with_reducible repeat (first | apply Kd.R_alloc | apply Kd.R_drewN | apply Kd.R_drew)); exact Kd.R_mono HO_5.out (fun _ hk => ⟨hk.2, hk.1⟩)) hg hat); have n1_ := Aside0.mk (Kd.R_after (ok := (fun k_ => some k_ ≠ (v287 : Value).ownBlock)) (by (with_reducible repeat (first | apply Kd.R_alloc | apply Kd.R_drewN | apply Kd.R_drew)); exact Kd.R_mono HO_7.out (fun _ hk => ⟨hk.2, hk.1⟩)) hg hat); have n2_ := Aside0.mk (hb); have n3_ := Aside0.mk (ho); clear HO_5; clear HO_7; clear HB; clear HO_3; have HO_5 := n0_; have HO_7 := n1_; have HB := n2_; have HO305 := n3_; clear n0_ n1_ n2_ n3_; clear ho hb hg hat))
                      go_roundg k3
                      case measure => have := HJ6.out; have := HK2.out; have := HK3.out; omega
                      case rel => exact ⟨(y303), (wrap64 (x14_3 + 1)), (by first | rfl | (simp; done) | (simp [*]; done)), H', ⟨by have := HJ6.out; have := HK2.out; have := HK3.out; omega⟩, ⟨by (with_reducible repeat (first | apply Kd.R_alloc | apply Kd.R_drewN | apply Kd.R_drew)); exact HO305.out⟩, ⟨by (with_reducible repeat (first | apply Kd.R_alloc | apply Kd.R_drewN | apply Kd.R_drew)); exact Kd.R_mono HO_5.out (fun _ hk => ⟨hk.2, hk.1⟩)⟩, ⟨by (with_reducible repeat (first | apply Kd.R_alloc | apply Kd.R_drewN | apply Kd.R_drew)); exact Kd.R_mono HO_7.out (fun _ hk => ⟨hk.2, hk.1⟩)⟩, ⟨by repeat (first | (with_reducible first | exact HB.out | apply below_alloc | apply pw_below_drewN | apply below_drew1) | exact HB.out)⟩⟩
                    · rw [if_neg c46] at H
                      exact absurd H (by simp)
                  · rw [if_neg c45] at H
                    have c45b0 : decide (x14_3 < 64) = false := decide_eq_false c45
                    clear c45
                    replace H := Option.bind_eq_some_iff.mp H
                    obtain ⟨⟨t306, t307⟩, A480, H⟩ := H
                    replace H : ((outpostlaw02_factors.f k3 t285 t289).bind fun t310 => (if t310 = true then ((outpostlaw02_factors.f k3 t306 t289).bind fun t311 => (some t311)) else (some false))) = some r := H
                    have A48 := Aside0.mk A480
                    clear A480
                    replace H := Option.bind_eq_some_iff.mp H
                    obtain ⟨t310, A490, H⟩ := H
                    replace H : (if t310 = true then ((outpostlaw02_factors.f k3 t306 t289).bind fun t311 => (some t311)) else (some false)) = some r := H
                    have A49 := Aside0.mk A490
                    clear A490
                    by_cases c50 : t310 = true
                    · subst c50
                      have H1 : ((outpostlaw02_factors.f k3 t306 t289).bind fun t311 => (some t311)) = some r := by rw [if_pos rfl] at H; exact H
                      clear H
                      have H := H1
                      clear H1
                      replace H := Option.bind_eq_some_iff.mp H
                      obtain ⟨t311, A510, H⟩ := H
                      replace H : (some t311) = some r := H
                      have A51 := Aside0.mk A510
                      clear A510
                      obtain rfl := Option.some.inj H
                      go_wp2_with (first | ((with_reducible refine gate_callee (f := 25) rfl ?_); refine goesL_ (some 93) rfl rfl Try.func25 (by kernel_rfl) rfl #[.int .u64 a0] rfl (by (try simp only [List.map_toArray, List.map_cons, List.map_nil]); first | done | rfl | (simp only [List.length_drop, List.length_take]; rfl)) ?_; (with_reducible refine (poly_Factor.calls k3 a0 t306 t307 _ A48.out).mono ?_); rintro e w52 ⟨v308, rfl, ho0, hb⟩; refine ⟨_, rfl, ?_⟩; have n0_ := Aside0.mk (Kd.R_elder' (by (with_reducible repeat (first | apply Kd.R_alloc | apply Kd.R_drewN | apply Kd.R_drew)); exact HO_3.out) (Kd.R_base ho0) hb); have n1_ := Aside0.mk (Kd.R_elder' (by (with_reducible repeat (first | apply Kd.R_alloc | apply Kd.R_drewN | apply Kd.R_drew)); exact HO_5.out) (Kd.R_base ho0) hb); have n2_ := Aside0.mk (Kd.R_elder' (by (with_reducible repeat (first | apply Kd.R_alloc | apply Kd.R_drewN | apply Kd.R_drew)); exact HO_7.out) (Kd.R_base ho0) hb); have n3_ := Aside0.mk (Kd.R_lower (Kd.R_new' (Kd.R_new' (Kd.R_new' ho0 (Kd.R_lt (by (with_reducible repeat (first | apply Kd.R_alloc | apply Kd.R_drewN | apply Kd.R_drew)); exact HO_3.out))) (Kd.R_lt (by (with_reducible repeat (first | apply Kd.R_alloc | apply Kd.R_drewN | apply Kd.R_drew)); exact HO_5.out))) (Kd.R_lt (by (with_reducible repeat (first | apply Kd.R_alloc | apply Kd.R_drewN | apply Kd.R_drew)); exact HO_7.out))) (below_size (by repeat (first | (with_reducible first | exact HB.out | apply below_alloc | apply pw_below_drewN | apply below_drew1) | exact HB.out)))); have n4_ := Aside0.mk (below_step (by repeat (first | (with_reducible first | exact HB.out | apply below_alloc | apply pw_below_drewN | apply below_drew1) | exact HB.out)) hb); clear HO_3; clear HO_5; clear HO_7; clear HB; have HO_3 := n0_; have HO_5 := n1_; have HO_7 := n2_; have HO309 := n3_; have HB := n4_; clear n0_ n1_ n2_ n3_ n4_; (try clear hb); (try clear hb2); (try clear hk); (try clear hi); (try clear ho0); obtain ⟨Ao53, co53, eo53⟩ := Kd.R_slice HO_5.out; subst eo53; obtain ⟨Ao54, co54, eo54⟩ := Kd.R_slice HO_7.out; subst eo54) | ((with_reducible refine gate_callee (f := 36) rfl ?_); refine goesL_ (some 98) rfl rfl Try.func36 (by kernel_rfl) rfl #[.slice Ao53 t285.length co53, .slice Ao54 t289.length co54] rfl (by (try simp only [List.map_toArray, List.map_cons, List.map_nil]); first | done | rfl | (simp only [List.length_drop, List.length_take]; rfl)) ?_; (with_reducible refine (outpostlaw02_factors.calls k3 _ _ t285 _ _ t289 true _ ?side1 ?side2 ?side3 ?side4 A49.out).mono ?_); (case side1 => repeat (first | exact (Kd.R_reads' HO_5.out).2.2 | (with_reducible refine Kd.C_alloc ?_ _) | (with_reducible refine Kd.C_drewN ?_ _) | (with_reducible refine Kd.C_drew ?_))); (case side2 => exact (Kd.R_reads' HO_5.out).2.1); (case side3 => repeat (first | exact (Kd.R_reads' HO_7.out).2.2 | (with_reducible refine Kd.C_alloc ?_ _) | (with_reducible refine Kd.C_drewN ?_ _) | (with_reducible refine Kd.C_drew ?_))); (case side4 => exact (Kd.R_reads' HO_7.out).2.1); rintro e w' ⟨rfl, ⟨nd, rfl⟩⟩; refine ⟨_, rfl, ?_⟩; obtain ⟨Ao55, co55, eo55⟩ := Kd.R_slice HO309.out; subst eo55) | (go_at_call 36; (with_reducible refine (outpostlaw02_factors.calls k3 _ _ t306 _ _ t289 t311 _ ?side1 ?side2 ?side3 ?side4 A51.out).mono ?_); (case side1 => repeat (first | exact (Kd.R_reads' HO309.out).2.2 | (with_reducible refine Kd.C_alloc ?_ _) | (with_reducible refine Kd.C_drewN ?_ _) | (with_reducible refine Kd.C_drew ?_))); (case side2 => exact (Kd.R_reads' HO309.out).2.1); (case side3 => repeat (first | exact (Kd.R_reads' HO_7.out).2.2 | (with_reducible refine Kd.C_alloc ?_ _) | (with_reducible refine Kd.C_drewN ?_ _) | (with_reducible refine Kd.C_drew ?_))); (case side4 => exact (Kd.R_reads' HO_7.out).2.1); rintro e w' ⟨rfl, ⟨nd, rfl⟩⟩))
                      go_ret
                      exact ⟨by first | rfl | (simp [errW_none, errW_some] <;> rfl) | (simp [*, errW_none, errW_some] <;> rfl), by repeat (first | (with_reducible first | exact HB.out | apply below_alloc | apply pw_below_drewN | apply below_drew1) | exact HB.out)⟩
                    · replace c50 := Bool.eq_false_iff.mpr c50
                      subst c50
                      have H1 : (some false) = some r := by rw [if_neg (show ¬ (false = true) by decide)] at H; exact H
                      clear H
                      have H := H1
                      clear H1
                      obtain rfl := Option.some.inj H
                      go_wp2_with (first | ((with_reducible refine gate_callee (f := 25) rfl ?_); refine goesL_ (some 93) rfl rfl Try.func25 (by kernel_rfl) rfl #[.int .u64 a0] rfl (by (try simp only [List.map_toArray, List.map_cons, List.map_nil]); first | done | rfl | (simp only [List.length_drop, List.length_take]; rfl)) ?_; (with_reducible refine (poly_Factor.calls k3 a0 t306 t307 _ A48.out).mono ?_); rintro e w56 ⟨v308, rfl, ho0, hb⟩; refine ⟨_, rfl, ?_⟩; have n0_ := Aside0.mk (Kd.R_elder' (by (with_reducible repeat (first | apply Kd.R_alloc | apply Kd.R_drewN | apply Kd.R_drew)); exact HO_3.out) (Kd.R_base ho0) hb); have n1_ := Aside0.mk (Kd.R_elder' (by (with_reducible repeat (first | apply Kd.R_alloc | apply Kd.R_drewN | apply Kd.R_drew)); exact HO_5.out) (Kd.R_base ho0) hb); have n2_ := Aside0.mk (Kd.R_elder' (by (with_reducible repeat (first | apply Kd.R_alloc | apply Kd.R_drewN | apply Kd.R_drew)); exact HO_7.out) (Kd.R_base ho0) hb); have n3_ := Aside0.mk (Kd.R_lower (Kd.R_new' (Kd.R_new' (Kd.R_new' ho0 (Kd.R_lt (by (with_reducible repeat (first | apply Kd.R_alloc | apply Kd.R_drewN | apply Kd.R_drew)); exact HO_3.out))) (Kd.R_lt (by (with_reducible repeat (first | apply Kd.R_alloc | apply Kd.R_drewN | apply Kd.R_drew)); exact HO_5.out))) (Kd.R_lt (by (with_reducible repeat (first | apply Kd.R_alloc | apply Kd.R_drewN | apply Kd.R_drew)); exact HO_7.out))) (below_size (by repeat (first | (with_reducible first | exact HB.out | apply below_alloc | apply pw_below_drewN | apply below_drew1) | exact HB.out)))); have n4_ := Aside0.mk (below_step (by repeat (first | (with_reducible first | exact HB.out | apply below_alloc | apply pw_below_drewN | apply below_drew1) | exact HB.out)) hb); clear HO_3; clear HO_5; clear HO_7; clear HB; have HO_3 := n0_; have HO_5 := n1_; have HO_7 := n2_; have HO309 := n3_; have HB := n4_; clear n0_ n1_ n2_ n3_ n4_; (try clear hb); (try clear hb2); (try clear hk); (try clear hi); (try clear ho0); obtain ⟨Ao57, co57, eo57⟩ := Kd.R_slice HO_5.out; subst eo57; obtain ⟨Ao58, co58, eo58⟩ := Kd.R_slice HO_7.out; subst eo58) | ((with_reducible refine gate_callee (f := 36) rfl ?_); refine goesL_ (some 98) rfl rfl Try.func36 (by kernel_rfl) rfl #[.slice Ao57 t285.length co57, .slice Ao58 t289.length co58] rfl (by (try simp only [List.map_toArray, List.map_cons, List.map_nil]); first | done | rfl | (simp only [List.length_drop, List.length_take]; rfl)) ?_; (with_reducible refine (outpostlaw02_factors.calls k3 _ _ t285 _ _ t289 false _ ?side1 ?side2 ?side3 ?side4 A49.out).mono ?_); (case side1 => repeat (first | exact (Kd.R_reads' HO_5.out).2.2 | (with_reducible refine Kd.C_alloc ?_ _) | (with_reducible refine Kd.C_drewN ?_ _) | (with_reducible refine Kd.C_drew ?_))); (case side2 => exact (Kd.R_reads' HO_5.out).2.1); (case side3 => repeat (first | exact (Kd.R_reads' HO_7.out).2.2 | (with_reducible refine Kd.C_alloc ?_ _) | (with_reducible refine Kd.C_drewN ?_ _) | (with_reducible refine Kd.C_drew ?_))); (case side4 => exact (Kd.R_reads' HO_7.out).2.1); rintro e w' ⟨rfl, ⟨nd, rfl⟩⟩; refine ⟨_, rfl, ?_⟩))
                      go_ret
                      exact ⟨by first | rfl | (simp [errW_none, errW_some] <;> rfl) | (simp [*, errW_none, errW_some] <;> rfl), by repeat (first | (with_reducible first | exact HB.out | apply below_alloc | apply pw_below_drewN | apply below_drew1) | exact HB.out)⟩

/-- THE ONE PURE STATEMENT of outpostlaw02_PolyFactors: yours. -/
def outpostlaw02_PolyFactors.Pure : Prop := ∀ (a0 : Int), (Lit.int .u64 a0).wf = true → ∃ k, outpostlaw02_PolyFactors.f k a0 = some true
theorem outpostlaw02_PolyFactors.walk (P : outpostlaw02_PolyFactors.Pure) (a0 : Int) (w : World) (w0 : (Lit.int .u64 a0).wf = true) :
    Calls Try.prog 9 #[.int .u64 a0] w fun e w' => e = .returned (.bool true) ∧ Below w.heap.size w w' := by
  obtain ⟨k, h⟩ := P a0 w0
  refine (outpostlaw02_PolyFactors.calls k a0 true w h).mono ?_
  rintro e w' ⟨rfl, hd⟩
  exact ⟨rfl, hd⟩

end Go.Proofs.Ytofdnjlcnpaecaa.P
