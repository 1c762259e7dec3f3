/- This session's own text, laid by its program out of the translation: functions of the Go code as Lean functions, each with a proof that its call comes to that function's answers. No condition. -/
import Derived.Maps.RangeWalk
import Derived.Maps.OwnOps
import Derived.Maps.Ext
import Derived.Test.YtofdnjlcnpaecaaP0
import Derived.Test.YtofdnjlcnpaecaaP2
import Derived.Test.YtofdnjlcnpaecaaP3
import Derived.Test.YtofdnjlcnpaecaaP4
import Derived.Test.YtofdnjlcnpaecaaP5
namespace Go.Proofs.Ytofdnjlcnpaecaa.P
open Go.RowKit Go.Proofs.YtofdnjlcnpaecaaW.PrintWords Go.Proofs.YtofdnjlcnpaecaaW.PrintLast Go.Proofs.YtofdnjlcnpaecaaW.PrintMore
attribute [local go_sem] max2_int min2_int max_two min_two max_three min_three max_four min_four   -- for this text's walks alone
set_option linter.unusedVariables false
set_option linter.unusedSimpArgs false

/-! ### poly_Factor: function 25 (by hand) -/
-- IMPORTS Derived.Maps.RangeWalk Derived.Maps.OwnOps Derived.Maps.Ext
/-! ### poly_Factor -/
def fac_bump : List (Int × Int) → Int → List (Int × Int)
  | [], p => [(p, 1)]
  | (q, n) :: r, p => if q = p then (q, wrap64 (n + 1)) :: r else (q, n) :: fac_bump r p
def fac_look : List (Int × Int) → Int → Int
  | [], _ => 0
  | (q, n) :: r, p => if q = p then n else fac_look r p
def fac_has (l : List (Int × Int)) (p : Int) : Bool := l.any fun x => x.1 == p
def fac_ins (x : S40) : List S40 → List S40
  | [] => [x]
  | y :: r => if x.f0 < y.f0 then x :: y :: r else y :: fac_ins x r
def fac_sort (l : List (Int × Int)) : List S40 := l.foldr (fun x r => fac_ins ⟨x.1, x.2⟩ r) []
def fac_fin (l : List (Int × Int)) : Option (List S40 × Int) := if l.length ≤ 12 then some (fac_sort l, 0) else none
mutual
def poly_Factor.l0 : Nat → Int → List (Int × Int) → Int → Option (List S40 × Int)
  | 0, _, _, _ => none
  | k + 1, a, l, p => (poly_Degree.f k p).bind fun t => ((poly_Degree.f k a).bind fun u => (if (wrap64 (2 * t)) ≤ u then (poly_Factor.l1 k a l p) else (if a = 1 then (fac_fin l) else (if 0 ≤ a ∧ a ≤ 18446744073709551615 ∧ l.length ≤ 12 then (fac_fin (fac_bump l a)) else none))))
def poly_Factor.l1 : Nat → Int → List (Int × Int) → Int → Option (List S40 × Int)
  | 0, _, _, _ => none
  | k + 1, a, l, p => (poly_long.f k 0 a p).bind fun b => (if b.2 = 0 then (if 0 ≤ p ∧ p ≤ 18446744073709551615 ∧ l.length ≤ 12 then (poly_Factor.l1 k b.1 (fac_bump l p) p) else none) else (poly_Factor.l0 k a l (IntKind.u64.wrap (p + 1))))
end
def poly_Factor.f (k : Nat) (a0 : Int) : Option (List S40 × Int) := if a0 = 0 then (some (([] : List S40), 20)) else ((poly_Degree.f k a0).bind fun t => (if t > 32 then (some (([] : List S40), 21)) else (poly_Factor.l0 k a0 [] 2)))
theorem poly_Factor.mono_l : ∀ k, (∀ y0 y1 y2, LeO (poly_Factor.l0 k y0 y1 y2) (poly_Factor.l0 (k + 1) y0 y1 y2)) ∧ (∀ y0 y1 y2, LeO (poly_Factor.l1 k y0 y1 y2) (poly_Factor.l1 (k + 1) y0 y1 y2))
  | 0 => ⟨fun _ _ _ r h => by simp [poly_Factor.l0] at h, fun _ _ _ r h => by simp [poly_Factor.l1] at h⟩
  | k + 1 => by
    obtain ⟨ih0, ih1⟩ := poly_Factor.mono_l k
    refine ⟨?_, ?_⟩
    · intro y0 y1 y2
      unfold poly_Factor.l0
      repeat' first
      | (with_reducible exact ih0 _ _ _)
      | (with_reducible exact ih1 _ _ _)
      | (with_reducible exact poly_Degree.mono _ _)
      | (with_reducible exact LeO.refl _)
      | (with_reducible exact LeO.none _)
      | (with_reducible refine LeO.ite ?_ ?_)
      | (with_reducible refine LeO.bind ?_ (fun _ => ?_))
    · intro y0 y1 y2
      unfold poly_Factor.l1
      repeat' first
      | (with_reducible exact ih0 _ _ _)
      | (with_reducible exact ih1 _ _ _)
      | (with_reducible exact poly_long.mono _ _ _ _)
      | (with_reducible exact LeO.refl _)
      | (with_reducible exact LeO.none _)
      | (with_reducible refine LeO.ite ?_ ?_)
      | (with_reducible refine LeO.bind ?_ (fun _ => ?_))
theorem poly_Factor.mono : ∀ a0 k, LeO (poly_Factor.f k a0) (poly_Factor.f (k + 1) a0) := by
  intro a0 k
  obtain ⟨ih0, ih1⟩ := poly_Factor.mono_l k
  unfold poly_Factor.f
  repeat' first
      | (with_reducible exact ih0 _ _ _)
      | (with_reducible exact poly_Degree.mono _ _)
      | (with_reducible exact LeO.refl _)
      | (with_reducible refine LeO.ite ?_ ?_)
      | (with_reducible refine LeO.bind ?_ (fun _ => ?_))

/-! #### what the map tells -/
section
variable {H : Type}
structure Tells (D : DataW H) (l : List (Int × Int)) : Prop where
  at_ : ∀ p, D.atKey (.int .u64 p) (.lit (.int .i64 0)) = .lit (.int .i64 (fac_look l p))
  has : ∀ p, Maps.has D (.int .u64 p) = fac_has l p
  size : Maps.size D = l.length
  wf : ∀ x ∈ l, 0 ≤ x.1 ∧ x.1 ≤ 18446744073709551615
theorem Tells.nil : Tells (H := H) (.map []) [] := ⟨fun _ => rfl, fun _ => rfl, rfl, by simp⟩
theorem fac_look_bump_same (l : List (Int × Int)) (p : Int) : fac_look (fac_bump l p) p = wrap64 (fac_look l p + 1) := by
  induction l with
  | nil => simp only [fac_bump, fac_look, if_true]; unfold wrap64; omega
  | cons x r ih => obtain ⟨q, n⟩ := x; by_cases h : q = p <;> simp [fac_bump, fac_look, h, ih]
theorem fac_look_bump_other (l : List (Int × Int)) (p q : Int) (hne : q ≠ p) : fac_look (fac_bump l p) q = fac_look l q := by
  induction l with
  | nil => simp [fac_bump, fac_look, Ne.symm hne]
  | cons x r ih =>
    obtain ⟨z, n⟩ := x
    by_cases h : z = p
    · subst h; simp [fac_bump, fac_look, Ne.symm hne]
    · simp [fac_bump, fac_look, h, ih]
theorem fac_has_bump (l : List (Int × Int)) (p q : Int) : fac_has (fac_bump l p) q = (p == q || fac_has l q) := by
  induction l with
  | nil => simp [fac_bump, fac_has]
  | cons x r ih =>
    obtain ⟨z, n⟩ := x
    by_cases h : z = p
    · subst h; simp [fac_bump, fac_has]
    · simp only [fac_bump, if_neg h, fac_has, List.any_cons] at ih ⊢
      rw [ih]
      cases (z == q) <;> cases (p == q) <;> rfl
theorem fac_bump_length (l : List (Int × Int)) (p : Int) : (fac_bump l p).length = if fac_has l p then l.length else l.length + 1 := by
  induction l with
  | nil => rfl
  | cons x r ih =>
    obtain ⟨z, n⟩ := x
    by_cases h : z = p
    · subst h; simp [fac_bump, fac_has]
    · have hb : (z == p) = false := by simpa using h
      simp only [fac_bump, if_neg h, List.length_cons, ih, fac_has, List.any_cons, hb, Bool.false_or]
      split <;> rename_i h2 <;> simp [h2]
theorem fac_bump_wf (l : List (Int × Int)) (p : Int) (h : ∀ x ∈ l, 0 ≤ x.1 ∧ x.1 ≤ 18446744073709551615) (hp : 0 ≤ p ∧ p ≤ 18446744073709551615) : ∀ x ∈ fac_bump l p, 0 ≤ x.1 ∧ x.1 ≤ 18446744073709551615 := by
  induction l with
  | nil => simp [fac_bump]; exact hp
  | cons x r ih =>
    obtain ⟨z, n⟩ := x
    by_cases e : z = p
    · subst e; simp only [fac_bump, if_true]; intro y hy; rcases List.mem_cons.1 hy with rfl | hy
      · exact hp
      · exact h y (List.mem_cons_of_mem _ hy)
    · simp only [fac_bump, if_neg e]; intro y hy; rcases List.mem_cons.1 hy with rfl | hy
      · exact h _ List.mem_cons_self
      · exact ih (fun y hy => h y (List.mem_cons_of_mem _ hy)) y hy
theorem lit_ne {p q : Int} (h : q ≠ p) : (Lit.int .u64 q) ≠ (Lit.int .u64 p) := by
  intro e; injection e with _ e; exact h e
theorem Tells.put {D : DataW H} {l : List (Int × Int)} (h : Tells D l) (ht : Maps.Tidy D) (p : Int) (hp : 0 ≤ p ∧ p ≤ 18446744073709551615) :
    Tells (D.put (.int .u64 p) (.lit (.int .i64 (wrap64 (fac_look l p + 1))))) (fac_bump l p) where
  at_ q := by
    by_cases e : q = p
    · subst e; rw [Maps.atKey_put_same ht.isMap (k := .int .u64 q) (by simp [WideAt.IsKeyLit]), fac_look_bump_same]
    · rw [Maps.atKey_put_other (lit_ne e), fac_look_bump_other _ _ _ e]; exact h.at_ q
  has q := by
    rw [fac_has_bump]
    by_cases e : q = p
    · subst e; rw [Maps.has_put_same ht.isMap (k := .int .u64 q) (by simp [WideAt.IsKeyLit])]; simp
    · rw [Maps.has_put_other (lit_ne e), h.has q]
      have : (p == q) = false := by simpa using Ne.symm e
      rw [this]; rfl
  size := by
    rw [Maps.size_put ht, h.has p, fac_bump_length, h.size]
  wf := fac_bump_wf l p h.wf hp
end
theorem sort_len (n : Int) (h0 : 0 ≤ n) (h : n ≤ 12) : ∃ r, bits_Len.f 9 n = some r := by
  have : n = 0 ∨ n = 1 ∨ n = 2 ∨ n = 3 ∨ n = 4 ∨ n = 5 ∨ n = 6 ∨ n = 7 ∨ n = 8 ∨ n = 9 ∨ n = 10 ∨ n = 11 ∨ n = 12 := by omega
  rcases this with rfl | rfl | rfl | rfl | rfl | rfl | rfl | rfl | rfl | rfl | rfl | rfl | rfl <;> exact Option.isSome_iff_exists.1 (by decide +kernel)
set_option maxHeartbeats 4000000 in
set_option maxRecDepth 100000 in
theorem sort_pdq (k : Nat) (P0_ : Nat → Prop) (v : Value) (l0 : List (S40)) (hl : l0.length ≤ 12) (lim : Int) (r : List (S40)) (w0 w : World) (hB : Below w0.heap.size w0 w) (ho0 : Kd.R k40 40 w w0.heap.size P0_ v l0) (h : api_Factor_64.f k l0 0 (l0.length : Int) = some r) :
    Calls Try.prog 61 #[v, .int .i64 0, .int .i64 (l0.length : Int), .int .i64 lim, .func (.func 51) #[] #[]] w fun e w' => e = .returned (.tuple #[]) ∧ Kd.R k40 40 w' w0.heap.size (fun k_ => (P0_ k_ ∨ w.heap.size ≤ k_)) v r ∧ Below w0.heap.size w0 w' ∧ Kept w w' (fun k_ => P0_ k_) := by
  have hl' : (l0.length : Int) ≤ 12 := by omega
  clear hl
  have HB := Aside0.mk hB
  have HO := Aside0.mk ho0
  have H := Aside0.mk h
  clear hB ho0 h
  go_enter Try.func61, Try.ntmps61
  go_wp2
  refine wp_loop_rounds 1 ?_
  rw [rounds_succ]
  go_wp2_with (go_at_call 64; refine (api_Factor_64.calls k P0_ v l0 0 (l0.length : Int) r w0 w HB.out HO.out H.out).mono ?_; rintro e w' ⟨rfl, hr⟩; have HR := Aside0.mk hr; clear hr)
  exact bodyPost_ret (results_none rfl _ _ _) rfl ⟨rfl, HR.out⟩
set_option maxHeartbeats 4000000 in
set_option maxRecDepth 100000 in
theorem sort_calls (k : Nat) (P0_ : Nat → Prop) (v : Value) (l0 : List (S40)) (hl : l0.length ≤ 12) (r : List (S40)) (w0 w : World) (hB : Below w0.heap.size w0 w) (ho0 : Kd.R k40 40 w w0.heap.size P0_ v l0) (h : api_Factor_64.f k l0 0 (l0.length : Int) = some r) :
    Calls Try.prog 50 #[v, .func (.func 51) #[] #[]] w fun e w' => e = .returned (.tuple #[]) ∧ Kd.R k40 40 w' w0.heap.size (fun k_ => (P0_ k_ ∨ w.heap.size ≤ k_)) v r ∧ Below w0.heap.size w0 w' ∧ Kept w w' (fun k_ => P0_ k_) := by
  obtain ⟨lim, hlim⟩ := sort_len (l0.length : Int) (by omega) (by omega)
  obtain ⟨A, c, rfl, hc, _⟩ := Kd.R_reads ho0
  have hl' : (l0.length : Int) ≤ 12 := by omega
  have HL := Aside0.mk hl
  clear hl
  have HB := Aside0.mk hB
  have HO := Aside0.mk ho0
  have H := Aside0.mk h
  have HM := Aside0.mk hlim
  clear hB ho0 h hlim
  go_enter Try.func50, Try.ntmps50
  go_wp2_with (first | (go_at_call 62; refine (bits_Len.calls 9 (l0.length : Int) lim w HM.out).mono ?_; rintro e w' ⟨rfl, ⟨nd, rfl⟩⟩) | (go_at_call 61; refine (sort_pdq k P0_ _ l0 HL.out lim r w0 _ (pw_below_drewN HB.out nd) (Kd.R_drewN HO.out nd) H.out).mono ?_; rintro e w' ⟨rfl, hr⟩; have HR := Aside0.mk hr; clear hr))
  go_end0
  exact ⟨rfl, HR.out⟩
/-! #### insertion sort, as the library does it -/
def fac_bub (e : S40) : List S40 → List S40
  | [] => [e]
  | y :: r => if e.f0 < y.f0 then y :: fac_bub e r else e :: y :: r
theorem fac_bub_mem (e : S40) (l : List S40) (x : S40) : x ∈ fac_bub e l ↔ x = e ∨ x ∈ l := by
  induction l with
  | nil => simp [fac_bub]
  | cons y r ih =>
    simp only [fac_bub]
    split
    · simp only [List.mem_cons, ih]
      constructor <;> rintro (h | h | h) <;> simp [h]
    · simp
theorem fac_bub_length (e : S40) (l : List S40) : (fac_bub e l).length = l.length + 1 := by
  induction l with
  | nil => rfl
  | cons y r ih => simp only [fac_bub]; split <;> simp [ih]
def Down (l : List S40) : Prop := l.Pairwise fun x y => y.f0 < x.f0
theorem fac_bub_down (e : S40) (l : List S40) (h : Down l) (hne : ∀ x ∈ l, x.f0 ≠ e.f0) : Down (fac_bub e l) := by
  induction l with
  | nil => simp [fac_bub, Down]
  | cons y r ih =>
    obtain ⟨h1, h2⟩ := List.pairwise_cons.1 h
    have hy := hne y List.mem_cons_self
    simp only [fac_bub]
    split
    · rename_i hlt
      refine List.pairwise_cons.2 ⟨fun x hx => ?_, ih h2 (fun x hx => hne x (List.mem_cons_of_mem _ hx))⟩
      rcases (fac_bub_mem e r x).1 hx with rfl | hx
      · exact hlt
      · exact h1 x hx
    · rename_i hge
      refine List.pairwise_cons.2 ⟨fun x hx => ?_, h⟩
      rcases List.mem_cons.1 hx with rfl | hx
      · omega
      · have := h1 x hx; omega
/-- the list, its first part sorted and turned round, and what is left to put in -/
def fac_run : List S40 → List S40 → List S40
  | r, [] => r
  | r, e :: b => fac_run (fac_bub e r) b
theorem fac_run_mem (b : List S40) : ∀ (r : List S40) (x : S40), x ∈ fac_run r b ↔ x ∈ r ∨ x ∈ b := by
  induction b with
  | nil => intro r x; simp [fac_run]
  | cons e b ih =>
    intro r x
    simp only [fac_run, ih, fac_bub_mem, List.mem_cons]
    constructor
    · rintro ((h | h) | h) <;> simp [h]
    · rintro (h | h | h) <;> simp [h]
theorem fac_run_down (b : List S40) : ∀ (r : List S40), Down r → (∀ x ∈ r, ∀ y ∈ b, x.f0 ≠ y.f0) → b.Pairwise (fun x y => x.f0 ≠ y.f0) → Down (fac_run r b) := by
  induction b with
  | nil => intro r h _ _; exact h
  | cons e b ih =>
    intro r h hne hp
    obtain ⟨h1, h2⟩ := List.pairwise_cons.1 hp
    refine ih _ (fac_bub_down e r h (fun x hx => hne x hx e List.mem_cons_self)) (fun x hx y hy => ?_) h2
    rcases (fac_bub_mem e r x).1 hx with rfl | hx
    · exact h1 y hy
    · exact hne x hx y (List.mem_cons_of_mem _ hy)
theorem rd_append (a : List S40) (e : S40) (b : List S40) (i : Int) (hi : i = (a.length : Int)) : rd_T40 (a ++ e :: b) i = e := by
  subst hi; simp [rd_T40]
theorem rd_append2 (a : List S40) (y e : S40) (b : List S40) (i : Int) (hi : i = (a.length : Int)) : rd_T40 (a ++ y :: e :: b) i = y := by
  subst hi; simp [rd_T40]
theorem set_two (a : List S40) (y e : S40) (b : List S40) (i j : Int) (hj : j = (a.length : Int)) (hi : i = (a.length : Int) + 1) : ((a ++ y :: e :: b).set i.toNat y).set j.toNat e = a ++ e :: y :: b := by
  subst hi hj
  have h1 : ((a.length : Int) + 1).toNat = a.length + 1 := by omega
  rw [h1]
  simp [List.set_append]
theorem ins_l1 (n : Nat) (hn : n ≤ 9223372036854775807) (i : Int) (res : List S40) (e : S40) (b : List S40) : ∀ (r : List S40), r.length + 1 + b.length = n →
    (∃ k, api_Factor_64.l0 k ((fac_bub e r).reverse ++ b) 0 n (wrap64 (i + 1)) = some res) → ∃ k, api_Factor_64.l1 k (r.reverse ++ e :: b) 0 n i r.length = some res := by
  intro r
  induction r generalizing b with
  | nil =>
    rintro _ ⟨k, h⟩
    refine ⟨k + 1, ?_⟩
    simp only [api_Factor_64.l1, List.length_nil]
    rw [if_neg (by omega)]
    simpa [fac_bub] using h
  | cons y r ih =>
    rintro hlen ⟨k, h⟩
    simp only [List.length_cons] at hlen
    have e1 : ((r.length : Nat) : Int) + 1 = ((y :: r).length : Nat) := by simp
    have hw : wrap64 (((y :: r).length : Nat) - 1 : Int) = r.length := by rw [← e1]; unfold wrap64; omega
    have hl : ((y :: r).reverse ++ e :: b).length = n := by simp; omega
    have hrw : (y :: r).reverse ++ e :: b = r.reverse ++ y :: e :: b := by simp
    have hi1 : rd_T40 (r.reverse ++ y :: e :: b) ((y :: r).length : Nat) = e := by
      have : r.reverse ++ y :: e :: b = (r.reverse ++ [y]) ++ e :: b := by simp
      rw [this]; exact rd_append _ _ _ _ (by simp)
    have hi2 : rd_T40 (r.reverse ++ y :: e :: b) (r.length : Nat) = y := rd_append _ _ _ _ (by simp)
    by_cases hlt : e.f0 < y.f0
    · simp only [fac_bub, if_pos hlt, List.reverse_cons, List.append_assoc, List.singleton_append] at h
      obtain ⟨k2, h2⟩ := ih (y :: b) (by simp; omega) ⟨k, h⟩
      refine ⟨k2 + 1, ?_⟩
      simp only [api_Factor_64.l1]
      rw [if_pos (by simp only [List.length_cons]; omega), if_pos (by omega), if_pos (by rw [hl]; simp only [List.length_cons]; omega), hw, if_pos (by omega), if_pos (by rw [hl]; omega), hrw, hi1, hi2]
      simp only [poly_Factor_1.f, if_pos hlt, Option.bind_some]
      rw [if_pos (by omega), set_two _ _ _ _ _ _ (by simp) (by simp)]
      exact h2
    · refine ⟨k + 1, ?_⟩
      simp only [api_Factor_64.l1]
      rw [if_pos (by simp only [List.length_cons]; omega), if_pos (by omega), if_pos (by rw [hl]; simp only [List.length_cons]; omega), hw, if_pos (by omega), if_pos (by rw [hl]; omega), hrw, hi1, hi2]
      simp only [poly_Factor_1.f, if_neg hlt, Option.bind_some]
      rw [if_neg (by omega)]
      simpa [fac_bub, hlt] using h
theorem ins_l0 (n : Nat) (hn : n ≤ 9223372036854775806) : ∀ (b r : List S40), r.length + b.length = n → ∃ k, api_Factor_64.l0 k (r.reverse ++ b) 0 n r.length = some (fac_run r b).reverse := by
  intro b
  induction b with
  | nil =>
    intro r hl
    refine ⟨1, ?_⟩
    simp only [api_Factor_64.l0, List.length_nil] at hl ⊢
    rw [if_neg (by omega)]
    simp [fac_run]
  | cons e b ih =>
    intro r hl
    simp only [List.length_cons] at hl
    obtain ⟨k, h⟩ := ih (fac_bub e r) (by rw [fac_bub_length]; omega)
    have hw : wrap64 ((r.length : Nat) + 1 : Int) = ((fac_bub e r).length : Nat) := by rw [fac_bub_length]; unfold wrap64; omega
    rw [← hw] at h
    obtain ⟨k2, h2⟩ := ins_l1 n (by omega) r.length _ e b r (by omega) ⟨k, h⟩
    refine ⟨k2 + 1, ?_⟩
    simp only [api_Factor_64.l0]
    rw [if_pos (by omega)]
    exact h2
theorem ins_f (c : List S40) (hn : c.length ≤ 9223372036854775806) : ∃ k, api_Factor_64.f k c 0 c.length = some (fac_run [] c).reverse := by
  unfold api_Factor_64.f
  cases c with
  | nil => exact ⟨1, by simp only [api_Factor_64.l0]; rw [if_neg (by unfold wrap64; simp)]; rfl⟩
  | cons x c =>
    obtain ⟨k, h⟩ := ins_l0 (x :: c).length hn c [x] (by simp; omega)
    refine ⟨k, ?_⟩
    have : wrap64 (0 + 1) = (([x] : List S40).length : Nat) := by unfold wrap64; simp
    rw [this]
    exact h
/-! #### what is sorted is one -/
def Up (l : List S40) : Prop := l.Pairwise fun x y => x.f0 < y.f0
theorem up_ext : ∀ (l m : List S40), Up l → Up m → (∀ x, x ∈ l ↔ x ∈ m) → l = m
  | [], [], _, _, _ => rfl
  | [], y :: m, _, _, h => by simpa using (h y).2 List.mem_cons_self
  | x :: l, [], _, _, h => by simpa using (h x).1 List.mem_cons_self
  | x :: l, y :: m, hl, hm, h => by
    obtain ⟨h1, h2⟩ := List.pairwise_cons.1 hl
    obtain ⟨h3, h4⟩ := List.pairwise_cons.1 hm
    have hxy : x = y := by
      rcases List.mem_cons.1 ((h x).1 List.mem_cons_self) with e | hx
      · exact e
      · rcases List.mem_cons.1 ((h y).2 List.mem_cons_self) with e | hy
        · exact e.symm
        · have a := h3 x hx; have b := h1 y hy; omega
    subst hxy
    refine congrArg (x :: ·) (up_ext l m h2 h4 fun z => ?_)
    constructor
    · intro hz
      rcases List.mem_cons.1 ((h z).1 (List.mem_cons_of_mem _ hz)) with rfl | hz'
      · have := h1 z hz; omega
      · exact hz'
    · intro hz
      rcases List.mem_cons.1 ((h z).2 (List.mem_cons_of_mem _ hz)) with rfl | hz'
      · have := h3 z hz; omega
      · exact hz'
theorem fac_ins_mem (e : S40) (l : List S40) (x : S40) : x ∈ fac_ins e l ↔ x = e ∨ x ∈ l := by
  induction l with
  | nil => simp [fac_ins]
  | cons y r ih =>
    simp only [fac_ins]
    split
    · simp
    · simp only [List.mem_cons, ih]
      constructor <;> rintro (h | h | h) <;> simp [h]
theorem fac_ins_up (e : S40) (l : List S40) (h : Up l) (hne : ∀ x ∈ l, x.f0 ≠ e.f0) : Up (fac_ins e l) := by
  induction l with
  | nil => simp [fac_ins, Up]
  | cons y r ih =>
    obtain ⟨h1, h2⟩ := List.pairwise_cons.1 h
    have hy := hne y List.mem_cons_self
    simp only [fac_ins]
    split
    · refine List.pairwise_cons.2 ⟨fun x hx => ?_, h⟩
      rcases List.mem_cons.1 hx with rfl | hx
      · omega
      · have := h1 x hx; omega
    · refine List.pairwise_cons.2 ⟨fun x hx => ?_, ih h2 (fun x hx => hne x (List.mem_cons_of_mem _ hx))⟩
      rcases (fac_ins_mem e r x).1 hx with rfl | hx
      · omega
      · exact h1 x hx
theorem fac_sort_mem (l : List (Int × Int)) (x : S40) : x ∈ fac_sort l ↔ (x.f0, x.f1) ∈ l := by
  induction l with
  | nil => simp [fac_sort]
  | cons y r ih =>
    obtain ⟨a, b⟩ := x
    simp only [fac_sort, List.foldr_cons, fac_ins_mem, List.mem_cons] at ih ⊢
    rw [ih]
    simp [Prod.ext_iff]
theorem fac_sort_up (l : List (Int × Int)) (h : l.Pairwise fun x y => x.1 ≠ y.1) : Up (fac_sort l) := by
  induction l with
  | nil => simp [fac_sort, Up]
  | cons y r ih =>
    obtain ⟨h1, h2⟩ := List.pairwise_cons.1 h
    refine fac_ins_up _ _ (ih h2) fun x hx => ?_
    have := h1 _ ((fac_sort_mem r x).1 hx)
    exact fun e => this e.symm
/-- what the library makes of the entries, in whatever order they came -/
theorem fac_sorted (l : List (Int × Int)) (c : List S40) (hl : l.Pairwise fun x y => x.1 ≠ y.1) (hc : c.Pairwise fun x y => x.f0 ≠ y.f0) (h : ∀ x : S40, x ∈ c ↔ (x.f0, x.f1) ∈ l) (hn : c.length ≤ 12) :
    ∃ k, api_Factor_64.f k c 0 c.length = some (fac_sort l) := by
  obtain ⟨k, hk⟩ := ins_f c (by omega)
  refine ⟨k, ?_⟩
  rw [hk]
  congr 1
  refine up_ext _ _ ?_ (fac_sort_up l hl) fun x => ?_
  · exact List.pairwise_reverse.2 (fac_run_down c [] (by simp [Down]) (by simp) hc)
  · rw [fac_sort_mem, List.mem_reverse, fac_run_mem]
    simp [h]
theorem fac_law : Maps.Keyed Try.prog 22 := Maps.int_keyed Try.underlying22
theorem fac_info40 : (Try.prog.info? 40).map (fun i => (i.zero, i.size, i.bytes)) = some (some (.agg #[(.int .u64 0), (.int .i64 0)]), 2, 16) := by kernel_rfl
theorem fac_zero (w : World) : (zeroValue 3).run Try.prog w = .ok (.int .i64 0) w := by kernel_rfl
theorem tidy_owns {H : Type} {w : World} {b n : Nat} {D : DataW H} (h : w.ownsMap Try.prog 22 (plainElem Try.prog 3) b n D) : Maps.Tidy D := by
  obtain ⟨es, clock, hb, F, hs, rfl⟩ := h
  exact ⟨_, rfl, Maps.apart_of_rising (by
    have := Maps.sorted_sorted fac_law.one _ (Maps.fit_keys F) (Maps.fit_apart fac_law F)
    exact this)⟩
theorem tight_owns {H : Type} {w : World} {b n m : Nat} {D : DataW H} (h : w.ownsMap Try.prog 22 (plainElem Try.prog 3) b n D) (hm : Maps.size D ≤ m) : w.ownsMap Try.prog 22 (plainElem Try.prog 3) b m D := by
  obtain ⟨es, clock, hb, F, hs, rfl⟩ := h
  refine ⟨es, clock, hb, F, ?_, rfl⟩
  rw [Maps.size_eq, length_sorted] at hm
  simpa using hm
theorem drawn_owns {H : Type} {w w' : World} {b n : Nat} {D : DataW H} (hd : Drawn0 w w') (h : w.ownsMap Try.prog 22 (plainElem Try.prog 3) b n D) : w'.ownsMap Try.prog 22 (plainElem Try.prog 3) b n D := by
  obtain ⟨k, rfl⟩ := hd.out
  exact h
theorem fac_wf {p : Int} (h : 0 ≤ p ∧ p ≤ 18446744073709551615) : (Lit.int .u64 p).wf = true := WalkArith.wf_u64 ⟨h.1, h.2⟩

/-- the entries met so far, behind a range over the map -/
structure Met (D : DataW Unit) (left : Lit → Bool) (cnt : Nat) (c : List S40) : Prop where
  nodup : c.Pairwise fun x y => x.f0 ≠ y.f0
  told : ∀ x ∈ c, left (.int .u64 x.f0) = false ∧ ∀ z, D.atKey (.int .u64 x.f0) z = .lit (.int .i64 x.f1)
  all : ∀ p, Maps.has D (.int .u64 p) = true → left (.int .u64 p) = false → ∃ x ∈ c, x.f0 = p
  num : c.length + cnt ≤ Maps.size D
theorem Met.start (D : DataW Unit) : Met D (Maps.has D) (Maps.size D) [] := ⟨.nil, by simp, fun p h h2 => by rw [h] at h2; simp at h2, by simp⟩
theorem same_u64 (p q : Int) : (Lit.int .u64 p).sameKey (.int .u64 q) = (p == q) := by simp [Lit.sameKey]; rfl
theorem Met.step {D : DataW Unit} {left : Lit → Bool} {cnt cnt1 : Nat} {c : List S40} (h : Met D left cnt c) {x n : Int} (hl : left (.int .u64 x) = true) (hat : ∀ z, D.atKey (.int .u64 x) z = .lit (.int .i64 n)) (hc : cnt1 < cnt) :
    Met D (fun z => left z && !z.sameKey (.int .u64 x)) cnt1 (c ++ [⟨x, n⟩]) where
  nodup := by
    refine List.pairwise_append.2 ⟨h.nodup, List.pairwise_singleton _ _, fun a ha b hb => ?_⟩
    rw [List.mem_singleton.1 hb]
    intro e
    have := (h.told a ha).1
    have e' : a.f0 = x := e
    rw [e', hl] at this
    cases this
  told y hy := by
    rcases List.mem_append.1 hy with hy | hy
    · exact ⟨by rw [(h.told y hy).1]; rfl, (h.told y hy).2⟩
    · rw [List.mem_singleton.1 hy]
      exact ⟨by simp [same_u64], hat⟩
  all p hp hleft := by
    by_cases e : p = x
    · exact ⟨⟨x, n⟩, by simp, e.symm⟩
    · have : (p == x) = false := by simpa using e
      rw [same_u64, this] at hleft
      obtain ⟨y, hy, e2⟩ := h.all p hp (by simpa using hleft)
      exact ⟨y, by simp [hy], e2⟩
  num := by have := h.num; simp; omega
theorem fac_has_mem (l : List (Int × Int)) (p : Int) : fac_has l p = true ↔ ∃ n, (p, n) ∈ l := by
  simp only [fac_has, List.any_eq_true, beq_iff_eq]
  constructor
  · rintro ⟨⟨a, b⟩, h, rfl⟩; exact ⟨b, h⟩
  · rintro ⟨n, h⟩; exact ⟨_, h, rfl⟩
theorem fac_look_mem (l : List (Int × Int)) (hl : l.Pairwise fun x y => x.1 ≠ y.1) (p n : Int) (h : (p, n) ∈ l) : fac_look l p = n := by
  induction l with
  | nil => simp at h
  | cons y r ih =>
    obtain ⟨a, b⟩ := y
    obtain ⟨h1, h2⟩ := List.pairwise_cons.1 hl
    rcases List.mem_cons.1 h with e | h
    · cases e; simp [fac_look]
    · have : a ≠ p := h1 _ h
      simp [fac_look, this, ih h2 h]
theorem Met.done {D : DataW Unit} {left : Lit → Bool} {c : List S40} {l : List (Int × Int)} (h : Met D left 0 c) (hT : Tells D l) (hl : l.Pairwise fun x y => x.1 ≠ y.1) (h0 : ∀ kl, left kl = false) (hn : l.length ≤ 12) :
    c.length ≤ 12 ∧ ∃ k, api_Factor_64.f k c 0 c.length = some (fac_sort l) := by
  have hc : c.length ≤ 12 := by have := h.num; have := hT.size; omega
  refine ⟨hc, fac_sorted l c hl h.nodup (fun x => ?_) hc⟩
  constructor
  · intro hx
    obtain ⟨h1, h2⟩ := h.told x hx
    have hh : Maps.has D (.int .u64 x.f0) = true := Maps.has_true_of_atKey h2
    rw [hT.has] at hh
    obtain ⟨n, hn⟩ := (fac_has_mem _ _).1 hh
    have e1 := h2 (.lit (.int .i64 0))
    rw [hT.at_, fac_look_mem l hl _ _ hn] at e1
    have : n = x.f1 := by simpa using e1
    rw [← this]; exact hn
  · intro hx
    have hh : Maps.has D (.int .u64 x.f0) = true := by rw [hT.has]; exact (fac_has_mem _ _).2 ⟨_, hx⟩
    obtain ⟨y, hy, e⟩ := h.all _ hh (h0 _)
    have e1 := (h.told y hy).2 (.lit (.int .i64 0))
    rw [e, hT.at_, fac_look_mem l hl _ _ hx] at e1
    have e2 : x.f1 = y.f1 := by simpa using e1
    have : x = y := by cases x; cases y; simp_all
    rw [this]; exact hy
theorem fac_bump_nodup (l : List (Int × Int)) (p : Int) (h : l.Pairwise fun x y => x.1 ≠ y.1) : (fac_bump l p).Pairwise fun x y => x.1 ≠ y.1 := by
  have key : ∀ (l : List (Int × Int)) (a : Int), (∀ y ∈ l, a ≠ y.1) → a ≠ p → ∀ y ∈ fac_bump l p, a ≠ y.1 := by
    intro l a ha hp y hy
    have := (fac_has_mem (fac_bump l p) y.1).2 ⟨y.2, hy⟩
    rw [fac_has_bump] at this
    simp only [Bool.or_eq_true, beq_iff_eq] at this
    rcases this with e | hh
    · rw [← e]; exact hp
    · obtain ⟨n, hn⟩ := (fac_has_mem _ _).1 hh
      exact ha (y.1, n) hn
  induction l with
  | nil => simp [fac_bump]
  | cons x r ih =>
    obtain ⟨a, b⟩ := x
    obtain ⟨h1, h2⟩ := List.pairwise_cons.1 h
    by_cases e : a = p
    · subst e; simp only [fac_bump, if_true]; exact List.pairwise_cons.2 ⟨h1, h2⟩
    · simp only [fac_bump, if_neg e]
      exact List.pairwise_cons.2 ⟨key r a h1 e, ih h2⟩
theorem ne_owns {H : Type} {w : World} {b n : Nat} {D : DataW H} (h : w.ownsMap Try.prog 22 (plainElem Try.prog 3) b n D) {base : Nat} {ok : Nat → Prop} {v : Value} {xs : List S40} (hv : Kd.R k40 40 w base ok v xs) : some b ≠ v.ownBlock := by
  obtain ⟨es, clock, hb, _⟩ := h
  obtain ⟨inner, ho⟩ := Kd.R_own hv
  intro e
  obtain ⟨cells, hc⟩ := own_typed ho b e.symm
  rw [hb] at hc
  cases hc
theorem ne_iter {w : World} {b r n cnt : Nat} {D : DataW Unit} {left : Lit → Bool} (h : w.ranges Try.prog 22 (plainElem Try.prog 3) b r n D left cnt) {base : Nat} {ok : Nat → Prop} {v : Value} {xs : List S40} (hv : Kd.R k40 40 w base ok v xs) : some r ≠ v.ownBlock := by
  obtain ⟨es, clock, since, seen, c0, _, _, _, _, hr, _⟩ := h
  obtain ⟨inner, ho⟩ := Kd.R_own hv
  intro e
  obtain ⟨cells, hc⟩ := own_typed ho r e.symm
  rw [hr] at hc
  cases hc
theorem R_grown_iter {w w1 : World} {b r n cnt : Nat} {D : DataW Unit} {left : Lit → Bool} (h : w.ranges Try.prog 22 (plainElem Try.prog 3) b r n D left cnt) {base : Nat} {v : Value} {xs : List S40} (hv : Kd.R k40 40 w base (fun _ => True) v xs) (hg : w.grownBy w1 (some r)) : Kd.R k40 40 w1 base (fun _ => True) v xs := by
  have hv2 := Kd.R_bound hv
  refine Kd.R_mono (Kd.R_grown hv2 hg ?_) (fun _ _ => trivial)
  rintro k ⟨_, _, _, q, _, cells, hc⟩ e
  obtain ⟨es, clock, since, seen, c0, _, _, _, _, hr, _⟩ := h
  cases e
  rw [hr] at hc
  cases hc
theorem fac_fin_some {l : List (Int × Int)} {r1 : List S40} {r2 : Int} (h : fac_fin l = some (r1, r2)) : l.length ≤ 12 ∧ fac_sort l = r1 ∧ 0 = r2 := by
  unfold fac_fin at h
  split at h
  · rename_i hl
    simp only [Option.some.injEq, Prod.mk.injEq] at h
    exact ⟨hl, h⟩
  · cases h
/-- the map of the call's own, as the walk holds it -/
def Facs (wr : World) (B : Nat) (l : List (Int × Int)) : Prop := ∃ D : DataW Unit, (Tells D l ∧ l.Pairwise fun x y => x.1 ≠ y.1) ∧ wr.ownsMap Try.prog 22 (plainElem Try.prog 3) B l.length D
theorem Facs.drawn {w w' : World} {B : Nat} {l : List (Int × Int)} (h : Facs w B l) (hd : Drawn0 w w') : Facs w' B l := by
  obtain ⟨D, t, o⟩ := h
  exact ⟨D, t, drawn_owns hd o⟩
theorem lt_maxLen {n : Nat} (h : n ≤ 12) : n < maxLen := by unfold maxLen; omega
theorem wf_wrap64 (x : Int) : (Lit.int .i64 (wrap64 x)).wf = true := WalkArith.wf_i64 (by unfold wrap64; omega)
theorem below_drawn {B : Nat} {w w1 w2 : World} (h : Below B w w1) (hd : Drawn0 w1 w2) : Below B w w2 := by
  obtain ⟨k, rfl⟩ := hd.out
  exact pw_below_drewN h k
set_option maxHeartbeats 1000000 in
set_option maxRecDepth 100000 in
theorem poly_Factor.calls (k : Nat) (a0 : Int) (r1 : List (S40)) (r2 : Int) (w : World) (h : poly_Factor.f k a0 = some (r1, r2)) :
    Calls Try.prog 25 #[.int .u64 a0] w fun e w' => ∃ v0_ : Value, e = .returned (.tuple #[v0_, .int .i64 r2]) ∧ Kd.R k40 40 w' w.heap.size (fun _ => True) v0_ r1 ∧ Below w.heap.size w w' := by
  have hu40 := Try.underlying40
  have HB := Aside0.mk (Below.refl w.heap.size w)
  unfold poly_Factor.f at h
  have H := h
  clear h
  by_cases c2 : a0 = 0
  · rw [if_pos c2] at H
    have c2b0 : (a0 == 0) = true := beq_iff_eq.mpr c2
    clear c2
    simp only [Option.some.injEq, Prod.mk.injEq] at H
    obtain ⟨rfl, rfl⟩ := H
    go_enter Try.func25, Try.ntmps25
    go_wp2
    go_ret2
    exact ⟨_, rfl, Kd.R_nil _ _ _ _ _, HB.out⟩
  · rw [if_neg c2] at H
    have c2b0 : (a0 == 0) = false := beq_eq_false_iff_ne.mpr c2
    clear c2
    obtain ⟨t, A30, H⟩ := Option.bind_eq_some_iff.mp H
    have A3 := Aside0.mk A30
    clear A30
    by_cases c4 : t > 32
    · rw [if_pos c4] at H
      have c4b0 : decide (32 < t) = true := decide_eq_true c4
      clear c4
      simp only [Option.some.injEq, Prod.mk.injEq] at H
      obtain ⟨rfl, rfl⟩ := H
      go_enter Try.func25, Try.ntmps25
      go_wp2_with (go_at_call 18; (with_reducible refine (poly_Degree.calls k a0 t _ A3.out).mono ?_); rintro e w' ⟨rfl, ⟨nd, rfl⟩⟩)
      go_ret2
      exact ⟨_, rfl, Kd.R_nil _ _ _ _ _, by repeat (first | exact HB.out | apply below_alloc | apply pw_below_drewN | apply below_drew1)⟩
    · rw [if_neg c4] at H
      have c4b0 : decide (32 < t) = false := decide_eq_false c4
      clear c4
      have H' := Aside0.mk H
      clear H
      have hmm := @run_makeMap Try.prog
      go_enter Try.func25, Try.ntmps25
      go_wp2_with (go_at_call 18; (with_reducible refine (poly_Degree.calls k a0 t _ A3.out).mono ?_); rintro e w' ⟨rfl, ⟨nd, rfl⟩⟩)
      clear hmm
      go_loopg [0, 5] k (fun kq v0 v5 w' => ∃ (x0 : Int) (l : List (Int × Int)) (x5 : Int), v0 = .int .u64 x0 ∧ v5 = .int .u64 x5 ∧ Aside0 (poly_Factor.l0 kq x0 l x5 = some (r1, r2)) ∧ Aside0 (kq ≤ k) ∧ Aside0 (Facs w' w.heap.size l) ∧ Aside0 (Below w.heap.size w w'))
      case atStart =>
        refine ⟨a0, [], 2, rfl, rfl, H', ⟨Nat.le_refl _⟩, ⟨.map [], ⟨Tells.nil, .nil⟩, ?_⟩, ⟨?_⟩⟩
        · exact World.ownsMap_made (w.drewN nd) Try.prog 22 _
        · exact below_alloc (pw_below_drewN HB.out nd) _
      case round =>
        clear H' c4b0 c2b0 HB A3
        obtain ⟨x0, l, x5, rfl, rfl, HA, HK1, HF, HB⟩ := hrel
        cases gk with
        | zero => exact absurd HA.out (by simp [poly_Factor.l0])
        | succ k1 =>
          have H := HA.out
          clear HA
          simp only [poly_Factor.l0] at H
          obtain ⟨t1, A40, H⟩ := Option.bind_eq_some_iff.mp H
          obtain ⟨t2, A50, H⟩ := Option.bind_eq_some_iff.mp H
          have A4 := Aside0.mk A40
          have A5 := Aside0.mk A50
          clear A40 A50
          by_cases c6 : wrap64 (2 * t1) ≤ t2
          · rw [if_pos c6] at H
            have c6b0 : decide (wrap64 (2 * t1) ≤ t2) = true := decide_eq_true c6
            clear c6
            have H' := Aside0.mk H
            clear H
            go_wp2_with fail
            refine (poly_Degree.calls k1 x5 t1 _ A4.out).mono ?_
            rintro e w' ⟨rfl, ⟨nd1, rfl⟩⟩
            go_wp2_with fail
            refine (poly_Degree.calls k1 x0 t2 _ A5.out).mono ?_
            rintro e w' ⟨rfl, ⟨nd2, rfl⟩⟩
            go_wp2_with fail
            go_loopg [0] k1 (fun kq v0 w' => ∃ (x0 : Int) (l : List (Int × Int)), v0 = .int .u64 x0 ∧ Aside0 (poly_Factor.l1 kq x0 l x5 = some (r1, r2)) ∧ Aside0 (kq ≤ k1) ∧ Aside0 (Facs w' w.heap.size l) ∧ Aside0 (Below w.heap.size w w'))
            case atStart =>
              exact ⟨x0, l, rfl, H', ⟨Nat.le_refl _⟩, ⟨HF.out.drawn ⟨⟨_, rfl⟩⟩⟩, ⟨pw_below_drewN HB.out _⟩⟩
            case round =>
              clear H' c6b0 HB A4 A5 HF
              obtain ⟨x0, l, rfl, HA, HK2, HF, HB⟩ := hrel
              cases gk with
              | zero => exact absurd HA.out (by simp [poly_Factor.l1])
              | succ k2 =>
                have H := HA.out
                clear HA
                simp only [poly_Factor.l1] at H
                obtain ⟨⟨q, r⟩, A60, H⟩ := Option.bind_eq_some_iff.mp H
                have A6 := Aside0.mk A60
                clear A60
                simp only [] at H
                by_cases c7 : r = 0
                · rw [if_pos c7] at H
                  subst c7
                  by_cases c8 : 0 ≤ x5 ∧ x5 ≤ 18446744073709551615 ∧ l.length ≤ 12
                  · rw [if_pos c8] at H
                    have H' := Aside0.mk H
                    have C8 := Aside0.mk c8
                    clear H c8
                    go_wp2_with fail
                    refine (poly_long.calls k2 0 x0 x5 q 0 _ A6.out).mono ?_
                    rintro e w' ⟨rfl, hd⟩
                    obtain ⟨D, ⟨hT, hN⟩, hO⟩ := HF.out.drawn hd
                    have HN := Aside0.mk (fac_bump_nodup l x5 hN)
                    clear hN
                    have HB1 := Aside0.mk (below_drawn HB.out hd)
                    clear hd HF HB
                    have hT' := hT.put (tidy_owns hO) x5 ⟨C8.out.1, C8.out.2.1⟩
                    have hL := hT.at_ x5
                    have HL := Aside0.mk hL
                    have HT := Aside0.mk hT'
                    have HO := Aside0.mk hO
                    have KEY := Aside0.mk (Maps.keyOf_int_mk (P := Try.prog) Try.underlying22 (fac_wf ⟨C8.out.1, C8.out.2.1⟩))
                    clear hT hL hT' hO
                    go_wp2_with (first | (at_lookup; refine wpList_lookup_own_int _ rfl _ _ 75 rfl 22 3 .i64 fac_law Try.underlying75 Try.underlying3 (fac_zero _) w.heap.size l.length D rfl HO.out _ (.int .u64 x5) rfl KEY.out ?_; intro c hat hwc; obtain rfl : fac_look l x5 = c := (by have := HL.out.symm.trans hat; simpa using this); clear hat hwc) | (at_mapUpdate; refine wpList_mapUpdate_own _ rfl _ _ _ 75 rfl 22 3 fac_law Try.underlying75 (plainElem Try.prog 3) w.heap.size l.length D rfl HO.out (lt_maxLen C8.out.2.2) (.int .u64 x5) (.int .i64 (wrap64 (fac_look l x5 + 1))) (.int .u64 x5) rfl rfl KEY.out (.lit (.int .i64 (wrap64 (fac_look l x5 + 1)))) [] (plainElem_int Try.underlying3 (wf_wrap64 _)) ?_; intro w1 hown1 hgrow1; have HO1 := Aside0.mk hown1; have HG1 := Aside0.mk hgrow1; clear hown1 hgrow1))
                    go_roundg k2
                    case measure => have := HK1.out; have := HK2.out; omega
                    case rel => exact ⟨q, _, rfl, H', ⟨by have := HK1.out; have := HK2.out; omega⟩, ⟨_, ⟨HT.out, HN.out⟩, tight_owns HO1.out (Nat.le_of_eq HT.out.size)⟩, ⟨HB1.out.grown HG1.out HB1.out.size (by rintro _ ⟨⟩; exact Nat.le_refl _)⟩⟩
                  · rw [if_neg c8] at H
                    exact absurd H (by simp)
                · rw [if_neg c7] at H
                  have c7b : (r != 0) = true := bne_iff_ne.mpr c7
                  clear c7
                  have H' := Aside0.mk H
                  clear H
                  go_wp2_with fail
                  refine (poly_long.calls k2 0 x0 x5 q r _ A6.out).mono ?_
                  rintro e w' ⟨rfl, hd⟩
                  have HF1 := Aside0.mk (HF.out.drawn hd)
                  have HB1 := Aside0.mk (below_drawn HB.out hd)
                  clear hd HF HB
                  go_wp2_with fail
                  go_roundg k2
                  case measure => have := HK1.out; have := HK2.out; omega
                  case rel => exact ⟨x0, l, _, rfl, rfl, H', ⟨by have := HK1.out; have := HK2.out; omega⟩, HF1, HB1⟩
          · rw [if_neg c6] at H
            have c6b0 : decide (wrap64 (2 * t1) ≤ t2) = false := decide_eq_false c6
            clear c6
            by_cases c9 : x0 = 1
            · rw [if_pos c9] at H
              have c9b : (x0 != 1) = false := bne_eq_false_iff_eq.mpr c9
              clear c9
              have FIN := Aside0.mk (fac_fin_some H)
              clear H
              go_wp2_with fail
              refine (poly_Degree.calls k1 x5 t1 _ A4.out).mono ?_
              rintro e w' ⟨rfl, ⟨nd1, rfl⟩⟩
              go_wp2_with fail
              refine (poly_Degree.calls k1 x0 t2 _ A5.out).mono ?_
              rintro e w' ⟨rfl, ⟨nd2, rfl⟩⟩
              obtain ⟨D, ⟨hT, hN⟩, hO⟩ := HF.out
              have HT := Aside0.mk hT
              have HN := Aside0.mk hN
              have HO := Aside0.mk (drawn_owns ⟨⟨nd1 + nd2, rfl⟩⟩ hO)
              have HB1 := Aside0.mk (pw_below_drewN HB.out (nd1 + nd2))
              clear hT hN hO HF HB A4 A5
              go_wp2_with (first | (at_range; refine wpList_range_own _ rfl _ 75 rfl 22 3 fac_law Try.underlying75 (plainElem Try.prog 3) w.heap.size (l).length D rfl HO.out ?_; intro w0 hrg0 hg0 hs0; have HRG := Aside0.mk hrg0; have HG0 := Aside0.mk hg0; clear hrg0 hg0 hs0))
              try go_frame
              have HBr := Aside0.mk (show w.heap.size ≤ (wr.drewN (nd1 + nd2)).heap.size from HB1.out.size)
              have HB2 := Aside0.mk (HB1.out.grown HG0.out HB1.out.size (by rintro _ ⟨⟩))
              clear HO HB1 HG0
              generalize hrr : (wr.drewN (nd1 + nd2)).heap.size = rr at *
              clear hrr
              go_loopw [8] (fun v8 wr => ∃ (left : Lit → Bool) (cnt : Nat) (c : List S40), Aside0 (wr.ranges Try.prog 22 (plainElem Try.prog 3) w.heap.size rr (l).length D left cnt) ∧ Aside0 (Met D left cnt c) ∧ Aside0 (Kd.R k40 40 wr w.heap.size (fun _ => True) v8 c) ∧ Aside0 (Below w.heap.size w wr)) (fun _ wr => wr.rangeLeft w.heap.size rr)
              case atStart => exact ⟨_, _, [], ⟨HRG.out⟩, ⟨HT.out.size ▸ Met.start D⟩, ⟨Kd.R_nil _ _ _ _ _⟩, HB2⟩
              case round =>
                clear HRG HB2
                obtain ⟨left, cnt, c, HRG, HM, HC, HB2⟩ := hrel
                go_wp2_with (first | (at_next; refine wpList_next_ranges_ii _ rfl (.tmp 45) rfl 22 3 .u64 .i64 fac_law Try.underlying22 Try.underlying3 w.heap.size rr (l).length D left cnt rfl HRG.out ?_ ?_))
                · intro h0 hl0
                  subst h0
                  have hd := HM.out.done HT.out HN.out hl0 FIN.out.1
                  obtain ⟨hc12, ks, hks⟩ := hd
                  have HC12 := Aside0.mk hc12
                  have HKS := Aside0.mk hks
                  clear hl0 hc12 hks HM
                  go_wp2_with fail
                  (with_reducible refine (sort_calls ks (fun _ => True) u8 c HC12.out _ w wr HB2.out HC.out HKS.out).mono ?_)
                  rintro e w2 ⟨rfl, hr⟩
                  have HR := Aside0.mk hr
                  clear hr
                  go_wp2
                  go_ret2
                  obtain ⟨rfl, rfl⟩ := FIN.out.2
                  exact ⟨u8, rfl, Kd.R_mono HR.out.1 (fun _ _ => trivial), HR.out.2.1⟩
                · intro x cc w1 cnt1 hwx hwc hlx hat hrg1 hlt hg1 hs1 hen
                  have HM1 := Aside0.mk (HM.out.step hlx hat hlt)
                  have HC1 := Aside0.mk (R_grown_iter HRG.out HC.out hg1)
                  have HB3 := Aside0.mk (HB2.out.grown hg1 HB2.out.size (by rintro _ ⟨⟩; exact HBr.out))
                  have HRG1 := Aside0.mk hrg1
                  have HLT := Aside0.mk (show cnt1 < cnt from hlt)
                  have HLE := Aside0.mk (show (c.length + 1) * 16 ≤ 140737488355328 by have := HM1.out.num; have := HT.out.size; have := FIN.out.1; simp at *; omega)
                  clear hwx hwc hlx hat hrg1 hlt hg1 hs1 HM HC HB2
                  go_wp2_with (first | (at_builtin; refine Kd.R_append k40 w.heap.size rfl (.tmp 51) (.tmp 55) 36 40 _ 16 rfl Try.underlying36 fac_info40 rfl (by decide) (by decide) u8 c ⟨x, cc⟩ [.int .u64 x, .int .i64 cc] (fun _ => True) (fun _ => False) rfl rfl (k40_mkM _ _ _ (⟨x, cc⟩ : S40)) (fun _ h => h.elim) (fun _ _ => trivial) HC1.out HB3.out HB3.out.size HLE.out ?_; intro v1 w2 ho1 hb1 hg1 hat1; have HC2 := Aside0.mk ho1; have HB4 := Aside0.mk hb1; have HG := Aside0.mk hg1; clear ho1 hb1 hg1 hat1))
                  try go_frame
                  go_roundw
                  case rel => exact ⟨_, _, _, ⟨HRG1.out.kept HG.out (ne_owns HRG1.out.owns HC1.out) (ne_iter HRG1.out HC1.out)⟩, HM1, HC2, HB4⟩
                  case measure => rw [(HRG1.out.kept HG.out (ne_owns HRG1.out.owns HC1.out) (ne_iter HRG1.out HC1.out)).left_eq, HRG.out.left_eq]; exact HLT.out
            · rw [if_neg c9] at H
              have c9b : (x0 != 1) = true := bne_iff_ne.mpr c9
              clear c9
              by_cases c10 : 0 ≤ x0 ∧ x0 ≤ 18446744073709551615 ∧ l.length ≤ 12
              · rw [if_pos c10] at H
                have FIN := Aside0.mk (fac_fin_some H)
                have C8 := Aside0.mk c10
                clear H c10
                go_wp2_with fail
                refine (poly_Degree.calls k1 x5 t1 _ A4.out).mono ?_
                rintro e w' ⟨rfl, ⟨nd1, rfl⟩⟩
                go_wp2_with fail
                refine (poly_Degree.calls k1 x0 t2 _ A5.out).mono ?_
                rintro e w' ⟨rfl, ⟨nd2, rfl⟩⟩
                obtain ⟨D, ⟨hT, hN⟩, hO0⟩ := HF.out
                have hO := drawn_owns (w' := wr.drewN (nd1 + nd2)) ⟨⟨nd1 + nd2, rfl⟩⟩ hO0
                have HB0 := Aside0.mk (pw_below_drewN HB.out (nd1 + nd2))
                have HN := Aside0.mk (fac_bump_nodup l x0 hN)
                have hT' := hT.put (tidy_owns hO) x0 ⟨C8.out.1, C8.out.2.1⟩
                have hL := hT.at_ x0
                have HL := Aside0.mk hL
                have HT := Aside0.mk hT'
                have HO0 := Aside0.mk hO
                have KEY := Aside0.mk (Maps.keyOf_int_mk (P := Try.prog) Try.underlying22 (fac_wf ⟨C8.out.1, C8.out.2.1⟩))
                clear hT hL hT' hO hO0 hN HF HB A4 A5
                go_wp2_with (first | (at_lookup; refine wpList_lookup_own_int _ rfl _ _ 75 rfl 22 3 .i64 fac_law Try.underlying75 Try.underlying3 (fac_zero _) w.heap.size l.length D rfl HO0.out _ (.int .u64 x0) rfl KEY.out ?_; intro c hat hwc; obtain rfl : fac_look l x0 = c := (by have := HL.out.symm.trans hat; simpa using this); clear hat hwc) | (at_mapUpdate; refine wpList_mapUpdate_own _ rfl _ _ _ 75 rfl 22 3 fac_law Try.underlying75 (plainElem Try.prog 3) w.heap.size l.length D rfl HO0.out (lt_maxLen C8.out.2.2) (.int .u64 x0) (.int .i64 (wrap64 (fac_look l x0 + 1))) (.int .u64 x0) rfl rfl KEY.out (.lit (.int .i64 (wrap64 (fac_look l x0 + 1)))) [] (plainElem_int Try.underlying3 (wf_wrap64 _)) ?_; intro w3 hown1 hgrow1; have HO1 := Aside0.mk hown1; have HB1 := Aside0.mk (HB0.out.grown hgrow1 HB0.out.size (by rintro _ ⟨⟩; exact Nat.le_refl _)); clear hown1 hgrow1) | (at_range; refine wpList_range_own _ rfl _ 75 rfl 22 3 fac_law Try.underlying75 (plainElem Try.prog 3) w.heap.size (fac_bump l x0).length (D.put (.int .u64 x0) (.lit (.int .i64 (wrap64 (fac_look l x0 + 1))))) rfl (tight_owns HO1.out (Nat.le_of_eq HT.out.size)) ?_; intro w0 hrg0 hg0 hs0; have HRG := Aside0.mk hrg0; have HG0 := Aside0.mk hg0; clear hrg0 hg0 hs0))
                try go_frame
                clear HO1 HB0 HO0 HL KEY
                generalize D.put (.int .u64 x0) (.lit (.int .i64 (wrap64 (fac_look l x0 + 1)))) = DD at *
                have HBr := Aside0.mk (show w.heap.size ≤ w3.heap.size from HB1.out.size)
                have HB2 := Aside0.mk (HB1.out.grown HG0.out HB1.out.size (by rintro _ ⟨⟩))
                clear HB1 HG0
                generalize hrr : w3.heap.size = rr at *
                clear hrr
                go_loopw [8] (fun v8 wr => ∃ (left : Lit → Bool) (cnt : Nat) (c : List S40), Aside0 (wr.ranges Try.prog 22 (plainElem Try.prog 3) w.heap.size rr (fac_bump l x0).length DD left cnt) ∧ Aside0 (Met DD left cnt c) ∧ Aside0 (Kd.R k40 40 wr w.heap.size (fun _ => True) v8 c) ∧ Aside0 (Below w.heap.size w wr)) (fun _ wr => wr.rangeLeft w.heap.size rr)
                case atStart => exact ⟨_, _, [], ⟨HRG.out⟩, ⟨HT.out.size ▸ Met.start DD⟩, ⟨Kd.R_nil _ _ _ _ _⟩, HB2⟩
                case round =>
                  clear HRG HB2
                  obtain ⟨left, cnt, c, HRG, HM, HC, HB2⟩ := hrel
                  go_wp2_with (first | (at_next; refine wpList_next_ranges_ii _ rfl (.tmp 45) rfl 22 3 .u64 .i64 fac_law Try.underlying22 Try.underlying3 w.heap.size rr (fac_bump l x0).length DD left cnt rfl HRG.out ?_ ?_))
                  · intro h0 hl0
                    subst h0
                    have hd := HM.out.done HT.out HN.out hl0 FIN.out.1
                    obtain ⟨hc12, ks, hks⟩ := hd
                    have HC12 := Aside0.mk hc12
                    have HKS := Aside0.mk hks
                    clear hl0 hc12 hks HM
                    go_wp2_with fail
                    (with_reducible refine (sort_calls ks (fun _ => True) u8 c HC12.out _ w wr HB2.out HC.out HKS.out).mono ?_)
                    rintro e w2 ⟨rfl, hr⟩
                    have HR := Aside0.mk hr
                    clear hr
                    go_wp2
                    go_ret2
                    obtain ⟨rfl, rfl⟩ := FIN.out.2
                    exact ⟨u8, rfl, Kd.R_mono HR.out.1 (fun _ _ => trivial), HR.out.2.1⟩
                  · intro x cc w1 cnt1 hwx hwc hlx hat hrg1 hlt hg1 hs1 hen
                    have HM1 := Aside0.mk (HM.out.step hlx hat hlt)
                    have HC1 := Aside0.mk (R_grown_iter HRG.out HC.out hg1)
                    have HB3 := Aside0.mk (HB2.out.grown hg1 HB2.out.size (by rintro _ ⟨⟩; exact HBr.out))
                    have HRG1 := Aside0.mk hrg1
                    have HLT := Aside0.mk (show cnt1 < cnt from hlt)
                    have HLE := Aside0.mk (show (c.length + 1) * 16 ≤ 140737488355328 by have := HM1.out.num; have := HT.out.size; have := FIN.out.1; simp at *; omega)
                    clear hwx hwc hlx hat hrg1 hlt hg1 hs1 HM HC HB2
                    go_wp2_with (first | (at_builtin; refine Kd.R_append k40 w.heap.size rfl (.tmp 51) (.tmp 55) 36 40 _ 16 rfl Try.underlying36 fac_info40 rfl (by decide) (by decide) u8 c ⟨x, cc⟩ [.int .u64 x, .int .i64 cc] (fun _ => True) (fun _ => False) rfl rfl (k40_mkM _ _ _ (⟨x, cc⟩ : S40)) (fun _ h => h.elim) (fun _ _ => trivial) HC1.out HB3.out HB3.out.size HLE.out ?_; intro v1 w2 ho1 hb1 hg1 hat1; have HC2 := Aside0.mk ho1; have HB4 := Aside0.mk hb1; have HG := Aside0.mk hg1; clear ho1 hb1 hg1 hat1))
                    try go_frame
                    go_roundw
                    case rel => exact ⟨_, _, _, ⟨HRG1.out.kept HG.out (ne_owns HRG1.out.owns HC1.out) (ne_iter HRG1.out HC1.out)⟩, HM1, HC2, HB4⟩
                    case measure => rw [(HRG1.out.kept HG.out (ne_owns HRG1.out.owns HC1.out) (ne_iter HRG1.out HC1.out)).left_eq, HRG.out.left_eq]; exact HLT.out
              · rw [if_neg c10] at H
                exact absurd H (by simp)

end Go.Proofs.Ytofdnjlcnpaecaa.P
