/- Factors, the reference's way, and its test of irreducible ones. No condition. -/
import Derived.Test.YtofdnjlcnpaecaaBr16
import Derived.Test.YtofdnjlcnpaecaaBr14
import Derived.Test.YtofdnjlcnpaecaaP7
set_option linter.unusedVariables false
namespace Go.Proofs.Ytofdnjlcnpaecaa.P
open Go.RowKit Go.Proofs.YtofdnjlcnpaecaaW.PrintWords Go.Proofs.YtofdnjlcnpaecaaW.PrintLast Go.Proofs.YtofdnjlcnpaecaaW.PrintMore
/-- two equal lists are told equal. -/
theorem factors_same {l : List S40} (hl : l.length < 1000000000000) : ∀ d i : Nat, i + d = l.length → Ev (fun k => outpostlaw02_factors.l0 k l l (i : Int)) true := by
  intro d
  induction d with
  | zero =>
    intro i h
    refine Ev.step (f := fun _ => some true) (fun k => ?_) (Ev.now _)
    simp only [outpostlaw02_factors.l0]
    rw [if_neg (by omega)]
  | succ d ih =>
    intro i h
    refine Ev.step (fun k => ?_) (ih (i + 1) (by omega))
    simp only [outpostlaw02_factors.l0]
    have e : wrap64 ((i : Int) + 1) = ((i + 1 : Nat) : Int) := by unfold wrap64; omega
    rw [if_pos (by omega), if_pos (by omega), if_pos (by omega), e]
    simp
theorem outpostlaw02_factors.same {l : List S40} (hl : l.length < 1000000000000) : Ev (fun k => outpostlaw02_factors.f k l l) true := by
  unfold outpostlaw02_factors.f
  exact Ev.pos rfl (factors_same hl l.length 0 (by omega))
theorem up_length : ∀ (l : List S40) (lo hi : Int), Up l → (∀ x ∈ l, lo ≤ x.f0 ∧ x.f0 < hi) → (l.length : Int) ≤ (if lo ≤ hi then hi - lo else 0)
  | [], lo, hi, _, _ => by simp; split <;> omega
  | x :: l, lo, hi, h, hb => by
    obtain ⟨h1, h2⟩ := List.pairwise_cons.1 h
    have h3 := up_length l (x.f0 + 1) hi h2 fun y hy => ⟨by have := h1 y hy; omega, (hb y (by simp [hy])).2⟩
    have h4 := hb x (by simp)
    rw [List.length_cons]
    split at h3 <;> split <;> omega
/-- the state of the reference's search, at the start of p. -/
structure GI (A a : Nat) (l : List S40) (p : Nat) : Prop where
  a0 : a ≠ 0
  A0 : A ≠ 0
  a32 : a.log2 ≤ 32
  up : Up l
  mem : ∀ x : S40, x ∈ l ↔ ∃ q : Nat, Gf.Irr q ∧ q < p ∧ Gf.Dvd q A ∧ x = ⟨(q : Int), ((Gf.val q A : Nat) : Int)⟩
  low : ∀ q, Gf.Irr q → q < p → ¬ Gf.Dvd q a
  rest : ∀ q, Gf.Irr q → p ≤ q → Gf.val q a = Gf.val q A
theorem GI.good {A : Nat} {l : List S40} {p : Nat} (h : GI A 1 l p) : Good A l := by
  refine ⟨h.up, fun x => ?_⟩
  rw [h.mem]
  constructor
  · rintro ⟨q, h1, _, h3, h4⟩; exact ⟨q, h1, h3, h4⟩
  · rintro ⟨q, h1, h3, h4⟩
    refine ⟨q, h1, ?_, h3, h4⟩
    by_cases hq : q < p
    · exact hq
    · have h5 := h.rest q h1 (by omega)
      rw [Gf.val_one h1.two] at h5
      have := (Gf.val_pos h1.two h.A0).2 h3
      omega
theorem GI.length {A a : Nat} {l : List S40} {p : Nat} (h : GI A a l p) (hp : p ≤ 8589934593) : l.length < 8796093022208 := by
  have h1 := up_length l 0 (p : Int) h.up fun x hx => by
    obtain ⟨q, _, h2, _, rfl⟩ := (h.mem x).1 hx
    exact ⟨Int.natCast_nonneg q, by show (q : Int) < p; omega⟩
  split at h1 <;> omega
/-- the state while p is taken out, n times so far. -/
structure GP (A a : Nat) (l : List S40) (p n : Nat) : Prop where
  a0 : a ≠ 0
  A0 : A ≠ 0
  a32 : a.log2 ≤ 32
  up : Up l
  mem : ∀ x : S40, x ∈ l ↔ ∃ q : Nat, Gf.Irr q ∧ q < p ∧ Gf.Dvd q A ∧ x = ⟨(q : Int), ((Gf.val q A : Nat) : Int)⟩
  low : ∀ q, Gf.Irr q → q < p → ¬ Gf.Dvd q a
  rest : ∀ q, Gf.Irr q → p < q → Gf.val q a = Gf.val q A
  here : Gf.Irr p → Gf.val p a + n = Gf.val p A
  irr : n ≠ 0 → Gf.Irr p
theorem GI.open {A a : Nat} {l : List S40} {p : Nat} (h : GI A a l p) : GP A a l p 0 :=
  ⟨h.a0, h.A0, h.a32, h.up, h.mem, h.low, fun q hq hl => h.rest q hq (by omega), fun hp => h.rest p hp (Nat.le_refl p), fun e => absurd rfl e⟩
theorem GP.out {A a : Nat} {l : List S40} {p n : Nat} (h : GP A a l p n) (h2 : 2 ≤ p) (hd : Gf.Dvd p a) : GP A (Gf.quo a p) l p (n + 1) ∧ Gf.quo a p < a ∧ Gf.Irr p := by
  have hirr := Gf.irr_next h2 hd h.low
  obtain ⟨q1, q2, q3⟩ := Gf.quo_lt h2 h.a0 hd
  have hl := Gf.log2_quo h2 h.a0 hd
  have ha := h.a32
  refine ⟨⟨q1, h.A0, by omega, h.up, h.mem, fun q hq hlt hd' => h.low q hq hlt (by rw [q3, Gf.mul_comm]; exact Gf.dvd_mul p hd'), fun q hq hlt => ?_, fun hp => ?_, fun _ => hirr⟩, q2, hirr⟩
  · have := Gf.val_split hq hirr h.a0 hd
    rw [if_neg (by omega)] at this
    have := h.rest q hq hlt
    omega
  · have := Gf.val_split hirr hirr h.a0 hd
    rw [if_pos rfl] at this
    have := h.here hp
    omega
theorem GP.shut_none {A a : Nat} {l : List S40} {p : Nat} (h : GP A a l p 0) (hd : ¬ (Gf.Irr p ∧ Gf.Dvd p a)) : GI A a l (p + 1) := by
  have hdA : ∀ hp : Gf.Irr p, ¬ Gf.Dvd p A := fun hp hA => by
    have h1 := h.here hp
    have h2 := (Gf.val_pos hp.two h.A0).2 hA
    exact hd ⟨hp, (Gf.val_pos hp.two h.a0).1 (by omega)⟩
  refine ⟨h.a0, h.A0, h.a32, h.up, fun x => ?_, fun q hq hlt => ?_, fun q hq hlt => h.rest q hq (by omega)⟩
  · rw [h.mem]
    constructor
    · rintro ⟨q, h1, h2, h3⟩; exact ⟨q, h1, by omega, h3⟩
    · rintro ⟨q, h1, h2, h3, h4⟩
      refine ⟨q, h1, ?_, h3, h4⟩
      by_cases e : q = p
      · subst e; exact absurd h3 (hdA h1)
      · omega
  · by_cases e : q = p
    · subst e; exact fun h1 => hd ⟨hq, h1⟩
    · exact h.low q hq (by omega)
theorem GP.shut_some {A a : Nat} {l : List S40} {p n : Nat} (h : GP A a l p n) (hn : n ≠ 0) (hd : ¬ Gf.Dvd p a) : GI A a (l ++ [⟨(p : Int), (n : Int)⟩]) (p + 1) := by
  have hp := h.irr hn
  have hv := h.here hp
  rw [Gf.val_of_not hd] at hv
  have hdA : Gf.Dvd p A := (Gf.val_pos hp.two h.A0).1 (by omega)
  refine ⟨h.a0, h.A0, h.a32, ?_, fun x => ?_, fun q hq hlt => ?_, fun q hq hlt => h.rest q hq (by omega)⟩
  · refine List.pairwise_append.2 ⟨h.up, by simp, fun x hx y hy => ?_⟩
    obtain ⟨q, _, h2, _, rfl⟩ := (h.mem x).1 hx
    rw [List.mem_singleton] at hy
    rw [hy]
    show (q : Int) < (p : Int); omega
  · rw [List.mem_append, h.mem, List.mem_singleton]
    constructor
    · rintro (⟨q, h1, h2, h3⟩ | rfl)
      · exact ⟨q, h1, by omega, h3⟩
      · refine ⟨p, hp, by omega, hdA, ?_⟩
        rw [S40.mk.injEq]; exact ⟨rfl, by omega⟩
    · rintro ⟨q, h1, h2, h3, h4⟩
      by_cases e : q = p
      · subst e
        right; rw [h4, S40.mk.injEq]; exact ⟨rfl, by omega⟩
      · left; exact ⟨q, h1, by omega, h3, h4⟩
  · by_cases e : q = p
    · subst e; exact hd
    · exact h.low q hq (by omega)
theorem GI.jump {A a : Nat} {l : List S40} {p : Nat} (h : GI A a l p) (ha : Gf.Irr a) : p ≤ a ∧ GI A a l a := by
  have hle : p ≤ a := by
    by_cases e : p ≤ a
    · exact e
    · exact absurd (Gf.dvd_refl a) (h.low a ha (by omega))
  refine ⟨hle, h.a0, h.A0, h.a32, h.up, fun x => ?_, fun q hq hlt hd => ?_, fun q hq hlt => h.rest q hq (by omega)⟩
  · rw [h.mem]
    constructor
    · rintro ⟨q, h1, h2, h3⟩; exact ⟨q, h1, by omega, h3⟩
    · rintro ⟨q, h1, h2, h3, h4⟩
      refine ⟨q, h1, ?_, h3, h4⟩
      by_cases e : q < p
      · exact e
      · have h5 := h.rest q h1 (by omega)
        rw [Gf.val_other h1 ha (by omega)] at h5
        have := (Gf.val_pos h1.two h.A0).2 h3
        omega
  · rcases ha.dvd hd with e | e
    · have := hq.two; omega
    · omega
/-- what stands behind the taking out of p. -/
theorem ref_shut {A a : Nat} {l : List S40} {p n : Nat} (h : GP A a l p n) (hd : ¬ (Gf.Irr p ∧ Gf.Dvd p a)) (hp : p ≤ 8589934592)
    (next : ∀ a l, GI A a l (p + 1) → ∃ r, Good A r ∧ Ev (fun k => outpostref02_Factor.l0 k (a : Int) l ((p + 1 : Nat) : Int)) (r, 0)) :
    ∃ r, Good A r ∧ Ev (fun k => if (n : Int) > 0 then (if l.length < 8796093022208 then (outpostref02_Factor.l0 k (a : Int) (l ++ [(⟨(p : Int), (n : Int)⟩ : S40)]) (IntKind.u64.wrap ((p : Int) + 1))) else none) else (outpostref02_Factor.l0 k (a : Int) l (IntKind.u64.wrap ((p : Int) + 1)))) (r, 0) := by
  have e : IntKind.u64.wrap ((p : Int) + 1) = ((p + 1 : Nat) : Int) := by rw [wrapu_int (by omega) (by omega)]; omega
  rw [e]
  by_cases hn : n = 0
  · subst hn
    obtain ⟨r, hg, he⟩ := next a l (h.shut_none hd)
    exact ⟨r, hg, Ev.neg (by omega) he⟩
  · obtain ⟨r, hg, he⟩ := next a _ (h.shut_some hn fun h1 => hd ⟨h.irr hn, h1⟩)
    refine ⟨r, hg, Ev.pos (by omega) (Ev.pos ?_ he)⟩
    have h1 := up_length l 0 (p : Int) h.up fun x hx => by
      obtain ⟨q, _, h2, _, rfl⟩ := (h.mem x).1 hx
      exact ⟨Int.natCast_nonneg q, by show (q : Int) < p; omega⟩
    split at h1 <;> omega
theorem outpostref02_Factor.ev_l1 {A p : Nat} (h2 : 2 ≤ p) (hp : p ≤ 8589934592) (next : ∀ a l, GI A a l (p + 1) → ∃ r, Good A r ∧ Ev (fun k => outpostref02_Factor.l0 k (a : Int) l ((p + 1 : Nat) : Int)) (r, 0)) (a : Nat) :
    ∀ l n, GP A a l p n → n + a.log2 ≤ 1000 → ∃ r, Good A r ∧ Ev (fun k => outpostref02_Factor.l1 k (a : Int) l (p : Int) (n : Int)) (r, 0) := by
  induction a using Nat.strongRecOn with
  | _ a ih =>
    intro l n h hna
    have ha := lt64_log2 h.a32
    have hst : ∀ k, outpostref02_Factor.l1 (k + 1) (a : Int) l (p : Int) (n : Int) = if (a : Int) = 1 then (if (n : Int) > 0 then (if l.length < 8796093022208 then (outpostref02_Factor.l0 k (a : Int) (l ++ [(⟨(p : Int), (n : Int)⟩ : S40)]) (IntKind.u64.wrap ((p : Int) + 1))) else (none)) else (outpostref02_Factor.l0 k (a : Int) l (IntKind.u64.wrap ((p : Int) + 1)))) else ((outpostref02_Rest.f k (a : Int) (p : Int)).bind fun t259 => (if t259 = 0 then ((outpostref02_Whole.f k 0 (a : Int) (p : Int)).bind fun bt260 => (outpostref02_Factor.l1 k bt260.1 l (p : Int) (wrap64 ((n : Int) + 1)))) else (if (n : Int) > 0 then (if l.length < 8796093022208 then (outpostref02_Factor.l0 k (a : Int) (l ++ [(⟨(p : Int), (n : Int)⟩ : S40)]) (IntKind.u64.wrap ((p : Int) + 1))) else (none)) else (outpostref02_Factor.l0 k (a : Int) l (IntKind.u64.wrap ((p : Int) + 1)))))) := by
      intro k; simp only [outpostref02_Factor.l1]
    by_cases h1 : a = 1
    · obtain ⟨r, hg, he⟩ := ref_shut h (fun hd => hd.1.not_one (h1 ▸ hd.2)) hp next
      exact ⟨r, hg, Ev.step hst (Ev.pos (by omega) he)⟩
    · have hq := outpostref02_Rest.ev (x := a) (b := p) (by omega) (by omega) (by omega)
      by_cases hd : Gf.Dvd p a
      · obtain ⟨h3, h4, h5⟩ := h.out h2 hd
        have hr : Gf.rem a p = 0 := (Gf.dvd_iff_rem (by omega)).1 hd
        have hl := Gf.log2_quo h2 h.a0 hd
        have hp1 := Gf.log2_pos h2
        obtain ⟨r, hg, he⟩ := ih _ h4 l (n + 1) h3 (by omega)
        refine ⟨r, hg, Ev.step hst (Ev.neg (by omega) (Ev.bind hq (Ev.pos ?_ (Ev.bind (whole0 (l := a) (b := p) (by omega) (by omega) (by omega)) ?_))))⟩
        · rw [hr]; rfl
        · have e : wrap64 ((n : Int) + 1) = ((n + 1 : Nat) : Int) := by unfold wrap64; omega
          rw [e]; exact he
      · have hr : Gf.rem a p ≠ 0 := fun e => hd ((Gf.dvd_iff_rem (by omega)).2 e)
        obtain ⟨r, hg, he⟩ := ref_shut h (fun k => hd k.2) hp next
        exact ⟨r, hg, Ev.step hst (Ev.neg (by omega) (Ev.bind hq (Ev.neg (by omega) he)))⟩
theorem outpostref02_Factor.ev_l0 {A : Nat} : ∀ d p : Nat, 8589934593 ≤ p + d → 2 ≤ p → p ≤ 8589934593 → ∀ a l, GI A a l p → ∃ r, Good A r ∧ Ev (fun k => outpostref02_Factor.l0 k (a : Int) l (p : Int)) (r, 0) := by
  intro d
  induction d using Nat.strongRecOn with
  | _ d ih =>
    intro p hpd h2 hp a l h
    have ha := lt64_log2 h.a32
    have hda := outpostref02_Degree.ev (a := a) (by omega)
    have hdp := outpostref02_Degree.ev (a := p) (by omega)
    rw [dg_pos h.a0] at hda
    rw [dg_pos (by omega)] at hdp
    have hst : ∀ k, outpostref02_Factor.l0 (k + 1) (a : Int) l (p : Int) = (outpostref02_Degree.f k (a : Int)).bind fun t253 => (if t253 > 0 then ((outpostref02_Degree.f k (p : Int)).bind fun t254 => ((outpostref02_Degree.f k (a : Int)).bind fun t255 => (if (wrap64 (2 * t254)) > t255 then (outpostref02_Factor.j1 k (a : Int) l (a : Int)) else (outpostref02_Factor.j1 k (a : Int) l (p : Int))))) else (some (l, 0))) := by
      intro k; simp only [outpostref02_Factor.l0]
    by_cases h1 : a = 1
    · subst h1
      refine ⟨l, h.good, Ev.step hst (Ev.bind hda (Ev.neg ?_ (Ev.now _)))⟩
      rw [show Nat.log2 1 = 0 by decide]; decide
    · have hl1 := Gf.log2_pos (show 2 ≤ a by have := h.a0; omega)
      have hlp := log2_le63 (show p ≠ 0 by omega) (by omega)
      have hw : wrap64 (2 * (p.log2 : Int)) = 2 * (p.log2 : Int) := by unfold wrap64; omega
      -- the inner search, at p'
      have inner : ∀ p' : Nat, p ≤ p' → 2 ≤ p' → p' ≤ 8589934592 → GI A a l p' → ∃ r, Good A r ∧ Ev (fun k => outpostref02_Factor.j1 k (a : Int) l (p' : Int)) (r, 0) := by
        intro p' hpp h2' hp' h'
        have ha32 := h.a32
        obtain ⟨r, hg, he⟩ := outpostref02_Factor.ev_l1 (A := A) h2' hp' (fun a l hh => ih (8589934593 - (p' + 1)) (by omega) (p' + 1) (by omega) (by omega) (by omega) a l hh) a l 0 h'.open (by omega)
        refine ⟨r, hg, Ev.step (fun k => ?_) he⟩
        simp only [outpostref02_Factor.j1]; rfl
      by_cases hc : a.log2 < 2 * p.log2
      · have hirr := Gf.irr_last (by have := h.a0; omega) h.low hc
        obtain ⟨hle, hj⟩ := h.jump hirr
        obtain ⟨r, hg, he⟩ := inner a hle (by omega) (by omega) hj
        exact ⟨r, hg, Ev.step hst (Ev.bind hda (Ev.pos (by omega) (Ev.bind hdp (Ev.bind hda (Ev.pos (by rw [hw]; omega) he)))))⟩
      · have ha32 := h.a32
        have hp17 : p < 131072 := log2_le_of_lt (n := 17) (by omega) (by omega)
        obtain ⟨r, hg, he⟩ := inner p (Nat.le_refl p) h2 (by omega) h
        exact ⟨r, hg, Ev.step hst (Ev.bind hda (Ev.pos (by omega) (Ev.bind hdp (Ev.bind hda (Ev.neg (by rw [hw]; omega) he)))))⟩
theorem outpostref02_Factor.ev {A : Nat} (h0 : A ≠ 0) (h32 : A.log2 ≤ 32) : ∃ r, Good A r ∧ Ev (fun k => outpostref02_Factor.f k (A : Int)) (r, 0) := by
  have hA := lt64_log2 h32
  have hgi : GI A A [] 2 := ⟨h0, h0, h32, List.Pairwise.nil, fun x => by
      constructor
      · intro h; simp at h
      · rintro ⟨q, h1, h2, _⟩; have := h1.two; omega, fun q hq hlt => by have := hq.two; omega, fun q _ _ => rfl⟩
  obtain ⟨r, hg, he⟩ := outpostref02_Factor.ev_l0 (A := A) 8589934593 2 (by omega) (by omega) (by omega) A [] hgi
  refine ⟨r, hg, ?_⟩
  have hd := outpostref02_Degree.ev (a := A) (by omega)
  rw [dg_pos h0] at hd
  unfold outpostref02_Factor.f
  exact Ev.neg (cast_ne h0) (Ev.bind hd (Ev.neg (by omega) he))
theorem outpostref02_Factor.zero : Ev (fun k => outpostref02_Factor.f k ((0 : Nat) : Int)) ([], 20) := Ev.all fun k => by unfold outpostref02_Factor.f; rw [if_pos (show ((0 : Nat) : Int) = 0 from rfl)]
theorem outpostref02_Factor.long {A : Nat} (h0 : A ≠ 0) (hA : A < 18446744073709551616) (h32 : 32 < A.log2) : Ev (fun k => outpostref02_Factor.f k (A : Int)) ([], 21) := by
  have hd := outpostref02_Degree.ev (a := A) (by omega)
  rw [dg_pos h0] at hd
  unfold outpostref02_Factor.f
  exact Ev.neg (cast_ne h0) (Ev.bind hd (Ev.pos (by omega) (Ev.now _)))
theorem Good.length {A : Nat} {r : List S40} (h : Good A r) (h0 : A ≠ 0) (h32 : A.log2 ≤ 32) : r.length ≤ 8589934592 := by
  have hA := lt64_log2 h32
  have h1 := up_length r 0 8589934592 h.up fun x hx => by
    obtain ⟨q, _, h2, rfl⟩ := (h.mem x).1 hx
    have := Gf.le_of_dvd h0 h2
    exact ⟨Int.natCast_nonneg q, by show (q : Int) < _; omega⟩
  split at h1 <;> omega
/-- one factor, once: the polynomial is irreducible. -/
theorem Good.single {A : Nat} {r : List S40} (h : Good A r) (h2 : 2 ≤ A) : (r.length = 1 ∧ (rd_T40 r 0).f1 = 1) ↔ Gf.Irr A := by
  have h0 : A ≠ 0 := by omega
  constructor
  · rintro ⟨h3, h4⟩
    obtain ⟨x, rfl⟩ := List.length_eq_one_iff.1 h3
    obtain ⟨q, hq, hd, e⟩ := (h.mem x).1 (by simp)
    have hv : Gf.val q A = 1 := by
      have : (rd_T40 [x] 0).f1 = x.f1 := rfl
      rw [this, e] at h4
      simp only at h4; omega
    have : A = q := by
      refine Gf.eq_of_val A q h0 hq.ne fun s hs => ?_
      by_cases e2 : s = q
      · subst e2; rw [hv, Gf.val_self hs.two]
      · rw [Gf.val_other hs hq e2]
        refine Gf.val_of_not fun hds => e2 ?_
        have h5 := (h.mem ⟨(s : Int), ((Gf.val s A : Nat) : Int)⟩).2 ⟨s, hs, hds, rfl⟩
        rw [List.mem_singleton, e, S40.mk.injEq] at h5
        omega
    rw [this]; exact hq
  · intro hA
    have h3 : ∀ x : S40, x ∈ r ↔ x = ⟨(A : Int), 1⟩ := by
      intro x
      rw [h.mem]
      constructor
      · rintro ⟨q, hq, hd, e⟩
        rcases hA.dvd hd with e2 | e2
        · have := hq.two; omega
        · subst e2; rw [e, Gf.val_self h2]; rfl
      · rintro rfl
        exact ⟨A, hA, Gf.dvd_refl A, by rw [Gf.val_self h2]; rfl⟩
    have h4 : r = [⟨(A : Int), 1⟩] := up_ext _ _ h.up (List.pairwise_singleton _ _) fun x => by rw [h3, List.mem_singleton]
    rw [h4]; exact ⟨rfl, rfl⟩
theorem outpostref02_Irreducible.ev {a : Nat} (h2 : 2 ≤ a) (h32 : a.log2 ≤ 32) : ∃ t : Bool, Ev (fun k => outpostref02_Irreducible.f k (a : Int)) (t, 0) ∧ (t = true ↔ Gf.Irr a) := by
  have ha := lt64_log2 h32
  have h0 : a ≠ 0 := by omega
  have hd := outpostref02_Degree.ev (a := a) (by omega)
  have hl := Gf.log2_pos h2
  rw [dg_pos h0] at hd
  obtain ⟨r, hg, he⟩ := outpostref02_Factor.ev h0 h32
  have hs := hg.single h2
  by_cases h1 : r.length = 1
  · refine ⟨(rd_T40 r 0).f1 == 1, ?_, ?_⟩
    · unfold outpostref02_Irreducible.f
      exact Ev.bind hd (Ev.neg (by omega) (Ev.bind hd (Ev.neg (by omega) (Ev.bind he (Ev.pos (show (r.length : Int) = 1 by omega) (Ev.pos (show 0 < (r.length : Int) by omega) (Ev.now _)))))))
    · rw [beq_iff_eq, ← hs]; exact ⟨fun e => ⟨h1, e⟩, fun e => e.2⟩
  · refine ⟨false, ?_, ?_⟩
    · unfold outpostref02_Irreducible.f
      exact Ev.bind hd (Ev.neg (by omega) (Ev.bind hd (Ev.neg (by omega) (Ev.bind he (Ev.neg (show ¬ (r.length : Int) = 1 by omega) (Ev.now _))))))
    · rw [← hs]; exact ⟨fun e => absurd e (by decide), fun e => absurd e.1 h1⟩
theorem outpostref02_Irreducible.bad {a : Nat} (h : ¬ (2 ≤ a ∧ a.log2 ≤ 32)) (ha64 : a < 18446744073709551616) : Ev (fun k => outpostref02_Irreducible.f k (a : Int)) (false, 21) := by
  have hd := outpostref02_Degree.ev ha64
  unfold outpostref02_Irreducible.f
  refine Ev.bind hd ?_
  by_cases h2 : 2 ≤ a
  · have h1 := Gf.log2_pos h2
    have hd2 := dg_pos (show a ≠ 0 by omega)
    exact Ev.neg (by omega) (Ev.bind hd (Ev.pos (by omega) (Ev.now _)))
  · refine Ev.pos ?_ (Ev.now _)
    obtain rfl | rfl : a = 0 ∨ a = 1 := by omega
    · decide
    · unfold dg; rw [if_neg (by decide), show Nat.log2 1 = 0 by decide]; decide
end Go.Proofs.Ytofdnjlcnpaecaa.P
