/- Factors: what the program and the reference compute. No condition. -/
import Derived.Test.YtofdnjlcnpaecaaBr15
import Derived.Test.YtofdnjlcnpaecaaGf
import Derived.Test.YtofdnjlcnpaecaaP6
set_option linter.unusedVariables false
namespace Go.Proofs.Ytofdnjlcnpaecaa.P
open Go.RowKit Go.Proofs.YtofdnjlcnpaecaaW.PrintWords Go.Proofs.YtofdnjlcnpaecaaW.PrintLast Go.Proofs.YtofdnjlcnpaecaaW.PrintMore
/-- the list of the irreducible factors, rising, each with how often it divides. -/
structure Good (A : Nat) (r : List S40) : Prop where
  up : Up r
  mem : ∀ x : S40, x ∈ r ↔ ∃ q : Nat, Gf.Irr q ∧ Gf.Dvd q A ∧ x = ⟨(q : Int), ((Gf.val q A : Nat) : Int)⟩
theorem Good.eq {A : Nat} {r s : List S40} (h : Good A r) (k : Good A s) : r = s := up_ext r s h.up k.up fun x => by rw [h.mem, k.mem]
def wsum : List (Int × Int) → Nat
  | [] => 0
  | x :: l => x.1.toNat.log2 + wsum l
theorem wsum_bump (l : List (Int × Int)) (p : Int) : wsum (fac_bump l p) ≤ wsum l + p.toNat.log2 := by
  induction l with
  | nil => simp [fac_bump, wsum]
  | cons x l ih =>
    obtain ⟨q, n⟩ := x
    unfold fac_bump
    split
    · simp [wsum]
    · simp only [wsum]; omega
theorem mem_bump (l : List (Int × Int)) (p : Int) (x : Int × Int) (h : x ∈ fac_bump l p) : x ∈ l ∨ x.1 = p := by
  induction l with
  | nil => simp [fac_bump] at h; right; rw [h]
  | cons y l ih =>
    obtain ⟨q, n⟩ := y
    unfold fac_bump at h
    split at h
    · rename_i e
      rcases List.mem_cons.1 h with h | h
      · right; rw [h]; exact e
      · left; simp [h]
    · rcases List.mem_cons.1 h with h | h
      · left; rw [h]; simp
      · rcases ih h with h | h
        · left; simp [h]
        · right; exact h
/-- the state of the program's search. -/
structure FI (A a : Nat) (l : List (Int × Int)) : Prop where
  a0 : a ≠ 0
  A0 : A ≠ 0
  A32 : A.log2 ≤ 32
  nod : l.Pairwise fun x y => x.1 ≠ y.1
  keys : ∀ x ∈ l, ∃ q : Nat, Gf.Irr q ∧ x.1 = (q : Int)
  cnt : ∀ q, Gf.Irr q → fac_look l (q : Int) + ((Gf.val q a : Nat) : Int) = ((Gf.val q A : Nat) : Int)
  wt : wsum l + a.log2 ≤ 32
theorem FI.short {A a : Nat} {l : List (Int × Int)} (h : FI A a l) : l.length ≤ 11 := by
  have h1 : ∀ l : List (Int × Int), Gf.degs (l.map fun x => x.1.toNat) = wsum l := by
    intro l
    induction l with
    | nil => rfl
    | cons x l ih => show x.1.toNat.log2 + Gf.degs (l.map fun x => x.1.toNat) = x.1.toNat.log2 + wsum l; rw [ih]
  have h2 := Gf.few_irr (l := l.map fun x => x.1.toNat) ?_ ?_ (by rw [h1]; have := h.wt; omega)
  · simpa using h2
  · rw [List.Nodup, List.pairwise_map]
    refine List.Pairwise.imp_of_mem (fun {x y} hx hy hne => ?_) h.nod
    obtain ⟨q, _, e1⟩ := h.keys x hx
    obtain ⟨q', _, e2⟩ := h.keys y hy
    intro e; apply hne; omega
  · intro y hy
    obtain ⟨x, hx, rfl⟩ := List.mem_map.1 hy
    obtain ⟨q, hq, e⟩ := h.keys x hx
    rw [e]; exact hq
theorem FI.bump {A a p : Nat} {l : List (Int × Int)} (h : FI A a l) (hp : Gf.Irr p) (hd : Gf.Dvd p a) : FI A (Gf.quo a p) (fac_bump l (p : Int)) := by
  obtain ⟨h1, h2, h3⟩ := Gf.quo_lt hp.two h.a0 hd
  refine ⟨h1, h.A0, h.A32, fac_bump_nodup l p h.nod, fun x hx => ?_, fun q hq => ?_, ?_⟩
  · rcases mem_bump l p x hx with h4 | h4
    · exact h.keys x h4
    · exact ⟨p, hp, h4⟩
  · have hc := h.cnt q hq
    have hs := Gf.val_split hq hp h.a0 hd
    have hb := Gf.val_le hq.two A h.A0
    have hb2 := Gf.val_le hq.two a h.a0
    have hA := h.A32
    have hw2 := h.wt
    by_cases e : q = p
    · subst e
      rw [fac_look_bump_same]
      rw [if_pos rfl] at hs
      have : wrap64 (fac_look l (q : Int) + 1) = fac_look l (q : Int) + 1 := by unfold wrap64; omega
      omega
    · rw [fac_look_bump_other l p q (by omega)]
      rw [if_neg e] at hs
      omega
  · have := wsum_bump l (p : Int)
    have hl := Gf.log2_quo hp.two h.a0 hd
    have hw := h.wt
    rw [Int.toNat_natCast] at this
    omega
theorem FI.pos_of_mem {A a : Nat} {l : List (Int × Int)} (h : FI A a l) {q : Nat} {n : Int} (hm : ((q : Int), n) ∈ l) : n = fac_look l (q : Int) := (fac_look_mem l h.nod _ _ hm).symm
theorem fac_look_has (l : List (Int × Int)) (p : Int) (h : fac_look l p ≠ 0) : (p, fac_look l p) ∈ l := by
  induction l with
  | nil => simp [fac_look] at h
  | cons y l ih =>
    obtain ⟨q, n⟩ := y
    unfold fac_look at h ⊢
    split
    · rename_i e; subst e; simp
    · rename_i e; rw [if_neg e] at h; simp [ih h]
/-- the counts stand at 1 or more. -/
def Pos (l : List (Int × Int)) : Prop := ∀ x ∈ l, 1 ≤ x.2
theorem Pos.bump {l : List (Int × Int)} {p : Int} (h : Pos l) (hb : ∀ x ∈ l, x.2 ≤ 1000) : Pos (fac_bump l p) := by
  induction l with
  | nil => intro x hx; simp [fac_bump] at hx; rw [hx]; exact Int.le_refl 1
  | cons y l ih =>
    obtain ⟨q, n⟩ := y
    have h1 := h (q, n) (by simp)
    have h2 := hb (q, n) (by simp)
    intro x hx
    unfold fac_bump at hx
    split at hx
    · rcases List.mem_cons.1 hx with e | e
      · rw [e]; show 1 ≤ wrap64 (n + 1); unfold wrap64; simp only at h1 h2; omega
      · exact h x (by simp [e])
    · rcases List.mem_cons.1 hx with e | e
      · rw [e]; exact h1
      · exact ih (fun y hy => h y (by simp [hy])) (fun y hy => hb y (by simp [hy])) x e
theorem FI.small {A a : Nat} {l : List (Int × Int)} (h : FI A a l) : ∀ x ∈ l, x.2 ≤ 1000 := fun x hx => by
  obtain ⟨q, hq, e⟩ := h.keys x hx
  obtain ⟨x1, x2⟩ := x
  simp only at e
  subst e
  have h1 := h.pos_of_mem hx
  have h2 := h.cnt q hq
  have h3 := Gf.val_le hq.two A h.A0
  have h4 := h.A32
  show x2 ≤ 1000
  omega
theorem FI.good {A : Nat} {l : List (Int × Int)} (h : FI A 1 l) (hp : Pos l) : Good A (fac_sort l) := by
  refine ⟨fac_sort_up l h.nod, fun x => ?_⟩
  rw [fac_sort_mem]
  constructor
  · intro hm
    obtain ⟨q, hq, e⟩ := h.keys _ hm
    obtain ⟨x0, x1⟩ := x
    simp only at e hm
    subst e
    have h1 := h.pos_of_mem hm
    have h2 := h.cnt q hq
    have h3 := hp _ hm
    rw [Gf.val_one hq.two] at h2
    simp only at h3
    refine ⟨q, hq, (Gf.val_pos hq.two h.A0).1 (by omega), ?_⟩
    rw [S40.mk.injEq]; exact ⟨rfl, by omega⟩
  · rintro ⟨q, hq, hd, rfl⟩
    have h1 := (Gf.val_pos hq.two h.A0).2 hd
    have h2 := h.cnt q hq
    rw [Gf.val_one hq.two] at h2
    have h3 := fac_look_has l (q : Int) (by omega)
    rw [show fac_look l (q : Int) = ((Gf.val q A : Nat) : Int) by omega] at h3
    exact h3
theorem quo_self {a : Nat} (ha : a ≠ 0) : Gf.quo a a = 1 := by
  have := Gf.quo_mul (a := 1) ha
  rwa [Gf.one_mul] at this
theorem lt64_log2 {a : Nat} (h : a.log2 ≤ 32) : a < 8589934592 := by
  by_cases h0 : a = 0
  · subst h0; decide
  · exact (Gf.log2_lt h0 (n := 33)).1 (by omega)
theorem log2_le_of_lt {p : Nat} (hp : p ≠ 0) {n : Nat} (h : p.log2 < n) : p < 2 ^ n := (Gf.log2_lt hp).1 h
theorem poly_Factor.ev_end {A a : Nat} {l : List (Int × Int)} {p : Nat} (h : FI A a l) (hp : Pos l) (hl : ∀ q, Gf.Irr q → q < p → ¬ Gf.Dvd q a) (hpa : a.log2 < 2 * p.log2) (h2 : 2 ≤ p) (hp64 : p < 18446744073709551616) :
    ∃ r, Good A r ∧ Ev (fun k => poly_Factor.l0 k (a : Int) l (p : Int)) (r, 0) := by
  have ha := lt64_log2 (show a.log2 ≤ 32 by have := h.wt; omega)
  have hd := poly_Degree.ev (a := a) (by omega)
  have hq := poly_Degree.ev hp64
  rw [dg_pos h.a0] at hd
  rw [dg_pos (by omega)] at hq
  have hlp := log2_le63 (show p ≠ 0 by omega) hp64
  have hw : ¬ wrap64 (2 * (p.log2 : Int)) ≤ (a.log2 : Int) := by unfold wrap64; omega
  have hs := h.short
  by_cases h1 : a = 1
  · subst h1
    refine ⟨_, h.good hp, ?_⟩
    refine Ev.step (f := fun k => (poly_Degree.f k (p : Int)).bind fun t => ((poly_Degree.f k ((1 : Nat) : Int)).bind fun u => (if (wrap64 (2 * t)) ≤ u then (poly_Factor.l1 k ((1 : Nat) : Int) l (p : Int)) else (if ((1 : Nat) : Int) = 1 then (fac_fin l) else (if 0 ≤ ((1 : Nat) : Int) ∧ ((1 : Nat) : Int) ≤ 18446744073709551615 ∧ l.length ≤ 12 then (fac_fin (fac_bump l ((1 : Nat) : Int))) else none))))) (fun k => ?_) ?_
    · simp only [poly_Factor.l0]
    · refine Ev.bind hq (Ev.bind hd (Ev.neg hw (Ev.pos rfl ?_)))
      unfold fac_fin
      rw [if_pos (by omega)]
      exact Ev.now _
  · have hirr := Gf.irr_last (by have := h.a0; omega) hl hpa
    have h' := h.bump hirr (Gf.dvd_refl a)
    rw [quo_self h.a0] at h'
    have hs' := h'.short
    refine ⟨_, h'.good (hp.bump h.small), ?_⟩
    refine Ev.step (f := fun k => (poly_Degree.f k (p : Int)).bind fun t => ((poly_Degree.f k (a : Int)).bind fun u => (if (wrap64 (2 * t)) ≤ u then (poly_Factor.l1 k (a : Int) l (p : Int)) else (if (a : Int) = 1 then (fac_fin l) else (if 0 ≤ (a : Int) ∧ (a : Int) ≤ 18446744073709551615 ∧ l.length ≤ 12 then (fac_fin (fac_bump l (a : Int))) else none))))) (fun k => ?_) ?_
    · simp only [poly_Factor.l0]
    · refine Ev.bind hq (Ev.bind hd (Ev.neg hw (Ev.neg (by omega) (Ev.pos ⟨by omega, by omega, by omega⟩ ?_))))
      unfold fac_fin
      rw [if_pos (by omega)]
      exact Ev.now _
theorem poly_Factor.ev_l1 {A p : Nat} (h2 : 2 ≤ p) (hp17 : p < 131072) (next : ∀ a l, FI A a l → Pos l → (∀ q, Gf.Irr q → q < p + 1 → ¬ Gf.Dvd q a) → ∃ r, Good A r ∧ Ev (fun k => poly_Factor.l0 k (a : Int) l ((p + 1 : Nat) : Int)) (r, 0)) (a : Nat) :
    ∀ l, FI A a l → Pos l → (∀ q, Gf.Irr q → q < p → ¬ Gf.Dvd q a) → ∃ r, Good A r ∧ Ev (fun k => poly_Factor.l1 k (a : Int) l (p : Int)) (r, 0) := by
  induction a using Nat.strongRecOn with
  | _ a ih =>
    intro l h hp hl
    have ha := lt64_log2 (show a.log2 ≤ 32 by have := h.wt; omega)
    have hq := long0 (l := a) (b := p) (by omega) (by omega) (by omega)
    by_cases hd : Gf.Dvd p a
    · have hirr := Gf.irr_next h2 hd hl
      obtain ⟨q1, q2, q3⟩ := Gf.quo_lt h2 h.a0 hd
      have hr : Gf.rem a p = 0 := (Gf.dvd_iff_rem (by omega)).1 hd
      have hl' : ∀ q, Gf.Irr q → q < p → ¬ Gf.Dvd q (Gf.quo a p) := fun q hq hlt hd' => hl q hq hlt (by rw [q3, Gf.mul_comm]; exact Gf.dvd_mul p hd')
      have hs := h.short
      obtain ⟨r, hg, he⟩ := ih _ q2 (fac_bump l (p : Int)) (h.bump hirr hd) (hp.bump h.small) hl'
      refine ⟨r, hg, ?_⟩
      refine Ev.step (f := fun k => (poly_long.f k 0 (a : Int) (p : Int)).bind fun b => (if b.2 = 0 then (if 0 ≤ (p : Int) ∧ (p : Int) ≤ 18446744073709551615 ∧ l.length ≤ 12 then (poly_Factor.l1 k b.1 (fac_bump l (p : Int)) (p : Int)) else none) else (poly_Factor.l0 k (a : Int) l (IntKind.u64.wrap ((p : Int) + 1))))) (fun k => ?_) ?_
      · simp only [poly_Factor.l1]
      · refine Ev.bind hq (Ev.pos ?_ (Ev.pos ⟨by omega, by omega, by omega⟩ he))
        show ((Gf.rem a p : Nat) : Int) = 0
        rw [hr]; rfl
    · have hr : Gf.rem a p ≠ 0 := fun e => hd ((Gf.dvd_iff_rem (by omega)).2 e)
      obtain ⟨r, hg, he⟩ := next a l h hp fun q hq hlt => by
        by_cases e : q = p
        · rw [e]; exact hd
        · exact hl q hq (by omega)
      refine ⟨r, hg, ?_⟩
      refine Ev.step (f := fun k => (poly_long.f k 0 (a : Int) (p : Int)).bind fun b => (if b.2 = 0 then (if 0 ≤ (p : Int) ∧ (p : Int) ≤ 18446744073709551615 ∧ l.length ≤ 12 then (poly_Factor.l1 k b.1 (fac_bump l (p : Int)) (p : Int)) else none) else (poly_Factor.l0 k (a : Int) l (IntKind.u64.wrap ((p : Int) + 1))))) (fun k => ?_) ?_
      · simp only [poly_Factor.l1]
      · refine Ev.bind hq (Ev.neg ?_ ?_)
        · show ¬ ((Gf.rem a p : Nat) : Int) = 0; omega
        · have e : IntKind.u64.wrap ((p : Int) + 1) = ((p + 1 : Nat) : Int) := by rw [wrapu_int (by omega) (by omega)]; omega
          rw [e]; exact he
theorem poly_Factor.ev_l0 {A : Nat} : ∀ d p : Nat, 131072 ≤ p + d → 2 ≤ p → p < 18446744073709551615 → ∀ a l, FI A a l → Pos l → (∀ q, Gf.Irr q → q < p → ¬ Gf.Dvd q a) → ∃ r, Good A r ∧ Ev (fun k => poly_Factor.l0 k (a : Int) l (p : Int)) (r, 0) := by
  intro d
  induction d with
  | zero =>
    intro p hp h2 h64 a l h hps hl
    refine poly_Factor.ev_end h hps hl ?_ h2 (by omega)
    have h1 := Gf.log2_mono (show 131072 ≤ p by omega)
    rw [show Nat.log2 131072 = 17 by decide +kernel] at h1
    have := h.wt; omega
  | succ d ih =>
    intro p hp h2 h64 a l h hps hl
    by_cases hc : a.log2 < 2 * p.log2
    · exact poly_Factor.ev_end h hps hl hc h2 (by omega)
    · have ha := lt64_log2 (show a.log2 ≤ 32 by have := h.wt; omega)
      have hw := h.wt
      have hp17 : p < 131072 := log2_le_of_lt (n := 17) (by omega) (by omega)
      obtain ⟨r, hg, he⟩ := poly_Factor.ev_l1 h2 hp17 (fun a l h hps hl => ih (p + 1) (by omega) (by omega) (by omega) a l h hps hl) a l h hps hl
      refine ⟨r, hg, ?_⟩
      have hd := poly_Degree.ev (a := a) (by omega)
      have hq := poly_Degree.ev (a := p) (by omega)
      rw [dg_pos h.a0] at hd
      rw [dg_pos (by omega)] at hq
      refine Ev.step (f := fun k => (poly_Degree.f k (p : Int)).bind fun t => ((poly_Degree.f k (a : Int)).bind fun u => (if (wrap64 (2 * t)) ≤ u then (poly_Factor.l1 k (a : Int) l (p : Int)) else (if (a : Int) = 1 then (fac_fin l) else (if 0 ≤ (a : Int) ∧ (a : Int) ≤ 18446744073709551615 ∧ l.length ≤ 12 then (fac_fin (fac_bump l (a : Int))) else none))))) (fun k => ?_) ?_
      · simp only [poly_Factor.l0]
      · refine Ev.bind hq (Ev.bind hd (Ev.pos ?_ he))
        unfold wrap64; omega
theorem poly_Factor.ev {A : Nat} (h0 : A ≠ 0) (h32 : A.log2 ≤ 32) : ∃ r, Good A r ∧ Ev (fun k => poly_Factor.f k (A : Int)) (r, 0) := by
  have hA := lt64_log2 h32
  have hfi : FI A A [] := ⟨h0, h0, h32, List.Pairwise.nil, by simp, fun q hq => by simp [fac_look], by simpa [wsum] using h32⟩
  obtain ⟨r, hg, he⟩ := poly_Factor.ev_l0 (A := A) 131072 2 (by omega) (by omega) (by omega) A [] hfi (by intro x hx; simp at hx) fun q hq hlt => by have := hq.two; omega
  refine ⟨r, hg, ?_⟩
  have hd := poly_Degree.ev (a := A) (by omega)
  rw [dg_pos h0] at hd
  unfold poly_Factor.f
  exact Ev.neg (cast_ne h0) (Ev.bind hd (Ev.neg (by omega) he))
theorem poly_Factor.zero : Ev (fun k => poly_Factor.f k ((0 : Nat) : Int)) ([], 20) := Ev.all fun k => by unfold poly_Factor.f; rw [if_pos (show ((0 : Nat) : Int) = 0 from rfl)]
theorem poly_Factor.long {A : Nat} (h0 : A ≠ 0) (hA : A < 18446744073709551616) (h32 : 32 < A.log2) : Ev (fun k => poly_Factor.f k (A : Int)) ([], 21) := by
  have hd := poly_Degree.ev (a := A) (by omega)
  rw [dg_pos h0] at hd
  unfold poly_Factor.f
  exact Ev.neg (cast_ne h0) (Ev.bind hd (Ev.pos (by omega) (Ev.now _)))
end Go.Proofs.Ytofdnjlcnpaecaa.P
